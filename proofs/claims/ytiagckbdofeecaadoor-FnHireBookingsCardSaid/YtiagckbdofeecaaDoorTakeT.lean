/-
  A region that draws its order and stores into the cell that it loads: the load may be taken first, for what waits for it is not there yet. No condition but what stands at each.
-/
import Derived.Test.YtiagckbdofeecaaDoorMgA
import Derived.StillTail
import Derived.Deep.RegionHeld3
namespace Go.Proofs.YtiagckbdofeecaaDoor
open Go
section
variable {P : Program} {ops : Array Oper} {Q : Exit → Act → World → Prop} {md : Region.Mode} {C : World → Prop} {app : Nat}
/-- whatever order is picked from here on, and C holds behind every operation as long as number app is not listed -/
def wpAnyT (P : Program) (md : Region.Mode) (ops : Array Oper) (Q : Exit → Act → World → Prop) (C : World → Prop) (app : Nat) : Nat → Array Bool → Act → World → Prop
  | 0, listed, a, w => Region.ready md ops listed = [] ∧ Q .normal a w
  | fuel + 1, listed, a, w =>
    (Region.ready md ops listed = [] → Q .normal a w) ∧
    ∀ i ∈ Region.ready md ops listed, wpOp P ops Q i (fun a' w' => ((listed.setIfInBounds i true).getD app true = false → C w') ∧ wpAnyT P md ops Q C app fuel (listed.setIfInBounds i true) a' w') a w
theorem wpAny_of_T : ∀ (fuel : Nat) (listed : Array Bool) (a : Act) (w : World), wpAnyT P md ops Q C app fuel listed a w → wpAny P md ops Q fuel listed a w
  | 0, _, _, _, h => h
  | fuel + 1, _, _, _, h => ⟨h.1, fun i hi => wpOp_mono (fun a' w' h' => wpAny_of_T fuel _ a' w' h'.2) (h.2 i hi)⟩
theorem wpAnyT_first {S : World → Prop} {Inv : Array Bool → Prop} {i : Nat} {oi : Oper} {v : Value} (hi : ops[i]? = some oi) (hsel : ∀ (j : Nat) (o : Oper) cs b, ops[j]? = some o → o.op ≠ .select cs b)
    (hQ : ∀ c a w, Q (.panic c) (a.put oi.dst v) w → Q (.panic c) a w) (hia : i ≠ app)
    (hCS : ∀ listed w, Inv listed → (listed.getD app true = false → C w) → S w) (hInv : ∀ listed j, Inv listed → listed.getD i true = false → j ≠ i → j ∈ Region.ready md ops listed → Inv (listed.setIfInBounds j true)) :
    ∀ (fuel : Nat) (listed : Array Bool) (a : Act) (w : World),
      (∀ j oj, ops[j]? = some oj → j ≠ i → listed.getD j true = false → (∀ e ∈ oj.after, Region.binds md e = true → e.on ≠ i) → oi.apart ops oj = true) →
      i ∈ Region.ready md ops listed → Inv listed → YieldsIf P ops S oi v a → (listed.getD app true = false → C w) →
      wpAnyT P md ops Q C app fuel (listed.setIfInBounds i true) (a.put oi.dst v) w → wpAnyT P md ops Q C app (fuel + 1) listed a w := by
  intro fuel
  have eqv : ∀ (listed : Array Bool), (listed.setIfInBounds i true).getD app true = false → listed.getD app true = false := fun listed h => by rwa [getD_set_ne true hia] at h
  induction fuel with
  | zero =>
    intro listed a w _ hr hv hy hC H
    refine ⟨fun h => (by rw [h] at hr; cases hr), fun j hj => ?_⟩
    by_cases hji : j = i
    · subst hji; exact hy.wpOp hi (hCS _ _ hv hC) ⟨fun h => hC (eqv _ h), H⟩
    · have := ready_mono hj hji
      rw [H.1] at this
      cases this
  | succ fuel ih =>
    intro listed a w hfree hr hv hy hC H
    have hun := (mem_ready.1 hr).1
    refine ⟨fun h => (by rw [h] at hr; cases hr), fun j hj => ?_⟩
    by_cases hji : j = i
    · subst hji; exact hy.wpOp hi (hCS _ _ hv hC) ⟨fun h => hC (eqv _ h), H⟩
    · have h1 := H.2 j (ready_mono hj hji)
      obtain ⟨hjun, oj, hoj, hall⟩ := mem_ready.1 hj
      have hnot : ∀ e ∈ oj.after, Region.binds md e = true → e.on ≠ i := fun e he hb heq => by
        have h1 := hall e he hb
        rw [heq, getD_both hun] at h1
        cases h1
      have h2 := wpOp_putIf hoj (hfree j oj hoj hji hjun hnot) (fun cs b => hsel i oi cs b hi) (fun cs b => hsel j oj cs b hoj) hQ hy h1
      have hfree' : ∀ k ok, ops[k]? = some ok → k ≠ i → (listed.setIfInBounds j true).getD k true = false →
          (∀ e ∈ ok.after, Region.binds md e = true → e.on ≠ i) → oi.apart ops ok = true := fun k ok hk hki hun hno => by
        refine hfree k ok hk hki ?_ hno
        by_cases hjk : j = k
        · subst hjk; exact hjun
        · rw [getD_set_ne true hjk] at hun; exact hun
      refine wpOp_mono (fun a' w' h3 => ?_) h2
      have hC' : (listed.setIfInBounds j true).getD app true = false → C w' := fun h => h3.2.1 (by
        rw [Array.setIfInBounds_comm _ _ (Ne.symm hji), getD_set_ne true hia]; exact h)
      refine ⟨hC', ih (listed.setIfInBounds j true) a' w' hfree' (ready_mono hr (Ne.symm hji)) (hInv _ _ hv hun hji hj) h3.1 hC' ?_⟩
      rw [Array.setIfInBounds_comm _ _ hji]
      exact h3.2.2
/-- an operation that yields its value in whatever world is taken first -/
theorem wpAnyT_pure {i : Nat} {oi : Oper} {v : Value} {fuel : Nat} {listed : Array Bool} {a : Act} {w : World} (hi : ops[i]? = some oi)
    (hs : Region.noSelect ops = true) (hf : Region.free md ops listed i = true) (hr : (Region.ready md ops listed).contains i = true) (hia : i ≠ app)
    (hQ : ∀ c a w, Q (.panic c) (a.put oi.dst v) w → Q (.panic c) a w) (hy : YieldsIf P ops (fun _ => True) oi v a) (hC : listed.getD app true = false → C w)
    (h : wpAnyT P md ops Q C app fuel (listed.setIfInBounds i true) (a.put oi.dst v) w) : wpAnyT P md ops Q C app (fuel + 1) listed a w :=
  wpAnyT_first (Inv := fun _ => True) hi (Region.noSelect_spec hs) hQ hia (fun _ _ _ _ => trivial) (fun _ _ _ _ _ _ => trivial) fuel listed a w (Region.free_spec hi hf) (by simpa using hr) trivial hy hC h
/-- the load, for which number app waits -/
theorem wpAnyT_load {i : Nat} {oi : Oper} {v : Value} {fuel : Nat} {listed : Array Bool} {a : Act} {w : World} (hi : ops[i]? = some oi)
    (hs : Region.noSelect ops = true) (hf : Region.free md ops listed i = true) (hr : (Region.ready md ops listed).contains i = true) (hia : i ≠ app) (hw : Region.waitsFor md ops app i = true) (hl : listed.getD app true = false)
    (hQ : ∀ c a w, Q (.panic c) (a.put oi.dst v) w → Q (.panic c) a w) (hy : YieldsIf P ops C oi v a) (hC : C w)
    (h : wpAnyT P md ops Q C app fuel (listed.setIfInBounds i true) (a.put oi.dst v) w) : wpAnyT P md ops Q C app (fuel + 1) listed a w := by
  obtain ⟨oa, hoa, e, he, hb, hon⟩ := Region.waitsFor_spec hw
  refine wpAnyT_first (Inv := fun l => l.getD app true = false) hi (Region.noSelect_spec hs) hQ hia (fun _ _ h1 h2 => h2 h1) (fun l j h1 h2 h3 h4 => ?_) fuel listed a w (Region.free_spec hi hf) (by simpa using hr) hl hy (fun _ => hC) h
  have hja : j ≠ app := fun e9 => by
    subst e9
    obtain ⟨_, oj, hoj, hall⟩ := mem_ready.1 h4
    have : oj = oa := Option.some.inj (hoj.symm.trans hoa)
    subst this
    have h5 := hall e he hb
    rw [hon, getD_both h2] at h5
    cases h5
  rw [getD_set_ne true hja]; exact h1
def AllReadyT (P : Program) (md : Region.Mode) (ops : Array Oper) (Q : Exit → Act → World → Prop) (C : World → Prop) (app : Nat) (fuel : Nat) (listed : Array Bool) (a : Act) (w : World) (rs : List Nat) : Prop :=
  ∀ i ∈ rs, wpOp P ops Q i (fun a' w' => ((listed.setIfInBounds i true).getD app true = false → C w') ∧ wpAnyT P md ops Q C app fuel (listed.setIfInBounds i true) a' w') a w
theorem AllReadyT.nil {fuel : Nat} {listed : Array Bool} {a : Act} {w : World} : AllReadyT P md ops Q C app fuel listed a w [] := fun _ h => by cases h
theorem AllReadyT.cons {fuel : Nat} {listed : Array Bool} {a : Act} {w : World} {i : Nat} {o : Oper} {rs : List Nat} (ho : ops[i]? = some o)
    (h : ∀ K' : Act → World → Prop, Shut (∀ a w, ((listed.setIfInBounds i true).getD app true = false → C w) → wpAnyT P md ops Q C app fuel (listed.setIfInBounds i true) a w → K' a w) → if Region.wanted o (yielded ops a.tmps) = true then Oper.wp P o a w K' Q else K' (a.put o.dst undef) w)
    (hs : AllReadyT P md ops Q C app fuel listed a w rs) : AllReadyT P md ops Q C app fuel listed a w (i :: rs) := fun j hj => by
  rcases List.mem_cons.1 hj with rfl | hj
  · exact wpOp_step ho (fun K' hK => h K' (fun a w hS hW => hK a w ⟨hS, hW⟩))
  · exact hs j hj
theorem wpAnyT_ready {rs : List Nat} {fuel : Nat} {listed : Array Bool} {a : Act} {w : World} (hr : Region.ready md ops listed = rs) (hne : rs ≠ [])
    (h : AllReadyT P md ops Q C app fuel listed a w rs) : wpAnyT P md ops Q C app (fuel + 1) listed a w := ⟨fun h0 => absurd (hr ▸ h0) hne, hr ▸ h⟩
theorem wpAnyT_done {listed : Array Bool} {a : Act} {w : World} (hr : Region.ready md ops listed = []) (h : Q .normal a w) : ∀ fuel, wpAnyT P md ops Q C app fuel listed a w
  | 0 => ⟨hr, h⟩
  | _ + 1 => ⟨fun _ => h, by rw [hr]; simp⟩
theorem wp_region_T {id : Nat} {a : Act} {w : World} (C : World → Prop) (app : Nat) (hm : P.follows .mixedOrders = true)
    (h : wpAnyT P .any ops Q C app ops.size (Array.replicate ops.size false) a w.drew) : (Code.region id ops true).wp P Q a w :=
  wp_region_any hm (wpAny_of_T _ _ _ _ h)
/-- several steps told at once: where just one operation may come up -/
theorem wpAnyT_one {i : Nat} {o : Oper} {fuel : Nat} {listed : Array Bool} {a : Act} {w : World} (hr : Region.ready md ops listed = [i]) (ho : ops[i]? = some o)
    (h : ∀ K' : Act → World → Prop, Shut (∀ a w, ((listed.setIfInBounds i true).getD app true = false → C w) → wpAnyT P md ops Q C app fuel (listed.setIfInBounds i true) a w → K' a w) → if Region.wanted o (yielded ops a.tmps) = true then Oper.wp P o a w K' Q else K' (a.put o.dst undef) w) :
    wpAnyT P md ops Q C app (fuel + 1) listed a w := wpAnyT_ready hr (by simp) (AllReadyT.cons ho h AllReadyT.nil)
/-- the world put away on the way -/
theorem wpAnyT_gen {fuel : Nat} {listed : Array Bool} {a : Act} {w : World} {R : World → Prop} (st : R w) (h : ∀ V, R V → wpAnyT P md ops Q C app fuel listed a V) : wpAnyT P md ops Q C app fuel listed a w := h w st
end
end Go.Proofs.YtiagckbdofeecaaDoor

/-
  The state while the first of the drawn offers is bent: the list at a. The bounds stand at it.
-/
import Derived.Test.YtiibpldfnnhhlaaOGot
import Derived.Test.YtiibpldfnnhhlaaGotSet
namespace Go.Proofs.Ytiibpldfnnhhlaa
open Go.RowKit
def patO (ps : List Ptr) : Ptr := ps.getD 0 (none, 0)
theorem patO_eq {ps : List Ptr} (h : 0 < ps.length) : ps[0] = patO ps := by simp [patO, h]
structure OT (w V : World) (b : Nat) (A : Option Addr) (n c a ct : Nat) (l : List Offer) (ps : List Ptr) (k : Nat) : Prop where
  src : SrcAt V b A n c k
  byt : Byt V b A n
  got : OGot w.heap.size V (some ⟨a, 0, none⟩) ct l ps
  gr : w.grownBy V (some b)
  lt : b < w.heap.size
  pos : 0 < l.length
section
variable {w V V' : World} {b : Nat} {A : Option Addr} {n c a ct k k' : Nat} {l : List Offer} {ps : List Ptr}
theorem OT.lenp (h : OT w V b A n c a ct l ps k) : 0 < ps.length := by have := h.got.len; have := h.pos; omega
theorem OT.lo (h : OT w V b A n c a ct l ps k) : w.heap.size ≤ a ∧ a < V.heap.size := h.got.aLt rfl
theorem OT.bel (h : OT w V b A n c a ct l ps k) (hb : Below V.heap.size V V') : OT w V' b A n c a ct l ps k :=
  ⟨h.src.bel hb, h.byt.bel hb, h.got.below hb, gr_up h.gr ⟨V', hb⟩, h.lt, h.pos⟩
theorem OT.alloc (h : OT w V b A n c a ct l ps k) (o : Obj) : OT w (V.alloc o) b A n c a ct l ps k := h.bel ((Below.refl _ _).alloc (Nat.le_refl _) _)
theorem OT.call (h : OT w V b A n c a ct l ps k) (hg : V.grownBy V' (some b)) (hs : SrcAt V' b A n c k') : OT w V' b A n c a ct l ps k' :=
  ⟨hs, h.byt.grown hg, h.got.grown hg (fun x e => by injection e with e; have := h.lt; omega), grown_trans h.gr hg, h.lt, h.pos⟩
theorem OT.raw (h : OT w V b A n c a ct l ps k) : a < V.heap.size ∧ V.cell? ⟨a, 0, none⟩ = some (.slice (patO ps).1 (oat l 0).many.length (patO ps).2) ∧ V.cell? ⟨a, 1, none⟩ = some (i64 (oat l 0).price) ∧ V.frozen? ⟨a, 0, none⟩ = false ∧ V.frozen? ⟨a, 1, none⟩ = false := by
  have e0 : (ocs l ps)[0 * 2 + 0]? = _ := ocs_at h.pos h.lenp (j := 0) (by omega)
  have e1 : (ocs l ps)[0 * 2 + 1]? = _ := ocs_at h.pos h.lenp (j := 1) (by omega)
  have c0 := h.got.row.cells (g := a) rfl _ _ e0
  have c1 := h.got.row.cells (g := a) rfl _ _ e1
  rw [show (⟨a, 0, none⟩ : Addr).add (0 * 2 + 0) = ⟨a, 0, none⟩ from rfl, patO_eq h.lenp, oat_eq h.pos] at c0
  rw [show (⟨a, 0, none⟩ : Addr).add (0 * 2 + 1) = ⟨a, 1, none⟩ from rfl, oat_eq h.pos] at c1
  exact ⟨h.lo.2, c0, c1, h.got.row.frozenAt _, h.got.row.frozenAt _⟩
theorem OT.inn (h : OT w V b A n c a ct l ps k) : V.ownsRow w.heap.size 2 1 (.slice (patO ps).1 (oat l 0).many.length (patO ps).2) (oat l 0).many.length (ics (oat l 0).many) := by
  have := h.got.inner 0 h.pos h.lenp
  rw [patO_eq h.lenp, oat_eq h.pos] at this
  exact this
theorem OT.price (h : OT w V b A n c a ct l ps k) (x : Int) : OT w (V.setCell ⟨a, 1, none⟩ (i64 x)) b A n c a ct (l.set 0 ⟨(oat l 0).many, x⟩) ps k := by
  have h1 := h.lo.1
  have h2 := h.lt
  exact ⟨h.src.far (p := ⟨a, 1, none⟩) (by show b ≠ a; omega) _, h.byt.kept (grown_put V a 1 (i64 x)) (fun j hj => by injection hj with hj; omega), h.got.setPrice (i := 0) h.pos x, gr_new h.gr (p := ⟨a, 1, none⟩) h1 _, h.lt, by rw [List.length_set]; exact h.pos⟩
theorem OT.put {q j : Nat} (h : OT w V b A n c a ct l ps k) (hq : (patO ps).1 = some ⟨q, 0, none⟩) (x : Int) : OT w (V.setCell ⟨q, j, none⟩ (i64 x)) b A n c a ct (l.set 0 ⟨(oat l 0).many.set j x, (oat l 0).price⟩) ps k := by
  have h1 := (h.inn.lt q (by rw [own_ablk, hq]; rfl)).1
  have h2 := h.lt
  exact ⟨h.src.far (p := ⟨q, j, none⟩) (by show b ≠ q; omega) _, h.byt.kept (grown_put V q j (i64 x)) (fun j hj => by injection hj with hj; omega), h.got.put (i := 0) h.pos h.lenp (by rw [patO_eq h.lenp]; exact hq) x, gr_new h.gr (p := ⟨q, j, none⟩) h1 _, h.lt, by rw [List.length_set]; exact h.pos⟩
theorem OT.many {P : Option Addr} {cb : Nat} {bs : List Int} (h : OT w V b A n c a ct l ps k) (hg : V.grownBy V' (ablk (patO ps).1)) (hx : V'.ownsRow w.heap.size 2 1 (.slice P bs.length cb) bs.length (ics bs)) (hat : ∀ k, ablk P = some k → ablk (patO ps).1 = some k ∨ V.heap.size ≤ k) :
    OT w (V'.setCell ⟨a, 0, none⟩ (.slice P bs.length cb)) b A n c a ct (l.set 0 ⟨bs, (oat l 0).price⟩) (ps.set 0 (P, cb)) k := by
  have h1 := h.lo.1
  have h2 := h.lt
  have hlb : ∀ x, ablk (patO ps).1 = some x → w.heap.size ≤ x := fun x e => (h.inn.lt x (by rw [own_ablk]; exact e)).1
  have s2 := h.src.kept hg (fun e => by have := hlb b e.symm; omega)
  have y2 := h.byt.kept hg (fun j hj => by have := hlb j hj; omega)
  have gr2 : w.grownBy V' (some b) := gr_far h.gr hg (fun j hj => hlb j hj)
  have gp := grown_put V' a 0 (.slice P bs.length cb)
  refine ⟨s2.kept gp (fun e => by injection e with e; omega), y2.kept gp (fun j hj => by injection hj with hj; omega), ?_, gr_new gr2 (p := ⟨a, 0, none⟩) h1 _, h.lt, by rw [List.length_set]; exact h.pos⟩
  refine h.got.setMany (i := 0) h.pos h.lenp ?_ hx ?_
  · rw [patO_eq h.lenp]; exact hg
  · rw [patO_eq h.lenp]; exact hat
theorem OT.keepA (h : OT w V b A n c a ct l ps k) (hg : V.grownBy V' (Value.slice (patO ps).1 (oat l 0).many.length (patO ps).2).ownBlock) : a < V'.heap.size ∧ V'.cell? ⟨a, 0, none⟩ = some (.slice (patO ps).1 (oat l 0).many.length (patO ps).2) ∧ V'.frozen? ⟨a, 0, none⟩ = false := by
  rw [own_ablk] at hg
  have ho := h.got.outer 0 h.lenp
  rw [patO_eq h.lenp] at ho
  have hr := h.raw.2.1
  have r1 := own_keepK h.got.row hg (fun x e e2 => by
    have e2 : some a = some x := e2
    rcases ho with h9 | h9
    · rw [h9] at e; cases e
    · exact h9 (by rw [e, ← e2]; rfl))
  refine ⟨Nat.lt_of_lt_of_le h.lo.2 hg.size, ?_, r1.frozenAt _⟩
  refine hg.cell hr (fun e => ?_)
  have e : some a = ablk (patO ps).1 := e
  rcases ho with h9 | h9
  · rw [h9] at e; cases e
  · exact h9 e.symm
theorem OT.app (h : OT w V b A n c a ct l ps k) {g cap : Nat} {x : Int} (hg : V.grownBy V' (Value.slice (patO ps).1 (oat l 0).many.length (patO ps).2).ownBlock) (o : V'.ownsRow w.heap.size 2 1 (.slice (some ⟨g, 0, none⟩) ((oat l 0).many.length + 1) cap) ((oat l 0).many.length + 1) (ics (oat l 0).many ++ [i64 x])) (hat : (Value.slice (patO ps).1 (oat l 0).many.length (patO ps).2).ownBlock = some g ∨ g = V.heap.size) :
    OT w (V'.setCell ⟨a, 0, none⟩ (.slice (some ⟨g, 0, none⟩) ((oat l 0).many.length + 1) cap)) b A n c a ct (l.set 0 ⟨(oat l 0).many ++ [x], (oat l 0).price⟩) (ps.set 0 (some ⟨g, 0, none⟩, cap)) k := by
  rw [own_ablk] at hg hat
  have hl : ((oat l 0).many ++ [x]).length = (oat l 0).many.length + 1 := by simp
  have := h.many (P := some ⟨g, 0, none⟩) (cb := cap) (bs := (oat l 0).many ++ [x]) hg (by
    rw [hl, show ics ((oat l 0).many ++ [x]) = ics (oat l 0).many ++ [i64 x] by simp [ics]]
    exact o) (fun k e => by
      injection e with e
      have e : g = k := e
      rcases hat with h9 | h9
      · exact .inl (by rw [h9, e])
      · exact .inr (by omega))
  rw [hl] at this
  exact this
end
/-- so many numbers at most in each offer -/
def OShort (m : Nat) (l : List Offer) : Prop := ∀ i, i < l.length → (oat l i).many.length ≤ m
theorem OShort.nil {m : Nat} : OShort m [] := fun i hi => by simp at hi
theorem OShort.snoc {m : Nat} {l : List Offer} {x : Offer} (h : OShort m l) (h2 : x.many.length ≤ m) : OShort m (l ++ [x]) := fun i hi => by
  rw [List.length_append, List.length_singleton] at hi
  rcases Nat.lt_or_ge i l.length with h3 | h3
  · have e : oat (l ++ [x]) i = oat l i := by simp [oat, List.getElem?_append_left h3]
    rw [e]; exact h i h3
  · obtain rfl : i = l.length := by omega
    have e : oat (l ++ [x]) l.length = x := by simp [oat]
    rw [e]; exact h2
theorem OShort.up {m m' : Nat} {l : List Offer} (h : OShort m l) (hm : m ≤ m') : OShort m' l := fun i hi => Nat.le_trans (h i hi) hm
theorem OShort.set {m j : Nat} {l : List Offer} {x : Offer} (h : OShort m l) (h2 : x.many.length ≤ m) : OShort m (l.set j x) := fun i hi => by
  rw [List.length_set] at hi
  by_cases hij : j = i
  · subst hij
    have e : oat (l.set j x) j = x := by simp [oat, hi]
    rw [e]; exact h2
  · have e : oat (l.set j x) i = oat l i := by simp [oat, List.getElem?_set_ne hij]
    rw [e]; exact h i hi
end Go.Proofs.Ytiibpldfnnhhlaa

/-
  Common parts, put together: Up, Slices, Flat, Hire0, Hire1, Hires, Hire2, Hire3, Hire4.
-/
import Derived.WalkKit
import Derived.ProofKit
import Derived.Lib.Hide
import Derived.Deep.RegionHeld3
import Derived.Deep.DeepCutAuto
import Derived.BigQuiet
import Derived.Deep.Light
import Derived.Test.YtiagckbdofeecaaDoorRows
namespace Go.Proofs.YtiagckbdofeecaaDoor
open Go.RowKit

/-- a world that has grown from w: nothing that existed has changed -/
structure Up (w : World) where
  wd : World
  below : Below w.heap.size w wd
def up (w : World) (g : Up w) : World := g.wd
instance (w : World) : Nonempty (Up w) := ⟨⟨w, Below.refl _ _⟩⟩
section
variable {w : World} {g : Up w}
theorem up_below (w : World) (g : Up w) : Below w.heap.size w (up w g) := g.below
theorem cell_up (a : Addr) (h : a.block < w.heap.size) : (up w g).cell? a = w.cell? a := g.below.cell h
theorem frozen_up (a : Addr) (h : a.block < w.heap.size) : (up w g).frozen? a = w.frozen? a := g.below.frozen h
theorem heap_up (k : Nat) (h : k < w.heap.size) : (up w g).heap[k]? = w.heap[k]? := g.below.block k h
theorem le_up (k : Nat) (h : k ≤ w.heap.size) : k ≤ (up w g).heap.size := Nat.le_trans h g.below.size
theorem lt_up (k : Nat) (h : k < w.heap.size) : k < (up w g).heap.size := Nat.lt_of_lt_of_le h g.below.size
theorem le_up1 (k : Nat) (h : k ≤ w.heap.size) : k ≤ (up w g).heap.size + 1 := Nat.le_succ_of_le (le_up k h)
theorem le_up2 (k : Nat) (h : k ≤ w.heap.size) : k ≤ (up w g).heap.size + 2 := Nat.le_succ_of_le (le_up1 k h)
theorem lt_up1 (k : Nat) (h : k ≤ w.heap.size) : k < (up w g).heap.size + 1 := Nat.lt_succ_of_le (le_up k h)
theorem lt_up2 (k : Nat) (h : k ≤ w.heap.size) : k < (up w g).heap.size + 2 := Nat.lt_succ_of_le (le_up1 k h)
theorem ne_up (k : Nat) (h : k < w.heap.size) : (k = (up w g).heap.size) = False := by
  have := lt_up (g := g) k h
  simp; omega
theorem ne_up' (k : Nat) (h : k < w.heap.size) : ((up w g).heap.size = k) = False := by
  have := lt_up (g := g) k h
  simp; omega
end
/-- two steps; a draw; a new block -/
def Up.tr {w : World} (g : Up w) (h : Up (up w g)) : Up w := ⟨up (up w g) h, g.below.trans (h.below.mono g.below.size)⟩
def Up.dr {w : World} (g : Up w) : Up w := ⟨(up w g).drew, g.below.drew⟩
def Up.al {w : World} (g : Up w) (o : Obj) : Up w := ⟨(up w g).alloc o, g.below.alloc g.below.size o⟩
section
variable {w : World} {g : Up w}
theorem up_up (h : Up (up w g)) : up (up w g) h = up w (g.tr h) := rfl
theorem drew_up : (up w g).drew = up w g.dr := rfl
theorem alloc_up (o : Obj) : (up w g).alloc o = up w (g.al o) := rfl
theorem size_dr : (up w g.dr).heap.size = (up w g).heap.size := rfl
theorem size_al (o : Obj) : (up w (g.al o)).heap.size = (up w g).heap.size + 1 := by
  show ((up w g).alloc o).heap.size = _
  simp
theorem cell_dr (a : Addr) : (up w g.dr).cell? a = (up w g).cell? a := rfl
theorem frozen_dr (a : Addr) : (up w g.dr).frozen? a = (up w g).frozen? a := rfl
theorem cell_al_new (c : Array Value) (t : TypeId) (i : Nat) : (up w (g.al (.cells c t))).cell? ⟨(up w g).heap.size, i, none⟩ = c[i]? := World.cell?_alloc_new _ _ _ _
theorem frozen_al_new (c : Array Value) (t : TypeId) (i : Nat) : (up w (g.al (.cells c t))).frozen? ⟨(up w g).heap.size, i, none⟩ = false := World.frozen?_alloc_new _ _ _ _
theorem cell_al (o : Obj) (a : Addr) (h : a.block < (up w g).heap.size) : (up w (g.al o)).cell? a = (up w g).cell? a := World.cell?_alloc_lt _ _ _ h
theorem frozen_al (o : Obj) (a : Addr) (h : a.block < (up w g).heap.size) : (up w (g.al o)).frozen? a = (up w g).frozen? a := World.frozen?_alloc_old _ _ _ (Nat.ne_of_lt h)
theorem setCell_al (c : Array Value) (t : TypeId) (i : Nat) (v : Value) : (up w (g.al (.cells c t))).setCell ⟨(up w g).heap.size, i, none⟩ v = up w (g.al (.cells (c.setIfInBounds i v) t)) := World.setCell_alloc_at c t _ i v rfl
theorem cell_tr (h : Up (up w g)) (a : Addr) (hk : a.block < (up w g).heap.size) : (up w (g.tr h)).cell? a = (up w g).cell? a := cell_up (g := h) a hk
theorem frozen_tr (h : Up (up w g)) (a : Addr) (hk : a.block < (up w g).heap.size) : (up w (g.tr h)).frozen? a = (up w g).frozen? a := frozen_up (g := h) a hk
theorem le_tr (h : Up (up w g)) (k : Nat) (hk : k ≤ (up w g).heap.size) : k ≤ (up w (g.tr h)).heap.size := le_up (g := h) k hk
theorem lt_tr (h : Up (up w g)) (k : Nat) (hk : k < (up w g).heap.size) : k < (up w (g.tr h)).heap.size := lt_up (g := h) k hk
theorem le_tr1 (h : Up (up w g)) (k : Nat) (hk : k ≤ (up w g).heap.size) : k ≤ (up w (g.tr h)).heap.size + 1 := Nat.le_succ_of_le (le_tr h k hk)
theorem lt_tr1 (h : Up (up w g)) (k : Nat) (hk : k ≤ (up w g).heap.size) : k < (up w (g.tr h)).heap.size + 1 := Nat.lt_succ_of_le (le_tr h k hk)
theorem lt_tr2 (h : Up (up w g)) (k : Nat) (hk : k ≤ (up w g).heap.size) : k < (up w (g.tr h)).heap.size + 2 := Nat.lt_succ_of_le (le_tr1 h k hk)
theorem le_tr_self (h : Up (up w g)) : (up w g).heap.size ≤ (up w (g.tr h)).heap.size := le_tr h _ (Nat.le_refl _)
theorem le_tr_al (o : Obj) (h : Up (up w (g.al o))) : (up w g).heap.size ≤ (up w ((g.al o).tr h)).heap.size := le_tr h _ (by rw [size_al]; omega)
theorem lt_tr_al (o : Obj) (h : Up (up w (g.al o))) : (up w g).heap.size < (up w ((g.al o).tr h)).heap.size := lt_tr h _ (by rw [size_al]; omega)
theorem cell_tr_al (c : Array Value) (t : TypeId) (h : Up (up w (g.al (.cells c t)))) (i : Nat) : (up w ((g.al (.cells c t)).tr h)).cell? ⟨(up w g).heap.size, i, none⟩ = c[i]? :=
  (cell_tr h _ (by rw [size_al]; show (up w g).heap.size < _; omega)).trans (cell_al_new c t i)
theorem frozen_tr_al (c : Array Value) (t : TypeId) (h : Up (up w (g.al (.cells c t)))) (i : Nat) : (up w ((g.al (.cells c t)).tr h)).frozen? ⟨(up w g).heap.size, i, none⟩ = false :=
  (frozen_tr h _ (by rw [size_al]; show (up w g).heap.size < _; omega)).trans (frozen_al_new c t i)
end
attribute [simp, go_sem] lt_up1 lt_up2 le_tr1 lt_tr1 lt_tr2 le_tr_self le_tr_al lt_tr_al cell_tr_al frozen_tr_al
attribute [simp, go_sem] cell_up frozen_up heap_up le_up lt_up le_up1 le_up2 ne_up ne_up' up_up drew_up alloc_up size_dr size_al cell_dr frozen_dr cell_al_new frozen_al_new setCell_al cell_al frozen_al cell_tr frozen_tr le_tr lt_tr

/-- the world at hand under a name -/
theorem name_world {P : Program} {c : Code} {Q : Exit → Act → World → Prop} {a : Act} {w : World} (h : ∀ W, Hid (W = w) → Code.wp P c Q a W) : Code.wp P c Q a w := h w rfl
/-- what a region that draws its order keeps: the cells of the world in which it began -/
theorem sm_refl {W : World} : W.heap.size ≤ W.heap.size ∧ ∀ b o, b < W.heap.size → W.cell? ⟨b, o, none⟩ = W.cell? ⟨b, o, none⟩ := ⟨Nat.le_refl _, fun _ _ _ => rfl⟩
theorem sm_up {W w1 : World} (h : W.heap.size ≤ w1.heap.size ∧ ∀ b o, b < W.heap.size → w1.cell? ⟨b, o, none⟩ = W.cell? ⟨b, o, none⟩) (g : Up w1) :
    W.heap.size ≤ (up w1 g).heap.size ∧ ∀ b o, b < W.heap.size → (up w1 g).cell? ⟨b, o, none⟩ = W.cell? ⟨b, o, none⟩ :=
  ⟨Nat.le_trans h.1 g.below.size, fun b o hb => (cell_up ⟨b, o, none⟩ (Nat.lt_of_lt_of_le hb h.1)).trans (h.2 b o hb)⟩
theorem below_up {B : Nat} {a w : World} (h : Below B a w) (hB : B ≤ w.heap.size) (g : Up w) : Below B a (up w g) := h.trans (g.below.mono hB)
theorem bl_up {a w : World} (h : Below a.heap.size a w) (g : Up w) : Below a.heap.size a (up w g) := below_up h h.size g
theorem bl_alloc {a w : World} (h : Below a.heap.size a w) (o : Obj) : Below a.heap.size a (w.alloc o) := h.alloc h.size o
theorem bl_tr {a w : World} {G : Up w} (h : Below a.heap.size a (up w G)) (g : Up (up w G)) : Below a.heap.size a (up w (G.tr g)) := bl_up h g
theorem bl_al {a w : World} {G : Up w} (h : Below a.heap.size a (up w G)) (o : Obj) : Below a.heap.size a (up w (G.al o)) := bl_alloc h o
theorem bl_dr {a w : World} {G : Up w} (h : Below a.heap.size a (up w G)) : Below a.heap.size a (up w G.dr) := Below.drew h
theorem ex_tr {w w' : World} {X : Up w} (h : Below (up w X).heap.size (up w X) w') : ∃ g, w' = up w (X.tr g) := ⟨⟨w', h⟩, rfl⟩
theorem ex_up {w w' : World} (h : Below w.heap.size w w') : ∃ g, w' = up w g := ⟨⟨w', h⟩, rfl⟩
/-- w' is w with new memory, nothing that existed having changed -/
def UpOf (w w' : World) : Prop := ∃ g : Up w, w' = up w g
theorem UpOf.of {w w' : World} (h : Below w.heap.size w w') : UpOf w w' := ⟨⟨w', h⟩, rfl⟩
theorem UpOf.below {w w' : World} (h : UpOf w w') : Below w.heap.size w w' := by
  obtain ⟨g, rfl⟩ := h
  exact g.below
/-- ONE WALK IN THE ORDER OF THE TEXT SERVES EVERY ORDER, where each operation yields one value in every world that has grown from the region's first. -/
theorem wp_region_up {P : Program} {id : Nat} {Q : Exit → Act → World → Prop} {a : Act} {w : World} {l : List Oper} (hm : P.follows .mixedOrders = true) (hB : Region.lexB .any l.toArray = true)
    (h : wpQuiet P l.toArray (fun w' => ∃ g : Up w, w' = up w g) (fun a' => ∀ w', (∃ g : Up w, w' = up w g) → Q .normal a' w') l a) : (Code.region id l.toArray true).wp P Q a w :=
  wp_region_quiet (C := fun w' => ∃ g : Up w, w' = up w g) hm hB ⟨⟨_, (Below.refl _ _).drew⟩, rfl⟩ (by simpa using h)
/-- a contract met inside such a walk -/
theorem upq {P : Program} {f : FuncId} {args : Array Value} {w : World} {g : Up w} {v : Value}
    (h : Calls P f args (up w g) fun e w' => e = .returned v ∧ UpOf (up w g) w') : Calls P f args (up w g) fun e w'' => e = .returned v ∧ ∃ g' : Up w, w'' = up w g' :=
  h.mono fun _ _ ⟨he, g', hw⟩ => ⟨he, ⟨_, g.below.trans (g'.below.mono g.below.size)⟩, hw⟩
theorem upq_same {P : Program} {f : FuncId} {args : Array Value} {w : World} {g : Up w} {v : Value}
    (h : Calls P f args (up w g) fun e w' => e = .returned v ∧ up w g = w') : Calls P f args (up w g) fun e w'' => e = .returned v ∧ ∃ g' : Up w, w'' = up w g' :=
  h.mono fun _ _ ⟨he, hw⟩ => ⟨he, g, hw.symm⟩
theorem upq_tr {P : Program} {f : FuncId} {args : Array Value} {w : World} {g : Up w} {h : Up (up w g)} {v : Value}
    (c : Calls P f args (up w (g.tr h)) fun e w' => e = .returned v ∧ UpOf (up w (g.tr h)) w') : Calls P f args (up w (g.tr h)) fun e w'' => e = .returned v ∧ ∃ g' : Up (up w g), w'' = up w (g.tr g') :=
  c.mono fun _ _ ⟨he, g', hw⟩ => ⟨he, h.tr g', hw⟩
theorem upq_tr_same {P : Program} {f : FuncId} {args : Array Value} {w : World} {g : Up w} {h : Up (up w g)} {v : Value}
    (c : Calls P f args (up w (g.tr h)) fun e w' => e = .returned v ∧ up w (g.tr h) = w') : Calls P f args (up w (g.tr h)) fun e w'' => e = .returned v ∧ ∃ g' : Up (up w g), w'' = up w (g.tr g') :=
  c.mono fun _ _ ⟨he, hw⟩ => ⟨he, h, hw.symm⟩
/-- a contract's Bool, written out -/
theorem ret_as {P : Program} {f : FuncId} {args : Array Value} {w : World} {B b : Bool} {Q : World → Prop} (h : Calls P f args w fun e w' => e = .returned (.bool B) ∧ Q w') (hB : B = b) :
    Calls P f args w fun e w' => e = .returned (.bool b) ∧ Q w' := by subst hB; exact h
theorem UpOf.refl (w : World) : UpOf w w := .of (Below.refl _ _)
theorem as_up {P : Program} {c : Code} {Q : Exit → Act → World → Prop} {a : Act} {w : World} (h : ∀ g : Up w, Code.wp P c Q a (up w g)) : Code.wp P c Q a w := h ⟨w, Below.refl _ _⟩
theorem sm_of {W w' : World} (h : Below W.heap.size W w') : W.heap.size ≤ w'.heap.size ∧ ∀ b o, b < W.heap.size → w'.cell? ⟨b, o, none⟩ = W.cell? ⟨b, o, none⟩ := ⟨h.size, fun b o hb => h.cell (p := ⟨b, o, none⟩) hb⟩
end Go.Proofs.YtiagckbdofeecaaDoor
namespace Go.Proofs.YtiagckbdofeecaaDoor
open Go.RowKit

/-- a slice's pointer A with n elements of sz cells each: its cells read as xs -/
def Rds (w : World) (sz : Nat) (A : Option Addr) (n : Nat) (xs : List Value) : Prop :=
  xs.length = n * sz ∧ (0 < n * sz → ∃ b off, A = some ⟨b, off, none⟩ ∧ b < w.heap.size ∧ ∀ j u, xs[j]? = some u → w.cell? ⟨b, off + j, none⟩ = some u)

section
variable {w w' : World} {sz : Nat} {A : Option Addr} {n : Nat} {xs : List Value}
theorem Rds.keep (h : Rds w sz A n xs) (hs : w.heap.size ≤ w'.heap.size) (hk : 0 < n * sz → ∀ b off, A = some ⟨b, off, none⟩ → b < w.heap.size → w'.heap[b]? = w.heap[b]?) : Rds w' sz A n xs :=
  ⟨h.1, fun hn => by
    obtain ⟨b, off, e, hb, hc⟩ := h.2 hn
    exact ⟨b, off, e, Nat.lt_of_lt_of_le hb hs, fun j u hu => (World.cell?_of_block (w := w) (hk hn b off e hb)).trans (hc j u hu)⟩⟩
theorem Rds.up (h : Rds w sz A n xs) (g : Up w) : Rds (up w g) sz A n xs :=
  h.keep g.below.size (fun _ b _ _ hb => g.below.block b hb)
theorem Rds.tr {g : Up w} (h : Rds (Go.Proofs.YtiagckbdofeecaaDoor.up w g) sz A n xs) (k : Up (Go.Proofs.YtiagckbdofeecaaDoor.up w g)) : Rds (Go.Proofs.YtiagckbdofeecaaDoor.up w (g.tr k)) sz A n xs := Rds.up h k
theorem Rds.alloc (h : Rds w sz A n xs) (o : Obj) : Rds (w.alloc o) sz A n xs :=
  h.keep (by simp) (fun _ b _ _ hb => Below.heap_alloc w o b hb)
theorem Rds.drew (h : Rds w sz A n xs) : Rds w.drew sz A n xs := h
theorem Rds.al {g : Up w} (h : Rds (Go.Proofs.YtiagckbdofeecaaDoor.up w g) sz A n xs) (o : Obj) : Rds (Go.Proofs.YtiagckbdofeecaaDoor.up w (g.al o)) sz A n xs := Rds.alloc h o
theorem Rds.dr {g : Up w} (h : Rds (Go.Proofs.YtiagckbdofeecaaDoor.up w g) sz A n xs) : Rds (Go.Proofs.YtiagckbdofeecaaDoor.up w g.dr) sz A n xs := h
theorem Rds.below (h : Rds w sz A n xs) (hb : Below w.heap.size w w') : Rds w' sz A n xs := h.keep hb.size (fun _ b _ _ h => hb.block b h)
theorem Rds.grown {row : Option Nat} (h : Rds w sz A n xs) (hg : w.grownBy w' row) (hne : 0 < n * sz → ∀ b off, A = some ⟨b, off, none⟩ → some b ≠ row) : Rds w' sz A n xs :=
  h.keep hg.size (fun hn b off e hb => hg.block b hb (hne hn b off e))
theorem Rds.empty (w : World) (sz : Nat) (A : Option Addr) : Rds w sz A 0 [] := ⟨by simp, fun h => by omega⟩
/-- element k's cells, where there is one -/
theorem Rds.at (h : Rds w sz A n xs) (hn : 0 < n * sz) : ∃ b off, A = some ⟨b, off, none⟩ ∧ b < w.heap.size ∧ ∀ j u, xs[j]? = some u → w.cell? ⟨b, off + j, none⟩ = some u := h.2 hn
theorem Rds.of_own {base : Nat} {e : TypeId} {c : Nat} (h : w.ownsRow base e sz (.slice A n c) n xs) : Rds w sz A n xs := by
  refine ⟨h.1, fun hn => ?_⟩
  rcases h.2 with ⟨_, h0⟩ | ⟨g, cap, cur, hv, _, hg, _⟩
  · subst h0; omega
  · have hA : A = some ⟨g, 0, none⟩ := by injection hv
    subst hA
    refine ⟨g, 0, rfl, (Array.getElem?_eq_some_iff.1 hg).1, fun j u hu => ?_⟩
    have := h.cells (g := g) rfl j u hu
    have hadd : (⟨g, 0, none⟩ : Addr).add j = ⟨g, 0 + j, none⟩ := by unfold Addr.add; split <;> simp_all
    rwa [hadd] at this
/-- the block of a slice that is owned lies from base on -/
theorem own_block {base : Nat} {e : TypeId} {c : Nat} (h : w.ownsRow base e sz (.slice A n c) n xs) {b off : Nat} (hA : A = some ⟨b, off, none⟩) : base ≤ b ∧ b < w.heap.size ∧ off = 0 := by
  subst hA
  rcases h.2 with ⟨hv, _⟩ | ⟨g, cap, cur, hv, hb, hg, _⟩
  · simp at hv
  · simp only [Value.slice.injEq, Option.some.injEq, Addr.mk.injEq, and_true] at hv
    obtain ⟨⟨rfl, rfl⟩, _⟩ := hv
    exact ⟨hb, (Array.getElem?_eq_some_iff.1 hg).1, rfl⟩
end
/-- rows that a call owns, over worlds that have grown -/
theorem own_up {w : World} {base : Nat} {e : TypeId} {size : Nat} {v : Value} {n : Nat} {xs : List Value} (h : w.ownsRow base e size v n xs) (g : Up w) : (up w g).ownsRow base e size v n xs :=
  h.kept (row := none) ⟨g.below.os, g.below.tape, g.below.output, g.below.size, fun k hk _ => g.below.block k hk⟩ (by cases hv : v.ownBlock <;> simp)
theorem grown_up {w : World} (g : Up w) (row : Option Nat) : w.grownBy (up w g) row := ⟨g.below.os, g.below.tape, g.below.output, g.below.size, fun k hk _ => g.below.block k hk⟩
theorem up_of_grown {W w w' : World} {row : Option Nat} (h : Below W.heap.size W w) (hg : w.grownBy w' row) (hr : ∀ k, row = some k → W.heap.size ≤ k) : UpOf W w' := .of (h.grown hg h.size hr)
theorem grown_trans {a b c : World} {row : Option Nat} (h : a.grownBy b row) (k : b.grownBy c row) : a.grownBy c row :=
  ⟨k.os.trans h.os, k.tape.trans h.tape, k.output.trans h.output, Nat.le_trans h.size k.size, fun i hi hne => (k.block i (Nat.lt_of_lt_of_le hi h.size) hne).trans (h.block i hi hne)⟩
theorem grown_refl (w : World) (row : Option Nat) : w.grownBy w row := ⟨rfl, rfl, rfl, Nat.le_refl _, fun _ _ _ => rfl⟩
theorem own_mono {w : World} {base base' : Nat} {e : TypeId} {size : Nat} {v : Value} {n : Nat} {xs : List Value} (h : w.ownsRow base e size v n xs) (hb : base' ≤ base) : w.ownsRow base' e size v n xs := by
  refine ⟨h.1, ?_⟩
  rcases h.2 with h2 | ⟨g, cap, cur, hv, hg, r⟩
  · exact .inl h2
  · exact .inr ⟨g, cap, cur, hv, Nat.le_trans hb hg, r⟩
/-- two rows of which one was made when the other was there lie apart -/
theorem own_apart {w w1 : World} {base e e1 size size1 n n1 c c1 B : Nat} {A A1 : Option Addr} {xs xs1 : List Value} (h : w.ownsRow base e size (.slice A n c) n xs) (h1 : w1.ownsRow B e1 size1 (.slice A1 n1 c1) n1 xs1) (hB : w.heap.size ≤ B) :
    ∀ b off, A = some ⟨b, off, none⟩ → some b ≠ (Value.slice A1 n1 c1).ownBlock := by
  intro b off hA he
  obtain ⟨_, hb, _⟩ := own_block h hA
  have := (h1.lt b he.symm).1
  omega
theorem rds_apart {w w1 : World} {B e1 size size1 n n1 c1 : Nat} {A A1 : Option Addr} {xs xs1 : List Value} (h : Rds w size A n xs) (h1 : w1.ownsRow B e1 size1 (.slice A1 n1 c1) n1 xs1) (hB : w.heap.size ≤ B) (hn : 0 < n * size) :
    ∀ b off, A = some ⟨b, off, none⟩ → some b ≠ (Value.slice A1 n1 c1).ownBlock := by
  intro b off hA he
  obtain ⟨b', off', hA', hb, _⟩ := h.at hn
  rw [hA] at hA'
  injection hA' with hA'
  injection hA' with hA' _
  have := (h1.lt b he.symm).1
  omega
theorem up_of_mark {W w w' : World} {base e size n c : Nat} {A : Option Addr} {xs : List Value} (hW : Below W.heap.size W w) (h : w.ownsRow base e size (.slice A n c) n xs) (hb : W.heap.size ≤ base) (hg : w.grownBy w' (Value.slice A n c).ownBlock) : UpOf W w' :=
  up_of_grown hW hg fun k hk => Nat.le_trans hb (h.lt k hk).1
/-- block b is just these cells -/
def Blk (w : World) (b : Nat) (t : TypeId) (cs : Array Value) : Prop := w.heap[b]? = some (.cells cs t (0, 0))
section
variable {w w' : World} {b : Nat} {t : TypeId} {cs : Array Value}
theorem Blk.lt (h : Blk w b t cs) : b < w.heap.size := (Array.getElem?_eq_some_iff.1 h).1
theorem Blk.cell (h : Blk w b t cs) (i : Nat) : w.cell? ⟨b, i, none⟩ = cs[i]? := by unfold Blk at h; simp [World.cell?, h]
theorem Blk.free (h : Blk w b t cs) (i : Nat) : w.frozen? ⟨b, i, none⟩ = false := by unfold Blk at h; simp [World.frozen?, h]
theorem Blk.up (h : Blk w b t cs) (g : Up w) : Blk (up w g) b t cs := (g.below.block b h.lt).trans h
theorem Blk.tr {g : Up w} (h : Blk (Go.Proofs.YtiagckbdofeecaaDoor.up w g) b t cs) (k : Up (Go.Proofs.YtiagckbdofeecaaDoor.up w g)) : Blk (Go.Proofs.YtiagckbdofeecaaDoor.up w (g.tr k)) b t cs := Blk.up h k
theorem Blk.al {g : Up w} (h : Blk (Go.Proofs.YtiagckbdofeecaaDoor.up w g) b t cs) (o : Obj) : Blk (Go.Proofs.YtiagckbdofeecaaDoor.up w (g.al o)) b t cs := (Below.heap_alloc _ o b h.lt).trans h
theorem Blk.dr {g : Up w} (h : Blk (Go.Proofs.YtiagckbdofeecaaDoor.up w g) b t cs) : Blk (Go.Proofs.YtiagckbdofeecaaDoor.up w g.dr) b t cs := h
theorem Blk.new_al {g : Up w} (t : TypeId) (cs : Array Value) : Blk (Go.Proofs.YtiagckbdofeecaaDoor.up w (g.al (.cells cs t))) (Go.Proofs.YtiagckbdofeecaaDoor.up w g).heap.size t cs := heap_alloc_new (Go.Proofs.YtiagckbdofeecaaDoor.up w g) _
theorem Blk.drew (h : Blk w b t cs) : Blk w.drew b t cs := h
theorem Blk.alloc (h : Blk w b t cs) (o : Obj) : Blk (w.alloc o) b t cs := (Below.heap_alloc w o b h.lt).trans h
theorem Blk.new (w : World) (t : TypeId) (cs : Array Value) : Blk (w.alloc (.cells cs t)) w.heap.size t cs := heap_alloc_new w _
theorem Blk.put (h : Blk w b t cs) (i : Nat) (u : Value) : Blk (w.setCell ⟨b, i, none⟩ u) b t (cs.setIfInBounds i u) := by
  unfold Blk at h ⊢
  simp [World.setCell, Array.getElem?_modify, h]
theorem Blk.far (h : Blk w b t cs) {p : Addr} (hp : b ≠ p.block) (u : Value) : Blk (w.setCell p u) b t cs := (Below.heap_setCell w p u b hp).trans h
theorem Blk.grown {row : Option Nat} (h : Blk w b t cs) (hg : w.grownBy w' row) (hne : some b ≠ row) : Blk w' b t cs := (hg.block b h.lt hne).trans h
theorem grown_put (w : World) (b i : Nat) (u : Value) : w.grownBy (w.setCell ⟨b, i, none⟩ u) (some b) :=
  ⟨rfl, rfl, rfl, by simp [World.setCell], fun k _ hne => Below.heap_setCell w _ u k (fun e => hne (by rw [e]))⟩
end
/-! only block b, and what is new, has changed: step by step -/
section
variable {a w w' : World} {row : Option Nat}
theorem gr_alloc (h : a.grownBy w row) (o : Obj) : a.grownBy (w.alloc o) row := grown_trans h (World.grownBy_alloc w o row)
theorem gr_up (h : a.grownBy w row) (g : Up w) : a.grownBy (up w g) row := grown_trans h (grown_up g row)
theorem gr_new (h : a.grownBy w row) {p : Addr} (hp : a.heap.size ≤ p.block) (u : Value) : a.grownBy (w.setCell p u) row :=
  ⟨h.os, h.tape, h.output, by simpa [World.setCell] using h.size, fun k hk hne => (Below.heap_setCell w p u k (by omega)).trans (h.block k hk hne)⟩
theorem gr_in {b : Nat} (h : a.grownBy w (some b)) (i : Nat) (u : Value) : a.grownBy (w.setCell ⟨b, i, none⟩ u) (some b) := grown_trans h (grown_put w b i u)
theorem gr_by {b : Nat} (h : a.grownBy w (some b)) (k : w.grownBy w' (some b)) : a.grownBy w' (some b) := grown_trans h k
end
/-- bytes -> a text, of one byte that has just been laid -/
theorem conv_one {P : Program} (W : World) (src e dst : TypeId) (hs : P.underlying src = some (.slice e)) (he : P.underlying e = some (.int .u8)) (hd : P.underlying dst = some .string) (x : Int) :
    (convert src dst (.slice (some ⟨W.heap.size, 0, none⟩) 1 1)).run P (W.alloc (.cells #[.int .u8 x] e)) = .ok (.string ⟨#[UInt8.ofNat x.toNat]⟩) (W.alloc (.cells #[.int .u8 x] e)) :=
  run_convert_bytes_arg _ src e hs he _ 0 1 1 [x] rfl (fun i hi => by
    obtain rfl : i = 0 := by omega
    simp) dst hd
theorem le_up_self {w : World} (g : Up w) : w.heap.size ≤ (up w g).heap.size := le_up _ (Nat.le_refl _)
theorem own_apart' {w w1 : World} {base e e1 size size1 n n1 c c1 B : Nat} {A A1 : Option Addr} {xs xs1 : List Value} (h : w.ownsRow base e size (.slice A n c) n xs) (h1 : w1.ownsRow B e1 size1 (.slice A1 n1 c1) n1 xs1) (hB : w.heap.size ≤ B) :
    ∀ b off, A1 = some ⟨b, off, none⟩ → some b ≠ (Value.slice A n c).ownBlock := by
  intro b off hA he
  obtain ⟨hb, _, _⟩ := own_block h1 hA
  have := (h.lt b he.symm).2
  omega
theorem own_far {w w1 : World} {base e e1 size size1 n n1 c c1 B : Nat} {A A1 : Option Addr} {xs xs1 : List Value} (h : w.ownsRow base e size (.slice A n c) n xs) (h1 : w1.ownsRow B e1 size1 (.slice A1 n1 c1) n1 xs1) (hB : w.heap.size ≤ B) :
    (Value.slice A1 n1 c1).ownBlock = none ∨ (Value.slice A1 n1 c1).ownBlock ≠ (Value.slice A n c).ownBlock := by
  cases hv : (Value.slice A1 n1 c1).ownBlock with
  | none => exact .inl rfl
  | some k =>
    refine .inr fun he => ?_
    have h2 := (h1.lt k hv).1
    have h3 := (h.lt k he.symm).2
    omega
theorem own_below {w w' : World} {base : Nat} {e : TypeId} {size : Nat} {v : Value} {n : Nat} {xs : List Value} (h : w.ownsRow base e size v n xs) (hb : Below w.heap.size w w') : w'.ownsRow base e size v n xs := own_up h ⟨w', hb⟩
end Go.Proofs.YtiagckbdofeecaaDoor
namespace Go.Proofs.YtiagckbdofeecaaDoor
open Go.RowKit
abbrev i64 (n : Int) : Value := .int .i64 n
theorem ret_bool {a b : Bool} (h : a = b) : Ending.returned (.bool a) = .returned (.bool b) := by rw [h]
theorem ret_int {k : IntKind} {a b : Int} (h : a = b) : Ending.returned (.int k a) = .returned (.int k b) := by rw [h]
section
variable {α : Type} {enc : α → List Value} {sz : Nat}
theorem flat_len (he : ∀ a, (enc a).length = sz) (l : List α) : (l.flatMap enc).length = l.length * sz := by
  induction l with
  | nil => simp
  | cons a l ih => simp [he, ih, Nat.add_mul]; omega
theorem flat_get (he : ∀ a, (enc a).length = sz) (l : List α) {k j : Nat} (hk : k < l.length) (hj : j < sz) : (l.flatMap enc)[k * sz + j]? = (enc l[k])[j]? := by
  induction l generalizing k with
  | nil => simp at hk
  | cons a l ih =>
    rw [List.flatMap_cons]
    cases k with
    | zero => simp [List.getElem?_append, he, hj]
    | succ k =>
      rw [List.getElem?_append_right (by rw [he, Nat.add_mul]; omega), he]
      have : (k + 1) * sz + j - sz = k * sz + j := by rw [Nat.add_mul]; omega
      rw [this, ih (by simpa using hk)]
      simp
theorem flat_ext (he : ∀ a, (enc a).length = sz) (l : List α) {ys : List Value} (hl : ys.length = l.length * sz) (h : ∀ k (hk : k < l.length) j, j < sz → ys[k * sz + j]? = (enc l[k])[j]?) : ys = l.flatMap enc := by
  apply List.ext_getElem?
  intro i
  by_cases hi : i < l.length * sz
  · have hsz : 0 < sz := by
      rcases Nat.eq_zero_or_pos sz with h0 | h0
      · subst h0; omega
      · exact h0
    have hk : i / sz < l.length := (Nat.div_lt_iff_lt_mul hsz).2 hi
    have hj : i % sz < sz := Nat.mod_lt _ hsz
    have hi' : i = i / sz * sz + i % sz := by rw [Nat.mul_comm]; exact (Nat.div_add_mod i sz).symm
    rw [hi', h _ hk _ hj, flat_get he l hk hj]
  · rw [List.getElem?_eq_none (by omega), List.getElem?_eq_none (by rw [flat_len he]; omega)]
/-- a list's cells, element by element, make a slice that reads as it -/
theorem rds_of_elems (he : ∀ a, (enc a).length = sz) {w : World} {b off : Nat} {l : List α} (hb : b < w.heap.size)
    (h : ∀ k (hk : k < l.length) j u, (enc l[k])[j]? = some u → w.cell? ⟨b, off + k * sz + j, none⟩ = some u) : Rds w sz (some ⟨b, off, none⟩) l.length (l.flatMap enc) := by
  refine ⟨flat_len he l, fun hn => ⟨b, off, rfl, hb, fun i u hu => ?_⟩⟩
  have hi : i < l.length * sz := by
    rcases Nat.lt_or_ge i (l.length * sz) with h | h
    · exact h
    · rw [List.getElem?_eq_none (by rw [flat_len he]; exact h)] at hu; cases hu
  have hsz : 0 < sz := by
    rcases Nat.eq_zero_or_pos sz with h0 | h0
    · subst h0; omega
    · exact h0
  have hk : i / sz < l.length := (Nat.div_lt_iff_lt_mul hsz).2 hi
  have hi' : i = i / sz * sz + i % sz := by rw [Nat.mul_comm]; exact (Nat.div_add_mod i sz).symm
  rw [hi', flat_get he l hk (Nat.mod_lt _ hsz)] at hu
  have := h (i / sz) hk (i % sz) u hu
  rw [Nat.add_assoc, ← hi'] at this
  exact this
/-- element k's cells -/
theorem rds_elem (he : ∀ a, (enc a).length = sz) {w : World} {A : Option Addr} {l : List α} (h : Rds w sz A l.length (l.flatMap enc)) {k : Nat} (hk : k < l.length) (hsz : 0 < sz) :
    ∃ b off, A = some ⟨b, off, none⟩ ∧ b < w.heap.size ∧ ∀ j u, (enc l[k])[j]? = some u → w.cell? ⟨b, off + k * sz + j, none⟩ = some u := by
  obtain ⟨b, off, e, hb, hc⟩ := h.at (Nat.mul_pos (by omega) hsz)
  refine ⟨b, off, e, hb, fun j u hu => Nat.add_assoc off (k * sz) j ▸ hc _ u ?_⟩
  have hj : j < sz := by
    rcases Nat.lt_or_ge j sz with h | h
    · exact h
    · rw [List.getElem?_eq_none (by rw [he]; exact h)] at hu; cases hu
  rw [flat_get he l hk hj]
  exact hu
end
/-- what is left of k where tot is taken off, -1 where that is too much -/
def szR (k : Int) (tot : Nat) : Int := if k < tot then -1 else k - tot
theorem szR_no {k : Int} {tot : Nat} (h : k < tot) : szR k tot = -1 := if_pos h
theorem szR_ok {k : Int} {tot : Nat} (h : ¬ k < tot) : szR k tot = k - tot := if_neg h
end Go.Proofs.YtiagckbdofeecaaDoor
namespace Go.Proofs.YtiagckbdofeecaaDoor
open Go.RowKit
structure Hire where
  m : Int
  f : Int
  t : Int
def Hire.cells (h : Hire) : List Value := [i64 h.m, i64 h.f, i64 h.t]
abbrev hv (h : Hire) : Value := .agg #[i64 h.m, i64 h.f, i64 h.t]
def hcs (l : List Hire) : List Value := l.flatMap Hire.cells
theorem hcells_len (h : Hire) : h.cells.length = 3 := rfl

theorem hire_at {w : World} {A : Option Addr} {l : List Hire} (h : Rds w 3 A l.length (hcs l)) {k : Nat} (hk : k < l.length) :
    ∃ b off, A = some ⟨b, off, none⟩ ∧ b < w.heap.size ∧ w.cell? ⟨b, off + k * 3, none⟩ = some (i64 l[k].m) ∧ w.cell? ⟨b, off + k * 3 + 1, none⟩ = some (i64 l[k].f) ∧ w.cell? ⟨b, off + k * 3 + 2, none⟩ = some (i64 l[k].t) := by
  obtain ⟨b, off, e, hb, hc⟩ := rds_elem hcells_len h hk (by omega)
  exact ⟨b, off, e, hb, hc 0 _ rfl, hc 1 _ rfl, hc 2 _ rfl⟩
theorem set3_get {l : List Hire} {ys : List Value} {k i j n : Nat} (hys : ∀ i (hi : i < l.length) j, j < 3 → i < k → ys[i * 3 + j]? = (l[i].cells)[j]?) (hlen : ys.length = n * 3) (hi : i < l.length) (hj : j < 3) (hik : i < k + 1) (hk : k < n)
    {h : Hire} (he : ∀ (hk : k < l.length), l[k] = h := by intro; rfl) :
    (((ys.set (k * 3) (i64 h.m)).set (k * 3 + 1) (i64 h.f)).set (k * 3 + 2) (i64 h.t))[i * 3 + j]? = (l[i].cells)[j]? := by
  by_cases hik' : i = k
  · subst hik'
    rw [he hi]
    match j, hj with
    | 0, _ => rw [List.getElem?_set_ne (by omega), List.getElem?_set_ne (by omega), Nat.add_zero, List.getElem?_set_self (by omega)]; rfl
    | 1, _ => rw [List.getElem?_set_ne (by omega), List.getElem?_set_self (by rw [List.length_set]; omega)]; rfl
    | 2, _ => rw [List.getElem?_set_self (by rw [List.length_set, List.length_set]; omega)]; rfl
  · rw [List.getElem?_set_ne (by omega), List.getElem?_set_ne (by omega), List.getElem?_set_ne (by omega)]
    exact hys i hi j hj (by omega)
theorem toHire_any (h : Hire) (w : World) :
    Calls Tryd.prog 7 #[hv h] w fun e w' => e = .returned (hv h) ∧ UpOf w w' := by
  go_enter Tryd.func7, Tryd.ntmps7
  go_wp2_with (first | ((with_reducible refine wp_region_up (by kernel_rfl) (by kernel_rfl) ?_); (repeat (go_big_quiet_step (fail))); refine wpQuiet_nil ?_; intro _ hw'; obtain ⟨nq, hw''⟩ := hw'; subst hw''))
  exact bodyPost_ret (v := hv h) (by simp [results, Tryd.results7, go_sem]) rfl ⟨rfl, UpOf.of (by repeat (first | exact Below.refl _ _ | refine bl_tr ?_ _ | refine bl_al ?_ _ | refine bl_dr ?_ | refine bl_up ?_ _ | refine Below.drew ?_ | refine bl_alloc ?_ _ | refine Below.setCell ?_ (by first | (simp; done) | (simp; omega)) _))⟩
theorem eqHire_any (h : Hire) (w : World) :
    Calls Tryd.prog 11 #[hv h, hv h] w fun e w' => e = .returned (.bool true) ∧ UpOf w w' := by
  go_enter Tryd.func11, Tryd.ntmps11
  go_wp2_with (first | ((with_reducible refine wp_region_up (by kernel_rfl) (by kernel_rfl) ?_); (repeat (go_big_quiet_step (fail))); refine wpQuiet_nil ?_; intro _ hw'; obtain ⟨nq, hw''⟩ := hw'; subst hw''))
  go_ret
  exact ⟨rfl, UpOf.of (by repeat (first | exact Below.refl _ _ | refine bl_tr ?_ _ | refine bl_al ?_ _ | refine bl_dr ?_ | refine bl_up ?_ _ | refine Below.drew ?_ | refine bl_alloc ?_ _ | refine Below.setCell ?_ (by first | (simp; done) | (simp; omega)) _))⟩
end Go.Proofs.YtiagckbdofeecaaDoor
namespace Go.Proofs.YtiagckbdofeecaaDoor
open Go.RowKit
def btw (n lo hi : Int) : Bool := decide (lo ≤ n ∧ n ≤ hi)
theorem btw_true {n lo hi : Int} (h : btw n lo hi = true) : lo ≤ n ∧ n ≤ hi := by simpa [btw] using h
theorem between_any (n lo hi : Int) (w : World) :
    Calls Tryd.prog 58 #[i64 n, i64 lo, i64 hi] w fun e w' => e = .returned (.bool (btw n lo hi)) ∧ w = w' := by
  go_enter Tryd.func58, Tryd.ntmps58
  go_wp2
  all_goals go_ret
  all_goals exact ⟨ret_bool (by simp [btw]; omega), rfl⟩
theorem in_any (n lo hi : Int) (w : World) :
    Calls Tryd.prog 59 #[i64 n, i64 lo, i64 hi] w fun e w' => e = .returned (.bool (btw n lo hi)) ∧ w = w' := by
  go_enter Tryd.func59, Tryd.ntmps59
  go_wp2
  all_goals go_ret
  all_goals exact ⟨ret_bool (by simp [btw]; omega), rfl⟩
theorem max_any (a b : Int) (w : World) :
    Calls Tryd.prog 52 #[i64 a, i64 b] w fun e w' => e = .returned (i64 (max a b)) ∧ w = w' := by
  go_enter Tryd.func52, Tryd.ntmps52
  go_wp2
  all_goals go_ret
  all_goals exact ⟨ret_int (by omega), rfl⟩

def days (f t : Int) : Bool := decide (0 ≤ f ∧ f < t ∧ t ≤ 3650)
def vHire (h : Hire) : Bool := btw h.m 0 19 && days h.f h.t
def before (x y : Hire) : Bool := decide (x.f < y.f ∨ x.f = y.f ∧ x.m < y.m)
def ovl (x : Hire) (a b : Int) : Bool := decide (x.f < b ∧ a < x.t)
def meet (a b : Hire) : Bool := decide (a.m = b.m ∧ a.f < b.t ∧ b.f < a.t)

theorem areDays_any (f t : Int) (w : World) :
    Calls Tryd.prog 47 #[i64 f, i64 t] w fun e w' => e = .returned (.bool (days f t)) ∧ w = w' := by
  go_enter Tryd.func47, Tryd.ntmps47
  go_wp2
  all_goals go_ret
  all_goals exact ⟨ret_bool (by go_light; simp only [days]; rw [Bool.eq_iff_iff]; simp; try omega), rfl⟩
theorem validHire_any (h : Hire) (w : World) :
    Calls Tryd.prog 35 #[hv h] w fun e w' => e = .returned (.bool (vHire h)) ∧ UpOf w w' := by
  go_enter Tryd.func35, Tryd.ntmps35
  go_wp2_with (first | (go_at_call 58; refine (between_any _ _ _ _).mono ?_; rintro e w' ⟨rfl, rfl⟩) | (go_at_call 47; refine (areDays_any _ _ _).mono ?_; rintro e w' ⟨rfl, rfl⟩) | ((with_reducible refine wp_region_up (by kernel_rfl) (by kernel_rfl) ?_); (repeat (go_big_quiet_step (first | (go_at_call 58; first | exact upq_tr_same (between_any _ _ _ _) | exact upq_same (between_any _ _ _ _)) | (go_at_call 47; first | exact upq_tr_same (areDays_any _ _ _) | exact upq_same (areDays_any _ _ _))))); refine wpQuiet_nil ?_; intro _ hw'; obtain ⟨nq, hw''⟩ := hw'; subst hw''))
  all_goals go_ret
  all_goals exact ⟨ret_bool (by go_light; simp_all [vHire]), UpOf.of (by repeat (first | exact Below.refl _ _ | refine bl_tr ?_ _ | refine bl_al ?_ _ | refine bl_dr ?_ | refine bl_up ?_ _ | refine Below.drew ?_ | refine bl_alloc ?_ _ | refine Below.setCell ?_ (by first | (simp; done) | (simp; omega)) _))⟩
theorem before_any (x y : Hire) (w : World) :
    Calls Tryd.prog 62 #[hv x, hv y] w fun e w' => e = .returned (.bool (before x y)) ∧ UpOf w w' := by
  go_enter Tryd.func62, Tryd.ntmps62
  go_wp2_with (first | ((with_reducible refine wp_region_up (by kernel_rfl) (by kernel_rfl) ?_); (repeat (go_big_quiet_step (fail))); refine wpQuiet_nil ?_; intro _ hw'; obtain ⟨nq, hw''⟩ := hw'; subst hw''))
  all_goals go_ret
  all_goals exact ⟨ret_bool (by go_light; simp only [before]; rw [Bool.eq_iff_iff]; simp; try omega), UpOf.of (by repeat (first | exact Below.refl _ _ | refine bl_tr ?_ _ | refine bl_al ?_ _ | refine bl_dr ?_ | refine bl_up ?_ _ | refine Below.drew ?_ | refine bl_alloc ?_ _ | refine Below.setCell ?_ (by first | (simp; done) | (simp; omega)) _))⟩
theorem overlaps_any (x : Hire) (a b : Int) (w : World) :
    Calls Tryd.prog 63 #[hv x, i64 a, i64 b] w fun e w' => e = .returned (.bool (ovl x a b)) ∧ UpOf w w' := by
  go_enter Tryd.func63, Tryd.ntmps63
  go_wp2_with (first | ((with_reducible refine wp_region_up (by kernel_rfl) (by kernel_rfl) ?_); (repeat (go_big_quiet_step (fail))); refine wpQuiet_nil ?_; intro _ hw'; obtain ⟨nq, hw''⟩ := hw'; subst hw''))
  all_goals go_ret
  all_goals exact ⟨ret_bool (by go_light; simp only [ovl]; rw [Bool.eq_iff_iff]; simp; try omega), UpOf.of (by repeat (first | exact Below.refl _ _ | refine bl_tr ?_ _ | refine bl_al ?_ _ | refine bl_dr ?_ | refine bl_up ?_ _ | refine Below.drew ?_ | refine bl_alloc ?_ _ | refine Below.setCell ?_ (by first | (simp; done) | (simp; omega)) _))⟩
/-- a hire lies at an address -/
def At (w : World) (b o : Nat) (h : Hire) : Prop := b < w.heap.size ∧ w.cell? ⟨b, o, none⟩ = some (i64 h.m) ∧ w.cell? ⟨b, o + 1, none⟩ = some (i64 h.f) ∧ w.cell? ⟨b, o + 2, none⟩ = some (i64 h.t)
theorem At.up {w : World} {b o : Nat} {h : Hire} (a : At w b o h) (g : Up w) : At (up w g) b o h :=
  ⟨lt_up _ a.1, (cell_up _ a.1).trans a.2.1, (cell_up _ a.1).trans a.2.2.1, (cell_up _ a.1).trans a.2.2.2⟩
theorem l25Before_any (x y : Hire) (b o b' o' : Nat) (w : World) (hx : At w b o x) (hy : At w b' o' y) :
    Calls Tryd.prog 69 #[.pointer (some ⟨b, o, none⟩), .pointer (some ⟨b', o', none⟩)] w fun e w' => e = .returned (.bool (before x y)) ∧ UpOf w w' := by
  obtain ⟨hb, c0, c1, c2⟩ := hx
  obtain ⟨hb', d0, d1, d2⟩ := hy
  go_enter Tryd.func69, Tryd.ntmps69
  go_wp2_with (first | ((with_reducible refine wp_region_up (by kernel_rfl) (by kernel_rfl) ?_); (repeat (any_goals (first | go_big_quiet_step (fail) | quiet_step (fail) | (refine wpQuiet_step (fun K hK => ?_); go_simp; split <;> (refine hK _ ?_; clear hK K))))); all_goals (refine wpQuiet_nil ?_; intro _ hw'; obtain ⟨nq, hw''⟩ := hw'; subst hw'')))
  all_goals go_ret
  all_goals exact ⟨ret_bool (by go_light; simp only [before]; rw [Bool.eq_iff_iff]; simp; try omega), UpOf.of (by repeat (first | exact Below.refl _ _ | refine bl_tr ?_ _ | refine bl_al ?_ _ | refine bl_dr ?_ | refine bl_up ?_ _ | refine Below.drew ?_ | refine bl_alloc ?_ _ | refine Below.setCell ?_ (by first | (simp; done) | (simp; omega)) _))⟩
theorem l25Meet_any (x y : Hire) (b o b' o' : Nat) (w : World) (hx : At w b o x) (hy : At w b' o' y) :
    Calls Tryd.prog 68 #[.pointer (some ⟨b, o, none⟩), .pointer (some ⟨b', o', none⟩)] w fun e w' => e = .returned (.bool (meet x y)) ∧ UpOf w w' := by
  obtain ⟨hb, c0, c1, c2⟩ := hx
  obtain ⟨hb', d0, d1, d2⟩ := hy
  go_enter Tryd.func68, Tryd.ntmps68
  go_wp2_with (first | ((with_reducible refine wp_region_up (by kernel_rfl) (by kernel_rfl) ?_); (repeat (any_goals (first | go_big_quiet_step (fail) | quiet_step (fail) | (refine wpQuiet_step (fun K hK => ?_); go_simp; split <;> (refine hK _ ?_; clear hK K))))); all_goals (refine wpQuiet_nil ?_; intro _ hw'; obtain ⟨nq, hw''⟩ := hw'; subst hw'')))
  all_goals go_ret
  all_goals exact ⟨ret_bool (by go_light; simp only [meet]; rw [Bool.eq_iff_iff]; simp; try omega), UpOf.of (by repeat (first | exact Below.refl _ _ | refine bl_tr ?_ _ | refine bl_al ?_ _ | refine bl_dr ?_ | refine bl_up ?_ _ | refine Below.drew ?_ | refine bl_alloc ?_ _ | refine Below.setCell ?_ (by first | (simp; done) | (simp; omega)) _))⟩
theorem l25One_any (x : Hire) (b o : Nat) (w : World) (hx : At w b o x) :
    Calls Tryd.prog 33 #[.pointer (some ⟨b, o, none⟩)] w fun e w' => e = .returned (.bool (vHire x)) ∧ UpOf w w' := by
  obtain ⟨hb, c0, c1, c2⟩ := hx
  go_enter Tryd.func33, Tryd.ntmps33
  go_wp2_with (first | (go_at_call 59; refine (in_any _ _ _ _).mono ?_; rintro e w' ⟨rfl, rfl⟩) | ((with_reducible refine wp_region_up (by kernel_rfl) (by kernel_rfl) ?_); (repeat (any_goals (first | go_big_quiet_step (first | (go_at_call 59; first | exact upq_tr_same (in_any _ _ _ _) | exact upq_same (in_any _ _ _ _))) | quiet_step (first | (go_at_call 59; first | exact upq_tr_same (in_any _ _ _ _) | exact upq_same (in_any _ _ _ _))) | (refine wpQuiet_step (fun K hK => ?_); go_simp; split <;> (refine hK _ ?_; clear hK K))))); all_goals (refine wpQuiet_nil ?_; intro _ hw'; obtain ⟨nq, hw''⟩ := hw'; subst hw'')))
  all_goals go_ret
  all_goals exact ⟨ret_bool (by go_light; simp only [vHire, days, btw] at *; rw [Bool.eq_iff_iff]; simp at *; try omega), UpOf.of (by repeat (first | exact Below.refl _ _ | refine bl_tr ?_ _ | refine bl_al ?_ _ | refine bl_dr ?_ | refine bl_up ?_ _ | refine Below.drew ?_ | refine bl_alloc ?_ _ | refine Below.setCell ?_ (by first | (simp; done) | (simp; omega)) _))⟩
end Go.Proofs.YtiagckbdofeecaaDoor
namespace Go.Proofs.YtiagckbdofeecaaDoor
open Go.RowKit
/-- the hires that mark n places, from number k on -/
def mh (k n : Nat) : List Hire := (List.range n).map fun (i : Nat) => ⟨(k : Int) + 3 * i, (k : Int) + 3 * i + 1, (k : Int) + 3 * i + 1 + 1⟩
theorem mh_len (k n : Nat) : (mh k n).length = n := by simp [mh]
theorem mh_get {k n i : Nat} (h : i < (mh k n).length) : (mh k n)[i] = ⟨(k : Int) + 3 * i, (k : Int) + 3 * i + 1, (k : Int) + 3 * i + 1 + 1⟩ := by simp [mh]

end Go.Proofs.YtiagckbdofeecaaDoor
namespace Go.Proofs.YtiagckbdofeecaaDoor
open Go.RowKit
def hat (l : List Hire) (i : Nat) : Hire := l.getD i ⟨0, 0, 0⟩
theorem hat_eq {l : List Hire} {i : Nat} (h : i < l.length) : l[i] = hat l i := by simp [hat, h]
def okHead (l : List Hire) (n : Int) (i : Nat) : Bool := vHire (hat l i) && decide ((hat l i).m < n) && (decide (i = 0) || before (hat l (i - 1)) (hat l i))
def okAt (l : List Hire) (n : Int) (i : Nat) : Bool := okHead l n i && (List.range i).all (fun k => !meet (hat l k) (hat l i))
def vHires (l : List Hire) (n : Int) : Bool := btw n 1 20 && decide (l.length ≤ 60) && (List.range l.length).all (okAt l n)
theorem okAt_true {l : List Hire} {n : Int} {i : Nat} (h : okHead l n i = true) (hk : ∀ k, k < i → meet (hat l k) (hat l i) = false) : okAt l n i = true := by
  simp only [okAt, h, Bool.true_and, List.all_eq_true, List.mem_range]
  intro k hki
  simp [hk k hki]
theorem okAt_head {l : List Hire} {n : Int} {i : Nat} (h : okHead l n i = false) : okAt l n i = false := by simp [okAt, h]
theorem okAt_meet {l : List Hire} {n : Int} {i k : Nat} (hk : k < i) (h : meet (hat l k) (hat l i) = true) : okAt l n i = false := by
  simp only [okAt, Bool.and_eq_false_iff]
  refine .inr ?_
  rw [← Bool.not_eq_true]
  intro hc
  rw [List.all_eq_true] at hc
  have := hc k (List.mem_range.2 hk)
  simp [h] at this
theorem vHires_true {l : List Hire} {n : Int} (h1 : btw n 1 20 = true) (h2 : l.length ≤ 60) (h : ∀ i, i < l.length → okAt l n i = true) : vHires l n = true := by
  simp only [vHires, h1, Bool.true_and, Bool.and_eq_true, decide_eq_true_eq, List.all_eq_true, List.mem_range]
  exact ⟨h2, h⟩
theorem vHires_at {l : List Hire} {n : Int} {i : Nat} (hi : i < l.length) (h : okAt l n i = false) : vHires l n = false := by
  simp only [vHires, Bool.and_eq_false_iff]
  refine .inr ?_
  rw [← Bool.not_eq_true]
  intro hc
  rw [List.all_eq_true] at hc
  have := hc i (List.mem_range.2 hi)
  simp [h] at this
theorem vHires_n {l : List Hire} {n : Int} (h : btw n 1 20 = false) : vHires l n = false := by simp [vHires, h]
theorem vHires_len {l : List Hire} {n : Int} (h : 60 < l.length) : vHires l n = false := by simp [vHires]; omega
theorem hire_at' {w : World} {A : Option Addr} {l : List Hire} (h : Rds w 3 A l.length (hcs l)) {k : Nat} (hk : k < l.length) :
    ∃ b off, A = some ⟨b, off, none⟩ ∧ b < w.heap.size ∧ ∀ i, i < l.length → At w b (off + i * 3) (hat l i) := by
  obtain ⟨b, off, rfl, hb, _⟩ := hire_at h hk
  refine ⟨b, off, rfl, hb, fun i hi => ?_⟩
  obtain ⟨b', off', e, _, c0, c1, c2⟩ := hire_at h hi
  injection e with e
  injection e with e1 e2
  subst e1 e2
  rw [hat_eq hi] at c0 c1 c2
  exact ⟨hb, c0, c1, c2⟩

theorem ext_lt {P : Nat → Prop} {j : Nat} (h : ∀ i, i < j → P i) (hj : P j) : ∀ i, i < j + 1 → P i := fun i hi => by
  rcases Nat.lt_succ_iff_lt_or_eq.1 hi with h' | h'
  · exact h i h'
  · rw [h']; exact hj
theorem meet_of {x y : Hire} (h1 : (x.m == y.m) = true) (h2 : ovl x y.f y.t = true) : meet y x = true := by
  simp [ovl] at h2
  simp at h1
  simp [meet]
  omega
theorem meet_no1 {x y : Hire} (h1 : (x.m == y.m) = false) : meet y x = false := by
  simp at h1
  simp [meet]
  intro h
  exact absurd h.symm h1
theorem meet_no2 {x y : Hire} (h2 : ovl x y.f y.t = false) : meet y x = false := by
  simp [ovl] at h2
  simp [meet]
  omega
set_option maxRecDepth 10000 in
set_option maxHeartbeats 1000000 in
theorem validHires_any (A : Option Addr) (c : Nat) (l : List Hire) (n : Int) (w : World) (h : Rds w 3 A l.length (hcs l)) (hn : l.length ≤ 100000000) (hcap : l.length ≤ c) :
    Calls Tryd.prog 30 #[.slice A l.length c, i64 n] w fun e w' => e = .returned (.bool (vHires l n)) ∧ UpOf w w' := by
  by_cases h1 : btw n 1 20 = true
  · by_cases h2 : l.length ≤ 60
    · go_enter Tryd.func30, Tryd.ntmps30
      go_wp2_with (first | (go_at_call 58; refine (between_any _ _ _ _).mono ?_; rintro e w' ⟨rfl, rfl⟩) | ((with_reducible refine wp_region_up (by kernel_rfl) (by kernel_rfl) ?_); (repeat (go_big_quiet_step (first | (go_at_call 58; first | exact upq_tr_same (between_any _ _ _ _) | exact upq_same (between_any _ _ _ _))))); refine wpQuiet_nil ?_; intro _ hw'; obtain ⟨nq, hw''⟩ := hw'; subst hw''))
      go_loopw [19] (fun i wr => ∃ k : Nat, k ≤ l.length ∧ i = i64 k ∧ Hid (∀ i, i < k → okAt l n i = true) ∧ ∃ g : Up w, wr = up w g) (fun i _ => l.length - (intOf i).toNat)
      case atStart => exact ⟨0, by omega, rfl, fun i hi => by omega, ⟨w, Below.refl _ _⟩, rfl⟩
      case round =>
        obtain ⟨k, hk, rfl, hok, g, rfl⟩ := hrel
        by_cases hlt : k < l.length
        · obtain ⟨b, off, rfl, hb, ha⟩ := hire_at' h hlt
          obtain ⟨_, c0, c1, c2⟩ := ha k hlt
          by_cases g1 : vHire (hat l k) = true
          · by_cases g2 : (hat l k).m < n
            · have g2' : decide (n ≤ (hat l k).m) = false := by simp; omega
              by_cases g3 : k = 0
              · have hh := Lib.hid (show okHead l n k = true by rw [okHead, g1, decide_eq_true g2, decide_eq_true g3]; rfl)
                have hk0 : decide (0 < k) = false := by simp; omega
                clear g3
                go_wp2_with (first | (go_at_call 35; refine (validHire_any _ _).mono ?_; rintro e w' ⟨rfl, g, rfl⟩) | (go_at_call 62; refine (before_any _ _ _).mono ?_; rintro e w' ⟨rfl, g, rfl⟩) | (go_at_call 63; refine (overlaps_any _ _ _ _).mono ?_; rintro e w' ⟨rfl, g, rfl⟩) | ((with_reducible refine wp_region_up (by kernel_rfl) (by kernel_rfl) ?_); (repeat (go_big_quiet_step (first | (go_at_call 35; first | exact upq_tr (validHire_any _ _) | exact upq (validHire_any _ _)) | (go_at_call 62; first | exact upq_tr (before_any _ _ _) | exact upq (before_any _ _ _)) | (go_at_call 63; first | exact upq_tr (overlaps_any _ _ _ _) | exact upq (overlaps_any _ _ _ _))))); refine wpQuiet_nil ?_; intro _ hw'; obtain ⟨nq, hw''⟩ := hw'; subst hw''))
                clear g1 g2'
                go_loopw [51] (fun i wr => ∃ j : Nat, j ≤ k ∧ i = i64 j ∧ Hid (∀ i, i < j → meet (hat l i) (hat l k) = false) ∧ ∃ g' : Up (up w (g.al (.cells #[i64 (hat l k).m, i64 (hat l k).f, i64 (hat l k).t] 25))), wr = up w ((g.al (.cells #[i64 (hat l k).m, i64 (hat l k).f, i64 (hat l k).t] 25)).tr g')) (fun i _ => k - (intOf i).toNat)
                case atStart => exact ⟨0, by omega, rfl, fun i hi => by omega, _, rfl⟩
                case round =>
                  obtain ⟨j, hj, rfl, hme, g', rfl⟩ := hrel
                  by_cases hjk : j < k
                  · obtain ⟨_, d0, d1, d2⟩ := ha j (by omega)
                    by_cases q1 : (hat l k).m = (hat l j).m
                    · have q1' : ((hat l k).m == (hat l j).m) = true := by simpa using q1
                      clear q1
                      by_cases q2 : ovl (hat l k) (hat l j).f (hat l j).t = true
                      · have hf := Lib.hid (vHires_at (n := n) hlt (okAt_meet (n := n) hjk (meet_of q1' q2)))
                        go_wp2_with (first | (go_at_call 35; refine (validHire_any _ _).mono ?_; rintro e w' ⟨rfl, g, rfl⟩) | (go_at_call 62; refine (before_any _ _ _).mono ?_; rintro e w' ⟨rfl, g, rfl⟩) | (go_at_call 63; refine (overlaps_any _ _ _ _).mono ?_; rintro e w' ⟨rfl, g, rfl⟩) | ((with_reducible refine wp_region_up (by kernel_rfl) (by kernel_rfl) ?_); (repeat (go_big_quiet_step (first | (go_at_call 35; first | exact upq_tr (validHire_any _ _) | exact upq (validHire_any _ _)) | (go_at_call 62; first | exact upq_tr (before_any _ _ _) | exact upq (before_any _ _ _)) | (go_at_call 63; first | exact upq_tr (overlaps_any _ _ _ _) | exact upq (overlaps_any _ _ _ _))))); refine wpQuiet_nil ?_; intro _ hw'; obtain ⟨nq, hw''⟩ := hw'; subst hw''))
                        go_ret
                        exact ⟨ret_bool hf.out.symm, UpOf.of (by repeat (first | exact Below.refl _ _ | refine bl_tr ?_ _ | refine bl_al ?_ _ | refine bl_dr ?_ | refine bl_up ?_ _ | refine Below.drew ?_ | refine bl_alloc ?_ _ | refine Below.setCell ?_ (by first | (simp; done) | (simp; omega)) _))⟩
                      · have q2' : ovl (hat l k) (hat l j).f (hat l j).t = false := by simpa using q2
                        have hm' := Lib.hid (meet_no2 (y := hat l j) (x := hat l k) q2')
                        clear q2
                        go_wp2_with (first | (go_at_call 35; refine (validHire_any _ _).mono ?_; rintro e w' ⟨rfl, g, rfl⟩) | (go_at_call 62; refine (before_any _ _ _).mono ?_; rintro e w' ⟨rfl, g, rfl⟩) | (go_at_call 63; refine (overlaps_any _ _ _ _).mono ?_; rintro e w' ⟨rfl, g, rfl⟩) | ((with_reducible refine wp_region_up (by kernel_rfl) (by kernel_rfl) ?_); (repeat (go_big_quiet_step (first | (go_at_call 35; first | exact upq_tr (validHire_any _ _) | exact upq (validHire_any _ _)) | (go_at_call 62; first | exact upq_tr (before_any _ _ _) | exact upq (before_any _ _ _)) | (go_at_call 63; first | exact upq_tr (overlaps_any _ _ _ _) | exact upq (overlaps_any _ _ _ _))))); refine wpQuiet_nil ?_; intro _ hw'; obtain ⟨nq, hw''⟩ := hw'; subst hw''))
                        go_roundw
                        case rel => have hx := ext_lt (P := fun i => meet (hat l i) (hat l k) = false) hme.out hm'.out; exact ⟨j + 1, by omega, by go_num, hx, ex_tr (by repeat (first | exact Below.refl _ _ | refine bl_tr ?_ _ | refine bl_al ?_ _ | refine bl_dr ?_ | refine bl_up ?_ _ | refine Below.drew ?_ | refine bl_alloc ?_ _ | refine Below.setCell ?_ (by first | (simp; done) | (simp; omega)) _))⟩
                        case measure => (simp [intOf]; try omega)
                    · have q1' : ((hat l k).m == (hat l j).m) = false := by simpa using q1
                      have hm' := Lib.hid (meet_no1 (y := hat l j) (x := hat l k) q1')
                      clear q1
                      go_wp2_with (first | (go_at_call 35; refine (validHire_any _ _).mono ?_; rintro e w' ⟨rfl, g, rfl⟩) | (go_at_call 62; refine (before_any _ _ _).mono ?_; rintro e w' ⟨rfl, g, rfl⟩) | (go_at_call 63; refine (overlaps_any _ _ _ _).mono ?_; rintro e w' ⟨rfl, g, rfl⟩) | ((with_reducible refine wp_region_up (by kernel_rfl) (by kernel_rfl) ?_); (repeat (go_big_quiet_step (first | (go_at_call 35; first | exact upq_tr (validHire_any _ _) | exact upq (validHire_any _ _)) | (go_at_call 62; first | exact upq_tr (before_any _ _ _) | exact upq (before_any _ _ _)) | (go_at_call 63; first | exact upq_tr (overlaps_any _ _ _ _) | exact upq (overlaps_any _ _ _ _))))); refine wpQuiet_nil ?_; intro _ hw'; obtain ⟨nq, hw''⟩ := hw'; subst hw''))
                      go_roundw
                      case rel => have hx := ext_lt (P := fun i => meet (hat l i) (hat l k) = false) hme.out hm'.out; exact ⟨j + 1, by omega, by go_num, hx, ex_tr (by repeat (first | exact Below.refl _ _ | refine bl_tr ?_ _ | refine bl_al ?_ _ | refine bl_dr ?_ | refine bl_up ?_ _ | refine Below.drew ?_ | refine bl_alloc ?_ _ | refine Below.setCell ?_ (by first | (simp; done) | (simp; omega)) _))⟩
                      case measure => (simp [intOf]; try omega)
                  · obtain rfl : j = k := by omega
                    have hnew := Lib.hid (okAt_true hh.out hme.out)
                    go_wp2_with (first | (go_at_call 35; refine (validHire_any _ _).mono ?_; rintro e w' ⟨rfl, g, rfl⟩) | (go_at_call 62; refine (before_any _ _ _).mono ?_; rintro e w' ⟨rfl, g, rfl⟩) | (go_at_call 63; refine (overlaps_any _ _ _ _).mono ?_; rintro e w' ⟨rfl, g, rfl⟩) | ((with_reducible refine wp_region_up (by kernel_rfl) (by kernel_rfl) ?_); (repeat (go_big_quiet_step (first | (go_at_call 35; first | exact upq_tr (validHire_any _ _) | exact upq (validHire_any _ _)) | (go_at_call 62; first | exact upq_tr (before_any _ _ _) | exact upq (before_any _ _ _)) | (go_at_call 63; first | exact upq_tr (overlaps_any _ _ _ _) | exact upq (overlaps_any _ _ _ _))))); refine wpQuiet_nil ?_; intro _ hw'; obtain ⟨nq, hw''⟩ := hw'; subst hw''))
                    go_roundw
                    case rel => have hx := ext_lt (P := fun i => okAt l n i = true) hok.out hnew.out; exact ⟨j + 1, by omega, by go_num, hx, ex_up (by repeat (first | exact Below.refl _ _ | refine bl_tr ?_ _ | refine bl_al ?_ _ | refine bl_dr ?_ | refine bl_up ?_ _ | refine Below.drew ?_ | refine bl_alloc ?_ _ | refine Below.setCell ?_ (by first | (simp; done) | (simp; omega)) _))⟩
                    case measure => (simp [intOf]; try omega)
              · obtain ⟨_, p0, p1, p2⟩ := ha (k - 1) (by omega)
                have hk0 : decide (0 < k) = true := by simp; omega
                have hk1 : (1 : Int) ≤ (k : Int) := by omega
                by_cases g4 : before (hat l (k - 1)) (hat l k) = true
                · have hh := Lib.hid (show okHead l n k = true by rw [okHead, g1, decide_eq_true g2, g4]; simp)
                  go_wp2_with (first | (go_at_call 35; refine (validHire_any _ _).mono ?_; rintro e w' ⟨rfl, g, rfl⟩) | (go_at_call 62; refine (before_any _ _ _).mono ?_; rintro e w' ⟨rfl, g, rfl⟩) | (go_at_call 63; refine (overlaps_any _ _ _ _).mono ?_; rintro e w' ⟨rfl, g, rfl⟩) | ((with_reducible refine wp_region_up (by kernel_rfl) (by kernel_rfl) ?_); (repeat (go_big_quiet_step (first | (go_at_call 35; first | exact upq_tr (validHire_any _ _) | exact upq (validHire_any _ _)) | (go_at_call 62; first | exact upq_tr (before_any _ _ _) | exact upq (before_any _ _ _)) | (go_at_call 63; first | exact upq_tr (overlaps_any _ _ _ _) | exact upq (overlaps_any _ _ _ _))))); refine wpQuiet_nil ?_; intro _ hw'; obtain ⟨nq, hw''⟩ := hw'; subst hw''))
                  clear g1 g4 g2'
                  go_loopw [51] (fun i wr => ∃ j : Nat, j ≤ k ∧ i = i64 j ∧ Hid (∀ i, i < j → meet (hat l i) (hat l k) = false) ∧ ∃ g' : Up (up w (g.al (.cells #[i64 (hat l k).m, i64 (hat l k).f, i64 (hat l k).t] 25))), wr = up w ((g.al (.cells #[i64 (hat l k).m, i64 (hat l k).f, i64 (hat l k).t] 25)).tr g')) (fun i _ => k - (intOf i).toNat)
                  case atStart => exact ⟨0, by omega, rfl, fun i hi => by omega, _, rfl⟩
                  case round =>
                    obtain ⟨j, hj, rfl, hme, g', rfl⟩ := hrel
                    by_cases hjk : j < k
                    · obtain ⟨_, d0, d1, d2⟩ := ha j (by omega)
                      by_cases q1 : (hat l k).m = (hat l j).m
                      · have q1' : ((hat l k).m == (hat l j).m) = true := by simpa using q1
                        clear q1
                        by_cases q2 : ovl (hat l k) (hat l j).f (hat l j).t = true
                        · have hf := Lib.hid (vHires_at (n := n) hlt (okAt_meet (n := n) hjk (meet_of q1' q2)))
                          go_wp2_with (first | (go_at_call 35; refine (validHire_any _ _).mono ?_; rintro e w' ⟨rfl, g, rfl⟩) | (go_at_call 62; refine (before_any _ _ _).mono ?_; rintro e w' ⟨rfl, g, rfl⟩) | (go_at_call 63; refine (overlaps_any _ _ _ _).mono ?_; rintro e w' ⟨rfl, g, rfl⟩) | ((with_reducible refine wp_region_up (by kernel_rfl) (by kernel_rfl) ?_); (repeat (go_big_quiet_step (first | (go_at_call 35; first | exact upq_tr (validHire_any _ _) | exact upq (validHire_any _ _)) | (go_at_call 62; first | exact upq_tr (before_any _ _ _) | exact upq (before_any _ _ _)) | (go_at_call 63; first | exact upq_tr (overlaps_any _ _ _ _) | exact upq (overlaps_any _ _ _ _))))); refine wpQuiet_nil ?_; intro _ hw'; obtain ⟨nq, hw''⟩ := hw'; subst hw''))
                          go_ret
                          exact ⟨ret_bool hf.out.symm, UpOf.of (by repeat (first | exact Below.refl _ _ | refine bl_tr ?_ _ | refine bl_al ?_ _ | refine bl_dr ?_ | refine bl_up ?_ _ | refine Below.drew ?_ | refine bl_alloc ?_ _ | refine Below.setCell ?_ (by first | (simp; done) | (simp; omega)) _))⟩
                        · have q2' : ovl (hat l k) (hat l j).f (hat l j).t = false := by simpa using q2
                          have hm' := Lib.hid (meet_no2 (y := hat l j) (x := hat l k) q2')
                          clear q2
                          go_wp2_with (first | (go_at_call 35; refine (validHire_any _ _).mono ?_; rintro e w' ⟨rfl, g, rfl⟩) | (go_at_call 62; refine (before_any _ _ _).mono ?_; rintro e w' ⟨rfl, g, rfl⟩) | (go_at_call 63; refine (overlaps_any _ _ _ _).mono ?_; rintro e w' ⟨rfl, g, rfl⟩) | ((with_reducible refine wp_region_up (by kernel_rfl) (by kernel_rfl) ?_); (repeat (go_big_quiet_step (first | (go_at_call 35; first | exact upq_tr (validHire_any _ _) | exact upq (validHire_any _ _)) | (go_at_call 62; first | exact upq_tr (before_any _ _ _) | exact upq (before_any _ _ _)) | (go_at_call 63; first | exact upq_tr (overlaps_any _ _ _ _) | exact upq (overlaps_any _ _ _ _))))); refine wpQuiet_nil ?_; intro _ hw'; obtain ⟨nq, hw''⟩ := hw'; subst hw''))
                          go_roundw
                          case rel => have hx := ext_lt (P := fun i => meet (hat l i) (hat l k) = false) hme.out hm'.out; exact ⟨j + 1, by omega, by go_num, hx, ex_tr (by repeat (first | exact Below.refl _ _ | refine bl_tr ?_ _ | refine bl_al ?_ _ | refine bl_dr ?_ | refine bl_up ?_ _ | refine Below.drew ?_ | refine bl_alloc ?_ _ | refine Below.setCell ?_ (by first | (simp; done) | (simp; omega)) _))⟩
                          case measure => (simp [intOf]; try omega)
                      · have q1' : ((hat l k).m == (hat l j).m) = false := by simpa using q1
                        have hm' := Lib.hid (meet_no1 (y := hat l j) (x := hat l k) q1')
                        clear q1
                        go_wp2_with (first | (go_at_call 35; refine (validHire_any _ _).mono ?_; rintro e w' ⟨rfl, g, rfl⟩) | (go_at_call 62; refine (before_any _ _ _).mono ?_; rintro e w' ⟨rfl, g, rfl⟩) | (go_at_call 63; refine (overlaps_any _ _ _ _).mono ?_; rintro e w' ⟨rfl, g, rfl⟩) | ((with_reducible refine wp_region_up (by kernel_rfl) (by kernel_rfl) ?_); (repeat (go_big_quiet_step (first | (go_at_call 35; first | exact upq_tr (validHire_any _ _) | exact upq (validHire_any _ _)) | (go_at_call 62; first | exact upq_tr (before_any _ _ _) | exact upq (before_any _ _ _)) | (go_at_call 63; first | exact upq_tr (overlaps_any _ _ _ _) | exact upq (overlaps_any _ _ _ _))))); refine wpQuiet_nil ?_; intro _ hw'; obtain ⟨nq, hw''⟩ := hw'; subst hw''))
                        go_roundw
                        case rel => have hx := ext_lt (P := fun i => meet (hat l i) (hat l k) = false) hme.out hm'.out; exact ⟨j + 1, by omega, by go_num, hx, ex_tr (by repeat (first | exact Below.refl _ _ | refine bl_tr ?_ _ | refine bl_al ?_ _ | refine bl_dr ?_ | refine bl_up ?_ _ | refine Below.drew ?_ | refine bl_alloc ?_ _ | refine Below.setCell ?_ (by first | (simp; done) | (simp; omega)) _))⟩
                        case measure => (simp [intOf]; try omega)
                    · obtain rfl : j = k := by omega
                      have hnew := Lib.hid (okAt_true hh.out hme.out)
                      go_wp2_with (first | (go_at_call 35; refine (validHire_any _ _).mono ?_; rintro e w' ⟨rfl, g, rfl⟩) | (go_at_call 62; refine (before_any _ _ _).mono ?_; rintro e w' ⟨rfl, g, rfl⟩) | (go_at_call 63; refine (overlaps_any _ _ _ _).mono ?_; rintro e w' ⟨rfl, g, rfl⟩) | ((with_reducible refine wp_region_up (by kernel_rfl) (by kernel_rfl) ?_); (repeat (go_big_quiet_step (first | (go_at_call 35; first | exact upq_tr (validHire_any _ _) | exact upq (validHire_any _ _)) | (go_at_call 62; first | exact upq_tr (before_any _ _ _) | exact upq (before_any _ _ _)) | (go_at_call 63; first | exact upq_tr (overlaps_any _ _ _ _) | exact upq (overlaps_any _ _ _ _))))); refine wpQuiet_nil ?_; intro _ hw'; obtain ⟨nq, hw''⟩ := hw'; subst hw''))
                      go_roundw
                      case rel => have hx := ext_lt (P := fun i => okAt l n i = true) hok.out hnew.out; exact ⟨j + 1, by omega, by go_num, hx, ex_up (by repeat (first | exact Below.refl _ _ | refine bl_tr ?_ _ | refine bl_al ?_ _ | refine bl_dr ?_ | refine bl_up ?_ _ | refine Below.drew ?_ | refine bl_alloc ?_ _ | refine Below.setCell ?_ (by first | (simp; done) | (simp; omega)) _))⟩
                      case measure => (simp [intOf]; try omega)
                · have g4' : before (hat l (k - 1)) (hat l k) = false := by simpa using g4
                  have hf := Lib.hid (vHires_at (n := n) hlt (okAt_head (by simp [okHead, g4', g3])))
                  clear g4
                  go_wp2_with (first | (go_at_call 35; refine (validHire_any _ _).mono ?_; rintro e w' ⟨rfl, g, rfl⟩) | (go_at_call 62; refine (before_any _ _ _).mono ?_; rintro e w' ⟨rfl, g, rfl⟩) | (go_at_call 63; refine (overlaps_any _ _ _ _).mono ?_; rintro e w' ⟨rfl, g, rfl⟩) | ((with_reducible refine wp_region_up (by kernel_rfl) (by kernel_rfl) ?_); (repeat (go_big_quiet_step (first | (go_at_call 35; first | exact upq_tr (validHire_any _ _) | exact upq (validHire_any _ _)) | (go_at_call 62; first | exact upq_tr (before_any _ _ _) | exact upq (before_any _ _ _)) | (go_at_call 63; first | exact upq_tr (overlaps_any _ _ _ _) | exact upq (overlaps_any _ _ _ _))))); refine wpQuiet_nil ?_; intro _ hw'; obtain ⟨nq, hw''⟩ := hw'; subst hw''))
                  go_ret
                  exact ⟨ret_bool hf.out.symm, UpOf.of (by repeat (first | exact Below.refl _ _ | refine bl_tr ?_ _ | refine bl_al ?_ _ | refine bl_dr ?_ | refine bl_up ?_ _ | refine Below.drew ?_ | refine bl_alloc ?_ _ | refine Below.setCell ?_ (by first | (simp; done) | (simp; omega)) _))⟩
            · have g2' : decide (n ≤ (hat l k).m) = true := by simp; omega
              have hf := Lib.hid (vHires_at (n := n) hlt (okAt_head (by simp [okHead, g2])))
              go_wp2_with (first | (go_at_call 35; refine (validHire_any _ _).mono ?_; rintro e w' ⟨rfl, g, rfl⟩) | (go_at_call 62; refine (before_any _ _ _).mono ?_; rintro e w' ⟨rfl, g, rfl⟩) | (go_at_call 63; refine (overlaps_any _ _ _ _).mono ?_; rintro e w' ⟨rfl, g, rfl⟩) | ((with_reducible refine wp_region_up (by kernel_rfl) (by kernel_rfl) ?_); (repeat (go_big_quiet_step (first | (go_at_call 35; first | exact upq_tr (validHire_any _ _) | exact upq (validHire_any _ _)) | (go_at_call 62; first | exact upq_tr (before_any _ _ _) | exact upq (before_any _ _ _)) | (go_at_call 63; first | exact upq_tr (overlaps_any _ _ _ _) | exact upq (overlaps_any _ _ _ _))))); refine wpQuiet_nil ?_; intro _ hw'; obtain ⟨nq, hw''⟩ := hw'; subst hw''))
              go_ret
              exact ⟨ret_bool hf.out.symm, UpOf.of (by repeat (first | exact Below.refl _ _ | refine bl_tr ?_ _ | refine bl_al ?_ _ | refine bl_dr ?_ | refine bl_up ?_ _ | refine Below.drew ?_ | refine bl_alloc ?_ _ | refine Below.setCell ?_ (by first | (simp; done) | (simp; omega)) _))⟩
          · have g1' : vHire (hat l k) = false := by simpa using g1
            have hf := Lib.hid (vHires_at (n := n) hlt (okAt_head (by simp [okHead, g1'])))
            clear g1
            go_wp2_with (first | (go_at_call 35; refine (validHire_any _ _).mono ?_; rintro e w' ⟨rfl, g, rfl⟩) | (go_at_call 62; refine (before_any _ _ _).mono ?_; rintro e w' ⟨rfl, g, rfl⟩) | (go_at_call 63; refine (overlaps_any _ _ _ _).mono ?_; rintro e w' ⟨rfl, g, rfl⟩) | ((with_reducible refine wp_region_up (by kernel_rfl) (by kernel_rfl) ?_); (repeat (go_big_quiet_step (first | (go_at_call 35; first | exact upq_tr (validHire_any _ _) | exact upq (validHire_any _ _)) | (go_at_call 62; first | exact upq_tr (before_any _ _ _) | exact upq (before_any _ _ _)) | (go_at_call 63; first | exact upq_tr (overlaps_any _ _ _ _) | exact upq (overlaps_any _ _ _ _))))); refine wpQuiet_nil ?_; intro _ hw'; obtain ⟨nq, hw''⟩ := hw'; subst hw''))
            go_ret
            exact ⟨ret_bool hf.out.symm, UpOf.of (by repeat (first | exact Below.refl _ _ | refine bl_tr ?_ _ | refine bl_al ?_ _ | refine bl_dr ?_ | refine bl_up ?_ _ | refine Below.drew ?_ | refine bl_alloc ?_ _ | refine Below.setCell ?_ (by first | (simp; done) | (simp; omega)) _))⟩
        · obtain rfl : k = l.length := by omega
          have hf := Lib.hid (vHires_true h1 h2 hok.out)
          go_wp2_with (first | (go_at_call 35; refine (validHire_any _ _).mono ?_; rintro e w' ⟨rfl, g, rfl⟩) | (go_at_call 62; refine (before_any _ _ _).mono ?_; rintro e w' ⟨rfl, g, rfl⟩) | (go_at_call 63; refine (overlaps_any _ _ _ _).mono ?_; rintro e w' ⟨rfl, g, rfl⟩) | ((with_reducible refine wp_region_up (by kernel_rfl) (by kernel_rfl) ?_); (repeat (go_big_quiet_step (first | (go_at_call 35; first | exact upq_tr (validHire_any _ _) | exact upq (validHire_any _ _)) | (go_at_call 62; first | exact upq_tr (before_any _ _ _) | exact upq (before_any _ _ _)) | (go_at_call 63; first | exact upq_tr (overlaps_any _ _ _ _) | exact upq (overlaps_any _ _ _ _))))); refine wpQuiet_nil ?_; intro _ hw'; obtain ⟨nq, hw''⟩ := hw'; subst hw''))
          go_ret
          exact ⟨ret_bool hf.out.symm, UpOf.of (by repeat (first | exact Below.refl _ _ | refine bl_tr ?_ _ | refine bl_al ?_ _ | refine bl_dr ?_ | refine bl_up ?_ _ | refine Below.drew ?_ | refine bl_alloc ?_ _ | refine Below.setCell ?_ (by first | (simp; done) | (simp; omega)) _))⟩
    · have h2' : ¬ ((l.length : Int) ≤ 60) := by omega
      go_enter Tryd.func30, Tryd.ntmps30
      go_wp2_with (first | (go_at_call 58; refine (between_any _ _ _ _).mono ?_; rintro e w' ⟨rfl, rfl⟩) | ((with_reducible refine wp_region_up (by kernel_rfl) (by kernel_rfl) ?_); (repeat (go_big_quiet_step (first | (go_at_call 58; first | exact upq_tr_same (between_any _ _ _ _) | exact upq_same (between_any _ _ _ _))))); refine wpQuiet_nil ?_; intro _ hw'; obtain ⟨nq, hw''⟩ := hw'; subst hw''))
      go_ret
      exact ⟨ret_bool (vHires_len (by omega)).symm, UpOf.of (by repeat (first | exact Below.refl _ _ | refine bl_tr ?_ _ | refine bl_al ?_ _ | refine bl_dr ?_ | refine bl_up ?_ _ | refine Below.drew ?_ | refine bl_alloc ?_ _ | refine Below.setCell ?_ (by first | (simp; done) | (simp; omega)) _))⟩
  · have h1' : btw n 1 20 = false := by simpa using h1
    clear h1
    go_enter Tryd.func30, Tryd.ntmps30
    go_wp2_with (first | (go_at_call 58; refine (between_any _ _ _ _).mono ?_; rintro e w' ⟨rfl, rfl⟩) | ((with_reducible refine wp_region_up (by kernel_rfl) (by kernel_rfl) ?_); (repeat (go_big_quiet_step (first | (go_at_call 58; first | exact upq_tr_same (between_any _ _ _ _) | exact upq_same (between_any _ _ _ _))))); refine wpQuiet_nil ?_; intro _ hw'; obtain ⟨nq, hw''⟩ := hw'; subst hw''))
    go_ret
    exact ⟨ret_bool (vHires_n h1').symm, UpOf.of (by repeat (first | exact Below.refl _ _ | refine bl_tr ?_ _ | refine bl_al ?_ _ | refine bl_dr ?_ | refine bl_up ?_ _ | refine Below.drew ?_ | refine bl_alloc ?_ _ | refine Below.setCell ?_ (by first | (simp; done) | (simp; omega)) _))⟩
set_option maxRecDepth 10000 in
set_option maxHeartbeats 1000000 in
theorem l25Ok_any (A : Option Addr) (c : Nat) (l : List Hire) (n : Int) (w : World) (h : Rds w 3 A l.length (hcs l)) (hn : l.length ≤ 100000000) :
    Calls Tryd.prog 55 #[.slice A l.length c, i64 n] w fun e w' => e = .returned (.bool (vHires l n)) ∧ UpOf w w' := by
  go_enter Tryd.func55, Tryd.ntmps55
  go_wp2_with (first | ((with_reducible refine wp_region_up (by kernel_rfl) (by kernel_rfl) ?_); (repeat (go_big_quiet_step (fail))); refine wpQuiet_nil ?_; intro _ hw'; obtain ⟨nq, hw''⟩ := hw'; subst hw''))
  go_loopw [5] (fun i wr => ∃ k : Nat, k ≤ l.length ∧ i = i64 k ∧ Hid (∀ i, i < k → okAt l n i = true) ∧ ∃ g : Up w, wr = up w g) (fun i _ => l.length - (intOf i).toNat)
  case atStart => exact ⟨0, by omega, rfl, fun i hi => by omega, ⟨w, Below.refl _ _⟩, rfl⟩
  case round =>
    obtain ⟨k, hk, rfl, hok, g, rfl⟩ := hrel
    by_cases hlt : k < l.length
    · obtain ⟨b, off, rfl, hb, ha⟩ := hire_at' h hlt
      obtain ⟨_, c0, c1, c2⟩ := ha k hlt
      by_cases g1 : vHire (hat l k) = true
      · by_cases g2 : (hat l k).m < n
        · have g2' : decide (n ≤ (hat l k).m) = false := by simp; omega
          by_cases g3 : k = 0
          · have hh := Lib.hid (show okHead l n k = true by rw [okHead, g1, decide_eq_true g2, decide_eq_true g3]; rfl)
            have hk0 : decide (0 < k) = false := by simp; omega
            clear g3
            go_wp2_with (first | (go_at_call 33; refine (l25One_any _ _ _ _ ((ha k hlt).up _)).mono ?_; rintro e w' ⟨rfl, g, rfl⟩) | ((with_reducible refine wp_region_up (by kernel_rfl) (by kernel_rfl) ?_); (repeat (go_big_quiet_step (first | (go_at_call 33; first | exact upq_tr (l25One_any _ _ _ _ ((ha k hlt).up _)) | exact upq (l25One_any _ _ _ _ ((ha k hlt).up _)))))); refine wpQuiet_nil ?_; intro _ hw'; obtain ⟨nq, hw''⟩ := hw'; subst hw''))
            clear g1 g2'
            go_loopw [6] (fun i wr => ∃ j : Nat, j ≤ k ∧ i = i64 j ∧ Hid (∀ i, i < j → meet (hat l i) (hat l k) = false) ∧ ∃ g' : Up w, wr = up w g') (fun i _ => k - (intOf i).toNat)
            case atStart => exact ⟨0, by omega, rfl, fun i hi => by omega, ex_up (by repeat (first | exact Below.refl _ _ | refine bl_tr ?_ _ | refine bl_al ?_ _ | refine bl_dr ?_ | refine bl_up ?_ _ | refine Below.drew ?_ | refine bl_alloc ?_ _ | refine Below.setCell ?_ (by first | (simp; done) | (simp; omega)) _))⟩
            case round =>
              obtain ⟨j, hj, rfl, hme, g', rfl⟩ := hrel
              by_cases hjk : j < k
              · by_cases q2 : meet (hat l j) (hat l k) = true
                · have hf := Lib.hid (vHires_at (n := n) hlt (okAt_meet (n := n) hjk q2))
                  go_wp2_with (first | (go_at_call 68; refine (ret_as (l25Meet_any _ _ _ _ _ _ _ ((ha j (by omega)).up _) ((ha k hlt).up _)) q2).mono ?_; rintro e w' ⟨rfl, g, rfl⟩) | ((with_reducible refine wp_region_up (by kernel_rfl) (by kernel_rfl) ?_); (repeat (go_big_quiet_step (first | (go_at_call 68; first | exact upq_tr (ret_as (l25Meet_any _ _ _ _ _ _ _ ((ha j (by omega)).up _) ((ha k hlt).up _)) q2) | exact upq (ret_as (l25Meet_any _ _ _ _ _ _ _ ((ha j (by omega)).up _) ((ha k hlt).up _)) q2))))); refine wpQuiet_nil ?_; intro _ hw'; obtain ⟨nq, hw''⟩ := hw'; subst hw''))
                  go_ret
                  exact ⟨ret_bool hf.out.symm, UpOf.of (by repeat (first | exact Below.refl _ _ | refine bl_tr ?_ _ | refine bl_al ?_ _ | refine bl_dr ?_ | refine bl_up ?_ _ | refine Below.drew ?_ | refine bl_alloc ?_ _ | refine Below.setCell ?_ (by first | (simp; done) | (simp; omega)) _))⟩
                · have q2' : meet (hat l j) (hat l k) = false := by simpa using q2
                  have hm' := Lib.hid q2'
                  clear q2
                  go_wp2_with (first | (go_at_call 68; refine (ret_as (l25Meet_any _ _ _ _ _ _ _ ((ha j (by omega)).up _) ((ha k hlt).up _)) hm'.out).mono ?_; rintro e w' ⟨rfl, g, rfl⟩) | ((with_reducible refine wp_region_up (by kernel_rfl) (by kernel_rfl) ?_); (repeat (go_big_quiet_step (first | (go_at_call 68; first | exact upq_tr (ret_as (l25Meet_any _ _ _ _ _ _ _ ((ha j (by omega)).up _) ((ha k hlt).up _)) hm'.out) | exact upq (ret_as (l25Meet_any _ _ _ _ _ _ _ ((ha j (by omega)).up _) ((ha k hlt).up _)) hm'.out))))); refine wpQuiet_nil ?_; intro _ hw'; obtain ⟨nq, hw''⟩ := hw'; subst hw''))
                  go_roundw
                  case rel => have hx := ext_lt (P := fun i => meet (hat l i) (hat l k) = false) hme.out hm'.out; exact ⟨j + 1, by omega, by go_num, hx, ex_up (by repeat (first | exact Below.refl _ _ | refine bl_tr ?_ _ | refine bl_al ?_ _ | refine bl_dr ?_ | refine bl_up ?_ _ | refine Below.drew ?_ | refine bl_alloc ?_ _ | refine Below.setCell ?_ (by first | (simp; done) | (simp; omega)) _))⟩
                  case measure => (simp [intOf]; try omega)
              · obtain rfl : j = k := by omega
                have hnew := Lib.hid (okAt_true hh.out hme.out)
                go_wp2_with (first | ((with_reducible refine wp_region_up (by kernel_rfl) (by kernel_rfl) ?_); (repeat (go_big_quiet_step (fail))); refine wpQuiet_nil ?_; intro _ hw'; obtain ⟨nq, hw''⟩ := hw'; subst hw''))
                go_roundw
                case rel => have hx := ext_lt (P := fun i => okAt l n i = true) hok.out hnew.out; exact ⟨j + 1, by omega, by go_num, hx, ex_up (by repeat (first | exact Below.refl _ _ | refine bl_tr ?_ _ | refine bl_al ?_ _ | refine bl_dr ?_ | refine bl_up ?_ _ | refine Below.drew ?_ | refine bl_alloc ?_ _ | refine Below.setCell ?_ (by first | (simp; done) | (simp; omega)) _))⟩
                case measure => (simp [intOf]; try omega)
          · have hk0 : decide (0 < k) = true := by simp; omega
            have hk1 : (1 : Int) ≤ (k : Int) := by omega
            by_cases g4 : before (hat l (k - 1)) (hat l k) = true
            · have hh := Lib.hid (show okHead l n k = true by rw [okHead, g1, decide_eq_true g2, g4]; simp)
              go_wp2_with (first | (go_at_call 33; refine (l25One_any _ _ _ _ ((ha k hlt).up _)).mono ?_; rintro e w' ⟨rfl, g, rfl⟩) | (go_at_call 69; refine (l25Before_any _ _ _ _ _ _ _ ((ha (k - 1) (by omega)).up _) ((ha k hlt).up _)).mono ?_; rintro e w' ⟨rfl, g, rfl⟩) | ((with_reducible refine wp_region_up (by kernel_rfl) (by kernel_rfl) ?_); (repeat (go_big_quiet_step (first | (go_at_call 33; first | exact upq_tr (l25One_any _ _ _ _ ((ha k hlt).up _)) | exact upq (l25One_any _ _ _ _ ((ha k hlt).up _))) | (go_at_call 69; first | exact upq_tr (l25Before_any _ _ _ _ _ _ _ ((ha (k - 1) (by omega)).up _) ((ha k hlt).up _)) | exact upq (l25Before_any _ _ _ _ _ _ _ ((ha (k - 1) (by omega)).up _) ((ha k hlt).up _)))))); refine wpQuiet_nil ?_; intro _ hw'; obtain ⟨nq, hw''⟩ := hw'; subst hw''))
              clear g1 g4 g2'
              go_loopw [6] (fun i wr => ∃ j : Nat, j ≤ k ∧ i = i64 j ∧ Hid (∀ i, i < j → meet (hat l i) (hat l k) = false) ∧ ∃ g' : Up w, wr = up w g') (fun i _ => k - (intOf i).toNat)
              case atStart => exact ⟨0, by omega, rfl, fun i hi => by omega, ex_up (by repeat (first | exact Below.refl _ _ | refine bl_tr ?_ _ | refine bl_al ?_ _ | refine bl_dr ?_ | refine bl_up ?_ _ | refine Below.drew ?_ | refine bl_alloc ?_ _ | refine Below.setCell ?_ (by first | (simp; done) | (simp; omega)) _))⟩
              case round =>
                obtain ⟨j, hj, rfl, hme, g', rfl⟩ := hrel
                by_cases hjk : j < k
                · by_cases q2 : meet (hat l j) (hat l k) = true
                  · have hf := Lib.hid (vHires_at (n := n) hlt (okAt_meet (n := n) hjk q2))
                    go_wp2_with (first | (go_at_call 68; refine (ret_as (l25Meet_any _ _ _ _ _ _ _ ((ha j (by omega)).up _) ((ha k hlt).up _)) q2).mono ?_; rintro e w' ⟨rfl, g, rfl⟩) | ((with_reducible refine wp_region_up (by kernel_rfl) (by kernel_rfl) ?_); (repeat (go_big_quiet_step (first | (go_at_call 68; first | exact upq_tr (ret_as (l25Meet_any _ _ _ _ _ _ _ ((ha j (by omega)).up _) ((ha k hlt).up _)) q2) | exact upq (ret_as (l25Meet_any _ _ _ _ _ _ _ ((ha j (by omega)).up _) ((ha k hlt).up _)) q2))))); refine wpQuiet_nil ?_; intro _ hw'; obtain ⟨nq, hw''⟩ := hw'; subst hw''))
                    go_ret
                    exact ⟨ret_bool hf.out.symm, UpOf.of (by repeat (first | exact Below.refl _ _ | refine bl_tr ?_ _ | refine bl_al ?_ _ | refine bl_dr ?_ | refine bl_up ?_ _ | refine Below.drew ?_ | refine bl_alloc ?_ _ | refine Below.setCell ?_ (by first | (simp; done) | (simp; omega)) _))⟩
                  · have q2' : meet (hat l j) (hat l k) = false := by simpa using q2
                    have hm' := Lib.hid q2'
                    clear q2
                    go_wp2_with (first | (go_at_call 68; refine (ret_as (l25Meet_any _ _ _ _ _ _ _ ((ha j (by omega)).up _) ((ha k hlt).up _)) hm'.out).mono ?_; rintro e w' ⟨rfl, g, rfl⟩) | ((with_reducible refine wp_region_up (by kernel_rfl) (by kernel_rfl) ?_); (repeat (go_big_quiet_step (first | (go_at_call 68; first | exact upq_tr (ret_as (l25Meet_any _ _ _ _ _ _ _ ((ha j (by omega)).up _) ((ha k hlt).up _)) hm'.out) | exact upq (ret_as (l25Meet_any _ _ _ _ _ _ _ ((ha j (by omega)).up _) ((ha k hlt).up _)) hm'.out))))); refine wpQuiet_nil ?_; intro _ hw'; obtain ⟨nq, hw''⟩ := hw'; subst hw''))
                    go_roundw
                    case rel => have hx := ext_lt (P := fun i => meet (hat l i) (hat l k) = false) hme.out hm'.out; exact ⟨j + 1, by omega, by go_num, hx, ex_up (by repeat (first | exact Below.refl _ _ | refine bl_tr ?_ _ | refine bl_al ?_ _ | refine bl_dr ?_ | refine bl_up ?_ _ | refine Below.drew ?_ | refine bl_alloc ?_ _ | refine Below.setCell ?_ (by first | (simp; done) | (simp; omega)) _))⟩
                    case measure => (simp [intOf]; try omega)
                · obtain rfl : j = k := by omega
                  have hnew := Lib.hid (okAt_true hh.out hme.out)
                  go_wp2_with (first | ((with_reducible refine wp_region_up (by kernel_rfl) (by kernel_rfl) ?_); (repeat (go_big_quiet_step (fail))); refine wpQuiet_nil ?_; intro _ hw'; obtain ⟨nq, hw''⟩ := hw'; subst hw''))
                  go_roundw
                  case rel => have hx := ext_lt (P := fun i => okAt l n i = true) hok.out hnew.out; exact ⟨j + 1, by omega, by go_num, hx, ex_up (by repeat (first | exact Below.refl _ _ | refine bl_tr ?_ _ | refine bl_al ?_ _ | refine bl_dr ?_ | refine bl_up ?_ _ | refine Below.drew ?_ | refine bl_alloc ?_ _ | refine Below.setCell ?_ (by first | (simp; done) | (simp; omega)) _))⟩
                  case measure => (simp [intOf]; try omega)
            · have g4' : before (hat l (k - 1)) (hat l k) = false := by simpa using g4
              have hf := Lib.hid (vHires_at (n := n) hlt (okAt_head (by simp [okHead, g4', g3])))
              clear g4
              go_wp2_with (first | (go_at_call 33; refine (l25One_any _ _ _ _ ((ha k hlt).up _)).mono ?_; rintro e w' ⟨rfl, g, rfl⟩) | (go_at_call 69; refine (l25Before_any _ _ _ _ _ _ _ ((ha (k - 1) (by omega)).up _) ((ha k hlt).up _)).mono ?_; rintro e w' ⟨rfl, g, rfl⟩) | ((with_reducible refine wp_region_up (by kernel_rfl) (by kernel_rfl) ?_); (repeat (go_big_quiet_step (first | (go_at_call 33; first | exact upq_tr (l25One_any _ _ _ _ ((ha k hlt).up _)) | exact upq (l25One_any _ _ _ _ ((ha k hlt).up _))) | (go_at_call 69; first | exact upq_tr (l25Before_any _ _ _ _ _ _ _ ((ha (k - 1) (by omega)).up _) ((ha k hlt).up _)) | exact upq (l25Before_any _ _ _ _ _ _ _ ((ha (k - 1) (by omega)).up _) ((ha k hlt).up _)))))); refine wpQuiet_nil ?_; intro _ hw'; obtain ⟨nq, hw''⟩ := hw'; subst hw''))
              go_ret
              exact ⟨ret_bool hf.out.symm, UpOf.of (by repeat (first | exact Below.refl _ _ | refine bl_tr ?_ _ | refine bl_al ?_ _ | refine bl_dr ?_ | refine bl_up ?_ _ | refine Below.drew ?_ | refine bl_alloc ?_ _ | refine Below.setCell ?_ (by first | (simp; done) | (simp; omega)) _))⟩
        · have g2' : decide (n ≤ (hat l k).m) = true := by simp; omega
          have hf := Lib.hid (vHires_at (n := n) hlt (okAt_head (by simp [okHead, g2])))
          go_wp2_with (first | (go_at_call 33; refine (l25One_any _ _ _ _ ((ha k hlt).up _)).mono ?_; rintro e w' ⟨rfl, g, rfl⟩) | ((with_reducible refine wp_region_up (by kernel_rfl) (by kernel_rfl) ?_); (repeat (go_big_quiet_step (first | (go_at_call 33; first | exact upq_tr (l25One_any _ _ _ _ ((ha k hlt).up _)) | exact upq (l25One_any _ _ _ _ ((ha k hlt).up _)))))); refine wpQuiet_nil ?_; intro _ hw'; obtain ⟨nq, hw''⟩ := hw'; subst hw''))
          go_ret
          exact ⟨ret_bool hf.out.symm, UpOf.of (by repeat (first | exact Below.refl _ _ | refine bl_tr ?_ _ | refine bl_al ?_ _ | refine bl_dr ?_ | refine bl_up ?_ _ | refine Below.drew ?_ | refine bl_alloc ?_ _ | refine Below.setCell ?_ (by first | (simp; done) | (simp; omega)) _))⟩
      · have g1' : vHire (hat l k) = false := by simpa using g1
        have hf := Lib.hid (vHires_at (n := n) hlt (okAt_head (by simp [okHead, g1'])))
        clear g1
        go_wp2_with (first | (go_at_call 33; refine (l25One_any _ _ _ _ ((ha k hlt).up _)).mono ?_; rintro e w' ⟨rfl, g, rfl⟩) | ((with_reducible refine wp_region_up (by kernel_rfl) (by kernel_rfl) ?_); (repeat (go_big_quiet_step (first | (go_at_call 33; first | exact upq_tr (l25One_any _ _ _ _ ((ha k hlt).up _)) | exact upq (l25One_any _ _ _ _ ((ha k hlt).up _)))))); refine wpQuiet_nil ?_; intro _ hw'; obtain ⟨nq, hw''⟩ := hw'; subst hw''))
        go_ret
        exact ⟨ret_bool hf.out.symm, UpOf.of (by repeat (first | exact Below.refl _ _ | refine bl_tr ?_ _ | refine bl_al ?_ _ | refine bl_dr ?_ | refine bl_up ?_ _ | refine Below.drew ?_ | refine bl_alloc ?_ _ | refine Below.setCell ?_ (by first | (simp; done) | (simp; omega)) _))⟩
    · obtain rfl : k = l.length := by omega
      by_cases h1 : btw n 1 20 = true
      · by_cases h2 : l.length ≤ 60
        · have hf := Lib.hid (vHires_true h1 h2 hok.out)
          have h2' : decide ((l.length : Int) ≤ 60) = true := by simp; omega
          go_wp2_with (first | (go_at_call 59; refine (in_any _ _ _ _).mono ?_; rintro e w' ⟨rfl, rfl⟩) | ((with_reducible refine wp_region_up (by kernel_rfl) (by kernel_rfl) ?_); (repeat (go_big_quiet_step (first | (go_at_call 59; first | exact upq_tr_same (in_any _ _ _ _) | exact upq_same (in_any _ _ _ _))))); refine wpQuiet_nil ?_; intro _ hw'; obtain ⟨nq, hw''⟩ := hw'; subst hw''))
          go_ret
          exact ⟨ret_bool hf.out.symm, UpOf.of (by repeat (first | exact Below.refl _ _ | refine bl_tr ?_ _ | refine bl_al ?_ _ | refine bl_dr ?_ | refine bl_up ?_ _ | refine Below.drew ?_ | refine bl_alloc ?_ _ | refine Below.setCell ?_ (by first | (simp; done) | (simp; omega)) _))⟩
        · have hf := Lib.hid (vHires_len (n := n) (show 60 < l.length by omega))
          have h2' : decide ((l.length : Int) ≤ 60) = false := by simp; omega
          go_wp2_with (first | (go_at_call 59; refine (in_any _ _ _ _).mono ?_; rintro e w' ⟨rfl, rfl⟩) | ((with_reducible refine wp_region_up (by kernel_rfl) (by kernel_rfl) ?_); (repeat (go_big_quiet_step (first | (go_at_call 59; first | exact upq_tr_same (in_any _ _ _ _) | exact upq_same (in_any _ _ _ _))))); refine wpQuiet_nil ?_; intro _ hw'; obtain ⟨nq, hw''⟩ := hw'; subst hw''))
          go_ret
          exact ⟨ret_bool hf.out.symm, UpOf.of (by repeat (first | exact Below.refl _ _ | refine bl_tr ?_ _ | refine bl_al ?_ _ | refine bl_dr ?_ | refine bl_up ?_ _ | refine Below.drew ?_ | refine bl_alloc ?_ _ | refine Below.setCell ?_ (by first | (simp; done) | (simp; omega)) _))⟩
      · have h1' : btw n 1 20 = false := by simpa using h1
        have hf := Lib.hid (vHires_n (l := l) h1')
        clear h1
        go_wp2_with (first | (go_at_call 59; refine (in_any _ _ _ _).mono ?_; rintro e w' ⟨rfl, rfl⟩) | ((with_reducible refine wp_region_up (by kernel_rfl) (by kernel_rfl) ?_); (repeat (go_big_quiet_step (first | (go_at_call 59; first | exact upq_tr_same (in_any _ _ _ _) | exact upq_same (in_any _ _ _ _))))); refine wpQuiet_nil ?_; intro _ hw'; obtain ⟨nq, hw''⟩ := hw'; subst hw''))
        go_ret
        exact ⟨ret_bool hf.out.symm, UpOf.of (by repeat (first | exact Below.refl _ _ | refine bl_tr ?_ _ | refine bl_al ?_ _ | refine bl_dr ?_ | refine bl_up ?_ _ | refine Below.drew ?_ | refine bl_alloc ?_ _ | refine Below.setCell ?_ (by first | (simp; done) | (simp; omega)) _))⟩
theorem specValidHires_any (A : Option Addr) (c : Nat) (l : List Hire) (n : Int) (w : World) (h : Rds w 3 A l.length (hcs l)) (hn : l.length ≤ 100000000) :
    Calls Tryd.prog 31 #[.slice A l.length c, i64 n] w fun e w' => e = .returned (.bool (vHires l n)) ∧ UpOf w w' := by
  go_enter Tryd.func31, Tryd.ntmps31
  go_wp2_with (first | (go_at_call 55; refine (l25Ok_any _ _ _ _ _ h hn).mono ?_; rintro e w' ⟨rfl, g, rfl⟩) | ((with_reducible refine wp_region_up (by kernel_rfl) (by kernel_rfl) ?_); (repeat (go_big_quiet_step (first | (go_at_call 55; first | exact upq_tr (l25Ok_any _ _ _ _ _ h hn) | exact upq (l25Ok_any _ _ _ _ _ h hn))))); refine wpQuiet_nil ?_; intro _ hw'; obtain ⟨nq, hw''⟩ := hw'; subst hw''))
  go_ret
  exact ⟨rfl, UpOf.of (by repeat (first | exact Below.refl _ _ | refine bl_tr ?_ _ | refine bl_al ?_ _ | refine bl_dr ?_ | refine bl_up ?_ _ | refine Below.drew ?_ | refine bl_alloc ?_ _ | refine Below.setCell ?_ (by first | (simp; done) | (simp; omega)) _))⟩
end Go.Proofs.YtiagckbdofeecaaDoor
namespace Go.Proofs.YtiagckbdofeecaaDoor
open Go.RowKit
def cnt (P : Nat → Bool) : Nat → Nat
  | 0 => 0
  | k + 1 => cnt P k + if P k then 1 else 0
theorem cnt_le (P : Nat → Bool) (k : Nat) : cnt P k ≤ k := by
  induction k with
  | zero => simp [cnt]
  | succ k ih => rw [cnt]; split <;> omega
theorem cnt_yes {P : Nat → Bool} {k : Nat} (h : P k = true) : cnt P (k + 1) = cnt P k + 1 := by rw [cnt, if_pos h]
theorem cnt_no {P : Nat → Bool} {k : Nat} (h : P k = false) : cnt P (k + 1) = cnt P k := by rw [cnt, if_neg (by simp [h])]; rfl
def isOut (l : List Hire) (d : Int) (i : Nat) : Bool := ovl (hat l i) d (d + 1)
def outN (l : List Hire) (d : Int) : Nat := cnt (isOut l d) l.length
def mostOut (l : List Hire) : Nat → Int
  | 0 => 0
  | k + 1 => max (mostOut l k) (outN l (hat l k).f)
theorem mostOut_bd (l : List Hire) (k : Nat) : 0 ≤ mostOut l k ∧ mostOut l k ≤ l.length := by
  induction k with
  | zero => simp [mostOut]
  | succ k ih => rw [mostOut]; have := cnt_le (isOut l (hat l k).f) l.length; unfold outN; omega
theorem ret_two {a b c d : Int} (h : a = b) (h' : c = d) : Ending.returned (.tuple #[i64 a, i64 c]) = .returned (.tuple #[i64 b, i64 d]) := by rw [h, h']

end Go.Proofs.YtiagckbdofeecaaDoor
namespace Go.Proofs.YtiagckbdofeecaaDoor
open Go.RowKit
def outR (l : List Hire) (n d : Int) : Int × Int := if vHires l n = true then if btw d 0 3650 = true then (outN l d, 0) else (0, 2) else (0, 1)
def fewR (l : List Hire) (n : Int) : Int × Int := if vHires l n = true then (mostOut l l.length, 0) else (0, 1)
theorem vHires_len60 {l : List Hire} {n : Int} (h : vHires l n = true) : l.length ≤ 60 := by
  simp only [vHires, Bool.and_eq_true, decide_eq_true_eq] at h
  omega
theorem vHires_one {l : List Hire} {n : Int} (h : vHires l n = true) {i : Nat} (hi : i < l.length) : vHire (hat l i) = true ∧ (hat l i).m < n := by
  simp only [vHires, Bool.and_eq_true, decide_eq_true_eq, List.all_eq_true, List.mem_range] at h
  have := h.2 i hi
  simp only [okAt, okHead, Bool.and_eq_true, decide_eq_true_eq] at this
  exact ⟨this.1.1.1, this.1.1.2⟩
theorem vHire_bd {h : Hire} (g : vHire h = true) : 0 ≤ h.m ∧ h.m ≤ 19 ∧ 0 ≤ h.f ∧ h.f < h.t ∧ h.t ≤ 3650 := by
  simp [vHire, btw, days] at g
  omega
theorem ret_v {a b : Int} (h : a = b) : i64 a = i64 b := by rw [h]
theorem btw_false {d lo hi : Int} (h : ¬ btw d lo hi = true) : btw d lo hi = false := by simpa using h
end Go.Proofs.YtiagckbdofeecaaDoor

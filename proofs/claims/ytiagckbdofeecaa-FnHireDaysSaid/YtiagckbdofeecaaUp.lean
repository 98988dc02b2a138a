/-
  Worlds that have grown: 'up w g' is a world in which all that was in w is as it was. Facts on cells of w are seen through it by the walk's own simp set. No condition.
-/
import Derived.WalkKit
import Derived.ProofKit
import Derived.Lib.Hide
import Derived.Deep.RegionHeld3
import Derived.Deep.DeepCutAuto
import Derived.BigQuiet
import Derived.Deep.Light
namespace Go.Proofs.Ytiagckbdofeecaa
open Go.RowKit

/-- a world that has grown from w: nothing that existed has changed -/
structure Up (w : World) where
  wd : World
  below : Below w.heap.size w wd
def up (w : World) (g : Up w) : World := g.wd
instance (w : World) : Nonempty (Up w) := ⟨⟨w, Below.refl _ _⟩⟩
section
variable {w : World} {g : Up w}
theorem up_below (w : World) (g : Up w) : Below w.heap.size w (up w g) := g.below
theorem cell_up (a : Addr) (h : a.block < w.heap.size) : (up w g).cell? a = w.cell? a := g.below.cell h
theorem frozen_up (a : Addr) (h : a.block < w.heap.size) : (up w g).frozen? a = w.frozen? a := g.below.frozen h
theorem heap_up (k : Nat) (h : k < w.heap.size) : (up w g).heap[k]? = w.heap[k]? := g.below.block k h
theorem le_up (k : Nat) (h : k ≤ w.heap.size) : k ≤ (up w g).heap.size := Nat.le_trans h g.below.size
theorem lt_up (k : Nat) (h : k < w.heap.size) : k < (up w g).heap.size := Nat.lt_of_lt_of_le h g.below.size
theorem le_up1 (k : Nat) (h : k ≤ w.heap.size) : k ≤ (up w g).heap.size + 1 := Nat.le_succ_of_le (le_up k h)
theorem le_up2 (k : Nat) (h : k ≤ w.heap.size) : k ≤ (up w g).heap.size + 2 := Nat.le_succ_of_le (le_up1 k h)
theorem lt_up1 (k : Nat) (h : k ≤ w.heap.size) : k < (up w g).heap.size + 1 := Nat.lt_succ_of_le (le_up k h)
theorem lt_up2 (k : Nat) (h : k ≤ w.heap.size) : k < (up w g).heap.size + 2 := Nat.lt_succ_of_le (le_up1 k h)
theorem ne_up (k : Nat) (h : k < w.heap.size) : (k = (up w g).heap.size) = False := by
  have := lt_up (g := g) k h
  simp; omega
theorem ne_up' (k : Nat) (h : k < w.heap.size) : ((up w g).heap.size = k) = False := by
  have := lt_up (g := g) k h
  simp; omega
end
/-- two steps; a draw; a new block -/
def Up.tr {w : World} (g : Up w) (h : Up (up w g)) : Up w := ⟨up (up w g) h, g.below.trans (h.below.mono g.below.size)⟩
def Up.dr {w : World} (g : Up w) : Up w := ⟨(up w g).drew, g.below.drew⟩
def Up.al {w : World} (g : Up w) (o : Obj) : Up w := ⟨(up w g).alloc o, g.below.alloc g.below.size o⟩
section
variable {w : World} {g : Up w}
theorem up_up (h : Up (up w g)) : up (up w g) h = up w (g.tr h) := rfl
theorem drew_up : (up w g).drew = up w g.dr := rfl
theorem alloc_up (o : Obj) : (up w g).alloc o = up w (g.al o) := rfl
theorem size_dr : (up w g.dr).heap.size = (up w g).heap.size := rfl
theorem size_al (o : Obj) : (up w (g.al o)).heap.size = (up w g).heap.size + 1 := by
  show ((up w g).alloc o).heap.size = _
  simp
theorem cell_dr (a : Addr) : (up w g.dr).cell? a = (up w g).cell? a := rfl
theorem frozen_dr (a : Addr) : (up w g.dr).frozen? a = (up w g).frozen? a := rfl
theorem cell_al_new (c : Array Value) (t : TypeId) (i : Nat) : (up w (g.al (.cells c t))).cell? ⟨(up w g).heap.size, i, none⟩ = c[i]? := World.cell?_alloc_new _ _ _ _
theorem frozen_al_new (c : Array Value) (t : TypeId) (i : Nat) : (up w (g.al (.cells c t))).frozen? ⟨(up w g).heap.size, i, none⟩ = false := World.frozen?_alloc_new _ _ _ _
theorem cell_al (o : Obj) (a : Addr) (h : a.block < (up w g).heap.size) : (up w (g.al o)).cell? a = (up w g).cell? a := World.cell?_alloc_lt _ _ _ h
theorem frozen_al (o : Obj) (a : Addr) (h : a.block < (up w g).heap.size) : (up w (g.al o)).frozen? a = (up w g).frozen? a := World.frozen?_alloc_old _ _ _ (Nat.ne_of_lt h)
theorem setCell_al (c : Array Value) (t : TypeId) (i : Nat) (v : Value) : (up w (g.al (.cells c t))).setCell ⟨(up w g).heap.size, i, none⟩ v = up w (g.al (.cells (c.setIfInBounds i v) t)) := World.setCell_alloc_at c t _ i v rfl
theorem cell_tr (h : Up (up w g)) (a : Addr) (hk : a.block < (up w g).heap.size) : (up w (g.tr h)).cell? a = (up w g).cell? a := cell_up (g := h) a hk
theorem frozen_tr (h : Up (up w g)) (a : Addr) (hk : a.block < (up w g).heap.size) : (up w (g.tr h)).frozen? a = (up w g).frozen? a := frozen_up (g := h) a hk
theorem le_tr (h : Up (up w g)) (k : Nat) (hk : k ≤ (up w g).heap.size) : k ≤ (up w (g.tr h)).heap.size := le_up (g := h) k hk
theorem lt_tr (h : Up (up w g)) (k : Nat) (hk : k < (up w g).heap.size) : k < (up w (g.tr h)).heap.size := lt_up (g := h) k hk
theorem le_tr1 (h : Up (up w g)) (k : Nat) (hk : k ≤ (up w g).heap.size) : k ≤ (up w (g.tr h)).heap.size + 1 := Nat.le_succ_of_le (le_tr h k hk)
theorem lt_tr1 (h : Up (up w g)) (k : Nat) (hk : k ≤ (up w g).heap.size) : k < (up w (g.tr h)).heap.size + 1 := Nat.lt_succ_of_le (le_tr h k hk)
theorem lt_tr2 (h : Up (up w g)) (k : Nat) (hk : k ≤ (up w g).heap.size) : k < (up w (g.tr h)).heap.size + 2 := Nat.lt_succ_of_le (le_tr1 h k hk)
theorem le_tr_self (h : Up (up w g)) : (up w g).heap.size ≤ (up w (g.tr h)).heap.size := le_tr h _ (Nat.le_refl _)
theorem le_tr_al (o : Obj) (h : Up (up w (g.al o))) : (up w g).heap.size ≤ (up w ((g.al o).tr h)).heap.size := le_tr h _ (by rw [size_al]; omega)
theorem lt_tr_al (o : Obj) (h : Up (up w (g.al o))) : (up w g).heap.size < (up w ((g.al o).tr h)).heap.size := lt_tr h _ (by rw [size_al]; omega)
theorem cell_tr_al (c : Array Value) (t : TypeId) (h : Up (up w (g.al (.cells c t)))) (i : Nat) : (up w ((g.al (.cells c t)).tr h)).cell? ⟨(up w g).heap.size, i, none⟩ = c[i]? :=
  (cell_tr h _ (by rw [size_al]; show (up w g).heap.size < _; omega)).trans (cell_al_new c t i)
theorem frozen_tr_al (c : Array Value) (t : TypeId) (h : Up (up w (g.al (.cells c t)))) (i : Nat) : (up w ((g.al (.cells c t)).tr h)).frozen? ⟨(up w g).heap.size, i, none⟩ = false :=
  (frozen_tr h _ (by rw [size_al]; show (up w g).heap.size < _; omega)).trans (frozen_al_new c t i)
end
attribute [simp, go_sem] lt_up1 lt_up2 le_tr1 lt_tr1 lt_tr2 le_tr_self le_tr_al lt_tr_al cell_tr_al frozen_tr_al
attribute [simp, go_sem] cell_up frozen_up heap_up le_up lt_up le_up1 le_up2 ne_up ne_up' up_up drew_up alloc_up size_dr size_al cell_dr frozen_dr cell_al_new frozen_al_new setCell_al cell_al frozen_al cell_tr frozen_tr le_tr lt_tr

/-- the world at hand under a name -/
theorem name_world {P : Program} {c : Code} {Q : Exit → Act → World → Prop} {a : Act} {w : World} (h : ∀ W, Hid (W = w) → Code.wp P c Q a W) : Code.wp P c Q a w := h w rfl
/-- what a region that draws its order keeps: the cells of the world in which it began -/
theorem sm_refl {W : World} : W.heap.size ≤ W.heap.size ∧ ∀ b o, b < W.heap.size → W.cell? ⟨b, o, none⟩ = W.cell? ⟨b, o, none⟩ := ⟨Nat.le_refl _, fun _ _ _ => rfl⟩
theorem sm_up {W w1 : World} (h : W.heap.size ≤ w1.heap.size ∧ ∀ b o, b < W.heap.size → w1.cell? ⟨b, o, none⟩ = W.cell? ⟨b, o, none⟩) (g : Up w1) :
    W.heap.size ≤ (up w1 g).heap.size ∧ ∀ b o, b < W.heap.size → (up w1 g).cell? ⟨b, o, none⟩ = W.cell? ⟨b, o, none⟩ :=
  ⟨Nat.le_trans h.1 g.below.size, fun b o hb => (cell_up ⟨b, o, none⟩ (Nat.lt_of_lt_of_le hb h.1)).trans (h.2 b o hb)⟩
theorem below_up {B : Nat} {a w : World} (h : Below B a w) (hB : B ≤ w.heap.size) (g : Up w) : Below B a (up w g) := h.trans (g.below.mono hB)
theorem bl_up {a w : World} (h : Below a.heap.size a w) (g : Up w) : Below a.heap.size a (up w g) := below_up h h.size g
theorem bl_alloc {a w : World} (h : Below a.heap.size a w) (o : Obj) : Below a.heap.size a (w.alloc o) := h.alloc h.size o
theorem bl_tr {a w : World} {G : Up w} (h : Below a.heap.size a (up w G)) (g : Up (up w G)) : Below a.heap.size a (up w (G.tr g)) := bl_up h g
theorem bl_al {a w : World} {G : Up w} (h : Below a.heap.size a (up w G)) (o : Obj) : Below a.heap.size a (up w (G.al o)) := bl_alloc h o
theorem bl_dr {a w : World} {G : Up w} (h : Below a.heap.size a (up w G)) : Below a.heap.size a (up w G.dr) := Below.drew h
theorem ex_tr {w w' : World} {X : Up w} (h : Below (up w X).heap.size (up w X) w') : ∃ g, w' = up w (X.tr g) := ⟨⟨w', h⟩, rfl⟩
theorem ex_up {w w' : World} (h : Below w.heap.size w w') : ∃ g, w' = up w g := ⟨⟨w', h⟩, rfl⟩
/-- w' is w with new memory, nothing that existed having changed -/
def UpOf (w w' : World) : Prop := ∃ g : Up w, w' = up w g
theorem UpOf.of {w w' : World} (h : Below w.heap.size w w') : UpOf w w' := ⟨⟨w', h⟩, rfl⟩
theorem UpOf.below {w w' : World} (h : UpOf w w') : Below w.heap.size w w' := by
  obtain ⟨g, rfl⟩ := h
  exact g.below
/-- ONE WALK IN THE ORDER OF THE TEXT SERVES EVERY ORDER, where each operation yields one value in every world that has grown from the region's first. -/
theorem wp_region_up {P : Program} {id : Nat} {Q : Exit → Act → World → Prop} {a : Act} {w : World} {l : List Oper} (hm : P.follows .mixedOrders = true) (hB : Region.lexB .any l.toArray = true)
    (h : wpQuiet P l.toArray (fun w' => ∃ g : Up w, w' = up w g) (fun a' => ∀ w', (∃ g : Up w, w' = up w g) → Q .normal a' w') l a) : (Code.region id l.toArray true).wp P Q a w :=
  wp_region_quiet (C := fun w' => ∃ g : Up w, w' = up w g) hm hB ⟨⟨_, (Below.refl _ _).drew⟩, rfl⟩ (by simpa using h)
/-- a contract met inside such a walk -/
theorem upq {P : Program} {f : FuncId} {args : Array Value} {w : World} {g : Up w} {v : Value}
    (h : Calls P f args (up w g) fun e w' => e = .returned v ∧ UpOf (up w g) w') : Calls P f args (up w g) fun e w'' => e = .returned v ∧ ∃ g' : Up w, w'' = up w g' :=
  h.mono fun _ _ ⟨he, g', hw⟩ => ⟨he, ⟨_, g.below.trans (g'.below.mono g.below.size)⟩, hw⟩
theorem upq_same {P : Program} {f : FuncId} {args : Array Value} {w : World} {g : Up w} {v : Value}
    (h : Calls P f args (up w g) fun e w' => e = .returned v ∧ up w g = w') : Calls P f args (up w g) fun e w'' => e = .returned v ∧ ∃ g' : Up w, w'' = up w g' :=
  h.mono fun _ _ ⟨he, hw⟩ => ⟨he, g, hw.symm⟩
theorem upq_tr {P : Program} {f : FuncId} {args : Array Value} {w : World} {g : Up w} {h : Up (up w g)} {v : Value}
    (c : Calls P f args (up w (g.tr h)) fun e w' => e = .returned v ∧ UpOf (up w (g.tr h)) w') : Calls P f args (up w (g.tr h)) fun e w'' => e = .returned v ∧ ∃ g' : Up (up w g), w'' = up w (g.tr g') :=
  c.mono fun _ _ ⟨he, g', hw⟩ => ⟨he, h.tr g', hw⟩
theorem upq_tr_same {P : Program} {f : FuncId} {args : Array Value} {w : World} {g : Up w} {h : Up (up w g)} {v : Value}
    (c : Calls P f args (up w (g.tr h)) fun e w' => e = .returned v ∧ up w (g.tr h) = w') : Calls P f args (up w (g.tr h)) fun e w'' => e = .returned v ∧ ∃ g' : Up (up w g), w'' = up w (g.tr g') :=
  c.mono fun _ _ ⟨he, hw⟩ => ⟨he, h, hw.symm⟩
/-- a contract's Bool, written out -/
theorem ret_as {P : Program} {f : FuncId} {args : Array Value} {w : World} {B b : Bool} {Q : World → Prop} (h : Calls P f args w fun e w' => e = .returned (.bool B) ∧ Q w') (hB : B = b) :
    Calls P f args w fun e w' => e = .returned (.bool b) ∧ Q w' := by subst hB; exact h
theorem UpOf.refl (w : World) : UpOf w w := .of (Below.refl _ _)
theorem as_up {P : Program} {c : Code} {Q : Exit → Act → World → Prop} {a : Act} {w : World} (h : ∀ g : Up w, Code.wp P c Q a (up w g)) : Code.wp P c Q a w := h ⟨w, Below.refl _ _⟩
theorem sm_of {W w' : World} (h : Below W.heap.size W w') : W.heap.size ≤ w'.heap.size ∧ ∀ b o, b < W.heap.size → w'.cell? ⟨b, o, none⟩ = W.cell? ⟨b, o, none⟩ := ⟨h.size, fun b o hb => h.cell (p := ⟨b, o, none⟩) hb⟩
end Go.Proofs.Ytiagckbdofeecaa

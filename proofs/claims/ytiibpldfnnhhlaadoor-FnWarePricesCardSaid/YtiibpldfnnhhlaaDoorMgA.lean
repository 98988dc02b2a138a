/-
  Common parts, put together: Up, Slices, Flat, Breaks, Name, WareP, App, Ware0, Set, Ware1, Wares, Ware2, Price, Price2.
-/
import Derived.WalkKit
import Derived.ProofKit
import Derived.Lib.Hide
import Derived.Deep.RegionHeld3
import Derived.Deep.DeepCutAuto
import Derived.BigQuiet
import Derived.Deep.Light
import Derived.Test.YtiibpldfnnhhlaaDoorRows
import Derived.Maps.AppendAt
import Derived.Laws.AppendOwnNone
import Derived.Deep.RegionLaw
import Derived.Deep.AppendLies
import Derived.Maps.OwnOps
import Derived.Maps.OwnSet
namespace Go.Proofs.YtiibpldfnnhhlaaDoor
open Go.RowKit

/-- a world that has grown from w: nothing that existed has changed -/
structure Up (w : World) where
  wd : World
  below : Below w.heap.size w wd
def up (w : World) (g : Up w) : World := g.wd
instance (w : World) : Nonempty (Up w) := ⟨⟨w, Below.refl _ _⟩⟩
section
variable {w : World} {g : Up w}
theorem up_below (w : World) (g : Up w) : Below w.heap.size w (up w g) := g.below
theorem cell_up (a : Addr) (h : a.block < w.heap.size) : (up w g).cell? a = w.cell? a := g.below.cell h
theorem frozen_up (a : Addr) (h : a.block < w.heap.size) : (up w g).frozen? a = w.frozen? a := g.below.frozen h
theorem heap_up (k : Nat) (h : k < w.heap.size) : (up w g).heap[k]? = w.heap[k]? := g.below.block k h
theorem le_up (k : Nat) (h : k ≤ w.heap.size) : k ≤ (up w g).heap.size := Nat.le_trans h g.below.size
theorem lt_up (k : Nat) (h : k < w.heap.size) : k < (up w g).heap.size := Nat.lt_of_lt_of_le h g.below.size
theorem le_up1 (k : Nat) (h : k ≤ w.heap.size) : k ≤ (up w g).heap.size + 1 := Nat.le_succ_of_le (le_up k h)
theorem le_up2 (k : Nat) (h : k ≤ w.heap.size) : k ≤ (up w g).heap.size + 2 := Nat.le_succ_of_le (le_up1 k h)
theorem lt_up1 (k : Nat) (h : k ≤ w.heap.size) : k < (up w g).heap.size + 1 := Nat.lt_succ_of_le (le_up k h)
theorem lt_up2 (k : Nat) (h : k ≤ w.heap.size) : k < (up w g).heap.size + 2 := Nat.lt_succ_of_le (le_up1 k h)
theorem ne_up (k : Nat) (h : k < w.heap.size) : (k = (up w g).heap.size) = False := by
  have := lt_up (g := g) k h
  simp; omega
theorem ne_up' (k : Nat) (h : k < w.heap.size) : ((up w g).heap.size = k) = False := by
  have := lt_up (g := g) k h
  simp; omega
end
/-- two steps; a draw; a new block -/
def Up.tr {w : World} (g : Up w) (h : Up (up w g)) : Up w := ⟨up (up w g) h, g.below.trans (h.below.mono g.below.size)⟩
def Up.dr {w : World} (g : Up w) : Up w := ⟨(up w g).drew, g.below.drew⟩
def Up.al {w : World} (g : Up w) (o : Obj) : Up w := ⟨(up w g).alloc o, g.below.alloc g.below.size o⟩
section
variable {w : World} {g : Up w}
theorem up_up (h : Up (up w g)) : up (up w g) h = up w (g.tr h) := rfl
theorem drew_up : (up w g).drew = up w g.dr := rfl
theorem alloc_up (o : Obj) : (up w g).alloc o = up w (g.al o) := rfl
theorem size_dr : (up w g.dr).heap.size = (up w g).heap.size := rfl
theorem size_al (o : Obj) : (up w (g.al o)).heap.size = (up w g).heap.size + 1 := by
  show ((up w g).alloc o).heap.size = _
  simp
theorem cell_dr (a : Addr) : (up w g.dr).cell? a = (up w g).cell? a := rfl
theorem frozen_dr (a : Addr) : (up w g.dr).frozen? a = (up w g).frozen? a := rfl
theorem cell_al_new (c : Array Value) (t : TypeId) (i : Nat) : (up w (g.al (.cells c t))).cell? ⟨(up w g).heap.size, i, none⟩ = c[i]? := World.cell?_alloc_new _ _ _ _
theorem frozen_al_new (c : Array Value) (t : TypeId) (i : Nat) : (up w (g.al (.cells c t))).frozen? ⟨(up w g).heap.size, i, none⟩ = false := World.frozen?_alloc_new _ _ _ _
theorem cell_al (o : Obj) (a : Addr) (h : a.block < (up w g).heap.size) : (up w (g.al o)).cell? a = (up w g).cell? a := World.cell?_alloc_lt _ _ _ h
theorem frozen_al (o : Obj) (a : Addr) (h : a.block < (up w g).heap.size) : (up w (g.al o)).frozen? a = (up w g).frozen? a := World.frozen?_alloc_old _ _ _ (Nat.ne_of_lt h)
theorem setCell_al (c : Array Value) (t : TypeId) (i : Nat) (v : Value) : (up w (g.al (.cells c t))).setCell ⟨(up w g).heap.size, i, none⟩ v = up w (g.al (.cells (c.setIfInBounds i v) t)) := World.setCell_alloc_at c t _ i v rfl
theorem cell_tr (h : Up (up w g)) (a : Addr) (hk : a.block < (up w g).heap.size) : (up w (g.tr h)).cell? a = (up w g).cell? a := cell_up (g := h) a hk
theorem frozen_tr (h : Up (up w g)) (a : Addr) (hk : a.block < (up w g).heap.size) : (up w (g.tr h)).frozen? a = (up w g).frozen? a := frozen_up (g := h) a hk
theorem le_tr (h : Up (up w g)) (k : Nat) (hk : k ≤ (up w g).heap.size) : k ≤ (up w (g.tr h)).heap.size := le_up (g := h) k hk
theorem lt_tr (h : Up (up w g)) (k : Nat) (hk : k < (up w g).heap.size) : k < (up w (g.tr h)).heap.size := lt_up (g := h) k hk
theorem le_tr1 (h : Up (up w g)) (k : Nat) (hk : k ≤ (up w g).heap.size) : k ≤ (up w (g.tr h)).heap.size + 1 := Nat.le_succ_of_le (le_tr h k hk)
theorem lt_tr1 (h : Up (up w g)) (k : Nat) (hk : k ≤ (up w g).heap.size) : k < (up w (g.tr h)).heap.size + 1 := Nat.lt_succ_of_le (le_tr h k hk)
theorem lt_tr2 (h : Up (up w g)) (k : Nat) (hk : k ≤ (up w g).heap.size) : k < (up w (g.tr h)).heap.size + 2 := Nat.lt_succ_of_le (le_tr1 h k hk)
theorem le_tr_self (h : Up (up w g)) : (up w g).heap.size ≤ (up w (g.tr h)).heap.size := le_tr h _ (Nat.le_refl _)
theorem le_tr_al (o : Obj) (h : Up (up w (g.al o))) : (up w g).heap.size ≤ (up w ((g.al o).tr h)).heap.size := le_tr h _ (by rw [size_al]; omega)
theorem lt_tr_al (o : Obj) (h : Up (up w (g.al o))) : (up w g).heap.size < (up w ((g.al o).tr h)).heap.size := lt_tr h _ (by rw [size_al]; omega)
theorem cell_tr_al (c : Array Value) (t : TypeId) (h : Up (up w (g.al (.cells c t)))) (i : Nat) : (up w ((g.al (.cells c t)).tr h)).cell? ⟨(up w g).heap.size, i, none⟩ = c[i]? :=
  (cell_tr h _ (by rw [size_al]; show (up w g).heap.size < _; omega)).trans (cell_al_new c t i)
theorem frozen_tr_al (c : Array Value) (t : TypeId) (h : Up (up w (g.al (.cells c t)))) (i : Nat) : (up w ((g.al (.cells c t)).tr h)).frozen? ⟨(up w g).heap.size, i, none⟩ = false :=
  (frozen_tr h _ (by rw [size_al]; show (up w g).heap.size < _; omega)).trans (frozen_al_new c t i)
end
attribute [simp, go_sem] lt_up1 lt_up2 le_tr1 lt_tr1 lt_tr2 le_tr_self le_tr_al lt_tr_al cell_tr_al frozen_tr_al
attribute [simp, go_sem] cell_up frozen_up heap_up le_up lt_up le_up1 le_up2 ne_up ne_up' up_up drew_up alloc_up size_dr size_al cell_dr frozen_dr cell_al_new frozen_al_new setCell_al cell_al frozen_al cell_tr frozen_tr le_tr lt_tr

/-- the world at hand under a name -/
theorem name_world {P : Program} {c : Code} {Q : Exit → Act → World → Prop} {a : Act} {w : World} (h : ∀ W, Hid (W = w) → Code.wp P c Q a W) : Code.wp P c Q a w := h w rfl
/-- what a region that draws its order keeps: the cells of the world in which it began -/
theorem sm_refl {W : World} : W.heap.size ≤ W.heap.size ∧ ∀ b o, b < W.heap.size → W.cell? ⟨b, o, none⟩ = W.cell? ⟨b, o, none⟩ := ⟨Nat.le_refl _, fun _ _ _ => rfl⟩
theorem sm_up {W w1 : World} (h : W.heap.size ≤ w1.heap.size ∧ ∀ b o, b < W.heap.size → w1.cell? ⟨b, o, none⟩ = W.cell? ⟨b, o, none⟩) (g : Up w1) :
    W.heap.size ≤ (up w1 g).heap.size ∧ ∀ b o, b < W.heap.size → (up w1 g).cell? ⟨b, o, none⟩ = W.cell? ⟨b, o, none⟩ :=
  ⟨Nat.le_trans h.1 g.below.size, fun b o hb => (cell_up ⟨b, o, none⟩ (Nat.lt_of_lt_of_le hb h.1)).trans (h.2 b o hb)⟩
theorem below_up {B : Nat} {a w : World} (h : Below B a w) (hB : B ≤ w.heap.size) (g : Up w) : Below B a (up w g) := h.trans (g.below.mono hB)
theorem bl_up {a w : World} (h : Below a.heap.size a w) (g : Up w) : Below a.heap.size a (up w g) := below_up h h.size g
theorem bl_alloc {a w : World} (h : Below a.heap.size a w) (o : Obj) : Below a.heap.size a (w.alloc o) := h.alloc h.size o
theorem bl_tr {a w : World} {G : Up w} (h : Below a.heap.size a (up w G)) (g : Up (up w G)) : Below a.heap.size a (up w (G.tr g)) := bl_up h g
theorem bl_al {a w : World} {G : Up w} (h : Below a.heap.size a (up w G)) (o : Obj) : Below a.heap.size a (up w (G.al o)) := bl_alloc h o
theorem bl_dr {a w : World} {G : Up w} (h : Below a.heap.size a (up w G)) : Below a.heap.size a (up w G.dr) := Below.drew h
theorem ex_tr {w w' : World} {X : Up w} (h : Below (up w X).heap.size (up w X) w') : ∃ g, w' = up w (X.tr g) := ⟨⟨w', h⟩, rfl⟩
theorem ex_up {w w' : World} (h : Below w.heap.size w w') : ∃ g, w' = up w g := ⟨⟨w', h⟩, rfl⟩
/-- w' is w with new memory, nothing that existed having changed -/
def UpOf (w w' : World) : Prop := ∃ g : Up w, w' = up w g
theorem UpOf.of {w w' : World} (h : Below w.heap.size w w') : UpOf w w' := ⟨⟨w', h⟩, rfl⟩
theorem UpOf.below {w w' : World} (h : UpOf w w') : Below w.heap.size w w' := by
  obtain ⟨g, rfl⟩ := h
  exact g.below
/-- ONE WALK IN THE ORDER OF THE TEXT SERVES EVERY ORDER, where each operation yields one value in every world that has grown from the region's first. -/
theorem wp_region_up {P : Program} {id : Nat} {Q : Exit → Act → World → Prop} {a : Act} {w : World} {l : List Oper} (hm : P.follows .mixedOrders = true) (hB : Region.lexB .any l.toArray = true)
    (h : wpQuiet P l.toArray (fun w' => ∃ g : Up w, w' = up w g) (fun a' => ∀ w', (∃ g : Up w, w' = up w g) → Q .normal a' w') l a) : (Code.region id l.toArray true).wp P Q a w :=
  wp_region_quiet (C := fun w' => ∃ g : Up w, w' = up w g) hm hB ⟨⟨_, (Below.refl _ _).drew⟩, rfl⟩ (by simpa using h)
/-- a contract met inside such a walk -/
theorem upq {P : Program} {f : FuncId} {args : Array Value} {w : World} {g : Up w} {v : Value}
    (h : Calls P f args (up w g) fun e w' => e = .returned v ∧ UpOf (up w g) w') : Calls P f args (up w g) fun e w'' => e = .returned v ∧ ∃ g' : Up w, w'' = up w g' :=
  h.mono fun _ _ ⟨he, g', hw⟩ => ⟨he, ⟨_, g.below.trans (g'.below.mono g.below.size)⟩, hw⟩
theorem upq_same {P : Program} {f : FuncId} {args : Array Value} {w : World} {g : Up w} {v : Value}
    (h : Calls P f args (up w g) fun e w' => e = .returned v ∧ up w g = w') : Calls P f args (up w g) fun e w'' => e = .returned v ∧ ∃ g' : Up w, w'' = up w g' :=
  h.mono fun _ _ ⟨he, hw⟩ => ⟨he, g, hw.symm⟩
theorem upq_tr {P : Program} {f : FuncId} {args : Array Value} {w : World} {g : Up w} {h : Up (up w g)} {v : Value}
    (c : Calls P f args (up w (g.tr h)) fun e w' => e = .returned v ∧ UpOf (up w (g.tr h)) w') : Calls P f args (up w (g.tr h)) fun e w'' => e = .returned v ∧ ∃ g' : Up (up w g), w'' = up w (g.tr g') :=
  c.mono fun _ _ ⟨he, g', hw⟩ => ⟨he, h.tr g', hw⟩
theorem upq_tr_same {P : Program} {f : FuncId} {args : Array Value} {w : World} {g : Up w} {h : Up (up w g)} {v : Value}
    (c : Calls P f args (up w (g.tr h)) fun e w' => e = .returned v ∧ up w (g.tr h) = w') : Calls P f args (up w (g.tr h)) fun e w'' => e = .returned v ∧ ∃ g' : Up (up w g), w'' = up w (g.tr g') :=
  c.mono fun _ _ ⟨he, hw⟩ => ⟨he, h, hw.symm⟩
/-- a contract's Bool, written out -/
theorem ret_as {P : Program} {f : FuncId} {args : Array Value} {w : World} {B b : Bool} {Q : World → Prop} (h : Calls P f args w fun e w' => e = .returned (.bool B) ∧ Q w') (hB : B = b) :
    Calls P f args w fun e w' => e = .returned (.bool b) ∧ Q w' := by subst hB; exact h
theorem UpOf.refl (w : World) : UpOf w w := .of (Below.refl _ _)
theorem as_up {P : Program} {c : Code} {Q : Exit → Act → World → Prop} {a : Act} {w : World} (h : ∀ g : Up w, Code.wp P c Q a (up w g)) : Code.wp P c Q a w := h ⟨w, Below.refl _ _⟩
theorem sm_of {W w' : World} (h : Below W.heap.size W w') : W.heap.size ≤ w'.heap.size ∧ ∀ b o, b < W.heap.size → w'.cell? ⟨b, o, none⟩ = W.cell? ⟨b, o, none⟩ := ⟨h.size, fun b o hb => h.cell (p := ⟨b, o, none⟩) hb⟩
end Go.Proofs.YtiibpldfnnhhlaaDoor
namespace Go.Proofs.YtiibpldfnnhhlaaDoor
open Go.RowKit

/-- a slice's pointer A with n elements of sz cells each: its cells read as xs -/
def Rds (w : World) (sz : Nat) (A : Option Addr) (n : Nat) (xs : List Value) : Prop :=
  xs.length = n * sz ∧ (0 < n * sz → ∃ b off, A = some ⟨b, off, none⟩ ∧ b < w.heap.size ∧ ∀ j u, xs[j]? = some u → w.cell? ⟨b, off + j, none⟩ = some u)

section
variable {w w' : World} {sz : Nat} {A : Option Addr} {n : Nat} {xs : List Value}
theorem Rds.keep (h : Rds w sz A n xs) (hs : w.heap.size ≤ w'.heap.size) (hk : 0 < n * sz → ∀ b off, A = some ⟨b, off, none⟩ → b < w.heap.size → w'.heap[b]? = w.heap[b]?) : Rds w' sz A n xs :=
  ⟨h.1, fun hn => by
    obtain ⟨b, off, e, hb, hc⟩ := h.2 hn
    exact ⟨b, off, e, Nat.lt_of_lt_of_le hb hs, fun j u hu => (World.cell?_of_block (w := w) (hk hn b off e hb)).trans (hc j u hu)⟩⟩
theorem Rds.up (h : Rds w sz A n xs) (g : Up w) : Rds (up w g) sz A n xs :=
  h.keep g.below.size (fun _ b _ _ hb => g.below.block b hb)
theorem Rds.tr {g : Up w} (h : Rds (Go.Proofs.YtiibpldfnnhhlaaDoor.up w g) sz A n xs) (k : Up (Go.Proofs.YtiibpldfnnhhlaaDoor.up w g)) : Rds (Go.Proofs.YtiibpldfnnhhlaaDoor.up w (g.tr k)) sz A n xs := Rds.up h k
theorem Rds.alloc (h : Rds w sz A n xs) (o : Obj) : Rds (w.alloc o) sz A n xs :=
  h.keep (by simp) (fun _ b _ _ hb => Below.heap_alloc w o b hb)
theorem Rds.drew (h : Rds w sz A n xs) : Rds w.drew sz A n xs := h
theorem Rds.al {g : Up w} (h : Rds (Go.Proofs.YtiibpldfnnhhlaaDoor.up w g) sz A n xs) (o : Obj) : Rds (Go.Proofs.YtiibpldfnnhhlaaDoor.up w (g.al o)) sz A n xs := Rds.alloc h o
theorem Rds.dr {g : Up w} (h : Rds (Go.Proofs.YtiibpldfnnhhlaaDoor.up w g) sz A n xs) : Rds (Go.Proofs.YtiibpldfnnhhlaaDoor.up w g.dr) sz A n xs := h
theorem Rds.below (h : Rds w sz A n xs) (hb : Below w.heap.size w w') : Rds w' sz A n xs := h.keep hb.size (fun _ b _ _ h => hb.block b h)
theorem Rds.grown {row : Option Nat} (h : Rds w sz A n xs) (hg : w.grownBy w' row) (hne : 0 < n * sz → ∀ b off, A = some ⟨b, off, none⟩ → some b ≠ row) : Rds w' sz A n xs :=
  h.keep hg.size (fun hn b off e hb => hg.block b hb (hne hn b off e))
theorem Rds.empty (w : World) (sz : Nat) (A : Option Addr) : Rds w sz A 0 [] := ⟨by simp, fun h => by omega⟩
/-- element k's cells, where there is one -/
theorem Rds.at (h : Rds w sz A n xs) (hn : 0 < n * sz) : ∃ b off, A = some ⟨b, off, none⟩ ∧ b < w.heap.size ∧ ∀ j u, xs[j]? = some u → w.cell? ⟨b, off + j, none⟩ = some u := h.2 hn
theorem Rds.of_own {base : Nat} {e : TypeId} {c : Nat} (h : w.ownsRow base e sz (.slice A n c) n xs) : Rds w sz A n xs := by
  refine ⟨h.1, fun hn => ?_⟩
  rcases h.2 with ⟨_, h0⟩ | ⟨g, cap, cur, hv, _, hg, _⟩
  · subst h0; omega
  · have hA : A = some ⟨g, 0, none⟩ := by injection hv
    subst hA
    refine ⟨g, 0, rfl, (Array.getElem?_eq_some_iff.1 hg).1, fun j u hu => ?_⟩
    have := h.cells (g := g) rfl j u hu
    have hadd : (⟨g, 0, none⟩ : Addr).add j = ⟨g, 0 + j, none⟩ := by unfold Addr.add; split <;> simp_all
    rwa [hadd] at this
/-- the block of a slice that is owned lies from base on -/
theorem own_block {base : Nat} {e : TypeId} {c : Nat} (h : w.ownsRow base e sz (.slice A n c) n xs) {b off : Nat} (hA : A = some ⟨b, off, none⟩) : base ≤ b ∧ b < w.heap.size ∧ off = 0 := by
  subst hA
  rcases h.2 with ⟨hv, _⟩ | ⟨g, cap, cur, hv, hb, hg, _⟩
  · simp at hv
  · simp only [Value.slice.injEq, Option.some.injEq, Addr.mk.injEq, and_true] at hv
    obtain ⟨⟨rfl, rfl⟩, _⟩ := hv
    exact ⟨hb, (Array.getElem?_eq_some_iff.1 hg).1, rfl⟩
end
/-- rows that a call owns, over worlds that have grown -/
theorem own_up {w : World} {base : Nat} {e : TypeId} {size : Nat} {v : Value} {n : Nat} {xs : List Value} (h : w.ownsRow base e size v n xs) (g : Up w) : (up w g).ownsRow base e size v n xs :=
  h.kept (row := none) ⟨g.below.os, g.below.tape, g.below.output, g.below.size, fun k hk _ => g.below.block k hk⟩ (by cases hv : v.ownBlock <;> simp)
theorem grown_up {w : World} (g : Up w) (row : Option Nat) : w.grownBy (up w g) row := ⟨g.below.os, g.below.tape, g.below.output, g.below.size, fun k hk _ => g.below.block k hk⟩
theorem up_of_grown {W w w' : World} {row : Option Nat} (h : Below W.heap.size W w) (hg : w.grownBy w' row) (hr : ∀ k, row = some k → W.heap.size ≤ k) : UpOf W w' := .of (h.grown hg h.size hr)
theorem grown_trans {a b c : World} {row : Option Nat} (h : a.grownBy b row) (k : b.grownBy c row) : a.grownBy c row :=
  ⟨k.os.trans h.os, k.tape.trans h.tape, k.output.trans h.output, Nat.le_trans h.size k.size, fun i hi hne => (k.block i (Nat.lt_of_lt_of_le hi h.size) hne).trans (h.block i hi hne)⟩
theorem grown_refl (w : World) (row : Option Nat) : w.grownBy w row := ⟨rfl, rfl, rfl, Nat.le_refl _, fun _ _ _ => rfl⟩
theorem own_mono {w : World} {base base' : Nat} {e : TypeId} {size : Nat} {v : Value} {n : Nat} {xs : List Value} (h : w.ownsRow base e size v n xs) (hb : base' ≤ base) : w.ownsRow base' e size v n xs := by
  refine ⟨h.1, ?_⟩
  rcases h.2 with h2 | ⟨g, cap, cur, hv, hg, r⟩
  · exact .inl h2
  · exact .inr ⟨g, cap, cur, hv, Nat.le_trans hb hg, r⟩
/-- two rows of which one was made when the other was there lie apart -/
theorem own_apart {w w1 : World} {base e e1 size size1 n n1 c c1 B : Nat} {A A1 : Option Addr} {xs xs1 : List Value} (h : w.ownsRow base e size (.slice A n c) n xs) (h1 : w1.ownsRow B e1 size1 (.slice A1 n1 c1) n1 xs1) (hB : w.heap.size ≤ B) :
    ∀ b off, A = some ⟨b, off, none⟩ → some b ≠ (Value.slice A1 n1 c1).ownBlock := by
  intro b off hA he
  obtain ⟨_, hb, _⟩ := own_block h hA
  have := (h1.lt b he.symm).1
  omega
theorem rds_apart {w w1 : World} {B e1 size size1 n n1 c1 : Nat} {A A1 : Option Addr} {xs xs1 : List Value} (h : Rds w size A n xs) (h1 : w1.ownsRow B e1 size1 (.slice A1 n1 c1) n1 xs1) (hB : w.heap.size ≤ B) (hn : 0 < n * size) :
    ∀ b off, A = some ⟨b, off, none⟩ → some b ≠ (Value.slice A1 n1 c1).ownBlock := by
  intro b off hA he
  obtain ⟨b', off', hA', hb, _⟩ := h.at hn
  rw [hA] at hA'
  injection hA' with hA'
  injection hA' with hA' _
  have := (h1.lt b he.symm).1
  omega
theorem up_of_mark {W w w' : World} {base e size n c : Nat} {A : Option Addr} {xs : List Value} (hW : Below W.heap.size W w) (h : w.ownsRow base e size (.slice A n c) n xs) (hb : W.heap.size ≤ base) (hg : w.grownBy w' (Value.slice A n c).ownBlock) : UpOf W w' :=
  up_of_grown hW hg fun k hk => Nat.le_trans hb (h.lt k hk).1
/-- block b is just these cells -/
def Blk (w : World) (b : Nat) (t : TypeId) (cs : Array Value) : Prop := w.heap[b]? = some (.cells cs t (0, 0))
section
variable {w w' : World} {b : Nat} {t : TypeId} {cs : Array Value}
theorem Blk.lt (h : Blk w b t cs) : b < w.heap.size := (Array.getElem?_eq_some_iff.1 h).1
theorem Blk.cell (h : Blk w b t cs) (i : Nat) : w.cell? ⟨b, i, none⟩ = cs[i]? := by unfold Blk at h; simp [World.cell?, h]
theorem Blk.free (h : Blk w b t cs) (i : Nat) : w.frozen? ⟨b, i, none⟩ = false := by unfold Blk at h; simp [World.frozen?, h]
theorem Blk.up (h : Blk w b t cs) (g : Up w) : Blk (up w g) b t cs := (g.below.block b h.lt).trans h
theorem Blk.tr {g : Up w} (h : Blk (Go.Proofs.YtiibpldfnnhhlaaDoor.up w g) b t cs) (k : Up (Go.Proofs.YtiibpldfnnhhlaaDoor.up w g)) : Blk (Go.Proofs.YtiibpldfnnhhlaaDoor.up w (g.tr k)) b t cs := Blk.up h k
theorem Blk.al {g : Up w} (h : Blk (Go.Proofs.YtiibpldfnnhhlaaDoor.up w g) b t cs) (o : Obj) : Blk (Go.Proofs.YtiibpldfnnhhlaaDoor.up w (g.al o)) b t cs := (Below.heap_alloc _ o b h.lt).trans h
theorem Blk.dr {g : Up w} (h : Blk (Go.Proofs.YtiibpldfnnhhlaaDoor.up w g) b t cs) : Blk (Go.Proofs.YtiibpldfnnhhlaaDoor.up w g.dr) b t cs := h
theorem Blk.new_al {g : Up w} (t : TypeId) (cs : Array Value) : Blk (Go.Proofs.YtiibpldfnnhhlaaDoor.up w (g.al (.cells cs t))) (Go.Proofs.YtiibpldfnnhhlaaDoor.up w g).heap.size t cs := heap_alloc_new (Go.Proofs.YtiibpldfnnhhlaaDoor.up w g) _
theorem Blk.drew (h : Blk w b t cs) : Blk w.drew b t cs := h
theorem Blk.alloc (h : Blk w b t cs) (o : Obj) : Blk (w.alloc o) b t cs := (Below.heap_alloc w o b h.lt).trans h
theorem Blk.new (w : World) (t : TypeId) (cs : Array Value) : Blk (w.alloc (.cells cs t)) w.heap.size t cs := heap_alloc_new w _
theorem Blk.put (h : Blk w b t cs) (i : Nat) (u : Value) : Blk (w.setCell ⟨b, i, none⟩ u) b t (cs.setIfInBounds i u) := by
  unfold Blk at h ⊢
  simp [World.setCell, Array.getElem?_modify, h]
theorem Blk.far (h : Blk w b t cs) {p : Addr} (hp : b ≠ p.block) (u : Value) : Blk (w.setCell p u) b t cs := (Below.heap_setCell w p u b hp).trans h
theorem Blk.grown {row : Option Nat} (h : Blk w b t cs) (hg : w.grownBy w' row) (hne : some b ≠ row) : Blk w' b t cs := (hg.block b h.lt hne).trans h
theorem grown_put (w : World) (b i : Nat) (u : Value) : w.grownBy (w.setCell ⟨b, i, none⟩ u) (some b) :=
  ⟨rfl, rfl, rfl, by simp [World.setCell], fun k _ hne => Below.heap_setCell w _ u k (fun e => hne (by rw [e]))⟩
end
/-! only block b, and what is new, has changed: step by step -/
section
variable {a w w' : World} {row : Option Nat}
theorem gr_alloc (h : a.grownBy w row) (o : Obj) : a.grownBy (w.alloc o) row := grown_trans h (World.grownBy_alloc w o row)
theorem gr_up (h : a.grownBy w row) (g : Up w) : a.grownBy (up w g) row := grown_trans h (grown_up g row)
theorem gr_new (h : a.grownBy w row) {p : Addr} (hp : a.heap.size ≤ p.block) (u : Value) : a.grownBy (w.setCell p u) row :=
  ⟨h.os, h.tape, h.output, by simpa [World.setCell] using h.size, fun k hk hne => (Below.heap_setCell w p u k (by omega)).trans (h.block k hk hne)⟩
theorem gr_in {b : Nat} (h : a.grownBy w (some b)) (i : Nat) (u : Value) : a.grownBy (w.setCell ⟨b, i, none⟩ u) (some b) := grown_trans h (grown_put w b i u)
theorem gr_by {b : Nat} (h : a.grownBy w (some b)) (k : w.grownBy w' (some b)) : a.grownBy w' (some b) := grown_trans h k
end
/-- bytes -> a text, of one byte that has just been laid -/
theorem conv_one {P : Program} (W : World) (src e dst : TypeId) (hs : P.underlying src = some (.slice e)) (he : P.underlying e = some (.int .u8)) (hd : P.underlying dst = some .string) (x : Int) :
    (convert src dst (.slice (some ⟨W.heap.size, 0, none⟩) 1 1)).run P (W.alloc (.cells #[.int .u8 x] e)) = .ok (.string ⟨#[UInt8.ofNat x.toNat]⟩) (W.alloc (.cells #[.int .u8 x] e)) :=
  run_convert_bytes_arg _ src e hs he _ 0 1 1 [x] rfl (fun i hi => by
    obtain rfl : i = 0 := by omega
    simp) dst hd
theorem le_up_self {w : World} (g : Up w) : w.heap.size ≤ (up w g).heap.size := le_up _ (Nat.le_refl _)
theorem own_apart' {w w1 : World} {base e e1 size size1 n n1 c c1 B : Nat} {A A1 : Option Addr} {xs xs1 : List Value} (h : w.ownsRow base e size (.slice A n c) n xs) (h1 : w1.ownsRow B e1 size1 (.slice A1 n1 c1) n1 xs1) (hB : w.heap.size ≤ B) :
    ∀ b off, A1 = some ⟨b, off, none⟩ → some b ≠ (Value.slice A n c).ownBlock := by
  intro b off hA he
  obtain ⟨hb, _, _⟩ := own_block h1 hA
  have := (h.lt b he.symm).2
  omega
theorem own_far {w w1 : World} {base e e1 size size1 n n1 c c1 B : Nat} {A A1 : Option Addr} {xs xs1 : List Value} (h : w.ownsRow base e size (.slice A n c) n xs) (h1 : w1.ownsRow B e1 size1 (.slice A1 n1 c1) n1 xs1) (hB : w.heap.size ≤ B) :
    (Value.slice A1 n1 c1).ownBlock = none ∨ (Value.slice A1 n1 c1).ownBlock ≠ (Value.slice A n c).ownBlock := by
  cases hv : (Value.slice A1 n1 c1).ownBlock with
  | none => exact .inl rfl
  | some k =>
    refine .inr fun he => ?_
    have h2 := (h1.lt k hv).1
    have h3 := (h.lt k he.symm).2
    omega
theorem own_below {w w' : World} {base : Nat} {e : TypeId} {size : Nat} {v : Value} {n : Nat} {xs : List Value} (h : w.ownsRow base e size v n xs) (hb : Below w.heap.size w w') : w'.ownsRow base e size v n xs := own_up h ⟨w', hb⟩
end Go.Proofs.YtiibpldfnnhhlaaDoor
namespace Go.Proofs.YtiibpldfnnhhlaaDoor
open Go.RowKit
abbrev i64 (n : Int) : Value := .int .i64 n
theorem ret_bool {a b : Bool} (h : a = b) : Ending.returned (.bool a) = .returned (.bool b) := by rw [h]
theorem ret_int {k : IntKind} {a b : Int} (h : a = b) : Ending.returned (.int k a) = .returned (.int k b) := by rw [h]
section
variable {α : Type} {enc : α → List Value} {sz : Nat}
theorem flat_len (he : ∀ a, (enc a).length = sz) (l : List α) : (l.flatMap enc).length = l.length * sz := by
  induction l with
  | nil => simp
  | cons a l ih => simp [he, ih, Nat.add_mul]; omega
theorem flat_get (he : ∀ a, (enc a).length = sz) (l : List α) {k j : Nat} (hk : k < l.length) (hj : j < sz) : (l.flatMap enc)[k * sz + j]? = (enc l[k])[j]? := by
  induction l generalizing k with
  | nil => simp at hk
  | cons a l ih =>
    rw [List.flatMap_cons]
    cases k with
    | zero => simp [List.getElem?_append, he, hj]
    | succ k =>
      rw [List.getElem?_append_right (by rw [he, Nat.add_mul]; omega), he]
      have : (k + 1) * sz + j - sz = k * sz + j := by rw [Nat.add_mul]; omega
      rw [this, ih (by simpa using hk)]
      simp
theorem flat_ext (he : ∀ a, (enc a).length = sz) (l : List α) {ys : List Value} (hl : ys.length = l.length * sz) (h : ∀ k (hk : k < l.length) j, j < sz → ys[k * sz + j]? = (enc l[k])[j]?) : ys = l.flatMap enc := by
  apply List.ext_getElem?
  intro i
  by_cases hi : i < l.length * sz
  · have hsz : 0 < sz := by
      rcases Nat.eq_zero_or_pos sz with h0 | h0
      · subst h0; omega
      · exact h0
    have hk : i / sz < l.length := (Nat.div_lt_iff_lt_mul hsz).2 hi
    have hj : i % sz < sz := Nat.mod_lt _ hsz
    have hi' : i = i / sz * sz + i % sz := by rw [Nat.mul_comm]; exact (Nat.div_add_mod i sz).symm
    rw [hi', h _ hk _ hj, flat_get he l hk hj]
  · rw [List.getElem?_eq_none (by omega), List.getElem?_eq_none (by rw [flat_len he]; omega)]
/-- a list's cells, element by element, make a slice that reads as it -/
theorem rds_of_elems (he : ∀ a, (enc a).length = sz) {w : World} {b off : Nat} {l : List α} (hb : b < w.heap.size)
    (h : ∀ k (hk : k < l.length) j u, (enc l[k])[j]? = some u → w.cell? ⟨b, off + k * sz + j, none⟩ = some u) : Rds w sz (some ⟨b, off, none⟩) l.length (l.flatMap enc) := by
  refine ⟨flat_len he l, fun hn => ⟨b, off, rfl, hb, fun i u hu => ?_⟩⟩
  have hi : i < l.length * sz := by
    rcases Nat.lt_or_ge i (l.length * sz) with h | h
    · exact h
    · rw [List.getElem?_eq_none (by rw [flat_len he]; exact h)] at hu; cases hu
  have hsz : 0 < sz := by
    rcases Nat.eq_zero_or_pos sz with h0 | h0
    · subst h0; omega
    · exact h0
  have hk : i / sz < l.length := (Nat.div_lt_iff_lt_mul hsz).2 hi
  have hi' : i = i / sz * sz + i % sz := by rw [Nat.mul_comm]; exact (Nat.div_add_mod i sz).symm
  rw [hi', flat_get he l hk (Nat.mod_lt _ hsz)] at hu
  have := h (i / sz) hk (i % sz) u hu
  rw [Nat.add_assoc, ← hi'] at this
  exact this
/-- element k's cells -/
theorem rds_elem (he : ∀ a, (enc a).length = sz) {w : World} {A : Option Addr} {l : List α} (h : Rds w sz A l.length (l.flatMap enc)) {k : Nat} (hk : k < l.length) (hsz : 0 < sz) :
    ∃ b off, A = some ⟨b, off, none⟩ ∧ b < w.heap.size ∧ ∀ j u, (enc l[k])[j]? = some u → w.cell? ⟨b, off + k * sz + j, none⟩ = some u := by
  obtain ⟨b, off, e, hb, hc⟩ := h.at (Nat.mul_pos (by omega) hsz)
  refine ⟨b, off, e, hb, fun j u hu => Nat.add_assoc off (k * sz) j ▸ hc _ u ?_⟩
  have hj : j < sz := by
    rcases Nat.lt_or_ge j sz with h | h
    · exact h
    · rw [List.getElem?_eq_none (by rw [he]; exact h)] at hu; cases hu
  rw [flat_get he l hk hj]
  exact hu
end
/-- what is left of k where tot is taken off, -1 where that is too much -/
def szR (k : Int) (tot : Nat) : Int := if k < tot then -1 else k - tot
theorem szR_no {k : Int} {tot : Nat} (h : k < tot) : szR k tot = -1 := if_pos h
theorem szR_ok {k : Int} {tot : Nat} (h : ¬ k < tot) : szR k tot = k - tot := if_neg h
end Go.Proofs.YtiibpldfnnhhlaaDoor
namespace Go.Proofs.YtiibpldfnnhhlaaDoor
open Go.RowKit
structure Brk where
  fr : Int
  pr : Int
def Brk.cells (h : Brk) : List Value := [i64 h.fr, i64 h.pr]
abbrev bkv (h : Brk) : Value := .agg #[i64 h.fr, i64 h.pr]
def bkcs (l : List Brk) : List Value := l.flatMap Brk.cells
theorem bk_clen (h : Brk) : h.cells.length = 2 := rfl
theorem bk_len (l : List Brk) : (bkcs l).length = l.length * 2 := flat_len bk_clen l
theorem bk_one (l : List Brk) : ∀ u ∈ bkcs l, u.oneCell' = true := by
  intro u hu
  simp only [bkcs, List.mem_flatMap, Brk.cells, List.mem_cons, List.not_mem_nil, or_false] at hu
  obtain ⟨a, _, rfl | rfl⟩ := hu <;> rfl
theorem bk_at {w : World} {A : Option Addr} {l : List Brk} (h : Rds w 2 A l.length (bkcs l)) {k : Nat} (hk : k < l.length) :
    ∃ b off, A = some ⟨b, off, none⟩ ∧ b < w.heap.size ∧ w.cell? ⟨b, off + k * 2, none⟩ = some (i64 l[k].fr) ∧ w.cell? ⟨b, off + k * 2 + 1, none⟩ = some (i64 l[k].pr) := by
  obtain ⟨b, off, e, hb, hc⟩ := rds_elem bk_clen h hk (by omega)
  exact ⟨b, off, e, hb, hc 0 _ rfl, hc 1 _ rfl⟩
theorem bk_set {l : List Brk} {ys : List Value} {k i j n : Nat} (hys : ∀ i (hi : i < l.length) j, j < 2 → i < k → ys[i * 2 + j]? = (l[i].cells)[j]?) (hlen : ys.length = n * 2) (hi : i < l.length) (hj : j < 2) (hik : i < k + 1) (hk : k < n)
    {h : Brk} (he : ∀ (hk : k < l.length), l[k] = h := by intro; rfl) :
    ((ys.set (k * 2) (i64 h.fr)).set (k * 2 + 1) (i64 h.pr))[i * 2 + j]? = (l[i].cells)[j]? := by
  by_cases hik' : i = k
  · subst hik'
    rw [he hi]
    match j, hj with
    | 0, _ => rw [List.getElem?_set_ne (by omega), Nat.add_zero, List.getElem?_set_self (by first | omega | (simp only [List.length_set]; omega))]; rfl
    | 1, _ => rw [List.getElem?_set_self (by first | omega | (simp only [List.length_set]; omega))]; rfl
  · rw [List.getElem?_set_ne (by omega), List.getElem?_set_ne (by omega)]
    exact hys i hi j hj (by omega)
def bkTot (l : List Brk) : Nat := l.length
theorem szBreakS_any (A : Option Addr) (c : Nat) (l : List Brk) (k : Int) (w : World) (hk : 0 ≤ k) (hk1 : k ≤ 1048576) (hn : l.length ≤ 9223372036854775807) :
    Calls Tryd.prog 39 #[.slice A l.length c, i64 k] w fun e w' => e = .returned (i64 (szR k l.length)) ∧ UpOf w w' := by
  by_cases h : k < l.length
  · go_enter Tryd.func39, Tryd.ntmps39
    go_wp2_with (first | ((with_reducible refine wp_region_up (by kernel_rfl) (by kernel_rfl) ?_); (repeat (go_big_quiet_step (fail))); refine wpQuiet_nil ?_; intro _ hw'; obtain ⟨nq, hw''⟩ := hw'; subst hw''))
    go_ret
    exact ⟨ret_int (szR_no (by omega)).symm, UpOf.of (by repeat (first | exact Below.refl _ _ | refine bl_tr ?_ _ | refine bl_al ?_ _ | refine bl_dr ?_ | refine bl_up ?_ _ | refine Below.drew ?_ | refine bl_alloc ?_ _ | refine Below.setCell ?_ (by first | (simp; done) | (simp; omega)) _))⟩
  · go_enter Tryd.func39, Tryd.ntmps39
    go_wp2_with (first | ((with_reducible refine wp_region_up (by kernel_rfl) (by kernel_rfl) ?_); (repeat (go_big_quiet_step (fail))); refine wpQuiet_nil ?_; intro _ hw'; obtain ⟨nq, hw''⟩ := hw'; subst hw''))
    go_ret
    exact ⟨ret_int (szR_ok (by omega)).symm, UpOf.of (by repeat (first | exact Below.refl _ _ | refine bl_tr ?_ _ | refine bl_al ?_ _ | refine bl_dr ?_ | refine bl_up ?_ _ | refine Below.drew ?_ | refine bl_alloc ?_ _ | refine Below.setCell ?_ (by first | (simp; done) | (simp; omega)) _))⟩
theorem toBreak_any (h : Brk) (w : World) :
    Calls Tryd.prog 79 #[bkv h] w fun e w' => e = .returned (bkv h) ∧ UpOf w w' := by
  go_enter Tryd.func79, Tryd.ntmps79
  go_wp2_with (first | ((with_reducible refine wp_region_up (by kernel_rfl) (by kernel_rfl) ?_); (repeat (go_big_quiet_step (fail))); refine wpQuiet_nil ?_; intro _ hw'; obtain ⟨nq, hw''⟩ := hw'; subst hw''))
  exact bodyPost_ret (v := bkv h) (by simp [results, Tryd.results79, go_sem]) rfl ⟨rfl, UpOf.of (by repeat (first | exact Below.refl _ _ | refine bl_tr ?_ _ | refine bl_al ?_ _ | refine bl_dr ?_ | refine bl_up ?_ _ | refine Below.drew ?_ | refine bl_alloc ?_ _ | refine Below.setCell ?_ (by first | (simp; done) | (simp; omega)) _))⟩
theorem eqBreak_any (h : Brk) (w : World) :
    Calls Tryd.prog 82 #[bkv h, bkv h] w fun e w' => e = .returned (.bool true) ∧ UpOf w w' := by
  go_enter Tryd.func82, Tryd.ntmps82
  go_wp2_with (first | ((with_reducible refine wp_region_up (by kernel_rfl) (by kernel_rfl) ?_); (repeat (go_big_quiet_step (fail))); refine wpQuiet_nil ?_; intro _ hw'; obtain ⟨nq, hw''⟩ := hw'; subst hw''))
  go_ret
  exact ⟨rfl, UpOf.of (by repeat (first | exact Below.refl _ _ | refine bl_tr ?_ _ | refine bl_al ?_ _ | refine bl_dr ?_ | refine bl_up ?_ _ | refine Below.drew ?_ | refine bl_alloc ?_ _ | refine Below.setCell ?_ (by first | (simp; done) | (simp; omega)) _))⟩
set_option maxRecDepth 10000 in
theorem eqBreakS_any (A A' : Option Addr) (c c' : Nat) (l : List Brk) (w : World) (h : Rds w 2 A l.length (bkcs l)) (h' : Rds w 2 A' l.length (bkcs l)) (hn : l.length ≤ 100000000) :
    Calls Tryd.prog 45 #[.slice A l.length c, .slice A' l.length c'] w fun e w' => e = .returned (.bool true) ∧ UpOf w w' := by
  go_enter Tryd.func45, Tryd.ntmps45
  go_wp2_with (first | ((with_reducible refine wp_region_up (by kernel_rfl) (by kernel_rfl) ?_); (repeat (go_big_quiet_step (fail))); refine wpQuiet_nil ?_; intro _ hw'; obtain ⟨nq, hw''⟩ := hw'; subst hw''))
  go_loopw [5] (fun i wr => ∃ k : Nat, k ≤ l.length ∧ i = .int .i64 k ∧ ∃ g : Up w, wr = up w g) (fun i _ => l.length - (intOf i).toNat)
  case atStart => exact ⟨0, by omega, rfl, ⟨w, Below.refl _ _⟩, rfl⟩
  case round =>
    obtain ⟨k, hk, rfl, g, rfl⟩ := hrel
    by_cases hlt : k < l.length
    · obtain ⟨b, off, rfl, hb, c0, c1⟩ := bk_at h hlt
      obtain ⟨b', off', rfl, hb', d0, d1⟩ := bk_at h' hlt
      clear h h'
      go_wp2_with (first | (go_at_call 82; refine (eqBreak_any _ _).mono ?_; rintro e w' ⟨rfl, g, rfl⟩) | ((with_reducible refine wp_region_up (by kernel_rfl) (by kernel_rfl) ?_); (repeat (go_big_quiet_step (first | (go_at_call 82; first | exact upq_tr (eqBreak_any _ _) | exact upq (eqBreak_any _ _))))); refine wpQuiet_nil ?_; intro _ hw'; obtain ⟨nq, hw''⟩ := hw'; subst hw''))
      go_roundw
      case rel => exact ⟨k + 1, by omega, by go_num, _, rfl⟩
      case measure => simp [intOf]; omega
    · go_wp2_with (first | ((with_reducible refine wp_region_up (by kernel_rfl) (by kernel_rfl) ?_); (repeat (go_big_quiet_step (fail))); refine wpQuiet_nil ?_; intro _ hw'; obtain ⟨nq, hw''⟩ := hw'; subst hw''))
      go_ret
      exact ⟨rfl, UpOf.of (by repeat (first | exact Below.refl _ _ | refine bl_tr ?_ _ | refine bl_al ?_ _ | refine bl_dr ?_ | refine bl_up ?_ _ | refine Below.drew ?_ | refine bl_alloc ?_ _ | refine Below.setCell ?_ (by first | (simp; done) | (simp; omega)) _))⟩
set_option maxRecDepth 10000 in
theorem toBreakS_any (A : Option Addr) (c : Nat) (l : List Brk) (w : World) (h : Rds w 2 A l.length (bkcs l)) (hn : l.length ≤ 100000000) :
    Calls Tryd.prog 42 #[.slice A l.length c] w fun e w' => ∃ b : Nat, e = .returned (.slice (some ⟨b, 0, none⟩) l.length l.length) ∧ w'.ownsRow w.heap.size 69 2 (.slice (some ⟨b, 0, none⟩) l.length l.length) l.length (bkcs l) ∧ UpOf w w' := by
  have hi : (Tryd.prog.info? 69).map (fun i => (i.zero, i.size, i.bytes)) = some (some (.agg #[i64 0, i64 0]), 2, 16) := by kernel_rfl
  obtain ⟨i0, hi, hz0, hz1, hz2⟩ := info_parts hi
  have hmk : ∀ u : World, (Instr.makeSlice 27 (i64 l.length) (i64 l.length)).run Tryd.prog u = .ok (.slice (some ⟨u.heap.size, 0, none⟩) l.length l.length) (u.alloc (.cells (madeCells #[i64 0, i64 0] (l.length * 2)) 69)) := fun u => by
    have h := run_make (P := Tryd.prog) u 27 69 i0 _ Tryd.underlying27 hi hz0 .i64 .i64 l.length l.length (by omega) (Int.le_refl _) (by rw [hz2]; omega) (by omega)
    simpa [hz1, Value.cells] using h
  clear hi hz0 hz1 hz2
  go_enter Tryd.func42, Tryd.ntmps42
  go_wp2_with (first | ((with_reducible refine wp_region_up (by kernel_rfl) (by kernel_rfl) ?_); (repeat (go_big_quiet_step (fail))); refine wpQuiet_nil ?_; intro _ hw'; obtain ⟨nq, hw''⟩ := hw'; subst hw''))
  go_loopw [4] (fun i wr => ∃ k : Nat, k ≤ l.length ∧ i = i64 k ∧ ∃ ys, wr.ownsRow w.heap.size 69 2 (.slice (some ⟨w.heap.size, 0, none⟩) l.length l.length) l.length ys ∧
      (∀ i (hi : i < l.length) j, j < 2 → i < k → ys[i * 2 + j]? = (l[i].cells)[j]?) ∧ Below w.heap.size w wr) (fun i _ => l.length - (intOf i).toNat)
  case atStart =>
    refine ⟨0, by omega, rfl, _, World.ownsRow_lit w _ l.length (Nat.le_refl _) (by unfold maxLen; omega) (size_madeCells _ _), fun i hi j hj h0 => by omega, (Below.refl _ _).alloc (Nat.le_refl _) _⟩
  case round =>
    obtain ⟨k, hk, rfl, ys, hown, hys, hbel⟩ := hrel
    by_cases hlt : k < l.length
    · obtain ⟨b, off, rfl, hb, c0, c1⟩ := bk_at (h.below hbel) hlt
      have hwl := (own_block hown rfl).2.1
      have hlen := hown.1
      have d0 := hown.cellAt (k * 2) (by omega)
      have d1 := hown.cellAt (k * 2 + 1) (by omega)
      rw [List.getElem?_eq_getElem (by omega)] at d0 d1
      have f0 := fun i => hown.frozenAt i
      have HY := Lib.hid hys
      clear hys h
      go_wp2_with (first | (go_at_call 79; refine (toBreak_any _ _).mono ?_; rintro e w' ⟨rfl, g, rfl⟩) | ((with_reducible refine wp_region_up (by kernel_rfl) (by kernel_rfl) ?_); (repeat (go_big_quiet_step (first | (go_at_call 79; first | exact upq_tr (toBreak_any _ _) | exact upq (toBreak_any _ _))))); refine wpQuiet_nil ?_; intro _ hw'; obtain ⟨nq, hw''⟩ := hw'; subst hw''))
      go_roundw
      case rel =>
        go_light
        have s1 := (own_up hown g).stored (k * 2) (i64 l[k].fr)
        have s2 := s1.1.stored (k * 2 + 1) (i64 l[k].pr)
        refine ⟨k + 1, by omega, by go_num, _, s2.1, fun i hi j hj hik => bk_set HY.out hlen hi hj hik hlt, ?_⟩
        exact (((hbel.trans (g.below.mono hbel.size)).setCell (Nat.le_refl _) _).setCell (Nat.le_refl _) _)
      case measure => simp [intOf]; omega
    · go_wp2_with (first | ((with_reducible refine wp_region_up (by kernel_rfl) (by kernel_rfl) ?_); (repeat (go_big_quiet_step (fail))); refine wpQuiet_nil ?_; intro _ hw'; obtain ⟨nq, hw''⟩ := hw'; subst hw''))
      go_ret
      obtain rfl : k = l.length := by omega
      have hy : ys = bkcs l := flat_ext bk_clen l hown.1 (fun i hi j hj => hys i hi j hj hi)
      rw [hy] at hown
      exact ⟨_, rfl, hown, UpOf.of hbel⟩
/-- the elements that mark n places, from number k on -/
def bkM (k n : Nat) : List Brk := (List.range n).map fun (i : Nat) => ⟨(k : Int) + 2 * i, (k : Int) + 2 * i + 1⟩
theorem bkM_len (k n : Nat) : (bkM k n).length = n := by simp [bkM]
theorem bkM_get {k n i : Nat} (h : i < (bkM k n).length) : (bkM k n)[i] = ⟨(k : Int) + 2 * i, (k : Int) + 2 * i + 1⟩ := by simp [bkM]
set_option maxRecDepth 10000 in
theorem heldBreakS_any (A : Option Addr) (n c k0 : Nat) (w : World) (h : Rds w 2 A n (bkcs (bkM k0 n))) (hk0 : 1 ≤ k0) (hn : k0 + 2 * n < 1000000000) :
    Calls Tryd.prog 52 #[.slice A n c, i64 k0] w fun e w' => e = .returned (i64 ((k0 + 2 * n : Nat) : Int)) ∧ UpOf w w' := by
  go_enter Tryd.func52, Tryd.ntmps52
  go_wp2_with (first | ((with_reducible refine wp_region_up (by kernel_rfl) (by kernel_rfl) ?_); (repeat (go_big_quiet_step (fail))); refine wpQuiet_nil ?_; intro _ hw'; obtain ⟨nq, hw''⟩ := hw'; subst hw''))
  go_loopw [1, 5] (fun kk i wr => ∃ k : Nat, k ≤ n ∧ i = i64 k ∧ kk = i64 ((k0 : Int) + 2 * k) ∧ ∃ g : Up w, wr = up w g) (fun _ i _ => n - (intOf i).toNat)
  case atStart => exact ⟨0, by omega, rfl, by go_num, ⟨w, Below.refl _ _⟩, rfl⟩
  case round =>
    obtain ⟨k, hk, rfl, rfl, g, rfl⟩ := hrel
    by_cases hlt : k < n
    · obtain ⟨b, off, rfl, hb, c0, c1⟩ := bk_at (l := bkM k0 n) (by rw [bkM_len]; exact h) (k := k) (by rw [bkM_len]; exact hlt)
      rw [bkM_get] at c0 c1
      simp only at c0 c1
      clear h
      go_wp2_with (first | ((with_reducible refine wp_region_up (by kernel_rfl) (by kernel_rfl) ?_); (repeat (go_big_quiet_step (fail))); refine wpQuiet_nil ?_; intro _ hw'; obtain ⟨nq, hw''⟩ := hw'; subst hw''))
      go_roundw
      case rel => exact ⟨k + 1, by omega, by go_num, by go_num, _, rfl⟩
      case measure => simp [intOf]; omega
    · go_wp2_with (first | ((with_reducible refine wp_region_up (by kernel_rfl) (by kernel_rfl) ?_); (repeat (go_big_quiet_step (fail))); refine wpQuiet_nil ?_; intro _ hw'; obtain ⟨nq, hw''⟩ := hw'; subst hw''))
      go_ret
      obtain rfl : k = n := by omega
      exact ⟨ret_int (by omega), UpOf.of (by repeat (first | exact Below.refl _ _ | refine bl_tr ?_ _ | refine bl_al ?_ _ | refine bl_dr ?_ | refine bl_up ?_ _ | refine Below.drew ?_ | refine bl_alloc ?_ _ | refine Below.setCell ?_ (by first | (simp; done) | (simp; omega)) _))⟩
set_option maxRecDepth 10000 in
theorem markBreakS_any (base : Nat) (A : Option Addr) (n c k0 : Nat) (xs : List Value) (w : World) (h : w.ownsRow base 69 2 (.slice A n c) n xs) (hk0 : 1 ≤ k0) (hn : k0 + 2 * n < 1000000000) :
    Calls Tryd.prog 51 #[.slice A n c, i64 k0] w fun e w' => e = .returned (i64 ((k0 + 2 * n : Nat) : Int)) ∧ w'.ownsRow base 69 2 (.slice A n c) n (bkcs (bkM k0 n)) ∧ w.grownBy w' (Value.slice A n c).ownBlock := by
  go_enter Tryd.func51, Tryd.ntmps51
  go_wp2_with (first | ((with_reducible refine wp_region_up (by kernel_rfl) (by kernel_rfl) ?_); (repeat (go_big_quiet_step (fail))); refine wpQuiet_nil ?_; intro _ hw'; obtain ⟨nq, hw''⟩ := hw'; subst hw''))
  go_loopw [1, 5] (fun kk i wr => ∃ k : Nat, k ≤ n ∧ i = i64 k ∧ kk = i64 ((k0 : Int) + 2 * k) ∧ ∃ ys, wr.ownsRow base 69 2 (.slice A n c) n ys ∧
      (∀ i (hi : i < (bkM k0 n).length) j, j < 2 → i < k → ys[i * 2 + j]? = ((bkM k0 n)[i].cells)[j]?) ∧ w.grownBy wr (Value.slice A n c).ownBlock) (fun _ i _ => n - (intOf i).toNat)
  case atStart => exact ⟨0, by omega, rfl, by go_num, xs, h, fun i hi j hj h0 => by omega, grown_refl _ _⟩
  case round =>
    obtain ⟨k, hk, rfl, rfl, ys, hown, hys, hgr⟩ := hrel
    by_cases hlt : k < n
    · obtain ⟨b, off, rfl, hb, hc⟩ := (Rds.of_own hown).at (by omega)
      obtain ⟨hb0, hb1, rfl⟩ := own_block hown rfl
      have hlen := hown.1
      have d0 := hown.cellAt (k * 2) (by omega)
      have d1 := hown.cellAt (k * 2 + 1) (by omega)
      rw [List.getElem?_eq_getElem (by omega)] at d0 d1
      have f0 := fun i => hown.frozenAt i
      have HY := Lib.hid hys
      clear hc h hys
      go_wp2_with (first | ((with_reducible refine wp_region_up (by kernel_rfl) (by kernel_rfl) ?_); (repeat (go_big_quiet_step (fail))); refine wpQuiet_nil ?_; intro _ hw'; obtain ⟨nq, hw''⟩ := hw'; subst hw''))
      go_roundw
      case rel =>
        go_light
        have s1 := hown.stored (k * 2) (i64 ((k0 : Int) + 2 * k))
        have s2 := s1.1.stored (k * 2 + 1) (i64 ((k0 : Int) + 2 * k + 1))
        refine ⟨k + 1, by omega, by go_num, by go_num, _, ?_, fun i hi j hj hik => bk_set HY.out hlen hi hj hik hlt (h := ⟨(k0 : Int) + 2 * k, (k0 : Int) + 2 * k + 1⟩) (fun hk => bkM_get hk), ?_⟩
        · exact s2.1
        · exact (grown_trans (grown_trans hgr s1.2) s2.2)
      case measure => simp [intOf]; omega
    · go_wp2_with (first | ((with_reducible refine wp_region_up (by kernel_rfl) (by kernel_rfl) ?_); (repeat (go_big_quiet_step (fail))); refine wpQuiet_nil ?_; intro _ hw'; obtain ⟨nq, hw''⟩ := hw'; subst hw''))
      go_ret
      obtain rfl : k = n := by omega
      have hy : ys = bkcs (bkM k0 k) := flat_ext bk_clen _ (by rw [bkM_len]; exact hown.1) (fun i hi j hj => hys i hi j hj (by rw [bkM_len] at hi; exact hi))
      rw [hy] at hown
      exact ⟨ret_int (by omega), hown, hgr⟩
end Go.Proofs.YtiibpldfnnhhlaaDoor
namespace Go.Proofs.YtiibpldfnnhhlaaDoor
open Go.RowKit
def byteAt (s : ByteArray) (i : Nat) : UInt8 := s.data.toList.getD i 0
theorem byteAt_eq {s : ByteArray} {i : Nat} (h : i < s.size) : s[i] = byteAt s i := by
  have h' : i < s.data.size := h
  show s.data[i] = _
  simp [byteAt, Array.getElem?_eq_getElem h']
def small (c : UInt8) : Bool := decide (97 ≤ (c.toNat : Int) ∧ (c.toNat : Int) ≤ 122)
def digit (c : UInt8) : Bool := decide (48 ≤ (c.toNat : Int) ∧ (c.toNat : Int) ≤ 57)
def nameC (i : Nat) (c : UInt8) : Bool := small c || (decide (0 < i) && (decide ((c.toNat : Int) = 45) || digit c))
def nameB (s : ByteArray) : Bool := decide (1 ≤ s.size ∧ s.size ≤ 12) && (List.range s.size).all fun i => nameC i (byteAt s i)
theorem nameB_len {s : ByteArray} (h : ¬ (1 ≤ s.size ∧ s.size ≤ 12)) : nameB s = false := by rw [nameB, decide_eq_false h]; rfl
theorem nameB_at {s : ByteArray} {i : Nat} (hi : i < s.size) (h : nameC i (byteAt s i) = false) : nameB s = false := by
  simp only [nameB, Bool.and_eq_false_iff]
  refine .inr ?_
  rw [← Bool.not_eq_true]
  intro hc
  rw [List.all_eq_true] at hc
  have := hc i (List.mem_range.2 hi)
  simp [h] at this
theorem nameB_true {s : ByteArray} (h1 : 1 ≤ s.size ∧ s.size ≤ 12) (h : ∀ i, i < s.size → nameC i (byteAt s i) = true) : nameB s = true := by
  simp only [nameB, decide_eq_true h1, Bool.true_and, List.all_eq_true, List.mem_range]
  exact h
theorem nameB_bd {s : ByteArray} (h : nameB s = true) : 1 ≤ s.size ∧ s.size ≤ 12 := by
  simp only [nameB, Bool.and_eq_true, decide_eq_true_eq] at h
  exact h.1
theorem lt_ext {P : Nat → Prop} {j : Nat} (h : ∀ i, i < j → P i) (hj : P j) : ∀ i, i < j + 1 → P i := fun i hi => by
  rcases Nat.lt_succ_iff_lt_or_eq.1 hi with h' | h'
  · exact h i h'
  · rw [h']; exact hj
theorem isDigit_any (c : UInt8) (w : World) :
    Calls Tryd.prog 84 #[.int .u8 c.toNat] w fun e w' => e = .returned (.bool (digit c)) ∧ w = w' := by
  go_enter Tryd.func84, Tryd.ntmps84
  go_wp2
  all_goals go_ret
  all_goals exact ⟨ret_bool (by go_light; simp only [digit]; rw [Bool.eq_iff_iff]; simp; try omega), rfl⟩
theorem l01Small_any (c : UInt8) (w : World) :
    Calls Tryd.prog 87 #[.int .u8 c.toNat] w fun e w' => e = .returned (.bool (small c)) ∧ w = w' := by
  go_enter Tryd.func87, Tryd.ntmps87
  go_wp2
  all_goals go_ret
  all_goals exact ⟨ret_bool (by go_light; simp only [small]; rw [Bool.eq_iff_iff]; simp; try omega), rfl⟩
theorem l01Digit_any (c : UInt8) (w : World) :
    Calls Tryd.prog 83 #[.int .u8 c.toNat] w fun e w' => e = .returned (.bool (digit c)) ∧ w = w' := by
  go_enter Tryd.func83, Tryd.ntmps83
  go_wp2
  all_goals go_ret
  all_goals exact ⟨ret_bool (by go_light; simp only [digit]; rw [Bool.eq_iff_iff]; simp; try omega), rfl⟩
theorem nameC_of {c : UInt8} {k : Nat} {b : Bool} (h : b = (decide (97 ≤ (c.toNat : Int) ∧ (c.toNat : Int) ≤ 122) || (decide (0 < k) && (decide ((c.toNat : Int) = 45) || digit c)))) : nameC k c = b := h.symm
set_option maxRecDepth 10000 in
set_option maxHeartbeats 1000000 in
theorem isNameI_any (s : ByteArray) (w : World) (hs : s.size ≤ 9223372036854775807) :
    Calls Tryd.prog 80 #[.string s] w fun e w' => e = .returned (.bool (nameB s)) ∧ w = w' := by
  by_cases h1 : 1 ≤ s.size ∧ s.size ≤ 12
  · have H1 := Lib.hid h1
    obtain ⟨h2, h3⟩ := h1
    have z : ((s.size : Int) == 0) = false := by rw [beq_eq_false_iff_ne]; omega
    go_enter Tryd.func80, Tryd.ntmps80
    go_wp2
    go_loop [15] (fun i => ∃ k : Nat, k ≤ s.size ∧ i = i64 k ∧ Hid (∀ j, j < k → nameC j (byteAt s j) = true)) (fun i => s.size - (intOf i).toNat)
    case atStart => exact ⟨0, by omega, rfl, fun j hj => by omega⟩
    case round =>
      obtain ⟨k, hk, rfl, hok⟩ := hrel
      by_cases hlt : k < s.size
      · have hb := Lib.hid (byteAt_eq hlt)
        by_cases a1 : 97 ≤ (s[k].toNat : Int)
        · by_cases a2 : (s[k].toNat : Int) ≤ 122
          · have hq := Lib.hid (show nameC k (byteAt s k) = true by rw [← hb.out, nameC_of rfl, decide_eq_true ⟨a1, a2⟩]; rfl)
            go_wp2
            go_round
            case rel => have hx := lt_ext (P := fun j => nameC j (byteAt s j) = true) hok.out hq.out; exact ⟨k + 1, by omega, by go_num, hx⟩
            case measure => (simp [intOf]; try omega)
          · cases q0 : ((k : Int) == 0)
            · have k0 : 0 < k := by
                rw [beq_eq_false_iff_ne] at q0
                omega
              cases q1 : ((s[k].toNat : Int) != 45)
              · have hq := Lib.hid (show nameC k (byteAt s k) = true by
                  rw [← hb.out, nameC_of rfl, decide_eq_true k0, decide_eq_true (show (s[k].toNat : Int) = 45 by simpa using q1)]; simp)
                go_wp2_with (go_at_call 84; refine (isDigit_any _ _).mono ?_; rintro e w' ⟨rfl, rfl⟩)
                go_round
                case rel => have hx := lt_ext (P := fun j => nameC j (byteAt s j) = true) hok.out hq.out; exact ⟨k + 1, by omega, by go_num, hx⟩
                case measure => (simp [intOf]; try omega)
              · cases q2 : digit s[k]
                · have hf := Lib.hid (nameB_at hlt (show nameC k (byteAt s k) = false by
                    rw [← hb.out, nameC_of rfl, q2, decide_eq_false (show ¬ (s[k].toNat : Int) = 45 by simpa using q1)]; simp; intros; omega))
                  go_wp2_with (go_at_call 84; refine (ret_as (isDigit_any _ _) q2).mono ?_; rintro e w' ⟨rfl, rfl⟩)
                  go_ret
                  exact ⟨ret_bool hf.out.symm, rfl⟩
                · have hq := Lib.hid (show nameC k (byteAt s k) = true by rw [← hb.out, nameC_of rfl, q2, decide_eq_true k0]; simp)
                  go_wp2_with (go_at_call 84; refine (ret_as (isDigit_any _ _) q2).mono ?_; rintro e w' ⟨rfl, rfl⟩)
                  go_round
                  case rel => have hx := lt_ext (P := fun j => nameC j (byteAt s j) = true) hok.out hq.out; exact ⟨k + 1, by omega, by go_num, hx⟩
                  case measure => (simp [intOf]; try omega)
            · have k0 : k = 0 := by
                rw [beq_iff_eq] at q0
                omega
              have hf := Lib.hid (nameB_at hlt (show nameC k (byteAt s k) = false by rw [← hb.out, nameC_of rfl, decide_eq_false (show ¬ 0 < k by omega)]; simp; intros; omega))
              clear k0
              go_wp2_with (go_at_call 84; refine (isDigit_any _ _).mono ?_; rintro e w' ⟨rfl, rfl⟩)
              go_ret
              exact ⟨ret_bool hf.out.symm, rfl⟩
        · · cases q0 : ((k : Int) == 0)
            · have k0 : 0 < k := by
                rw [beq_eq_false_iff_ne] at q0
                omega
              cases q1 : ((s[k].toNat : Int) != 45)
              · have hq := Lib.hid (show nameC k (byteAt s k) = true by
                  rw [← hb.out, nameC_of rfl, decide_eq_true k0, decide_eq_true (show (s[k].toNat : Int) = 45 by simpa using q1)]; simp)
                go_wp2_with (go_at_call 84; refine (isDigit_any _ _).mono ?_; rintro e w' ⟨rfl, rfl⟩)
                go_round
                case rel => have hx := lt_ext (P := fun j => nameC j (byteAt s j) = true) hok.out hq.out; exact ⟨k + 1, by omega, by go_num, hx⟩
                case measure => (simp [intOf]; try omega)
              · cases q2 : digit s[k]
                · have hf := Lib.hid (nameB_at hlt (show nameC k (byteAt s k) = false by
                    rw [← hb.out, nameC_of rfl, q2, decide_eq_false (show ¬ (s[k].toNat : Int) = 45 by simpa using q1)]; simp; intros; omega))
                  go_wp2_with (go_at_call 84; refine (ret_as (isDigit_any _ _) q2).mono ?_; rintro e w' ⟨rfl, rfl⟩)
                  go_ret
                  exact ⟨ret_bool hf.out.symm, rfl⟩
                · have hq := Lib.hid (show nameC k (byteAt s k) = true by rw [← hb.out, nameC_of rfl, q2, decide_eq_true k0]; simp)
                  go_wp2_with (go_at_call 84; refine (ret_as (isDigit_any _ _) q2).mono ?_; rintro e w' ⟨rfl, rfl⟩)
                  go_round
                  case rel => have hx := lt_ext (P := fun j => nameC j (byteAt s j) = true) hok.out hq.out; exact ⟨k + 1, by omega, by go_num, hx⟩
                  case measure => (simp [intOf]; try omega)
            · have k0 : k = 0 := by
                rw [beq_iff_eq] at q0
                omega
              have hf := Lib.hid (nameB_at hlt (show nameC k (byteAt s k) = false by rw [← hb.out, nameC_of rfl, decide_eq_false (show ¬ 0 < k by omega)]; simp; intros; omega))
              clear k0
              go_wp2_with (go_at_call 84; refine (isDigit_any _ _).mono ?_; rintro e w' ⟨rfl, rfl⟩)
              go_ret
              exact ⟨ret_bool hf.out.symm, rfl⟩
      · obtain rfl : k = s.size := by omega
        have hf := Lib.hid (nameB_true H1.out hok.out)
        go_wp2
        go_ret
        exact ⟨ret_bool hf.out.symm, rfl⟩
  · have hf := Lib.hid (nameB_len h1)
    by_cases h2 : s.size = 0
    · have z : ((s.size : Int) == 0) = true := by rw [beq_iff_eq]; omega
      clear h1 h2
      go_enter Tryd.func80, Tryd.ntmps80
      go_wp2
      go_ret
      exact ⟨ret_bool hf.out.symm, rfl⟩
    · have h3 : 12 < s.size := by omega
      have z : ((s.size : Int) == 0) = false := by rw [beq_eq_false_iff_ne]; omega
      clear h1 h2
      go_enter Tryd.func80, Tryd.ntmps80
      go_wp2
      go_ret
      exact ⟨ret_bool hf.out.symm, rfl⟩
theorem isEmpty_no {s : ByteArray} (h : 0 < s.size) : s.toList.isEmpty = false := by
  rw [ByteArray.toList_eq]
  have h' : 0 < s.data.toList.length := by simpa using h
  cases hl : s.data.toList with
  | nil => rw [hl] at h'; simp at h'
  | cons _ _ => rfl
theorem isEmpty_yes {s : ByteArray} (h : s.size = 0) : s.toList.isEmpty = true := by
  rw [ByteArray.toList_eq]
  have h' : s.data.toList.length = 0 := by simpa using h
  rw [List.eq_nil_of_length_eq_zero h']
  rfl
set_option maxRecDepth 10000 in
set_option maxHeartbeats 1000000 in
theorem isNameS_any (s : ByteArray) (w : World) (hs : s.size ≤ 9223372036854775807) :
    Calls Tryd.prog 77 #[.string s] w fun e w' => e = .returned (.bool (nameB s)) ∧ w = w' := by
  by_cases h1 : 1 ≤ s.size ∧ s.size ≤ 12
  · have H1 := Lib.hid h1
    obtain ⟨h2, h3⟩ := h1
    have h0 : 0 < s.size := by omega
    have z := isEmpty_no h0
    have hb0 := Lib.hid (byteAt_eq h0)
    cases q : small s[0]
    · have hf := Lib.hid (nameB_at h0 (show nameC 0 (byteAt s 0) = false by rw [← hb0.out, nameC, q]; simp))
      go_enter Tryd.func77, Tryd.ntmps77
      go_wp2_with (go_at_call 87; refine (ret_as (l01Small_any _ _) q).mono ?_; rintro e w' ⟨rfl, rfl⟩)
      go_ret
      exact ⟨ret_bool hf.out.symm, rfl⟩
    · have HQ := Lib.hid q
      go_enter Tryd.func77, Tryd.ntmps77
      go_wp2_with (go_at_call 87; refine (ret_as (l01Small_any _ _) q).mono ?_; rintro e w' ⟨rfl, rfl⟩)
      clear q
      go_loop [3] (fun i => ∃ k : Nat, k ≤ s.size ∧ i = i64 k ∧ Hid (∀ j, j < k → nameC j (byteAt s j) = true)) (fun i => s.size - (intOf i).toNat)
      case atStart => exact ⟨0, by omega, rfl, fun j hj => by omega⟩
      case round =>
        obtain ⟨k, hk, rfl, hok⟩ := hrel
        by_cases hlt : k < s.size
        · have hb := Lib.hid (byteAt_eq hlt)
          cases q0 : small s[k]
          · have k0 : 0 < k := by
              rcases Nat.eq_zero_or_pos k with h | h
              · subst h; rw [HQ.out] at q0; cases q0
              · exact h
            cases q1 : digit s[k]
            · cases q2 : ((s[k].toNat : Int) != 45)
              · have hq := Lib.hid (show nameC k (byteAt s k) = true by rw [← hb.out, nameC, decide_eq_true k0, decide_eq_true (show (s[k].toNat : Int) = 45 by simpa using q2)]; simp)
                go_wp2_with (first | (go_at_call 87; refine (ret_as (l01Small_any _ _) q0).mono ?_; rintro e w' ⟨rfl, rfl⟩) | (go_at_call 83; refine (ret_as (l01Digit_any _ _) q1).mono ?_; rintro e w' ⟨rfl, rfl⟩))
                go_round
                case rel => have hx := lt_ext (P := fun j => nameC j (byteAt s j) = true) hok.out hq.out; exact ⟨k + 1, by omega, by go_num, hx⟩
                case measure => (simp [intOf]; try omega)
              · have hf := Lib.hid (nameB_at hlt (show nameC k (byteAt s k) = false by rw [← hb.out, nameC, q0, q1, decide_eq_false (show ¬ (s[k].toNat : Int) = 45 by simpa using q2)]; simp))
                go_wp2_with (first | (go_at_call 87; refine (ret_as (l01Small_any _ _) q0).mono ?_; rintro e w' ⟨rfl, rfl⟩) | (go_at_call 83; refine (ret_as (l01Digit_any _ _) q1).mono ?_; rintro e w' ⟨rfl, rfl⟩))
                go_ret
                exact ⟨ret_bool hf.out.symm, rfl⟩
            · have hq := Lib.hid (show nameC k (byteAt s k) = true by rw [← hb.out, nameC, q1, decide_eq_true k0]; simp)
              go_wp2_with (first | (go_at_call 87; refine (ret_as (l01Small_any _ _) q0).mono ?_; rintro e w' ⟨rfl, rfl⟩) | (go_at_call 83; refine (ret_as (l01Digit_any _ _) q1).mono ?_; rintro e w' ⟨rfl, rfl⟩))
              go_round
              case rel => have hx := lt_ext (P := fun j => nameC j (byteAt s j) = true) hok.out hq.out; exact ⟨k + 1, by omega, by go_num, hx⟩
              case measure => (simp [intOf]; try omega)
          · have hq := Lib.hid (show nameC k (byteAt s k) = true by rw [← hb.out, nameC, q0]; rfl)
            go_wp2_with (go_at_call 87; refine (ret_as (l01Small_any _ _) q0).mono ?_; rintro e w' ⟨rfl, rfl⟩)
            go_round
            case rel => have hx := lt_ext (P := fun j => nameC j (byteAt s j) = true) hok.out hq.out; exact ⟨k + 1, by omega, by go_num, hx⟩
            case measure => (simp [intOf]; try omega)
        · obtain rfl : k = s.size := by omega
          have hf := Lib.hid (nameB_true H1.out hok.out)
          go_wp2
          go_ret
          exact ⟨ret_bool hf.out.symm, rfl⟩
  · have hf := Lib.hid (nameB_len h1)
    by_cases h2 : s.size = 0
    · have z := isEmpty_yes h2
      clear h1 h2
      go_enter Tryd.func77, Tryd.ntmps77
      go_wp2
      go_ret
      exact ⟨ret_bool hf.out.symm, rfl⟩
    · have h3 : 12 < s.size := by omega
      have z := isEmpty_no (s := s) (by omega)
      clear h1 h2
      go_enter Tryd.func77, Tryd.ntmps77
      go_wp2
      go_ret
      exact ⟨ret_bool hf.out.symm, rfl⟩
end Go.Proofs.YtiibpldfnnhhlaaDoor
namespace Go.Proofs.YtiibpldfnnhhlaaDoor
open Go.RowKit
structure Ware where
  name : ByteArray
  brs : List Brk
def brk (x : Ware) (i : Nat) : Brk := x.brs.getD i ⟨0, 0⟩
theorem brk_eq {x : Ware} {i : Nat} (h : i < x.brs.length) : x.brs[i] = brk x i := by simp [brk, h]
def wat (l : List Ware) (i : Nat) : Ware := l.getD i ⟨ByteArray.empty, []⟩
theorem wat_eq {l : List Ware} {i : Nat} (h : i < l.length) : l[i] = wat l i := by simp [wat, h]
def btw (n lo hi : Int) : Bool := decide (lo ≤ n ∧ n ≤ hi)
theorem btw_true {n lo hi : Int} (h : btw n lo hi = true) : lo ≤ n ∧ n ≤ hi := by simpa [btw] using h
theorem btw_false {n lo hi : Int} (h : btw n lo hi = false) : ¬ (lo ≤ n ∧ n ≤ hi) := by simpa [btw] using h
def vBrk (b : Brk) : Bool := btw b.fr 1 1000 && btw b.pr 1 1000000
/-- break i fits: its numbers, and how it lies behind the one in front of it -/
def brkAt (x : Ware) (i : Nat) : Bool := vBrk (brk x i) && (if i = 0 then decide ((brk x i).fr = 1) else decide ((brk x (i - 1)).fr < (brk x i).fr ∧ (brk x i).pr < (brk x (i - 1)).pr))
def vWare (x : Ware) : Bool := nameB x.name && btw x.brs.length 1 6 && (List.range x.brs.length).all (brkAt x)
theorem vWare_true {x : Ware} (h1 : nameB x.name = true) (h2 : btw x.brs.length 1 6 = true) (h : ∀ i, i < x.brs.length → brkAt x i = true) : vWare x = true := by
  simp only [vWare, h1, h2, Bool.true_and, List.all_eq_true, List.mem_range]
  exact h
theorem vWare_at {x : Ware} {i : Nat} (hi : i < x.brs.length) (h : brkAt x i = false) : vWare x = false := by
  simp only [vWare, Bool.and_eq_false_iff]
  refine .inr ?_
  rw [← Bool.not_eq_true]
  intro hc
  rw [List.all_eq_true] at hc
  have := hc i (List.mem_range.2 hi)
  simp [h] at this
theorem vWare_name {x : Ware} (h : nameB x.name = false) : vWare x = false := by simp [vWare, h]
theorem vWare_len {x : Ware} (h : btw x.brs.length 1 6 = false) : vWare x = false := by simp [vWare, h]
theorem vWare_inv {x : Ware} (h : vWare x = true) : nameB x.name = true ∧ 1 ≤ x.brs.length ∧ x.brs.length ≤ 6 ∧ ∀ i, i < x.brs.length → brkAt x i = true := by
  simp only [vWare, Bool.and_eq_true, List.all_eq_true, List.mem_range] at h
  have := btw_true h.1.2
  exact ⟨h.1.1, by omega, by omega, h.2⟩
theorem brkAt_bd {x : Ware} {i : Nat} (h : brkAt x i = true) : 1 ≤ (brk x i).fr ∧ (brk x i).fr ≤ 1000 ∧ 1 ≤ (brk x i).pr ∧ (brk x i).pr ≤ 1000000 := by
  simp [brkAt, vBrk, btw] at h
  omega
theorem vWare_first {x : Ware} (h : vWare x = true) : (brk x 0).fr = 1 := by
  obtain ⟨_, h1, _, h2⟩ := vWare_inv h
  have := h2 0 (by omega)
  simp [brkAt] at this
  exact this.2
theorem brkAt_step {x : Ware} {i : Nat} (h : brkAt x (i + 1) = true) : (brk x i).fr < (brk x (i + 1)).fr ∧ (brk x (i + 1)).pr < (brk x i).pr := by
  simp [brkAt] at h
  exact h.2
theorem vWare_rise {x : Ware} (h : vWare x = true) {i j : Nat} (hij : i < j) (hj : j < x.brs.length) : (brk x i).fr < (brk x j).fr := by
  obtain ⟨_, _, _, hb⟩ := vWare_inv h
  induction j with
  | zero => omega
  | succ j ih =>
    have hs := (brkAt_step (hb (j + 1) hj)).1
    rcases Nat.lt_succ_iff_lt_or_eq.1 hij with h' | h'
    · have := ih h' (by omega); omega
    · subst h'; exact hs
/-- ware i of a list fits: it is valid, and its name is none of those in front -/
def okW (l : List Ware) (i : Nat) : Bool := vWare (wat l i) && (List.range i).all fun k => !decide ((wat l k).name = (wat l i).name)
def vWares (l : List Ware) : Bool := decide (l.length ≤ 30) && (List.range l.length).all (okW l)
theorem okW_true {l : List Ware} {i : Nat} (h : vWare (wat l i) = true) (hk : ∀ k, k < i → (wat l k).name ≠ (wat l i).name) : okW l i = true := by
  simp only [okW, h, Bool.true_and, List.all_eq_true, List.mem_range]
  intro k hki
  simp [hk k hki]
theorem okW_no {l : List Ware} {i : Nat} (h : vWare (wat l i) = false) : okW l i = false := by simp [okW, h]
theorem okW_name {l : List Ware} {i k : Nat} (hk : k < i) (h : (wat l k).name = (wat l i).name) : okW l i = false := by
  simp only [okW, Bool.and_eq_false_iff]
  refine .inr ?_
  rw [← Bool.not_eq_true]
  intro hc
  rw [List.all_eq_true] at hc
  have := hc k (List.mem_range.2 hk)
  simp [h] at this
theorem vWares_true {l : List Ware} (h1 : l.length ≤ 30) (h : ∀ i, i < l.length → okW l i = true) : vWares l = true := by
  simp only [vWares, decide_eq_true h1, Bool.true_and, List.all_eq_true, List.mem_range]
  exact h
theorem vWares_len {l : List Ware} (h : 30 < l.length) : vWares l = false := by simp [vWares]; omega
theorem vWares_at {l : List Ware} {i : Nat} (hi : i < l.length) (h : okW l i = false) : vWares l = false := by
  simp only [vWares, Bool.and_eq_false_iff]
  refine .inr ?_
  rw [← Bool.not_eq_true]
  intro hc
  rw [List.all_eq_true] at hc
  have := hc i (List.mem_range.2 hi)
  simp [h] at this
theorem vWares_inv {l : List Ware} (h : vWares l = true) : l.length ≤ 30 ∧ ∀ i, i < l.length → vWare (wat l i) = true := by
  simp only [vWares, Bool.and_eq_true, decide_eq_true_eq, List.all_eq_true, List.mem_range] at h
  refine ⟨h.1, fun i hi => ?_⟩
  have := h.2 i hi
  simp only [okW, Bool.and_eq_true] at this
  exact this.1
/-- the price that each of m costs, by the first k breaks -/
def eachN (x : Ware) (m : Int) : Nat → Int
  | 0 => 0
  | k + 1 => if (brk x k).fr ≤ m then (brk x k).pr else eachN x m k
def prc (x : Ware) (m : Int) : Int := m * eachN x m x.brs.length
theorem eachN_yes {x : Ware} {m : Int} {k : Nat} (h : (brk x k).fr ≤ m) : eachN x m (k + 1) = (brk x k).pr := by rw [eachN, if_pos h]
theorem eachN_no {x : Ware} {m : Int} {k : Nat} (h : ¬ (brk x k).fr ≤ m) : eachN x m (k + 1) = eachN x m k := by rw [eachN, if_neg h]
theorem eachN_bd {x : Ware} (h : vWare x = true) (m : Int) (k : Nat) (hk : k ≤ x.brs.length) : 0 ≤ eachN x m k ∧ eachN x m k ≤ 1000000 := by
  obtain ⟨_, _, _, hb⟩ := vWare_inv h
  induction k with
  | zero => simp [eachN]
  | succ k ih =>
    have := ih (by omega)
    have := brkAt_bd (hb k (by omega))
    rw [eachN]
    split <;> omega
/-- behind the first break that is too great none counts -/
theorem eachN_stop {x : Ware} (h : vWare x = true) {m : Int} {k : Nat} (hk : k ≤ x.brs.length) (hs : k < x.brs.length → m < (brk x k).fr) : eachN x m x.brs.length = eachN x m k := by
  suffices hs' : ∀ d, k + d ≤ x.brs.length → eachN x m (k + d) = eachN x m k by
    have := hs' (x.brs.length - k) (by omega)
    rwa [show k + (x.brs.length - k) = x.brs.length by omega] at this
  intro d
  induction d with
  | zero => intro _; rfl
  | succ d ih =>
    intro hd
    have h1 := hs (by omega)
    have h2 : m < (brk x (k + d)).fr := by
      rcases Nat.eq_zero_or_pos d with h0 | h0
      · subst h0; exact h1
      · have := vWare_rise h (i := k) (j := k + d) (by omega) (by omega); omega
    rw [← Nat.add_assoc, eachN, if_neg (by omega)]
    exact ih (by omega)
theorem mul_bd {a b p q : Int} (h1 : 0 ≤ a) (h2 : a ≤ p) (h3 : 0 ≤ b) (h4 : b ≤ q) : 0 ≤ a * b ∧ a * b ≤ p * q :=
  ⟨Int.mul_nonneg h1 h3, Int.mul_le_mul h2 h4 h3 (by omega)⟩
theorem prc_bd {x : Ware} (h : vWare x = true) {m : Int} (h0 : 0 ≤ m) (h1 : m ≤ 1000) : 0 ≤ prc x m ∧ prc x m ≤ 1000000000 := by
  have h2 := eachN_bd h m x.brs.length (Nat.le_refl _)
  have := mul_bd h0 h1 h2.1 h2.2
  unfold prc
  omega
/-- the number that is best bought, and its price, by the first k breaks -/
def chp (x : Ware) (m : Int) : Nat → Int × Int
  | 0 => (m, prc x m)
  | k + 1 => if m < (brk x k).fr ∧ prc x (brk x k).fr < (chp x m k).2 then ((brk x k).fr, prc x (brk x k).fr) else chp x m k
theorem chp_yes {x : Ware} {m : Int} {k : Nat} (h1 : m < (brk x k).fr) (h2 : prc x (brk x k).fr < (chp x m k).2) : chp x m (k + 1) = ((brk x k).fr, prc x (brk x k).fr) := by rw [chp, if_pos ⟨h1, h2⟩]
theorem chp_no1 {x : Ware} {m : Int} {k : Nat} (h1 : ¬ m < (brk x k).fr) : chp x m (k + 1) = chp x m k := by rw [chp, if_neg (fun h => h1 h.1)]
theorem chp_no2 {x : Ware} {m : Int} {k : Nat} (h2 : ¬ prc x (brk x k).fr < (chp x m k).2) : chp x m (k + 1) = chp x m k := by rw [chp, if_neg (fun h => h2 h.2)]
/-- the most that one gets for some money, of the numbers up to k -/
def mst (x : Ware) (c : Int) : Nat → Int
  | 0 => 0
  | k + 1 => if prc x ((k : Int) + 1) ≤ c then (k : Int) + 1 else mst x c k
theorem mst_yes {x : Ware} {c : Int} {k : Nat} (h : prc x ((k : Int) + 1) ≤ c) : mst x c (k + 1) = (k : Int) + 1 := by rw [mst, if_pos h]
theorem mst_no {x : Ware} {c : Int} {k : Nat} (h : ¬ prc x ((k : Int) + 1) ≤ c) : mst x c (k + 1) = mst x c k := by rw [mst, if_neg h]
theorem mst_stop {x : Ware} {c : Int} {n k : Nat} (hk : k ≤ n) (h : ∀ j, k < j → j ≤ n → c < prc x (j : Int)) : mst x c n = mst x c k := by
  suffices hs : ∀ d, k + d ≤ n → mst x c (k + d) = mst x c k by
    have := hs (n - k) (by omega)
    rwa [show k + (n - k) = n by omega] at this
  intro d
  induction d with
  | zero => intro _; rfl
  | succ d ih =>
    intro hd
    have h1 := h (k + d + 1) (by omega) (by omega)
    rw [← Nat.add_assoc, mst, if_neg (by push_cast at h1 ⊢; omega)]
    exact ih (by omega)
theorem mst_top {x : Ware} {c : Int} {n k : Nat} (hk : k ≤ n) (h : ∀ j, k < j → j ≤ n → c < prc x (j : Int)) (he : 0 < k → prc x (k : Int) ≤ c) : mst x c n = k := by
  rw [mst_stop hk h]
  cases k with
  | zero => rfl
  | succ k =>
    have := he (by omega)
    push_cast at this ⊢
    exact mst_yes this
end Go.Proofs.YtiibpldfnnhhlaaDoor
namespace Go.Proofs.YtiibpldfnnhhlaaDoor
open Go.RowKit
/-- what the walk knows of a slice's element type -/
def ElemOf (P : Program) (t e : TypeId) (z : Value) (size bytes : Nat) : Prop :=
  P.underlying t = some (.slice e) ∧ z.cells.size = size ∧ 0 < size ∧ ∃ i, P.info? e = some i ∧ i.zero = some z ∧ i.size = size ∧ i.bytes = bytes
theorem elem_of {P : Program} {t e : TypeId} {z : Value} {size bytes : Nat} (ht : P.underlying t = some (.slice e)) (hi : (P.info? e).map (fun i => (i.zero, i.size, i.bytes)) = some (some z, size, bytes)) (hzs : z.cells.size = size) (hsz : 0 < size) :
    ElemOf P t e z size bytes := by
  obtain ⟨i, hi, hz, hs, hb⟩ := info_parts hi
  exact ⟨ht, hzs, hsz, i, hi, hz, hs, hb⟩
theorem own_shape {w : World} {base e size n : Nat} {v : Value} {xs : List Value} (h : w.ownsRow base e size v n xs) : ∃ A c, v = .slice A n c := by
  rcases h.2 with ⟨hv, h0⟩ | ⟨g, cap, cur, hv, _⟩
  · subst h0; exact ⟨none, 0, hv⟩
  · exact ⟨_, cap, hv⟩
section
variable {P : Program} {w : World}
theorem run_append_nilc (base : Nat) (t ty e : TypeId) (i : TypeInfo) (size : Nat) (ht : P.underlying t = some (.slice e)) (hi : P.info? e = some i)
    (v : Value) (n : Nat) (xs : List Value) (c : Nat) (hown : w.ownsRow base e size v n xs) :
    (Builtin.append_ #[t, t] ty #[v, .slice none 0 c]).run P w = .ok v w := by
  rcases hown.2 with ⟨rfl, rfl⟩ | ⟨g, cap, cur, rfl, _, _, hnc, _⟩
  · simp [Builtin.append_, run_underlying ht, sizeOf, typeInfo, hi, Builtin.lenOf, Builtin.firstCells]
  · simp [Builtin.append_, run_underlying ht, sizeOf, typeInfo, hi, Builtin.lenOf, Builtin.firstCells, hnc, storeCells]
theorem grown_self (w : World) (row : Option Nat) : w.grownBy w row := grown_refl w row
/-- the law -/
theorem wp_app {o : Oper} {a : Act} {K : Act → World → Prop} {Q : Exit → Act → World → Prop} (s x : Operand) (t : TypeId)
    (ho : o.op = .call { callee := .builtin .append, args := #[s, x], argTypes := #[t, t] })
    (base : Nat) (e : TypeId) (z : Value) (size bytes : Nat) (el : ElemOf P t e z size bytes)
    (v : Value) (n : Nat) (xs : List Value) (hs : a.eval s = v) (hown : w.ownsRow base e size v n xs)
    (A : Option Addr) (m c : Nat) (news : List Value) (hx : a.eval x = .slice A m c) (hr : Rds w size A m news) (h1 : ∀ u ∈ news, u.oneCell' = true)
    (h63 : n + m ≤ maxLen) (hbytes : (n + m) * bytes ≤ 140737488355328) (hbase : base ≤ w.heap.size)
    (h : ∀ A' c' w', w'.ownsRow base e size (.slice A' (n + m) c') (n + m) (xs ++ news) → w.grownBy w' v.ownBlock → K (a.put o.dst (.slice A' (n + m) c')) w') : o.wp P a w K Q := by
  obtain ⟨ht, hzs, hsz, i, hi, hz, hsize, hby⟩ := el
  match A with
  | none =>
    have hm : m = 0 := by
      rcases Nat.eq_zero_or_pos m with h0 | h0
      · exact h0
      · obtain ⟨b, off, e, _⟩ := hr.2 (Nat.mul_pos h0 hsz)
        cases e
    subst hm
    have hn : news = [] := List.eq_nil_of_length_eq_zero (by simpa using hr.1)
    subst hn
    have hrun := run_append_nilc (P := P) base t o.type e i size ht hi v n xs c hown
    unfold Oper.wp execOp
    simp only [ho, resolve, invoke, builtin, Sem.run_bind, Sem.run_pure, Result.andThen_ok, List.map_toArray, List.map_cons, List.map_nil, hs, hx, hrun]
    obtain ⟨A, c', rfl⟩ := own_shape hown
    exact h A c' w (by simpa using hown) (grown_refl _ _)
  | some ad =>
    refine wp_append_own w s x t ho base e i z size bytes ht hi hz hsize hby hzs hsz v n xs hs hown ad m c news hx hr.1 (fun j u hu => ?_) h1 h63 hbytes hbase fun v' w' h2 h3 _ => ?_
    · have hj : j < news.length := (List.getElem?_eq_some_iff.1 hu).1
      obtain ⟨b, off, e, _, hc⟩ := hr.2 (by rw [← hr.1]; omega)
      injection e with e
      subst e
      have hadd : (⟨b, off, none⟩ : Addr).add j = ⟨b, off + j, none⟩ := by unfold Addr.add; split <;> simp_all
      rw [hadd]
      exact hc j u hu
    · obtain ⟨A', c', rfl⟩ := own_shape h2
      exact h A' c' w' h2 h3
theorem wpl_app {ops : Array Oper} {rest : List Oper} {o : Oper} {a : Act} {Q : Exit → Act → World → Prop} (hgd : o.guard = none) (s x : Operand) (t : TypeId)
    (ho : o.op = .call { callee := .builtin .append, args := #[s, x], argTypes := #[t, t] })
    (base : Nat) (e : TypeId) (z : Value) (size bytes : Nat) (el : ElemOf P t e z size bytes)
    (v : Value) (n : Nat) (xs : List Value) (hs : a.eval s = v) (hown : w.ownsRow base e size v n xs)
    (A : Option Addr) (m c : Nat) (news : List Value) (hx : a.eval x = .slice A m c) (hr : Rds w size A m news) (h1 : ∀ u ∈ news, u.oneCell' = true)
    (h63 : n + m ≤ maxLen) (hbytes : (n + m) * bytes ≤ 140737488355328) (hbase : base ≤ w.heap.size)
    (h : ∀ A' c' w', w'.ownsRow base e size (.slice A' (n + m) c') (n + m) (xs ++ news) → w.grownBy w' v.ownBlock → wpList P ops Q rest (a.put o.dst (.slice A' (n + m) c')) w') : wpList P ops Q (o :: rest) a w :=
  wpList_plain hgd fun _ hK => wp_app s x t ho base e z size bytes el v n xs hs hown A m c news hx hr h1 h63 hbytes hbase fun A' c' w' h2 h3 => hK _ _ (h A' c' w' h2 h3)
theorem step_app {ops : Array Oper} {o : Oper} {a : Act} {K : Act → World → Prop} {Q : Exit → Act → World → Prop} {E : Prop} (hgd : o.guard = none) (s x : Operand) (t : TypeId)
    (ho : o.op = .call { callee := .builtin .append, args := #[s, x], argTypes := #[t, t] })
    (base : Nat) (e : TypeId) (z : Value) (size bytes : Nat) (el : ElemOf P t e z size bytes)
    (v : Value) (n : Nat) (xs : List Value) (hs : a.eval s = v) (hown : w.ownsRow base e size v n xs)
    (A : Option Addr) (m c : Nat) (news : List Value) (hx : a.eval x = .slice A m c) (hr : Rds w size A m news) (h1 : ∀ u ∈ news, u.oneCell' = true)
    (h63 : n + m ≤ maxLen) (hbytes : (n + m) * bytes ≤ 140737488355328) (hbase : base ≤ w.heap.size)
    (h : ∀ A' c' w', w'.ownsRow base e size (.slice A' (n + m) c') (n + m) (xs ++ news) → w.grownBy w' v.ownBlock → K (a.put o.dst (.slice A' (n + m) c')) w') :
    if Region.wanted o (yielded ops a.tmps) = true then Oper.wp P o a w K Q else E := by
  have hw : Region.wanted o (yielded ops a.tmps) = true := by simp [Region.wanted, hgd]
  rw [if_pos hw]
  exact wp_app s x t ho base e z size bytes el v n xs hs hown A m c news hx hr h1 h63 hbytes hbase h
/-- the world behind the append has grown from W, in which what is appended to was not there -/
theorem own_grown {W w w' : World} {base e size n : Nat} {v : Value} {xs : List Value} (hown : w.ownsRow base e size v n xs) (hW : Below W.heap.size W w) (hWb : W.heap.size ≤ base) (hg : w.grownBy w' v.ownBlock) : UpOf W w' := by
  refine up_of_grown hW hg fun k hk => ?_
  obtain ⟨A, c, rfl⟩ := own_shape hown
  exact Nat.le_trans hWb (hown.lt k hk).1
theorem wpl_appU {ops : Array Oper} {rest : List Oper} {o : Oper} {a : Act} {Q : Exit → Act → World → Prop} (hgd : o.guard = none) (s x : Operand) (t : TypeId)
    (ho : o.op = .call { callee := .builtin .append, args := #[s, x], argTypes := #[t, t] })
    (W : World) (base : Nat) (e : TypeId) (z : Value) (size bytes : Nat) (el : ElemOf P t e z size bytes)
    (v : Value) (n : Nat) (xs : List Value) (hs : a.eval s = v) (hown : w.ownsRow base e size v n xs)
    (A : Option Addr) (m c : Nat) (news : List Value) (hx : a.eval x = .slice A m c) (hr : Rds w size A m news) (h1 : ∀ u ∈ news, u.oneCell' = true)
    (h63 : n + m ≤ maxLen) (hbytes : (n + m) * bytes ≤ 140737488355328) (hbase : base ≤ w.heap.size) (hW : Below W.heap.size W w) (hWb : W.heap.size ≤ base)
    (h : ∀ A' c' (g : Up W), (up W g).ownsRow base e size (.slice A' (n + m) c') (n + m) (xs ++ news) → wpList P ops Q rest (a.put o.dst (.slice A' (n + m) c')) (up W g)) : wpList P ops Q (o :: rest) a w :=
  wpl_app hgd s x t ho base e z size bytes el v n xs hs hown A m c news hx hr h1 h63 hbytes hbase fun A' c' w' h2 h3 => by
    obtain ⟨g, rfl⟩ := own_grown hown hW hWb h3
    exact h A' c' g h2
theorem step_appU {ops : Array Oper} {o : Oper} {a : Act} {K : Act → World → Prop} {Q : Exit → Act → World → Prop} {E : Prop} (hgd : o.guard = none) (s x : Operand) (t : TypeId)
    (ho : o.op = .call { callee := .builtin .append, args := #[s, x], argTypes := #[t, t] })
    (W : World) (base : Nat) (e : TypeId) (z : Value) (size bytes : Nat) (el : ElemOf P t e z size bytes)
    (v : Value) (n : Nat) (xs : List Value) (hs : a.eval s = v) (hown : w.ownsRow base e size v n xs)
    (A : Option Addr) (m c : Nat) (news : List Value) (hx : a.eval x = .slice A m c) (hr : Rds w size A m news) (h1 : ∀ u ∈ news, u.oneCell' = true)
    (h63 : n + m ≤ maxLen) (hbytes : (n + m) * bytes ≤ 140737488355328) (hbase : base ≤ w.heap.size) (hW : Below W.heap.size W w) (hWb : W.heap.size ≤ base)
    (h : ∀ A' c' (g : Up W), (up W g).ownsRow base e size (.slice A' (n + m) c') (n + m) (xs ++ news) → K (a.put o.dst (.slice A' (n + m) c')) (up W g)) :
    if Region.wanted o (yielded ops a.tmps) = true then Oper.wp P o a w K Q else E :=
  step_app hgd s x t ho base e z size bytes el v n xs hs hown A m c news hx hr h1 h63 hbytes hbase fun A' c' w' h2 h3 => by
    obtain ⟨g, rfl⟩ := own_grown hown hW hWb h3
    exact h A' c' g h2
end
/-- the cells of a block that has just been laid -/
theorem rds_new (w : World) (cs : Array Value) (t : TypeId) (sz m : Nat) (h : cs.size = m * sz) : Rds (w.alloc (.cells cs t)) sz (some ⟨w.heap.size, 0, none⟩) m cs.toList :=
  ⟨by simpa using h, fun _ => ⟨_, _, rfl, by simp, fun j u hu => by rw [World.cell?_alloc_new]; simpa using hu⟩⟩
/-- a part of what is read -/
theorem Rds.cut {w : World} {sz : Nat} {A A' : Option Addr} {n i m : Nat} {xs : List Value} (h : Rds w sz A n xs) (hm : i + m ≤ n) (hA : ∀ b off, A = some ⟨b, off, none⟩ → 0 < m * sz → A' = some ⟨b, off + i * sz, none⟩) :
    Rds w sz A' m ((xs.drop (i * sz)).take (m * sz)) := by
  have hl : i * sz + m * sz ≤ n * sz := by rw [← Nat.add_mul]; exact Nat.mul_le_mul_right _ hm
  refine ⟨by rw [List.length_take, List.length_drop, h.1]; omega, fun h0 => ?_⟩
  obtain ⟨b, off, e, hb, hc⟩ := h.2 (by omega)
  refine ⟨b, off + i * sz, hA b off e h0, hb, fun j u hu => ?_⟩
  rw [List.getElem?_take] at hu
  split at hu
  · rw [List.getElem?_drop] at hu
    rw [Nat.add_assoc]
    exact hc _ u hu
  · cases hu
theorem Rds.pre {w : World} {sz : Nat} {A : Option Addr} {n m : Nat} {xs : List Value} (h : Rds w sz A n xs) (hm : m ≤ n) : Rds w sz A m (xs.take (m * sz)) := by
  have := h.cut (i := 0) (A' := A) (m := m) (by omega) (fun b off e _ => by rw [e]; simp)
  simpa using this
theorem Rds.suf {w : World} {sz : Nat} {b off : Nat} {n i : Nat} {xs : List Value} (h : Rds w sz (some ⟨b, off, none⟩) n xs) (hm : i ≤ n) : Rds w sz (some ⟨b, off + i * sz, none⟩) (n - i) (xs.drop (i * sz)) := by
  have := h.cut (i := i) (A' := some ⟨b, off + i * sz, none⟩) (m := n - i) (by omega) (fun b' off' e _ => by injection e with e; injection e with e1 e2; subst e1 e2; rfl)
  rwa [List.take_of_length_le (by rw [List.length_drop, h.1, ← Nat.sub_mul]; exact Nat.le_refl _)] at this
theorem Rds.nilled {w w' : World} {sz : Nat} {A A' : Option Addr} {n : Nat} {xs : List Value} (h : Rds w sz A n xs) (h0 : n = 0) : Rds w' sz A' n xs := by
  subst h0
  have := List.eq_nil_of_length_eq_zero (by simpa using h.1)
  subst this
  exact Rds.empty _ _ _
end Go.Proofs.YtiibpldfnnhhlaaDoor
namespace Go.Proofs.YtiibpldfnnhhlaaDoor
open Go.RowKit
def wTot1 (x : Ware) : Nat := x.name.size + x.brs.length
theorem szWare_any (x : Ware) (A : Option Addr) (c : Nat) (k : Int) (w : World) (hk : 0 ≤ k) (hk1 : k ≤ 1048576) (h1 : x.name.size ≤ 9223372036854775807) (h2 : x.brs.length ≤ 9223372036854775807) :
    Calls Tryd.prog 6 #[.agg #[.string x.name, .slice A x.brs.length c], i64 k] w fun e w' => e = .returned (i64 (szR k (wTot1 x))) ∧ UpOf w w' := by
  have ht : Hid ((wTot1 x : Int) = x.name.size + x.brs.length) := by show (wTot1 x : Int) = _; simp [wTot1]
  by_cases q : k < x.name.size
  · go_enter Tryd.func6, Tryd.ntmps6
    go_wp2_with (first | ((with_reducible refine wp_region_up (by kernel_rfl) (by kernel_rfl) ?_); (repeat (go_big_quiet_step (fail))); refine wpQuiet_nil ?_; intro _ hw'; obtain ⟨nq, hw''⟩ := hw'; subst hw''))
    go_ret
    exact ⟨ret_int (by rw [szR_no (by have := ht.out; omega)]), UpOf.of (by repeat (first | exact Below.refl _ _ | refine bl_tr ?_ _ | refine bl_al ?_ _ | refine bl_dr ?_ | refine bl_up ?_ _ | refine Below.drew ?_ | refine bl_alloc ?_ _ | refine Below.setCell ?_ (by first | (simp; done) | (simp; omega)) _))⟩
  · by_cases q2 : k - x.name.size < x.brs.length
    · have hs : szR (k - (x.name.size : Int)) x.brs.length = -1 := szR_no q2
      go_enter Tryd.func6, Tryd.ntmps6
      go_wp2_with (first | (go_at_call 39; refine (szBreakS_any _ _ _ _ _ (by omega) (by omega) h2).mono ?_; rintro e w' ⟨rfl, g, rfl⟩) | ((with_reducible refine wp_region_up (by kernel_rfl) (by kernel_rfl) ?_); (repeat (go_big_quiet_step (first | (go_at_call 39; first | exact upq_tr (szBreakS_any _ _ _ _ _ (by omega) (by omega) h2) | exact upq (szBreakS_any _ _ _ _ _ (by omega) (by omega) h2))))); refine wpQuiet_nil ?_; intro _ hw'; obtain ⟨nq, hw''⟩ := hw'; subst hw''))
      go_ret
      exact ⟨ret_int (by rw [szR_no (by have := ht.out; omega)]), UpOf.of (by repeat (first | exact Below.refl _ _ | refine bl_tr ?_ _ | refine bl_al ?_ _ | refine bl_dr ?_ | refine bl_up ?_ _ | refine Below.drew ?_ | refine bl_alloc ?_ _ | refine Below.setCell ?_ (by first | (simp; done) | (simp; omega)) _))⟩
    · have hs : szR (k - (x.name.size : Int)) x.brs.length = k - (x.name.size : Int) - (x.brs.length : Int) := szR_ok q2
      go_enter Tryd.func6, Tryd.ntmps6
      go_wp2_with (first | (go_at_call 39; refine (szBreakS_any _ _ _ _ _ (by omega) (by omega) h2).mono ?_; rintro e w' ⟨rfl, g, rfl⟩) | ((with_reducible refine wp_region_up (by kernel_rfl) (by kernel_rfl) ?_); (repeat (go_big_quiet_step (first | (go_at_call 39; first | exact upq_tr (szBreakS_any _ _ _ _ _ (by omega) (by omega) h2) | exact upq (szBreakS_any _ _ _ _ _ (by omega) (by omega) h2))))); refine wpQuiet_nil ?_; intro _ hw'; obtain ⟨nq, hw''⟩ := hw'; subst hw''))
      go_ret
      exact ⟨ret_int (by have := ht.out; rw [szR_ok (by omega)]; omega), UpOf.of (by repeat (first | exact Below.refl _ _ | refine bl_tr ?_ _ | refine bl_al ?_ _ | refine bl_dr ?_ | refine bl_up ?_ _ | refine Below.drew ?_ | refine bl_alloc ?_ _ | refine Below.setCell ?_ (by first | (simp; done) | (simp; omega)) _))⟩
theorem own_setOld {w : World} {base : Nat} {e : TypeId} {size : Nat} {v : Value} {n : Nat} {xs : List Value} (h : w.ownsRow base e size v n xs) {p : Addr} (hp : p.block < base) (u : Value) : (w.setCell p u).ownsRow base e size v n xs := by
  refine h.kept (row := some p.block) ⟨rfl, rfl, rfl, by simp [World.setCell], fun k _ hne => Below.heap_setCell w p u k (fun e => hne (by rw [e]))⟩ ?_
  cases hv : v.ownBlock with
  | none => exact .inl rfl
  | some k =>
    refine .inr fun he => ?_
    injection he with he
    have := (h.lt k hv).1
    omega
theorem own_from {w : World} {base : Nat} {e : TypeId} {size : Nat} {v : Value} {n : Nat} {xs : List Value} (h : w.ownsRow base e size v n xs) {B : Nat} (hB : B ≤ base) : ∃ B', B ≤ B' ∧ w.ownsRow B' e size v n xs := ⟨base, hB, h⟩
theorem toWare_any (x : Ware) (A : Option Addr) (c : Nat) (w : World) (h : Rds w 2 A x.brs.length (bkcs x.brs)) (hn : x.brs.length ≤ 100000000) :
    Calls Tryd.prog 8 #[.agg #[.string x.name, .slice A x.brs.length c]] w fun e w' => ∃ b : Nat, e = .returned (.agg #[.string x.name, .slice (some ⟨b, 0, none⟩) x.brs.length x.brs.length]) ∧ w'.ownsRow w.heap.size 69 2 (.slice (some ⟨b, 0, none⟩) x.brs.length x.brs.length) x.brs.length (bkcs x.brs) ∧ UpOf w w' := by
  go_enter Tryd.func8, Tryd.ntmps8
  go_wp2_with fail
  refine (toBreakS_any _ _ x.brs _ (h.below (by repeat (first | exact Below.refl _ _ | refine bl_tr ?_ _ | refine bl_al ?_ _ | refine bl_dr ?_ | refine bl_up ?_ _ | refine Below.drew ?_ | refine bl_alloc ?_ _ | refine Below.setCell ?_ (by first | (simp; done) | (simp; omega)) _))) hn).mono ?_
  rintro e w' ⟨b, rfl, o, g, rfl⟩
  have o' := own_from o (B := w.heap.size + 3) (by simp)
  clear o
  obtain ⟨B, hB, o'⟩ := o'
  go_wp2_with fail
  refine bodyPost_ret (v := .agg #[.string x.name, .slice (some ⟨b, 0, none⟩) x.brs.length x.brs.length]) (by simp [results, Tryd.results8, go_sem]) rfl ⟨b, rfl, ?_, UpOf.of (by repeat (first | exact Below.refl _ _ | refine bl_tr ?_ _ | refine bl_al ?_ _ | refine bl_dr ?_ | refine bl_up ?_ _ | refine Below.drew ?_ | refine bl_alloc ?_ _ | refine Below.setCell ?_ (by first | (simp; done) | (simp; omega)) _))⟩
  exact own_mono (by repeat (first | exact o' | refine own_setOld ?_ (by show _ < B; simp; omega) _)) (show w.heap.size ≤ B by omega)
theorem eqWare_any (x : Ware) (A A' : Option Addr) (c c' : Nat) (w : World) (h : Rds w 2 A x.brs.length (bkcs x.brs)) (h' : Rds w 2 A' x.brs.length (bkcs x.brs)) (hn : x.brs.length ≤ 100000000) :
    Calls Tryd.prog 10 #[.agg #[.string x.name, .slice A x.brs.length c], .agg #[.string x.name, .slice A' x.brs.length c']] w fun e w' => e = .returned (.bool true) ∧ UpOf w w' := by
  go_enter Tryd.func10, Tryd.ntmps10
  go_wp2_with (first | (go_at_call 45; refine (eqBreakS_any _ _ _ _ x.brs _ (h.below (by repeat (first | exact Below.refl _ _ | refine bl_tr ?_ _ | refine bl_al ?_ _ | refine bl_dr ?_ | refine bl_up ?_ _ | refine Below.drew ?_ | refine bl_alloc ?_ _ | refine Below.setCell ?_ (by first | (simp; done) | (simp; omega)) _))) (h'.below (by repeat (first | exact Below.refl _ _ | refine bl_tr ?_ _ | refine bl_al ?_ _ | refine bl_dr ?_ | refine bl_up ?_ _ | refine Below.drew ?_ | refine bl_alloc ?_ _ | refine Below.setCell ?_ (by first | (simp; done) | (simp; omega)) _))) hn).mono ?_; rintro e w' ⟨rfl, g, rfl⟩) | ((with_reducible refine wp_region_up (by kernel_rfl) (by kernel_rfl) ?_); (repeat (go_big_quiet_step (first | (go_at_call 45; first | exact upq_tr (eqBreakS_any _ _ _ _ x.brs _ (h.below (by repeat (first | exact Below.refl _ _ | refine bl_tr ?_ _ | refine bl_al ?_ _ | refine bl_dr ?_ | refine bl_up ?_ _ | refine Below.drew ?_ | refine bl_alloc ?_ _ | refine Below.setCell ?_ (by first | (simp; done) | (simp; omega)) _))) (h'.below (by repeat (first | exact Below.refl _ _ | refine bl_tr ?_ _ | refine bl_al ?_ _ | refine bl_dr ?_ | refine bl_up ?_ _ | refine Below.drew ?_ | refine bl_alloc ?_ _ | refine Below.setCell ?_ (by first | (simp; done) | (simp; omega)) _))) hn) | exact upq (eqBreakS_any _ _ _ _ x.brs _ (h.below (by repeat (first | exact Below.refl _ _ | refine bl_tr ?_ _ | refine bl_al ?_ _ | refine bl_dr ?_ | refine bl_up ?_ _ | refine Below.drew ?_ | refine bl_alloc ?_ _ | refine Below.setCell ?_ (by first | (simp; done) | (simp; omega)) _))) (h'.below (by repeat (first | exact Below.refl _ _ | refine bl_tr ?_ _ | refine bl_al ?_ _ | refine bl_dr ?_ | refine bl_up ?_ _ | refine Below.drew ?_ | refine bl_alloc ?_ _ | refine Below.setCell ?_ (by first | (simp; done) | (simp; omega)) _))) hn))))); refine wpQuiet_nil ?_; intro _ hw'; obtain ⟨nq, hw''⟩ := hw'; subst hw''))
  go_ret
  exact ⟨rfl, UpOf.of (by repeat (first | exact Below.refl _ _ | refine bl_tr ?_ _ | refine bl_al ?_ _ | refine bl_dr ?_ | refine bl_up ?_ _ | refine Below.drew ?_ | refine bl_alloc ?_ _ | refine Below.setCell ?_ (by first | (simp; done) | (simp; omega)) _))⟩
end Go.Proofs.YtiibpldfnnhhlaaDoor
namespace Go.Proofs.YtiibpldfnnhhlaaDoor
open Go.RowKit Go.Maps
/-- is the text one of these -/
def memB (S : List ByteArray) (s : ByteArray) : Bool := S.any fun x => decide (x.data.toList = s.data.toList)
theorem ba_ext {s t : ByteArray} (h : s.data.toList = t.data.toList) : s = t := by
  cases s; cases t
  simp at h
  rw [h]
theorem memB_iff {S : List ByteArray} {s : ByteArray} : memB S s = true ↔ s ∈ S := by
  simp only [memB, List.any_eq_true, decide_eq_true_eq]
  constructor
  · rintro ⟨x, hx, he⟩
    rwa [← ba_ext he]
  · intro h
    exact ⟨s, h, rfl⟩
/-- block b is a map of at most n texts, in which just the texts of S are true -/
def SetAt (w : World) (P : Program) (k e : TypeId) (b n : Nat) (S : List ByteArray) : Prop :=
  ∃ D : DataW Unit, w.ownsMap P k (plainElem P e) b n D ∧ IsMap D ∧ ∀ s : ByteArray, D.atKey (.string s.data.toList) (.lit (.bool false)) = .lit (.bool (memB S s))
section
variable {w w' : World} {P : Program} {k e t : TypeId} {b n : Nat} {S : List ByteArray}
theorem SetAt.made (w : World) (P : Program) (k e : TypeId) : SetAt (w.alloc (.map #[] 0)) P k e w.heap.size 0 [] :=
  ⟨.map [], World.ownsMap_made _ _ _ _, isMap_empty, fun _ => rfl⟩
theorem SetAt.lt (h : SetAt w P k e b n S) : b < w.heap.size := by obtain ⟨D, h, _⟩ := h; exact h.lt
theorem SetAt.kept {row : Option Nat} (h : SetAt w P k e b n S) (hg : w.grownBy w' row) (hne : some b ≠ row) : SetAt w' P k e b n S := by
  obtain ⟨D, h1, h2, h3⟩ := h
  exact ⟨D, h1.kept hg hne, h2, h3⟩
theorem SetAt.below (h : SetAt w P k e b n S) (hb : Below w.heap.size w w') : SetAt w' P k e b n S :=
  h.kept (row := none) (grown_up ⟨w', hb⟩ none) (by simp)
theorem SetAt.up (h : SetAt w P k e b n S) (g : Up w) : SetAt (Go.Proofs.YtiibpldfnnhhlaaDoor.up w g) P k e b n S := h.below g.below
theorem SetAt.mono (h : SetAt w P k e b n S) {n' : Nat} (hn : n ≤ n') : SetAt w P k e b n' S := by
  obtain ⟨D, h1, h2, h3⟩ := h
  exact ⟨D, h1.mono hn, h2, h3⟩
theorem plainElem_bool_inv {P : Program} {e : TypeId} (he : P.underlying e = some .bool) {v : Value} {z : DataW Unit × List MemPlace} (h : plainElem P e v = some z) : ∃ x, v = .bool x ∧ z = (.lit (.bool x), []) := by
  cases v <;> simp [plainElem, he] at h
  exact ⟨_, rfl, h.symm⟩
/-- the look-up's run, ahead of a walk -/
theorem SetAt.look (h : SetAt w P k e b n S) (ht : P.underlying t = some (.map k e)) (hk : P.underlying k = some .string) (he : P.underlying e = some .bool) (hz : (zeroValue e).run P w = .ok (.bool false) w)
    (s : ByteArray) (hs : s.size ≤ maxLen) : (Instr.lookup t (.map (some b)) (.string s) false).run P w = .ok (.bool (memB S s)) w := by
  obtain ⟨D, h1, h2, h3⟩ := h
  obtain ⟨v, ps, hrun, hv⟩ := h1.lookup (string_keyed hk) ht hz (plainElem_bool he false) (WideMaps.keyOf_string_mk hk hs)
  obtain ⟨x, rfl, hx⟩ := plainElem_bool_inv he hv
  have h4 := congrArg Prod.fst hx
  rw [hrun]
  have h5 := (h3 s).symm.trans h4
  injection h5 with h5
  injection h5 with h5
  rw [h5]
theorem lit_ne {s s' : ByteArray} (h : s' ≠ s) : (Lit.string s'.data.toList) ≠ Lit.string s.data.toList := by
  intro he
  injection he with he
  exact h (ba_ext he)
theorem SetAt.put (h : SetAt w P k e b n S) (ht : P.underlying t = some (.map k e)) (hk : P.underlying k = some .string) (he : P.underlying e = some .bool) (hn : n < maxLen) (s : ByteArray) (hs : s.size ≤ maxLen) :
    ∃ w', (Instr.mapUpdate t (.map (some b)) (.string s) (.bool true)).run P w = .ok () w' ∧ SetAt w' P k e b (n + 1) (s :: S) ∧ w.grownBy w' (some b) := by
  obtain ⟨D, h1, h2, h3⟩ := h
  obtain ⟨w', hrun, r1, r2⟩ := h1.update (string_keyed hk) ht hn (WideMaps.keyOf_string_mk hk hs) (plainElem_bool he true)
  refine ⟨w', hrun, ⟨_, r1, h2.put _ _, fun s' => ?_⟩, r2⟩
  by_cases hh : s' = s
  · subst hh
    rw [atKey_put_same h2 (by simp [WideAt.IsKeyLit])]
    simp [memB]
  · rw [atKey_put_other (lit_ne hh), h3]
    simp [memB]
    intro he
    exact absurd (ba_ext (congrArg Array.toList he)).symm hh
end
/-- the store at the operation -/
theorem wpl_setPut {P : Program} (w : World) {ops : Array Oper} {rest : List Oper} {o : Oper} {a : Act} {Q : Exit → Act → World → Prop}
    (hg : o.guard = none) (m x v : Operand) (t : TypeId) (hop : o.op = Op.mapUpdate t m x v)
    (k e : TypeId) (ht : P.underlying t = some (.map k e)) (hk : P.underlying k = some .string) (he : P.underlying e = some .bool) (b n : Nat) (S : List ByteArray)
    (hm : a.eval m = .map (some b)) (hown : SetAt w P k e b n S) (hn : n < maxLen) (s : ByteArray) (hs : s.size ≤ maxLen) (hx : a.eval x = .string s) (hv : a.eval v = .bool true)
    (hK : ∀ w', SetAt w' P k e b (n + 1) (s :: S) → w.grownBy w' (some b) → wpList P ops Q rest (a.put o.dst undef) w') :
    wpList P ops Q (o :: rest) a w := by
  refine wpList_plain hg fun K' hK' => ?_
  obtain ⟨w', hrun, r1, r2⟩ := hown.put ht hk he hn s hs
  unfold Oper.wp
  simp [execOp, hop, hm, hx, hv, hrun, Result.andThen]
  exact hK' _ _ (hK w' r1 r2)
end Go.Proofs.YtiibpldfnnhhlaaDoor
namespace Go.Proofs.YtiibpldfnnhhlaaDoor
open Go.RowKit
theorem between_any (n lo hi : Int) (w : World) :
    Calls Tryd.prog 55 #[i64 n, i64 lo, i64 hi] w fun e w' => e = .returned (.bool (btw n lo hi)) ∧ w = w' := by
  go_enter Tryd.func55, Tryd.ntmps55
  go_wp2
  all_goals go_ret
  all_goals exact ⟨ret_bool (by simp [btw]; omega), rfl⟩
theorem in_any (n lo hi : Int) (w : World) :
    Calls Tryd.prog 64 #[i64 n, i64 lo, i64 hi] w fun e w' => e = .returned (.bool (btw n lo hi)) ∧ w = w' := by
  go_enter Tryd.func64, Tryd.ntmps64
  go_wp2
  all_goals go_ret
  all_goals exact ⟨ret_bool (by simp [btw]; omega), rfl⟩
theorem brk_all {w : World} {A : Option Addr} {x : Ware} (h : Rds w 2 A x.brs.length (bkcs x.brs)) (hl : 0 < x.brs.length) :
    ∃ b off, A = some ⟨b, off, none⟩ ∧ b < w.heap.size ∧ ∀ i, i < x.brs.length → w.cell? ⟨b, off + i * 2, none⟩ = some (i64 (brk x i).fr) ∧ w.cell? ⟨b, off + i * 2 + 1, none⟩ = some (i64 (brk x i).pr) := by
  obtain ⟨b, off, rfl, hb, _⟩ := bk_at h hl
  refine ⟨b, off, rfl, hb, fun i hi => ?_⟩
  obtain ⟨b', off', e, _, c0, c1⟩ := bk_at h hi
  injection e with e
  injection e with e1 e2
  subst e1 e2
  rw [brk_eq hi] at c0 c1
  exact ⟨c0, c1⟩
theorem brkAt_zero {x : Ware} (h1 : btw (brk x 0).fr 1 1000 = true) (h2 : btw (brk x 0).pr 1 1000000 = true) (h3 : (brk x 0).fr = 1) : brkAt x 0 = true := by rw [brkAt, vBrk, h1, h2]; simp [h3]
theorem brkAt_bad1 {x : Ware} {k : Nat} (h1 : btw (brk x k).fr 1 1000 = false) : brkAt x k = false := by simp [brkAt, vBrk, h1]
theorem brkAt_bad2 {x : Ware} {k : Nat} (h1 : btw (brk x k).pr 1 1000000 = false) : brkAt x k = false := by simp [brkAt, vBrk, h1]
theorem brkAt_bad3 {x : Ware} {k : Nat} (hk : 0 < k) (h : ¬ ((brk x (k - 1)).fr < (brk x k).fr ∧ (brk x k).pr < (brk x (k - 1)).pr)) : brkAt x k = false := by
  rw [brkAt, if_neg (by omega), decide_eq_false h, Bool.and_false]
theorem brkAt_good {x : Ware} {k : Nat} (hk : 0 < k) (h1 : btw (brk x k).fr 1 1000 = true) (h2 : btw (brk x k).pr 1 1000000 = true) (h3 : (brk x (k - 1)).fr < (brk x k).fr) (h4 : (brk x k).pr < (brk x (k - 1)).pr) : brkAt x k = true := by
  rw [brkAt, if_neg (by omega), decide_eq_true ⟨h3, h4⟩, vBrk, h1, h2]; rfl
set_option maxRecDepth 10000 in
set_option maxHeartbeats 2000000 in
theorem validWare_any (x : Ware) (A : Option Addr) (c : Nat) (w : World) (h : Rds w 2 A x.brs.length (bkcs x.brs)) (hn : x.brs.length ≤ 100000000) (hs : x.name.size ≤ 9223372036854775807) :
    Calls Tryd.prog 43 #[.agg #[.string x.name, .slice A x.brs.length c]] w fun e w' => e = .returned (.bool (vWare x)) ∧ UpOf w w' := by
  go_enter Tryd.func43, Tryd.ntmps43
  go_wp2_with fail
  have hA := h.alloc (.cells #[.string x.name, .slice A x.brs.length c] 29)
  have hx : w.heap.size < (w.alloc (.cells #[.string x.name, .slice A x.brs.length c] 29)).heap.size ∧ (w.alloc (.cells #[.string x.name, .slice A x.brs.length c] 29)).cell? ⟨w.heap.size, 0, none⟩ = some (.string x.name) ∧ (w.alloc (.cells #[.string x.name, .slice A x.brs.length c] 29)).cell? ⟨w.heap.size, 1, none⟩ = some (.slice A x.brs.length c) := ⟨by simp, World.cell?_alloc_new _ _ _ _, World.cell?_alloc_new _ _ _ _⟩
  have hB : Below w.heap.size w (w.alloc (.cells #[.string x.name, .slice A x.brs.length c] 29)) := (Below.refl _ _).alloc (Nat.le_refl _) _
  revert hA hx hB
  generalize w.alloc (.cells #[.string x.name, .slice A x.brs.length c] 29) = W
  intro hA hx hB
  obtain ⟨hx0, x0, x1⟩ := hx
  have HB := Lib.hid hB
  clear h hB
  cases b0 : nameB x.name
  · have hf := Lib.hid (vWare_name b0)
    go_wp2_with (first | (go_at_call 80; refine (ret_as (isNameI_any _ _ hs) b0).mono ?_; rintro e w' ⟨rfl, rfl⟩) | (go_at_call 55; refine (between_any _ _ _ _).mono ?_; rintro e w' ⟨rfl, rfl⟩) | ((with_reducible refine wp_region_up (by kernel_rfl) (by kernel_rfl) ?_); (repeat (go_big_quiet_step (first | (go_at_call 80; first | exact upq_tr_same (ret_as (isNameI_any _ _ hs) b0) | exact upq_same (ret_as (isNameI_any _ _ hs) b0)) | (go_at_call 55; first | exact upq_tr_same (between_any _ _ _ _) | exact upq_same (between_any _ _ _ _))))); refine wpQuiet_nil ?_; intro _ hw'; obtain ⟨nq, hw''⟩ := hw'; subst hw''))
    go_ret
    exact ⟨ret_bool hf.out.symm, UpOf.of HB.out⟩
  cases b1 : btw x.brs.length 1 6
  · have hf := Lib.hid (vWare_len b1)
    go_wp2_with (first | (go_at_call 80; refine (ret_as (isNameI_any _ _ hs) b0).mono ?_; rintro e w' ⟨rfl, rfl⟩) | (go_at_call 55; refine (ret_as (between_any _ _ _ _) b1).mono ?_; rintro e w' ⟨rfl, rfl⟩) | ((with_reducible refine wp_region_up (by kernel_rfl) (by kernel_rfl) ?_); (repeat (go_big_quiet_step (first | (go_at_call 80; first | exact upq_tr_same (ret_as (isNameI_any _ _ hs) b0) | exact upq_same (ret_as (isNameI_any _ _ hs) b0)) | (go_at_call 55; first | exact upq_tr_same (ret_as (between_any _ _ _ _) b1) | exact upq_same (ret_as (between_any _ _ _ _) b1))))); refine wpQuiet_nil ?_; intro _ hw'; obtain ⟨nq, hw''⟩ := hw'; subst hw''))
    go_ret
    exact ⟨ret_bool hf.out.symm, UpOf.of HB.out⟩
  have hlen := btw_true b1
  obtain ⟨b, off, rfl, hb, ha⟩ := brk_all hA (by omega)
  have HA := Lib.hid ha
  obtain ⟨z0, z1⟩ := ha 0 (by omega)
  have hn0 : 0 < x.brs.length := by omega
  clear ha
  cases b2 : ((brk x 0).fr != 1)
  · have hfr := Lib.hid (show (brk x 0).fr = 1 by simpa using b2)
    have hb0 := Lib.hid b0
    have hb1 := Lib.hid b1
    simp only [Nat.zero_mul, Nat.add_zero] at z0 z1
    go_wp2_with (first | (go_at_call 80; refine (ret_as (isNameI_any _ _ hs) b0).mono ?_; rintro e w' ⟨rfl, rfl⟩) | (go_at_call 55; refine (ret_as (between_any _ _ _ _) b1).mono ?_; rintro e w' ⟨rfl, rfl⟩) | ((with_reducible refine wp_region_up (by kernel_rfl) (by kernel_rfl) ?_); (repeat (go_big_quiet_step (first | (go_at_call 80; first | exact upq_tr_same (ret_as (isNameI_any _ _ hs) b0) | exact upq_same (ret_as (isNameI_any _ _ hs) b0)) | (go_at_call 55; first | exact upq_tr_same (ret_as (between_any _ _ _ _) b1) | exact upq_same (ret_as (between_any _ _ _ _) b1))))); refine wpQuiet_nil ?_; intro _ hw'; obtain ⟨nq, hw''⟩ := hw'; subst hw''))
    clear b0 b1 b2 z0 z1
    go_loopw [27] (fun i wr => ∃ k : Nat, k ≤ x.brs.length ∧ i = i64 k ∧ Hid (∀ j, j < k → brkAt x j = true) ∧ ∃ g : Up W, wr = up W g) (fun i _ => x.brs.length - (intOf i).toNat)
    case atStart => exact ⟨0, by omega, rfl, fun i hi => by omega, ex_up (by repeat (first | exact Below.refl _ _ | refine bl_tr ?_ _ | refine bl_al ?_ _ | refine bl_dr ?_ | refine bl_up ?_ _ | refine Below.drew ?_ | refine bl_alloc ?_ _ | refine Below.setCell ?_ (by first | (simp; done) | (simp; omega)) _))⟩
    case round =>
      obtain ⟨k, hk, rfl, hok, g, rfl⟩ := hrel
      by_cases hlt : k < x.brs.length
      · obtain ⟨c0, c1⟩ := HA.out k hlt
        cases p1 : btw (brk x k).fr 1 1000
        · have hf := Lib.hid (vWare_at hlt (brkAt_bad1 p1))
          go_wp2_with (first | (go_at_call 55; refine (between_any _ _ _ _).mono ?_; rintro e w' ⟨rfl, rfl⟩) | ((with_reducible refine wp_region_up (by kernel_rfl) (by kernel_rfl) ?_); (repeat (go_big_quiet_step (first | (go_at_call 55; first | exact upq_tr_same (between_any _ _ _ _) | exact upq_same (between_any _ _ _ _))))); refine wpQuiet_nil ?_; intro _ hw'; obtain ⟨nq, hw''⟩ := hw'; subst hw''))
          go_ret
          exact ⟨ret_bool hf.out.symm, UpOf.of (HB.out.trans (Below.mono (by repeat (first | exact Below.refl _ _ | refine bl_tr ?_ _ | refine bl_al ?_ _ | refine bl_dr ?_ | refine bl_up ?_ _ | refine Below.drew ?_ | refine bl_alloc ?_ _ | refine Below.setCell ?_ (by first | (simp; done) | (simp; omega)) _)) HB.out.size))⟩
        cases p2 : btw (brk x k).pr 1 1000000
        · have hf := Lib.hid (vWare_at hlt (brkAt_bad2 p2))
          go_wp2_with (first | (go_at_call 55; refine (between_any _ _ _ _).mono ?_; rintro e w' ⟨rfl, rfl⟩) | ((with_reducible refine wp_region_up (by kernel_rfl) (by kernel_rfl) ?_); (repeat (go_big_quiet_step (first | (go_at_call 55; first | exact upq_tr_same (between_any _ _ _ _) | exact upq_same (between_any _ _ _ _))))); refine wpQuiet_nil ?_; intro _ hw'; obtain ⟨nq, hw''⟩ := hw'; subst hw''))
          go_ret
          exact ⟨ret_bool hf.out.symm, UpOf.of (HB.out.trans (Below.mono (by repeat (first | exact Below.refl _ _ | refine bl_tr ?_ _ | refine bl_al ?_ _ | refine bl_dr ?_ | refine bl_up ?_ _ | refine Below.drew ?_ | refine bl_alloc ?_ _ | refine Below.setCell ?_ (by first | (simp; done) | (simp; omega)) _)) HB.out.size))⟩
        by_cases k0 : k = 0
        · have hq := Lib.hid (show brkAt x k = true by subst k0; exact brkAt_zero p1 p2 hfr.out)
          have hk0 : decide (0 < k) = false := by simp; omega
          clear k0
          go_wp2_with (first | (go_at_call 55; refine (between_any _ _ _ _).mono ?_; rintro e w' ⟨rfl, rfl⟩) | ((with_reducible refine wp_region_up (by kernel_rfl) (by kernel_rfl) ?_); (repeat (go_big_quiet_step (first | (go_at_call 55; first | exact upq_tr_same (between_any _ _ _ _) | exact upq_same (between_any _ _ _ _))))); refine wpQuiet_nil ?_; intro _ hw'; obtain ⟨nq, hw''⟩ := hw'; subst hw''))
          go_roundw
          case rel => have hx := lt_ext (P := fun i => brkAt x i = true) hok.out hq.out; exact ⟨k + 1, by omega, by go_num, hx, ex_up (by repeat (first | exact Below.refl _ _ | refine bl_tr ?_ _ | refine bl_al ?_ _ | refine bl_dr ?_ | refine bl_up ?_ _ | refine Below.drew ?_ | refine bl_alloc ?_ _ | refine Below.setCell ?_ (by first | (simp; done) | (simp; omega)) _))⟩
          case measure => (simp [intOf]; try omega)
        · obtain ⟨d0, d1⟩ := HA.out (k - 1) (by omega)
          have hk0 : decide (0 < k) = true := by simp; omega
          have hk1 : (1 : Int) ≤ (k : Int) := by omega
          by_cases e1 : (brk x k).fr ≤ (brk x (k - 1)).fr
          · have hf := Lib.hid (vWare_at hlt (brkAt_bad3 (by omega) (fun h => by omega)))
            go_wp2_with (first | (go_at_call 55; refine (between_any _ _ _ _).mono ?_; rintro e w' ⟨rfl, rfl⟩) | ((with_reducible refine wp_region_up (by kernel_rfl) (by kernel_rfl) ?_); (repeat (go_big_quiet_step (first | (go_at_call 55; first | exact upq_tr_same (between_any _ _ _ _) | exact upq_same (between_any _ _ _ _))))); refine wpQuiet_nil ?_; intro _ hw'; obtain ⟨nq, hw''⟩ := hw'; subst hw''))
            go_ret
            exact ⟨ret_bool hf.out.symm, UpOf.of (HB.out.trans (Below.mono (by repeat (first | exact Below.refl _ _ | refine bl_tr ?_ _ | refine bl_al ?_ _ | refine bl_dr ?_ | refine bl_up ?_ _ | refine Below.drew ?_ | refine bl_alloc ?_ _ | refine Below.setCell ?_ (by first | (simp; done) | (simp; omega)) _)) HB.out.size))⟩
          · have e1' : decide ((brk x k).fr ≤ (brk x (k - 1)).fr) = false := decide_eq_false e1
            by_cases e2 : (brk x (k - 1)).pr ≤ (brk x k).pr
            · have hf := Lib.hid (vWare_at hlt (brkAt_bad3 (by omega) (fun h => by omega)))
              go_wp2_with (first | (go_at_call 55; refine (between_any _ _ _ _).mono ?_; rintro e w' ⟨rfl, rfl⟩) | ((with_reducible refine wp_region_up (by kernel_rfl) (by kernel_rfl) ?_); (repeat (go_big_quiet_step (first | (go_at_call 55; first | exact upq_tr_same (between_any _ _ _ _) | exact upq_same (between_any _ _ _ _))))); refine wpQuiet_nil ?_; intro _ hw'; obtain ⟨nq, hw''⟩ := hw'; subst hw''))
              go_ret
              exact ⟨ret_bool hf.out.symm, UpOf.of (HB.out.trans (Below.mono (by repeat (first | exact Below.refl _ _ | refine bl_tr ?_ _ | refine bl_al ?_ _ | refine bl_dr ?_ | refine bl_up ?_ _ | refine Below.drew ?_ | refine bl_alloc ?_ _ | refine Below.setCell ?_ (by first | (simp; done) | (simp; omega)) _)) HB.out.size))⟩
            · have hq := Lib.hid (brkAt_good (by omega) p1 p2 (show (brk x (k - 1)).fr < (brk x k).fr by omega) (by omega))
              go_wp2_with (first | (go_at_call 55; refine (between_any _ _ _ _).mono ?_; rintro e w' ⟨rfl, rfl⟩) | ((with_reducible refine wp_region_up (by kernel_rfl) (by kernel_rfl) ?_); (repeat (go_big_quiet_step (first | (go_at_call 55; first | exact upq_tr_same (between_any _ _ _ _) | exact upq_same (between_any _ _ _ _))))); refine wpQuiet_nil ?_; intro _ hw'; obtain ⟨nq, hw''⟩ := hw'; subst hw''))
              go_roundw
              case rel => have hx := lt_ext (P := fun i => brkAt x i = true) hok.out hq.out; exact ⟨k + 1, by omega, by go_num, hx, ex_up (by repeat (first | exact Below.refl _ _ | refine bl_tr ?_ _ | refine bl_al ?_ _ | refine bl_dr ?_ | refine bl_up ?_ _ | refine Below.drew ?_ | refine bl_alloc ?_ _ | refine Below.setCell ?_ (by first | (simp; done) | (simp; omega)) _))⟩
              case measure => (simp [intOf]; try omega)
      · obtain rfl : k = x.brs.length := by omega
        have hf := Lib.hid (vWare_true hb0.out hb1.out hok.out)
        go_wp2_with (first | ((with_reducible refine wp_region_up (by kernel_rfl) (by kernel_rfl) ?_); (repeat (go_big_quiet_step (fail))); refine wpQuiet_nil ?_; intro _ hw'; obtain ⟨nq, hw''⟩ := hw'; subst hw''))
        go_ret
        exact ⟨ret_bool hf.out.symm, UpOf.of (HB.out.trans (Below.mono (by repeat (first | exact Below.refl _ _ | refine bl_tr ?_ _ | refine bl_al ?_ _ | refine bl_dr ?_ | refine bl_up ?_ _ | refine Below.drew ?_ | refine bl_alloc ?_ _ | refine Below.setCell ?_ (by first | (simp; done) | (simp; omega)) _)) HB.out.size))⟩
  · have hf := Lib.hid (vWare_at (i := 0) hn0 (show brkAt x 0 = false by simp [brkAt]; intro _; simpa using b2))
    simp only [Nat.zero_mul, Nat.add_zero] at z0 z1
    go_wp2_with (first | (go_at_call 80; refine (ret_as (isNameI_any _ _ hs) b0).mono ?_; rintro e w' ⟨rfl, rfl⟩) | (go_at_call 55; refine (ret_as (between_any _ _ _ _) b1).mono ?_; rintro e w' ⟨rfl, rfl⟩) | ((with_reducible refine wp_region_up (by kernel_rfl) (by kernel_rfl) ?_); (repeat (go_big_quiet_step (first | (go_at_call 80; first | exact upq_tr_same (ret_as (isNameI_any _ _ hs) b0) | exact upq_same (ret_as (isNameI_any _ _ hs) b0)) | (go_at_call 55; first | exact upq_tr_same (ret_as (between_any _ _ _ _) b1) | exact upq_same (ret_as (between_any _ _ _ _) b1))))); refine wpQuiet_nil ?_; intro _ hw'; obtain ⟨nq, hw''⟩ := hw'; subst hw''))
    go_ret
    exact ⟨ret_bool hf.out.symm, UpOf.of HB.out⟩
/-- a ware lies at an address -/
def WAt (w : World) (b o : Nat) (x : Ware) (A : Option Addr) (c : Nat) : Prop :=
  b < w.heap.size ∧ w.cell? ⟨b, o, none⟩ = some (.string x.name) ∧ w.cell? ⟨b, o + 1, none⟩ = some (.slice A x.brs.length c) ∧ Rds w 2 A x.brs.length (bkcs x.brs)
theorem WAt.below {w w' : World} {b o : Nat} {x : Ware} {A : Option Addr} {c : Nat} (a : WAt w b o x A c) (hb : Below w.heap.size w w') : WAt w' b o x A c :=
  ⟨Nat.lt_of_lt_of_le a.1 hb.size, (hb.cell (p := ⟨b, o, none⟩) a.1).trans a.2.1, (hb.cell (p := ⟨b, o + 1, none⟩) a.1).trans a.2.2.1, a.2.2.2.below hb⟩
theorem brkAt_bad0 {x : Ware} (h : ¬ (brk x 0).fr = 1) : brkAt x 0 = false := by
  rw [brkAt, if_pos rfl, decide_eq_false h, Bool.and_false]
set_option maxRecDepth 10000 in
set_option maxHeartbeats 2000000 in
theorem l26One_any (x : Ware) (b0 o0 : Nat) (A : Option Addr) (c : Nat) (w : World) (h : WAt w b0 o0 x A c) (hn : x.brs.length ≤ 100000000) (hs : x.name.size ≤ 9223372036854775807) :
    Calls Tryd.prog 40 #[.pointer (some ⟨b0, o0, none⟩)] w fun e w' => e = .returned (.bool (vWare x)) ∧ UpOf w w' := by
  obtain ⟨hb0, x0, x1, hr⟩ := h
  go_enter Tryd.func40, Tryd.ntmps40
  go_wp2_with (first | ((with_reducible refine wp_region_up (by kernel_rfl) (by kernel_rfl) ?_); (repeat (go_big_quiet_step (fail))); refine wpQuiet_nil ?_; intro _ hw'; obtain ⟨nq, hw''⟩ := hw'; subst hw''))
  go_loopw [3] (fun i wr => ∃ k : Nat, k ≤ x.brs.length ∧ i = i64 k ∧ Hid (∀ j, j < k → brkAt x j = true) ∧ ∃ g : Up w, wr = up w g) (fun i _ => x.brs.length - (intOf i).toNat)
  case atStart => exact ⟨0, by omega, rfl, fun i hi => by omega, ex_up (by repeat (first | exact Below.refl _ _ | refine bl_tr ?_ _ | refine bl_al ?_ _ | refine bl_dr ?_ | refine bl_up ?_ _ | refine Below.drew ?_ | refine bl_alloc ?_ _ | refine Below.setCell ?_ (by first | (simp; done) | (simp; omega)) _))⟩
  case round =>
    obtain ⟨k, hk, rfl, hok, g, rfl⟩ := hrel
    by_cases hlt : k < x.brs.length
    · obtain ⟨b, off, rfl, hb, ha⟩ := brk_all hr (by omega)
      have HA := Lib.hid ha
      obtain ⟨c0, c1⟩ := ha k hlt
      clear ha
      cases p1 : btw (brk x k).fr 1 1000
      · have hf := Lib.hid (vWare_at hlt (brkAt_bad1 p1))
        go_wp2_with (first | (go_at_call 64; refine (in_any _ _ _ _).mono ?_; rintro e w' ⟨rfl, rfl⟩) | ((with_reducible refine wp_region_up (by kernel_rfl) (by kernel_rfl) ?_); (repeat (go_big_quiet_step (first | (go_at_call 64; first | exact upq_tr_same (in_any _ _ _ _) | exact upq_same (in_any _ _ _ _))))); refine wpQuiet_nil ?_; intro _ hw'; obtain ⟨nq, hw''⟩ := hw'; subst hw''))
        go_ret
        exact ⟨ret_bool hf.out.symm, UpOf.of (by repeat (first | exact Below.refl _ _ | refine bl_tr ?_ _ | refine bl_al ?_ _ | refine bl_dr ?_ | refine bl_up ?_ _ | refine Below.drew ?_ | refine bl_alloc ?_ _ | refine Below.setCell ?_ (by first | (simp; done) | (simp; omega)) _))⟩
      cases p2 : btw (brk x k).pr 1 1000000
      · have hf := Lib.hid (vWare_at hlt (brkAt_bad2 p2))
        go_wp2_with (first | (go_at_call 64; refine (in_any _ _ _ _).mono ?_; rintro e w' ⟨rfl, rfl⟩) | ((with_reducible refine wp_region_up (by kernel_rfl) (by kernel_rfl) ?_); (repeat (go_big_quiet_step (first | (go_at_call 64; first | exact upq_tr_same (in_any _ _ _ _) | exact upq_same (in_any _ _ _ _))))); refine wpQuiet_nil ?_; intro _ hw'; obtain ⟨nq, hw''⟩ := hw'; subst hw''))
        go_ret
        exact ⟨ret_bool hf.out.symm, UpOf.of (by repeat (first | exact Below.refl _ _ | refine bl_tr ?_ _ | refine bl_al ?_ _ | refine bl_dr ?_ | refine bl_up ?_ _ | refine Below.drew ?_ | refine bl_alloc ?_ _ | refine Below.setCell ?_ (by first | (simp; done) | (simp; omega)) _))⟩
      by_cases k0 : k = 0
      · have hk0 : decide (0 < k) = false := by simp; omega
        have hk1 : ((k : Int) == 0) = true := by rw [beq_iff_eq]; omega
        cases p3 : ((brk x k).fr != 1)
        · have hq := Lib.hid (show brkAt x k = true by subst k0; exact brkAt_zero p1 p2 (by simpa using p3))
          clear k0
          go_wp2_with (first | (go_at_call 64; refine (in_any _ _ _ _).mono ?_; rintro e w' ⟨rfl, rfl⟩) | ((with_reducible refine wp_region_up (by kernel_rfl) (by kernel_rfl) ?_); (repeat (go_big_quiet_step (first | (go_at_call 64; first | exact upq_tr_same (in_any _ _ _ _) | exact upq_same (in_any _ _ _ _))))); refine wpQuiet_nil ?_; intro _ hw'; obtain ⟨nq, hw''⟩ := hw'; subst hw''))
          go_roundw
          case rel => have hx := lt_ext (P := fun i => brkAt x i = true) hok.out hq.out; exact ⟨k + 1, by omega, by go_num, hx, ex_up (by repeat (first | exact Below.refl _ _ | refine bl_tr ?_ _ | refine bl_al ?_ _ | refine bl_dr ?_ | refine bl_up ?_ _ | refine Below.drew ?_ | refine bl_alloc ?_ _ | refine Below.setCell ?_ (by first | (simp; done) | (simp; omega)) _))⟩
          case measure => (simp [intOf]; try omega)
        · have hf := Lib.hid (vWare_at hlt (show brkAt x k = false by subst k0; exact brkAt_bad0 (by simpa using p3)))
          clear k0
          go_wp2_with (first | (go_at_call 64; refine (in_any _ _ _ _).mono ?_; rintro e w' ⟨rfl, rfl⟩) | ((with_reducible refine wp_region_up (by kernel_rfl) (by kernel_rfl) ?_); (repeat (go_big_quiet_step (first | (go_at_call 64; first | exact upq_tr_same (in_any _ _ _ _) | exact upq_same (in_any _ _ _ _))))); refine wpQuiet_nil ?_; intro _ hw'; obtain ⟨nq, hw''⟩ := hw'; subst hw''))
          go_ret
          exact ⟨ret_bool hf.out.symm, UpOf.of (by repeat (first | exact Below.refl _ _ | refine bl_tr ?_ _ | refine bl_al ?_ _ | refine bl_dr ?_ | refine bl_up ?_ _ | refine Below.drew ?_ | refine bl_alloc ?_ _ | refine Below.setCell ?_ (by first | (simp; done) | (simp; omega)) _))⟩
      · obtain ⟨d0, d1⟩ := HA.out (k - 1) (by omega)
        have hk0 : decide (0 < k) = true := by simp; omega
        have hk1 : (1 : Int) ≤ (k : Int) := by omega
        have hk2 : ((k : Int) == 0) = false := by rw [beq_eq_false_iff_ne]; omega
        by_cases e1 : (brk x k).fr ≤ (brk x (k - 1)).fr
        · have hf := Lib.hid (vWare_at hlt (brkAt_bad3 (by omega) (fun h => by omega)))
          go_wp2_with (first | (go_at_call 64; refine (in_any _ _ _ _).mono ?_; rintro e w' ⟨rfl, rfl⟩) | ((with_reducible refine wp_region_up (by kernel_rfl) (by kernel_rfl) ?_); (repeat (go_big_quiet_step (first | (go_at_call 64; first | exact upq_tr_same (in_any _ _ _ _) | exact upq_same (in_any _ _ _ _))))); refine wpQuiet_nil ?_; intro _ hw'; obtain ⟨nq, hw''⟩ := hw'; subst hw''))
          go_ret
          exact ⟨ret_bool hf.out.symm, UpOf.of (by repeat (first | exact Below.refl _ _ | refine bl_tr ?_ _ | refine bl_al ?_ _ | refine bl_dr ?_ | refine bl_up ?_ _ | refine Below.drew ?_ | refine bl_alloc ?_ _ | refine Below.setCell ?_ (by first | (simp; done) | (simp; omega)) _))⟩
        · have e1' : decide ((brk x k).fr ≤ (brk x (k - 1)).fr) = false := decide_eq_false e1
          by_cases e2 : (brk x (k - 1)).pr ≤ (brk x k).pr
          · have hf := Lib.hid (vWare_at hlt (brkAt_bad3 (by omega) (fun h => by omega)))
            go_wp2_with (first | (go_at_call 64; refine (in_any _ _ _ _).mono ?_; rintro e w' ⟨rfl, rfl⟩) | ((with_reducible refine wp_region_up (by kernel_rfl) (by kernel_rfl) ?_); (repeat (go_big_quiet_step (first | (go_at_call 64; first | exact upq_tr_same (in_any _ _ _ _) | exact upq_same (in_any _ _ _ _))))); refine wpQuiet_nil ?_; intro _ hw'; obtain ⟨nq, hw''⟩ := hw'; subst hw''))
            go_ret
            exact ⟨ret_bool hf.out.symm, UpOf.of (by repeat (first | exact Below.refl _ _ | refine bl_tr ?_ _ | refine bl_al ?_ _ | refine bl_dr ?_ | refine bl_up ?_ _ | refine Below.drew ?_ | refine bl_alloc ?_ _ | refine Below.setCell ?_ (by first | (simp; done) | (simp; omega)) _))⟩
          · have hq := Lib.hid (brkAt_good (by omega) p1 p2 (show (brk x (k - 1)).fr < (brk x k).fr by omega) (by omega))
            go_wp2_with (first | (go_at_call 64; refine (in_any _ _ _ _).mono ?_; rintro e w' ⟨rfl, rfl⟩) | ((with_reducible refine wp_region_up (by kernel_rfl) (by kernel_rfl) ?_); (repeat (go_big_quiet_step (first | (go_at_call 64; first | exact upq_tr_same (in_any _ _ _ _) | exact upq_same (in_any _ _ _ _))))); refine wpQuiet_nil ?_; intro _ hw'; obtain ⟨nq, hw''⟩ := hw'; subst hw''))
            go_roundw
            case rel => have hx := lt_ext (P := fun i => brkAt x i = true) hok.out hq.out; exact ⟨k + 1, by omega, by go_num, hx, ex_up (by repeat (first | exact Below.refl _ _ | refine bl_tr ?_ _ | refine bl_al ?_ _ | refine bl_dr ?_ | refine bl_up ?_ _ | refine Below.drew ?_ | refine bl_alloc ?_ _ | refine Below.setCell ?_ (by first | (simp; done) | (simp; omega)) _))⟩
            case measure => (simp [intOf]; try omega)
    · obtain rfl : k = x.brs.length := by omega
      cases b0 : nameB x.name
      · have hf := Lib.hid (vWare_name b0)
        go_wp2_with (first | (go_at_call 77; refine (ret_as (isNameS_any _ _ hs) b0).mono ?_; rintro e w' ⟨rfl, rfl⟩) | (go_at_call 64; refine (in_any _ _ _ _).mono ?_; rintro e w' ⟨rfl, rfl⟩) | ((with_reducible refine wp_region_up (by kernel_rfl) (by kernel_rfl) ?_); (repeat (go_big_quiet_step (first | (go_at_call 77; first | exact upq_tr_same (ret_as (isNameS_any _ _ hs) b0) | exact upq_same (ret_as (isNameS_any _ _ hs) b0)) | (go_at_call 64; first | exact upq_tr_same (in_any _ _ _ _) | exact upq_same (in_any _ _ _ _))))); refine wpQuiet_nil ?_; intro _ hw'; obtain ⟨nq, hw''⟩ := hw'; subst hw''))
        go_ret
        exact ⟨ret_bool hf.out.symm, UpOf.of (by repeat (first | exact Below.refl _ _ | refine bl_tr ?_ _ | refine bl_al ?_ _ | refine bl_dr ?_ | refine bl_up ?_ _ | refine Below.drew ?_ | refine bl_alloc ?_ _ | refine Below.setCell ?_ (by first | (simp; done) | (simp; omega)) _))⟩
      cases b1 : btw x.brs.length 1 6
      · have hf := Lib.hid (vWare_len b1)
        go_wp2_with (first | (go_at_call 77; refine (ret_as (isNameS_any _ _ hs) b0).mono ?_; rintro e w' ⟨rfl, rfl⟩) | (go_at_call 64; refine (ret_as (in_any _ _ _ _) b1).mono ?_; rintro e w' ⟨rfl, rfl⟩) | ((with_reducible refine wp_region_up (by kernel_rfl) (by kernel_rfl) ?_); (repeat (go_big_quiet_step (first | (go_at_call 77; first | exact upq_tr_same (ret_as (isNameS_any _ _ hs) b0) | exact upq_same (ret_as (isNameS_any _ _ hs) b0)) | (go_at_call 64; first | exact upq_tr_same (ret_as (in_any _ _ _ _) b1) | exact upq_same (ret_as (in_any _ _ _ _) b1))))); refine wpQuiet_nil ?_; intro _ hw'; obtain ⟨nq, hw''⟩ := hw'; subst hw''))
        go_ret
        exact ⟨ret_bool hf.out.symm, UpOf.of (by repeat (first | exact Below.refl _ _ | refine bl_tr ?_ _ | refine bl_al ?_ _ | refine bl_dr ?_ | refine bl_up ?_ _ | refine Below.drew ?_ | refine bl_alloc ?_ _ | refine Below.setCell ?_ (by first | (simp; done) | (simp; omega)) _))⟩
      · have hf := Lib.hid (vWare_true b0 b1 hok.out)
        go_wp2_with (first | (go_at_call 77; refine (ret_as (isNameS_any _ _ hs) b0).mono ?_; rintro e w' ⟨rfl, rfl⟩) | (go_at_call 64; refine (ret_as (in_any _ _ _ _) b1).mono ?_; rintro e w' ⟨rfl, rfl⟩) | ((with_reducible refine wp_region_up (by kernel_rfl) (by kernel_rfl) ?_); (repeat (go_big_quiet_step (first | (go_at_call 77; first | exact upq_tr_same (ret_as (isNameS_any _ _ hs) b0) | exact upq_same (ret_as (isNameS_any _ _ hs) b0)) | (go_at_call 64; first | exact upq_tr_same (ret_as (in_any _ _ _ _) b1) | exact upq_same (ret_as (in_any _ _ _ _) b1))))); refine wpQuiet_nil ?_; intro _ hw'; obtain ⟨nq, hw''⟩ := hw'; subst hw''))
        go_ret
        exact ⟨ret_bool hf.out.symm, UpOf.of (by repeat (first | exact Below.refl _ _ | refine bl_tr ?_ _ | refine bl_al ?_ _ | refine bl_dr ?_ | refine bl_up ?_ _ | refine Below.drew ?_ | refine bl_alloc ?_ _ | refine Below.setCell ?_ (by first | (simp; done) | (simp; omega)) _))⟩
end Go.Proofs.YtiibpldfnnhhlaaDoor
namespace Go.Proofs.YtiibpldfnnhhlaaDoor
open Go.RowKit
abbrev Ptr := Option Addr × Nat
def wcell (x : Ware × Ptr) : List Value := [.string x.1.name, .slice x.2.1 x.1.brs.length x.2.2]
def wcs (l : List Ware) (ps : List Ptr) : List Value := (l.zip ps).flatMap wcell
theorem wcell_len (x : Ware × Ptr) : (wcell x).length = 2 := rfl
/-- the list of wares is read at A -/
def WSee (w : World) (A : Option Addr) (l : List Ware) : Prop :=
  ∃ ps : List Ptr, ps.length = l.length ∧ Rds w 2 A l.length (wcs l ps) ∧ ∀ i (h : i < l.length) (h2 : i < ps.length), Rds w 2 ps[i].1 l[i].brs.length (bkcs l[i].brs)
theorem WSee.below {w w' : World} {A : Option Addr} {l : List Ware} (h : WSee w A l) (hb : Below w.heap.size w w') : WSee w' A l := by
  obtain ⟨ps, h1, h2, h3⟩ := h
  exact ⟨ps, h1, h2.below hb, fun i a b => (h3 i a b).below hb⟩
theorem WSee.nil (w : World) (A : Option Addr) : WSee w A [] := ⟨[], rfl, Rds.empty _ _ _, fun i h => by simp at h⟩
/-- the cells of the wares, and the lists that they lead to -/
theorem ware_all {w : World} {A : Option Addr} {l : List Ware} (h : WSee w A l) (hl : 0 < l.length) :
    ∃ b off, A = some ⟨b, off, none⟩ ∧ b < w.heap.size ∧ ∀ i, i < l.length → ∃ Ai ci, w.cell? ⟨b, off + i * 2, none⟩ = some (.string (wat l i).name) ∧ w.cell? ⟨b, off + i * 2 + 1, none⟩ = some (.slice Ai (wat l i).brs.length ci) ∧ Rds w 2 Ai (wat l i).brs.length (bkcs (wat l i).brs) := by
  obtain ⟨ps, h1, h2, h3⟩ := h
  have hz : (l.zip ps).length = l.length := by rw [List.length_zip]; omega
  have h2' : Rds w 2 A (l.zip ps).length ((l.zip ps).flatMap wcell) := by rw [hz]; exact h2
  obtain ⟨b, off, rfl, hb, _⟩ := rds_elem wcell_len h2' (k := 0) (by omega) (by omega)
  refine ⟨b, off, rfl, hb, fun i hi => ?_⟩
  obtain ⟨b', off', e, _, hc⟩ := rds_elem wcell_len h2' (k := i) (by omega) (by omega)
  injection e with e
  injection e with e1 e2
  subst e1 e2
  have c0 := hc 0 _ rfl
  have c1 := hc 1 _ rfl
  simp only [List.getElem_zip] at c0 c1
  rw [wat_eq hi] at c0 c1
  have h3' := h3 i hi (by omega)
  rw [wat_eq hi] at h3'
  exact ⟨_, _, c0, c1, h3'⟩
theorem ware_at {w : World} {A : Option Addr} {l : List Ware} (h : WSee w A l) {k : Nat} (hk : k < l.length) :
    ∃ b off Ai ci, A = some ⟨b, off, none⟩ ∧ b < w.heap.size ∧ w.cell? ⟨b, off + k * 2, none⟩ = some (.string (wat l k).name) ∧ w.cell? ⟨b, off + k * 2 + 1, none⟩ = some (.slice Ai (wat l k).brs.length ci) ∧ Rds w 2 Ai (wat l k).brs.length (bkcs (wat l k).brs) := by
  obtain ⟨b, off, e, hb, h⟩ := ware_all h (by omega)
  obtain ⟨Ai, ci, r⟩ := h k hk
  exact ⟨b, off, Ai, ci, e, hb, r⟩
def wTotN (l : List Ware) : Nat → Nat
  | 0 => 0
  | k + 1 => wTotN l k + wTot1 (wat l k)
theorem wTotN_mono (l : List Ware) (i j : Nat) : wTotN l i ≤ wTotN l (i + j) := by
  induction j with
  | zero => exact Nat.le_refl _
  | succ j ih => exact Nat.le_trans ih (by rw [← Nat.add_assoc, wTotN]; omega)
def wTot (l : List Ware) : Nat := l.length + wTotN l l.length
theorem wTot_len (l : List Ware) : l.length ≤ wTot l := by simp [wTot]
theorem wTot_at {l : List Ware} {k : Nat} (hk : k < l.length) : wTot1 (wat l k) ≤ wTot l := by
  have h := wTotN_mono l (k + 1) (l.length - (k + 1))
  rw [show k + 1 + (l.length - (k + 1)) = l.length by omega, wTotN] at h
  unfold wTot
  omega
/-- no more than can be counted on -/
def WBd (l : List Ware) : Prop := ∀ i, i < l.length → (wat l i).name.size ≤ 100000000 ∧ (wat l i).brs.length ≤ 100000000
theorem wTot_bd {l : List Ware} (h : wTot l ≤ 1048576) : WBd l := fun i hi => by
  have := wTot_at hi
  unfold wTot1 at this
  omega
theorem wTot_in {l : List Ware} (h : WBd l) : ∀ i, i < l.length → (wat l i).brs.length ≤ 100000000 := fun i hi => (h i hi).2
/-- what the machine's reach gives: each text and each list has a length -/
def WFit (l : List Ware) : Prop := ∀ i, i < l.length → (wat l i).name.size ≤ 9223372036854775807 ∧ (wat l i).brs.length ≤ 9223372036854775807
/-- list l lies from block lo on, each ware's own list in a block of its own -/
def WOwn (lo : Nat) (w : World) (b : Nat) (l : List Ware) (ps : List Ptr) : Prop :=
  ps.length = l.length ∧ lo ≤ b ∧ w.ownsRow lo 29 2 (.slice (some ⟨b, 0, none⟩) l.length l.length) l.length (wcs l ps) ∧
  (∀ i (h : i < l.length) (h2 : i < ps.length), w.ownsRow (b + 1) 69 2 (.slice ps[i].1 l[i].brs.length ps[i].2) l[i].brs.length (bkcs l[i].brs)) ∧
  ∀ i j (hi : i < ps.length) (hj : j < ps.length), i ≠ j → ∀ k off, ps[i].1 = some ⟨k, off, none⟩ → ∀ off', ps[j].1 ≠ some ⟨k, off', none⟩
theorem WOwn.see {lo : Nat} {w : World} {b : Nat} {l : List Ware} {ps : List Ptr} (h : WOwn lo w b l ps) : WSee w (some ⟨b, 0, none⟩) l :=
  ⟨ps, h.1, Rds.of_own h.2.2.1, fun i a c => Rds.of_own (h.2.2.2.1 i a c)⟩
/-- the first k elements are there, as pointers ps tell -/
def wFirst (w : World) (b : Nat) (l : List Ware) (k : Nat) (ps : List Ptr) : Prop :=
  ps.length = k ∧ (∀ i (h : i < l.length) (h2 : i < ps.length), w.ownsRow (b + 1) 69 2 (.slice ps[i].1 l[i].brs.length ps[i].2) l[i].brs.length (bkcs l[i].brs)) ∧
  ∀ i j (hi : i < ps.length) (hj : j < ps.length), i ≠ j → ∀ k off, ps[i].1 = some ⟨k, off, none⟩ → ∀ off', ps[j].1 ≠ some ⟨k, off', none⟩
theorem wset {l : List Ware} {ps : List Ptr} {ys : List Value} {k : Nat} {p : Ptr} (hps : ps.length = k) (hk : k < l.length) (hlen : ys.length = l.length * 2)
    (hys : ∀ i (hi : i < (l.zip ps).length) j, j < 2 → ys[i * 2 + j]? = (wcell (l.zip ps)[i])[j]?) :
    ∀ i (hi : i < (l.zip (ps ++ [p])).length) j, j < 2 → ((ys.set (k * 2) (.string (wat l k).name)).set (k * 2 + 1) (.slice p.1 (wat l k).brs.length p.2))[i * 2 + j]? = (wcell (l.zip (ps ++ [p]))[i])[j]? := by
  intro i hi j hj
  have hz : i < k + 1 := by rw [List.length_zip, List.length_append, List.length_singleton] at hi; omega
  by_cases hik : i = k
  · subst hik
    have e : (l.zip (ps ++ [p]))[i] = (wat l i, p) := by
      rw [List.getElem_zip, wat_eq hk, List.getElem_append_right (by omega)]
      simp [hps]
    rw [e]
    match j, hj with
    | 0, _ => rw [List.getElem?_set_ne (by omega), Nat.add_zero, List.getElem?_set_self (by omega)]; rfl
    | 1, _ => rw [List.getElem?_set_self (by rw [List.length_set]; omega)]; rfl
  · have h1 : i < (l.zip ps).length := by rw [List.length_zip]; omega
    rw [List.getElem?_set_ne (by omega), List.getElem?_set_ne (by omega), hys i h1 j hj, List.getElem_zip, List.getElem_zip, List.getElem_append_left (by omega)]
theorem wfirst_step {w w' : World} {b k b9 : Nat} {l : List Ware} {ps : List Ptr} (h : wFirst w b l k ps) (hk : k < l.length) (hb : b < w.heap.size)
    (ho : ∀ (base : Nat) (e : TypeId) (size : Nat) (v : Value) (n : Nat) (xs : List Value), b < base → w.ownsRow base e size v n xs → w'.ownsRow base e size v n xs)
    (o9 : w'.ownsRow w.heap.size 69 2 (.slice (some ⟨b9, 0, none⟩) (wat l k).brs.length (wat l k).brs.length) (wat l k).brs.length (bkcs (wat l k).brs)) :
    wFirst w' b l (k + 1) (ps ++ [(some ⟨b9, 0, none⟩, (wat l k).brs.length)]) := by
  obtain ⟨h1, h2, h3⟩ := h
  refine ⟨by simp [h1], fun i hi hi2 => ?_, fun i j hi hj hne => ?_⟩
  · rw [List.length_append, List.length_singleton] at hi2
    by_cases hik : i = k
    · subst hik
      have e : (ps ++ [((some ⟨b9, 0, none⟩, (wat l i).brs.length) : Ptr)])[i] = (some ⟨b9, 0, none⟩, (wat l i).brs.length) := by
        rw [List.getElem_append_right (by omega)]; simp [h1]
      rw [e, wat_eq hi]
      exact own_mono o9 hb
    · rw [List.getElem_append_left (by omega)]
      exact ho _ _ _ _ _ _ (Nat.lt_succ_self _) (h2 i hi (by omega))
  · rw [List.length_append, List.length_singleton] at hi hj
    have hnew : ∀ i (hi : i < ps.length) k off, ps[i].1 = some ⟨k, off, none⟩ → k < w.heap.size := fun i hi k off e => by
      have := h2 i (by omega) hi
      rw [e] at this
      exact (own_block this rfl).2.1
    have hb9 := (own_block o9 rfl).1
    intro k' off e off' e'
    by_cases hik : i = k
    · have hjk : j < ps.length := by omega
      rw [List.getElem_append_left hjk] at e'
      have := hnew j hjk _ _ e'
      rw [List.getElem_append_right (by omega)] at e
      (simp at e; try omega)
    · have hil : i < ps.length := by omega
      rw [List.getElem_append_left hil] at e
      by_cases hjk : j = k
      · have := hnew i hil _ _ e
        rw [List.getElem_append_right (by omega)] at e'
        (simp at e'; try omega)
      · have hjl : j < ps.length := by omega
        rw [List.getElem_append_left hjl] at e'
        exact h3 i j hil hjl hne _ _ e _ e'
end Go.Proofs.YtiibpldfnnhhlaaDoor
namespace Go.Proofs.YtiibpldfnnhhlaaDoor
open Go.RowKit
def namesOf (l : List Ware) (k : Nat) (S : List ByteArray) : Prop := ∀ s, s ∈ S ↔ ∃ j, j < k ∧ (wat l j).name = s
theorem namesOf_step {l : List Ware} {k : Nat} {S : List ByteArray} (h : namesOf l k S) : namesOf l (k + 1) ((wat l k).name :: S) := by
  intro s
  rw [List.mem_cons, h s]
  constructor
  · rintro (rfl | ⟨j, hj, e⟩)
    · exact ⟨k, by omega, rfl⟩
    · exact ⟨j, by omega, e⟩
  · rintro ⟨j, hj, e⟩
    rcases Nat.lt_succ_iff_lt_or_eq.1 hj with h' | h'
    · exact .inr ⟨j, h', e⟩
    · subst h'; exact .inl e.symm
theorem okW_memB {l : List Ware} {k : Nat} {S : List ByteArray} (h : namesOf l k S) (hm : memB S (wat l k).name = true) : okW l k = false := by
  obtain ⟨j, hj, e⟩ := (h _).1 (memB_iff.1 hm)
  exact okW_name hj e
theorem okW_fresh {l : List Ware} {k : Nat} {S : List ByteArray} (h : namesOf l k S) (hv : vWare (wat l k) = true) (hm : memB S (wat l k).name = false) : okW l k = true := by
  refine okW_true hv fun j hj e => ?_
  have := memB_iff.2 ((h _).2 ⟨j, hj, e⟩)
  rw [hm] at this
  cases this
theorem zeroBool (w : World) : (zeroValue 4).run Tryd.prog w = .ok (.bool false) w := by kernel_rfl
set_option maxRecDepth 10000 in
set_option maxHeartbeats 2000000 in
theorem validWares_any (A : Option Addr) (c : Nat) (l : List Ware) (w : World) (h : WSee w A l) (hn : l.length ≤ 100000000) (hf : ∀ i, i < l.length → (wat l i).name.size ≤ 100000000 ∧ (wat l i).brs.length ≤ 100000000) :
    Calls Tryd.prog 36 #[.slice A l.length c] w fun e w' => e = .returned (.bool (vWares l)) ∧ UpOf w w' := by
  have HF := Lib.hid hf
  clear hf
  have hmm := @run_makeMap Tryd.prog
  go_enter Tryd.func36, Tryd.ntmps36
  go_wp2_with (first | ((with_reducible refine wp_region_up (by kernel_rfl) (by kernel_rfl) ?_); (repeat (go_big_quiet_step (fail))); refine wpQuiet_nil ?_; intro _ hw'; obtain ⟨nq, hw''⟩ := hw'; subst hw''))
  go_loopw [9] (fun i wr => ∃ k : Nat, k ≤ l.length ∧ i = i64 k ∧ Hid (∀ j, j < k → okW l j = true) ∧ ∃ S, SetAt wr Tryd.prog 9 4 w.heap.size k S ∧ Hid (namesOf l k S) ∧ Below w.heap.size w wr) (fun i _ => l.length - (intOf i).toNat)
  case atStart => exact ⟨0, by omega, rfl, fun i hi => by omega, [], SetAt.made _ _ _ _, fun s => by simp, (by repeat (first | exact Below.refl _ _ | refine bl_tr ?_ _ | refine bl_al ?_ _ | refine bl_dr ?_ | refine bl_up ?_ _ | refine Below.drew ?_ | refine bl_alloc ?_ _ | refine Below.setCell ?_ (by first | (simp; done) | (simp; omega)) _))⟩
  case round =>
    obtain ⟨k, hk, rfl, hok, S, hset, hnm, hbel⟩ := hrel
    by_cases hlt : k < l.length
    · obtain ⟨b, off, Ai, ci, rfl, hb, c0, c1, r⟩ := ware_at (h.below hbel) hlt
      obtain ⟨f1, f2⟩ := HF.out k hlt
      have hBl := hset.lt
      have HSET := Lib.hid hset
      have HBEL := Lib.hid hbel
      cases b1 : vWare (wat l k)
      · have hf := Lib.hid (vWares_at hlt (okW_no b1))
        clear h hset hbel
        refine as_up fun g0 => ?_
        go_wp2_with (first | (go_at_call 43; refine (ret_as (validWare_any _ _ _ _ (r.below (by repeat (first | exact Below.refl _ _ | refine bl_tr ?_ _ | refine bl_al ?_ _ | refine bl_dr ?_ | refine bl_up ?_ _ | refine Below.drew ?_ | refine bl_alloc ?_ _ | refine Below.setCell ?_ (by first | (simp; done) | (simp; omega)) _))) f2 (by omega)) b1).mono ?_; rintro e w' ⟨rfl, g, rfl⟩) | ((with_reducible refine wp_region_up (by kernel_rfl) (by kernel_rfl) ?_); (repeat (go_big_quiet_step (first | (go_at_call 43; first | exact upq_tr (ret_as (validWare_any _ _ _ _ (r.below (by repeat (first | exact Below.refl _ _ | refine bl_tr ?_ _ | refine bl_al ?_ _ | refine bl_dr ?_ | refine bl_up ?_ _ | refine Below.drew ?_ | refine bl_alloc ?_ _ | refine Below.setCell ?_ (by first | (simp; done) | (simp; omega)) _))) f2 (by omega)) b1) | exact upq (ret_as (validWare_any _ _ _ _ (r.below (by repeat (first | exact Below.refl _ _ | refine bl_tr ?_ _ | refine bl_al ?_ _ | refine bl_dr ?_ | refine bl_up ?_ _ | refine Below.drew ?_ | refine bl_alloc ?_ _ | refine Below.setCell ?_ (by first | (simp; done) | (simp; omega)) _))) f2 (by omega)) b1))))); refine wpQuiet_nil ?_; intro _ hw'; obtain ⟨nq, hw''⟩ := hw'; subst hw''))
        go_ret
        exact ⟨ret_bool hf.out.symm, UpOf.of (HBEL.out.trans (Below.mono (by repeat (first | exact Below.refl _ _ | refine bl_tr ?_ _ | refine bl_al ?_ _ | refine bl_dr ?_ | refine bl_up ?_ _ | refine Below.drew ?_ | refine bl_alloc ?_ _ | refine Below.setCell ?_ (by first | (simp; done) | (simp; omega)) _)) HBEL.out.size))⟩
      · cases b2 : memB S (wat l k).name
        · have hq := Lib.hid (okW_fresh hnm.out b1 b2)
          have hlook : ∀ g : Up wr, (Instr.lookup 97 (.map (some w.heap.size)) (.string (wat l k).name) false).run Tryd.prog (up wr g) = .ok (.bool false) (up wr g) := fun g => ((HSET.out.up g).look Tryd.underlying97 Tryd.underlying9 Tryd.underlying4 (zeroBool _) (wat l k).name (by unfold maxLen; omega)).trans (by rw [b2])
          clear h hset hbel
          refine as_up fun g0 => ?_
          go_wp2_with (first | (go_at_call 43; refine (ret_as (validWare_any _ _ _ _ (r.below (by repeat (first | exact Below.refl _ _ | refine bl_tr ?_ _ | refine bl_al ?_ _ | refine bl_dr ?_ | refine bl_up ?_ _ | refine Below.drew ?_ | refine bl_alloc ?_ _ | refine Below.setCell ?_ (by first | (simp; done) | (simp; omega)) _))) f2 (by omega)) b1).mono ?_; rintro e w' ⟨rfl, g, rfl⟩) | (at_mapUpdate; refine wpl_setPut _ rfl _ _ _ 97 rfl 9 4 Tryd.underlying97 Tryd.underlying9 Tryd.underlying4 w.heap.size k S rfl (HSET.out.below (by repeat (first | exact Below.refl _ _ | refine bl_tr ?_ _ | refine bl_al ?_ _ | refine bl_dr ?_ | refine bl_up ?_ _ | refine Below.drew ?_ | refine bl_alloc ?_ _ | refine Below.setCell ?_ (by first | (simp; done) | (simp; omega)) _))) (by unfold maxLen; omega) (wat l k).name (by unfold maxLen; omega) rfl rfl ?_; intro w1 hset1 hgr1))
          go_roundw
          case rel =>
            have hx := lt_ext (P := fun j => okW l j = true) hok.out hq.out
            exact ⟨k + 1, by omega, by go_num, hx, _, hset1, namesOf_step hnm.out, (HBEL.out.trans (Below.mono (by repeat (first | exact Below.refl _ _ | refine bl_tr ?_ _ | refine bl_al ?_ _ | refine bl_dr ?_ | refine bl_up ?_ _ | refine Below.drew ?_ | refine bl_alloc ?_ _ | refine Below.setCell ?_ (by first | (simp; done) | (simp; omega)) _)) HBEL.out.size)).grown hgr1 (Nat.le_trans HBEL.out.size (up_below _ _).size) (fun j hj => by injection hj with hj; omega)⟩
          case measure => (simp [intOf]; try omega)
        · have hf := Lib.hid (vWares_at hlt (okW_memB hnm.out b2))
          have hlook : ∀ g : Up wr, (Instr.lookup 97 (.map (some w.heap.size)) (.string (wat l k).name) false).run Tryd.prog (up wr g) = .ok (.bool true) (up wr g) := fun g => ((HSET.out.up g).look Tryd.underlying97 Tryd.underlying9 Tryd.underlying4 (zeroBool _) (wat l k).name (by unfold maxLen; omega)).trans (by rw [b2])
          clear h hset hbel
          refine as_up fun g0 => ?_
          go_wp2_with (first | (go_at_call 43; refine (ret_as (validWare_any _ _ _ _ (r.below (by repeat (first | exact Below.refl _ _ | refine bl_tr ?_ _ | refine bl_al ?_ _ | refine bl_dr ?_ | refine bl_up ?_ _ | refine Below.drew ?_ | refine bl_alloc ?_ _ | refine Below.setCell ?_ (by first | (simp; done) | (simp; omega)) _))) f2 (by omega)) b1).mono ?_; rintro e w' ⟨rfl, g, rfl⟩) | ((with_reducible refine wp_region_up (by kernel_rfl) (by kernel_rfl) ?_); (repeat (go_big_quiet_step (first | (go_at_call 43; first | exact upq_tr (ret_as (validWare_any _ _ _ _ (r.below (by repeat (first | exact Below.refl _ _ | refine bl_tr ?_ _ | refine bl_al ?_ _ | refine bl_dr ?_ | refine bl_up ?_ _ | refine Below.drew ?_ | refine bl_alloc ?_ _ | refine Below.setCell ?_ (by first | (simp; done) | (simp; omega)) _))) f2 (by omega)) b1) | exact upq (ret_as (validWare_any _ _ _ _ (r.below (by repeat (first | exact Below.refl _ _ | refine bl_tr ?_ _ | refine bl_al ?_ _ | refine bl_dr ?_ | refine bl_up ?_ _ | refine Below.drew ?_ | refine bl_alloc ?_ _ | refine Below.setCell ?_ (by first | (simp; done) | (simp; omega)) _))) f2 (by omega)) b1))))); refine wpQuiet_nil ?_; intro _ hw'; obtain ⟨nq, hw''⟩ := hw'; subst hw''))
          go_ret
          exact ⟨ret_bool hf.out.symm, UpOf.of (HBEL.out.trans (Below.mono (by repeat (first | exact Below.refl _ _ | refine bl_tr ?_ _ | refine bl_al ?_ _ | refine bl_dr ?_ | refine bl_up ?_ _ | refine Below.drew ?_ | refine bl_alloc ?_ _ | refine Below.setCell ?_ (by first | (simp; done) | (simp; omega)) _)) HBEL.out.size))⟩
    · obtain rfl : k = l.length := by omega
      by_cases q : l.length ≤ 30
      · have hf := Lib.hid (vWares_true q hok.out)
        go_wp2_with (first | ((with_reducible refine wp_region_up (by kernel_rfl) (by kernel_rfl) ?_); (repeat (go_big_quiet_step (fail))); refine wpQuiet_nil ?_; intro _ hw'; obtain ⟨nq, hw''⟩ := hw'; subst hw''))
        go_ret
        exact ⟨ret_bool (by rw [hf.out]; exact decide_eq_true (by omega)), UpOf.of hbel⟩
      · have hf := Lib.hid (vWares_len (l := l) (by omega))
        have q' : decide (l.length ≤ 30) = false := decide_eq_false q
        go_wp2_with (first | ((with_reducible refine wp_region_up (by kernel_rfl) (by kernel_rfl) ?_); (repeat (go_big_quiet_step (fail))); refine wpQuiet_nil ?_; intro _ hw'; obtain ⟨nq, hw''⟩ := hw'; subst hw''))
        go_ret
        exact ⟨ret_bool (by rw [hf.out]; exact decide_eq_false (by omega)), UpOf.of hbel⟩
theorem text_eq {s t : ByteArray} (h : (s.toList == t.toList) = true) : s = t := by
  rw [beq_iff_eq, ByteArray.toList_eq, ByteArray.toList_eq] at h
  exact ba_ext h
theorem text_ne {s t : ByteArray} (h : (s.toList == t.toList) = false) : s ≠ t := by
  intro e
  subst e
  simp at h
set_option maxRecDepth 10000 in
set_option maxHeartbeats 2000000 in
theorem l26Ok_any (A : Option Addr) (c : Nat) (l : List Ware) (w : World) (h : WSee w A l) (hn : l.length ≤ 100000000) (hf : ∀ i, i < l.length → (wat l i).name.size ≤ 100000000 ∧ (wat l i).brs.length ≤ 100000000) :
    Calls Tryd.prog 73 #[.slice A l.length c] w fun e w' => e = .returned (.bool (vWares l)) ∧ UpOf w w' := by
  have HF := Lib.hid hf
  clear hf
  go_enter Tryd.func73, Tryd.ntmps73
  go_wp2_with (first | ((with_reducible refine wp_region_up (by kernel_rfl) (by kernel_rfl) ?_); (repeat (go_big_quiet_step (fail))); refine wpQuiet_nil ?_; intro _ hw'; obtain ⟨nq, hw''⟩ := hw'; subst hw''))
  go_loopw [3] (fun i wr => ∃ k : Nat, k ≤ l.length ∧ i = i64 k ∧ Hid (∀ j, j < k → okW l j = true) ∧ ∃ g : Up w, wr = up w g) (fun i _ => l.length - (intOf i).toNat)
  case atStart => exact ⟨0, by omega, rfl, fun i hi => by omega, ex_up (by repeat (first | exact Below.refl _ _ | refine bl_tr ?_ _ | refine bl_al ?_ _ | refine bl_dr ?_ | refine bl_up ?_ _ | refine Below.drew ?_ | refine bl_alloc ?_ _ | refine Below.setCell ?_ (by first | (simp; done) | (simp; omega)) _))⟩
  case round =>
    obtain ⟨k, hk, rfl, hok, g, rfl⟩ := hrel
    by_cases hlt : k < l.length
    · obtain ⟨b, off, rfl, hb, ha⟩ := ware_all h (by omega)
      have HA := Lib.hid ha
      obtain ⟨Ai, ci, c0, c1, r⟩ := ha k hlt
      obtain ⟨f1, f2⟩ := HF.out k hlt
      clear ha
      have hat : Hid (WAt w b (off + k * 2) (wat l k) Ai ci) := ⟨hb, c0, c1, r⟩
      cases b1 : vWare (wat l k)
      · have hf := Lib.hid (vWares_at hlt (okW_no b1))
        go_wp2_with (first | (go_at_call 40; refine (ret_as (l26One_any _ _ _ _ _ _ (hat.out.below (by repeat (first | exact Below.refl _ _ | refine bl_tr ?_ _ | refine bl_al ?_ _ | refine bl_dr ?_ | refine bl_up ?_ _ | refine Below.drew ?_ | refine bl_alloc ?_ _ | refine Below.setCell ?_ (by first | (simp; done) | (simp; omega)) _))) f2 (by omega)) b1).mono ?_; rintro e w' ⟨rfl, g, rfl⟩) | ((with_reducible refine wp_region_up (by kernel_rfl) (by kernel_rfl) ?_); (repeat (go_big_quiet_step (first | (go_at_call 40; first | exact upq_tr (ret_as (l26One_any _ _ _ _ _ _ (hat.out.below (by repeat (first | exact Below.refl _ _ | refine bl_tr ?_ _ | refine bl_al ?_ _ | refine bl_dr ?_ | refine bl_up ?_ _ | refine Below.drew ?_ | refine bl_alloc ?_ _ | refine Below.setCell ?_ (by first | (simp; done) | (simp; omega)) _))) f2 (by omega)) b1) | exact upq (ret_as (l26One_any _ _ _ _ _ _ (hat.out.below (by repeat (first | exact Below.refl _ _ | refine bl_tr ?_ _ | refine bl_al ?_ _ | refine bl_dr ?_ | refine bl_up ?_ _ | refine Below.drew ?_ | refine bl_alloc ?_ _ | refine Below.setCell ?_ (by first | (simp; done) | (simp; omega)) _))) f2 (by omega)) b1))))); refine wpQuiet_nil ?_; intro _ hw'; obtain ⟨nq, hw''⟩ := hw'; subst hw''))
        go_ret
        exact ⟨ret_bool hf.out.symm, UpOf.of (by repeat (first | exact Below.refl _ _ | refine bl_tr ?_ _ | refine bl_al ?_ _ | refine bl_dr ?_ | refine bl_up ?_ _ | refine Below.drew ?_ | refine bl_alloc ?_ _ | refine Below.setCell ?_ (by first | (simp; done) | (simp; omega)) _))⟩
      · go_wp2_with (first | (go_at_call 40; refine (ret_as (l26One_any _ _ _ _ _ _ (hat.out.below (by repeat (first | exact Below.refl _ _ | refine bl_tr ?_ _ | refine bl_al ?_ _ | refine bl_dr ?_ | refine bl_up ?_ _ | refine Below.drew ?_ | refine bl_alloc ?_ _ | refine Below.setCell ?_ (by first | (simp; done) | (simp; omega)) _))) f2 (by omega)) b1).mono ?_; rintro e w' ⟨rfl, g, rfl⟩) | ((with_reducible refine wp_region_up (by kernel_rfl) (by kernel_rfl) ?_); (repeat (go_big_quiet_step (first | (go_at_call 40; first | exact upq_tr (ret_as (l26One_any _ _ _ _ _ _ (hat.out.below (by repeat (first | exact Below.refl _ _ | refine bl_tr ?_ _ | refine bl_al ?_ _ | refine bl_dr ?_ | refine bl_up ?_ _ | refine Below.drew ?_ | refine bl_alloc ?_ _ | refine Below.setCell ?_ (by first | (simp; done) | (simp; omega)) _))) f2 (by omega)) b1) | exact upq (ret_as (l26One_any _ _ _ _ _ _ (hat.out.below (by repeat (first | exact Below.refl _ _ | refine bl_tr ?_ _ | refine bl_al ?_ _ | refine bl_dr ?_ | refine bl_up ?_ _ | refine Below.drew ?_ | refine bl_alloc ?_ _ | refine Below.setCell ?_ (by first | (simp; done) | (simp; omega)) _))) f2 (by omega)) b1))))); refine wpQuiet_nil ?_; intro _ hw'; obtain ⟨nq, hw''⟩ := hw'; subst hw''))
        have hv := Lib.hid b1
        clear b1
        go_loopw [4] (fun i wr => ∃ j : Nat, j ≤ k ∧ i = i64 j ∧ Hid (∀ i, i < j → (wat l i).name ≠ (wat l k).name) ∧ ∃ g : Up w, wr = up w g) (fun i _ => k - (intOf i).toNat)
        case atStart => exact ⟨0, by omega, rfl, fun i hi => by omega, ex_up (by repeat (first | exact Below.refl _ _ | refine bl_tr ?_ _ | refine bl_al ?_ _ | refine bl_dr ?_ | refine bl_up ?_ _ | refine Below.drew ?_ | refine bl_alloc ?_ _ | refine Below.setCell ?_ (by first | (simp; done) | (simp; omega)) _))⟩
        case round =>
          obtain ⟨j, hj, rfl, hne, g', rfl⟩ := hrel
          by_cases hlt2 : j < k
          · obtain ⟨Aj, cj, d0, d1, _⟩ := HA.out j (by omega)
            cases q : ((wat l j).name.toList == (wat l k).name.toList)
            · have hq := Lib.hid (text_ne q)
              go_wp2_with (first | ((with_reducible refine wp_region_up (by kernel_rfl) (by kernel_rfl) ?_); (repeat (go_big_quiet_step (fail))); refine wpQuiet_nil ?_; intro _ hw'; obtain ⟨nq, hw''⟩ := hw'; subst hw''))
              go_roundw
              case rel => have hx := lt_ext (P := fun i => (wat l i).name ≠ (wat l k).name) hne.out hq.out; exact ⟨j + 1, by omega, by go_num, hx, ex_up (by repeat (first | exact Below.refl _ _ | refine bl_tr ?_ _ | refine bl_al ?_ _ | refine bl_dr ?_ | refine bl_up ?_ _ | refine Below.drew ?_ | refine bl_alloc ?_ _ | refine Below.setCell ?_ (by first | (simp; done) | (simp; omega)) _))⟩
              case measure => (simp [intOf]; try omega)
            · have hf := Lib.hid (vWares_at hlt (okW_name hlt2 (text_eq q)))
              go_wp2_with (first | ((with_reducible refine wp_region_up (by kernel_rfl) (by kernel_rfl) ?_); (repeat (go_big_quiet_step (fail))); refine wpQuiet_nil ?_; intro _ hw'; obtain ⟨nq, hw''⟩ := hw'; subst hw''))
              go_ret
              exact ⟨ret_bool hf.out.symm, UpOf.of (by repeat (first | exact Below.refl _ _ | refine bl_tr ?_ _ | refine bl_al ?_ _ | refine bl_dr ?_ | refine bl_up ?_ _ | refine Below.drew ?_ | refine bl_alloc ?_ _ | refine Below.setCell ?_ (by first | (simp; done) | (simp; omega)) _))⟩
          · obtain rfl : j = k := by omega
            have hq := Lib.hid (okW_true hv.out hne.out)
            go_wp2_with (first | ((with_reducible refine wp_region_up (by kernel_rfl) (by kernel_rfl) ?_); (repeat (go_big_quiet_step (fail))); refine wpQuiet_nil ?_; intro _ hw'; obtain ⟨nq, hw''⟩ := hw'; subst hw''))
            go_roundw
            case rel => have hx := lt_ext (P := fun j => okW l j = true) hok.out hq.out; exact ⟨j + 1, by omega, by go_num, hx, ex_up (by repeat (first | exact Below.refl _ _ | refine bl_tr ?_ _ | refine bl_al ?_ _ | refine bl_dr ?_ | refine bl_up ?_ _ | refine Below.drew ?_ | refine bl_alloc ?_ _ | refine Below.setCell ?_ (by first | (simp; done) | (simp; omega)) _))⟩
            case measure => (simp [intOf]; try omega)
    · obtain rfl : k = l.length := by omega
      by_cases q : l.length ≤ 30
      · have hf := Lib.hid (vWares_true q hok.out)
        go_wp2_with (first | ((with_reducible refine wp_region_up (by kernel_rfl) (by kernel_rfl) ?_); (repeat (go_big_quiet_step (fail))); refine wpQuiet_nil ?_; intro _ hw'; obtain ⟨nq, hw''⟩ := hw'; subst hw''))
        go_ret
        exact ⟨ret_bool (by rw [hf.out]; exact decide_eq_true (by omega)), UpOf.of (by repeat (first | exact Below.refl _ _ | refine bl_tr ?_ _ | refine bl_al ?_ _ | refine bl_dr ?_ | refine bl_up ?_ _ | refine Below.drew ?_ | refine bl_alloc ?_ _ | refine Below.setCell ?_ (by first | (simp; done) | (simp; omega)) _))⟩
      · have hf := Lib.hid (vWares_len (l := l) (by omega))
        have q' : decide (l.length ≤ 30) = false := decide_eq_false q
        go_wp2_with (first | ((with_reducible refine wp_region_up (by kernel_rfl) (by kernel_rfl) ?_); (repeat (go_big_quiet_step (fail))); refine wpQuiet_nil ?_; intro _ hw'; obtain ⟨nq, hw''⟩ := hw'; subst hw''))
        go_ret
        exact ⟨ret_bool (by rw [hf.out]; exact decide_eq_false (by omega)), UpOf.of (by repeat (first | exact Below.refl _ _ | refine bl_tr ?_ _ | refine bl_al ?_ _ | refine bl_dr ?_ | refine bl_up ?_ _ | refine Below.drew ?_ | refine bl_alloc ?_ _ | refine Below.setCell ?_ (by first | (simp; done) | (simp; omega)) _))⟩
end Go.Proofs.YtiibpldfnnhhlaaDoor
namespace Go.Proofs.YtiibpldfnnhhlaaDoor
open Go.RowKit
theorem ret_num {P : Program} {f : FuncId} {args : Array Value} {w : World} {B b : Int} {Q : World → Prop} (h : Calls P f args w fun e w' => e = .returned (i64 B) ∧ Q w') (hB : B = b) :
    Calls P f args w fun e w' => e = .returned (i64 b) ∧ Q w' := by subst hB; exact h
set_option maxRecDepth 10000 in
theorem price_any (x : Ware) (A : Option Addr) (c : Nat) (m : Int) (w : World) (h : Rds w 2 A x.brs.length (bkcs x.brs)) (hv : vWare x = true) (h0 : 0 ≤ m) (h1 : m ≤ 1000) :
    Calls Tryd.prog 56 #[.agg #[.string x.name, .slice A x.brs.length c], i64 m] w fun e w' => e = .returned (i64 (prc x m)) ∧ UpOf w w' := by
  obtain ⟨_, _, hl6, _⟩ := vWare_inv hv
  have HV := Lib.hid hv
  clear hv
  go_enter Tryd.func56, Tryd.ntmps56
  go_wp2_with fail
  have hB : Below w.heap.size w (w.alloc (.cells #[.string x.name, .slice A x.brs.length c] 29)) := (Below.refl _ _).alloc (Nat.le_refl _) _
  have hA := h.below hB
  clear h
  revert hA hB
  generalize w.alloc (.cells #[.string x.name, .slice A x.brs.length c] 29) = W
  intro hB hA
  have HB := Lib.hid hB
  clear hB
  go_loopw [5, 11] (fun s i wr => ∃ k : Nat, k ≤ x.brs.length ∧ i = i64 k ∧ s = i64 (eachN x m k) ∧ ∃ g : Up W, wr = up W g) (fun _ i _ => x.brs.length - (intOf i).toNat)
  case atStart => exact ⟨0, by omega, rfl, rfl, ex_up (by repeat (first | exact Below.refl _ _ | refine bl_tr ?_ _ | refine bl_al ?_ _ | refine bl_dr ?_ | refine bl_up ?_ _ | refine Below.drew ?_ | refine bl_alloc ?_ _ | refine Below.setCell ?_ (by first | (simp; done) | (simp; omega)) _))⟩
  case round =>
    obtain ⟨k, hk, rfl, rfl, g, rfl⟩ := hrel
    by_cases hlt : k < x.brs.length
    · obtain ⟨b, off, rfl, hb, ha⟩ := brk_all hA (by omega)
      obtain ⟨c0, c1⟩ := ha k hlt
      clear ha
      by_cases q : (brk x k).fr ≤ m
      · have hN := Lib.hid (eachN_yes q)
        go_wp2_with (first | ((with_reducible refine wp_region_up (by kernel_rfl) (by kernel_rfl) ?_); (repeat (go_big_quiet_step (fail))); refine wpQuiet_nil ?_; intro _ hw'; obtain ⟨nq, hw''⟩ := hw'; subst hw''))
        go_roundw
        case rel => exact ⟨k + 1, by omega, by go_num, by rw [hN.out], ex_up (by repeat (first | exact Below.refl _ _ | refine bl_tr ?_ _ | refine bl_al ?_ _ | refine bl_dr ?_ | refine bl_up ?_ _ | refine Below.drew ?_ | refine bl_alloc ?_ _ | refine Below.setCell ?_ (by first | (simp; done) | (simp; omega)) _))⟩
        case measure => (simp [intOf]; try omega)
      · have hN := Lib.hid (eachN_no q)
        go_wp2_with (first | ((with_reducible refine wp_region_up (by kernel_rfl) (by kernel_rfl) ?_); (repeat (go_big_quiet_step (fail))); refine wpQuiet_nil ?_; intro _ hw'; obtain ⟨nq, hw''⟩ := hw'; subst hw''))
        go_roundw
        case rel => exact ⟨k + 1, by omega, by go_num, by rw [hN.out], ex_up (by repeat (first | exact Below.refl _ _ | refine bl_tr ?_ _ | refine bl_al ?_ _ | refine bl_dr ?_ | refine bl_up ?_ _ | refine Below.drew ?_ | refine bl_alloc ?_ _ | refine Below.setCell ?_ (by first | (simp; done) | (simp; omega)) _))⟩
        case measure => (simp [intOf]; try omega)
    · obtain rfl : k = x.brs.length := by omega
      obtain ⟨e1, e2⟩ := eachN_bd HV.out m x.brs.length (Nat.le_refl _)
      obtain ⟨e3, e4⟩ := mul_bd h0 h1 e1 e2
      go_wp2_with (first | ((with_reducible refine wp_region_up (by kernel_rfl) (by kernel_rfl) ?_); (repeat (go_big_quiet_step (fail))); refine wpQuiet_nil ?_; intro _ hw'; obtain ⟨nq, hw''⟩ := hw'; subst hw''))
      go_ret
      exact ⟨rfl, UpOf.of (HB.out.trans (Below.mono (by repeat (first | exact Below.refl _ _ | refine bl_tr ?_ _ | refine bl_al ?_ _ | refine bl_dr ?_ | refine bl_up ?_ _ | refine Below.drew ?_ | refine bl_alloc ?_ _ | refine Below.setCell ?_ (by first | (simp; done) | (simp; omega)) _)) HB.out.size))⟩
set_option maxRecDepth 10000 in
theorem l26Price_any (x : Ware) (b0 o0 : Nat) (A : Option Addr) (c : Nat) (m : Int) (w : World) (h : WAt w b0 o0 x A c) (hv : vWare x = true) (h0 : 0 ≤ m) (h1 : m ≤ 1000) :
    Calls Tryd.prog 65 #[.pointer (some ⟨b0, o0, none⟩), i64 m] w fun e w' => e = .returned (i64 (prc x m)) ∧ UpOf w w' := by
  obtain ⟨_, _, hl6, _⟩ := vWare_inv hv
  obtain ⟨hb0, x0, x1, hr⟩ := h
  have HV := Lib.hid hv
  clear hv
  go_enter Tryd.func65, Tryd.ntmps65
  go_wp2_with (first | ((with_reducible refine wp_region_up (by kernel_rfl) (by kernel_rfl) ?_); (repeat (go_big_quiet_step (fail))); refine wpQuiet_nil ?_; intro _ hw'; obtain ⟨nq, hw''⟩ := hw'; subst hw''))
  go_loopw [5, 6] (fun s i wr => ∃ k : Nat, k ≤ x.brs.length ∧ i = i64 k ∧ s = i64 (eachN x m k) ∧ ∃ g : Up w, wr = up w g) (fun _ i _ => x.brs.length - (intOf i).toNat)
  case atStart => exact ⟨0, by omega, rfl, rfl, ex_up (by repeat (first | exact Below.refl _ _ | refine bl_tr ?_ _ | refine bl_al ?_ _ | refine bl_dr ?_ | refine bl_up ?_ _ | refine Below.drew ?_ | refine bl_alloc ?_ _ | refine Below.setCell ?_ (by first | (simp; done) | (simp; omega)) _))⟩
  case round =>
    obtain ⟨k, hk, rfl, rfl, g, rfl⟩ := hrel
    by_cases hlt : k < x.brs.length
    · obtain ⟨b, off, rfl, hb, ha⟩ := brk_all hr (by omega)
      obtain ⟨c0, c1⟩ := ha k hlt
      clear ha
      by_cases q : (brk x k).fr ≤ m
      · have hN := Lib.hid (eachN_yes q)
        go_wp2_with (first | ((with_reducible refine wp_region_up (by kernel_rfl) (by kernel_rfl) ?_); (repeat (go_big_quiet_step (fail))); refine wpQuiet_nil ?_; intro _ hw'; obtain ⟨nq, hw''⟩ := hw'; subst hw''))
        go_roundw
        case rel => exact ⟨k + 1, by omega, by go_num, by rw [hN.out], ex_up (by repeat (first | exact Below.refl _ _ | refine bl_tr ?_ _ | refine bl_al ?_ _ | refine bl_dr ?_ | refine bl_up ?_ _ | refine Below.drew ?_ | refine bl_alloc ?_ _ | refine Below.setCell ?_ (by first | (simp; done) | (simp; omega)) _))⟩
        case measure => (simp [intOf]; try omega)
      · obtain ⟨e1, e2⟩ := eachN_bd HV.out m k hk
        have hS := Lib.hid (eachN_stop HV.out hk (fun _ => (by omega : m < (brk x k).fr)))
        obtain ⟨e3, e4⟩ := mul_bd e1 e2 h0 h1
        go_wp2_with (first | ((with_reducible refine wp_region_up (by kernel_rfl) (by kernel_rfl) ?_); (repeat (go_big_quiet_step (fail))); refine wpQuiet_nil ?_; intro _ hw'; obtain ⟨nq, hw''⟩ := hw'; subst hw''))
        go_ret
        exact ⟨ret_int (by rw [prc, hS.out, Int.mul_comm]), UpOf.of (by repeat (first | exact Below.refl _ _ | refine bl_tr ?_ _ | refine bl_al ?_ _ | refine bl_dr ?_ | refine bl_up ?_ _ | refine Below.drew ?_ | refine bl_alloc ?_ _ | refine Below.setCell ?_ (by first | (simp; done) | (simp; omega)) _))⟩
    · obtain rfl : k = x.brs.length := by omega
      obtain ⟨e1, e2⟩ := eachN_bd HV.out m x.brs.length (Nat.le_refl _)
      obtain ⟨e3, e4⟩ := mul_bd e1 e2 h0 h1
      go_wp2_with (first | ((with_reducible refine wp_region_up (by kernel_rfl) (by kernel_rfl) ?_); (repeat (go_big_quiet_step (fail))); refine wpQuiet_nil ?_; intro _ hw'; obtain ⟨nq, hw''⟩ := hw'; subst hw''))
      go_ret
      exact ⟨ret_int (by rw [prc, Int.mul_comm]), UpOf.of (by repeat (first | exact Below.refl _ _ | refine bl_tr ?_ _ | refine bl_al ?_ _ | refine bl_dr ?_ | refine bl_up ?_ _ | refine Below.drew ?_ | refine bl_alloc ?_ _ | refine Below.setCell ?_ (by first | (simp; done) | (simp; omega)) _))⟩
/-- the code of a price list and a ware's number -/
def codeW (l : List Ware) (k : Int) : Int := if vWares l = true then if btw k 0 ((l.length : Int) - 1) = true then 0 else 2 else 1
set_option maxRecDepth 10000 in
theorem wareCode_any (A : Option Addr) (c : Nat) (l : List Ware) (k : Int) (w : World) (h : WSee w A l) (hn : l.length ≤ 100000000) (hf : WBd l) :
    Calls Tryd.prog 54 #[.slice A l.length c, i64 k] w fun e w' => e = .returned (i64 (codeW l k)) ∧ UpOf w w' := by
  cases h1 : vWares l
  · have hC := Lib.hid (show codeW l k = 1 by rw [codeW, if_neg (by simp [h1])])
    go_enter Tryd.func54, Tryd.ntmps54
    go_wp2_with (first | (go_at_call 36; refine (ret_as (validWares_any _ _ _ _ h hn hf) h1).mono ?_; rintro e w' ⟨rfl, g, rfl⟩) | ((with_reducible refine wp_region_up (by kernel_rfl) (by kernel_rfl) ?_); (repeat (go_big_quiet_step (first | (go_at_call 36; first | exact upq_tr (ret_as (validWares_any _ _ _ _ h hn hf) h1) | exact upq (ret_as (validWares_any _ _ _ _ h hn hf) h1))))); refine wpQuiet_nil ?_; intro _ hw'; obtain ⟨nq, hw''⟩ := hw'; subst hw''))
    go_ret
    exact ⟨ret_int hC.out.symm, UpOf.of (by repeat (first | exact Below.refl _ _ | refine bl_tr ?_ _ | refine bl_al ?_ _ | refine bl_dr ?_ | refine bl_up ?_ _ | refine Below.drew ?_ | refine bl_alloc ?_ _ | refine Below.setCell ?_ (by first | (simp; done) | (simp; omega)) _))⟩
  cases h2 : btw k 0 ((l.length : Int) - 1)
  · have hC := Lib.hid (show codeW l k = 2 by rw [codeW, if_pos h1, if_neg (by simp [h2])])
    go_enter Tryd.func54, Tryd.ntmps54
    go_wp2_with (first | (go_at_call 36; refine (ret_as (validWares_any _ _ _ _ h hn hf) h1).mono ?_; rintro e w' ⟨rfl, g, rfl⟩) | (go_at_call 55; refine (ret_as (between_any _ _ _ _) h2).mono ?_; rintro e w' ⟨rfl, rfl⟩) | ((with_reducible refine wp_region_up (by kernel_rfl) (by kernel_rfl) ?_); (repeat (go_big_quiet_step (first | (go_at_call 36; first | exact upq_tr (ret_as (validWares_any _ _ _ _ h hn hf) h1) | exact upq (ret_as (validWares_any _ _ _ _ h hn hf) h1)) | (go_at_call 55; first | exact upq_tr_same (ret_as (between_any _ _ _ _) h2) | exact upq_same (ret_as (between_any _ _ _ _) h2))))); refine wpQuiet_nil ?_; intro _ hw'; obtain ⟨nq, hw''⟩ := hw'; subst hw''))
    go_ret
    exact ⟨ret_int hC.out.symm, UpOf.of (by repeat (first | exact Below.refl _ _ | refine bl_tr ?_ _ | refine bl_al ?_ _ | refine bl_dr ?_ | refine bl_up ?_ _ | refine Below.drew ?_ | refine bl_alloc ?_ _ | refine Below.setCell ?_ (by first | (simp; done) | (simp; omega)) _))⟩
  · have hC := Lib.hid (show codeW l k = 0 by rw [codeW, if_pos h1, if_pos h2])
    go_enter Tryd.func54, Tryd.ntmps54
    go_wp2_with (first | (go_at_call 36; refine (ret_as (validWares_any _ _ _ _ h hn hf) h1).mono ?_; rintro e w' ⟨rfl, g, rfl⟩) | (go_at_call 55; refine (ret_as (between_any _ _ _ _) h2).mono ?_; rintro e w' ⟨rfl, rfl⟩) | ((with_reducible refine wp_region_up (by kernel_rfl) (by kernel_rfl) ?_); (repeat (go_big_quiet_step (first | (go_at_call 36; first | exact upq_tr (ret_as (validWares_any _ _ _ _ h hn hf) h1) | exact upq (ret_as (validWares_any _ _ _ _ h hn hf) h1)) | (go_at_call 55; first | exact upq_tr_same (ret_as (between_any _ _ _ _) h2) | exact upq_same (ret_as (between_any _ _ _ _) h2))))); refine wpQuiet_nil ?_; intro _ hw'; obtain ⟨nq, hw''⟩ := hw'; subst hw''))
    go_ret
    exact ⟨ret_int hC.out.symm, UpOf.of (by repeat (first | exact Below.refl _ _ | refine bl_tr ?_ _ | refine bl_al ?_ _ | refine bl_dr ?_ | refine bl_up ?_ _ | refine Below.drew ?_ | refine bl_alloc ?_ _ | refine Below.setCell ?_ (by first | (simp; done) | (simp; omega)) _))⟩
set_option maxRecDepth 10000 in
theorem l26Code_any (A : Option Addr) (c : Nat) (l : List Ware) (k : Int) (w : World) (h : WSee w A l) (hn : l.length ≤ 100000000) (hf : WBd l) :
    Calls Tryd.prog 57 #[.slice A l.length c, i64 k] w fun e w' => e = .returned (i64 (codeW l k)) ∧ UpOf w w' := by
  cases h1 : vWares l
  · have hC := Lib.hid (show codeW l k = 1 by rw [codeW, if_neg (by simp [h1])])
    go_enter Tryd.func57, Tryd.ntmps57
    go_wp2_with (first | (go_at_call 73; refine (ret_as (l26Ok_any _ _ _ _ h hn hf) h1).mono ?_; rintro e w' ⟨rfl, g, rfl⟩) | ((with_reducible refine wp_region_up (by kernel_rfl) (by kernel_rfl) ?_); (repeat (go_big_quiet_step (first | (go_at_call 73; first | exact upq_tr (ret_as (l26Ok_any _ _ _ _ h hn hf) h1) | exact upq (ret_as (l26Ok_any _ _ _ _ h hn hf) h1))))); refine wpQuiet_nil ?_; intro _ hw'; obtain ⟨nq, hw''⟩ := hw'; subst hw''))
    go_ret
    exact ⟨ret_int hC.out.symm, UpOf.of (by repeat (first | exact Below.refl _ _ | refine bl_tr ?_ _ | refine bl_al ?_ _ | refine bl_dr ?_ | refine bl_up ?_ _ | refine Below.drew ?_ | refine bl_alloc ?_ _ | refine Below.setCell ?_ (by first | (simp; done) | (simp; omega)) _))⟩
  cases h2 : btw k 0 ((l.length : Int) - 1)
  · have hC := Lib.hid (show codeW l k = 2 by rw [codeW, if_pos h1, if_neg (by simp [h2])])
    go_enter Tryd.func57, Tryd.ntmps57
    go_wp2_with (first | (go_at_call 73; refine (ret_as (l26Ok_any _ _ _ _ h hn hf) h1).mono ?_; rintro e w' ⟨rfl, g, rfl⟩) | (go_at_call 64; refine (ret_as (in_any _ _ _ _) h2).mono ?_; rintro e w' ⟨rfl, rfl⟩) | ((with_reducible refine wp_region_up (by kernel_rfl) (by kernel_rfl) ?_); (repeat (go_big_quiet_step (first | (go_at_call 73; first | exact upq_tr (ret_as (l26Ok_any _ _ _ _ h hn hf) h1) | exact upq (ret_as (l26Ok_any _ _ _ _ h hn hf) h1)) | (go_at_call 64; first | exact upq_tr_same (ret_as (in_any _ _ _ _) h2) | exact upq_same (ret_as (in_any _ _ _ _) h2))))); refine wpQuiet_nil ?_; intro _ hw'; obtain ⟨nq, hw''⟩ := hw'; subst hw''))
    go_ret
    exact ⟨ret_int hC.out.symm, UpOf.of (by repeat (first | exact Below.refl _ _ | refine bl_tr ?_ _ | refine bl_al ?_ _ | refine bl_dr ?_ | refine bl_up ?_ _ | refine Below.drew ?_ | refine bl_alloc ?_ _ | refine Below.setCell ?_ (by first | (simp; done) | (simp; omega)) _))⟩
  · have hC := Lib.hid (show codeW l k = 0 by rw [codeW, if_pos h1, if_pos h2])
    go_enter Tryd.func57, Tryd.ntmps57
    go_wp2_with (first | (go_at_call 73; refine (ret_as (l26Ok_any _ _ _ _ h hn hf) h1).mono ?_; rintro e w' ⟨rfl, g, rfl⟩) | (go_at_call 64; refine (ret_as (in_any _ _ _ _) h2).mono ?_; rintro e w' ⟨rfl, rfl⟩) | ((with_reducible refine wp_region_up (by kernel_rfl) (by kernel_rfl) ?_); (repeat (go_big_quiet_step (first | (go_at_call 73; first | exact upq_tr (ret_as (l26Ok_any _ _ _ _ h hn hf) h1) | exact upq (ret_as (l26Ok_any _ _ _ _ h hn hf) h1)) | (go_at_call 64; first | exact upq_tr_same (ret_as (in_any _ _ _ _) h2) | exact upq_same (ret_as (in_any _ _ _ _) h2))))); refine wpQuiet_nil ?_; intro _ hw'; obtain ⟨nq, hw''⟩ := hw'; subst hw''))
    go_ret
    exact ⟨ret_int hC.out.symm, UpOf.of (by repeat (first | exact Below.refl _ _ | refine bl_tr ?_ _ | refine bl_al ?_ _ | refine bl_dr ?_ | refine bl_up ?_ _ | refine Below.drew ?_ | refine bl_alloc ?_ _ | refine Below.setCell ?_ (by first | (simp; done) | (simp; omega)) _))⟩
theorem l26Many_any (m : Int) (w : World) : Calls Tryd.prog 58 #[i64 m] w fun e w' => e = .returned (.bool (btw m 0 1000)) ∧ w = w' := by
  go_enter Tryd.func58, Tryd.ntmps58
  go_wp2_with (first | (go_at_call 64; refine (in_any _ _ _ _).mono ?_; rintro e w' ⟨rfl, rfl⟩) | ((with_reducible refine wp_region_up (by kernel_rfl) (by kernel_rfl) ?_); (repeat (go_big_quiet_step (first | (go_at_call 64; first | exact upq_tr_same (in_any _ _ _ _) | exact upq_same (in_any _ _ _ _))))); refine wpQuiet_nil ?_; intro _ hw'; obtain ⟨nq, hw''⟩ := hw'; subst hw''))
  go_ret
  exact ⟨rfl, rfl⟩
/-- an answer that is there where the list, the ware's number and the other number fit -/
def askR {α : Type} (l : List Ware) (k m hi : Int) (no : Int → α) (r : α) : α :=
  if vWares l = true then if btw k 0 ((l.length : Int) - 1) = true then if btw m 0 hi = true then r else no 2 else no 2 else no 1
theorem codeW_1 {l : List Ware} {k : Int} (h : vWares l = false) : codeW l k = 1 := by rw [codeW, if_neg (by simp [h])]
theorem codeW_2 {l : List Ware} {k : Int} (h : vWares l = true) (h2 : btw k 0 ((l.length : Int) - 1) = false) : codeW l k = 2 := by rw [codeW, if_pos h, if_neg (by simp [h2])]
theorem codeW_0 {l : List Ware} {k : Int} (h : vWares l = true) (h2 : btw k 0 ((l.length : Int) - 1) = true) : codeW l k = 0 := by rw [codeW, if_pos h, if_pos h2]
section
variable {α : Type} {l : List Ware} {k m hi : Int} {no : Int → α} {r : α}
theorem askR_1 (h : vWares l = false) : askR l k m hi no r = no 1 := by rw [askR, if_neg (by simp [h])]
theorem askR_2 (h : vWares l = true) (h2 : btw k 0 ((l.length : Int) - 1) = false) : askR l k m hi no r = no 2 := by rw [askR, if_pos h, if_neg (by simp [h2])]
theorem askR_3 (h : vWares l = true) (h2 : btw k 0 ((l.length : Int) - 1) = true) (h3 : btw m 0 hi = false) : askR l k m hi no r = no 2 := by rw [askR, if_pos h, if_pos h2, if_neg (by simp [h3])]
theorem askR_0 (h : vWares l = true) (h2 : btw k 0 ((l.length : Int) - 1) = true) (h3 : btw m 0 hi = true) : askR l k m hi no r = r := by rw [askR, if_pos h, if_pos h2, if_pos h3]
end
end Go.Proofs.YtiibpldfnnhhlaaDoor
namespace Go.Proofs.YtiibpldfnnhhlaaDoor
open Go.RowKit
def priceR (l : List Ware) (k m : Int) : Int × Int := askR l k m 1000 (fun c => (0, c)) (prc (wat l k.toNat) m, 0)
def cheapR (l : List Ware) (k m : Int) : Int × Int × Int := askR l k m 1000 (fun c => (0, 0, c)) ((chp (wat l k.toNat) m (wat l k.toNat).brs.length).1, (chp (wat l k.toNat) m (wat l k.toNat).brs.length).2, 0)
set_option maxRecDepth 10000 in
theorem priceI_any (A : Option Addr) (c : Nat) (l : List Ware) (k m : Int) (w : World) (h : WSee w A l) (hn : l.length ≤ 100000000) (hf : WBd l) :
    Calls Tryd.prog 38 #[.slice A l.length c, i64 k, i64 m] w fun e w' => e = .returned (.tuple #[i64 (priceR l k m).1, i64 (priceR l k m).2]) ∧ UpOf w w' := by
  cases h1 : vWares l
  · have hR := Lib.hid (show priceR l k m = _ from askR_1 h1)
    have hC := Lib.hid (codeW_1 (k := k) h1)
    go_enter Tryd.func38, Tryd.ntmps38
    go_wp2_with (first | (go_at_call 54; refine (ret_num (wareCode_any _ _ _ _ _ h hn hf) hC.out).mono ?_; rintro e w' ⟨rfl, g, rfl⟩) | (go_at_call 55; refine (between_any _ _ _ _).mono ?_; rintro e w' ⟨rfl, rfl⟩) | ((with_reducible refine wp_region_up (by kernel_rfl) (by kernel_rfl) ?_); (repeat (go_big_quiet_step (first | (go_at_call 54; first | exact upq_tr (ret_num (wareCode_any _ _ _ _ _ h hn hf) hC.out) | exact upq (ret_num (wareCode_any _ _ _ _ _ h hn hf) hC.out)) | (go_at_call 55; first | exact upq_tr_same (between_any _ _ _ _) | exact upq_same (between_any _ _ _ _))))); refine wpQuiet_nil ?_; intro _ hw'; obtain ⟨nq, hw''⟩ := hw'; subst hw''))
    go_ret2
    exact ⟨by rw [hR.out]; rfl, UpOf.of (by repeat (first | exact Below.refl _ _ | refine bl_tr ?_ _ | refine bl_al ?_ _ | refine bl_dr ?_ | refine bl_up ?_ _ | refine Below.drew ?_ | refine bl_alloc ?_ _ | refine Below.setCell ?_ (by first | (simp; done) | (simp; omega)) _))⟩
  cases h2 : btw k 0 ((l.length : Int) - 1)
  · have hR := Lib.hid (show priceR l k m = _ from askR_2 h1 h2)
    have hC := Lib.hid (codeW_2 h1 h2)
    go_enter Tryd.func38, Tryd.ntmps38
    go_wp2_with (first | (go_at_call 54; refine (ret_num (wareCode_any _ _ _ _ _ h hn hf) hC.out).mono ?_; rintro e w' ⟨rfl, g, rfl⟩) | (go_at_call 55; refine (between_any _ _ _ _).mono ?_; rintro e w' ⟨rfl, rfl⟩) | ((with_reducible refine wp_region_up (by kernel_rfl) (by kernel_rfl) ?_); (repeat (go_big_quiet_step (first | (go_at_call 54; first | exact upq_tr (ret_num (wareCode_any _ _ _ _ _ h hn hf) hC.out) | exact upq (ret_num (wareCode_any _ _ _ _ _ h hn hf) hC.out)) | (go_at_call 55; first | exact upq_tr_same (between_any _ _ _ _) | exact upq_same (between_any _ _ _ _))))); refine wpQuiet_nil ?_; intro _ hw'; obtain ⟨nq, hw''⟩ := hw'; subst hw''))
    go_ret2
    exact ⟨by rw [hR.out]; rfl, UpOf.of (by repeat (first | exact Below.refl _ _ | refine bl_tr ?_ _ | refine bl_al ?_ _ | refine bl_dr ?_ | refine bl_up ?_ _ | refine Below.drew ?_ | refine bl_alloc ?_ _ | refine Below.setCell ?_ (by first | (simp; done) | (simp; omega)) _))⟩
  cases h3 : btw m 0 1000
  · have hR := Lib.hid (show priceR l k m = _ from askR_3 h1 h2 h3)
    have hC := Lib.hid (codeW_0 h1 h2)
    go_enter Tryd.func38, Tryd.ntmps38
    go_wp2_with (first | (go_at_call 54; refine (ret_num (wareCode_any _ _ _ _ _ h hn hf) hC.out).mono ?_; rintro e w' ⟨rfl, g, rfl⟩) | (go_at_call 55; refine (between_any _ _ _ _).mono ?_; rintro e w' ⟨rfl, rfl⟩) | ((with_reducible refine wp_region_up (by kernel_rfl) (by kernel_rfl) ?_); (repeat (go_big_quiet_step (first | (go_at_call 54; first | exact upq_tr (ret_num (wareCode_any _ _ _ _ _ h hn hf) hC.out) | exact upq (ret_num (wareCode_any _ _ _ _ _ h hn hf) hC.out)) | (go_at_call 55; first | exact upq_tr_same (between_any _ _ _ _) | exact upq_same (between_any _ _ _ _))))); refine wpQuiet_nil ?_; intro _ hw'; obtain ⟨nq, hw''⟩ := hw'; subst hw''))
    go_ret2
    exact ⟨by rw [hR.out]; rfl, UpOf.of (by repeat (first | exact Below.refl _ _ | refine bl_tr ?_ _ | refine bl_al ?_ _ | refine bl_dr ?_ | refine bl_up ?_ _ | refine Below.drew ?_ | refine bl_alloc ?_ _ | refine Below.setCell ?_ (by first | (simp; done) | (simp; omega)) _))⟩
  have hR := Lib.hid (show priceR l k m = _ from askR_0 h1 h2 h3)
  have hC := Lib.hid (codeW_0 h1 h2)
  obtain ⟨k1, k2⟩ := btw_true h2
  obtain ⟨m1, m2⟩ := btw_true h3
  obtain ⟨hl30, hvs⟩ := vWares_inv h1
  have HVS := Lib.hid hvs
  obtain ⟨K, rfl⟩ : ∃ K : Nat, k = K := ⟨k.toNat, by omega⟩
  have hK : K < l.length := by omega
  have hv := hvs K hK
  clear h1 h2 hvs
  have HH := Lib.hid h
  obtain ⟨b, off, Ai, ci, rfl, hb, c0, c1, r⟩ := ware_at h hK
  go_enter Tryd.func38, Tryd.ntmps38
  go_wp2_with (first | (go_at_call 54; refine (ret_num (wareCode_any _ _ _ _ _ HH.out hn hf) hC.out).mono ?_; rintro e w' ⟨rfl, g, rfl⟩) | (go_at_call 55; refine (ret_as (between_any _ _ _ _) h3).mono ?_; rintro e w' ⟨rfl, rfl⟩) | (go_at_call 56; refine (price_any _ _ _ _ _ (r.below (by repeat (first | exact Below.refl _ _ | refine bl_tr ?_ _ | refine bl_al ?_ _ | refine bl_dr ?_ | refine bl_up ?_ _ | refine Below.drew ?_ | refine bl_alloc ?_ _ | refine Below.setCell ?_ (by first | (simp; done) | (simp; omega)) _))) hv m1 m2).mono ?_; rintro e w' ⟨rfl, g, rfl⟩) | ((with_reducible refine wp_region_up (by kernel_rfl) (by kernel_rfl) ?_); (repeat (go_big_quiet_step (first | (go_at_call 54; first | exact upq_tr (ret_num (wareCode_any _ _ _ _ _ HH.out hn hf) hC.out) | exact upq (ret_num (wareCode_any _ _ _ _ _ HH.out hn hf) hC.out)) | (go_at_call 55; first | exact upq_tr_same (ret_as (between_any _ _ _ _) h3) | exact upq_same (ret_as (between_any _ _ _ _) h3)) | (go_at_call 56; first | exact upq_tr (price_any _ _ _ _ _ (r.below (by repeat (first | exact Below.refl _ _ | refine bl_tr ?_ _ | refine bl_al ?_ _ | refine bl_dr ?_ | refine bl_up ?_ _ | refine Below.drew ?_ | refine bl_alloc ?_ _ | refine Below.setCell ?_ (by first | (simp; done) | (simp; omega)) _))) hv m1 m2) | exact upq (price_any _ _ _ _ _ (r.below (by repeat (first | exact Below.refl _ _ | refine bl_tr ?_ _ | refine bl_al ?_ _ | refine bl_dr ?_ | refine bl_up ?_ _ | refine Below.drew ?_ | refine bl_alloc ?_ _ | refine Below.setCell ?_ (by first | (simp; done) | (simp; omega)) _))) hv m1 m2))))); refine wpQuiet_nil ?_; intro _ hw'; obtain ⟨nq, hw''⟩ := hw'; subst hw''))
  go_ret2
  exact ⟨by rw [hR.out]; rfl, UpOf.of (by repeat (first | exact Below.refl _ _ | refine bl_tr ?_ _ | refine bl_al ?_ _ | refine bl_dr ?_ | refine bl_up ?_ _ | refine Below.drew ?_ | refine bl_alloc ?_ _ | refine Below.setCell ?_ (by first | (simp; done) | (simp; omega)) _))⟩
theorem chp_bd {x : Ware} (h : vWare x = true) {m : Int} (h0 : 0 ≤ m) (h1 : m ≤ 1000) (k : Nat) (hk : k ≤ x.brs.length) : 0 ≤ (chp x m k).1 ∧ (chp x m k).1 ≤ 1000 ∧ 0 ≤ (chp x m k).2 ∧ (chp x m k).2 ≤ 1000000000 := by
  obtain ⟨_, _, _, hb⟩ := vWare_inv h
  induction k with
  | zero => have := prc_bd h h0 h1; exact ⟨h0, h1, this.1, this.2⟩
  | succ k ih =>
    have h2 := brkAt_bd (hb k (by omega))
    have h3 := prc_bd h (m := (brk x k).fr) (by omega) (by omega)
    rw [chp]
    split
    · exact ⟨by show 0 ≤ (brk x k).fr; omega, by show (brk x k).fr ≤ 1000; omega, h3.1, h3.2⟩
    · exact ih (by omega)
set_option maxRecDepth 10000 in
set_option maxHeartbeats 2000000 in
theorem cheapI_any (A : Option Addr) (c : Nat) (l : List Ware) (k m : Int) (w : World) (h : WSee w A l) (hn : l.length ≤ 100000000) (hf : WBd l) :
    Calls Tryd.prog 17 #[.slice A l.length c, i64 k, i64 m] w fun e w' => e = .returned (.tuple #[i64 (cheapR l k m).1, i64 (cheapR l k m).2.1, i64 (cheapR l k m).2.2]) ∧ UpOf w w' := by
  cases h1 : vWares l
  · have hR := Lib.hid (show cheapR l k m = _ from askR_1 h1)
    have hC := Lib.hid (codeW_1 (k := k) h1)
    go_enter Tryd.func17, Tryd.ntmps17
    go_wp2_with (first | (go_at_call 54; refine (ret_num (wareCode_any _ _ _ _ _ h hn hf) hC.out).mono ?_; rintro e w' ⟨rfl, g, rfl⟩) | (go_at_call 55; refine (between_any _ _ _ _).mono ?_; rintro e w' ⟨rfl, rfl⟩) | ((with_reducible refine wp_region_up (by kernel_rfl) (by kernel_rfl) ?_); (repeat (go_big_quiet_step (first | (go_at_call 54; first | exact upq_tr (ret_num (wareCode_any _ _ _ _ _ h hn hf) hC.out) | exact upq (ret_num (wareCode_any _ _ _ _ _ h hn hf) hC.out)) | (go_at_call 55; first | exact upq_tr_same (between_any _ _ _ _) | exact upq_same (between_any _ _ _ _))))); refine wpQuiet_nil ?_; intro _ hw'; obtain ⟨nq, hw''⟩ := hw'; subst hw''))
    go_ret3
    exact ⟨by rw [hR.out]; rfl, UpOf.of (by repeat (first | exact Below.refl _ _ | refine bl_tr ?_ _ | refine bl_al ?_ _ | refine bl_dr ?_ | refine bl_up ?_ _ | refine Below.drew ?_ | refine bl_alloc ?_ _ | refine Below.setCell ?_ (by first | (simp; done) | (simp; omega)) _))⟩
  cases h2 : btw k 0 ((l.length : Int) - 1)
  · have hR := Lib.hid (show cheapR l k m = _ from askR_2 h1 h2)
    have hC := Lib.hid (codeW_2 h1 h2)
    go_enter Tryd.func17, Tryd.ntmps17
    go_wp2_with (first | (go_at_call 54; refine (ret_num (wareCode_any _ _ _ _ _ h hn hf) hC.out).mono ?_; rintro e w' ⟨rfl, g, rfl⟩) | (go_at_call 55; refine (between_any _ _ _ _).mono ?_; rintro e w' ⟨rfl, rfl⟩) | ((with_reducible refine wp_region_up (by kernel_rfl) (by kernel_rfl) ?_); (repeat (go_big_quiet_step (first | (go_at_call 54; first | exact upq_tr (ret_num (wareCode_any _ _ _ _ _ h hn hf) hC.out) | exact upq (ret_num (wareCode_any _ _ _ _ _ h hn hf) hC.out)) | (go_at_call 55; first | exact upq_tr_same (between_any _ _ _ _) | exact upq_same (between_any _ _ _ _))))); refine wpQuiet_nil ?_; intro _ hw'; obtain ⟨nq, hw''⟩ := hw'; subst hw''))
    go_ret3
    exact ⟨by rw [hR.out]; rfl, UpOf.of (by repeat (first | exact Below.refl _ _ | refine bl_tr ?_ _ | refine bl_al ?_ _ | refine bl_dr ?_ | refine bl_up ?_ _ | refine Below.drew ?_ | refine bl_alloc ?_ _ | refine Below.setCell ?_ (by first | (simp; done) | (simp; omega)) _))⟩
  cases h3 : btw m 0 1000
  · have hR := Lib.hid (show cheapR l k m = _ from askR_3 h1 h2 h3)
    have hC := Lib.hid (codeW_0 h1 h2)
    go_enter Tryd.func17, Tryd.ntmps17
    go_wp2_with (first | (go_at_call 54; refine (ret_num (wareCode_any _ _ _ _ _ h hn hf) hC.out).mono ?_; rintro e w' ⟨rfl, g, rfl⟩) | (go_at_call 55; refine (between_any _ _ _ _).mono ?_; rintro e w' ⟨rfl, rfl⟩) | ((with_reducible refine wp_region_up (by kernel_rfl) (by kernel_rfl) ?_); (repeat (go_big_quiet_step (first | (go_at_call 54; first | exact upq_tr (ret_num (wareCode_any _ _ _ _ _ h hn hf) hC.out) | exact upq (ret_num (wareCode_any _ _ _ _ _ h hn hf) hC.out)) | (go_at_call 55; first | exact upq_tr_same (between_any _ _ _ _) | exact upq_same (between_any _ _ _ _))))); refine wpQuiet_nil ?_; intro _ hw'; obtain ⟨nq, hw''⟩ := hw'; subst hw''))
    go_ret3
    exact ⟨by rw [hR.out]; rfl, UpOf.of (by repeat (first | exact Below.refl _ _ | refine bl_tr ?_ _ | refine bl_al ?_ _ | refine bl_dr ?_ | refine bl_up ?_ _ | refine Below.drew ?_ | refine bl_alloc ?_ _ | refine Below.setCell ?_ (by first | (simp; done) | (simp; omega)) _))⟩
  have hR := Lib.hid (show cheapR l k m = _ from askR_0 h1 h2 h3)
  have hC := Lib.hid (codeW_0 h1 h2)
  obtain ⟨k1, k2⟩ := btw_true h2
  obtain ⟨m1, m2⟩ := btw_true h3
  obtain ⟨hl30, hvs⟩ := vWares_inv h1
  have HVS := Lib.hid hvs
  obtain ⟨K, rfl⟩ : ∃ K : Nat, k = K := ⟨k.toNat, by omega⟩
  have hK : K < l.length := by omega
  have hv := hvs K hK
  clear h1 h2 hvs
  have HH := Lib.hid h
  obtain ⟨b, off, Ai, ci, rfl, hb, c0, c1, r⟩ := ware_at h hK
  have HR := Lib.hid r
  have hvv := Lib.hid hv
  go_enter Tryd.func17, Tryd.ntmps17
  go_wp2_with (first | (go_at_call 54; refine (ret_num (wareCode_any _ _ _ _ _ HH.out hn hf) hC.out).mono ?_; rintro e w' ⟨rfl, g, rfl⟩) | (go_at_call 55; refine (ret_as (between_any _ _ _ _) h3).mono ?_; rintro e w' ⟨rfl, rfl⟩) | ((with_reducible refine wp_region_up (by kernel_rfl) (by kernel_rfl) ?_); (repeat (go_big_quiet_step (first | (go_at_call 54; first | exact upq_tr (ret_num (wareCode_any _ _ _ _ _ HH.out hn hf) hC.out) | exact upq (ret_num (wareCode_any _ _ _ _ _ HH.out hn hf) hC.out)) | (go_at_call 55; first | exact upq_tr_same (ret_as (between_any _ _ _ _) h3) | exact upq_same (ret_as (between_any _ _ _ _) h3))))); refine wpQuiet_nil ?_; intro _ hw'; obtain ⟨nq, hw''⟩ := hw'; subst hw''))
  refine (price_any _ _ _ _ _ (r.below (by repeat (first | exact Below.refl _ _ | refine bl_tr ?_ _ | refine bl_al ?_ _ | refine bl_dr ?_ | refine bl_up ?_ _ | refine Below.drew ?_ | refine bl_alloc ?_ _ | refine Below.setCell ?_ (by first | (simp; done) | (simp; omega)) _))) hv m1 m2).mono ?_
  rintro e w' ⟨rfl, g1, rfl⟩
  revert g
  intro g0 g1
  go_wp2_with fail
  have P0 : (up w ((g0.al (.cells #[.string (wat l K).name, .slice Ai (wat l K).brs.length ci] 29)).tr g1)).cell? ⟨(up w g0).heap.size, 0, none⟩ = some (.string (wat l K).name) := by simp
  have P1 : (up w ((g0.al (.cells #[.string (wat l K).name, .slice Ai (wat l K).brs.length ci] 29)).tr g1)).cell? ⟨(up w g0).heap.size, 1, none⟩ = some (.slice Ai (wat l K).brs.length ci) := by simp
  have P2 : (up w g0).heap.size < (up w ((g0.al (.cells #[.string (wat l K).name, .slice Ai (wat l K).brs.length ci] 29)).tr g1)).heap.size := by simp
  have hB : Below w.heap.size w (up w ((g0.al (.cells #[.string (wat l K).name, .slice Ai (wat l K).brs.length ci] 29)).tr g1)) := up_below _ _
  have hr := HR.out.below hB
  clear h r c0 c1 HR HH
  revert P0 P1 P2 hB hr
  generalize up w ((g0.al (.cells #[.string (wat l K).name, .slice Ai (wat l K).brs.length ci] 29)).tr g1) = W
  generalize (up w g0).heap.size = p
  intro P0 P1 P2 hB hr
  have HB := Lib.hid hB
  have HR := Lib.hid hr
  clear hB hr hv h3
  obtain ⟨_, _, hl6, hbk⟩ := vWare_inv hvv.out
  have HBK := Lib.hid (fun i hi => brkAt_bd (hbk i hi))
  clear hbk
  go_loopw [11, 12, 35] (fun b s i wr => ∃ j : Nat, j ≤ (wat l K).brs.length ∧ i = i64 j ∧ b = i64 (chp (wat l K) m j).1 ∧ s = i64 (chp (wat l K) m j).2 ∧ ∃ g : Up W, wr = up W g) (fun _ _ i _ => (wat l K).brs.length - (intOf i).toNat)
  case atStart => exact ⟨0, by omega, rfl, rfl, rfl, ex_up (by repeat (first | exact Below.refl _ _ | refine bl_tr ?_ _ | refine bl_al ?_ _ | refine bl_dr ?_ | refine bl_up ?_ _ | refine Below.drew ?_ | refine bl_alloc ?_ _ | refine Below.setCell ?_ (by first | (simp; done) | (simp; omega)) _))⟩
  case round =>
    obtain ⟨j, hj, rfl, rfl, rfl, g, rfl⟩ := hrel
    by_cases hlt : j < (wat l K).brs.length
    · obtain ⟨b1, off1, rfl, hb1, ha⟩ := brk_all HR.out (by omega)
      obtain ⟨e0, e1⟩ := ha j hlt
      obtain ⟨f1, f2, f3, f4⟩ := HBK.out j hlt
      clear ha
      by_cases q : m < (brk (wat l K) j).fr
      · have f0 : (0 : Int) ≤ (brk (wat l K) j).fr := by omega
        by_cases q2 : prc (wat l K) (brk (wat l K) j).fr < (chp (wat l K) m j).2
        · have hN := Lib.hid (chp_yes q q2)
          go_wp2_with (first | (go_at_call 56; refine (price_any _ _ _ _ _ (HR.out.below (by repeat (first | exact Below.refl _ _ | refine bl_tr ?_ _ | refine bl_al ?_ _ | refine bl_dr ?_ | refine bl_up ?_ _ | refine Below.drew ?_ | refine bl_alloc ?_ _ | refine Below.setCell ?_ (by first | (simp; done) | (simp; omega)) _))) hvv.out f0 f2).mono ?_; rintro e w' ⟨rfl, g, rfl⟩) | ((with_reducible refine wp_region_up (by kernel_rfl) (by kernel_rfl) ?_); (repeat (go_big_quiet_step (first | (go_at_call 56; first | exact upq_tr (price_any _ _ _ _ _ (HR.out.below (by repeat (first | exact Below.refl _ _ | refine bl_tr ?_ _ | refine bl_al ?_ _ | refine bl_dr ?_ | refine bl_up ?_ _ | refine Below.drew ?_ | refine bl_alloc ?_ _ | refine Below.setCell ?_ (by first | (simp; done) | (simp; omega)) _))) hvv.out f0 f2) | exact upq (price_any _ _ _ _ _ (HR.out.below (by repeat (first | exact Below.refl _ _ | refine bl_tr ?_ _ | refine bl_al ?_ _ | refine bl_dr ?_ | refine bl_up ?_ _ | refine Below.drew ?_ | refine bl_alloc ?_ _ | refine Below.setCell ?_ (by first | (simp; done) | (simp; omega)) _))) hvv.out f0 f2))))); refine wpQuiet_nil ?_; intro _ hw'; obtain ⟨nq, hw''⟩ := hw'; subst hw''))
          go_roundw
          case rel => exact ⟨j + 1, by omega, by go_num, by rw [hN.out], by rw [hN.out], ex_up (by repeat (first | exact Below.refl _ _ | refine bl_tr ?_ _ | refine bl_al ?_ _ | refine bl_dr ?_ | refine bl_up ?_ _ | refine Below.drew ?_ | refine bl_alloc ?_ _ | refine Below.setCell ?_ (by first | (simp; done) | (simp; omega)) _))⟩
          case measure => (simp [intOf]; try omega)
        · have hN := Lib.hid (chp_no2 q2)
          go_wp2_with (first | (go_at_call 56; refine (price_any _ _ _ _ _ (HR.out.below (by repeat (first | exact Below.refl _ _ | refine bl_tr ?_ _ | refine bl_al ?_ _ | refine bl_dr ?_ | refine bl_up ?_ _ | refine Below.drew ?_ | refine bl_alloc ?_ _ | refine Below.setCell ?_ (by first | (simp; done) | (simp; omega)) _))) hvv.out f0 f2).mono ?_; rintro e w' ⟨rfl, g, rfl⟩) | ((with_reducible refine wp_region_up (by kernel_rfl) (by kernel_rfl) ?_); (repeat (go_big_quiet_step (first | (go_at_call 56; first | exact upq_tr (price_any _ _ _ _ _ (HR.out.below (by repeat (first | exact Below.refl _ _ | refine bl_tr ?_ _ | refine bl_al ?_ _ | refine bl_dr ?_ | refine bl_up ?_ _ | refine Below.drew ?_ | refine bl_alloc ?_ _ | refine Below.setCell ?_ (by first | (simp; done) | (simp; omega)) _))) hvv.out f0 f2) | exact upq (price_any _ _ _ _ _ (HR.out.below (by repeat (first | exact Below.refl _ _ | refine bl_tr ?_ _ | refine bl_al ?_ _ | refine bl_dr ?_ | refine bl_up ?_ _ | refine Below.drew ?_ | refine bl_alloc ?_ _ | refine Below.setCell ?_ (by first | (simp; done) | (simp; omega)) _))) hvv.out f0 f2))))); refine wpQuiet_nil ?_; intro _ hw'; obtain ⟨nq, hw''⟩ := hw'; subst hw''))
          go_roundw
          case rel => exact ⟨j + 1, by omega, by go_num, by rw [hN.out], by rw [hN.out], ex_up (by repeat (first | exact Below.refl _ _ | refine bl_tr ?_ _ | refine bl_al ?_ _ | refine bl_dr ?_ | refine bl_up ?_ _ | refine Below.drew ?_ | refine bl_alloc ?_ _ | refine Below.setCell ?_ (by first | (simp; done) | (simp; omega)) _))⟩
          case measure => (simp [intOf]; try omega)
      · have hN := Lib.hid (chp_no1 q)
        go_wp2_with (first | ((with_reducible refine wp_region_up (by kernel_rfl) (by kernel_rfl) ?_); (repeat (go_big_quiet_step (fail))); refine wpQuiet_nil ?_; intro _ hw'; obtain ⟨nq, hw''⟩ := hw'; subst hw''))
        go_roundw
        case rel => exact ⟨j + 1, by omega, by go_num, by rw [hN.out], by rw [hN.out], ex_up (by repeat (first | exact Below.refl _ _ | refine bl_tr ?_ _ | refine bl_al ?_ _ | refine bl_dr ?_ | refine bl_up ?_ _ | refine Below.drew ?_ | refine bl_alloc ?_ _ | refine Below.setCell ?_ (by first | (simp; done) | (simp; omega)) _))⟩
        case measure => (simp [intOf]; try omega)
    · obtain rfl : j = (wat l K).brs.length := by omega
      go_wp2_with (first | ((with_reducible refine wp_region_up (by kernel_rfl) (by kernel_rfl) ?_); (repeat (go_big_quiet_step (fail))); refine wpQuiet_nil ?_; intro _ hw'; obtain ⟨nq, hw''⟩ := hw'; subst hw''))
      go_ret3
      exact ⟨by rw [hR.out]; rfl, UpOf.of (HB.out.trans (Below.mono (by repeat (first | exact Below.refl _ _ | refine bl_tr ?_ _ | refine bl_al ?_ _ | refine bl_dr ?_ | refine bl_up ?_ _ | refine Below.drew ?_ | refine bl_alloc ?_ _ | refine Below.setCell ?_ (by first | (simp; done) | (simp; omega)) _)) HB.out.size))⟩
end Go.Proofs.YtiibpldfnnhhlaaDoor

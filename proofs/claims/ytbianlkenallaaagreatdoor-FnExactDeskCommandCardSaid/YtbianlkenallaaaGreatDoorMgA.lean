/-
  Common parts, put together: Up, Slices, Flat, Ent0, Name, Entry1, Mark, Drills, Ints, Desk0, SameDesk, DrillP, MoveP, Set, DecP, NumP, SplitP, SetLP, CodeP, App, Strs0, CodeQ, AlignP, FastP, LogP, ReadDrillP, DecI, StrApp, Dec, Gen.
-/
import Derived.WalkKit
import Derived.ProofKit
import Derived.Lib.Hide
import Derived.Deep.RegionHeld3
import Derived.Deep.DeepCutAuto
import Derived.BigQuiet
import Derived.Deep.Light
import Derived.Test.YtbianlkenallaaaGreatDoorRows
import Derived.Maps.OwnOps
import Derived.Maps.OwnSet
import Derived.Lib.ItoaLen
import Derived.Lib.UnsafeStr
import Derived.Maps.AppendAt
import Derived.Laws.AppendOwnNone
import Derived.Deep.RegionLaw
import Derived.Deep.AppendLies
import Derived.Test.YtbianlkenallaaaGreatDoorShelf
import Derived.Lib.AppendStr
import Derived.Laws.IdiomStrings
import Derived.Deep.DeepMust
set_option linter.all false
set_option maxHeartbeats 2000000
set_option maxRecDepth 10000
namespace Go.Proofs.YtbianlkenallaaaGreatDoor
open Go.RowKit
structure Up (w : World) where
 wd : World
 below : Below w.heap.size w wd
def up (w : World) (g : Up w) : World := g.wd
instance (w : World) : Nonempty (Up w) := ⟨⟨w, Below.refl _ _⟩⟩
section
variable {w : World} {g : Up w}
theorem ub_ (w : World) (g : Up w) : Below w.heap.size w (up w g) := g.below
theorem cell_up (a : Addr) (h : a.block < w.heap.size) : (up w g).cell? a = w.cell? a := g.below.cell h
theorem frozen_up (a : Addr) (h : a.block < w.heap.size) : (up w g).frozen? a = w.frozen? a := g.below.frozen h
theorem heap_up (k : Nat) (h : k < w.heap.size) : (up w g).heap[k]? = w.heap[k]? := g.below.block k h
theorem le_up (k : Nat) (h : k ≤ w.heap.size) : k ≤ (up w g).heap.size := Nat.le_trans h g.below.size
theorem lt_up (k : Nat) (h : k < w.heap.size) : k < (up w g).heap.size := Nat.lt_of_lt_of_le h g.below.size
theorem le_up1 (k : Nat) (h : k ≤ w.heap.size) : k ≤ (up w g).heap.size + 1 := Nat.le_succ_of_le (le_up k h)
theorem le_up2 (k : Nat) (h : k ≤ w.heap.size) : k ≤ (up w g).heap.size + 2 := Nat.le_succ_of_le (le_up1 k h)
theorem lt_up1 (k : Nat) (h : k ≤ w.heap.size) : k < (up w g).heap.size + 1 := Nat.lt_succ_of_le (le_up k h)
theorem lt_up2 (k : Nat) (h : k ≤ w.heap.size) : k < (up w g).heap.size + 2 := Nat.lt_succ_of_le (le_up1 k h)
theorem ne_up (k : Nat) (h : k < w.heap.size) : (k = (up w g).heap.size) = False := by
 have := lt_up (g := g) k h
 simp; omega
theorem ne_up' (k : Nat) (h : k < w.heap.size) : ((up w g).heap.size = k) = False := by
 have := lt_up (g := g) k h
 simp; omega
end
def Up.tr {w : World} (g : Up w) (h : Up (up w g)) : Up w := ⟨up (up w g) h, g.below.trans (h.below.mono g.below.size)⟩
def Up.dr {w : World} (g : Up w) : Up w := ⟨(up w g).drew, g.below.drew⟩
def Up.al {w : World} (g : Up w) (o : Obj) : Up w := ⟨(up w g).alloc o, g.below.alloc g.below.size o⟩
section
variable {w : World} {g : Up w}
theorem up_up (h : Up (up w g)) : up (up w g) h = up w (g.tr h) := rfl
theorem drew_up : (up w g).drew = up w g.dr := rfl
theorem alloc_up (o : Obj) : (up w g).alloc o = up w (g.al o) := rfl
theorem size_dr : (up w g.dr).heap.size = (up w g).heap.size := rfl
theorem size_al (o : Obj) : (up w (g.al o)).heap.size = (up w g).heap.size + 1 := by
 show ((up w g).alloc o).heap.size = _
 simp
theorem cell_dr (a : Addr) : (up w g.dr).cell? a = (up w g).cell? a := rfl
theorem frozen_dr (a : Addr) : (up w g.dr).frozen? a = (up w g).frozen? a := rfl
theorem cell_al_new (c : Array Value) (t : TypeId) (i : Nat) : (up w (g.al (.cells c t))).cell? ⟨(up w g).heap.size, i, none⟩ = c[i]? := World.cell?_alloc_new _ _ _ _
theorem frozen_al_new (c : Array Value) (t : TypeId) (i : Nat) : (up w (g.al (.cells c t))).frozen? ⟨(up w g).heap.size, i, none⟩ = false := World.frozen?_alloc_new _ _ _ _
theorem cell_al (o : Obj) (a : Addr) (h : a.block < (up w g).heap.size) : (up w (g.al o)).cell? a = (up w g).cell? a := World.cell?_alloc_lt _ _ _ h
theorem frozen_al (o : Obj) (a : Addr) (h : a.block < (up w g).heap.size) : (up w (g.al o)).frozen? a = (up w g).frozen? a := World.frozen?_alloc_old _ _ _ (Nat.ne_of_lt h)
theorem setCell_al (c : Array Value) (t : TypeId) (i : Nat) (v : Value) : (up w (g.al (.cells c t))).setCell ⟨(up w g).heap.size, i, none⟩ v = up w (g.al (.cells (c.setIfInBounds i v) t)) := World.setCell_alloc_at c t _ i v rfl
theorem cell_tr (h : Up (up w g)) (a : Addr) (hk : a.block < (up w g).heap.size) : (up w (g.tr h)).cell? a = (up w g).cell? a := cell_up (g := h) a hk
theorem frozen_tr (h : Up (up w g)) (a : Addr) (hk : a.block < (up w g).heap.size) : (up w (g.tr h)).frozen? a = (up w g).frozen? a := frozen_up (g := h) a hk
theorem le_tr (h : Up (up w g)) (k : Nat) (hk : k ≤ (up w g).heap.size) : k ≤ (up w (g.tr h)).heap.size := le_up (g := h) k hk
theorem lt_tr (h : Up (up w g)) (k : Nat) (hk : k < (up w g).heap.size) : k < (up w (g.tr h)).heap.size := lt_up (g := h) k hk
theorem le_tr1 (h : Up (up w g)) (k : Nat) (hk : k ≤ (up w g).heap.size) : k ≤ (up w (g.tr h)).heap.size + 1 := Nat.le_succ_of_le (le_tr h k hk)
theorem lt_tr1 (h : Up (up w g)) (k : Nat) (hk : k ≤ (up w g).heap.size) : k < (up w (g.tr h)).heap.size + 1 := Nat.lt_succ_of_le (le_tr h k hk)
theorem lt_tr2 (h : Up (up w g)) (k : Nat) (hk : k ≤ (up w g).heap.size) : k < (up w (g.tr h)).heap.size + 2 := Nat.lt_succ_of_le (le_tr1 h k hk)
theorem le_tr_self (h : Up (up w g)) : (up w g).heap.size ≤ (up w (g.tr h)).heap.size := le_tr h _ (Nat.le_refl _)
theorem le_tr_al (o : Obj) (h : Up (up w (g.al o))) : (up w g).heap.size ≤ (up w ((g.al o).tr h)).heap.size := le_tr h _ (by rw [size_al]; omega)
theorem lt_tr_al (o : Obj) (h : Up (up w (g.al o))) : (up w g).heap.size < (up w ((g.al o).tr h)).heap.size := lt_tr h _ (by rw [size_al]; omega)
theorem cell_tr_al (c : Array Value) (t : TypeId) (h : Up (up w (g.al (.cells c t)))) (i : Nat) : (up w ((g.al (.cells c t)).tr h)).cell? ⟨(up w g).heap.size, i, none⟩ = c[i]? :=
 (cell_tr h _ (by rw [size_al]; show (up w g).heap.size < _; omega)).trans (cell_al_new c t i)
theorem frozen_tr_al (c : Array Value) (t : TypeId) (h : Up (up w (g.al (.cells c t)))) (i : Nat) : (up w ((g.al (.cells c t)).tr h)).frozen? ⟨(up w g).heap.size, i, none⟩ = false :=
 (frozen_tr h _ (by rw [size_al]; show (up w g).heap.size < _; omega)).trans (frozen_al_new c t i)
end
attribute [simp, go_sem] lt_up1 lt_up2 le_tr1 lt_tr1 lt_tr2 le_tr_self le_tr_al lt_tr_al cell_tr_al frozen_tr_al
attribute [simp, go_sem] cell_up frozen_up heap_up le_up lt_up le_up1 le_up2 ne_up ne_up' up_up drew_up alloc_up size_dr size_al cell_dr frozen_dr cell_al_new frozen_al_new setCell_al cell_al frozen_al cell_tr frozen_tr le_tr lt_tr
theorem below_up {B : Nat} {a w : World} (h : Below B a w) (hB : B ≤ w.heap.size) (g : Up w) : Below B a (up w g) := h.trans (g.below.mono hB)
theorem bl_up {a w : World} (h : Below a.heap.size a w) (g : Up w) : Below a.heap.size a (up w g) := below_up h h.size g
theorem bl_alloc {a w : World} (h : Below a.heap.size a w) (o : Obj) : Below a.heap.size a (w.alloc o) := h.alloc h.size o
theorem bl_tr {a w : World} {G : Up w} (h : Below a.heap.size a (up w G)) (g : Up (up w G)) : Below a.heap.size a (up w (G.tr g)) := bl_up h g
theorem bl_al {a w : World} {G : Up w} (h : Below a.heap.size a (up w G)) (o : Obj) : Below a.heap.size a (up w (G.al o)) := bl_alloc h o
theorem bl_dr {a w : World} {G : Up w} (h : Below a.heap.size a (up w G)) : Below a.heap.size a (up w G.dr) := Below.drew h
inductive BL (a : World) : World → Prop
 | r : BL a a
 | t {w : World} {G : Up w} {g : Up (up w G)} : BL a (up w G) → BL a (up w (G.tr g))
 | l {w : World} {G : Up w} {o : Obj} : BL a (up w G) → BL a (up w (G.al o))
 | d {w : World} {G : Up w} : BL a (up w G) → BL a (up w G.dr)
 | u {w : World} {g : Up w} : BL a w → BL a (up w g)
 | w {w : World} : BL a w → BL a w.drew
 | n {w : World} {o : Obj} : BL a w → BL a (w.alloc o)
theorem BL.o {a V : World} (h : BL a V) : Below a.heap.size a V := by
 induction h with
 | r => exact Below.refl _ _
 | t _ ih => exact bl_tr ih _
 | l _ ih => exact bl_al ih _
 | d _ ih => exact bl_dr ih
 | u _ ih => exact bl_up ih _
 | w _ ih => exact Below.drew ih
 | n _ ih => exact bl_alloc ih _
theorem bw_ {a V : World} (h : BL a V := by repeat constructor) : Below a.heap.size a V := h.o
theorem hd_ {p : Prop} (h : p) : Hid p := Lib.hid h
theorem ex_tr {w w' : World} {X : Up w} (h : Below (up w X).heap.size (up w X) w') : ∃ g, w' = up w (X.tr g) := ⟨⟨w', h⟩, rfl⟩
theorem ex_up {w w' : World} (h : Below w.heap.size w w') : ∃ g, w' = up w g := ⟨⟨w', h⟩, rfl⟩
def UpOf (w w' : World) : Prop := ∃ g : Up w, w' = up w g
theorem UpOf.of {w w' : World} (h : Below w.heap.size w w') : UpOf w w' := ⟨⟨w', h⟩, rfl⟩
theorem uw_ {a V : World} (h : BL a V := by repeat constructor) : UpOf a V := .of h.o
theorem UpOf.below {w w' : World} (h : UpOf w w') : Below w.heap.size w w' := by
 obtain ⟨g, rfl⟩ := h
 exact g.below
theorem wp_region_up {P : Program} {id : Nat} {Q : Exit → Act → World → Prop} {a : Act} {w : World} {l : List Oper} (hm : P.follows .mixedOrders = true) (hB : Region.lexB .any l.toArray = true)
 (h : wpQuiet P l.toArray (fun w' => ∃ g : Up w, w' = up w g) (fun a' => ∀ w', (∃ g : Up w, w' = up w g) → Q .normal a' w') l a) : (Code.region id l.toArray true).wp P Q a w :=
 wp_region_quiet (C := fun w' => ∃ g : Up w, w' = up w g) hm hB ⟨⟨_, (Below.refl _ _).drew⟩, rfl⟩ (by simpa using h)
theorem wru {P : Program} {id : Nat} {Q : Exit → Act → World → Prop} {a : Act} {w : World} {l : List Oper}
 (h : wpQuiet P l.toArray (fun w' => ∃ g : Up w, w' = up w g) (fun a' => ∀ w', (∃ g : Up w, w' = up w g) → Q .normal a' w') l a) (hm : P.follows .mixedOrders = true := by kernel_rfl) (hB : Region.lexB .any l.toArray = true := by kernel_rfl) : (Code.region id l.toArray true).wp P Q a w := wp_region_up hm hB h
theorem wqn {P : Program} {ops : Array Oper} {C : World → Prop} {Q : Exit → Act → World → Prop} {a : Act} {w : World} (h : ∀ g : Up w, Q .normal a (up w g)) : wpQuiet P ops C (fun a' => ∀ w', (∃ g : Up w, w' = up w g) → Q .normal a' w') [] a :=
 wpQuiet_nil fun _ hw => by
  obtain ⟨g, rfl⟩ := hw
  exact h g
theorem wrz {P : Program} {ops : Array Oper} {C : World → Prop} {l : List Oper} {Q : Exit → Act → World → Prop} {a b : Act} {w : World} (h : ∀ g : Up w, Q .normal b (up w g))
 (hq : (∀ g : Up w, Q .normal b (up w g)) → wpQuiet P ops C (fun a' => ∀ w', (∃ g : Up w, w' = up w g) → Q .normal a' w') l a := by intro h9; (repeat (go_big_quiet_step (fail))); exact wqn h9) :
 wpQuiet P ops C (fun a' => ∀ w', (∃ g : Up w, w' = up w g) → Q .normal a' w') l a := hq h
theorem upq_same {P : Program} {f : FuncId} {args : Array Value} {w : World} {g : Up w} {v : Value}
 (h : Calls P f args (up w g) fun e w' => e = .returned v ∧ up w g = w') : Calls P f args (up w g) fun e w'' => e = .returned v ∧ ∃ g' : Up w, w'' = up w g' :=
 h.mono fun _ _ ⟨he, hw⟩ => ⟨he, g, hw.symm⟩
theorem upq_tr_same {P : Program} {f : FuncId} {args : Array Value} {w : World} {g : Up w} {h : Up (up w g)} {v : Value}
 (c : Calls P f args (up w (g.tr h)) fun e w' => e = .returned v ∧ up w (g.tr h) = w') : Calls P f args (up w (g.tr h)) fun e w'' => e = .returned v ∧ ∃ g' : Up (up w g), w'' = up w (g.tr g') :=
 c.mono fun _ _ ⟨he, hw⟩ => ⟨he, h, hw.symm⟩
theorem uq_ {P : Program} {f : FuncId} {args : Array Value} {w V : World} {v : Value} (c : Calls P f args V fun e w' => e = .returned v ∧ UpOf V w') (h : BL w V := by repeat constructor) :
 Calls P f args V fun e w'' => e = .returned v ∧ ∃ g : Up w, w'' = up w g := c.mono fun _ _ ⟨he, g, hw⟩ => ⟨he, ⟨_, bl_up h.o g⟩, hw⟩
theorem uqs_ {P : Program} {f : FuncId} {args : Array Value} {w V : World} {v : Value} (c : Calls P f args V fun e w' => e = .returned v ∧ V = w') (h : BL w V := by repeat constructor) :
 Calls P f args V fun e w'' => e = .returned v ∧ ∃ g : Up w, w'' = up w g := c.mono fun _ _ ⟨he, hw⟩ => ⟨he, ⟨_, h.o⟩, hw.symm⟩
theorem cu_ {P : Program} {f : FuncId} {args : Array Value} {w : World} {v : Value} {K : Ending → World → Prop} (c : Calls P f args w fun e w' => e = .returned v ∧ UpOf w w') (h : ∀ g : Up w, K (.returned v) (up w g)) : Calls P f args w K :=
 c.mono fun _ _ ⟨he, g, hw⟩ => by
  subst he hw
  exact h g
theorem cs_ {P : Program} {f : FuncId} {args : Array Value} {w : World} {v : Value} {K : Ending → World → Prop} (c : Calls P f args w fun e w' => e = .returned v ∧ w = w') (h : K (.returned v) w) : Calls P f args w K :=
 c.mono fun _ _ ⟨he, hw⟩ => by
  subst he hw
  exact h
theorem nm_ {α : Sort _} (a : α) : ∃ x, a = x := ⟨a, rfl⟩
theorem ra_ {P : Program} {f : FuncId} {args : Array Value} {w : World} {B b : Bool} {Q : World → Prop} (h : Calls P f args w fun e w' => e = .returned (.bool B) ∧ Q w') (hB : B = b) :
 Calls P f args w fun e w' => e = .returned (.bool b) ∧ Q w' := by subst hB; exact h
theorem UpOf.refl (w : World) : UpOf w w := .of (Below.refl _ _)
theorem as_up {P : Program} {c : Code} {Q : Exit → Act → World → Prop} {a : Act} {w : World} (h : ∀ g : Up w, Code.wp P c Q a (up w g)) : Code.wp P c Q a w := h ⟨w, Below.refl _ _⟩
theorem sm_of {W w' : World} (h : Below W.heap.size W w') : W.heap.size ≤ w'.heap.size ∧ ∀ b o, b < W.heap.size → w'.cell? ⟨b, o, none⟩ = W.cell? ⟨b, o, none⟩ := ⟨h.size, fun b o hb => h.cell (p := ⟨b, o, none⟩) hb⟩
def Rds (w : World) (sz : Nat) (A : Option Addr) (n : Nat) (xs : List Value) : Prop :=
 xs.length = n * sz ∧ (0 < n * sz → ∃ b off, A = some ⟨b, off, none⟩ ∧ b < w.heap.size ∧ ∀ j u, xs[j]? = some u → w.cell? ⟨b, off + j, none⟩ = some u)
section
variable {w w' : World} {sz : Nat} {A : Option Addr} {n : Nat} {xs : List Value}
theorem Rds.keep (h : Rds w sz A n xs) (hs : w.heap.size ≤ w'.heap.size) (hk : 0 < n * sz → ∀ b off, A = some ⟨b, off, none⟩ → b < w.heap.size → w'.heap[b]? = w.heap[b]?) : Rds w' sz A n xs :=
 ⟨h.1, fun hn => by
  obtain ⟨b, off, e, hb, hc⟩ := h.2 hn
  exact ⟨b, off, e, Nat.lt_of_lt_of_le hb hs, fun j u hu => (World.cell?_of_block (w := w) (hk hn b off e hb)).trans (hc j u hu)⟩⟩
theorem Rds.below (h : Rds w sz A n xs) (hb : Below w.heap.size w w') : Rds w' sz A n xs := h.keep hb.size (fun _ b _ _ h => hb.block b h)
theorem Rds.empty (w : World) (sz : Nat) (A : Option Addr) : Rds w sz A 0 [] := ⟨by simp, fun h => by omega⟩
theorem Rds.at (h : Rds w sz A n xs) (hn : 0 < n * sz) : ∃ b off, A = some ⟨b, off, none⟩ ∧ b < w.heap.size ∧ ∀ j u, xs[j]? = some u → w.cell? ⟨b, off + j, none⟩ = some u := h.2 hn
theorem Rds.of_own {base : Nat} {e : TypeId} {c : Nat} (h : w.ownsRow base e sz (.slice A n c) n xs) : Rds w sz A n xs := by
 refine ⟨h.1, fun hn => ?_⟩
 rcases h.2 with ⟨_, h0⟩ | ⟨g, cap, cur, hv, _, hg, _⟩
 ·subst h0; omega
 ·have hA : A = some ⟨g, 0, none⟩ := by injection hv
  subst hA
  refine ⟨g, 0, rfl, (Array.getElem?_eq_some_iff.1 hg).1, fun j u hu => ?_⟩
  have := h.cells (g := g) rfl j u hu
  have hadd : (⟨g, 0, none⟩ : Addr).add j = ⟨g, 0 + j, none⟩ := by unfold Addr.add; split <;> simp_all
  rwa [hadd] at this
theorem own_block {base : Nat} {e : TypeId} {c : Nat} (h : w.ownsRow base e sz (.slice A n c) n xs) {b off : Nat} (hA : A = some ⟨b, off, none⟩) : base ≤ b ∧ b < w.heap.size ∧ off = 0 := by
 subst hA
 rcases h.2 with ⟨hv, _⟩ | ⟨g, cap, cur, hv, hb, hg, _⟩
 ·simp at hv
 ·simp only [Value.slice.injEq, Option.some.injEq, Addr.mk.injEq, and_true] at hv
  obtain ⟨⟨rfl, rfl⟩, _⟩ := hv
  exact ⟨hb, (Array.getElem?_eq_some_iff.1 hg).1, rfl⟩
end
theorem own_up {w : World} {base : Nat} {e : TypeId} {size : Nat} {v : Value} {n : Nat} {xs : List Value} (h : w.ownsRow base e size v n xs) (g : Up w) : (up w g).ownsRow base e size v n xs :=
 h.kept (row := none) ⟨g.below.os, g.below.tape, g.below.output, g.below.size, fun k hk _ => g.below.block k hk⟩ (by cases hv : v.ownBlock <;> simp)
theorem grown_up {w : World} (g : Up w) (row : Option Nat) : w.grownBy (up w g) row := ⟨g.below.os, g.below.tape, g.below.output, g.below.size, fun k hk _ => g.below.block k hk⟩
theorem up_of_grown {W w w' : World} {row : Option Nat} (h : Below W.heap.size W w) (hg : w.grownBy w' row) (hr : ∀ k, row = some k → W.heap.size ≤ k) : UpOf W w' := .of (h.grown hg h.size hr)
theorem grown_trans {a b c : World} {row : Option Nat} (h : a.grownBy b row) (k : b.grownBy c row) : a.grownBy c row :=
 ⟨k.os.trans h.os, k.tape.trans h.tape, k.output.trans h.output, Nat.le_trans h.size k.size, fun i hi hne => (k.block i (Nat.lt_of_lt_of_le hi h.size) hne).trans (h.block i hi hne)⟩
theorem grown_refl (w : World) (row : Option Nat) : w.grownBy w row := ⟨rfl, rfl, rfl, Nat.le_refl _, fun _ _ _ => rfl⟩
theorem om_ {w : World} {base base' : Nat} {e : TypeId} {size : Nat} {v : Value} {n : Nat} {xs : List Value} (h : w.ownsRow base e size v n xs) (hb : base' ≤ base) : w.ownsRow base' e size v n xs := by
 refine ⟨h.1, ?_⟩
 rcases h.2 with h2 | ⟨g, cap, cur, hv, hg, r⟩
 ·exact .inl h2
 ·exact .inr ⟨g, cap, cur, hv, Nat.le_trans hb hg, r⟩
def Blk (w : World) (b : Nat) (t : TypeId) (cs : Array Value) : Prop := w.heap[b]? = some (.cells cs t (0, 0))
section
variable {w w' : World} {b : Nat} {t : TypeId} {cs : Array Value}
theorem Blk.lt (h : Blk w b t cs) : b < w.heap.size := (Array.getElem?_eq_some_iff.1 h).1
theorem Blk.cell (h : Blk w b t cs) (i : Nat) : w.cell? ⟨b, i, none⟩ = cs[i]? := by unfold Blk at h; simp [World.cell?, h]
theorem Blk.free (h : Blk w b t cs) (i : Nat) : w.frozen? ⟨b, i, none⟩ = false := by unfold Blk at h; simp [World.frozen?, h]
theorem Blk.up (h : Blk w b t cs) (g : Up w) : Blk (up w g) b t cs := (g.below.block b h.lt).trans h
theorem Blk.new_al {g : Up w} (t : TypeId) (cs : Array Value) : Blk (Go.Proofs.YtbianlkenallaaaGreatDoor.up w (g.al (.cells cs t))) (Go.Proofs.YtbianlkenallaaaGreatDoor.up w g).heap.size t cs := heap_alloc_new (Go.Proofs.YtbianlkenallaaaGreatDoor.up w g) _
theorem Blk.drew (h : Blk w b t cs) : Blk w.drew b t cs := h
theorem Blk.alloc (h : Blk w b t cs) (o : Obj) : Blk (w.alloc o) b t cs := (Below.heap_alloc w o b h.lt).trans h
theorem Blk.new (w : World) (t : TypeId) (cs : Array Value) : Blk (w.alloc (.cells cs t)) w.heap.size t cs := heap_alloc_new w _
theorem Blk.put (h : Blk w b t cs) (i : Nat) (u : Value) : Blk (w.setCell ⟨b, i, none⟩ u) b t (cs.setIfInBounds i u) := by
 unfold Blk at h ⊢
 simp [World.setCell, Array.getElem?_modify, h]
theorem Blk.far (h : Blk w b t cs) {p : Addr} (hp : b ≠ p.block) (u : Value) : Blk (w.setCell p u) b t cs := (Below.heap_setCell w p u b hp).trans h
theorem Blk.grown {row : Option Nat} (h : Blk w b t cs) (hg : w.grownBy w' row) (hne : some b ≠ row) : Blk w' b t cs := (hg.block b h.lt hne).trans h
theorem grown_put (w : World) (b i : Nat) (u : Value) : w.grownBy (w.setCell ⟨b, i, none⟩ u) (some b) :=
 ⟨rfl, rfl, rfl, by simp [World.setCell], fun k _ hne => Below.heap_setCell w _ u k (fun e => hne (by rw [e]))⟩
end
theorem conv_one {P : Program} (W : World) (src e dst : TypeId) (hs : P.underlying src = some (.slice e)) (he : P.underlying e = some (.int .u8)) (hd : P.underlying dst = some .string) (x : Int) :
 (convert src dst (.slice (some ⟨W.heap.size, 0, none⟩) 1 1)).run P (W.alloc (.cells #[.int .u8 x] e)) = .ok (.string ⟨#[UInt8.ofNat x.toNat]⟩) (W.alloc (.cells #[.int .u8 x] e)) :=
 run_convert_bytes_arg _ src e hs he _ 0 1 1 [x] rfl (fun i hi => by
  obtain rfl : i = 0 := by omega
  simp) dst hd
theorem ob_ {w w' : World} {base : Nat} {e : TypeId} {size : Nat} {v : Value} {n : Nat} {xs : List Value} (h : w.ownsRow base e size v n xs) (hb : Below w.heap.size w w') : w'.ownsRow base e size v n xs := own_up h ⟨w', hb⟩
abbrev i64 (n : Int) : Value := .int .i64 n
theorem rb_ {a b : Bool} (h : a = b) : Ending.returned (.bool a) = .returned (.bool b) := by rw [h]
theorem ret_int {k : IntKind} {a b : Int} (h : a = b) : Ending.returned (.int k a) = .returned (.int k b) := by rw [h]
section
variable {α : Type} {enc : α → List Value} {sz : Nat}
theorem flat_len (he : ∀ a, (enc a).length = sz) (l : List α) : (l.flatMap enc).length = l.length * sz := by
 induction l with
 | nil => simp
 | cons a l ih => simp [he, ih, Nat.add_mul]; omega
theorem flat_get (he : ∀ a, (enc a).length = sz) (l : List α) {k j : Nat} (hk : k < l.length) (hj : j < sz) : (l.flatMap enc)[k * sz + j]? = (enc l[k])[j]? := by
 induction l generalizing k with
 | nil => simp at hk
 | cons a l ih =>
   rw [List.flatMap_cons]
   cases k with
   | zero => simp [List.getElem?_append, he, hj]
   | succ k =>
     rw [List.getElem?_append_right (by rw [he, Nat.add_mul]; omega), he]
     have : (k + 1) * sz + j - sz = k * sz + j := by rw [Nat.add_mul]; omega
     rw [this, ih (by simpa using hk)]
     simp
theorem flat_ext (he : ∀ a, (enc a).length = sz) (l : List α) {ys : List Value} (hl : ys.length = l.length * sz) (h : ∀ k (hk : k < l.length) j, j < sz → ys[k * sz + j]? = (enc l[k])[j]?) : ys = l.flatMap enc := by
 apply List.ext_getElem?
 intro i
 by_cases hi : i < l.length * sz
 ·have hsz : 0 < sz := by
   rcases Nat.eq_zero_or_pos sz with h0 | h0
   ·subst h0; omega
   ·exact h0
  have hk : i / sz < l.length := (Nat.div_lt_iff_lt_mul hsz).2 hi
  have hj : i % sz < sz := Nat.mod_lt _ hsz
  have hi' : i = i / sz * sz + i % sz := by rw [Nat.mul_comm]; exact (Nat.div_add_mod i sz).symm
  rw [hi', h _ hk _ hj, flat_get he l hk hj]
 ·rw [List.getElem?_eq_none (by omega), List.getElem?_eq_none (by rw [flat_len he]; omega)]
theorem rds_of_elems (he : ∀ a, (enc a).length = sz) {w : World} {b off : Nat} {l : List α} (hb : b < w.heap.size)
 (h : ∀ k (hk : k < l.length) j u, (enc l[k])[j]? = some u → w.cell? ⟨b, off + k * sz + j, none⟩ = some u) : Rds w sz (some ⟨b, off, none⟩) l.length (l.flatMap enc) := by
 refine ⟨flat_len he l, fun hn => ⟨b, off, rfl, hb, fun i u hu => ?_⟩⟩
 have hi : i < l.length * sz := by
  rcases Nat.lt_or_ge i (l.length * sz) with h | h
  ·exact h
  ·rw [List.getElem?_eq_none (by rw [flat_len he]; exact h)] at hu; cases hu
 have hsz : 0 < sz := by
  rcases Nat.eq_zero_or_pos sz with h0 | h0
  ·subst h0; omega
  ·exact h0
 have hk : i / sz < l.length := (Nat.div_lt_iff_lt_mul hsz).2 hi
 have hi' : i = i / sz * sz + i % sz := by rw [Nat.mul_comm]; exact (Nat.div_add_mod i sz).symm
 rw [hi', flat_get he l hk (Nat.mod_lt _ hsz)] at hu
 have := h (i / sz) hk (i % sz) u hu
 rw [Nat.add_assoc, ← hi'] at this
 exact this
theorem rds_elem (he : ∀ a, (enc a).length = sz) {w : World} {A : Option Addr} {l : List α} (h : Rds w sz A l.length (l.flatMap enc)) {k : Nat} (hk : k < l.length) (hsz : 0 < sz) :
 ∃ b off, A = some ⟨b, off, none⟩ ∧ b < w.heap.size ∧ ∀ j u, (enc l[k])[j]? = some u → w.cell? ⟨b, off + k * sz + j, none⟩ = some u := by
 obtain ⟨b, off, e, hb, hc⟩ := h.at (Nat.mul_pos (by omega) hsz)
 refine ⟨b, off, e, hb, fun j u hu => Nat.add_assoc off (k * sz) j ▸ hc _ u ?_⟩
 have hj : j < sz := by
  rcases Nat.lt_or_ge j sz with h | h
  ·exact h
  ·rw [List.getElem?_eq_none (by rw [he]; exact h)] at hu; cases hu
 rw [flat_get he l hk hj]
 exact hu
end
def szR (k : Int) (tot : Nat) : Int := if k < tot then -1 else k - tot
theorem szR_no {k : Int} {tot : Nat} (h : k < tot) : szR k tot = -1 := if_pos h
theorem szR_ok {k : Int} {tot : Nat} (h : ¬ k < tot) : szR k tot = k - tot := if_neg h
structure Entry where
 day : Int
 what : ByteArray
 value : Int
def Entry.cells (h : Entry) : List Value := [i64 h.day, .string h.what, i64 h.value]
abbrev env (h : Entry) : Value := .agg #[i64 h.day, .string h.what, i64 h.value]
def byteAt (s : ByteArray) (i : Nat) : UInt8 := s.data.toList.getD i 0
section
variable {s : ByteArray}
theorem byteAt_eq {i : Nat} (h : i < s.size) : s[i] = byteAt s i := by
 have h' : i < s.data.size := h
 show s.data[i] = _
 simp [byteAt, Array.getElem?_eq_getElem h']
def small (c : UInt8) : Bool := decide (97 ≤ (c.toNat : Int) ∧ (c.toNat : Int) ≤ 122)
def digit (c : UInt8) : Bool := decide (48 ≤ (c.toNat : Int) ∧ (c.toNat : Int) ≤ 57)
def nameC (i : Nat) (c : UInt8) : Bool := small c || (decide (0 < i) && (decide ((c.toNat : Int) = 45) || digit c))
def nameB (s : ByteArray) : Bool := decide (1 ≤ s.size ∧ s.size ≤ 12) && (List.range s.size).all fun i => nameC i (byteAt s i)
theorem nameB_len (h : ¬ (1 ≤ s.size ∧ s.size ≤ 12)) : nameB s = false := by rw [nameB, decide_eq_false h]; rfl
theorem nameB_at {i : Nat} (hi : i < s.size) (h : nameC i (byteAt s i) = false) : nameB s = false := by
 simp only [nameB, Bool.and_eq_false_iff]
 refine .inr ?_
 rw [← Bool.not_eq_true]
 intro hc
 rw [List.all_eq_true] at hc
 have := hc i (List.mem_range.2 hi)
 simp [h] at this
theorem nameB_true (h1 : 1 ≤ s.size ∧ s.size ≤ 12) (h : ∀ i, i < s.size → nameC i (byteAt s i) = true) : nameB s = true := by
 simp only [nameB, decide_eq_true h1, Bool.true_and, List.all_eq_true, List.mem_range]
 exact h
theorem nameB_bd (h : nameB s = true) : 1 ≤ s.size ∧ s.size ≤ 12 := by
 simp only [nameB, Bool.and_eq_true, decide_eq_true_eq] at h
 exact h.1
theorem lt_ext {P : Nat → Prop} {j : Nat} (h : ∀ i, i < j → P i) (hj : P j) : ∀ i, i < j + 1 → P i := fun i hi => by
 rcases Nat.lt_succ_iff_lt_or_eq.1 hi with h' | h'
 ·exact h i h'
 ·rw [h']; exact hj
theorem isDigit_any (c : UInt8) (w : World) :
 Calls Tryz.prog 130 #[.int .u8 c.toNat] w fun e w' => e = .returned (.bool (digit c)) ∧ w = w' := by
 go_enter Tryz.func130, Tryz.ntmps130
 go_wp2
 all_goals go_ret
 all_goals exact ⟨rb_ (by go_light; simp only [digit]; rw [Bool.eq_iff_iff]; simp; try omega), rfl⟩
theorem l01Small_any (c : UInt8) (w : World) :
 Calls Tryz.prog 209 #[.int .u8 c.toNat] w fun e w' => e = .returned (.bool (small c)) ∧ w = w' := by
 go_enter Tryz.func209, Tryz.ntmps209
 go_wp2
 all_goals go_ret
 all_goals exact ⟨rb_ (by go_light; simp only [small]; rw [Bool.eq_iff_iff]; simp; try omega), rfl⟩
theorem l01Digit_any (c : UInt8) (w : World) :
 Calls Tryz.prog 183 #[.int .u8 c.toNat] w fun e w' => e = .returned (.bool (digit c)) ∧ w = w' := by
 go_enter Tryz.func183, Tryz.ntmps183
 go_wp2
 all_goals go_ret
 all_goals exact ⟨rb_ (by go_light; simp only [digit]; rw [Bool.eq_iff_iff]; simp; try omega), rfl⟩
theorem nameC_of {c : UInt8} {k : Nat} {b : Bool} (h : b = (decide (97 ≤ (c.toNat : Int) ∧ (c.toNat : Int) ≤ 122) || (decide (0 < k) && (decide ((c.toNat : Int) = 45) || digit c)))) : nameC k c = b := h.symm
theorem isNameI_any (s : ByteArray) (w : World) (hs : s.size ≤ 9223372036854775807) :
 Calls Tryz.prog 139 #[.string s] w fun e w' => e = .returned (.bool (nameB s)) ∧ w = w' := by
 by_cases h1 : 1 ≤ s.size ∧ s.size ≤ 12
 ·have H1 := hd_ h1
  obtain ⟨h2, h3⟩ := h1
  have z : ((s.size : Int) == 0) = false := by rw [beq_eq_false_iff_ne]; omega
  go_enter Tryz.func139, Tryz.ntmps139
  go_wp2
  go_loop [15] (fun i => ∃ k : Nat, k ≤ s.size ∧ i = i64 k ∧ Hid (∀ j, j < k → nameC j (byteAt s j) = true)) (fun i => s.size - (intOf i).toNat)
  case atStart => exact ⟨0, by omega, rfl, fun j hj => by omega⟩
  case round =>
   obtain ⟨k, hk, rfl, hok⟩ := hrel
   by_cases hlt : k < s.size
   ·have hb := hd_ (byteAt_eq hlt)
    by_cases a1 : 97 ≤ (s[k].toNat : Int)
    ·by_cases a2 : (s[k].toNat : Int) ≤ 122
     ·have hq := hd_ (show nameC k (byteAt s k) = true by rw [← hb.out, nameC_of rfl, decide_eq_true ⟨a1, a2⟩]; rfl)
      go_wp2
      go_round
      case rel => have hx := lt_ext (P := fun j => nameC j (byteAt s j) = true) hok.out hq.out; exact ⟨k + 1, by omega, by go_num, hx⟩
      case measure => (simp [intOf]; try omega)
     ·cases q0 : ((k : Int) == 0)
      ·have k0 : 0 < k := by
        rw [beq_eq_false_iff_ne] at q0
        omega
       cases q1 : ((s[k].toNat : Int) != 45)
       ·have hq := hd_ (show nameC k (byteAt s k) = true by
         rw [← hb.out, nameC_of rfl, decide_eq_true k0, decide_eq_true (show (s[k].toNat : Int) = 45 by simpa using q1)]; simp)
        go_wp2_with (go_at_call 130; refine cs_ (isDigit_any _ _) ?_)
        go_round
        case rel => have hx := lt_ext (P := fun j => nameC j (byteAt s j) = true) hok.out hq.out; exact ⟨k + 1, by omega, by go_num, hx⟩
        case measure => (simp [intOf]; try omega)
       ·cases q2 : digit s[k]
        ·have hf := hd_ (nameB_at hlt (show nameC k (byteAt s k) = false by
          rw [← hb.out, nameC_of rfl, q2, decide_eq_false (show ¬ (s[k].toNat : Int) = 45 by simpa using q1)]; simp; intros; omega))
         go_wp2_with (go_at_call 130; refine cs_ (ra_ (isDigit_any _ _) q2) ?_)
         go_ret
         exact ⟨rb_ hf.out.symm, rfl⟩
        ·have hq := hd_ (show nameC k (byteAt s k) = true by rw [← hb.out, nameC_of rfl, q2, decide_eq_true k0]; simp)
         go_wp2_with (go_at_call 130; refine cs_ (ra_ (isDigit_any _ _) q2) ?_)
         go_round
         case rel => have hx := lt_ext (P := fun j => nameC j (byteAt s j) = true) hok.out hq.out; exact ⟨k + 1, by omega, by go_num, hx⟩
         case measure => (simp [intOf]; try omega)
      ·have k0 : k = 0 := by
        rw [beq_iff_eq] at q0
        omega
       have hf := hd_ (nameB_at hlt (show nameC k (byteAt s k) = false by rw [← hb.out, nameC_of rfl, decide_eq_false (show ¬ 0 < k by omega)]; simp; intros; omega))
       clear k0
       go_wp2_with (go_at_call 130; refine cs_ (isDigit_any _ _) ?_)
       go_ret
       exact ⟨rb_ hf.out.symm, rfl⟩
    ·cases q0 : ((k : Int) == 0)
     ·have k0 : 0 < k := by
       rw [beq_eq_false_iff_ne] at q0
       omega
      cases q1 : ((s[k].toNat : Int) != 45)
      ·have hq := hd_ (show nameC k (byteAt s k) = true by
        rw [← hb.out, nameC_of rfl, decide_eq_true k0, decide_eq_true (show (s[k].toNat : Int) = 45 by simpa using q1)]; simp)
       go_wp2_with (go_at_call 130; refine cs_ (isDigit_any _ _) ?_)
       go_round
       case rel => have hx := lt_ext (P := fun j => nameC j (byteAt s j) = true) hok.out hq.out; exact ⟨k + 1, by omega, by go_num, hx⟩
       case measure => (simp [intOf]; try omega)
      ·cases q2 : digit s[k]
       ·have hf := hd_ (nameB_at hlt (show nameC k (byteAt s k) = false by
         rw [← hb.out, nameC_of rfl, q2, decide_eq_false (show ¬ (s[k].toNat : Int) = 45 by simpa using q1)]; simp; intros; omega))
        go_wp2_with (go_at_call 130; refine cs_ (ra_ (isDigit_any _ _) q2) ?_)
        go_ret
        exact ⟨rb_ hf.out.symm, rfl⟩
       ·have hq := hd_ (show nameC k (byteAt s k) = true by rw [← hb.out, nameC_of rfl, q2, decide_eq_true k0]; simp)
        go_wp2_with (go_at_call 130; refine cs_ (ra_ (isDigit_any _ _) q2) ?_)
        go_round
        case rel => have hx := lt_ext (P := fun j => nameC j (byteAt s j) = true) hok.out hq.out; exact ⟨k + 1, by omega, by go_num, hx⟩
        case measure => (simp [intOf]; try omega)
     ·have k0 : k = 0 := by
       rw [beq_iff_eq] at q0
       omega
      have hf := hd_ (nameB_at hlt (show nameC k (byteAt s k) = false by rw [← hb.out, nameC_of rfl, decide_eq_false (show ¬ 0 < k by omega)]; simp; intros; omega))
      clear k0
      go_wp2_with (go_at_call 130; refine cs_ (isDigit_any _ _) ?_)
      go_ret
      exact ⟨rb_ hf.out.symm, rfl⟩
   ·obtain rfl : k = s.size := by omega
    have hf := hd_ (nameB_true H1.out hok.out)
    go_wp2
    go_ret
    exact ⟨rb_ hf.out.symm, rfl⟩
 ·have hf := hd_ (nameB_len h1)
  by_cases h2 : s.size = 0
  ·have z : ((s.size : Int) == 0) = true := by rw [beq_iff_eq]; omega
   clear h1 h2
   go_enter Tryz.func139, Tryz.ntmps139
   go_wp2
   go_ret
   exact ⟨rb_ hf.out.symm, rfl⟩
  ·have h3 : 12 < s.size := by omega
   have z : ((s.size : Int) == 0) = false := by rw [beq_eq_false_iff_ne]; omega
   clear h1 h2
   go_enter Tryz.func139, Tryz.ntmps139
   go_wp2
   go_ret
   exact ⟨rb_ hf.out.symm, rfl⟩
theorem isEmpty_no (h : 0 < s.size) : s.toList.isEmpty = false := by
 rw [ByteArray.toList_eq]
 have h' : 0 < s.data.toList.length := by simpa using h
 cases hl : s.data.toList with
 | nil => rw [hl] at h'; simp at h'
 | cons _ _ => rfl
theorem isEmpty_yes (h : s.size = 0) : s.toList.isEmpty = true := by
 rw [ByteArray.toList_eq]
 have h' : s.data.toList.length = 0 := by simpa using h
 rw [List.eq_nil_of_length_eq_zero h']
 rfl
end
theorem isNameS_any (s : ByteArray) (w : World) (hs : s.size ≤ 9223372036854775807) :
 Calls Tryz.prog 177 #[.string s] w fun e w' => e = .returned (.bool (nameB s)) ∧ w = w' := by
 by_cases h1 : 1 ≤ s.size ∧ s.size ≤ 12
 ·have H1 := hd_ h1
  obtain ⟨h2, h3⟩ := h1
  have h0 : 0 < s.size := by omega
  have z := isEmpty_no h0
  have hb0 := hd_ (byteAt_eq h0)
  cases q : small s[0]
  ·have hf := hd_ (nameB_at h0 (show nameC 0 (byteAt s 0) = false by rw [← hb0.out, nameC, q]; simp))
   go_enter Tryz.func177, Tryz.ntmps177
   go_wp2_with (go_at_call 209; refine cs_ (ra_ (l01Small_any _ _) q) ?_)
   go_ret
   exact ⟨rb_ hf.out.symm, rfl⟩
  ·have HQ := hd_ q
   go_enter Tryz.func177, Tryz.ntmps177
   go_wp2_with (go_at_call 209; refine cs_ (ra_ (l01Small_any _ _) q) ?_)
   clear q
   go_loop [3] (fun i => ∃ k : Nat, k ≤ s.size ∧ i = i64 k ∧ Hid (∀ j, j < k → nameC j (byteAt s j) = true)) (fun i => s.size - (intOf i).toNat)
   case atStart => exact ⟨0, by omega, rfl, fun j hj => by omega⟩
   case round =>
    obtain ⟨k, hk, rfl, hok⟩ := hrel
    by_cases hlt : k < s.size
    ·have hb := hd_ (byteAt_eq hlt)
     cases q0 : small s[k]
     ·have k0 : 0 < k := by
       rcases Nat.eq_zero_or_pos k with h | h
       ·subst h; rw [HQ.out] at q0; cases q0
       ·exact h
      cases q1 : digit s[k]
      ·cases q2 : ((s[k].toNat : Int) != 45)
       ·have hq := hd_ (show nameC k (byteAt s k) = true by rw [← hb.out, nameC, decide_eq_true k0, decide_eq_true (show (s[k].toNat : Int) = 45 by simpa using q2)]; simp)
        go_wp2_with (first | (go_at_call 209; refine cs_ (ra_ (l01Small_any _ _) q0) ?_) | (go_at_call 183; refine cs_ (ra_ (l01Digit_any _ _) q1) ?_))
        go_round
        case rel => have hx := lt_ext (P := fun j => nameC j (byteAt s j) = true) hok.out hq.out; exact ⟨k + 1, by omega, by go_num, hx⟩
        case measure => (simp [intOf]; try omega)
       ·have hf := hd_ (nameB_at hlt (show nameC k (byteAt s k) = false by rw [← hb.out, nameC, q0, q1, decide_eq_false (show ¬ (s[k].toNat : Int) = 45 by simpa using q2)]; simp))
        go_wp2_with (first | (go_at_call 209; refine cs_ (ra_ (l01Small_any _ _) q0) ?_) | (go_at_call 183; refine cs_ (ra_ (l01Digit_any _ _) q1) ?_))
        go_ret
        exact ⟨rb_ hf.out.symm, rfl⟩
      ·have hq := hd_ (show nameC k (byteAt s k) = true by rw [← hb.out, nameC, q1, decide_eq_true k0]; simp)
       go_wp2_with (first | (go_at_call 209; refine cs_ (ra_ (l01Small_any _ _) q0) ?_) | (go_at_call 183; refine cs_ (ra_ (l01Digit_any _ _) q1) ?_))
       go_round
       case rel => have hx := lt_ext (P := fun j => nameC j (byteAt s j) = true) hok.out hq.out; exact ⟨k + 1, by omega, by go_num, hx⟩
       case measure => (simp [intOf]; try omega)
     ·have hq := hd_ (show nameC k (byteAt s k) = true by rw [← hb.out, nameC, q0]; rfl)
      go_wp2_with (go_at_call 209; refine cs_ (ra_ (l01Small_any _ _) q0) ?_)
      go_round
      case rel => have hx := lt_ext (P := fun j => nameC j (byteAt s j) = true) hok.out hq.out; exact ⟨k + 1, by omega, by go_num, hx⟩
      case measure => (simp [intOf]; try omega)
    ·obtain rfl : k = s.size := by omega
     have hf := hd_ (nameB_true H1.out hok.out)
     go_wp2
     go_ret
     exact ⟨rb_ hf.out.symm, rfl⟩
 ·have hf := hd_ (nameB_len h1)
  by_cases h2 : s.size = 0
  ·have z := isEmpty_yes h2
   clear h1 h2
   go_enter Tryz.func177, Tryz.ntmps177
   go_wp2
   go_ret
   exact ⟨rb_ hf.out.symm, rfl⟩
  ·have h3 : 12 < s.size := by omega
   have z := isEmpty_no (s := s) (by omega)
   clear h1 h2
   go_enter Tryz.func177, Tryz.ntmps177
   go_wp2
   go_ret
   exact ⟨rb_ hf.out.symm, rfl⟩
def btw (n lo hi : Int) : Bool := decide (lo ≤ n ∧ n ≤ hi)
theorem btw_true {n lo hi : Int} (h : btw n lo hi = true) : lo ≤ n ∧ n ≤ hi := by simpa [btw] using h
theorem between_any (n lo hi : Int) (w : World) :
 Calls Tryz.prog 118 #[i64 n, i64 lo, i64 hi] w fun e w' => e = .returned (.bool (btw n lo hi)) ∧ w = w' := by
 go_enter Tryz.func118, Tryz.ntmps118
 go_wp2
 all_goals go_ret
 all_goals exact ⟨rb_ (by simp [btw]; omega), rfl⟩
theorem in_any (n lo hi : Int) (w : World) :
 Calls Tryz.prog 141 #[i64 n, i64 lo, i64 hi] w fun e w' => e = .returned (.bool (btw n lo hi)) ∧ w = w' := by
 go_enter Tryz.func141, Tryz.ntmps141
 go_wp2
 all_goals go_ret
 all_goals exact ⟨rb_ (by simp [btw]; omega), rfl⟩
def vEntry (x : Entry) : Bool := btw x.day 0 100000 && nameB x.what && btw x.value (-1000000) 1000000
theorem vEntry_1 {x : Entry} (h : btw x.day 0 100000 = false) : vEntry x = false := by simp [vEntry, h]
theorem vEntry_2 {x : Entry} (h : nameB x.what = false) : vEntry x = false := by simp [vEntry, h]
theorem vEntry_3 {x : Entry} (h : btw x.value (-1000000) 1000000 = false) : vEntry x = false := by simp [vEntry, h]
theorem vEntry_0 {x : Entry} (h1 : btw x.day 0 100000 = true) (h2 : nameB x.what = true) (h3 : btw x.value (-1000000) 1000000 = true) : vEntry x = true := by simp [vEntry, h1, h2, h3]
theorem vEntry_inv {x : Entry} (h : vEntry x = true) : 0 ≤ x.day ∧ x.day ≤ 100000 ∧ nameB x.what = true ∧ -1000000 ≤ x.value ∧ x.value ≤ 1000000 := by
 simp only [vEntry, Bool.and_eq_true] at h
 have h1 := btw_true h.1.1
 have h2 := btw_true h.2
 exact ⟨h1.1, h1.2, h.1.2, h2.1, h2.2⟩
theorem validEntryI_any (x : Entry) (w : World) (hs : x.what.size ≤ 9223372036854775807) :
 Calls Tryz.prog 172 #[env x] w fun e w' => e = .returned (.bool (vEntry x)) ∧ UpOf w w' := by
 cases h1 : btw x.day 0 100000
 ·have hf := hd_ (vEntry_1 h1)
  go_enter Tryz.func172, Tryz.ntmps172
  go_wp2_with (first | (go_at_call 118; refine cs_ (ra_ (between_any _ _ _ _) h1) ?_) | (go_at_call 139; refine cs_ (isNameI_any _ _ hs) ?_))
  go_ret
  exact ⟨rb_ hf.out.symm, uw_⟩
 cases h2 : nameB x.what
 ·have hf := hd_ (vEntry_2 h2)
  go_enter Tryz.func172, Tryz.ntmps172
  go_wp2_with (first | (go_at_call 118; refine cs_ (between_any _ _ _ _) ?_) | (go_at_call 139; refine cs_ (ra_ (isNameI_any _ _ hs) h2) ?_))
  go_ret
  exact ⟨rb_ hf.out.symm, uw_⟩
 cases h3 : btw x.value (-1000000) 1000000
 ·have hf := hd_ (vEntry_3 h3)
  go_enter Tryz.func172, Tryz.ntmps172
  go_wp2_with (first | (go_at_call 118; refine cs_ (between_any _ _ _ _) ?_) | (go_at_call 139; refine cs_ (ra_ (isNameI_any _ _ hs) h2) ?_))
  go_ret
  exact ⟨rb_ hf.out.symm, uw_⟩
 ·have hf := hd_ (vEntry_0 h1 h2 h3)
  go_enter Tryz.func172, Tryz.ntmps172
  go_wp2_with (first | (go_at_call 118; refine cs_ (between_any _ _ _ _) ?_) | (go_at_call 139; refine cs_ (ra_ (isNameI_any _ _ hs) h2) ?_))
  go_ret
  exact ⟨rb_ hf.out.symm, uw_⟩
def EAt (w : World) (b o : Nat) (x : Entry) : Prop := b < w.heap.size ∧ w.cell? ⟨b, o, none⟩ = some (i64 x.day) ∧ w.cell? ⟨b, o + 1, none⟩ = some (.string x.what) ∧ w.cell? ⟨b, o + 2, none⟩ = some (i64 x.value)
theorem EAt.below {w w' : World} {b o : Nat} {x : Entry} (a : EAt w b o x) (hb : Below w.heap.size w w') : EAt w' b o x :=
 ⟨Nat.lt_of_lt_of_le a.1 hb.size, (hb.cell (p := ⟨b, o, none⟩) a.1).trans a.2.1, (hb.cell (p := ⟨b, o + 1, none⟩) a.1).trans a.2.2.1, (hb.cell (p := ⟨b, o + 2, none⟩) a.1).trans a.2.2.2⟩
theorem EAt.new {w : World} {x : Entry} {T : TypeId} : EAt (w.alloc (.cells #[i64 x.day, .string x.what, i64 x.value] T)) w.heap.size 0 x :=
 ⟨by simp, World.cell?_alloc_new _ _ _ _, World.cell?_alloc_new _ _ _ _, World.cell?_alloc_new _ _ _ _⟩
theorem l27Day_any (n : Int) (w : World) :
 Calls Tryz.prog 218 #[i64 n] w fun e w' => e = .returned (.bool (btw n 0 100000)) ∧ w = w' := by
 go_enter Tryz.func218, Tryz.ntmps218
 go_wp2_with (first | (go_at_call 141; refine cs_ (in_any _ _ _ _) ?_))
 go_ret
 exact ⟨rfl, rfl⟩
theorem l27Ok_any (x : Entry) (b o : Nat) (w : World) (h : EAt w b o x) (hs : x.what.size ≤ 9223372036854775807) :
 Calls Tryz.prog 189 #[.pointer (some ⟨b, o, none⟩)] w fun e w' => e = .returned (.bool (vEntry x)) ∧ UpOf w w' := by
 obtain ⟨hb, c0, c1, c2⟩ := h
 cases h1 : btw x.day 0 100000
 ·have hf := hd_ (vEntry_1 h1)
  go_enter Tryz.func189, Tryz.ntmps189
  go_wp2_with (first | (go_at_call 218; refine cs_ (ra_ (l27Day_any _ _) h1) ?_) | (go_at_call 141; refine cs_ (in_any _ _ _ _) ?_) | (go_at_call 177; refine cs_ (isNameS_any _ _ hs) ?_))
  go_ret
  exact ⟨rb_ hf.out.symm, uw_⟩
 cases h2 : nameB x.what
 ·have hf := hd_ (vEntry_2 h2)
  go_enter Tryz.func189, Tryz.ntmps189
  go_wp2_with (first | (go_at_call 218; refine cs_ (ra_ (l27Day_any _ _) h1) ?_) | (go_at_call 141; refine cs_ (in_any _ _ _ _) ?_) | (go_at_call 177; refine cs_ (ra_ (isNameS_any _ _ hs) h2) ?_))
  go_ret
  exact ⟨rb_ hf.out.symm, uw_⟩
 cases h3 : btw x.value (-1000000) 1000000
 ·have hf := hd_ (vEntry_3 h3)
  go_enter Tryz.func189, Tryz.ntmps189
  go_wp2_with (first | (go_at_call 218; refine cs_ (ra_ (l27Day_any _ _) h1) ?_) | (go_at_call 141; refine cs_ (ra_ (in_any _ _ _ _) h3) ?_) | (go_at_call 177; refine cs_ (ra_ (isNameS_any _ _ hs) h2) ?_))
  go_ret
  exact ⟨rb_ hf.out.symm, uw_⟩
 ·have hf := hd_ (vEntry_0 h1 h2 h3)
  go_enter Tryz.func189, Tryz.ntmps189
  go_wp2_with (first | (go_at_call 218; refine cs_ (ra_ (l27Day_any _ _) h1) ?_) | (go_at_call 141; refine cs_ (ra_ (in_any _ _ _ _) h3) ?_) | (go_at_call 177; refine cs_ (ra_ (isNameS_any _ _ hs) h2) ?_))
  go_ret
  exact ⟨rb_ hf.out.symm, uw_⟩
def mtGo : Nat → Int → ByteArray → ByteArray
 | 0, _, s => s
 | f + 1, n, s => if 0 < n then mtGo f (n / 10) (⟨#[UInt8.ofNat (48 + n % 10).toNat]⟩ ++ s) else s
def mt (k : Int) : ByteArray := if k ≤ 0 then ⟨#[109, 48]⟩ else ⟨#[109]⟩ ++ mtGo 9 k ⟨#[]⟩
def pow10 : Nat → Int
 | 0 => 1
 | f + 1 => 10 * pow10 f
theorem mtGo_end {f : Nat} {n : Int} {s : ByteArray} (h : ¬ 0 < n) : mtGo f n s = s := by
 cases f with
 | zero => rfl
 | succ f => rw [mtGo, if_neg h]
theorem markText_any (k : Int) (w : World) (h0 : 1 ≤ k) (h1 : k < 1000000000) :
 Calls Tryz.prog 60 #[.int .i64 k] w fun e w' => e = .returned (.string (mt k)) ∧ UpOf w w' := by
 have hmt : Hid (mt k = ⟨#[109]⟩ ++ mtGo 9 k ⟨#[]⟩) := by unfold mt; rw [if_neg (by omega)]; rfl
 have hkc := fun (g : Up w) (x : Int) => conv_one (P := Tryz.prog) (up w g) 22 5 9 Tryz.underlying22 Tryz.underlying5 Tryz.underlying9 x
 simp only [alloc_up] at hkc
 go_enter Tryz.func60, Tryz.ntmps60
 go_wp2_with fail
 go_loopw [0, 3] (fun kk out wr => ∃ (f : Nat) (n : Int) (s : ByteArray), f ≤ 9 ∧ 0 ≤ n ∧ n < 1000000000 ∧ Hid (n < pow10 f) ∧ s.size + f ≤ 9 ∧ kk = .int .i64 n ∧ out = .string s ∧ Hid (mt k = ⟨#[109]⟩ ++ mtGo f n s) ∧ ∃ g : Up w, wr = up w g) (fun kk _ _ => (intOf kk).toNat)
 case atStart => exact ⟨9, k, ⟨#[]⟩, by omega, by omega, by omega, by show k < pow10 9; simp [pow10]; omega, by decide, rfl, rfl, hmt, ⟨w, Below.refl _ _⟩, rfl⟩
 case round =>
  obtain ⟨f, n, s, hf, hn0, hn1, hp, hs, rfl, rfl, he, g, rfl⟩ := hrel
  by_cases hn : 0 < n
  ·go_wp2_with fail
   all_goals go_roundw
   case rel =>
    go_light
    obtain ⟨f, rfl⟩ : ∃ f', f = f' + 1 := by
     cases f with
     | zero => have := hp.out; simp [pow10] at this; omega
     | succ f => exact ⟨f, rfl⟩
    refine ⟨f, n / 10, _, by omega, by omega, by omega, ?_, ?_, rfl, rfl, ?_, _, rfl⟩
    ·have := hp.out
     simp only [pow10] at this
     show n / 10 < pow10 f
     omega
    ·simp only [ByteArray.size_append', ByteArray.size_mk']
     simp
     omega
    ·have := he.out
     rw [mtGo, if_pos hn] at this
     exact this
   case measure => simp [intOf]; omega
  ·go_wp2_with fail
   go_ret
   refine ⟨?_, uw_⟩
   rw [he.out, mtGo_end (by omega)]
   rfl
structure Drill where
 name : ByteArray
 letters : ByteArray
 minutes : Int
def Drill.cells (h : Drill) : List Value := [.string h.name, .string h.letters, i64 h.minutes]
abbrev drv (h : Drill) : Value := .agg #[.string h.name, .string h.letters, i64 h.minutes]
def drcs (l : List Drill) : List Value := l.flatMap Drill.cells
theorem dr_clen (h : Drill) : h.cells.length = 3 := rfl
theorem dr_one (l : List Drill) : ∀ u ∈ drcs l, u.oneCell' = true := by
 intro u hu
 simp only [drcs, List.mem_flatMap, Drill.cells, List.mem_cons, List.not_mem_nil, or_false] at hu
 obtain ⟨a, _, rfl | rfl | rfl⟩ := hu <;> rfl
theorem dr_at {w : World} {A : Option Addr} {l : List Drill} (h : Rds w 3 A l.length (drcs l)) {k : Nat} (hk : k < l.length) :
 ∃ b off, A = some ⟨b, off, none⟩ ∧ b < w.heap.size ∧ w.cell? ⟨b, off + k * 3, none⟩ = some (.string l[k].name) ∧ w.cell? ⟨b, off + k * 3 + 1, none⟩ = some (.string l[k].letters) ∧ w.cell? ⟨b, off + k * 3 + 2, none⟩ = some (i64 l[k].minutes) := by
 obtain ⟨b, off, e, hb, hc⟩ := rds_elem dr_clen h hk (by omega)
 exact ⟨b, off, e, hb, hc 0 _ rfl, hc 1 _ rfl, hc 2 _ rfl⟩
theorem dr_set {l : List Drill} {ys : List Value} {k i j n : Nat} (hys : ∀ i (hi : i < l.length) j, j < 3 → i < k → ys[i * 3 + j]? = (l[i].cells)[j]?) (hlen : ys.length = n * 3) (hi : i < l.length) (hj : j < 3) (hik : i < k + 1) (hk : k < n)
 {h : Drill} (he : ∀ (hk : k < l.length), l[k] = h := by intro; rfl) :
 (((ys.set (k * 3) (.string h.name)).set (k * 3 + 1) (.string h.letters)).set (k * 3 + 2) (i64 h.minutes))[i * 3 + j]? = (l[i].cells)[j]? := by
 by_cases hik' : i = k
 ·subst hik'
  rw [he hi]
  match j, hj with
  | 0, _ => rw [List.getElem?_set_ne (by omega), List.getElem?_set_ne (by omega), Nat.add_zero, List.getElem?_set_self (by first | omega | (simp only [List.length_set]; omega))]; rfl
  | 1, _ => rw [List.getElem?_set_ne (by omega), List.getElem?_set_self (by first | omega | (simp only [List.length_set]; omega))]; rfl
  | 2, _ => rw [List.getElem?_set_self (by first | omega | (simp only [List.length_set]; omega))]; rfl
 ·rw [List.getElem?_set_ne (by omega), List.getElem?_set_ne (by omega), List.getElem?_set_ne (by omega)]
  exact hys i hi j hj (by omega)
def drTot1 (h : Drill) : Nat := h.name.size + h.letters.size
theorem szDrill_any (h : Drill) (k : Int) (w : World) (hk : 0 ≤ k) (hk1 : k ≤ 1048576) (hname : h.name.size ≤ 9223372036854775807) (hletters : h.letters.size ≤ 9223372036854775807) :
 Calls Tryz.prog 114 #[drv h, i64 k] w fun e w' => e = .returned (i64 (szR k (drTot1 h))) ∧ UpOf w w' := by
 have hs : (drTot1 h : Int) = h.name.size + h.letters.size := by simp [drTot1]
 by_cases q : k < h.name.size
 ·go_enter Tryz.func114, Tryz.ntmps114
  go_wp2_with fail
  go_ret
  exact ⟨ret_int (by rw [szR_no (by omega)]), uw_⟩
 ·by_cases q2 : k - h.name.size < h.letters.size
  ·go_enter Tryz.func114, Tryz.ntmps114
   go_wp2_with fail
   go_ret
   exact ⟨ret_int (by rw [szR_no (by omega)]), uw_⟩
  ·go_enter Tryz.func114, Tryz.ntmps114
   go_wp2_with fail
   go_ret
   exact ⟨ret_int (by rw [szR_ok (by omega)]; omega), uw_⟩
def drTotN (l : List Drill) : Nat → Nat
 | 0 => 0
 | k + 1 => drTotN l k + (match l[k]? with | some h => drTot1 h | none => 0)
theorem drTotN_at {l : List Drill} {k : Nat} (hk : k < l.length) : drTotN l (k + 1) = drTotN l k + drTot1 l[k] := by rw [drTotN, List.getElem?_eq_getElem hk]
theorem drTotN_mono (l : List Drill) (i j : Nat) : drTotN l i ≤ drTotN l (i + j) := by
 induction j with
 | zero => exact Nat.le_refl _
 | succ j ih => exact Nat.le_trans ih (by rw [← Nat.add_assoc, drTotN]; omega)
def drTot (l : List Drill) : Nat := l.length + drTotN l l.length
theorem drTot_len (l : List Drill) : l.length ≤ drTot l := by simp [drTot]
theorem szDrillS_any (A : Option Addr) (c : Nat) (l : List Drill) (k : Int) (w : World) (h : Rds w 3 A l.length (drcs l)) (hk : 0 ≤ k) (hk1 : k ≤ 1048576) (hn : l.length ≤ 9223372036854775807) (hs : ∀ h ∈ l, h.name.size ≤ 9223372036854775807 ∧ h.letters.size ≤ 9223372036854775807) :
 Calls Tryz.prog 50 #[.slice A l.length c, i64 k] w fun e w' => e = .returned (i64 (szR k (drTot l))) ∧ UpOf w w' := by
 have HS := hd_ hs
 have ht : Hid ((drTot l : Int) = l.length + drTotN l l.length) := by show (drTot l : Int) = _; simp [drTot]
 clear hs
 by_cases q : k < l.length
 ·go_enter Tryz.func50, Tryz.ntmps50
  go_wp2_with fail
  go_ret
  exact ⟨ret_int (by rw [szR_no (by have := ht.out; omega)]), uw_⟩
 ·go_enter Tryz.func50, Tryz.ntmps50
  go_wp2_with fail
  go_loopw [1, 5] (fun lf i wr => ∃ j : Nat, j ≤ l.length ∧ i = i64 j ∧ lf = i64 (k - l.length - drTotN l j) ∧ (l.length : Int) + drTotN l j ≤ k ∧ ∃ g : Up w, wr = up w g) (fun _ i _ => l.length - (intOf i).toNat)
  case atStart => exact ⟨0, by omega, rfl, by simp [drTotN], by simp [drTotN]; omega, ex_up bw_⟩
  case round =>
   obtain ⟨j, hj, rfl, rfl, hle, g, rfl⟩ := hrel
   by_cases hlt : j < l.length
   ·obtain ⟨b, off, rfl, hb, c0, c1, c2⟩ := dr_at h hlt
    have hN := hd_ (drTotN_at hlt)
    have hm := hd_ (drTotN_mono l (j + 1) (l.length - (j + 1)))
    by_cases q2 : k - l.length - drTotN l j < drTot1 l[j]
    ·have hs2 : szR (k - (l.length : Int) - drTotN l j) (drTot1 l[j]) = -1 := szR_no q2
     go_wp2_with (first | (go_at_call 114; refine cu_ (szDrill_any _ _ _ (by omega) (by omega) (HS.out _ (List.getElem_mem hlt)).1 (HS.out _ (List.getElem_mem hlt)).2) fun g => ?_))
     go_ret
     refine ⟨ret_int ?_, uw_⟩
     have h1 := hN.out
     have h2 := hm.out
     have h3 := ht.out
     rw [show j + 1 + (l.length - (j + 1)) = l.length by omega] at h2
     rw [szR_no (by omega)]
    ·have hs2 : szR (k - (l.length : Int) - drTotN l j) (drTot1 l[j]) = k - (l.length : Int) - drTotN l j - drTot1 l[j] := szR_ok q2
     go_wp2_with (first | (go_at_call 114; refine cu_ (szDrill_any _ _ _ (by omega) (by omega) (HS.out _ (List.getElem_mem hlt)).1 (HS.out _ (List.getElem_mem hlt)).2) fun g => ?_))
     go_roundw
     case rel =>
      have h1 := hN.out
      exact ⟨j + 1, by omega, by go_num, by rw [h1]; go_num, by omega, ex_up bw_⟩
     case measure => (simp [intOf]; try omega)
   ·obtain rfl : j = l.length := by omega
    go_wp2_with fail
    go_ret
    refine ⟨ret_int ?_, uw_⟩
    have h3 := ht.out
    rw [szR_ok (by omega)]
    omega
theorem toDrill_any (h : Drill) (w : World) :
 Calls Tryz.prog 116 #[drv h] w fun e w' => e = .returned (drv h) ∧ UpOf w w' := by
 go_enter Tryz.func116, Tryz.ntmps116
 go_wp2_with fail
 exact bodyPost_ret (v := drv h) (by simp [results, Tryz.results116, go_sem]) rfl ⟨rfl, uw_⟩
theorem eqDrill_any (h : Drill) (w : World) :
 Calls Tryz.prog 117 #[drv h, drv h] w fun e w' => e = .returned (.bool true) ∧ UpOf w w' := by
 go_enter Tryz.func117, Tryz.ntmps117
 go_wp2_with fail
 go_ret
 exact ⟨rfl, uw_⟩
theorem eqDrillS_any (A A' : Option Addr) (c c' : Nat) (l : List Drill) (w : World) (h : Rds w 3 A l.length (drcs l)) (h' : Rds w 3 A' l.length (drcs l)) (hn : l.length ≤ 100000000) :
 Calls Tryz.prog 57 #[.slice A l.length c, .slice A' l.length c'] w fun e w' => e = .returned (.bool true) ∧ UpOf w w' := by
 go_enter Tryz.func57, Tryz.ntmps57
 go_wp2_with ((with_reducible refine wru ?_); refine wrz fun _ => ?_)
 go_loopw [5] (fun i wr => ∃ k : Nat, k ≤ l.length ∧ i = .int .i64 k ∧ ∃ g : Up w, wr = up w g) (fun i _ => l.length - (intOf i).toNat)
 case atStart => exact ⟨0, by omega, rfl, ⟨w, Below.refl _ _⟩, rfl⟩
 case round =>
  obtain ⟨k, hk, rfl, g, rfl⟩ := hrel
  by_cases hlt : k < l.length
  ·obtain ⟨b, off, rfl, hb, c0, c1, c2⟩ := dr_at h hlt
   obtain ⟨b', off', rfl, hb', d0, d1, d2⟩ := dr_at h' hlt
   clear h h'
   go_wp2_with (first | ((with_reducible refine wru ?_); (repeat (go_big_quiet_step (first | (go_at_call 117; exact uq_ (eqDrill_any _ _))))); refine wqn fun nq => ?_))
   go_roundw
   case rel => exact ⟨k + 1, by omega, by go_num, _, rfl⟩
   case measure => simp [intOf]; omega
  ·go_wp2_with ((with_reducible refine wru ?_); refine wrz fun _ => ?_)
   go_ret
   exact ⟨rfl, uw_⟩
theorem toDrillS_any (A : Option Addr) (c : Nat) (l : List Drill) (w : World) (h : Rds w 3 A l.length (drcs l)) (hn : l.length ≤ 100000000) :
 Calls Tryz.prog 54 #[.slice A l.length c] w fun e w' => ∃ b : Nat, e = .returned (.slice (some ⟨b, 0, none⟩) l.length l.length) ∧ w'.ownsRow w.heap.size 112 3 (.slice (some ⟨b, 0, none⟩) l.length l.length) l.length (drcs l) ∧ UpOf w w' := by
 have hi : (Tryz.prog.info? 112).map (fun i => (i.zero, i.size, i.bytes)) = some (some (.agg #[.string ByteArray.empty, .string ByteArray.empty, i64 0]), 3, 40) := by kernel_rfl
 obtain ⟨i0, hi, hz0, hz1, hz2⟩ := info_parts hi
 have hmk : ∀ u : World, (Instr.makeSlice 29 (i64 l.length) (i64 l.length)).run Tryz.prog u = .ok (.slice (some ⟨u.heap.size, 0, none⟩) l.length l.length) (u.alloc (.cells (madeCells #[.string ByteArray.empty, .string ByteArray.empty, i64 0] (l.length * 3)) 112)) := fun u => by
  have h := run_make (P := Tryz.prog) u 29 112 i0 _ Tryz.underlying29 hi hz0 .i64 .i64 l.length l.length (by omega) (Int.le_refl _) (by rw [hz2]; omega) (by omega)
  simpa [hz1, Value.cells] using h
 clear hi hz0 hz1 hz2
 go_enter Tryz.func54, Tryz.ntmps54
 go_wp2_with fail
 go_loopw [4] (fun i wr => ∃ k : Nat, k ≤ l.length ∧ i = i64 k ∧ ∃ ys, wr.ownsRow w.heap.size 112 3 (.slice (some ⟨w.heap.size, 0, none⟩) l.length l.length) l.length ys ∧
  (∀ i (hi : i < l.length) j, j < 3 → i < k → ys[i * 3 + j]? = (l[i].cells)[j]?) ∧ Below w.heap.size w wr) (fun i _ => l.length - (intOf i).toNat)
 case atStart =>
  refine ⟨0, by omega, rfl, _, World.ownsRow_lit w _ l.length (Nat.le_refl _) (by unfold maxLen; omega) (size_madeCells _ _), fun i hi j hj h0 => by omega, (Below.refl _ _).alloc (Nat.le_refl _) _⟩
 case round =>
  obtain ⟨k, hk, rfl, ys, hown, hys, hbel⟩ := hrel
  by_cases hlt : k < l.length
  ·obtain ⟨b, off, rfl, hb, c0, c1, c2⟩ := dr_at (h.below hbel) hlt
   have hwl := (own_block hown rfl).2.1
   have hlen := hown.1
   have d0 := hown.cellAt (k * 3) (by omega)
   have d1 := hown.cellAt (k * 3 + 1) (by omega)
   have d2 := hown.cellAt (k * 3 + 2) (by omega)
   rw [List.getElem?_eq_getElem (by omega)] at d0 d1 d2
   have f0 := fun i => hown.frozenAt i
   have HY := hd_ hys
   clear hys h
   go_wp2_with (first | (go_at_call 116; refine cu_ (toDrill_any _ _) fun g => ?_))
   go_roundw
   case rel =>
    go_light
    have s1 := (own_up hown g).stored (k * 3) (.string l[k].name)
    have s2 := s1.1.stored (k * 3 + 1) (.string l[k].letters)
    have s3 := s2.1.stored (k * 3 + 2) (i64 l[k].minutes)
    refine ⟨k + 1, by omega, by go_num, _, s3.1, fun i hi j hj hik => dr_set HY.out hlen hi hj hik hlt, ?_⟩
    exact ((((hbel.trans (g.below.mono hbel.size)).setCell (Nat.le_refl _) _).setCell (Nat.le_refl _) _).setCell (Nat.le_refl _) _)
   case measure => simp [intOf]; omega
  ·go_wp2_with fail
   go_ret
   obtain rfl : k = l.length := by omega
   have hy : ys = drcs l := flat_ext dr_clen l hown.1 (fun i hi j hj => hys i hi j hj hi)
   rw [hy] at hown
   exact ⟨_, rfl, hown, UpOf.of hbel⟩
def drM (k n : Nat) : List Drill := (List.range n).map fun (i : Nat) => ⟨mt ((k : Int) + 3 * i), mt ((k : Int) + 3 * i + 1), (k : Int) + 3 * i + 1 + 1⟩
theorem drM_len (k n : Nat) : (drM k n).length = n := by simp [drM]
theorem drM_get {k n i : Nat} (h : i < (drM k n).length) : (drM k n)[i] = ⟨mt ((k : Int) + 3 * i), mt ((k : Int) + 3 * i + 1), (k : Int) + 3 * i + 1 + 1⟩ := by simp [drM]
theorem heldDrillS_any (A : Option Addr) (n c k0 : Nat) (w : World) (h : Rds w 3 A n (drcs (drM k0 n))) (hk0 : 1 ≤ k0) (hn : k0 + 3 * n < 1000000000) :
 Calls Tryz.prog 62 #[.slice A n c, i64 k0] w fun e w' => e = .returned (i64 ((k0 + 3 * n : Nat) : Int)) ∧ UpOf w w' := by
 go_enter Tryz.func62, Tryz.ntmps62
 go_wp2_with ((with_reducible refine wru ?_); refine wrz fun _ => ?_)
 go_loopw [1, 5] (fun kk i wr => ∃ k : Nat, k ≤ n ∧ i = i64 k ∧ kk = i64 ((k0 : Int) + 3 * k) ∧ ∃ g : Up w, wr = up w g) (fun _ i _ => n - (intOf i).toNat)
 case atStart => exact ⟨0, by omega, rfl, by go_num, ⟨w, Below.refl _ _⟩, rfl⟩
 case round =>
  obtain ⟨k, hk, rfl, rfl, g, rfl⟩ := hrel
  by_cases hlt : k < n
  ·obtain ⟨b, off, rfl, hb, c0, c1, c2⟩ := dr_at (l := drM k0 n) (by rw [drM_len]; exact h) (k := k) (by rw [drM_len]; exact hlt)
   rw [drM_get] at c0 c1 c2
   simp only at c0 c1 c2
   clear h
   go_wp2_with (first | ((with_reducible refine wru ?_); (repeat (go_big_quiet_step (first | (go_at_call 60; exact uq_ (markText_any _ _ (by omega) (by omega)))))); refine wqn fun nq => ?_))
   go_roundw
   case rel => exact ⟨k + 1, by omega, by go_num, by go_num, _, rfl⟩
   case measure => simp [intOf]; omega
  ·go_wp2_with ((with_reducible refine wru ?_); refine wrz fun _ => ?_)
   go_ret
   obtain rfl : k = n := by omega
   exact ⟨ret_int (by omega), uw_⟩
theorem markDrillS_any (base : Nat) (A : Option Addr) (n c k0 : Nat) (xs : List Value) (w : World) (h : w.ownsRow base 112 3 (.slice A n c) n xs) (hk0 : 1 ≤ k0) (hn : k0 + 3 * n < 1000000000) :
 Calls Tryz.prog 59 #[.slice A n c, i64 k0] w fun e w' => e = .returned (i64 ((k0 + 3 * n : Nat) : Int)) ∧ w'.ownsRow base 112 3 (.slice A n c) n (drcs (drM k0 n)) ∧ w.grownBy w' (Value.slice A n c).ownBlock := by
 go_enter Tryz.func59, Tryz.ntmps59
 go_wp2_with fail
 go_loopw [1, 5] (fun kk i wr => ∃ k : Nat, k ≤ n ∧ i = i64 k ∧ kk = i64 ((k0 : Int) + 3 * k) ∧ ∃ ys, wr.ownsRow base 112 3 (.slice A n c) n ys ∧
  (∀ i (hi : i < (drM k0 n).length) j, j < 3 → i < k → ys[i * 3 + j]? = ((drM k0 n)[i].cells)[j]?) ∧ w.grownBy wr (Value.slice A n c).ownBlock) (fun _ i _ => n - (intOf i).toNat)
 case atStart => exact ⟨0, by omega, rfl, by go_num, xs, h, fun i hi j hj h0 => by omega, grown_refl _ _⟩
 case round =>
  obtain ⟨k, hk, rfl, rfl, ys, hown, hys, hgr⟩ := hrel
  by_cases hlt : k < n
  ·obtain ⟨b, off, rfl, hb, hc⟩ := (Rds.of_own hown).at (by omega)
   obtain ⟨hb0, hb1, rfl⟩ := own_block hown rfl
   have hlen := hown.1
   have d0 := hown.cellAt (k * 3) (by omega)
   have d1 := hown.cellAt (k * 3 + 1) (by omega)
   have d2 := hown.cellAt (k * 3 + 2) (by omega)
   rw [List.getElem?_eq_getElem (by omega)] at d0 d1 d2
   have f0 := fun i => hown.frozenAt i
   have HY := hd_ hys
   clear hc h hys
   go_wp2_with fail
   refine cu_ (markText_any _ _ (by omega) (by omega)) fun q1 => ?_
   go_wp2_with fail
   refine cu_ (markText_any _ _ (by omega) (by omega)) fun q2 => ?_
   go_wp2_with fail
   go_roundw
   case rel =>
    go_light
    have s1 := (own_up hown q1).stored (k * 3) (.string (mt ((k0 : Int) + 3 * k)))
    have s2 := (own_up s1.1 q2).stored (k * 3 + 1) (.string (mt ((k0 : Int) + 3 * k + 1)))
    have s3 := s2.1.stored (k * 3 + 2) (i64 ((k0 : Int) + 3 * k + 1 + 1))
    refine ⟨k + 1, by omega, by go_num, by go_num, _, ?_, fun i hi j hj hik => dr_set HY.out hlen hi hj hik hlt (h := ⟨mt ((k0 : Int) + 3 * k), mt ((k0 : Int) + 3 * k + 1), (k0 : Int) + 3 * k + 1 + 1⟩) (fun hk => drM_get hk), ?_⟩
    ·exact s3.1
    ·exact (grown_trans (grown_trans (grown_trans (grown_trans (grown_trans hgr (grown_up q1 _)) s1.2) (grown_up q2 _)) s2.2) s3.2)
   case measure => simp [intOf]; omega
  ·go_wp2_with fail
   go_ret
   obtain rfl : k = n := by omega
   have hy : ys = drcs (drM k0 k) := flat_ext dr_clen _ (by rw [drM_len]; exact hown.1) (fun i hi j hj => hys i hi j hj (by rw [drM_len] at hi; exact hi))
   rw [hy] at hown
   exact ⟨ret_int (by omega), hown, hgr⟩
def ics (l : List Int) : List Value := l.map i64
theorem ics_len (l : List Int) : (ics l).length = l.length := by simp [ics]
theorem ics_get {l : List Int} {k : Nat} (h : k < l.length) : (ics l)[k]? = some (i64 l[k]) := by simp [ics, h]
theorem int_at {w : World} {A : Option Addr} {l : List Int} {n : Nat} (h : Rds w 1 A n (ics l)) (hn : n = l.length) {k : Nat} (hk : k < l.length) :
 ∃ b off, A = some ⟨b, off, none⟩ ∧ b < w.heap.size ∧ w.cell? ⟨b, off + k, none⟩ = some (i64 l[k]) := by
 obtain ⟨b, off, e, hb, hc⟩ := h.at (by omega)
 exact ⟨b, off, e, hb, hc k _ (ics_get hk)⟩
theorem ics_ext {ys : List Value} {l : List Int} (hl : ys.length = l.length) (h : ∀ i (hi : i < l.length), ys[i]? = some (i64 l[i])) : ys = ics l := by
 refine List.ext_getElem? fun i => ?_
 by_cases hi : i < l.length
 ·rw [h i hi, ics_get hi]
 ·rw [List.getElem?_eq_none (by omega), List.getElem?_eq_none (by rw [ics_len]; omega)]
theorem eqInt64S_any (A A' : Option Addr) (c c' : Nat) (l : List Int) (w : World) (h : Rds w 1 A l.length (ics l)) (h' : Rds w 1 A' l.length (ics l)) (hn : l.length ≤ 100000000) :
 Calls Tryz.prog 56 #[.slice A l.length c, .slice A' l.length c'] w fun e w' => e = .returned (.bool true) ∧ UpOf w w' := by
 go_enter Tryz.func56, Tryz.ntmps56
 go_wp2_with ((with_reducible refine wru ?_); refine wrz fun _ => ?_)
 go_loopw [5] (fun i wr => ∃ k : Nat, k ≤ l.length ∧ i = i64 k ∧ ∃ g : Up w, wr = up w g) (fun i _ => l.length - (intOf i).toNat)
 case atStart => exact ⟨0, by omega, rfl, ex_up bw_⟩
 case round =>
  obtain ⟨k, hk, rfl, g, rfl⟩ := hrel
  by_cases hlt : k < l.length
  ·obtain ⟨b, off, rfl, hb, c0⟩ := int_at h rfl hlt
   obtain ⟨b', off', rfl, hb', d0⟩ := int_at h' rfl hlt
   clear h h'
   go_wp2_with ((with_reducible refine wru ?_); refine wrz fun _ => ?_)
   go_roundw
   case rel => exact ⟨k + 1, by omega, by go_num, ex_up bw_⟩
   case measure => (simp [intOf]; try omega)
  ·go_wp2_with ((with_reducible refine wru ?_); refine wrz fun _ => ?_)
   go_ret
   exact ⟨rfl, uw_⟩
def mi (k n : Nat) : List Int := (List.range n).map fun (i : Nat) => (k : Int) + i
theorem mi_len (k n : Nat) : (mi k n).length = n := by simp [mi]
theorem mi_get {k n i : Nat} (h : i < (mi k n).length) : (mi k n)[i] = (k : Int) + i := by simp [mi]
theorem heldInt64S_any (A : Option Addr) (n c k0 : Nat) (w : World) (h : Rds w 1 A n (ics (mi k0 n))) (hk0 : 1 ≤ k0) (hn : k0 + n < 1000000000) :
 Calls Tryz.prog 61 #[.slice A n c, i64 k0] w fun e w' => e = .returned (i64 ((k0 + n : Nat) : Int)) ∧ UpOf w w' := by
 go_enter Tryz.func61, Tryz.ntmps61
 go_wp2_with fail
 go_loopw [1, 5] (fun kk i wr => ∃ k : Nat, k ≤ n ∧ i = i64 k ∧ kk = i64 ((k0 : Int) + k) ∧ ∃ g : Up w, wr = up w g) (fun _ i _ => n - (intOf i).toNat)
 case atStart => exact ⟨0, by omega, rfl, by go_num, ex_up bw_⟩
 case round =>
  obtain ⟨k, hk, rfl, rfl, g, rfl⟩ := hrel
  by_cases hlt : k < n
  ·obtain ⟨b, off, rfl, hb, c0⟩ := int_at h (by rw [mi_len]) (k := k) (by rw [mi_len]; exact hlt)
   rw [mi_get] at c0
   clear h
   go_wp2_with fail
   go_roundw
   case rel => exact ⟨k + 1, by omega, by go_num, by go_num, ex_up bw_⟩
   case measure => (simp [intOf]; try omega)
  ·go_wp2_with fail
   go_ret
   obtain rfl : k = n := by omega
   exact ⟨ret_int (by omega), uw_⟩
theorem set1_get {l : List Int} {ys : List Value} {k i n : Nat} (hys : ∀ i (hi : i < l.length), i < k → ys[i]? = some (i64 l[i])) (hlen : ys.length = n) (hi : i < l.length) (hik : i < k + 1) (hk : k < n) {x : Int}
 (he : ∀ (hk : k < l.length), l[k] = x) : (ys.set k (i64 x))[i]? = some (i64 l[i]) := by
 by_cases hik' : i = k
 ·subst hik'
  rw [he hi, List.getElem?_set_self (by omega)]
 ·rw [List.getElem?_set_ne (by omega)]
  exact hys i hi (by omega)
theorem markInt64S_any (base : Nat) (A : Option Addr) (n c k0 : Nat) (xs : List Value) (w : World) (h : w.ownsRow base 2 1 (.slice A n c) n xs) (hk0 : 1 ≤ k0) (hn : k0 + n < 1000000000) :
 Calls Tryz.prog 58 #[.slice A n c, i64 k0] w fun e w' => e = .returned (i64 ((k0 + n : Nat) : Int)) ∧ w'.ownsRow base 2 1 (.slice A n c) n (ics (mi k0 n)) ∧ w.grownBy w' (Value.slice A n c).ownBlock := by
 go_enter Tryz.func58, Tryz.ntmps58
 go_wp2_with fail
 go_loopw [1, 5] (fun kk i wr => ∃ k : Nat, k ≤ n ∧ i = i64 k ∧ kk = i64 ((k0 : Int) + k) ∧ ∃ ys, wr.ownsRow base 2 1 (.slice A n c) n ys ∧
  (∀ i (hi : i < (mi k0 n).length), i < k → ys[i]? = some (i64 (mi k0 n)[i])) ∧ w.grownBy wr (Value.slice A n c).ownBlock) (fun _ i _ => n - (intOf i).toNat)
 case atStart => exact ⟨0, by omega, rfl, by go_num, xs, h, fun i hi h0 => by omega, grown_refl _ _⟩
 case round =>
  obtain ⟨k, hk, rfl, rfl, ys, hown, hys, hgr⟩ := hrel
  by_cases hlt : k < n
  ·obtain ⟨b, off, rfl, hb, hc⟩ := (Rds.of_own hown).at (by omega)
   obtain ⟨hb0, hb1, rfl⟩ := own_block hown rfl
   have hlen := hown.1
   have d0 := hown.cellAt k (by omega)
   rw [List.getElem?_eq_getElem (by omega)] at d0
   have f0 := fun i => hown.frozenAt i
   have HY := hd_ hys
   clear hc h hys
   go_wp2_with fail
   go_roundw
   case rel =>
    go_light
    have s1 := hown.stored k (i64 ((k0 : Int) + k))
    refine ⟨k + 1, by omega, by go_num, by go_num, _, s1.1, fun i hi hik => set1_get HY.out (by omega) hi hik hlt (fun hk => mi_get hk), ?_⟩
    exact grown_trans hgr s1.2
   case measure => (simp [intOf]; try omega)
  ·go_wp2_with fail
   go_ret
   obtain rfl : k = n := by omega
   have hy : ys = ics (mi k0 k) := ics_ext (by rw [mi_len]; have := hown.1; omega) (fun i hi => hys i hi (by rw [mi_len] at hi; exact hi))
   rw [hy] at hown
   exact ⟨ret_int (by omega), hown, hgr⟩
structure Bsk where
 bars : Int
 rise : Int
 fall : Int
 clr : Int
 near : Int
abbrev bsv (b : Bsk) : Value := .agg #[i64 b.bars, i64 b.rise, i64 b.fall, i64 b.clr, i64 b.near]
structure DeskD where
 b : Bsk
 stops : List Int
 drills : List Drill
 log : ByteArray
abbrev dkcs (d : DeskD) (A B : Option Addr) (c e : Nat) : Array Value := #[i64 d.b.bars, i64 d.b.rise, i64 d.b.fall, i64 d.b.clr, i64 d.b.near, .slice A d.stops.length c, .slice B d.drills.length e, .string d.log]
abbrev dkv (d : DeskD) (A B : Option Addr) (c e : Nat) : Value := .agg #[i64 d.b.bars, i64 d.b.rise, i64 d.b.fall, i64 d.b.clr, i64 d.b.near, .slice A d.stops.length c, .slice B d.drills.length e, .string d.log]
def DSee (w : World) (d : DeskD) (A B : Option Addr) : Prop := Rds w 1 A d.stops.length (ics d.stops) ∧ Rds w 3 B d.drills.length (drcs d.drills)
theorem DSee.below {w w' : World} {d : DeskD} {A B : Option Addr} (h : DSee w d A B) (hb : Below w.heap.size w w') : DSee w' d A B := ⟨h.1.below hb, h.2.below hb⟩
theorem box2 (w : World) (x y : Array Value) (t t' : TypeId) : (∀ i, ((w.alloc (.cells x t)).alloc (.cells y t')).cell? ⟨w.heap.size, i, none⟩ = x[i]?) ∧ (∀ i, ((w.alloc (.cells x t)).alloc (.cells y t')).cell? ⟨w.heap.size + 1, i, none⟩ = y[i]?) ∧
 ((w.alloc (.cells x t)).alloc (.cells y t')).heap.size = w.heap.size + 2 ∧ Below w.heap.size w ((w.alloc (.cells x t)).alloc (.cells y t')) := by
 have e1 : (w.alloc (.cells x t)).heap.size = w.heap.size + 1 := by simp
 refine ⟨fun i => ?_, fun i => ?_, by simp, ((Below.refl _ _).alloc (Nat.le_refl _) _).alloc (by simp) _⟩
 ·rw [World.cell?_alloc_lt _ _ _ (by rw [e1]; show w.heap.size < _; omega)]
  exact World.cell?_alloc_new _ _ _ _
 ·have := World.cell?_alloc_new (w.alloc (.cells x t)) y t' i
  rwa [e1] at this
def Box (w : World) (b : Nat) (x : Array Value) : Prop := b < w.heap.size ∧ ∀ i u, x[i]? = some u → w.cell? ⟨b, i, none⟩ = some u
theorem Box.new (w : World) (x : Array Value) (t : TypeId) : Box (w.alloc (.cells x t)) w.heap.size x := ⟨by simp, fun i u h => by rw [World.cell?_alloc_new]; exact h⟩
theorem Box.below {w w' : World} {b : Nat} {x : Array Value} (h : Box w b x) (hb : Below w.heap.size w w') : Box w' b x := ⟨Nat.lt_of_lt_of_le h.1 hb.size, fun i u hu => (hb.cell (p := ⟨b, i, none⟩) h.1).trans (h.2 i u hu)⟩
theorem Box.eight {w : World} {b : Nat} {x0 x1 x2 x3 x4 x5 x6 x7 : Value} (h : Box w b #[x0, x1, x2, x3, x4, x5, x6, x7]) : b < w.heap.size ∧ w.cell? ⟨b, 0, none⟩ = some x0 ∧ w.cell? ⟨b, 1, none⟩ = some x1 ∧ w.cell? ⟨b, 2, none⟩ = some x2 ∧ w.cell? ⟨b, 3, none⟩ = some x3 ∧
 w.cell? ⟨b, 4, none⟩ = some x4 ∧ w.cell? ⟨b, 5, none⟩ = some x5 ∧ w.cell? ⟨b, 6, none⟩ = some x6 ∧ w.cell? ⟨b, 7, none⟩ = some x7 :=
 ⟨h.1, h.2 0 _ rfl, h.2 1 _ rfl, h.2 2 _ rfl, h.2 3 _ rfl, h.2 4 _ rfl, h.2 5 _ rfl, h.2 6 _ rfl, h.2 7 _ rfl⟩
theorem eqBasket_any (b : Bsk) (w : World) :
 Calls Tryz.prog 55 #[bsv b, bsv b] w fun e w' => e = .returned (.bool true) ∧ UpOf w w' := by
 go_enter Tryz.func55, Tryz.ntmps55
 go_wp2_with fail
 go_ret
 exact ⟨rfl, uw_⟩
theorem eqDesk_any (d : DeskD) (A B A' B' : Option Addr) (c e c' e' : Nat) (w : World) (h : DSee w d A B) (h' : DSee w d A' B') (hn : d.stops.length ≤ 100000000) (hm : d.drills.length ≤ 100000000) :
 Calls Tryz.prog 17 #[dkv d A B c e, dkv d A' B' c' e'] w fun e w' => e = .returned (.bool true) ∧ UpOf w w' := by
 go_enter Tryz.func17, Tryz.ntmps17
 go_wp2_with fail
 obtain ⟨x0, y0, hs, hB⟩ := box2 w (dkcs d A B c e) (dkcs d A' B' c' e') 31 31
 have x5 := x0 5
 have x6 := x0 6
 have x7 := x0 7
 have y5 := y0 5
 have y6 := y0 6
 have y7 := y0 7
 have k1 : w.heap.size < w.heap.size + 2 := by omega
 have k2 : w.heap.size + 1 < w.heap.size + 2 := by omega
 rw [← hs] at k1 k2
 have h1 := h.below hB
 have h2 := h'.below hB
 have HB := hd_ hB
 clear x0 y0 hs hB h h'
 simp only [List.getElem?_toArray, List.getElem?_cons_succ, List.getElem?_cons_zero] at x5 x6 x7 y5 y6 y7
 revert x5 x6 x7 y5 y6 y7 k1 k2 h1 h2 HB
 generalize (w.alloc (.cells (dkcs d A B c e) 31)).alloc (.cells (dkcs d A' B' c' e') 31) = W
 intro k1 k2 h1 h2 HB x5 x6 x7 y5 y6 y7
 refine cu_ (eqBasket_any _ _) fun g1 => ?_
 go_wp2_with fail
 refine cu_ (eqInt64S_any _ _ _ _ _ _ (h1.1.below bw_) (h2.1.below bw_) hn) fun g2 => ?_
 go_wp2_with fail
 refine cu_ (eqDrillS_any _ _ _ _ _ _ (h1.2.below bw_) (h2.2.below bw_) hm) fun g3 => ?_
 go_wp2_with fail
 go_ret
 exact ⟨rfl, UpOf.of (HB.out.trans (Below.mono bw_ HB.out.size))⟩
theorem rall_true {n : Nat} {p : Nat → Bool} (h : ∀ i, i < n → p i = true) : (List.range n).all p = true := by
 simp only [List.all_eq_true, List.mem_range]
 exact h
theorem rall_at {n i : Nat} {p : Nat → Bool} (hi : i < n) (h : p i = false) : (List.range n).all p = false := by
 rw [← Bool.not_eq_true]
 intro hc
 rw [List.all_eq_true] at hc
 have := hc i (List.mem_range.2 hi)
 simp [h] at this
theorem lt_extD {P : Nat → Prop} {j : Nat} (h : ∀ i, i < j → P i) (hj : P j) : ∀ i, i < j + 1 → P i := fun i hi => by
 rcases Nat.lt_succ_iff_lt_or_eq.1 hi with h' | h'
 ·exact h i h'
 ·rw [h']; exact hj
def num (ps : List Int) (i : Nat) : Int := ps.getD i 0
theorem num_eq {ps : List Int} {i : Nat} (h : i < ps.length) : ps[i] = num ps i := by simp [num, h]
theorem num_at {w : World} {A : Option Addr} {l : List Int} (h : Rds w 1 A l.length (ics l)) {k : Nat} (hk : k < l.length) :
 ∃ b off, A = some ⟨b, off, none⟩ ∧ b < w.heap.size ∧ w.cell? ⟨b, off + k, none⟩ = some (i64 (num l k)) := by
 obtain ⟨b, off, e, hb, c0⟩ := int_at h rfl hk
 rw [num_eq hk] at c0
 exact ⟨b, off, e, hb, c0⟩
def drl (l : List Drill) (i : Nat) : Drill := l.getD i ⟨ByteArray.empty, ByteArray.empty, 0⟩
theorem drl_eq {l : List Drill} {i : Nat} (h : i < l.length) : l[i] = drl l i := by simp [drl, h]
theorem drl_at {w : World} {A : Option Addr} {l : List Drill} (h : Rds w 3 A l.length (drcs l)) {k : Nat} (hk : k < l.length) :
 ∃ b off, A = some ⟨b, off, none⟩ ∧ b < w.heap.size ∧ w.cell? ⟨b, off + k * 3, none⟩ = some (.string (drl l k).name) ∧ w.cell? ⟨b, off + k * 3 + 1, none⟩ = some (.string (drl l k).letters) ∧ w.cell? ⟨b, off + k * 3 + 2, none⟩ = some (i64 (drl l k).minutes) := by
 have := dr_at h hk
 rw [drl_eq hk] at this
 exact this
def stopAt (l : List Int) (i : Nat) : Bool := btw (num l i) 1 30 && (decide (i = 0) || decide (num l (i - 1) < num l i))
def vStops (l : List Int) : Bool := decide (l.length ≤ 6) && (List.range l.length).all (stopAt l)
section
variable {l : List Int}
theorem vStops_len (h : ¬ l.length ≤ 6) : vStops l = false := by rw [vStops, decide_eq_false h]; rfl
theorem vStops_at {i : Nat} (hi : i < l.length) (h : stopAt l i = false) : vStops l = false := by rw [vStops, rall_at hi h, Bool.and_false]
theorem vStops_true (h : l.length ≤ 6) (h2 : ∀ i, i < l.length → stopAt l i = true) : vStops l = true := by rw [vStops, decide_eq_true h, rall_true h2]; rfl
theorem vStops_inv (h : vStops l = true) : l.length ≤ 6 ∧ ∀ i, i < l.length → stopAt l i = true := by
 simpa only [vStops, Bool.and_eq_true, decide_eq_true_eq, List.all_eq_true, List.mem_range] using h
theorem stopAt_1 {i : Nat} (h : btw (num l i) 1 30 = false) : stopAt l i = false := by simp [stopAt, h]
theorem stopAt_2 {i : Nat} (hi : 0 < i) (h : ¬ num l (i - 1) < num l i) : stopAt l i = false := by
 rw [stopAt, decide_eq_false h, decide_eq_false (by omega), Bool.or_false, Bool.and_false]
theorem stopAt_3 {i : Nat} (hi : i = 0) (h : btw (num l i) 1 30 = true) : stopAt l i = true := by
 rw [stopAt, h, decide_eq_true hi]; rfl
theorem stopAt_4 {i : Nat} (h : btw (num l i) 1 30 = true) (h2 : num l (i - 1) < num l i) : stopAt l i = true := by
 rw [stopAt, h, decide_eq_true h2, Bool.or_true]; rfl
def risesAll (l : List Int) : Bool := (List.range l.length).all (stopAt l)
theorem rises_at {i : Nat} (hi : i < l.length) (h : stopAt l i = false) : risesAll l = false := rall_at hi h
theorem rises_true (h : ∀ i, i < l.length → stopAt l i = true) : risesAll l = true := rall_true h
theorem vStops_rises (h : l.length ≤ 6) : vStops l = risesAll l := by rw [vStops, decide_eq_true h, Bool.true_and]; rfl
end
def vBsk (b : Bsk) : Bool := btw b.bars 2 60 && btw b.rise 1 100 && btw b.fall 1 100 && btw b.clr 1 100 && btw b.near 0 100
def txtC (lo : Nat) (c : UInt8) : Bool := decide (lo ≤ c.toNat ∧ c.toNat ≤ 126)
def txtB (lo most : Nat) (s : ByteArray) : Bool := decide (s.size ≤ most) && (List.range s.size).all fun i => txtC lo (byteAt s i)
theorem txtB_len {lo most : Nat} {s : ByteArray} (h : ¬ s.size ≤ most) : txtB lo most s = false := by rw [txtB, decide_eq_false h]; rfl
theorem txtB_at {lo most i : Nat} {s : ByteArray} (hi : i < s.size) (h : txtC lo (byteAt s i) = false) : txtB lo most s = false := by rw [txtB, rall_at hi h, Bool.and_false]
theorem txtB_true {lo most : Nat} {s : ByteArray} (h : s.size ≤ most) (h2 : ∀ i, i < s.size → txtC lo (byteAt s i) = true) : txtB lo most s = true := by rw [txtB, decide_eq_true h, rall_true h2]; rfl
theorem txtB_inv {lo most : Nat} {s : ByteArray} (h : txtB lo most s = true) : s.size ≤ most ∧ ∀ i, i < s.size → lo ≤ (byteAt s i).toNat ∧ (byteAt s i).toNat ≤ 126 := by
 simpa only [txtB, txtC, Bool.and_eq_true, decide_eq_true_eq, List.all_eq_true, List.mem_range] using h
def newAt (s : ByteArray) (i : Nat) : Bool := (List.range i).all fun j => decide (byteAt s j ≠ byteAt s i)
def newB (s : ByteArray) : Bool := (List.range s.size).all (newAt s)
theorem newAt_yes {s : ByteArray} {i : Nat} (h : ∀ j, j < i → byteAt s j ≠ byteAt s i) : newAt s i = true := rall_true fun j hj => decide_eq_true (h j hj)
theorem newB_at {s : ByteArray} {i : Nat} (hi : i < s.size) (h : newAt s i = false) : newB s = false := rall_at hi h
theorem newB_true {s : ByteArray} (h : ∀ i, i < s.size → newAt s i = true) : newB s = true := rall_true h
def vDrill (d : Drill) : Bool := nameB d.name && (decide (0 < d.letters.size) && (txtB 33 8 d.letters && (btw d.minutes 1 600 && newB d.letters)))
theorem vDrill_1 {d : Drill} (h : nameB d.name = false) : vDrill d = false := by rw [vDrill, h]; rfl
theorem vDrill_2 {d : Drill} (h : ¬ 0 < d.letters.size) : vDrill d = false := by rw [vDrill, decide_eq_false h, Bool.false_and, Bool.and_false]
theorem vDrill_3 {d : Drill} (h : txtB 33 8 d.letters = false) : vDrill d = false := by rw [vDrill, h, Bool.false_and, Bool.and_false, Bool.and_false]
theorem vDrill_4 {d : Drill} (h : btw d.minutes 1 600 = false) : vDrill d = false := by rw [vDrill, h, Bool.false_and, Bool.and_false, Bool.and_false, Bool.and_false]
theorem vDrill_5 {d : Drill} (h : newB d.letters = false) : vDrill d = false := by rw [vDrill, h, Bool.and_false, Bool.and_false, Bool.and_false, Bool.and_false]
theorem vDrill_0 {d : Drill} (h1 : nameB d.name = true) (h2 : 0 < d.letters.size) (h3 : txtB 33 8 d.letters = true) (h4 : btw d.minutes 1 600 = true) (h5 : newB d.letters = true) : vDrill d = true := by
 rw [vDrill, h1, decide_eq_true h2, h3, h4, h5]; rfl
theorem vDrill_inv {d : Drill} (h : vDrill d = true) : nameB d.name = true ∧ 0 < d.letters.size ∧ txtB 33 8 d.letters = true ∧ (1 ≤ d.minutes ∧ d.minutes ≤ 600) ∧ newB d.letters = true := by
 simp only [vDrill, Bool.and_eq_true, decide_eq_true_eq] at h
 exact ⟨h.1, h.2.1, h.2.2.1, btw_true h.2.2.2.1, h.2.2.2.2⟩
def okD (l : List Drill) (i : Nat) : Bool := vDrill (drl l i) && (List.range i).all fun k => !decide ((drl l k).name = (drl l i).name)
def vDrills (l : List Drill) : Bool := decide (l.length ≤ 10) && (List.range l.length).all (okD l)
theorem okD_no {l : List Drill} {i : Nat} (h : vDrill (drl l i) = false) : okD l i = false := by rw [okD, h]; rfl
theorem okD_name {l : List Drill} {i k : Nat} (hk : k < i) (h : (drl l k).name = (drl l i).name) : okD l i = false := by
 rw [okD, rall_at hk (by rw [decide_eq_true h]; rfl), Bool.and_false]
theorem okD_true {l : List Drill} {i : Nat} (h : vDrill (drl l i) = true) (h2 : ∀ k, k < i → (drl l k).name ≠ (drl l i).name) : okD l i = true := by
 rw [okD, h, rall_true fun k hk => by rw [decide_eq_false (h2 k hk)]; rfl]; rfl
theorem vDrills_len {l : List Drill} (h : ¬ l.length ≤ 10) : vDrills l = false := by rw [vDrills, decide_eq_false h]; rfl
theorem vDrills_at {l : List Drill} {i : Nat} (hi : i < l.length) (h : okD l i = false) : vDrills l = false := by rw [vDrills, rall_at hi h, Bool.and_false]
theorem vDrills_true {l : List Drill} (h : l.length ≤ 10) (h2 : ∀ i, i < l.length → okD l i = true) : vDrills l = true := by rw [vDrills, decide_eq_true h, rall_true h2]; rfl
theorem vDrills_inv {l : List Drill} (h : vDrills l = true) : l.length ≤ 10 ∧ ∀ i, i < l.length → vDrill (drl l i) = true ∧ ∀ k, k < i → (drl l k).name ≠ (drl l i).name := by
 simpa only [vDrills, okD, Bool.and_eq_true, decide_eq_true_eq, List.all_eq_true, List.mem_range, Bool.not_eq_true', decide_eq_false_iff_not] using h
def tabOf (l : List Int) (c : Nat) : Option Nat := (l.find? fun s => decide ((c : Int) < s)).map Int.toNat
def mvTo (l : List Int) (k c : Nat) : Option Nat :=
 if k = 0 then tabOf l c else if k = 1 then (if 0 < c then some (c - 1) else none) else (if c < 30 then some (c + 1) else none)
def mvB (k : Nat) : UInt8 := if k = 0 then 35 else if k = 1 then 60 else 62
def rch (l : List Int) (tg : Nat) : Nat → Nat → Bool
 | 0, c => decide (c = tg)
 | n + 1, c => decide (c = tg) || (List.range 3).any fun k => match mvTo l k c with | some d => rch l tg n d | none => false
def dst (l : List Int) (tg c : Nat) : Nat := ((List.range 31).find? fun n => rch l tg n c).getD 31
section
variable {l : List Int}
theorem num_get {i : Nat} (h : i < l.length) : num l i = l[i] := by
 simp [num, h]
theorem stop_bd (h : vStops l = true) : ∀ s ∈ l, 1 ≤ s ∧ s ≤ 30 := fun s hs => by
 obtain ⟨i, hi, rfl⟩ := List.getElem_of_mem hs
 have h2 := (vStops_inv h).2 i hi
 simp only [stopAt, Bool.and_eq_true] at h2
 have := btw_true h2.1
 rw [num_get hi] at this
 exact this
theorem tabOf_bd {c d : Nat} (h : vStops l = true) (hd : tabOf l c = some d) : d ≤ 30 ∧ c < d := by
 simp only [tabOf, Option.map_eq_some_iff] at hd
 obtain ⟨s, hs, rfl⟩ := hd
 have h1 := stop_bd h s (List.mem_of_find?_eq_some hs)
 have h2 := List.find?_some hs
 simp only [decide_eq_true_eq] at h2
 omega
theorem mvTo_bd {k c d : Nat} (h : vStops l = true) (hc : c ≤ 30) (hd : mvTo l k c = some d) : d ≤ 30 := by
 unfold mvTo at hd
 split at hd
 ·exact (tabOf_bd h hd).1
 ·split at hd
  ·split at hd
   ·injection hd with hd; omega
   ·cases hd
  ·split at hd
   ·injection hd with hd; omega
   ·cases hd
theorem rch_step {tg n c k d : Nat} (hk : k < 3) (hm : mvTo l k c = some d) (h : rch l tg n d = true) : rch l tg (n + 1) c = true := by
 rw [rch, Bool.or_eq_true, List.any_eq_true]
 exact .inr ⟨k, List.mem_range.2 hk, by rw [hm]; exact h⟩
theorem rch_inv {tg n c : Nat} (h : rch l tg (n + 1) c = true) : c = tg ∨ ∃ k d, k < 3 ∧ mvTo l k c = some d ∧ rch l tg n d = true := by
 rw [rch, Bool.or_eq_true, List.any_eq_true] at h
 rcases h with h | ⟨k, hk, h⟩
 ·exact .inl (by simpa using h)
 ·rw [List.mem_range] at hk
  cases hm : mvTo l k c with
  | none => rw [hm] at h; cases h
  | some d => rw [hm] at h; exact .inr ⟨k, d, hk, hm, h⟩
theorem rch_dn (l : List Int) (tg : Nat) : ∀ n, rch l tg n (tg + n) = true
 | 0 => by simp [rch]
 | n + 1 => rch_step (k := 1) (d := tg + n) (by omega) (by simp [mvTo]) (rch_dn l tg n)
theorem rch_up (l : List Int) (tg : Nat) (ht : tg ≤ 30) : ∀ n c, c + n = tg → rch l tg n c = true
 | 0, c, h => by simp [rch]; omega
 | n + 1, c, h => rch_step (k := 2) (d := c + 1) (by omega) (by simp [mvTo]; omega) (rch_up l tg ht n (c + 1) (by omega))
theorem rch_bd (l : List Int) {tg c : Nat} (ht : tg ≤ 30) (hc : c ≤ 30) : ∃ n, n ≤ 30 ∧ rch l tg n c = true := by
 by_cases h : tg ≤ c
 ·exact ⟨c - tg, by omega, by have := rch_dn l tg (c - tg); rwa [show tg + (c - tg) = c by omega] at this⟩
 ·exact ⟨tg - c, by omega, rch_up l tg ht (tg - c) c (by omega)⟩
theorem find_range {p : Nat → Bool} {m : Nat} (h : ∃ n, n < m ∧ p n = true) : ∃ n, (List.range m).find? p = some n ∧ n < m ∧ p n = true ∧ ∀ j, j < n → p j = false := by
 cases hf : (List.range m).find? p with
 | none =>
   obtain ⟨n, hn, hp⟩ := h
   rw [List.find?_eq_none] at hf
   exact absurd hp (hf n (List.mem_range.2 hn))
 | some n =>
   have h1 := List.find?_some hf
   rw [List.find?_eq_some_iff_getElem] at hf
   obtain ⟨_, i, hi, he, hj⟩ := hf
   rw [List.length_range] at hi
   rw [List.getElem_range] at he
   subst he
   exact ⟨i, rfl, hi, h1, fun j hj' => by have := hj j hj'; rw [List.getElem_range] at this; simpa using this⟩
theorem dst_spec (l : List Int) {tg c : Nat} (ht : tg ≤ 30) (hc : c ≤ 30) : dst l tg c ≤ 30 ∧ rch l tg (dst l tg c) c = true ∧ ∀ n, rch l tg n c = true → dst l tg c ≤ n := by
 obtain ⟨n, hn, h⟩ := rch_bd l ht hc
 obtain ⟨m, h1, h2, h3, h4⟩ := find_range (p := fun n => rch l tg n c) (m := 31) ⟨n, by omega, h⟩
 have e : dst l tg c = m := by rw [dst, h1]; rfl
 rw [e]
 refine ⟨by omega, h3, fun j hj => ?_⟩
 rcases Nat.lt_or_ge j m with h5 | h5
 ·rw [h4 j h5] at hj; cases hj
 ·exact h5
theorem dst_self (l : List Int) {tg : Nat} (ht : tg ≤ 30) : dst l tg tg = 0 := by
 have := (dst_spec l ht ht).2.2 0 (by simp [rch])
 omega
theorem dst_zero {tg c : Nat} (ht : tg ≤ 30) (hc : c ≤ 30) (h : dst l tg c = 0) : c = tg := by
 have := (dst_spec l ht hc).2.1
 rw [h] at this
 simpa [rch] using this
theorem dst_le {tg c k d : Nat} (hv : vStops l = true) (ht : tg ≤ 30) (hc : c ≤ 30) (hk : k < 3) (hm : mvTo l k c = some d) : dst l tg c ≤ dst l tg d + 1 :=
 (dst_spec l ht hc).2.2 _ (rch_step hk hm (dst_spec l ht (mvTo_bd hv hc hm)).2.1)
theorem dst_ex {tg c : Nat} (hv : vStops l = true) (ht : tg ≤ 30) (hc : c ≤ 30) (hn : c ≠ tg) : ∃ k d, k < 3 ∧ mvTo l k c = some d ∧ dst l tg d + 1 = dst l tg c := by
 obtain ⟨h1, h2, h3⟩ := dst_spec l ht hc
 obtain ⟨n, hd⟩ : ∃ n, dst l tg c = n + 1 := ⟨dst l tg c - 1, by
  have : dst l tg c ≠ 0 := fun h => hn (dst_zero ht hc h)
  omega⟩
 rw [hd] at h2
 rcases rch_inv h2 with h | ⟨k, d, hk, hm, hr⟩
 ·exact absurd h hn
 ·refine ⟨k, d, hk, hm, ?_⟩
  have h4 := (dst_spec l ht (mvTo_bd hv hc hm)).2.2 n hr
  have h5 := dst_le hv ht hc hk hm
  omega
theorem dst_gap {tg m : Nat} (hv : vStops l = true) (ht : tg ≤ 30) (h : ∀ c, c ≤ 30 → dst l tg c ≠ m + 1) : ∀ c, c ≤ 30 → dst l tg c ≤ m := by
 intro c hc
 by_cases hm : dst l tg c ≤ m
 ·exact hm
 ·exfalso
  have key : ∀ n c, c ≤ 30 → dst l tg c = m + 1 + n → False := by
   intro n
   induction n with
   | zero => intro c hc hd; exact h c hc hd
   | succ n ih =>
     intro c hc hd
     have hne : c ≠ tg := fun e => by subst e; rw [dst_self l ht] at hd; omega
     obtain ⟨k, d, hk, hmv, hdd⟩ := dst_ex hv ht hc hne
     exact ih d (mvTo_bd hv hc hmv) (by omega)
  exact key (dst l tg c - (m + 1)) c hc (by omega)
theorem dst_stable {tg : Nat} {D : Nat → Int} (hv : vStops l = true) (ht : tg ≤ 30) (h0 : D tg = 0) (hl : ∀ c, c ≤ 30 → (dst l tg c : Int) ≤ D c)
 (hs : ∀ c, c ≤ 30 → ∀ k d, k < 3 → mvTo l k c = some d → D c ≤ D d + 1) : ∀ c, c ≤ 30 → D c = dst l tg c := by
 have key : ∀ n c, c ≤ 30 → dst l tg c = n → D c ≤ n := by
  intro n
  induction n with
  | zero => intro c hc hd; rw [dst_zero ht hc hd, h0]; omega
  | succ n ih =>
    intro c hc hd
    have hne : c ≠ tg := fun e => by subst e; rw [dst_self l ht] at hd; omega
    obtain ⟨k, d, hk, hmv, hdd⟩ := dst_ex hv ht hc hne
    have h1 := ih d (mvTo_bd hv hc hmv) (by omega)
    have h2 := hs c hc k d hk hmv
    omega
 intro c hc
 have := key _ c hc rfl
 have := hl c hc
 omega
def goodMv (l : List Int) (tg c k : Nat) : Option Nat :=
 match mvTo l k c with
 | some d => if dst l tg d + 1 = dst l tg c then some d else none
 | none => none
def fstMv (l : List Int) (tg c : Nat) : Nat × Nat :=
 match goodMv l tg c 0 with
 | some d => (0, d)
 | none => match goodMv l tg c 1 with
   | some d => (1, d)
   | none => match goodMv l tg c 2 with
     | some d => (2, d)
     | none => (0, c)
def pth (l : List Int) (tg : Nat) : Nat → Nat → List UInt8
 | 0, _ => []
 | n + 1, c => mvB (fstMv l tg c).1 :: pth l tg n (fstMv l tg c).2
def planL (l : List Int) (tg c : Nat) : List UInt8 := pth l tg (dst l tg c) c
theorem pth_len (l : List Int) (tg : Nat) : ∀ n c, (pth l tg n c).length = n
 | 0, _ => rfl
 | n + 1, c => by rw [pth, List.length_cons, pth_len l tg n]
theorem goodMv_some {tg c k d : Nat} (h : goodMv l tg c k = some d) : mvTo l k c = some d ∧ dst l tg d + 1 = dst l tg c := by
 unfold goodMv at h
 cases hm : mvTo l k c with
 | none => rw [hm] at h; cases h
 | some e =>
   rw [hm] at h
   dsimp only at h
   split at h
   ·rename_i h1
    injection h with h
    subst h
    exact ⟨rfl, h1⟩
   ·cases h
theorem goodMv_no {tg c k d : Nat} (h : goodMv l tg c k = none) (hm : mvTo l k c = some d) : dst l tg d + 1 ≠ dst l tg c := by
 intro he
 unfold goodMv at h
 rw [hm] at h
 dsimp only at h
 rw [if_pos he] at h
 cases h
theorem fstMv_at {tg c k d : Nat} (hk : k < 3) (hn : ∀ j, j < k → goodMv l tg c j = none) (h : goodMv l tg c k = some d) : fstMv l tg c = (k, d) := by
 have : k = 0 ∨ k = 1 ∨ k = 2 := by omega
 rcases this with rfl | rfl | rfl
 ·rw [fstMv, h]
 ·rw [fstMv, hn 0 (by omega), h]
 ·rw [fstMv, hn 0 (by omega), hn 1 (by omega), h]
theorem goodMv_ex {tg c : Nat} (hv : vStops l = true) (ht : tg ≤ 30) (hc : c ≤ 30) (hn : c ≠ tg) (h : ∀ j, j < 3 → goodMv l tg c j = none) : False := by
 obtain ⟨k, d, hk, hm, hd⟩ := dst_ex hv ht hc hn
 exact goodMv_no (h k hk) hm hd
theorem planL_self (l : List Int) {tg : Nat} (ht : tg ≤ 30) : planL l tg tg = [] := by rw [planL, dst_self l ht, pth]
theorem planL_step {tg c k d : Nat} (hk : k < 3) (hn : ∀ j, j < k → goodMv l tg c j = none) (h : goodMv l tg c k = some d) : planL l tg c = mvB k :: planL l tg d := by
 rw [planL, ← (goodMv_some h).2, pth, fstMv_at hk hn h]
 rfl
end
theorem planL_len (l : List Int) {tg c : Nat} (ht : tg ≤ 30) (hc : c ≤ 30) : (planL l tg c).length ≤ 30 := by rw [planL, pth_len]; exact (dst_spec l ht hc).1
def rowA (l : List Int) : Nat → Nat → List UInt8 → List UInt8
 | _, _, [] => []
 | at', i, c :: t => if c = 32 then rowA l at' (i + 1) t else planL l i at' ++ 39 :: c :: rowA l (i + 1) (i + 1) t
def isRowB (s : ByteArray) : Bool := txtB 32 30 s && (decide (s.size = 0) || decide (byteAt s (s.size - 1) ≠ 32))
def rowR (l : List Int) (s : ByteArray) : ByteArray × Int := if vStops l then (if isRowB s then (⟨(rowA l 0 0 s.data.toList).toArray⟩, 0) else (⟨#[]⟩, 2)) else (⟨#[]⟩, 1)
end Go.Proofs.YtbianlkenallaaaGreatDoor
namespace Go.Proofs.YtbianlkenallaaaGreatDoor
open Go.RowKit Go.Maps
def memB (S : List ByteArray) (s : ByteArray) : Bool := S.any fun x => decide (x.data.toList = s.data.toList)
theorem ba_ext {s t : ByteArray} (h : s.data.toList = t.data.toList) : s = t := by
 cases s; cases t
 simp at h
 rw [h]
theorem memB_iff {S : List ByteArray} {s : ByteArray} : memB S s = true ↔ s ∈ S := by
 simp only [memB, List.any_eq_true, decide_eq_true_eq]
 constructor
 ·rintro ⟨x, hx, he⟩
  rwa [← ba_ext he]
 ·intro h
  exact ⟨s, h, rfl⟩
def SetAt (w : World) (P : Program) (k e : TypeId) (b n : Nat) (S : List ByteArray) : Prop :=
 ∃ D : DataW Unit, w.ownsMap P k (plainElem P e) b n D ∧ IsMap D ∧ ∀ s : ByteArray, D.atKey (.string s.data.toList) (.lit (.bool false)) = .lit (.bool (memB S s))
section
variable {w w' : World} {P : Program} {k e t : TypeId} {b n : Nat} {S : List ByteArray}
theorem SetAt.made (w : World) (P : Program) (k e : TypeId) : SetAt (w.alloc (.map #[] 0)) P k e w.heap.size 0 [] :=
 ⟨.map [], World.ownsMap_made _ _ _ _, isMap_empty, fun _ => rfl⟩
theorem SetAt.lt (h : SetAt w P k e b n S) : b < w.heap.size := by obtain ⟨D, h, _⟩ := h; exact h.lt
theorem SetAt.kept {row : Option Nat} (h : SetAt w P k e b n S) (hg : w.grownBy w' row) (hne : some b ≠ row) : SetAt w' P k e b n S := by
 obtain ⟨D, h1, h2, h3⟩ := h
 exact ⟨D, h1.kept hg hne, h2, h3⟩
theorem SetAt.below (h : SetAt w P k e b n S) (hb : Below w.heap.size w w') : SetAt w' P k e b n S :=
 h.kept (row := none) (grown_up ⟨w', hb⟩ none) (by simp)
theorem SetAt.up (h : SetAt w P k e b n S) (g : Up w) : SetAt (Go.Proofs.YtbianlkenallaaaGreatDoor.up w g) P k e b n S := h.below g.below
theorem plainElem_bool_inv {P : Program} {e : TypeId} (he : P.underlying e = some .bool) {v : Value} {z : DataW Unit × List MemPlace} (h : plainElem P e v = some z) : ∃ x, v = .bool x ∧ z = (.lit (.bool x), []) := by
 cases v <;> simp [plainElem, he] at h
 exact ⟨_, rfl, h.symm⟩
theorem SetAt.look (h : SetAt w P k e b n S) (ht : P.underlying t = some (.map k e)) (hk : P.underlying k = some .string) (he : P.underlying e = some .bool) (hz : (zeroValue e).run P w = .ok (.bool false) w)
 (s : ByteArray) (hs : s.size ≤ maxLen) : (Instr.lookup t (.map (some b)) (.string s) false).run P w = .ok (.bool (memB S s)) w := by
 obtain ⟨D, h1, h2, h3⟩ := h
 obtain ⟨v, ps, hrun, hv⟩ := h1.lookup (string_keyed hk) ht hz (plainElem_bool he false) (WideMaps.keyOf_string_mk hk hs)
 obtain ⟨x, rfl, hx⟩ := plainElem_bool_inv he hv
 have h4 := congrArg Prod.fst hx
 rw [hrun]
 have h5 := (h3 s).symm.trans h4
 injection h5 with h5
 injection h5 with h5
 rw [h5]
theorem lit_ne {s s' : ByteArray} (h : s' ≠ s) : (Lit.string s'.data.toList) ≠ Lit.string s.data.toList := by
 intro he
 injection he with he
 exact h (ba_ext he)
theorem SetAt.put (h : SetAt w P k e b n S) (ht : P.underlying t = some (.map k e)) (hk : P.underlying k = some .string) (he : P.underlying e = some .bool) (hn : n < maxLen) (s : ByteArray) (hs : s.size ≤ maxLen) :
 ∃ w', (Instr.mapUpdate t (.map (some b)) (.string s) (.bool true)).run P w = .ok () w' ∧ SetAt w' P k e b (n + 1) (s :: S) ∧ w.grownBy w' (some b) := by
 obtain ⟨D, h1, h2, h3⟩ := h
 obtain ⟨w', hrun, r1, r2⟩ := h1.update (string_keyed hk) ht hn (WideMaps.keyOf_string_mk hk hs) (plainElem_bool he true)
 refine ⟨w', hrun, ⟨_, r1, h2.put _ _, fun s' => ?_⟩, r2⟩
 by_cases hh : s' = s
 ·subst hh
  rw [atKey_put_same h2 (by simp [WideAt.IsKeyLit])]
  simp [memB]
 ·rw [atKey_put_other (lit_ne hh), h3]
  simp [memB]
  intro he
  exact absurd (ba_ext (congrArg Array.toList he)).symm hh
end
theorem wpl_setPut {P : Program} (w : World) {ops : Array Oper} {rest : List Oper} {o : Oper} {a : Act} {Q : Exit → Act → World → Prop}
 (hg : o.guard = none) (m x v : Operand) (t : TypeId) (hop : o.op = Op.mapUpdate t m x v)
 (k e : TypeId) (ht : P.underlying t = some (.map k e)) (hk : P.underlying k = some .string) (he : P.underlying e = some .bool) (b n : Nat) (S : List ByteArray)
 (hm : a.eval m = .map (some b)) (hown : SetAt w P k e b n S) (hn : n < maxLen) (s : ByteArray) (hs : s.size ≤ maxLen) (hx : a.eval x = .string s) (hv : a.eval v = .bool true)
 (hK : ∀ w', SetAt w' P k e b (n + 1) (s :: S) → w.grownBy w' (some b) → wpList P ops Q rest (a.put o.dst undef) w') :
 wpList P ops Q (o :: rest) a w := by
 refine wpList_plain hg fun K' hK' => ?_
 obtain ⟨w', hrun, r1, r2⟩ := hown.put ht hk he hn s hs
 unfold Oper.wp
 simp [execOp, hop, hm, hx, hv, hrun, Result.andThen]
 exact hK' _ _ (hK w' r1 r2)
end Go.Proofs.YtbianlkenallaaaGreatDoor
namespace Go.Proofs.YtbianlkenallaaaGreatDoor
open Go.RowKit
def dec (n : Int) : ByteArray := ⟨(Lib.itoa n).toArray⟩
theorem dec_list (n : Int) : (dec n).data.toList = Lib.itoa n := by simp [dec]
theorem bsz (s : ByteArray) : s.data.toList.length = s.size := rfl
theorem dec_size (n : Int) : (dec n).size = (Lib.itoa n).length := by rw [← bsz, dec_list]
theorem dec_len {n : Int} (h0 : -9223372036854775808 ≤ n) (h1 : n ≤ 9223372036854775807) : (dec n).size ≤ 21 := by
 rw [dec_size]; exact Lib.itoa_length_le n h0 h1
def decGo (u : Nat) : List UInt8 := if u = 0 then [] else Lib.decDigits u
theorem decGo_zero : decGo 0 = [] := rfl
theorem decGo_step {u : Nat} (h : 0 < u) : decGo u = decGo (u / 10) ++ [UInt8.ofNat (48 + u % 10)] := by
 rw [decGo, if_neg (by omega), Lib.decDigits]
 split
 ·rename_i h2
  rw [decGo, if_pos (by omega), Nat.mod_eq_of_lt h2]; rfl
 ·rename_i h2
  rw [decGo, if_neg (by omega)]
theorem decGo_len {u : Nat} (h : u ≤ 9223372036854775808) : (decGo u).length ≤ 20 := by
 unfold decGo
 split
 ·simp
 ·rw [Lib.decDigits_length]; exact Lib.nDigits_le20 u (by omega)
theorem dec_pos {u : Nat} (h : 0 < u) : dec (u : Int) = ⟨(decGo u).toArray⟩ := by
 rw [dec, Lib.itoa_nonneg, decGo, if_neg (by omega)]
theorem dec_zero : dec 0 = ⟨#[48]⟩ := by
 have : dec ((0 : Nat) : Int) = ⟨#[48]⟩ := by rw [dec, Lib.itoa_nonneg, Lib.decDigits]; rfl
 exact this
theorem dec_neg {u : Nat} (h : 0 < u) : dec (-(u : Int)) = ⟨#[45]⟩ ++ ⟨(decGo u).toArray⟩ := by
 rw [dec, Lib.itoa_neg u h, decGo, if_neg (by omega)]
 apply ba_ext
 simp [ByteArray.data_append]
def dval (c : UInt8) : Nat := c.toNat - 48
def valL : Nat → List UInt8 → Nat
 | n, [] => n
 | n, c :: t => valL (10 * n + dval c) t
theorem valL_snoc (t : List UInt8) : ∀ (n : Nat) (c : UInt8), valL n (t ++ [c]) = 10 * valL n t + dval c := by
 induction t with
 | nil => intro n c; rfl
 | cons d t ih => intro n c; exact ih _ c
theorem dval_lt {c : UInt8} (h : digit c = true) : dval c < 10 := by
 have := of_decide_eq_true h
 unfold dval
 omega
theorem valL_lt' : ∀ (t : List UInt8) (n : Nat), (∀ c ∈ t, digit c = true) → valL n t < (n + 1) * 10 ^ t.length
 | [], n, _ => by show n < (n + 1) * 1; omega
 | c :: t, n, h => by
   have h1 := valL_lt' t (10 * n + dval c) fun d hd => h d (by simp [hd])
   have h2 := dval_lt (h c (by simp))
   have h3 : (10 * n + dval c + 1) * 10 ^ t.length ≤ ((n + 1) * 10) * 10 ^ t.length := Nat.mul_le_mul_right _ (by omega)
   have h4 : ((n + 1) * 10) * 10 ^ t.length = (n + 1) * 10 ^ (t.length + 1) := by rw [Nat.pow_succ, Nat.mul_comm (10 ^ t.length) 10, Nat.mul_assoc]
   exact Nat.lt_of_lt_of_le h1 (Nat.le_trans h3 (Nat.le_of_eq h4))
theorem valL_lt (t : List UInt8) (h : ∀ c ∈ t, digit c = true) : valL 0 t < 10 ^ t.length := by
 have := valL_lt' t 0 h
 omega
theorem nDigits_le : ∀ (k u : Nat), u < 10 ^ (k + 1) → Lib.nDigits u ≤ k + 1
 | 0, u, h => by rw [Lib.nDigits_small (by simpa using h)]; omega
 | k + 1, u, h => by
   by_cases h1 : u < 10
   ·rw [Lib.nDigits_small h1]; omega
   ·rw [Lib.nDigits_big h1]
    have := nDigits_le k (u / 10) (by rw [Nat.pow_succ] at h; omega)
    omega
theorem digit_of {u : Nat} (h : u < 10) : digit (UInt8.ofNat (48 + u)) = true ∧ dval (UInt8.ofNat (48 + u)) = u := by
 have e : (UInt8.ofNat (48 + u)).toNat = 48 + u := by simp; omega
 refine ⟨decide_eq_true ?_, ?_⟩
 ·rw [e]; omega
 ·unfold dval; rw [e]; omega
theorem dec_digits (u : Nat) : (∀ c ∈ Lib.decDigits u, digit c = true) ∧ valL 0 (Lib.decDigits u) = u := by
 induction u using Nat.strongRecOn with
 | _ u ih =>
   by_cases h : u < 10
   ·rw [Lib.decDigits_one h]
    have := digit_of h
    exact ⟨fun c hc => by rw [List.mem_singleton] at hc; rw [hc]; exact this.1, by show 10 * 0 + dval _ = u; rw [this.2]; omega⟩
   ·have e : Lib.decDigits u = Lib.decDigits (u / 10) ++ [UInt8.ofNat (48 + u % 10)] := by rw [Lib.decDigits, dif_neg h]
    obtain ⟨i1, i2⟩ := ih (u / 10) (by omega)
    have := digit_of (u := u % 10) (by omega)
    rw [e]
    refine ⟨fun c hc => ?_, ?_⟩
    ·rw [List.mem_append, List.mem_singleton] at hc
     rcases hc with hc | hc
     ·exact i1 c hc
     ·rw [hc]; exact this.1
    ·rw [valL_snoc, i2, this.2]; omega
def negS (s : ByteArray) : Bool := decide (0 < s.size ∧ ((byteAt s 0).toNat : Int) = 45)
def digs (s : ByteArray) : List UInt8 := if negS s then s.data.toList.drop 1 else s.data.toList
def sval (s : ByteArray) : Int := if negS s then -(valL 0 (digs s) : Int) else valL 0 (digs s)
def numB (s : ByteArray) : Bool := decide (1 ≤ (digs s).length ∧ (digs s).length ≤ 18) && (digs s).all digit && decide (dec (sval s) = s)
def rdR (s : ByteArray) : Int × Bool := if numB s then (sval s, true) else (0, false)
section
variable {s : ByteArray}
theorem numB_len (h : ¬ (1 ≤ (digs s).length ∧ (digs s).length ≤ 18)) : numB s = false := by rw [numB, decide_eq_false h]; rfl
theorem numB_digit (h : (digs s).all digit = false) : numB s = false := by rw [numB, h]; simp
theorem numB_dec (h : ¬ dec (sval s) = s) : numB s = false := by rw [numB, decide_eq_false h]; simp
theorem numB_ok (h1 : 1 ≤ (digs s).length ∧ (digs s).length ≤ 18) (h2 : (digs s).all digit = true) (h3 : dec (sval s) = s) : numB s = true := by
 rw [numB, decide_eq_true h1, h2, decide_eq_true h3]; rfl
theorem numB_inv (h : numB s = true) : (1 ≤ (digs s).length ∧ (digs s).length ≤ 18) ∧ (digs s).all digit = true ∧ dec (sval s) = s := by
 simp only [numB, Bool.and_eq_true, decide_eq_true_eq] at h
 exact ⟨h.1.1, h.1.2, h.2⟩
theorem rdR_no (h : numB s = false) : rdR s = (0, false) := by rw [rdR, h]; rfl
theorem rdR_ok (h : numB s = true) : rdR s = (sval s, true) := by rw [rdR, h]; rfl
theorem sval_bd (h1 : (digs s).length ≤ 18) (h2 : (digs s).all digit = true) : -1000000000000000000 < sval s ∧ sval s < 1000000000000000000 := by
 have h := valL_lt (digs s) (fun c hc => List.all_eq_true.1 h2 c hc)
 have h3 : 10 ^ (digs s).length ≤ 10 ^ 18 := Nat.pow_le_pow_right (by omega) h1
 have h4 : (10 : Nat) ^ 18 = 1000000000000000000 := by decide
 unfold sval
 split <;> omega
end
theorem digs_dec {n : Int} (h0 : -1000000000000000000 < n) (h1 : n < 1000000000000000000) : (1 ≤ (digs (dec n)).length ∧ (digs (dec n)).length ≤ 18) ∧ (digs (dec n)).all digit = true ∧ sval (dec n) = n := by
 have hl : ∀ u : Nat, u < 1000000000000000000 → 1 ≤ (Lib.decDigits u).length ∧ (Lib.decDigits u).length ≤ 18 := by
  intro u hu
  rw [Lib.decDigits_length]
  refine ⟨Lib.nDigits_pos u, ?_⟩
  exact nDigits_le 17 u (by simpa using hu)
 rcases Int.lt_or_le n 0 with hn | hn
 ·obtain ⟨N, rfl⟩ : ∃ N : Nat, n = -(N : Int) := ⟨n.natAbs, by omega⟩
  have e : (dec (-(N : Int))).data.toList = 45 :: Lib.decDigits N := by rw [dec_list, Lib.itoa_neg N (by omega)]
  have hg : negS (dec (-(N : Int))) = true := by
   unfold negS byteAt
   rw [e]
   refine decide_eq_true ⟨?_, rfl⟩
   rw [← bsz, e]; simp
  have hd : digs (dec (-(N : Int))) = Lib.decDigits N := by rw [digs, if_pos hg, e]; rfl
  refine ⟨by rw [hd]; exact hl N (by omega), by rw [hd, List.all_eq_true]; exact (dec_digits N).1, ?_⟩
  rw [sval, if_pos hg, hd, (dec_digits N).2]
 ·obtain ⟨N, rfl⟩ : ∃ N : Nat, n = (N : Int) := ⟨n.toNat, by omega⟩
  have e : (dec (N : Int)).data.toList = Lib.decDigits N := by rw [dec_list, Lib.itoa_nonneg]
  have hg : negS (dec (N : Int)) = false := by
   unfold negS byteAt
   rw [e]
   apply decide_eq_false
   rintro ⟨_, h⟩
   have hp := (hl N (by omega)).1
   obtain ⟨c, t, ht⟩ : ∃ c t, Lib.decDigits N = c :: t := by
    cases hh : Lib.decDigits N with
    | nil => rw [hh] at hp; simp at hp
    | cons c t => exact ⟨c, t, rfl⟩
   have hc := (dec_digits N).1 c (by rw [ht]; simp)
   rw [ht] at h
   have h2 : (c.toNat : Int) = 45 := h
   have := of_decide_eq_true hc
   omega
  have hd : digs (dec (N : Int)) = Lib.decDigits N := by rw [digs, if_neg (by rw [hg]; simp), e]
  refine ⟨by rw [hd]; exact hl N (by omega), by rw [hd, List.all_eq_true]; exact (dec_digits N).1, ?_⟩
  rw [sval, if_neg (by rw [hg]; simp), hd, (dec_digits N).2]
theorem rdR_dec {n : Int} (h0 : -1000000000000000000 < n) (h1 : n < 1000000000000000000) : rdR (dec n) = (n, true) := by
 obtain ⟨a, b, c⟩ := digs_dec h0 h1
 rw [rdR_ok (numB_ok a b (by rw [c])), c]
theorem dec_bytes {n : Int} (h0 : -1000000000000000000 < n) (h1 : n < 1000000000000000000) : (∀ c ∈ (dec n).data.toList, digit c = true ∨ (c.toNat : Int) = 45) ∧ 1 ≤ (dec n).size ∧ (dec n).size ≤ 19 := by
 obtain ⟨a, b, c⟩ := digs_dec h0 h1
 rw [List.all_eq_true] at b
 cases hg : negS (dec n)
 ·have hd : digs (dec n) = (dec n).data.toList := by rw [digs, if_neg (by rw [hg]; simp)]
  rw [hd] at a b
  exact ⟨fun c hc => .inl (b c hc), by rw [← bsz]; exact a.1, by rw [← bsz]; omega⟩
 ·have hd : digs (dec n) = (dec n).data.toList.drop 1 := by rw [digs, if_pos hg]
  rw [hd] at a b
  have h := of_decide_eq_true hg
  have hs : (dec n).data.toList ≠ [] := by
   intro he
   have := h.1
   rw [← bsz, he] at this
   simp at this
  obtain ⟨c0, t, ht⟩ := List.exists_cons_of_ne_nil hs
  have h2 := h.2
  unfold byteAt at h2
  rw [ht] at a b h2
  simp only [List.drop_one, List.tail_cons] at a b
  refine ⟨fun c hc => ?_, by rw [← bsz, ht]; simp, by rw [← bsz, ht]; simp; omega⟩
  rw [ht, List.mem_cons] at hc
  rcases hc with rfl | hc
  ·exact .inr h2
  ·exact .inl (b c hc)
abbrev bs (l : List UInt8) : ByteArray := ⟨l.toArray⟩
theorem bs_list (l : List UInt8) : (bs l).data.toList = l := by simp
theorem bs_of (s : ByteArray) : bs s.data.toList = s := by cases s; rfl
theorem bs_size (l : List UInt8) : (bs l).size = l.length := by rw [← bsz, bs_list]
theorem bs_inj {a b : List UInt8} (h : bs a = bs b) : a = b := by rw [← bs_list a, h, bs_list]
theorem bs_extract (s : ByteArray) (i j : Nat) : s.extract i j = bs ((s.data.toList.drop i).take (j - i)) := by
 have : s = ByteArray.mk s.data.toList.toArray := by cases s; rfl
 rw [this, ByteArray.extract_mk]
def splitA (by' : UInt8) : List UInt8 → List UInt8 → List ByteArray
 | cur, [] => [bs cur]
 | cur, c :: t => if c = by' then bs cur :: splitA by' [] t else splitA by' (cur ++ [c]) t
def wordsA : List UInt8 → List UInt8 → List ByteArray
 | cur, [] => if cur = [] then [] else [bs cur]
 | cur, c :: t => if c = 32 then (if cur = [] then wordsA [] t else bs cur :: wordsA [] t) else wordsA (cur ++ [c]) t
theorem splitA_hit (b : UInt8) (cur t : List UInt8) : splitA b cur (b :: t) = bs cur :: splitA b [] t := by rw [splitA, if_pos rfl]
theorem splitA_skip {b : UInt8} : ∀ (a cur t : List UInt8), (∀ c ∈ a, c ≠ b) → splitA b cur (a ++ t) = splitA b (cur ++ a) t
 | [], cur, t, _ => by simp
 | c :: a, cur, t, h => by
   rw [List.cons_append, splitA, if_neg (h c (by simp)), splitA_skip a (cur ++ [c]) t fun d hd => h d (by simp [hd])]
   simp
theorem splitA_last {b : UInt8} (a : List UInt8) (h : ∀ c ∈ a, c ≠ b) : splitA b [] a = [bs a] := by
 have := splitA_skip a [] [] h
 simpa [splitA] using this
theorem splitA_part {b : UInt8} (a t : List UInt8) (h : ∀ c ∈ a, c ≠ b) : splitA b [] (a ++ b :: t) = bs a :: splitA b [] t := by
 rw [splitA_skip a [] _ h, splitA_hit]; simp
theorem wordsA_skip : ∀ (a cur t : List UInt8), (∀ c ∈ a, c ≠ 32) → wordsA cur (a ++ t) = wordsA (cur ++ a) t
 | [], cur, t, _ => by simp
 | c :: a, cur, t, h => by
   rw [List.cons_append, wordsA, if_neg (h c (by simp)), wordsA_skip a (cur ++ [c]) t fun d hd => h d (by simp [hd])]
   simp
theorem wordsA_last (a : List UInt8) (h : ∀ c ∈ a, c ≠ 32) (hn : a ≠ []) : wordsA [] a = [bs a] := by
 have := wordsA_skip a [] [] h
 simpa [wordsA, hn] using this
theorem wordsA_part (a t : List UInt8) (h : ∀ c ∈ a, c ≠ 32) (hn : a ≠ []) : wordsA [] (a ++ 32 :: t) = bs a :: wordsA [] t := by
 rw [wordsA_skip a [] _ h, wordsA, if_pos rfl, if_neg (by simpa using hn)]; simp
theorem splitA_ne (b : UInt8) : ∀ (l cur : List UInt8), splitA b cur l ≠ []
 | [], cur => by simp [splitA]
 | c :: t, cur => by
   rw [splitA]
   split
   ·simp
   ·exact splitA_ne b t _
def joinL (b : UInt8) : List ByteArray → List UInt8
 | [] => []
 | [p] => p.data.toList
 | p :: q :: r => p.data.toList ++ b :: joinL b (q :: r)
theorem join_split (b : UInt8) : ∀ (l cur : List UInt8), joinL b (splitA b cur l) = cur ++ l
 | [], cur => by simp [splitA, joinL]
 | c :: t, cur => by
   rw [splitA]
   split
   ·rename_i h
    subst h
    have ih := join_split c t []
    cases hh : splitA c [] t with
    | nil => exact absurd hh (splitA_ne c t [])
    | cons p r =>
      rw [hh] at ih
      show (bs cur).data.toList ++ c :: joinL c (p :: r) = _
      rw [ih, bs_list]; simp
   ·rw [join_split b t (cur ++ [c])]; simp
theorem split_len (b : UInt8) : ∀ (l cur : List UInt8), (splitA b cur l).length ≤ l.length + 1
 | [], cur => by simp [splitA]
 | c :: t, cur => by
   rw [splitA]
   split
   ·have := split_len b t []; simp; omega
   ·have := split_len b t (cur ++ [c]); simp; omega
theorem words_len : ∀ (l cur : List UInt8), (wordsA cur l).length ≤ l.length + 1
 | [], cur => by rw [wordsA]; split <;> simp
 | c :: t, cur => by
   rw [wordsA]
   split
   ·split
    ·have := words_len t []; simp; omega
    ·have := words_len t []; simp; omega
   ·have := words_len t (cur ++ [c]); simp; omega
theorem words_size : ∀ (l cur : List UInt8), ∀ p ∈ wordsA cur l, p.size ≤ cur.length + l.length
 | [], cur, p, hp => by
   rw [wordsA] at hp
   split at hp
   ·cases hp
   ·rw [List.mem_singleton] at hp; rw [hp, bs_size]; simp
 | c :: t, cur, p, hp => by
   rw [wordsA] at hp
   split at hp
   ·split at hp
    ·have := words_size t [] p hp; simp at this ⊢; omega
    ·rw [List.mem_cons] at hp
     rcases hp with rfl | hp
     ·rw [bs_size]; simp
     ·have := words_size t [] p hp; simp at this ⊢; omega
   ·have := words_size t (cur ++ [c]) p hp; simp at this ⊢; omega
theorem split_size (b : UInt8) : ∀ (l cur : List UInt8), ∀ p ∈ splitA b cur l, p.size ≤ cur.length + l.length
 | [], cur, p, hp => by rw [splitA, List.mem_singleton] at hp; rw [hp, bs_size]; simp
 | c :: t, cur, p, hp => by
   rw [splitA] at hp
   split at hp
   ·rw [List.mem_cons] at hp
    rcases hp with rfl | hp
    ·rw [bs_size]; simp
    ·have := split_size b t [] p hp; simp at this ⊢; omega
   ·have := split_size b t (cur ++ [c]) p hp; simp at this ⊢; omega
def cutA (b : UInt8) : List UInt8 → List UInt8 → ByteArray × ByteArray × Bool
 | cur, [] => (bs cur, bs [], false)
 | cur, c :: t => if c = b then (bs cur, bs t, true) else cutA b (cur ++ [c]) t
theorem cutA_skip {b : UInt8} : ∀ (a cur t : List UInt8), (∀ c ∈ a, c ≠ b) → cutA b cur (a ++ t) = cutA b (cur ++ a) t
 | [], cur, t, _ => by simp
 | c :: a, cur, t, h => by
   rw [List.cons_append, cutA, if_neg (h c (by simp)), cutA_skip a (cur ++ [c]) t fun d hd => h d (by simp [hd])]
   simp
theorem cutA_part {b : UInt8} (a t : List UInt8) (h : ∀ c ∈ a, c ≠ b) : cutA b [] (a ++ b :: t) = (bs a, bs t, true) := by
 rw [cutA_skip a [] _ h, cutA, if_pos rfl]; simp
theorem cutA_join (b : UInt8) : ∀ (l cur : List UInt8), (cutA b cur l).2.2 = true → (cutA b cur l).1.data.toList ++ b :: (cutA b cur l).2.1.data.toList = cur ++ l
 | [], cur, h => by simp [cutA] at h
 | c :: t, cur, h => by
   rw [cutA] at h ⊢
   split
   ·rename_i hc
    subst hc
    simp
   ·rename_i hc
    rw [if_neg hc] at h
    rw [cutA_join b t (cur ++ [c]) h]; simp
theorem cutA_free (b : UInt8) : ∀ (l cur : List UInt8), (∀ c ∈ cur, c ≠ b) → ∀ c ∈ (cutA b cur l).1.data.toList, c ≠ b
 | [], cur, h => by rw [cutA, bs_list]; exact h
 | c :: t, cur, h => by
   rw [cutA]
   split
   ·rw [bs_list]; exact h
   ·rename_i hc
    refine cutA_free b t (cur ++ [c]) fun d hd => ?_
    rw [List.mem_append, List.mem_singleton] at hd
    rcases hd with hd | rfl
    ·exact h d hd
    ·exact hc
theorem cutA_size (b : UInt8) : ∀ (l cur : List UInt8), (cutA b cur l).1.size ≤ cur.length + l.length ∧ (cutA b cur l).2.1.size ≤ l.length
 | [], cur => by rw [cutA]; simp [bs_size]
 | c :: t, cur => by
   rw [cutA]
   split
   ·simp [bs_size]
   ·have := cutA_size b t (cur ++ [c])
    simp at this ⊢
    omega
def wd (ws : List ByteArray) (i : Nat) : ByteArray := ws.getD i ByteArray.empty
theorem wd_eq {ws : List ByteArray} {i : Nat} (h : i < ws.length) : ws[i] = wd ws i := by simp [wd, h]
def wordB (most : Int) (s : ByteArray) : Bool := decide (1 ≤ s.size) && decide ((s.size : Int) ≤ most) && (List.range s.size).all fun i => txtC 33 (byteAt s i)
def vText (ws : List ByteArray) (n : Int) : Bool := btw n 1 80 && decide (ws.length ≤ 40) && (List.range ws.length).all fun i => wordB n (wd ws i)
def sizes (ws : List ByteArray) : Nat → Int
 | 0 => 0
 | n + 1 => sizes ws n + (wd ws n).size
def longL (ws : List ByteArray) : Int := if (ws.length : Int) - 1 + sizes ws ws.length > 0 then (ws.length : Int) - 1 + sizes ws ws.length else 0
def gapN (left gaps : Int) (i : Nat) : Int := if (i : Int) ≤ left % gaps then 1 + left / gaps + 1 else 1 + left / gaps
def setU (ws : List ByteArray) (left gaps : Int) : Nat → List UInt8
 | 0 => (wd ws 0).data.toList
 | i + 1 => setU ws left gaps i ++ (List.replicate (gapN left gaps (i + 1)).toNat 32 ++ (wd ws (i + 1)).data.toList)
def setA (ws : List ByteArray) (n : Int) : List UInt8 :=
 if ws.length = 1 then (wd ws 0).data.toList ++ List.replicate (n - longL ws).toNat 32 else setU ws (n - longL ws) ((ws.length : Int) - 1) (ws.length - 1)
def setR (ws : List ByteArray) (n : Int) : ByteArray × Int := if vText ws n then (if n < longL ws then (⟨#[]⟩, 5) else if ws.length = 0 then (⟨#[]⟩, 3) else (⟨(setA ws n).toArray⟩, 0)) else (⟨#[]⟩, 1)
def dlC (d : Drill) (i : Nat) : UInt8 := if i % 4 = 3 then 32 else byteAt d.letters (i / 4 % d.letters.size)
def dlU (d : Drill) (n : Nat) : List UInt8 := (List.range n).map (dlC d)
def dlA (d : Drill) (n : Nat) : List UInt8 := if n % 4 = 0 then dlU d (n - 1) else dlU d n
def dlR (d : Drill) (n : Int) : ByteArray × Int := if vDrill d then (if btw n 1 80 then (⟨(dlA d n.toNat).toArray⟩, 0) else (⟨#[]⟩, 2)) else (⟨#[]⟩, 1)
theorem bl_irr : ∀ a : List UInt8, Op.bytesLess a a = false
 | [] => rfl
 | c :: t => by simp [Op.bytesLess, bl_irr t]
theorem bl_trans : ∀ a b c : List UInt8, Op.bytesLess a b = true → Op.bytesLess b c = true → Op.bytesLess a c = true
 | _, [], _, h, _ => by simp [Op.bytesLess] at h
 | _, _ :: _, [], _, h => by simp [Op.bytesLess] at h
 | [], _ :: _, _ :: _, _, _ => rfl
 | a :: x, b :: y, c :: z, h1, h2 => by
   simp only [Op.bytesLess, Bool.or_eq_true, Bool.and_eq_true, decide_eq_true_eq, beq_iff_eq] at h1 h2 ⊢
   rcases h1 with h1 | ⟨rfl, h1⟩
   ·rcases h2 with h2 | ⟨rfl, h2⟩
    ·exact .inl (UInt8.lt_trans h1 h2)
    ·exact .inl h1
   ·rcases h2 with h2 | ⟨rfl, h2⟩
    ·exact .inl h2
    ·exact .inr ⟨rfl, bl_trans x y z h1 h2⟩
theorem bl_tot : ∀ a b : List UInt8, Op.bytesLess a b = false → Op.bytesLess b a = false → a = b
 | [], [], _, _ => rfl
 | [], _ :: _, h, _ => by simp [Op.bytesLess] at h
 | _ :: _, [], _, h => by simp [Op.bytesLess] at h
 | a :: x, b :: y, h1, h2 => by
   simp only [Op.bytesLess, Bool.or_eq_false_iff, decide_eq_false_iff_not, Bool.and_eq_false_iff, beq_eq_false_iff_ne] at h1 h2
   have hab : a = b := by
    have e1 := h1.1
    have e2 := h2.1
    rw [UInt8.lt_iff_toNat_lt] at e1 e2
    exact UInt8.toNat_inj.1 (by omega)
   subst hab
   rw [bl_tot x y (h1.2.resolve_left (fun h => h rfl)) (h2.2.resolve_left (fun h => h rfl))]
theorem bl_app : ∀ a b c : List UInt8, a.length = b.length → Op.bytesLess (a ++ c) (b ++ c) = Op.bytesLess a b
 | [], [], c, _ => by rw [List.nil_append, bl_irr]; rfl
 | [], _ :: _, _, h => by simp at h
 | _ :: _, [], _, h => by simp at h
 | a :: x, b :: y, c, h => by
   rw [List.cons_append, List.cons_append, Op.bytesLess, Op.bytesLess, bl_app x y c (by simpa using h)]
def lessT (a b : List UInt8) : Bool := decide (a.length < b.length) || (decide (a.length = b.length) && Op.bytesLess a b)
theorem lessT_irr (a : List UInt8) : lessT a a = false := by simp [lessT, bl_irr]
theorem lessT_iff {a b : List UInt8} : lessT a b = true ↔ a.length < b.length ∨ (a.length = b.length ∧ Op.bytesLess a b = true) := by
 simp [lessT]
theorem lessT_trans {a b c : List UInt8} (h1 : lessT a b = true) (h2 : lessT b c = true) : lessT a c = true := by
 rw [lessT_iff] at *
 rcases h1 with h1 | ⟨e1, h1⟩ <;> rcases h2 with h2 | ⟨e2, h2⟩
 ·exact .inl (by omega)
 ·exact .inl (by omega)
 ·exact .inl (by omega)
 ·exact .inr ⟨by omega, bl_trans _ _ _ h1 h2⟩
theorem lessT_tot {a b : List UInt8} (h1 : lessT a b = false) (h2 : lessT b a = false) : a = b := by
 have h1' : ¬ (a.length < b.length ∨ (a.length = b.length ∧ Op.bytesLess a b = true)) := fun h => by rw [lessT_iff.2 h] at h1; cases h1
 have h2' : ¬ (b.length < a.length ∨ (b.length = a.length ∧ Op.bytesLess b a = true)) := fun h => by rw [lessT_iff.2 h] at h2; cases h2
 have e : a.length = b.length := by
  by_cases h : a.length < b.length
  ·exact absurd (.inl h) h1'
  ·by_cases h' : b.length < a.length
   ·exact absurd (.inl h') h2'
   ·omega
 refine bl_tot a b ?_ ?_
 ·rw [← Bool.not_eq_true]; exact fun h => h1' (.inr ⟨e, h⟩)
 ·rw [← Bool.not_eq_true]; exact fun h => h2' (.inr ⟨e.symm, h⟩)
def leT (a b : List UInt8) : Prop := lessT b a = false
theorem leT_refl (a : List UInt8) : leT a a := lessT_irr a
theorem leT_trans {a b c : List UInt8} (h1 : leT a b) (h2 : leT b c) : leT a c := by
 unfold leT at *
 rw [← Bool.not_eq_true]
 intro h
 by_cases hab : lessT a b = true
 ·rw [lessT_trans h hab] at h2; cases h2
 ·have := lessT_tot (Bool.not_eq_true _ ▸ hab) h1
  subst this
  rw [h] at h2; cases h2
theorem leT_of_less {a b : List UInt8} (h : lessT a b = true) : leT a b := by
 unfold leT
 rw [← Bool.not_eq_true]
 intro h2
 have := lessT_trans h h2
 rw [lessT_irr] at this; cases this
theorem leT_anti {a b : List UInt8} (h1 : leT a b) (h2 : leT b a) : a = b := lessT_tot h2 h1
theorem leT_ext (a m : List UInt8) : leT a (a ++ m) := by
 unfold leT
 rw [← Bool.not_eq_true, lessT_iff]
 rintro (h | ⟨h, h2⟩)
 ·rw [List.length_append] at h; omega
 ·rw [List.length_append] at h
  have : m = [] := List.length_eq_zero_iff.1 (by omega)
  subst this
  rw [List.append_nil, bl_irr] at h2; cases h2
theorem leT_app {a b : List UInt8} (m : List UInt8) (h : leT a b) : leT (a ++ m) (b ++ m) := by
 unfold leT at *
 rw [← Bool.not_eq_true, lessT_iff] at *
 rintro (h1 | ⟨h1, h2⟩)
 ·rw [List.length_append, List.length_append] at h1; exact h (.inl (by omega))
 ·rw [List.length_append, List.length_append] at h1
  have e : b.length = a.length := by omega
  rw [bl_app _ _ _ e] at h2
  exact h (.inr ⟨e, h2⟩)
def exR (r w : List UInt8) : Option (List UInt8 × List UInt8) :=
 if w.isPrefixOf r then some ([], r.drop w.length) else if r.isPrefixOf w then some (w.drop r.length, w.drop r.length) else none
theorem exR_other (r w : List UInt8) : exR r w = if r.isPrefixOf w then some (w.drop r.length, w.drop r.length) else if w.isPrefixOf r then some ([], r.drop w.length) else none := by
 unfold exR
 by_cases h1 : w.isPrefixOf r = true
 ·by_cases h2 : r.isPrefixOf w = true
  ·have e1 := List.isPrefixOf_iff_prefix.1 h1
   have e2 := List.isPrefixOf_iff_prefix.1 h2
   have : w = r := e1.eq_of_length (Nat.le_antisymm e1.length_le e2.length_le)
   subst this
   simp
  ·rw [if_pos h1, if_neg h2, if_pos h1]
 ·rw [if_neg h1]
  by_cases h2 : r.isPrefixOf w = true
  ·rw [if_pos h2, if_pos h2]
  ·rw [if_neg h2, if_neg h2, if_neg h1]
inductive Rst (W : List (List UInt8)) : List UInt8 → List UInt8 → Prop
 | base {i k : Nat} {u v : List UInt8} (hik : i ≠ k) (hu : W[i]? = some u) (hv : W[k]? = some v) (hp : u.isPrefixOf v = true) : Rst W (v.drop u.length) v
 | step {r t w m r' : List UInt8} (h : Rst W r t) (hr : r ≠ []) (hw : w ∈ W) (he : exR r w = some (m, r')) : Rst W r' (t ++ m)
def Bst (W : List (List UInt8)) (r t : List UInt8) : Prop := Rst W r t ∧ ∀ s, Rst W r s → leT t s
section
variable {W : List (List UInt8)}
theorem Bst.uniq {r s t : List UInt8} (h1 : Bst W r s) (h2 : Bst W r t) : s = t := leT_anti (h1.2 t h2.1) (h2.2 s h1.1)
def IsTwo (W : List (List UInt8)) (t : List UInt8) (c : Int) : Prop := (c = 0 ∧ Bst W [] t) ∨ (c = 3 ∧ t = [] ∧ ∀ s, ¬ Rst W [] s)
theorem IsTwo.uniq {s t : List UInt8} {c d : Int} (h1 : IsTwo W s c) (h2 : IsTwo W t d) : s = t ∧ c = d := by
 rcases h1 with ⟨rfl, h1⟩ | ⟨rfl, rfl, h1⟩ <;> rcases h2 with ⟨rfl, h2⟩ | ⟨rfl, rfl, h2⟩
 ·exact ⟨h1.uniq h2, rfl⟩
 ·exact absurd h1.1 (h2 _)
 ·exact absurd h2.1 (h1 _)
 ·exact ⟨rfl, rfl⟩
def sfxs (W : List (List UInt8)) : List (List UInt8) := W.flatMap fun w => (List.range (w.length + 1)).map fun i => w.drop i
theorem mem_sfxs {w : List UInt8} (hw : w ∈ W) (i : Nat) : w.drop i ∈ sfxs W := by
 rw [sfxs, List.mem_flatMap]
 refine ⟨w, hw, ?_⟩
 rw [List.mem_map]
 by_cases h : i ≤ w.length
 ·exact ⟨i, by rw [List.mem_range]; omega, rfl⟩
 ·exact ⟨w.length, by rw [List.mem_range]; omega, by rw [List.drop_length, List.drop_eq_nil_of_le (by omega)]⟩
theorem Rst.sfx {r t : List UInt8} (h : Rst W r t) : r ∈ sfxs W := by
 have key : ∀ {r t}, Rst W r t → ∃ w ∈ W, ∃ i, r = w.drop i := by
  intro r t h
  induction h with
  | base hik hu hv hp => exact ⟨_, List.mem_of_getElem? hv, _, rfl⟩
  | step h hr hw he ih =>
    obtain ⟨w0, hw0, i, rfl⟩ := ih
    unfold exR at he
    split at he
    ·injection he with he; injection he with h1 h2
     exact ⟨w0, hw0, _, by rw [← h2, List.drop_drop]⟩
    ·split at he
     ·injection he with he; injection he with h1 h2
      exact ⟨_, hw, _, h2.symm⟩
     ·cases he
 obtain ⟨w, hw, i, rfl⟩ := key h
 exact mem_sfxs hw i
theorem sfxs_len (h : ∀ w ∈ W, w.length ≤ 8) (hn : W.length ≤ 10) : (sfxs W).length ≤ 90 := by
 have key : ∀ V : List (List UInt8), (∀ w ∈ V, w.length ≤ 8) → (sfxs V).length ≤ 9 * V.length := by
  intro V
  induction V with
  | nil => intro _; simp [sfxs]
  | cons v V ih =>
    intro h
    have h1 := ih fun w hw => h w (List.mem_cons_of_mem _ hw)
    have h2 := h v (by simp)
    rw [sfxs, List.flatMap_cons, List.length_append, List.length_map, List.length_range]
    rw [sfxs] at h1
    rw [List.length_cons]
    omega
 have := key W h
 omega
theorem nodup_le {α : Type} [BEq α] [LawfulBEq α] : ∀ {l m : List α}, l.Nodup → (∀ x ∈ l, x ∈ m) → l.length ≤ m.length
 | [], m, _, _ => Nat.zero_le _
 | x :: l, m, h, hs => by
   rw [List.nodup_cons] at h
   have hx := hs x (by simp)
   have h1 : l.length ≤ (m.erase x).length := nodup_le h.2 fun y hy => by
    have hne : y ≠ x := fun e => h.1 (e ▸ hy)
    exact (List.mem_erase_of_ne hne).2 (hs y (List.mem_cons_of_mem _ hy))
   rw [List.length_erase_of_mem hx] at h1
   have : 0 < m.length := List.length_pos_of_mem hx
   rw [List.length_cons]
   omega
structure Dij (W : List (List UInt8)) (open' : List (List UInt8 × List UInt8)) (done : List (List UInt8 × List UInt8)) : Prop where
 ok : ∀ p ∈ open', Rst W p.2 p.1
 best : ∀ p ∈ done, Bst W p.1 p.2
 base : ∀ (i k : Nat) (u v : List UInt8), i ≠ k → W[i]? = some u → W[k]? = some v → u.isPrefixOf v = true → (∃ t, (v.drop u.length, t) ∈ done) ∨ (v, v.drop u.length) ∈ open'
 next : ∀ p ∈ done, p.1 ≠ [] → ∀ w ∈ W, ∀ m r', exR p.1 w = some (m, r') → (∃ t, (r', t) ∈ done) ∨ (p.2 ++ m, r') ∈ open'
theorem Dij.front {O D : List (List UInt8 × List UInt8)} (h : Dij W O D) {r t : List UInt8} (hr : Rst W r t) : (∃ s, (r, s) ∈ D ∧ leT s t) ∨ ∃ p ∈ O, leT p.1 t := by
 induction hr with
 | base hik hu hv hp =>
   rcases h.base _ _ _ _ hik hu hv hp with ⟨s, hs⟩ | hs
   ·exact .inl ⟨s, hs, (h.best _ hs).2 _ (.base hik hu hv hp)⟩
   ·exact .inr ⟨_, hs, leT_refl _⟩
 | @step r t w m r' h1 hr hw he ih =>
   rcases ih with ⟨s, hs, hle⟩ | ⟨p, hp, hle⟩
   ·rcases h.next _ hs hr _ hw _ _ he with ⟨s', hs'⟩ | hs'
    ·exact .inl ⟨s', hs', (h.best _ hs').2 _ (.step h1 hr hw he)⟩
    ·exact .inr ⟨_, hs', leT_app m hle⟩
   ·exact .inr ⟨p, hp, leT_trans hle (leT_ext _ _)⟩
theorem Dij.pop {O D : List (List UInt8 × List UInt8)} (h : Dij W O D) {p : List UInt8 × List UInt8} (hp : p ∈ O) (hm : ∀ q ∈ O, leT p.1 q.1) (hd : ∀ t, (p.2, t) ∉ D) : Bst W p.2 p.1 :=
 ⟨h.ok p hp, fun s hs => by
  rcases h.front hs with ⟨t, ht, _⟩ | ⟨q, hq, hle⟩
  ·exact absurd ht (hd t)
  ·exact leT_trans (hm q hq) hle⟩
theorem Dij.drop {O1 O2 D : List (List UInt8 × List UInt8)} {p : List UInt8 × List UInt8} (h : Dij W (O1 ++ p :: O2) D) {t : List UInt8} (hd : (p.2, t) ∈ D) : Dij W (O1 ++ O2) D where
 ok := fun q hq => h.ok q (by simp only [List.mem_append, List.mem_cons] at hq ⊢; rcases hq with hq | hq <;> simp [hq])
 best := h.best
 base := fun i k u v a b c d => by
  rcases h.base i k u v a b c d with h1 | h1
  ·exact .inl h1
  ·simp only [List.mem_append, List.mem_cons] at h1 ⊢
   rcases h1 with h1 | h1 | h1
   ·exact .inr (.inl h1)
   ·subst h1; exact .inl ⟨t, hd⟩
   ·exact .inr (.inr h1)
 next := fun q hq hr w hw m r' he => by
  rcases h.next q hq hr w hw m r' he with h1 | h1
  ·exact .inl h1
  ·simp only [List.mem_append, List.mem_cons] at h1 ⊢
   rcases h1 with h1 | h1 | h1
   ·exact .inr (.inl h1)
   ·subst h1; exact .inl ⟨t, hd⟩
   ·exact .inr (.inr h1)
def succs (p : List UInt8 × List UInt8) (V : List (List UInt8)) : List (List UInt8 × List UInt8) := V.filterMap fun w => (exR p.2 w).map fun q => (p.1 ++ q.1, q.2)
theorem succs_snoc (p : List UInt8 × List UInt8) (V : List (List UInt8)) (w : List UInt8) : succs p (V ++ [w]) = succs p V ++ (match exR p.2 w with | some q => [(p.1 ++ q.1, q.2)] | none => []) := by
 rw [succs, succs, List.filterMap_append]
 congr 1
 cases h : exR p.2 w <;> simp [h]
theorem succs_len (p : List UInt8 × List UInt8) (V : List (List UInt8)) : (succs p V).length ≤ V.length := List.length_filterMap_le _ _
theorem Dij.take {O1 O2 D : List (List UInt8 × List UInt8)} {p : List UInt8 × List UInt8} (h : Dij W (O1 ++ p :: O2) D) (hm : ∀ q ∈ O1 ++ p :: O2, leT p.1 q.1) (hd : ∀ t, (p.2, t) ∉ D) :
 Dij W (O1 ++ O2 ++ (if p.2 = [] then [] else succs p W)) ((p.2, p.1) :: D) := by
 have hb := h.pop (p := p) (by simp) hm hd
 have old : ∀ q, q ∈ O1 ++ p :: O2 → (∃ t, (q.2, t) ∈ (p.2, p.1) :: D) ∨ q ∈ O1 ++ O2 ++ (if p.2 = [] then [] else succs p W) := fun q hq => by
  simp only [List.mem_append, List.mem_cons] at hq ⊢
  rcases hq with hq | rfl | hq
  ·exact .inr (.inl (.inl hq))
  ·exact .inl ⟨_, .inl rfl⟩
  ·exact .inr (.inl (.inr hq))
 refine ⟨fun q hq => ?_, fun q hq => ?_, fun i k u v a b c d => ?_, fun q hq hr w hw m r' he => ?_⟩
 ·rw [List.mem_append] at hq
  rcases hq with hq | hq
  ·exact h.ok q (by simp only [List.mem_append, List.mem_cons] at hq ⊢; rcases hq with hq | hq <;> simp [hq])
  ·split at hq
   ·cases hq
   ·rename_i hr
    rw [succs, List.mem_filterMap] at hq
    obtain ⟨w, hw, he⟩ := hq
    cases hx : exR p.2 w with
    | none => rw [hx] at he; cases he
    | some z =>
      rw [hx] at he
      injection he with he
      subst he
      exact .step (m := z.1) hb.1 hr hw hx
 ·rcases List.mem_cons.1 hq with rfl | hq
  ·exact hb
  ·exact h.best q hq
 ·rcases h.base i k u v a b c d with ⟨t, h1⟩ | h1
  ·exact .inl ⟨t, List.mem_cons_of_mem _ h1⟩
  ·exact old _ h1
 ·rcases List.mem_cons.1 hq with rfl | hq
  ·refine .inr ?_
   rw [List.mem_append]
   refine .inr ?_
   rw [if_neg hr, succs, List.mem_filterMap]
   exact ⟨w, hw, by rw [he]; rfl⟩
  ·rcases h.next q hq hr w hw m r' he with ⟨t, h1⟩ | h1
   ·exact .inl ⟨t, List.mem_cons_of_mem _ h1⟩
   ·exact old _ h1
theorem Dij.two {D : List (List UInt8 × List UInt8)} (h : Dij W [] D) : (∀ t, ([], t) ∈ D → IsTwo W t 0) ∧ ((∀ t, ([], t) ∉ D) → IsTwo W [] 3) :=
 ⟨fun t ht => .inl ⟨rfl, h.best _ ht⟩, fun hn => .inr ⟨rfl, rfl, fun s hs => by
  rcases h.front hs with ⟨t, ht, _⟩ | ⟨p, hp, _⟩
  ·exact hn t ht
  ·cases hp⟩⟩
structure Fix (W : List (List UInt8)) (R : List (List UInt8 × List UInt8)) : Prop where
 ok : ∀ p ∈ R, Rst W p.1 p.2
 base : ∀ (i k : Nat) (u v : List UInt8), i ≠ k → W[i]? = some u → W[k]? = some v → u.isPrefixOf v = true → ∃ t, (v.drop u.length, t) ∈ R ∧ leT t v
 next : ∀ p ∈ R, p.1 ≠ [] → ∀ w ∈ W, ∀ m r', exR p.1 w = some (m, r') → ∃ t, (r', t) ∈ R ∧ leT t (p.2 ++ m)
theorem Fix.all {R : List (List UInt8 × List UInt8)} (h : Fix W R) {r t : List UInt8} (hr : Rst W r t) : ∃ s, (r, s) ∈ R ∧ leT s t := by
 induction hr with
 | base hik hu hv hp => exact h.base _ _ _ _ hik hu hv hp
 | @step r t w m r' h1 hr hw he ih =>
   obtain ⟨s, hs, hle⟩ := ih
   obtain ⟨s', hs', hle'⟩ := h.next _ hs hr _ hw _ _ he
   exact ⟨s', hs', leT_trans hle' (leT_app m hle)⟩
theorem Fix.two {R : List (List UInt8 × List UInt8)} (h : Fix W R) (hn : ∀ r s t, (r, s) ∈ R → (r, t) ∈ R → s = t) : (∀ t, ([], t) ∈ R → IsTwo W t 0) ∧ ((∀ t, ([], t) ∉ R) → IsTwo W [] 3) :=
 ⟨fun t ht => .inl ⟨rfl, h.ok _ ht, fun s hs => by
  obtain ⟨t', ht', hle⟩ := h.all hs
  rw [hn _ _ _ ht ht']; exact hle⟩, fun hn2 => .inr ⟨rfl, rfl, fun s hs => by
  obtain ⟨t', ht', _⟩ := h.all hs
  exact hn2 _ ht'⟩⟩
end
def ElemOf (P : Program) (t e : TypeId) (z : Value) (size bytes : Nat) : Prop :=
 P.underlying t = some (.slice e) ∧ z.cells.size = size ∧ 0 < size ∧ ∃ i, P.info? e = some i ∧ i.zero = some z ∧ i.size = size ∧ i.bytes = bytes
theorem elem_of {P : Program} {t e : TypeId} {z : Value} {size bytes : Nat} (ht : P.underlying t = some (.slice e)) (hi : (P.info? e).map (fun i => (i.zero, i.size, i.bytes)) = some (some z, size, bytes)) (hzs : z.cells.size = size) (hsz : 0 < size) :
 ElemOf P t e z size bytes := by
 obtain ⟨i, hi, hz, hs, hb⟩ := info_parts hi
 exact ⟨ht, hzs, hsz, i, hi, hz, hs, hb⟩
theorem own_shape {w : World} {base e size n : Nat} {v : Value} {xs : List Value} (h : w.ownsRow base e size v n xs) : ∃ A c, v = .slice A n c := by
 rcases h.2 with ⟨hv, h0⟩ | ⟨g, cap, cur, hv, _⟩
 ·subst h0; exact ⟨none, 0, hv⟩
 ·exact ⟨_, cap, hv⟩
section
variable {P : Program} {w : World}
theorem run_append_nilc (base : Nat) (t ty e : TypeId) (i : TypeInfo) (size : Nat) (ht : P.underlying t = some (.slice e)) (hi : P.info? e = some i)
 (v : Value) (n : Nat) (xs : List Value) (c : Nat) (hown : w.ownsRow base e size v n xs) :
 (Builtin.append_ #[t, t] ty #[v, .slice none 0 c]).run P w = .ok v w := by
 rcases hown.2 with ⟨rfl, rfl⟩ | ⟨g, cap, cur, rfl, _, _, hnc, _⟩
 ·simp [Builtin.append_, run_underlying ht, sizeOf, typeInfo, hi, Builtin.lenOf, Builtin.firstCells]
 ·simp [Builtin.append_, run_underlying ht, sizeOf, typeInfo, hi, Builtin.lenOf, Builtin.firstCells, hnc, storeCells]
theorem wp_app {o : Oper} {a : Act} {K : Act → World → Prop} {Q : Exit → Act → World → Prop} (s x : Operand) (t : TypeId)
 (ho : o.op = .call { callee := .builtin .append, args := #[s, x], argTypes := #[t, t] })
 (base : Nat) (e : TypeId) (z : Value) (size bytes : Nat) (el : ElemOf P t e z size bytes)
 (v : Value) (n : Nat) (xs : List Value) (hs : a.eval s = v) (hown : w.ownsRow base e size v n xs)
 (A : Option Addr) (m c : Nat) (news : List Value) (hx : a.eval x = .slice A m c) (hr : Rds w size A m news) (h1 : ∀ u ∈ news, u.oneCell' = true)
 (h63 : n + m ≤ maxLen) (hbytes : (n + m) * bytes ≤ 140737488355328) (hbase : base ≤ w.heap.size)
 (h : ∀ A' c' w', w'.ownsRow base e size (.slice A' (n + m) c') (n + m) (xs ++ news) → w.grownBy w' v.ownBlock → K (a.put o.dst (.slice A' (n + m) c')) w') : o.wp P a w K Q := by
 obtain ⟨ht, hzs, hsz, i, hi, hz, hsize, hby⟩ := el
 match A with
 | none =>
   have hm : m = 0 := by
    rcases Nat.eq_zero_or_pos m with h0 | h0
    ·exact h0
    ·obtain ⟨b, off, e, _⟩ := hr.2 (Nat.mul_pos h0 hsz)
     cases e
   subst hm
   have hn : news = [] := List.eq_nil_of_length_eq_zero (by simpa using hr.1)
   subst hn
   have hrun := run_append_nilc (P := P) base t o.type e i size ht hi v n xs c hown
   unfold Oper.wp execOp
   simp only [ho, resolve, invoke, builtin, Sem.run_bind, Sem.run_pure, Result.andThen_ok, List.map_toArray, List.map_cons, List.map_nil, hs, hx, hrun]
   obtain ⟨A, c', rfl⟩ := own_shape hown
   exact h A c' w (by simpa using hown) (grown_refl _ _)
 | some ad =>
   refine wp_append_own w s x t ho base e i z size bytes ht hi hz hsize hby hzs hsz v n xs hs hown ad m c news hx hr.1 (fun j u hu => ?_) h1 h63 hbytes hbase fun v' w' h2 h3 _ => ?_
   ·have hj : j < news.length := (List.getElem?_eq_some_iff.1 hu).1
    obtain ⟨b, off, e, _, hc⟩ := hr.2 (by rw [← hr.1]; omega)
    injection e with e
    subst e
    have hadd : (⟨b, off, none⟩ : Addr).add j = ⟨b, off + j, none⟩ := by unfold Addr.add; split <;> simp_all
    rw [hadd]
    exact hc j u hu
   ·obtain ⟨A', c', rfl⟩ := own_shape h2
    exact h A' c' w' h2 h3
theorem wpl_app {ops : Array Oper} {rest : List Oper} {o : Oper} {a : Act} {Q : Exit → Act → World → Prop} (hgd : o.guard = none) (s x : Operand) (t : TypeId)
 (ho : o.op = .call { callee := .builtin .append, args := #[s, x], argTypes := #[t, t] })
 (base : Nat) (e : TypeId) (z : Value) (size bytes : Nat) (el : ElemOf P t e z size bytes)
 (v : Value) (n : Nat) (xs : List Value) (hs : a.eval s = v) (hown : w.ownsRow base e size v n xs)
 (A : Option Addr) (m c : Nat) (news : List Value) (hx : a.eval x = .slice A m c) (hr : Rds w size A m news) (h1 : ∀ u ∈ news, u.oneCell' = true)
 (h63 : n + m ≤ maxLen) (hbytes : (n + m) * bytes ≤ 140737488355328) (hbase : base ≤ w.heap.size)
 (h : ∀ A' c' w', w'.ownsRow base e size (.slice A' (n + m) c') (n + m) (xs ++ news) → w.grownBy w' v.ownBlock → wpList P ops Q rest (a.put o.dst (.slice A' (n + m) c')) w') : wpList P ops Q (o :: rest) a w :=
 wpList_plain hgd fun _ hK => wp_app s x t ho base e z size bytes el v n xs hs hown A m c news hx hr h1 h63 hbytes hbase fun A' c' w' h2 h3 => hK _ _ (h A' c' w' h2 h3)
section
variable {ops : Array Oper} {o : Oper} {a : Act} {K : Act → World → Prop} {Q : Exit → Act → World → Prop} {E : Prop}
theorem step_app (hgd : o.guard = none) (s x : Operand) (t : TypeId)
 (ho : o.op = .call { callee := .builtin .append, args := #[s, x], argTypes := #[t, t] })
 (base : Nat) (e : TypeId) (z : Value) (size bytes : Nat) (el : ElemOf P t e z size bytes)
 (v : Value) (n : Nat) (xs : List Value) (hs : a.eval s = v) (hown : w.ownsRow base e size v n xs)
 (A : Option Addr) (m c : Nat) (news : List Value) (hx : a.eval x = .slice A m c) (hr : Rds w size A m news) (h1 : ∀ u ∈ news, u.oneCell' = true)
 (h63 : n + m ≤ maxLen) (hbytes : (n + m) * bytes ≤ 140737488355328) (hbase : base ≤ w.heap.size)
 (h : ∀ A' c' w', w'.ownsRow base e size (.slice A' (n + m) c') (n + m) (xs ++ news) → w.grownBy w' v.ownBlock → K (a.put o.dst (.slice A' (n + m) c')) w') :
 if Region.wanted o (yielded ops a.tmps) = true then Oper.wp P o a w K Q else E := by
 have hw : Region.wanted o (yielded ops a.tmps) = true := by simp [Region.wanted, hgd]
 rw [if_pos hw]
 exact wp_app s x t ho base e z size bytes el v n xs hs hown A m c news hx hr h1 h63 hbytes hbase h
theorem own_grown {W w w' : World} {base e size n : Nat} {v : Value} {xs : List Value} (hown : w.ownsRow base e size v n xs) (hW : Below W.heap.size W w) (hWb : W.heap.size ≤ base) (hg : w.grownBy w' v.ownBlock) : UpOf W w' := by
 refine up_of_grown hW hg fun k hk => ?_
 obtain ⟨A, c, rfl⟩ := own_shape hown
 exact Nat.le_trans hWb (hown.lt k hk).1
theorem wpl_appU {ops : Array Oper} {rest : List Oper} {o : Oper} {a : Act} {Q : Exit → Act → World → Prop} (hgd : o.guard = none) (s x : Operand) (t : TypeId)
 (ho : o.op = .call { callee := .builtin .append, args := #[s, x], argTypes := #[t, t] })
 (W : World) (base : Nat) (e : TypeId) (z : Value) (size bytes : Nat) (el : ElemOf P t e z size bytes)
 (v : Value) (n : Nat) (xs : List Value) (hs : a.eval s = v) (hown : w.ownsRow base e size v n xs)
 (A : Option Addr) (m c : Nat) (news : List Value) (hx : a.eval x = .slice A m c) (hr : Rds w size A m news) (h1 : ∀ u ∈ news, u.oneCell' = true)
 (h63 : n + m ≤ maxLen) (hbytes : (n + m) * bytes ≤ 140737488355328) (hbase : base ≤ w.heap.size) (hW : Below W.heap.size W w) (hWb : W.heap.size ≤ base)
 (h : ∀ A' c' (g : Up W), (up W g).ownsRow base e size (.slice A' (n + m) c') (n + m) (xs ++ news) → wpList P ops Q rest (a.put o.dst (.slice A' (n + m) c')) (up W g)) : wpList P ops Q (o :: rest) a w :=
 wpl_app hgd s x t ho base e z size bytes el v n xs hs hown A m c news hx hr h1 h63 hbytes hbase fun A' c' w' h2 h3 => by
  obtain ⟨g, rfl⟩ := own_grown hown hW hWb h3
  exact h A' c' g h2
theorem step_appU (hgd : o.guard = none) (s x : Operand) (t : TypeId)
 (ho : o.op = .call { callee := .builtin .append, args := #[s, x], argTypes := #[t, t] })
 (W : World) (base : Nat) (e : TypeId) (z : Value) (size bytes : Nat) (el : ElemOf P t e z size bytes)
 (v : Value) (n : Nat) (xs : List Value) (hs : a.eval s = v) (hown : w.ownsRow base e size v n xs)
 (A : Option Addr) (m c : Nat) (news : List Value) (hx : a.eval x = .slice A m c) (hr : Rds w size A m news) (h1 : ∀ u ∈ news, u.oneCell' = true)
 (h63 : n + m ≤ maxLen) (hbytes : (n + m) * bytes ≤ 140737488355328) (hbase : base ≤ w.heap.size) (hW : Below W.heap.size W w) (hWb : W.heap.size ≤ base)
 (h : ∀ A' c' (g : Up W), (up W g).ownsRow base e size (.slice A' (n + m) c') (n + m) (xs ++ news) → K (a.put o.dst (.slice A' (n + m) c')) (up W g)) :
 if Region.wanted o (yielded ops a.tmps) = true then Oper.wp P o a w K Q else E :=
 step_app hgd s x t ho base e z size bytes el v n xs hs hown A m c news hx hr h1 h63 hbytes hbase fun A' c' w' h2 h3 => by
  obtain ⟨g, rfl⟩ := own_grown hown hW hWb h3
  exact h A' c' g h2
end
end
theorem rds_new (w : World) (cs : Array Value) (t : TypeId) (sz m : Nat) (h : cs.size = m * sz) : Rds (w.alloc (.cells cs t)) sz (some ⟨w.heap.size, 0, none⟩) m cs.toList :=
 ⟨by simpa using h, fun _ => ⟨_, _, rfl, by simp, fun j u hu => by rw [World.cell?_alloc_new]; simpa using hu⟩⟩
theorem Rds.cut {w : World} {sz : Nat} {A A' : Option Addr} {n i m : Nat} {xs : List Value} (h : Rds w sz A n xs) (hm : i + m ≤ n) (hA : ∀ b off, A = some ⟨b, off, none⟩ → 0 < m * sz → A' = some ⟨b, off + i * sz, none⟩) :
 Rds w sz A' m ((xs.drop (i * sz)).take (m * sz)) := by
 have hl : i * sz + m * sz ≤ n * sz := by rw [← Nat.add_mul]; exact Nat.mul_le_mul_right _ hm
 refine ⟨by rw [List.length_take, List.length_drop, h.1]; omega, fun h0 => ?_⟩
 obtain ⟨b, off, e, hb, hc⟩ := h.2 (by omega)
 refine ⟨b, off + i * sz, hA b off e h0, hb, fun j u hu => ?_⟩
 rw [List.getElem?_take] at hu
 split at hu
 ·rw [List.getElem?_drop] at hu
  rw [Nat.add_assoc]
  exact hc _ u hu
 ·cases hu
theorem Rds.pre {w : World} {sz : Nat} {A : Option Addr} {n m : Nat} {xs : List Value} (h : Rds w sz A n xs) (hm : m ≤ n) : Rds w sz A m (xs.take (m * sz)) := by
 have := h.cut (i := 0) (A' := A) (m := m) (by omega) (fun b off e _ => by rw [e]; simp)
 simpa using this
theorem Rds.suf {w : World} {sz : Nat} {b off : Nat} {n i : Nat} {xs : List Value} (h : Rds w sz (some ⟨b, off, none⟩) n xs) (hm : i ≤ n) : Rds w sz (some ⟨b, off + i * sz, none⟩) (n - i) (xs.drop (i * sz)) := by
 have := h.cut (i := i) (A' := some ⟨b, off + i * sz, none⟩) (m := n - i) (by omega) (fun b' off' e _ => by injection e with e; injection e with e1 e2; subst e1 e2; rfl)
 rwa [List.take_of_length_le (by rw [List.length_drop, h.1, ← Nat.sub_mul]; exact Nat.le_refl _)] at this
def strs (ss : List ByteArray) : List Value := ss.map Value.string
theorem strs_app (l : List ByteArray) (x : ByteArray) : strs (l ++ [x]) = strs l ++ [.string x] := by simp [strs]
theorem strs_get {l : List ByteArray} {i : Nat} (h : i < l.length) : (strs l)[i]? = some (.string (l.getD i ByteArray.empty)) := by
 simp [strs, h]
theorem el_str : ElemOf Tryz.prog 24 9 (.string ByteArray.empty) 1 16 := elem_of Tryz.underlying24 (by kernel_rfl) rfl (by omega)
theorem str_at {w : World} {A : Option Addr} {ss : List ByteArray} (h : Rds w 1 A ss.length (strs ss)) {i : Nat} (hi : i < ss.length) :
 ∃ b off, A = some ⟨b, off, none⟩ ∧ b < w.heap.size ∧ ∀ j, j < ss.length → w.cell? ⟨b, off + j, none⟩ = some (.string (ss.getD j ByteArray.empty)) := by
 obtain ⟨b, off, e, hb, hc⟩ := h.at (by omega)
 exact ⟨b, off, e, hb, fun j hj => hc j _ (strs_get hj)⟩
def lists (ws : List ByteArray) : List (List UInt8) := ws.map fun w => w.data.toList
def wdOk (ws : List ByteArray) (i : Nat) : Bool := decide (0 < (wd ws i).size) && (txtB 33 8 (wd ws i) && (List.range i).all fun j => !decide (wd ws j = wd ws i))
def vCode (ws : List ByteArray) : Bool := decide (ws.length ≤ 10) && (List.range ws.length).all (wdOk ws)
section
variable {ws : List ByteArray}
theorem wdOk_1 {i : Nat} (h : (wd ws i).size = 0) : wdOk ws i = false := by rw [wdOk, decide_eq_false (by omega)]; rfl
theorem wdOk_2 {i : Nat} (h : txtB 33 8 (wd ws i) = false) : wdOk ws i = false := by rw [wdOk, h, Bool.false_and, Bool.and_false]
theorem wdOk_3 {i j : Nat} (hj : j < i) (h : wd ws j = wd ws i) : wdOk ws i = false := by
 rw [wdOk, rall_at hj (by rw [decide_eq_true h]; rfl), Bool.and_false, Bool.and_false]
theorem wdOk_0 {i : Nat} (h1 : 0 < (wd ws i).size) (h2 : txtB 33 8 (wd ws i) = true) (h3 : ∀ j, j < i → wd ws j ≠ wd ws i) : wdOk ws i = true := by
 rw [wdOk, decide_eq_true h1, h2, rall_true fun k hk => by rw [decide_eq_false (h3 k hk)]; rfl]; rfl
theorem vCode_len (h : ¬ ws.length ≤ 10) : vCode ws = false := by rw [vCode, decide_eq_false h]; rfl
theorem vCode_at {i : Nat} (hi : i < ws.length) (h : wdOk ws i = false) : vCode ws = false := by rw [vCode, rall_at hi h, Bool.and_false]
theorem vCode_true (h : ws.length ≤ 10) (h2 : ∀ i, i < ws.length → wdOk ws i = true) : vCode ws = true := by rw [vCode, decide_eq_true h, rall_true h2]; rfl
theorem vCode_inv (h : vCode ws = true) : ws.length ≤ 10 ∧ ∀ i, i < ws.length → 0 < (wd ws i).size ∧ txtB 33 8 (wd ws i) = true ∧ ∀ j, j < i → wd ws j ≠ wd ws i := by
 simpa only [vCode, wdOk, Bool.and_eq_true, decide_eq_true_eq, List.all_eq_true, List.mem_range, Bool.not_eq_true', decide_eq_false_iff_not] using h
def namesW (ws : List ByteArray) (k : Nat) (S : List ByteArray) : Prop := ∀ s, s ∈ S ↔ ∃ j, j < k ∧ wd ws j = s
theorem namesW_step {k : Nat} {S : List ByteArray} (h : namesW ws k S) : namesW ws (k + 1) (wd ws k :: S) := by
 intro s
 rw [List.mem_cons, h s]
 constructor
 ·rintro (rfl | ⟨j, hj, e⟩)
  ·exact ⟨k, by omega, rfl⟩
  ·exact ⟨j, by omega, e⟩
 ·rintro ⟨j, hj, e⟩
  rcases Nat.lt_succ_iff_lt_or_eq.1 hj with h' | h'
  ·exact .inr ⟨j, h', e⟩
  ·subst h'; exact .inl e.symm
theorem wdOk_memB {k : Nat} {S : List ByteArray} (h : namesW ws k S) (hm : memB S (wd ws k) = true) : wdOk ws k = false := by
 obtain ⟨j, hj, e⟩ := (h _).1 (memB_iff.1 hm)
 exact wdOk_3 hj e
theorem wdOk_fresh {k : Nat} {S : List ByteArray} (h : namesW ws k S) (h1 : 0 < (wd ws k).size) (h2 : txtB 33 8 (wd ws k) = true) (hm : memB S (wd ws k) = false) : wdOk ws k = true := by
 refine wdOk_0 h1 h2 fun j hj e => ?_
 have := memB_iff.2 ((h _).2 ⟨j, hj, e⟩)
 rw [hm] at this
 cases this
end
theorem wd_at {w : World} {A : Option Addr} {ws : List ByteArray} (h : Rds w 1 A ws.length (strs ws)) {i : Nat} (hi : i < ws.length) :
 ∃ b off, A = some ⟨b, off, none⟩ ∧ b < w.heap.size ∧ ∀ j, j < ws.length → w.cell? ⟨b, off + j, none⟩ = some (.string (wd ws j)) := str_at h hi
def sdi (j : Nat) : Nat := if j = 0 then 0 else if j = 4 then 2 else 1
def sdk (j : Nat) : Nat := if j = 1 then 0 else if j = 4 then 2 else 1
def ser (j : Nat) : Int := if j = 2 then 0 else 1
def stB (j : Nat) : UInt8 := if j = 0 then 43 else if j = 1 then 45 else if j = 2 then 61 else if j = 3 then 120 else 126
def okAl (a b : ByteArray) (i k j : Nat) : Bool :=
 if j = 0 then decide (k < b.size) else if j = 1 then decide (i < a.size) else if j = 2 then decide (i < a.size ∧ k < b.size ∧ byteAt a i = byteAt b k)
 else if j = 3 then decide (i < a.size ∧ k < b.size ∧ byteAt a i ≠ byteAt b k)
 else decide (i + 1 < a.size ∧ k + 1 < b.size ∧ byteAt a i ≠ byteAt a (i + 1) ∧ byteAt a i = byteAt b (k + 1) ∧ byteAt a (i + 1) = byteAt b k)
def bstJ (v : Nat → Int) (ok : Nat → Bool) : Nat → Int
 | 0 => -1
 | j + 1 => if ok j && (decide (bstJ v ok j < 0) || decide (v j < bstJ v ok j)) then v j else bstJ v ok j
theorem bstJ_congr {v u : Nat → Int} {ok : Nat → Bool} : ∀ n, (∀ j, j < n → ok j = true → v j = u j) → bstJ v ok n = bstJ u ok n
 | 0, _ => rfl
 | n + 1, h => by
   rw [bstJ, bstJ, bstJ_congr n fun j hj => h j (by omega)]
   cases ho : ok n
   ·simp
   ·rw [h n (by omega) ho]
theorem bstJ_spec {v : Nat → Int} {ok : Nat → Bool} : ∀ n, (∀ j, j < n → ok j = true → 0 ≤ v j) →
 (bstJ v ok n = -1 ∧ ∀ j, j < n → ok j = false) ∨ (0 ≤ bstJ v ok n ∧ (∀ j, j < n → ok j = true → bstJ v ok n ≤ v j) ∧ ∃ j, j < n ∧ ok j = true ∧ v j = bstJ v ok n)
 | 0, _ => .inl ⟨rfl, fun j hj => by omega⟩
 | n + 1, h => by
   have ih := bstJ_spec (v := v) (ok := ok) n fun j hj => h j (by omega)
   rw [bstJ]
   cases ho : ok n
   ·rw [Bool.false_and, if_neg (by simp)]
    rcases ih with ⟨e, h1⟩ | ⟨h0, h1, j, hj, hoj, hv⟩
    ·refine .inl ⟨e, fun j hj => ?_⟩
     by_cases hjn : j = n
     ·rw [hjn]; exact ho
     ·exact h1 j (by omega)
    ·refine .inr ⟨h0, fun i hi hoi => ?_, j, by omega, hoj, hv⟩
     by_cases hin : i = n
     ·subst hin; rw [ho] at hoi; cases hoi
     ·exact h1 i (by omega) hoi
   ·have hn0 := h n (by omega) ho
    rw [Bool.true_and]
    rcases ih with ⟨e, h1⟩ | ⟨h0, h1, j, hj, hoj, hv⟩
    ·rw [e, if_pos (by simp)]
     refine .inr ⟨hn0, fun i hi hoi => ?_, n, by omega, ho, rfl⟩
     by_cases hin : i = n
     ·subst hin; omega
     ·rw [h1 i (by omega)] at hoi; cases hoi
    ·by_cases hlt : v n < bstJ v ok n
     ·rw [if_pos (by simp [hlt])]
      refine .inr ⟨hn0, fun i hi hoi => ?_, n, by omega, ho, rfl⟩
      by_cases hin : i = n
      ·subst hin; omega
      ·have := h1 i (by omega) hoi; omega
     ·rw [if_neg (by simp; omega)]
      refine .inr ⟨h0, fun i hi hoi => ?_, j, by omega, hoj, hv⟩
      by_cases hin : i = n
      ·subst hin; omega
      ·exact h1 i (by omega) hoi
def cstF (a b : ByteArray) : Nat → Nat → Nat → Int
 | 0, _, _ => 0
 | f + 1, i, k => if bstJ (fun j => cstF a b f (i + sdi j) (k + sdk j) + ser j) (okAl a b i k) 5 < 0 then 0 else bstJ (fun j => cstF a b f (i + sdi j) (k + sdk j) + ser j) (okAl a b i k) 5
def cst (a b : ByteArray) (i k : Nat) : Int := cstF a b (a.size - i + (b.size - k)) i k
section
variable {a b : ByteArray}
theorem okAl_go {i k j : Nat} (h : okAl a b i k j = true) (hj : j < 5) : a.size - (i + sdi j) + (b.size - (k + sdk j)) < a.size - i + (b.size - k) ∧ (i ≤ a.size → i + sdi j ≤ a.size) ∧ (k ≤ b.size → k + sdk j ≤ b.size) := by
 have : j = 0 ∨ j = 1 ∨ j = 2 ∨ j = 3 ∨ j = 4 := by omega
 rcases this with rfl | rfl | rfl | rfl | rfl <;> simp only [okAl, sdi, sdk, if_true, if_false, decide_eq_true_eq, Nat.reduceEqDiff, reduceIte] at h ⊢ <;> omega
theorem cstF_more (a b : ByteArray) : ∀ f i k, a.size - i + (b.size - k) ≤ f → cstF a b f i k = cstF a b (a.size - i + (b.size - k)) i k := by
 intro f
 induction f using Nat.strongRecOn with
 | _ f ih =>
   intro i k hf
   cases f with
   | zero =>
     have : a.size - i + (b.size - k) = 0 := by omega
     rw [this]
   | succ f =>
     cases hr : a.size - i + (b.size - k) with
     | zero =>
       have hno : ∀ j, j < 5 → okAl a b i k j = false := fun j hj => by
        cases h : okAl a b i k j
        ·rfl
        ·have := (okAl_go h hj).1; omega
       have : ∀ v : Nat → Int, bstJ v (okAl a b i k) 5 = -1 := fun v => by simp [bstJ, hno]
       show cstF a b (f + 1) i k = 0
       rw [cstF]
       simp only [this]
       rfl
     | succ r =>
       have : bstJ (fun j => cstF a b f (i + sdi j) (k + sdk j) + ser j) (okAl a b i k) 5 = bstJ (fun j => cstF a b r (i + sdi j) (k + sdk j) + ser j) (okAl a b i k) 5 := bstJ_congr 5 fun j hj ho => by
        have h1 := (okAl_go ho hj).1
        show cstF a b f (i + sdi j) (k + sdk j) + ser j = cstF a b r (i + sdi j) (k + sdk j) + ser j
        rw [ih f (by omega) _ _ (by omega), ih r (by omega) _ _ (by omega)]
       rw [cstF, cstF, this]
theorem cst_eq (a b : ByteArray) (i k : Nat) : cst a b i k = if bstJ (fun j => cst a b (i + sdi j) (k + sdk j) + ser j) (okAl a b i k) 5 < 0 then 0 else bstJ (fun j => cst a b (i + sdi j) (k + sdk j) + ser j) (okAl a b i k) 5 := by
 have : ∀ f, a.size - i + (b.size - k) ≤ f + 1 → bstJ (fun j => cstF a b f (i + sdi j) (k + sdk j) + ser j) (okAl a b i k) 5 = bstJ (fun j => cst a b (i + sdi j) (k + sdk j) + ser j) (okAl a b i k) 5 := fun f hf => bstJ_congr 5 fun j hj ho => by
  have h1 := (okAl_go ho hj).1
  show cstF a b f (i + sdi j) (k + sdk j) + ser j = cst a b (i + sdi j) (k + sdk j) + ser j
  rw [cstF_more a b f _ _ (by omega), cst]
 have h1 := cstF_more a b (a.size - i + (b.size - k) + 1) i k (by omega)
 rw [cstF] at h1
 rw [cst, ← h1, this _ (by omega)]
theorem cst_nn (a b : ByteArray) (i k : Nat) : 0 ≤ cst a b i k := by
 rw [cst_eq]; split <;> omega
theorem ser_nn (j : Nat) : 0 ≤ ser j := by unfold ser; split <;> omega
theorem cst_le {i k j : Nat} (hj : j < 5) (ho : okAl a b i k j = true) : cst a b i k ≤ cst a b (i + sdi j) (k + sdk j) + ser j := by
 have h0 : ∀ j, j < 5 → okAl a b i k j = true → 0 ≤ cst a b (i + sdi j) (k + sdk j) + ser j := fun j _ _ => by
  have := cst_nn a b (i + sdi j) (k + sdk j); have := ser_nn j; omega
 rw [cst_eq a b i k]
 rcases bstJ_spec (v := fun j => cst a b (i + sdi j) (k + sdk j) + ser j) (ok := okAl a b i k) 5 h0 with ⟨_, h1⟩ | ⟨h1, h2, _⟩
 ·rw [h1 j hj] at ho; cases ho
 ·rw [if_neg (by omega)]; exact h2 j hj ho
theorem okAl_any {i k : Nat} (h : i < a.size ∨ k < b.size) : ∃ j, j < 5 ∧ okAl a b i k j = true := by
 rcases h with h | h
 ·exact ⟨1, by omega, by simp [okAl, h]⟩
 ·exact ⟨0, by omega, by simp [okAl, h]⟩
theorem cst_ex {i k : Nat} (h : i < a.size ∨ k < b.size) : ∃ j, j < 5 ∧ okAl a b i k j = true ∧ cst a b (i + sdi j) (k + sdk j) + ser j = cst a b i k := by
 have h0 : ∀ j, j < 5 → okAl a b i k j = true → 0 ≤ cst a b (i + sdi j) (k + sdk j) + ser j := fun j _ _ => by
  have := cst_nn a b (i + sdi j) (k + sdk j); have := ser_nn j; omega
 rcases bstJ_spec (v := fun j => cst a b (i + sdi j) (k + sdk j) + ser j) (ok := okAl a b i k) 5 h0 with ⟨_, h1⟩ | ⟨h1, _, j, hj, ho, hv⟩
 ·obtain ⟨j, hj, ho⟩ := okAl_any h
  rw [h1 j hj] at ho; cases ho
 ·refine ⟨j, hj, ho, ?_⟩
  rw [cst_eq a b i k, if_neg (by omega)]; exact hv
theorem cst_end {i k : Nat} (h : ¬ (i < a.size ∨ k < b.size)) : cst a b i k = 0 := by
 rw [cst, show a.size - i + (b.size - k) = 0 by omega]; rfl
theorem cst_bd (a b : ByteArray) : ∀ f i k, a.size - i + (b.size - k) = f → cst a b i k ≤ f
 | 0, i, k, h => by rw [cst, h]; exact Int.le_refl _
 | f + 1, i, k, h => by
   by_cases hk : k < b.size
   ·have h1 := cst_le (a := a) (b := b) (i := i) (k := k) (j := 0) (by omega) (by simp [okAl, hk])
    have h2 := cst_bd a b f (i + sdi 0) (k + sdk 0) (by simp [sdi, sdk]; omega)
    have h3 : ser 0 = 1 := rfl
    omega
   ·have h1 := cst_le (a := a) (b := b) (i := i) (k := k) (j := 1) (by omega) (by simp [okAl]; omega)
    have h2 := cst_bd a b f (i + sdi 1) (k + sdk 1) (by simp [sdi, sdk]; omega)
    have h3 : ser 1 = 1 := rfl
    omega
def tight (a b : ByteArray) (i k j : Nat) : Bool := okAl a b i k j && decide (cst a b (i + sdi j) (k + sdk j) + ser j = cst a b i k)
def fstS (a b : ByteArray) (i k : Nat) : Nat := if tight a b i k 0 then 0 else if tight a b i k 1 then 1 else if tight a b i k 2 then 2 else if tight a b i k 3 then 3 else 4
theorem fstS_at {i k j : Nat} (hj : j < 5) (hn : ∀ m, m < j → tight a b i k m = false) (h : tight a b i k j = true) : fstS a b i k = j := by
 have : j = 0 ∨ j = 1 ∨ j = 2 ∨ j = 3 ∨ j = 4 := by omega
 rcases this with rfl | rfl | rfl | rfl | rfl
 ·simp [fstS, h]
 ·simp [fstS, h, hn 0]
 ·simp [fstS, h, hn 0, hn 1]
 ·simp [fstS, h, hn 0, hn 1, hn 2]
 ·simp [fstS, hn 0, hn 1, hn 2, hn 3]
theorem tight_ex {i k : Nat} (h : i < a.size ∨ k < b.size) : ∃ j : Nat, j < 5 ∧ tight a b i k j = true := by
 obtain ⟨j, hj, ho, hv⟩ := cst_ex h
 exact ⟨j, hj, by rw [tight, ho, decide_eq_true hv]; rfl⟩
def alnF (a b : ByteArray) : Nat → Nat → Nat → List UInt8
 | 0, _, _ => []
 | f + 1, i, k => if i < a.size ∨ k < b.size then stB (fstS a b i k) :: alnF a b f (i + sdi (fstS a b i k)) (k + sdk (fstS a b i k)) else []
def alnA (a b : ByteArray) (i k : Nat) : List UInt8 := alnF a b (a.size - i + (b.size - k)) i k
theorem fstS_tight {i k : Nat} (h : i < a.size ∨ k < b.size) : fstS a b i k < 5 ∧ tight a b i k (fstS a b i k) = true := by
 obtain ⟨j, hj, ht⟩ := tight_ex h
 have key : ∀ n : Nat, n ≤ j → ∀ m : Nat, m = j - n → (∀ l, l < m → tight a b i k l = false) → ∃ q : Nat, q < 5 ∧ tight a b i k q = true ∧ ∀ l, l < q → tight a b i k l = false := by
  intro n
  induction n with
  | zero => intro _ m hm hl; have hmj : m = j := (by omega); exact ⟨m, by omega, by rw [hmj]; exact ht, hl⟩
  | succ n ih =>
    intro hn m hm hl
    cases hq : tight a b i k m
    ·refine ih (by omega) (m + 1) (by omega) fun l hl' => ?_
     by_cases e : l = m
     ·rw [e]; exact hq
     ·exact hl l (by omega)
    ·exact ⟨m, by omega, hq, hl⟩
 obtain ⟨q, hq, htq, hl⟩ := key j (Nat.le_refl _) 0 (by omega) (fun l h => by omega)
 rw [fstS_at hq hl htq]
 exact ⟨hq, htq⟩
theorem alnF_more (a b : ByteArray) : ∀ f i k, a.size - i + (b.size - k) ≤ f → alnF a b f i k = alnA a b i k := by
 intro f
 induction f using Nat.strongRecOn with
 | _ f ih =>
   intro i k hf
   by_cases h : i < a.size ∨ k < b.size
   ·obtain ⟨h1, h2⟩ := fstS_tight h
    rw [tight, Bool.and_eq_true] at h2
    have h3 := (okAl_go h2.1 h1).1
    cases f with
    | zero => omega
    | succ f =>
      rw [alnA]
      cases hr : a.size - i + (b.size - k) with
      | zero => omega
      | succ r =>
        rw [alnF, alnF, if_pos h, if_pos h, ih f (by omega) _ _ (by omega), ih r (by omega) _ _ (by omega)]
   ·have e : a.size - i + (b.size - k) = 0 := by omega
    rw [alnA, e]
    cases f with
    | zero => rfl
    | succ f => show alnF a b (f + 1) i k = []; unfold alnF; rw [if_neg h]
theorem alnA_step {i k j : Nat} (h : i < a.size ∨ k < b.size) (hj : fstS a b i k = j) : alnA a b i k = stB j :: alnA a b (i + sdi j) (k + sdk j) := by
 obtain ⟨h1, h2⟩ := fstS_tight h
 rw [tight, Bool.and_eq_true] at h2
 have h3 := (okAl_go h2.1 h1).1
 rw [alnA]
 cases hr : a.size - i + (b.size - k) with
 | zero => omega
 | succ r => rw [alnF, if_pos h, hj, alnF_more a b r _ _ (by rw [hj] at h3; omega)]
theorem alnA_end {i k : Nat} (h : ¬ (i < a.size ∨ k < b.size)) : alnA a b i k = [] := by
 rw [alnA, show a.size - i + (b.size - k) = 0 by omega]; rfl
end
theorem alnF_len (a b : ByteArray) : ∀ f i k, (alnF a b f i k).length ≤ f
 | 0, _, _ => by simp [alnF]
 | f + 1, i, k => by
   rw [alnF]
   split
   ·rw [List.length_cons]; have := alnF_len a b f (i + sdi (fstS a b i k)) (k + sdk (fstS a b i k)); omega
   ·simp
theorem alnA_len (a b : ByteArray) (i k : Nat) : (alnA a b i k).length ≤ a.size + b.size := by
 have := alnF_len a b (a.size - i + (b.size - k)) i k
 rw [alnA]; omega
def typed (s : ByteArray) : Bool := txtB 32 60 s
def alnR (a b : ByteArray) : ByteArray × Int := if typed a && typed b then (⟨(alnA a b 0 0).toArray⟩, 0) else (⟨#[]⟩, 2)
def markL (e n : Int) : Nat → Int → Int → Int
 | 0, _, m => m
 | f + 1, t, m => if t * n < 100 * e then markL e n f (t * 2) (m + 1) else m
def mrk (a b : ByteArray) : Int := markL (cst a b 0 0) a.size 5 1 1
def mrkR (a b : ByteArray) : Int × Int := if typed a && typed b then (if a.size = 0 then (0, 3) else (mrk a b, 0)) else (0, 2)
def absN (n : Int) : Int := if n < 0 then -n else n
def waitN (b : Bsk) (f s : Int) : Int := if f = s then b.rise + b.fall else b.clr + (if b.near - absN (f - s) > 0 then b.near - absN (f - s) else 0)
section
variable {b : Bsk}
theorem vBsk_inv (h : vBsk b = true) : (2 ≤ b.bars ∧ b.bars ≤ 60) ∧ (1 ≤ b.rise ∧ b.rise ≤ 100) ∧ (1 ≤ b.fall ∧ b.fall ≤ 100) ∧ (1 ≤ b.clr ∧ b.clr ≤ 100) ∧ (0 ≤ b.near ∧ b.near ≤ 100) := by
 simp only [vBsk, Bool.and_eq_true] at h
 exact ⟨btw_true h.1.1.1.1, btw_true h.1.1.1.2, btw_true h.1.1.2, btw_true h.1.2, btw_true h.2⟩
def barB (b : Bsk) (n : Int) : Bool := btw n 0 (b.bars - 1)
theorem waitN_bd (h : vBsk b = true) (f s : Int) : 1 ≤ waitN b f s ∧ waitN b f s ≤ 200 := by
 obtain ⟨h1, h2, h3, h4, h5⟩ := vBsk_inv h
 unfold waitN absN
 repeat' split
 all_goals omega
def mwR (b : Bsk) (f s : Int) : Int × Int := if vBsk b then (if barB b f && barB b s then (waitN b f s, 0) else (0, 2)) else (0, 1)
theorem mwR_1 {f s : Int} (h : vBsk b = false) : mwR b f s = (0, 1) := by rw [mwR, if_neg (by rw [h]; simp)]
theorem mwR_2 {f s : Int} (h : vBsk b = true) (h2 : (barB b f && barB b s) = false) : mwR b f s = (0, 2) := by rw [mwR, if_pos h, if_neg (by rw [h2]; simp)]
theorem mwR_0 {f s : Int} (h : vBsk b = true) (h2 : barB b f = true) (h3 : barB b s = true) : mwR b f s = (waitN b f s, 0) := by rw [mwR, if_pos h, if_pos (by rw [h2, h3]; rfl)]
def tkM (b : Bsk) (bar : Int) (T : List (Int × Int)) : Nat → Int → Int
 | 0, t => t
 | k + 1, t => if tkM b bar T k t < (T.getD k (0, 0)).2 + waitN b (T.getD k (0, 0)).1 bar then (T.getD k (0, 0)).2 + waitN b (T.getD k (0, 0)).1 bar else tkM b bar T k t
def fstK (b : Bsk) (l : List Int) : Nat → List (Int × Int) × Int
 | 0 => ([], 0)
 | n + 1 => ((fstK b l n).1 ++ [(num l n, tkM b (num l n) (fstK b l n).1 (fstK b l n).1.length (fstK b l n).2)], tkM b (num l n) (fstK b l n).1 (fstK b l n).1.length (fstK b l n).2)
theorem fstK_len (b : Bsk) (l : List Int) : ∀ n, (fstK b l n).1.length = n
 | 0 => rfl
 | n + 1 => by rw [fstK, List.length_append, fstK_len b l n]; rfl
theorem tkM_bd (h : vBsk b = true) (bar : Int) (T : List (Int × Int)) {M : Int} (hT : ∀ i, i < T.length → 0 ≤ (T.getD i (0, 0)).2 ∧ (T.getD i (0, 0)).2 ≤ M) : ∀ k t, k ≤ T.length → 0 ≤ t → t ≤ M → 0 ≤ tkM b bar T k t ∧ tkM b bar T k t ≤ M + 200
 | 0, t, _, h0, h1 => by rw [tkM]; omega
 | k + 1, t, hk, h0, h1 => by
   have ih := tkM_bd h bar T hT k t (by omega) h0 h1
   have hb := hT k (by omega)
   have hw := waitN_bd h (T.getD k (0, 0)).1 bar
   rw [tkM]
   split <;> omega
theorem fstK_bd (h : vBsk b = true) (l : List Int) : ∀ n, (0 ≤ (fstK b l n).2 ∧ (fstK b l n).2 ≤ 200 * (n : Int)) ∧ ∀ i, i < n → 0 ≤ ((fstK b l n).1.getD i (0, 0)).2 ∧ ((fstK b l n).1.getD i (0, 0)).2 ≤ 200 * (n : Int)
 | 0 => ⟨by simp [fstK], fun i hi => by omega⟩
 | n + 1 => by
   obtain ⟨ih1, ih2⟩ := fstK_bd h l n
   have hl := fstK_len b l n
   have h1 := tkM_bd h (num l n) (fstK b l n).1 (M := 200 * (n : Int)) (fun i hi => ih2 i (by omega)) (fstK b l n).1.length (fstK b l n).2 (Nat.le_refl _) ih1.1 ih1.2
   rw [fstK]
   dsimp only
   refine ⟨by omega, fun i hi => ?_⟩
   rw [List.getD_eq_getElem?_getD]
   by_cases hin : i < n
   ·rw [List.getElem?_append_left (by omega), ← List.getD_eq_getElem?_getD]
    have := ih2 i hin
    omega
   ·rw [List.getElem?_append_right (by omega), show i - (fstK b l n).1.length = 0 by omega]
    simp
    omega
theorem fstK_last (b : Bsk) (l : List Int) (n : Nat) : (fstK b l (n + 1)).1.getD n (0, 0) = (num l n, (fstK b l (n + 1)).2) := by
 have hl := fstK_len b l n
 rw [fstK, List.getD_eq_getElem?_getD, List.getElem?_append_right (by omega), show n - (fstK b l n).1.length = 0 by omega]
 rfl
def barsB (b : Bsk) (l : List Int) : Bool := (List.range l.length).all fun i => barB b (num l i)
def tfR (b : Bsk) (l : List Int) : Int × Int := if vBsk b then (if barsB b l && decide (l.length ≤ 60) then (if l.length = 0 then (0, 0) else ((fstK b l l.length).2 + b.rise + b.fall, 0)) else (0, 2)) else (0, 1)
theorem tfR_1 {l : List Int} (h : vBsk b = false) : tfR b l = (0, 1) := by rw [tfR, if_neg (by rw [h]; simp)]
theorem tfR_2 {l : List Int} (h : vBsk b = true) (h2 : (barsB b l && decide (l.length ≤ 60)) = false) : tfR b l = (0, 2) := by rw [tfR, if_pos h, if_neg (by rw [h2]; simp)]
theorem tfR_e {l : List Int} (h : vBsk b = true) (h2 : (barsB b l && decide (l.length ≤ 60)) = true) (h3 : l.length = 0) : tfR b l = (0, 0) := by rw [tfR, if_pos h, if_pos h2, if_pos h3]
theorem tfR_0 {l : List Int} (h : vBsk b = true) (h2 : (barsB b l && decide (l.length ≤ 60)) = true) (h3 : ¬ l.length = 0) : tfR b l = ((fstK b l l.length).2 + b.rise + b.fall, 0) := by rw [tfR, if_pos h, if_pos h2, if_neg h3]
end
def ewords (x : Entry) : ByteArray := ((((dec x.day) ++ ⟨#[32]⟩) ++ x.what) ++ ⟨#[32]⟩) ++ dec x.value
def stampG (s : Int) (l : List UInt8) : Int := l.foldl (fun s c => (37 * s + (c.toNat : Int)) % 65519) s
def stampP (before : Int) (x : Entry) : Int := stampG ((before + 29) % 65519) (ewords x).data.toList
theorem stampG_bd : ∀ (l : List UInt8) (s : Int), 0 ≤ s → s < 65519 → 0 ≤ stampG s l ∧ stampG s l < 65519
 | [], s, h0, h1 => ⟨h0, h1⟩
 | c :: t, s, h0, h1 => stampG_bd t ((37 * s + (c.toNat : Int)) % 65519) (by omega) (by omega)
theorem stampP_bd (before : Int) (x : Entry) : 0 ≤ stampP before x ∧ stampP before x < 65519 := stampG_bd _ _ (by omega) (by omega)
theorem stampG_snoc (l : List UInt8) (s : Int) (c : UInt8) : stampG s (l ++ [c]) = (37 * stampG s l + (c.toNat : Int)) % 65519 := by simp [stampG]
def lineP (x : Entry) (st : Int) : ByteArray := (ewords x ++ ⟨#[32]⟩) ++ dec st
theorem ewords_list (x : Entry) : (ewords x).data.toList = (dec x.day).data.toList ++ 32 :: (x.what.data.toList ++ 32 :: (dec x.value).data.toList) := by
 simp [ewords, ByteArray.data_append]
theorem lineP_list (x : Entry) (st : Int) : (lineP x st).data.toList = (dec x.day).data.toList ++ 32 :: (x.what.data.toList ++ 32 :: ((dec x.value).data.toList ++ 32 :: (dec st).data.toList)) := by
 have h := ewords_list x
 simp only [lineP, ByteArray.data_append, Array.toList_append] at h ⊢
 rw [h]
 simp
theorem name_bytes {s : ByteArray} (h : nameB s = true) : ∀ c ∈ s.data.toList, c ≠ 32 ∧ c ≠ 10 ∧ c ≠ 45 ∨ c = 45 := by
 intro c hc
 obtain ⟨i, hi, rfl⟩ := List.getElem_of_mem hc
 simp only [nameB, Bool.and_eq_true, List.all_eq_true, List.mem_range] at h
 have h1 := h.2 i hi
 have e : byteAt s i = s.data.toList[i] := by unfold byteAt; rw [List.getD_eq_getElem?_getD, List.getElem?_eq_getElem hi]; rfl
 rw [e] at h1
 generalize s.data.toList[i] = c at h1 ⊢
 simp only [nameC, small, digit, Bool.or_eq_true, Bool.and_eq_true, decide_eq_true_eq] at h1
 by_cases h45 : c = 45
 ·exact .inr h45
 ·left
  refine ⟨?_, ?_, h45⟩
  ·rintro rfl
   rcases h1 with h | ⟨_, h | h⟩ <;> revert h <;> decide
  ·rintro rfl
   rcases h1 with h | ⟨_, h | h⟩ <;> revert h <;> decide
theorem name_no {s : ByteArray} (h : nameB s = true) : (∀ c ∈ s.data.toList, c ≠ 32) ∧ (∀ c ∈ s.data.toList, c ≠ 10) ∧ s.data.toList ≠ [] := by
 refine ⟨fun c hc => ?_, fun c hc => ?_, fun he => ?_⟩
 ·rcases name_bytes h c hc with h | h
  ·exact h.1
  ·rw [h]; decide
 ·rcases name_bytes h c hc with h | h
  ·exact h.2.1
  ·rw [h]; decide
 ·have := (nameB_bd h).1
  rw [← bsz, he] at this
  simp at this
theorem dec_no {n : Int} (h0 : -1000000000000000000 < n) (h1 : n < 1000000000000000000) : (∀ c ∈ (dec n).data.toList, c ≠ 32) ∧ (∀ c ∈ (dec n).data.toList, c ≠ 10) ∧ (dec n).data.toList ≠ [] := by
 have hb := dec_bytes h0 h1
 have hd : ∀ c : UInt8, digit c = true ∨ (c.toNat : Int) = 45 → c ≠ 32 ∧ c ≠ 10 := by
  intro c hc
  refine ⟨?_, ?_⟩ <;> rintro rfl <;> rcases hc with h | h <;> revert h <;> decide
 refine ⟨fun c hc => (hd c (hb.1 c hc)).1, fun c hc => (hd c (hb.1 c hc)).2, fun he => ?_⟩
 have := hb.2.1
 rw [← bsz, he] at this
 simp at this
theorem ewords_len {x : Entry} (h : vEntry x = true) : (ewords x).size ≤ 52 := by
 obtain ⟨a, b, c, d, e⟩ := vEntry_inv h
 have h1 := (dec_bytes (n := x.day) (by omega) (by omega)).2.2
 have h2 := (dec_bytes (n := x.value) (by omega) (by omega)).2.2
 have h3 := (nameB_bd c).2
 have e1 : (⟨#[32]⟩ : ByteArray).size = 1 := rfl
 simp only [ewords, ByteArray.size_append]
 omega
theorem lineP_len {x : Entry} (h : vEntry x = true) {st : Int} (h0 : 0 ≤ st) (h1 : st < 65519) : (lineP x st).size ≤ 72 := by
 have h2 := (dec_bytes (n := st) (by omega) (by omega)).2.2
 have h3 := ewords_len h
 have e1 : (⟨#[32]⟩ : ByteArray).size = 1 := rfl
 simp only [lineP, ByteArray.size_append]
 omega
def wAt (w : List ByteArray) (i : Nat) : ByteArray := w.getD i ByteArray.empty
def eOf (w : List ByteArray) : Entry := ⟨(rdR (wAt w 0)).1, wAt w 1, (rdR (wAt w 2)).1⟩
def takeB (d0 st0 : Int) (line : ByteArray) (w : List ByteArray) : Bool :=
 decide (w.length = 4) && ((rdR (wAt w 0)).2 && ((rdR (wAt w 2)).2 && (vEntry (eOf w) && (decide (d0 ≤ (eOf w).day) && decide (lineP (eOf w) (stampP st0 (eOf w)) = line)))))
def takeOf (d0 st0 : Int) (line : ByteArray) (w : List ByteArray) : Option (Entry × Int) := if takeB d0 st0 line w then some (eOf w, stampP st0 (eOf w)) else none
theorem four_words {x : Entry} (h : vEntry x = true) {st : Int} (h0 : 0 ≤ st) (h1 : st < 65519) :
 splitA 32 [] (lineP x st).data.toList = [dec x.day, x.what, dec x.value, dec st] ∧ wordsA [] (lineP x st).data.toList = [dec x.day, x.what, dec x.value, dec st] := by
 obtain ⟨a, b, c, d, e⟩ := vEntry_inv h
 have n1 := dec_no (n := x.day) (by omega) (by omega)
 have n2 := name_no c
 have n3 := dec_no (n := x.value) (by omega) (by omega)
 have n4 := dec_no (n := st) (by omega) (by omega)
 rw [lineP_list]
 constructor
 ·rw [splitA_part _ _ n1.1, splitA_part _ _ n2.1, splitA_part _ _ n3.1, splitA_last _ n4.1, bs_of, bs_of, bs_of, bs_of]
 ·rw [wordsA_part _ _ n1.1 n1.2.2, wordsA_part _ _ n2.1 n2.2.2, wordsA_part _ _ n3.1 n3.2.2, wordsA_last _ n4.1 n4.2.2, bs_of, bs_of, bs_of, bs_of]
section
variable {d0 st0 : Int} {line : ByteArray} {w : List ByteArray}
theorem takeB_inv (h : takeB d0 st0 line w = true) :
 w.length = 4 ∧ (rdR (wAt w 0)).2 = true ∧ (rdR (wAt w 2)).2 = true ∧ vEntry (eOf w) = true ∧ d0 ≤ (eOf w).day ∧ lineP (eOf w) (stampP st0 (eOf w)) = line := by
 simpa only [takeB, Bool.and_eq_true, decide_eq_true_eq] using h
theorem takeB_both (d0 st0 : Int) (line : ByteArray) : takeB d0 st0 line (splitA 32 [] line.data.toList) = true ∨ takeB d0 st0 line (wordsA [] line.data.toList) = true → splitA 32 [] line.data.toList = wordsA [] line.data.toList := by
 rintro (h | h)
 all_goals
  obtain ⟨_, _, _, hv, _, hl⟩ := takeB_inv h
  have hb := stampP_bd st0
  obtain ⟨f1, f2⟩ := four_words hv (hb _).1 (hb _).2
  rw [hl] at f1 f2
  exact f1.trans f2.symm
theorem takeOf_none (h : takeB d0 st0 line w = false) : takeOf d0 st0 line w = none := by rw [takeOf, h]; rfl
theorem takeOf_some (h : takeB d0 st0 line w = true) : takeOf d0 st0 line w = some (eOf w, stampP st0 (eOf w)) := by rw [takeOf, h]; rfl
theorem takeB_0 (h1 : w.length = 4) (h2 : (rdR (wAt w 0)).2 = true) (h3 : (rdR (wAt w 2)).2 = true) (h4 : vEntry (eOf w) = true) (h5 : d0 ≤ (eOf w).day) (h6 : lineP (eOf w) (stampP st0 (eOf w)) = line) : takeB d0 st0 line w = true := by
 simp [takeB, h1, h2, h3, h4, h5, h6]
end
def eat (l : List Entry) (i : Nat) : Entry := l.getD i ⟨0, ByteArray.empty, 0⟩
def dayL (l : List Entry) : Int := if l.length = 0 then 0 else (eat l (l.length - 1)).day
def logF : Nat → List Entry → Int → Nat → List UInt8 → List Entry × Int × Nat
 | 0, l, st, sz, _ => (l, st, sz)
 | k + 1, l, st, sz, rest =>
   if (cutA 10 [] rest).2.2 then
    match takeOf (dayL l) st (cutA 10 [] rest).1 (wordsA [] (cutA 10 [] rest).1.data.toList) with
    | some r => logF k (l ++ [r.1]) r.2 (sz + (cutA 10 [] rest).1.size + 1) (cutA 10 [] rest).2.1.data.toList
    | none => (l, st, sz)
   else (l, st, sz)
theorem logF_end {k : Nat} {l : List Entry} {st : Int} {sz : Nat} {rest : List UInt8} (h : (cutA 10 [] rest).2.2 = false) : logF k l st sz rest = (l, st, sz) := by
 cases k with
 | zero => rfl
 | succ k => rw [logF, if_neg (by rw [h]; simp)]
theorem logF_bad {k : Nat} {l : List Entry} {st : Int} {sz : Nat} {rest : List UInt8} (h : takeOf (dayL l) st (cutA 10 [] rest).1 (wordsA [] (cutA 10 [] rest).1.data.toList) = none) : logF k l st sz rest = (l, st, sz) := by
 cases k with
 | zero => rfl
 | succ k =>
   rw [logF, h]
   split <;> rfl
theorem logF_go {k : Nat} {l : List Entry} {st : Int} {sz : Nat} {rest : List UInt8} {x : Entry} {st' : Int} (h1 : (cutA 10 [] rest).2.2 = true)
 (h : takeOf (dayL l) st (cutA 10 [] rest).1 (wordsA [] (cutA 10 [] rest).1.data.toList) = some (x, st')) :
 logF (k + 1) l st sz rest = logF k (l ++ [x]) st' (sz + (cutA 10 [] rest).1.size + 1) (cutA 10 [] rest).2.1.data.toList := by
 rw [logF, if_pos h1, h]
def logR (s : ByteArray) : List Entry × Int × Nat := logF (s.size + 1) [] 0 0 s.data.toList
theorem cut_drop {L : List UInt8} {sz : Nat} (hsz : sz ≤ L.length) (h : (cutA 10 [] (L.drop sz)).2.2 = true) :
 sz + (cutA 10 [] (L.drop sz)).1.size + 1 ≤ L.length ∧ (cutA 10 [] (L.drop sz)).2.1.data.toList = L.drop (sz + (cutA 10 [] (L.drop sz)).1.size + 1) := by
 have hj := cutA_join 10 (L.drop sz) [] h
 rw [List.nil_append] at hj
 have hl := congrArg List.length hj
 rw [List.length_append, List.length_cons, List.length_drop, bsz, bsz] at hl
 refine ⟨by omega, ?_⟩
 generalize (cutA 10 [] (L.drop sz)).1 = p at *
 generalize (cutA 10 [] (L.drop sz)).2.1.data.toList = q at *
 rw [show sz + p.size + 1 = sz + (p.data.toList ++ [10]).length by rw [List.length_append, bsz]; rfl, ← List.drop_drop, ← hj,
  show p.data.toList ++ 10 :: q = (p.data.toList ++ [10]) ++ q by simp, List.drop_left]
theorem logF_inv (L : List UInt8) : ∀ (k : Nat) (l : List Entry) (st : Int) (sz : Nat), sz ≤ L.length → l.length ≤ sz → 0 ≤ st → st < 65519 → (∀ x ∈ l, vEntry x = true) →
 (logF k l st sz (L.drop sz)).2.2 ≤ L.length ∧ (logF k l st sz (L.drop sz)).1.length ≤ (logF k l st sz (L.drop sz)).2.2 ∧ (0 ≤ (logF k l st sz (L.drop sz)).2.1 ∧ (logF k l st sz (L.drop sz)).2.1 < 65519) ∧ ∀ x ∈ (logF k l st sz (L.drop sz)).1, vEntry x = true
 | 0, l, st, sz, h1, h2, h3, h4, h5 => ⟨h1, h2, ⟨h3, h4⟩, h5⟩
 | k + 1, l, st, sz, h1, h2, h3, h4, h5 => by
   cases hc : (cutA 10 [] (L.drop sz)).2.2
   ·rw [logF_end hc]; exact ⟨h1, h2, ⟨h3, h4⟩, h5⟩
   ·cases ht : takeB (dayL l) st (cutA 10 [] (L.drop sz)).1 (wordsA [] (cutA 10 [] (L.drop sz)).1.data.toList)
    ·rw [logF_bad (takeOf_none ht)]; exact ⟨h1, h2, ⟨h3, h4⟩, h5⟩
    ·rw [logF_go hc (takeOf_some ht)]
     obtain ⟨c1, c2⟩ := cut_drop h1 hc
     obtain ⟨_, _, _, hv, _, _⟩ := takeB_inv ht
     have hb := stampP_bd st (eOf (wordsA [] (cutA 10 [] (L.drop sz)).1.data.toList))
     rw [c2]
     refine logF_inv L k _ _ _ c1 (by rw [List.length_append, List.length_singleton]; omega) hb.1 hb.2 fun x hx => ?_
     rw [List.mem_append, List.mem_singleton] at hx
     rcases hx with hx | rfl
     ·exact h5 x hx
     ·exact hv
theorem logR_inv (s : ByteArray) : (logR s).2.2 ≤ s.size ∧ (logR s).1.length ≤ (logR s).2.2 ∧ (0 ≤ (logR s).2.1 ∧ (logR s).2.1 < 65519) ∧ ∀ x ∈ (logR s).1, vEntry x = true := by
 have := logF_inv s.data.toList (s.size + 1) [] 0 0 (by omega) (by simp) (by omega) (by omega) (by simp)
 simpa [logR, bsz] using this
def drTextV (d : Drill) : ByteArray := (((d.name ++ ⟨#[32]⟩) ++ d.letters) ++ ⟨#[32]⟩) ++ dec d.minutes
def drText (d : Drill) : ByteArray := if vDrill d then drTextV d else ⟨#[]⟩
theorem drTextV_list (d : Drill) : (drTextV d).data.toList = d.name.data.toList ++ 32 :: (d.letters.data.toList ++ 32 :: (dec d.minutes).data.toList) := by
 simp [drTextV, ByteArray.data_append]
section
variable {s : ByteArray}
theorem txt33_no {m : Nat} (h : txtB 33 m s = true) : ∀ c ∈ s.data.toList, c ≠ 32 := by
 intro c hc
 obtain ⟨i, hi, rfl⟩ := List.getElem_of_mem hc
 have h1 := (txtB_inv h).2 i hi
 have e : byteAt s i = s.data.toList[i] := by unfold byteAt; rw [List.getD_eq_getElem?_getD, List.getElem?_eq_getElem hi]; rfl
 rw [e] at h1
 intro h2
 rw [h2] at h1
 exact absurd h1.1 (by decide)
theorem size_ne (h : 0 < s.size) : s.data.toList ≠ [] := fun he => by
 rw [← bsz, he] at h
 simp at h
theorem drTextV_len {d : Drill} (h : vDrill d = true) : (drTextV d).size ≤ 43 := by
 obtain ⟨a, b, c, e, _⟩ := vDrill_inv h
 have h1 := (dec_bytes (n := d.minutes) (by omega) (by omega)).2.2
 have h2 := (nameB_bd a).2
 have h3 := (txtB_inv c).1
 have z : (⟨#[32]⟩ : ByteArray).size = 1 := rfl
 simp only [drTextV, ByteArray.size_append]
 omega
theorem three_words {d : Drill} (h : vDrill d = true) : splitA 32 [] (drTextV d).data.toList = [d.name, d.letters, dec d.minutes] ∧ wordsA [] (drTextV d).data.toList = [d.name, d.letters, dec d.minutes] := by
 obtain ⟨a, b, c, e, _⟩ := vDrill_inv h
 have n1 := name_no a
 have n2 := txt33_no c
 have n2' := size_ne b
 have n3 := dec_no (n := d.minutes) (by omega) (by omega)
 rw [drTextV_list]
 constructor
 ·rw [splitA_part _ _ n1.1, splitA_part _ _ n2, splitA_last _ n3.1, bs_of, bs_of, bs_of]
 ·rw [wordsA_part _ _ n1.1 n1.2.2, wordsA_part _ _ n2 n2', wordsA_last _ n3.1 n3.2.2, bs_of, bs_of, bs_of]
def drOf (w : List ByteArray) : Drill := ⟨wd w 0, wd w 1, sval (wd w 2)⟩
def drillB (s : ByteArray) (w : List ByteArray) : Bool := decide (w.length = 3) && (numB (wd w 2) && (vDrill (drOf w) && decide (drTextV (drOf w) = s)))
theorem drillB_inv {w : List ByteArray} (h : drillB s w = true) : w.length = 3 ∧ numB (wd w 2) = true ∧ vDrill (drOf w) = true ∧ drTextV (drOf w) = s := by
 simpa only [drillB, Bool.and_eq_true, decide_eq_true_eq] using h
theorem drillB_1 {w : List ByteArray} (h : ¬ w.length = 3) : drillB s w = false := by rw [drillB, decide_eq_false h]; rfl
theorem drillB_2 {w : List ByteArray} (h : numB (wd w 2) = false) : drillB s w = false := by rw [drillB, h, Bool.false_and, Bool.and_false]
theorem drillB_3 {w : List ByteArray} (h : vDrill (drOf w) = false) : drillB s w = false := by rw [drillB, h, Bool.false_and, Bool.and_false, Bool.and_false]
theorem drillB_4 {w : List ByteArray} (h : ¬ drTextV (drOf w) = s) : drillB s w = false := by rw [drillB, decide_eq_false h, Bool.and_false, Bool.and_false, Bool.and_false]
theorem drillB_0 {w : List ByteArray} (h1 : w.length = 3) (h2 : numB (wd w 2) = true) (h3 : vDrill (drOf w) = true) (h4 : drTextV (drOf w) = s) : drillB s w = true := by
 simp [drillB, h1, h2, h3, h4]
theorem drillB_both (s : ByteArray) : drillB s (splitA 32 [] s.data.toList) = true ∨ drillB s (wordsA [] s.data.toList) = true → splitA 32 [] s.data.toList = wordsA [] s.data.toList := by
 rintro (h | h)
 all_goals
  obtain ⟨_, _, hv, hl⟩ := drillB_inv h
  obtain ⟨f1, f2⟩ := three_words hv
  rw [hl] at f1 f2
  exact f1.trans f2.symm
theorem drillB_same (s : ByteArray) : drillB s (splitA 32 [] s.data.toList) = drillB s (wordsA [] s.data.toList) := by
 cases h1 : drillB s (splitA 32 [] s.data.toList)
 ·cases h2 : drillB s (wordsA [] s.data.toList)
  ·rfl
  ·rw [← drillB_both s (.inr h2), h1] at h2; cases h2
 ·rw [← drillB_both s (.inl h1), h1]
theorem split_text (h1 : (splitA 32 [] s.data.toList).length = 3) (h2 : numB (wd (splitA 32 [] s.data.toList) 2) = true) : drTextV (drOf (splitA 32 [] s.data.toList)) = s := by
 have hj := join_split 32 s.data.toList []
 have hd : dec (sval (wd (splitA 32 [] s.data.toList) 2)) = wd (splitA 32 [] s.data.toList) 2 := by
  simp only [numB, Bool.and_eq_true, decide_eq_true_eq] at h2
  exact h2.2
 generalize splitA 32 [] s.data.toList = w at *
 match w, h1 with
 | [p, q, r], _ =>
   simp only [joinL, List.nil_append] at hj
   refine ba_ext ?_
   rw [drTextV_list, ← hj]
   show p.data.toList ++ 32 :: (q.data.toList ++ 32 :: (dec (sval r)).data.toList) = _
   rw [show dec (sval r) = r from hd]
def rdDrill (s : ByteArray) : Option Drill := if drillB s (wordsA [] s.data.toList) then some (drOf (wordsA [] s.data.toList)) else none
theorem rdDrill_no (h : drillB s (wordsA [] s.data.toList) = false) : rdDrill s = none := by rw [rdDrill, h]; rfl
theorem rdDrill_ok (h : drillB s (wordsA [] s.data.toList) = true) : rdDrill s = some (drOf (wordsA [] s.data.toList)) := by rw [rdDrill, h]; rfl
theorem rdDrill_noS (h : drillB s (splitA 32 [] s.data.toList) = false) : rdDrill s = none := rdDrill_no (by rw [← drillB_same]; exact h)
theorem rdDrill_okS (h : drillB s (splitA 32 [] s.data.toList) = true) : rdDrill s = some (drOf (splitA 32 [] s.data.toList)) := by
 rw [drillB_both s (.inl h), rdDrill_ok (by rw [← drillB_same]; exact h)]
end
def Tab (w : World) : Prop := Lib.TabIs Tryz.prog w "internal/strconv.uint64pow10" .u64 Lib.pow10Tab
theorem Tab.below {w w' : World} (h : Tab w) (hb : Below w.heap.size w w') : Tab w' := by
 unfold Tab Lib.TabIs World.var? at *
 generalize Tryz.prog.globalNamed "internal/strconv.uint64pow10" = o at *
 cases o with
 | none => cases h
 | some g =>
   simp only [Option.bind_some] at h ⊢
   have hlt : g < w.heap.size := by
    rcases Nat.lt_or_ge g w.heap.size with h' | h'
    ·exact h'
    ·rw [Array.getElem?_eq_none h'] at h; cases h
   rw [hb.block g hlt]
   exact h
theorem below_grow (w : World) (k : Nat) (os : Array Obj) : Below w.heap.size w (Sort.grow (w.drewN k) os) :=
 ⟨rfl, rfl, rfl, by simp [Sort.grow, World.drewN], fun i hi => by
  simp [Sort.grow, World.drewN]
  rw [Array.getElem?_append_left (by simpa using hi)]⟩
theorem decI_any (n : Int) (w : World) (h0 : -9223372036854775808 ≤ n) (h1 : n ≤ 9223372036854775807) (ht : Tab w) :
 Calls Tryz.prog 41 #[i64 n] w fun e w' => e = .returned (.string (dec n)) ∧ UpOf w w' := by
 go_enter Tryz.func41, Tryz.ntmps41
 go_wp2_with fail
 refine (Tryz.strconv_FormatInt_10 n h0 h1 _ ht).mono ?_
 rintro e w' ⟨rfl, k, os, rfl⟩
 go_wp2_with fail
 go_ret
 exact ⟨rfl, UpOf.of (below_grow w k os)⟩
theorem wpl_appS {P : Program} {w : World} {ops : Array Oper} {rest : List Oper} {o : Oper} {a : Act} {Q : Exit → Act → World → Prop} (hgd : o.guard = none) (sl x : Operand) (t u : TypeId)
 (ho : o.op = .call { callee := .builtin .append, args := #[sl, x], argTypes := #[t, u] })
 (W : World) (base : Nat) (e : TypeId) (el : ElemOf P t e (.int .u8 0) 1 1) (hu : P.underlying u = some .string)
 (A : Option Addr) (c : Nat) (l : List UInt8) (hs : a.eval sl = .slice A l.length c) (hown : w.ownsRow base e 1 (.slice A l.length c) l.length (Lib.byteCells l)) (s : ByteArray) (hx : a.eval x = .string s)
 (h63 : l.length + s.size ≤ 100000000) (hbase : base ≤ w.heap.size) (hW : Below W.heap.size W w) (hWb : W.heap.size ≤ base)
 (h : ∀ A' c' (g : Up W), (up W g).ownsRow base e 1 (.slice A' (l ++ s.data.toList).length c') (l ++ s.data.toList).length (Lib.byteCells (l ++ s.data.toList)) → wpList P ops Q rest (a.put o.dst (.slice A' (l ++ s.data.toList).length c')) (up W g)) : wpList P ops Q (o :: rest) a w := by
 obtain ⟨ht, _, _, i, hi, hz, hsize, hby⟩ := el
 refine Lib.wpList_append_own_string (w := w) hgd sl x t u ho base e i ht hu hi hz hsize hby _ _ _ hs hown s hx (by unfold maxLen; omega) (by omega) hbase fun v' w' h2 h3 _ => ?_
 obtain ⟨g, rfl⟩ := own_grown hown hW hWb h3
 obtain ⟨A', c', rfl⟩ := own_shape h2
 have e1 : l.length + s.size = (l ++ s.data.toList).length := by rw [List.length_append]; rfl
 have e2 : Lib.byteCells l ++ Lib.strCells s = Lib.byteCells (l ++ s.data.toList) := by
  rw [Lib.strCells_eq]; simp [Lib.byteCells]
 rw [e1, e2] at h2
 rw [e1]
 exact h A' c' g h2
theorem byteCells_one (l : List UInt8) : ∀ u ∈ Lib.byteCells l, u.oneCell' = true := by
 intro u hu
 simp only [Lib.byteCells, List.mem_map] at hu
 obtain ⟨b, _, rfl⟩ := hu
 rfl
theorem el_byte : ElemOf Tryz.prog 22 5 (.int .u8 0) 1 1 := elem_of Tryz.underlying22 (by kernel_rfl) rfl (by omega)
set_option maxRecDepth 100000 in
theorem conv_own {w w1 : World} {base n c : Nat} {A : Option Addr} {l : List UInt8} (h : w.ownsRow base 5 1 (.slice A n c) n (Lib.byteCells l)) (hn : n = l.length) (hb : Below w.heap.size w w1) :
 (convert 22 9 (.slice A n c)).run Tryz.prog w1 = .ok (.string ⟨l.toArray⟩) w1 := by
 subst hn
 have h1 := ob_ h hb
 rcases h1.2 with ⟨hv, h0⟩ | ⟨g, cap, cur, hv, _⟩
 ·injection hv with hA _ hc
  subst hA hc
  have hl : l = [] := List.eq_nil_of_length_eq_zero h0
  subst hl
  exact run_convert_bytes_nil _ 22 5 Tryz.underlying22 Tryz.underlying5 0 0 _ Tryz.underlying9
 ·injection hv with hA hc
  subst hA
  exact run_convert_bytes_back w1 _ _ 5 ⟨g, 0, none⟩ c l Tryz.underlying22 Tryz.underlying5 Tryz.underlying9 (fun j hj => h1.cells (g := g) rfl j _ (by simp [Lib.byteCells, hj]))
theorem dig_val (u : Nat) : [Value.int .u8 (48 + (u : Int) % 10)] = Lib.byteCells [UInt8.ofNat (48 + u % 10)] := by
 simp [Lib.byteCells]
 omega
theorem dig_val0 {u : Nat} (h : (u : Int) % 10 = 0) : [Value.int .u8 48] = Lib.byteCells [UInt8.ofNat (48 + u % 10)] := by
 have : u % 10 = 0 := by omega
 rw [this]
 rfl
theorem byteCells_snoc (a b : List UInt8) : Lib.byteCells a ++ Lib.byteCells b = Lib.byteCells (a ++ b) := by simp [Lib.byteCells]
theorem l01Dec_any (n : Int) (w : World) (h0 : -9223372036854775808 ≤ n) (h1 : n ≤ 9223372036854775807) :
 Calls Tryz.prog 157 #[i64 n] w fun e w' => e = .returned (.string (dec n)) ∧ UpOf w w' := by
 have hOwn := hd_ (World.ownsRow_lit (base := w.heap.size) (e := 5) (size := 1) w #[] 0 (Nat.le_refl _) (by unfold maxLen; omega) rfl)
 rcases Int.lt_or_le n 0 with hn | hn
 ·obtain ⟨N, rfl⟩ : ∃ N : Nat, n = -(N : Int) := ⟨n.natAbs, by omega⟩
  have hN0 : 0 < N := by omega
  have hD := hd_ (dec_neg hN0)
  go_enter Tryz.func157, Tryz.ntmps157
  go_wp2_with fail
  go_loopw [3, 4] (fun out k wr => ∃ (u : Nat) (l : List UInt8) (A : Option Addr) (c : Nat), k = i64 (-(u : Int)) ∧ out = .slice A l.length c ∧ u ≤ N ∧ Hid (decGo N = decGo u ++ l) ∧ wr.ownsRow w.heap.size 5 1 (.slice A l.length c) l.length (Lib.byteCells l) ∧ ∃ g : Up w, wr = up w g) (fun _ k _ => (intOf k).natAbs)
  case atStart => exact ⟨N, [], _, _, rfl, rfl, Nat.le_refl _, by show decGo N = decGo N ++ []; simp, hOwn.out, ex_up bw_⟩
  case round =>
   obtain ⟨u, l, A, c, rfl, rfl, huN, HN, hown, g, rfl⟩ := hrel
   by_cases hu : 0 < u
   ·have hne : ((-(u : Int)) != 0) = true := by simp; omega
    have hm10 : (-(u : Int)).tmod 10 = -((u : Int) % 10) := by rw [Int.neg_tmod, Int.tmod_eq_emod_of_nonneg (by omega)]
    have hd10 : (-(u : Int)).tdiv 10 = -((u : Int) / 10) := by rw [Int.neg_tdiv, Int.tdiv_eq_ediv_of_nonneg (by omega)]
    by_cases r0 : (u : Int) % 10 = 0
    ·have hl20 : l.length + 1 ≤ 20 := by
      have h1 := decGo_len (u := N) (by omega)
      rw [HN.out, decGo_step hu] at h1
      simp only [List.length_append, List.length_singleton] at h1
      omega
     have HN2 := hd_ (show decGo N = decGo (u / 10) ++ (UInt8.ofNat (48 + u % 10) :: l) by rw [HN.out, decGo_step hu]; simp)
     have HO := hd_ hown
     clear hown
     have hnew : (up w (g.al (.cells #[.int .u8 (48)] 5))).ownsRow w.heap.size 5 1 (.slice (some ⟨(up w g).heap.size, 0, none⟩) 1 1) 1 [.int .u8 (48)] := World.ownsRow_lit (up w g) #[.int .u8 (48)] 1 (ub_ w g).size (by unfold maxLen; omega) rfl
     have HNEW := hd_ hnew
     clear hnew
     go_wp2_with (first | (at_builtin; go_must (refine wpl_appU rfl _ _ 22 rfl w w.heap.size 5 _ 1 1 el_byte (.slice (some ⟨(up w g).heap.size, 0, none⟩) 1 1) 1 [.int .u8 (48)] rfl HNEW.out A l.length c (Lib.byteCells l) rfl ((Rds.of_own HO.out).below bw_) (byteCells_one _) (by unfold maxLen; omega) (by omega) (ub_ w _).size bw_ (Nat.le_refl _) ?_; intro A2 c2 g2 o2)))
     all_goals go_roundw
     case rel =>
      refine ⟨u / 10, UInt8.ofNat (48 + u % 10) :: l, A2, c2, by go_num, congrArg (fun n => Value.slice A2 n c2) (by simp; omega), by omega, HN2.out, ?_, _, rfl⟩
      rw [dig_val0 r0, byteCells_snoc, show 1 + l.length = (UInt8.ofNat (48 + u % 10) :: l).length by simp; omega] at o2
      exact o2
     case measure => (simp [intOf]; omega)
    ·have r1 : -((u : Int) % 10) < 0 := by omega
     have hl20 : l.length + 1 ≤ 20 := by
      have h1 := decGo_len (u := N) (by omega)
      rw [HN.out, decGo_step hu] at h1
      simp only [List.length_append, List.length_singleton] at h1
      omega
     have HN2 := hd_ (show decGo N = decGo (u / 10) ++ (UInt8.ofNat (48 + u % 10) :: l) by rw [HN.out, decGo_step hu]; simp)
     have HO := hd_ hown
     clear hown
     have hnew : (up w (g.al (.cells #[.int .u8 (48 + (u : Int) % 10)] 5))).ownsRow w.heap.size 5 1 (.slice (some ⟨(up w g).heap.size, 0, none⟩) 1 1) 1 [.int .u8 (48 + (u : Int) % 10)] := World.ownsRow_lit (up w g) #[.int .u8 (48 + (u : Int) % 10)] 1 (ub_ w g).size (by unfold maxLen; omega) rfl
     have HNEW := hd_ hnew
     clear hnew
     go_wp2_with (first | (at_builtin; go_must (refine wpl_appU rfl _ _ 22 rfl w w.heap.size 5 _ 1 1 el_byte (.slice (some ⟨(up w g).heap.size, 0, none⟩) 1 1) 1 [.int .u8 (48 + (u : Int) % 10)] rfl HNEW.out A l.length c (Lib.byteCells l) rfl ((Rds.of_own HO.out).below bw_) (byteCells_one _) (by unfold maxLen; omega) (by omega) (ub_ w _).size bw_ (Nat.le_refl _) ?_; intro A2 c2 g2 o2)))
     all_goals go_roundw
     case rel =>
      refine ⟨u / 10, UInt8.ofNat (48 + u % 10) :: l, A2, c2, by go_num, congrArg (fun n => Value.slice A2 n c2) (by simp; omega), by omega, HN2.out, ?_, _, rfl⟩
      rw [dig_val, byteCells_snoc, show 1 + l.length = (UInt8.ofNat (48 + u % 10) :: l).length by simp; omega] at o2
      exact o2
     case measure => (simp [intOf]; omega)
   ·obtain rfl : u = 0 := by omega
    have hl : l.length ≠ 0 := by
     intro h0
     have h1 := HN.out
     rw [List.eq_nil_of_length_eq_zero h0, decGo_zero, decGo_step hN0] at h1
     simp at h1
    have hl2 : ((l.length : Int) == 0) = false := by rw [beq_eq_false_iff_ne]; omega
    have hcv := conv_own hown rfl (Below.refl _ _)
    have hN2 := hd_ (show decGo N = l by rw [HN.out]; rfl)
    have hl20 : l.length ≤ 20 := by rw [← hN2.out]; exact decGo_len (by omega)
    go_wp2_with fail
    go_ret
    rw [hD.out, hN2.out]
    exact ⟨rfl, uw_⟩
 ·obtain ⟨N, rfl⟩ : ∃ N : Nat, n = (N : Int) := ⟨n.toNat, by omega⟩
  go_enter Tryz.func157, Tryz.ntmps157
  go_wp2_with fail
  go_loopw [3, 4] (fun out k wr => ∃ (u : Nat) (l : List UInt8) (A : Option Addr) (c : Nat), k = i64 u ∧ out = .slice A l.length c ∧ u ≤ N ∧ Hid (decGo N = decGo u ++ l) ∧ wr.ownsRow w.heap.size 5 1 (.slice A l.length c) l.length (Lib.byteCells l) ∧ ∃ g : Up w, wr = up w g) (fun _ k _ => (intOf k).toNat)
  case atStart => exact ⟨N, [], _, _, rfl, rfl, Nat.le_refl _, by show decGo N = decGo N ++ []; simp, hOwn.out, ex_up bw_⟩
  case round =>
   obtain ⟨u, l, A, c, rfl, rfl, huN, HN, hown, g, rfl⟩ := hrel
   by_cases hu : 0 < u
   ·have hne : ((u : Int) != 0) = true := by simp; omega
    have hl20 : l.length + 1 ≤ 20 := by
     have h1 := decGo_len (u := N) (by omega)
     rw [HN.out, decGo_step hu] at h1
     simp only [List.length_append, List.length_singleton] at h1
     omega
    have HN2 := hd_ (show decGo N = decGo (u / 10) ++ (UInt8.ofNat (48 + u % 10) :: l) by rw [HN.out, decGo_step hu]; simp)
    have HO := hd_ hown
    clear hown
    have hnew : (up w (g.al (.cells #[.int .u8 (48 + (u : Int) % 10)] 5))).ownsRow w.heap.size 5 1 (.slice (some ⟨(up w g).heap.size, 0, none⟩) 1 1) 1 [.int .u8 (48 + (u : Int) % 10)] := World.ownsRow_lit (up w g) #[.int .u8 (48 + (u : Int) % 10)] 1 (ub_ w g).size (by unfold maxLen; omega) rfl
    have HNEW := hd_ hnew
    clear hnew
    go_wp2_with (first | (at_builtin; go_must (refine wpl_appU rfl _ _ 22 rfl w w.heap.size 5 _ 1 1 el_byte (.slice (some ⟨(up w g).heap.size, 0, none⟩) 1 1) 1 [.int .u8 (48 + (u : Int) % 10)] rfl HNEW.out A l.length c (Lib.byteCells l) rfl ((Rds.of_own HO.out).below bw_) (byteCells_one _) (by unfold maxLen; omega) (by omega) (ub_ w _).size bw_ (Nat.le_refl _) ?_; intro A2 c2 g2 o2)))
    all_goals go_roundw
    case rel =>
     refine ⟨u / 10, UInt8.ofNat (48 + u % 10) :: l, A2, c2, by go_num, congrArg (fun n => Value.slice A2 n c2) (by simp; omega), by omega, HN2.out, ?_, _, rfl⟩
     rw [dig_val, byteCells_snoc, show 1 + l.length = (UInt8.ofNat (48 + u % 10) :: l).length by simp; omega] at o2
     exact o2
    case measure => (simp [intOf]; omega)
   ·obtain rfl : u = 0 := by omega
    have hN2 := hd_ (show decGo N = l by rw [HN.out]; rfl)
    by_cases h0 : N = 0
    ·subst h0
     have hl : l = [] := by rw [← hN2.out]; rfl
     subst hl
     have hD := hd_ dec_zero
     go_wp2_with fail
     go_ret
     exact ⟨congrArg (fun x => Ending.returned (.string x)) hD.out.symm, uw_⟩
    ·have hl : l.length ≠ 0 := by
      intro h1
      have h2 := hN2.out
      rw [List.eq_nil_of_length_eq_zero h1, decGo_step (by omega)] at h2
      simp at h2
     have hl2 : ((l.length : Int) == 0) = false := by rw [beq_eq_false_iff_ne]; omega
     have hcv := conv_own hown rfl (Below.refl _ _)
     have hD := hd_ (dec_pos (u := N) (by omega))
     go_wp2_with fail
     go_ret
     rw [hD.out, hN2.out]
     exact ⟨rfl, uw_⟩
theorem wpg {P : Program} {c : Code} {Q : Exit → Act → World → Prop} {a : Act} {w : World} {R : World → Prop} (st : R w) (h : ∀ W, R W → Code.wp P c Q a W) : Code.wp P c Q a w := h w st
theorem cg {P : Program} {f : FuncId} {args : Array Value} {w : World} {Q : Ending → World → Prop} {R : World → Prop} (st : R w) (h : ∀ W, R W → Calls P f args W Q) : Calls P f args w Q := h w st
theorem UpOf.tr {w V V' : World} (h : UpOf w V) (hb : Below V.heap.size V V') : UpOf w V' := UpOf.of (h.below.trans (hb.mono h.below.size))
end Go.Proofs.YtbianlkenallaaaGreatDoor

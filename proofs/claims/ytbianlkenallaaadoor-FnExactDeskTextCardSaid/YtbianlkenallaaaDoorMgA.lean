/-
  Common parts, put together: Up, Slices, Flat, Mark, Drills, Ints, Desk0.
-/
import Derived.WalkKit
import Derived.ProofKit
import Derived.Lib.Hide
import Derived.Deep.RegionHeld3
import Derived.Deep.DeepCutAuto
import Derived.BigQuiet
import Derived.Deep.Light
import Derived.Test.YtbianlkenallaaaDoorRows
namespace Go.Proofs.YtbianlkenallaaaDoor
open Go.RowKit

/-- a world that has grown from w: nothing that existed has changed -/
structure Up (w : World) where
  wd : World
  below : Below w.heap.size w wd
def up (w : World) (g : Up w) : World := g.wd
instance (w : World) : Nonempty (Up w) := ⟨⟨w, Below.refl _ _⟩⟩
section
variable {w : World} {g : Up w}
theorem up_below (w : World) (g : Up w) : Below w.heap.size w (up w g) := g.below
theorem cell_up (a : Addr) (h : a.block < w.heap.size) : (up w g).cell? a = w.cell? a := g.below.cell h
theorem frozen_up (a : Addr) (h : a.block < w.heap.size) : (up w g).frozen? a = w.frozen? a := g.below.frozen h
theorem heap_up (k : Nat) (h : k < w.heap.size) : (up w g).heap[k]? = w.heap[k]? := g.below.block k h
theorem le_up (k : Nat) (h : k ≤ w.heap.size) : k ≤ (up w g).heap.size := Nat.le_trans h g.below.size
theorem lt_up (k : Nat) (h : k < w.heap.size) : k < (up w g).heap.size := Nat.lt_of_lt_of_le h g.below.size
theorem le_up1 (k : Nat) (h : k ≤ w.heap.size) : k ≤ (up w g).heap.size + 1 := Nat.le_succ_of_le (le_up k h)
theorem le_up2 (k : Nat) (h : k ≤ w.heap.size) : k ≤ (up w g).heap.size + 2 := Nat.le_succ_of_le (le_up1 k h)
theorem lt_up1 (k : Nat) (h : k ≤ w.heap.size) : k < (up w g).heap.size + 1 := Nat.lt_succ_of_le (le_up k h)
theorem lt_up2 (k : Nat) (h : k ≤ w.heap.size) : k < (up w g).heap.size + 2 := Nat.lt_succ_of_le (le_up1 k h)
theorem ne_up (k : Nat) (h : k < w.heap.size) : (k = (up w g).heap.size) = False := by
  have := lt_up (g := g) k h
  simp; omega
theorem ne_up' (k : Nat) (h : k < w.heap.size) : ((up w g).heap.size = k) = False := by
  have := lt_up (g := g) k h
  simp; omega
end
/-- two steps; a draw; a new block -/
def Up.tr {w : World} (g : Up w) (h : Up (up w g)) : Up w := ⟨up (up w g) h, g.below.trans (h.below.mono g.below.size)⟩
def Up.dr {w : World} (g : Up w) : Up w := ⟨(up w g).drew, g.below.drew⟩
def Up.al {w : World} (g : Up w) (o : Obj) : Up w := ⟨(up w g).alloc o, g.below.alloc g.below.size o⟩
section
variable {w : World} {g : Up w}
theorem up_up (h : Up (up w g)) : up (up w g) h = up w (g.tr h) := rfl
theorem drew_up : (up w g).drew = up w g.dr := rfl
theorem alloc_up (o : Obj) : (up w g).alloc o = up w (g.al o) := rfl
theorem size_dr : (up w g.dr).heap.size = (up w g).heap.size := rfl
theorem size_al (o : Obj) : (up w (g.al o)).heap.size = (up w g).heap.size + 1 := by
  show ((up w g).alloc o).heap.size = _
  simp
theorem cell_dr (a : Addr) : (up w g.dr).cell? a = (up w g).cell? a := rfl
theorem frozen_dr (a : Addr) : (up w g.dr).frozen? a = (up w g).frozen? a := rfl
theorem cell_al_new (c : Array Value) (t : TypeId) (i : Nat) : (up w (g.al (.cells c t))).cell? ⟨(up w g).heap.size, i, none⟩ = c[i]? := World.cell?_alloc_new _ _ _ _
theorem frozen_al_new (c : Array Value) (t : TypeId) (i : Nat) : (up w (g.al (.cells c t))).frozen? ⟨(up w g).heap.size, i, none⟩ = false := World.frozen?_alloc_new _ _ _ _
theorem cell_al (o : Obj) (a : Addr) (h : a.block < (up w g).heap.size) : (up w (g.al o)).cell? a = (up w g).cell? a := World.cell?_alloc_lt _ _ _ h
theorem frozen_al (o : Obj) (a : Addr) (h : a.block < (up w g).heap.size) : (up w (g.al o)).frozen? a = (up w g).frozen? a := World.frozen?_alloc_old _ _ _ (Nat.ne_of_lt h)
theorem setCell_al (c : Array Value) (t : TypeId) (i : Nat) (v : Value) : (up w (g.al (.cells c t))).setCell ⟨(up w g).heap.size, i, none⟩ v = up w (g.al (.cells (c.setIfInBounds i v) t)) := World.setCell_alloc_at c t _ i v rfl
theorem cell_tr (h : Up (up w g)) (a : Addr) (hk : a.block < (up w g).heap.size) : (up w (g.tr h)).cell? a = (up w g).cell? a := cell_up (g := h) a hk
theorem frozen_tr (h : Up (up w g)) (a : Addr) (hk : a.block < (up w g).heap.size) : (up w (g.tr h)).frozen? a = (up w g).frozen? a := frozen_up (g := h) a hk
theorem le_tr (h : Up (up w g)) (k : Nat) (hk : k ≤ (up w g).heap.size) : k ≤ (up w (g.tr h)).heap.size := le_up (g := h) k hk
theorem lt_tr (h : Up (up w g)) (k : Nat) (hk : k < (up w g).heap.size) : k < (up w (g.tr h)).heap.size := lt_up (g := h) k hk
theorem le_tr1 (h : Up (up w g)) (k : Nat) (hk : k ≤ (up w g).heap.size) : k ≤ (up w (g.tr h)).heap.size + 1 := Nat.le_succ_of_le (le_tr h k hk)
theorem lt_tr1 (h : Up (up w g)) (k : Nat) (hk : k ≤ (up w g).heap.size) : k < (up w (g.tr h)).heap.size + 1 := Nat.lt_succ_of_le (le_tr h k hk)
theorem lt_tr2 (h : Up (up w g)) (k : Nat) (hk : k ≤ (up w g).heap.size) : k < (up w (g.tr h)).heap.size + 2 := Nat.lt_succ_of_le (le_tr1 h k hk)
theorem le_tr_self (h : Up (up w g)) : (up w g).heap.size ≤ (up w (g.tr h)).heap.size := le_tr h _ (Nat.le_refl _)
theorem le_tr_al (o : Obj) (h : Up (up w (g.al o))) : (up w g).heap.size ≤ (up w ((g.al o).tr h)).heap.size := le_tr h _ (by rw [size_al]; omega)
theorem lt_tr_al (o : Obj) (h : Up (up w (g.al o))) : (up w g).heap.size < (up w ((g.al o).tr h)).heap.size := lt_tr h _ (by rw [size_al]; omega)
theorem cell_tr_al (c : Array Value) (t : TypeId) (h : Up (up w (g.al (.cells c t)))) (i : Nat) : (up w ((g.al (.cells c t)).tr h)).cell? ⟨(up w g).heap.size, i, none⟩ = c[i]? :=
  (cell_tr h _ (by rw [size_al]; show (up w g).heap.size < _; omega)).trans (cell_al_new c t i)
theorem frozen_tr_al (c : Array Value) (t : TypeId) (h : Up (up w (g.al (.cells c t)))) (i : Nat) : (up w ((g.al (.cells c t)).tr h)).frozen? ⟨(up w g).heap.size, i, none⟩ = false :=
  (frozen_tr h _ (by rw [size_al]; show (up w g).heap.size < _; omega)).trans (frozen_al_new c t i)
end
attribute [simp, go_sem] lt_up1 lt_up2 le_tr1 lt_tr1 lt_tr2 le_tr_self le_tr_al lt_tr_al cell_tr_al frozen_tr_al
attribute [simp, go_sem] cell_up frozen_up heap_up le_up lt_up le_up1 le_up2 ne_up ne_up' up_up drew_up alloc_up size_dr size_al cell_dr frozen_dr cell_al_new frozen_al_new setCell_al cell_al frozen_al cell_tr frozen_tr le_tr lt_tr

/-- the world at hand under a name -/
theorem name_world {P : Program} {c : Code} {Q : Exit → Act → World → Prop} {a : Act} {w : World} (h : ∀ W, Hid (W = w) → Code.wp P c Q a W) : Code.wp P c Q a w := h w rfl
/-- what a region that draws its order keeps: the cells of the world in which it began -/
theorem sm_refl {W : World} : W.heap.size ≤ W.heap.size ∧ ∀ b o, b < W.heap.size → W.cell? ⟨b, o, none⟩ = W.cell? ⟨b, o, none⟩ := ⟨Nat.le_refl _, fun _ _ _ => rfl⟩
theorem sm_up {W w1 : World} (h : W.heap.size ≤ w1.heap.size ∧ ∀ b o, b < W.heap.size → w1.cell? ⟨b, o, none⟩ = W.cell? ⟨b, o, none⟩) (g : Up w1) :
    W.heap.size ≤ (up w1 g).heap.size ∧ ∀ b o, b < W.heap.size → (up w1 g).cell? ⟨b, o, none⟩ = W.cell? ⟨b, o, none⟩ :=
  ⟨Nat.le_trans h.1 g.below.size, fun b o hb => (cell_up ⟨b, o, none⟩ (Nat.lt_of_lt_of_le hb h.1)).trans (h.2 b o hb)⟩
theorem below_up {B : Nat} {a w : World} (h : Below B a w) (hB : B ≤ w.heap.size) (g : Up w) : Below B a (up w g) := h.trans (g.below.mono hB)
theorem bl_up {a w : World} (h : Below a.heap.size a w) (g : Up w) : Below a.heap.size a (up w g) := below_up h h.size g
theorem bl_alloc {a w : World} (h : Below a.heap.size a w) (o : Obj) : Below a.heap.size a (w.alloc o) := h.alloc h.size o
theorem bl_tr {a w : World} {G : Up w} (h : Below a.heap.size a (up w G)) (g : Up (up w G)) : Below a.heap.size a (up w (G.tr g)) := bl_up h g
theorem bl_al {a w : World} {G : Up w} (h : Below a.heap.size a (up w G)) (o : Obj) : Below a.heap.size a (up w (G.al o)) := bl_alloc h o
theorem bl_dr {a w : World} {G : Up w} (h : Below a.heap.size a (up w G)) : Below a.heap.size a (up w G.dr) := Below.drew h
theorem ex_tr {w w' : World} {X : Up w} (h : Below (up w X).heap.size (up w X) w') : ∃ g, w' = up w (X.tr g) := ⟨⟨w', h⟩, rfl⟩
theorem ex_up {w w' : World} (h : Below w.heap.size w w') : ∃ g, w' = up w g := ⟨⟨w', h⟩, rfl⟩
/-- w' is w with new memory, nothing that existed having changed -/
def UpOf (w w' : World) : Prop := ∃ g : Up w, w' = up w g
theorem UpOf.of {w w' : World} (h : Below w.heap.size w w') : UpOf w w' := ⟨⟨w', h⟩, rfl⟩
theorem UpOf.below {w w' : World} (h : UpOf w w') : Below w.heap.size w w' := by
  obtain ⟨g, rfl⟩ := h
  exact g.below
/-- ONE WALK IN THE ORDER OF THE TEXT SERVES EVERY ORDER, where each operation yields one value in every world that has grown from the region's first. -/
theorem wp_region_up {P : Program} {id : Nat} {Q : Exit → Act → World → Prop} {a : Act} {w : World} {l : List Oper} (hm : P.follows .mixedOrders = true) (hB : Region.lexB .any l.toArray = true)
    (h : wpQuiet P l.toArray (fun w' => ∃ g : Up w, w' = up w g) (fun a' => ∀ w', (∃ g : Up w, w' = up w g) → Q .normal a' w') l a) : (Code.region id l.toArray true).wp P Q a w :=
  wp_region_quiet (C := fun w' => ∃ g : Up w, w' = up w g) hm hB ⟨⟨_, (Below.refl _ _).drew⟩, rfl⟩ (by simpa using h)
/-- a contract met inside such a walk -/
theorem upq {P : Program} {f : FuncId} {args : Array Value} {w : World} {g : Up w} {v : Value}
    (h : Calls P f args (up w g) fun e w' => e = .returned v ∧ UpOf (up w g) w') : Calls P f args (up w g) fun e w'' => e = .returned v ∧ ∃ g' : Up w, w'' = up w g' :=
  h.mono fun _ _ ⟨he, g', hw⟩ => ⟨he, ⟨_, g.below.trans (g'.below.mono g.below.size)⟩, hw⟩
theorem upq_same {P : Program} {f : FuncId} {args : Array Value} {w : World} {g : Up w} {v : Value}
    (h : Calls P f args (up w g) fun e w' => e = .returned v ∧ up w g = w') : Calls P f args (up w g) fun e w'' => e = .returned v ∧ ∃ g' : Up w, w'' = up w g' :=
  h.mono fun _ _ ⟨he, hw⟩ => ⟨he, g, hw.symm⟩
theorem upq_tr {P : Program} {f : FuncId} {args : Array Value} {w : World} {g : Up w} {h : Up (up w g)} {v : Value}
    (c : Calls P f args (up w (g.tr h)) fun e w' => e = .returned v ∧ UpOf (up w (g.tr h)) w') : Calls P f args (up w (g.tr h)) fun e w'' => e = .returned v ∧ ∃ g' : Up (up w g), w'' = up w (g.tr g') :=
  c.mono fun _ _ ⟨he, g', hw⟩ => ⟨he, h.tr g', hw⟩
theorem upq_tr_same {P : Program} {f : FuncId} {args : Array Value} {w : World} {g : Up w} {h : Up (up w g)} {v : Value}
    (c : Calls P f args (up w (g.tr h)) fun e w' => e = .returned v ∧ up w (g.tr h) = w') : Calls P f args (up w (g.tr h)) fun e w'' => e = .returned v ∧ ∃ g' : Up (up w g), w'' = up w (g.tr g') :=
  c.mono fun _ _ ⟨he, hw⟩ => ⟨he, h, hw.symm⟩
/-- a contract's Bool, written out -/
theorem ret_as {P : Program} {f : FuncId} {args : Array Value} {w : World} {B b : Bool} {Q : World → Prop} (h : Calls P f args w fun e w' => e = .returned (.bool B) ∧ Q w') (hB : B = b) :
    Calls P f args w fun e w' => e = .returned (.bool b) ∧ Q w' := by subst hB; exact h
theorem UpOf.refl (w : World) : UpOf w w := .of (Below.refl _ _)
theorem as_up {P : Program} {c : Code} {Q : Exit → Act → World → Prop} {a : Act} {w : World} (h : ∀ g : Up w, Code.wp P c Q a (up w g)) : Code.wp P c Q a w := h ⟨w, Below.refl _ _⟩
theorem sm_of {W w' : World} (h : Below W.heap.size W w') : W.heap.size ≤ w'.heap.size ∧ ∀ b o, b < W.heap.size → w'.cell? ⟨b, o, none⟩ = W.cell? ⟨b, o, none⟩ := ⟨h.size, fun b o hb => h.cell (p := ⟨b, o, none⟩) hb⟩
end Go.Proofs.YtbianlkenallaaaDoor
namespace Go.Proofs.YtbianlkenallaaaDoor
open Go.RowKit

/-- a slice's pointer A with n elements of sz cells each: its cells read as xs -/
def Rds (w : World) (sz : Nat) (A : Option Addr) (n : Nat) (xs : List Value) : Prop :=
  xs.length = n * sz ∧ (0 < n * sz → ∃ b off, A = some ⟨b, off, none⟩ ∧ b < w.heap.size ∧ ∀ j u, xs[j]? = some u → w.cell? ⟨b, off + j, none⟩ = some u)

section
variable {w w' : World} {sz : Nat} {A : Option Addr} {n : Nat} {xs : List Value}
theorem Rds.keep (h : Rds w sz A n xs) (hs : w.heap.size ≤ w'.heap.size) (hk : 0 < n * sz → ∀ b off, A = some ⟨b, off, none⟩ → b < w.heap.size → w'.heap[b]? = w.heap[b]?) : Rds w' sz A n xs :=
  ⟨h.1, fun hn => by
    obtain ⟨b, off, e, hb, hc⟩ := h.2 hn
    exact ⟨b, off, e, Nat.lt_of_lt_of_le hb hs, fun j u hu => (World.cell?_of_block (w := w) (hk hn b off e hb)).trans (hc j u hu)⟩⟩
theorem Rds.up (h : Rds w sz A n xs) (g : Up w) : Rds (up w g) sz A n xs :=
  h.keep g.below.size (fun _ b _ _ hb => g.below.block b hb)
theorem Rds.tr {g : Up w} (h : Rds (Go.Proofs.YtbianlkenallaaaDoor.up w g) sz A n xs) (k : Up (Go.Proofs.YtbianlkenallaaaDoor.up w g)) : Rds (Go.Proofs.YtbianlkenallaaaDoor.up w (g.tr k)) sz A n xs := Rds.up h k
theorem Rds.alloc (h : Rds w sz A n xs) (o : Obj) : Rds (w.alloc o) sz A n xs :=
  h.keep (by simp) (fun _ b _ _ hb => Below.heap_alloc w o b hb)
theorem Rds.drew (h : Rds w sz A n xs) : Rds w.drew sz A n xs := h
theorem Rds.al {g : Up w} (h : Rds (Go.Proofs.YtbianlkenallaaaDoor.up w g) sz A n xs) (o : Obj) : Rds (Go.Proofs.YtbianlkenallaaaDoor.up w (g.al o)) sz A n xs := Rds.alloc h o
theorem Rds.dr {g : Up w} (h : Rds (Go.Proofs.YtbianlkenallaaaDoor.up w g) sz A n xs) : Rds (Go.Proofs.YtbianlkenallaaaDoor.up w g.dr) sz A n xs := h
theorem Rds.below (h : Rds w sz A n xs) (hb : Below w.heap.size w w') : Rds w' sz A n xs := h.keep hb.size (fun _ b _ _ h => hb.block b h)
theorem Rds.grown {row : Option Nat} (h : Rds w sz A n xs) (hg : w.grownBy w' row) (hne : 0 < n * sz → ∀ b off, A = some ⟨b, off, none⟩ → some b ≠ row) : Rds w' sz A n xs :=
  h.keep hg.size (fun hn b off e hb => hg.block b hb (hne hn b off e))
theorem Rds.empty (w : World) (sz : Nat) (A : Option Addr) : Rds w sz A 0 [] := ⟨by simp, fun h => by omega⟩
/-- element k's cells, where there is one -/
theorem Rds.at (h : Rds w sz A n xs) (hn : 0 < n * sz) : ∃ b off, A = some ⟨b, off, none⟩ ∧ b < w.heap.size ∧ ∀ j u, xs[j]? = some u → w.cell? ⟨b, off + j, none⟩ = some u := h.2 hn
theorem Rds.of_own {base : Nat} {e : TypeId} {c : Nat} (h : w.ownsRow base e sz (.slice A n c) n xs) : Rds w sz A n xs := by
  refine ⟨h.1, fun hn => ?_⟩
  rcases h.2 with ⟨_, h0⟩ | ⟨g, cap, cur, hv, _, hg, _⟩
  · subst h0; omega
  · have hA : A = some ⟨g, 0, none⟩ := by injection hv
    subst hA
    refine ⟨g, 0, rfl, (Array.getElem?_eq_some_iff.1 hg).1, fun j u hu => ?_⟩
    have := h.cells (g := g) rfl j u hu
    have hadd : (⟨g, 0, none⟩ : Addr).add j = ⟨g, 0 + j, none⟩ := by unfold Addr.add; split <;> simp_all
    rwa [hadd] at this
/-- the block of a slice that is owned lies from base on -/
theorem own_block {base : Nat} {e : TypeId} {c : Nat} (h : w.ownsRow base e sz (.slice A n c) n xs) {b off : Nat} (hA : A = some ⟨b, off, none⟩) : base ≤ b ∧ b < w.heap.size ∧ off = 0 := by
  subst hA
  rcases h.2 with ⟨hv, _⟩ | ⟨g, cap, cur, hv, hb, hg, _⟩
  · simp at hv
  · simp only [Value.slice.injEq, Option.some.injEq, Addr.mk.injEq, and_true] at hv
    obtain ⟨⟨rfl, rfl⟩, _⟩ := hv
    exact ⟨hb, (Array.getElem?_eq_some_iff.1 hg).1, rfl⟩
end
/-- rows that a call owns, over worlds that have grown -/
theorem own_up {w : World} {base : Nat} {e : TypeId} {size : Nat} {v : Value} {n : Nat} {xs : List Value} (h : w.ownsRow base e size v n xs) (g : Up w) : (up w g).ownsRow base e size v n xs :=
  h.kept (row := none) ⟨g.below.os, g.below.tape, g.below.output, g.below.size, fun k hk _ => g.below.block k hk⟩ (by cases hv : v.ownBlock <;> simp)
theorem grown_up {w : World} (g : Up w) (row : Option Nat) : w.grownBy (up w g) row := ⟨g.below.os, g.below.tape, g.below.output, g.below.size, fun k hk _ => g.below.block k hk⟩
theorem up_of_grown {W w w' : World} {row : Option Nat} (h : Below W.heap.size W w) (hg : w.grownBy w' row) (hr : ∀ k, row = some k → W.heap.size ≤ k) : UpOf W w' := .of (h.grown hg h.size hr)
theorem grown_trans {a b c : World} {row : Option Nat} (h : a.grownBy b row) (k : b.grownBy c row) : a.grownBy c row :=
  ⟨k.os.trans h.os, k.tape.trans h.tape, k.output.trans h.output, Nat.le_trans h.size k.size, fun i hi hne => (k.block i (Nat.lt_of_lt_of_le hi h.size) hne).trans (h.block i hi hne)⟩
theorem grown_refl (w : World) (row : Option Nat) : w.grownBy w row := ⟨rfl, rfl, rfl, Nat.le_refl _, fun _ _ _ => rfl⟩
theorem own_mono {w : World} {base base' : Nat} {e : TypeId} {size : Nat} {v : Value} {n : Nat} {xs : List Value} (h : w.ownsRow base e size v n xs) (hb : base' ≤ base) : w.ownsRow base' e size v n xs := by
  refine ⟨h.1, ?_⟩
  rcases h.2 with h2 | ⟨g, cap, cur, hv, hg, r⟩
  · exact .inl h2
  · exact .inr ⟨g, cap, cur, hv, Nat.le_trans hb hg, r⟩
/-- two rows of which one was made when the other was there lie apart -/
theorem own_apart {w w1 : World} {base e e1 size size1 n n1 c c1 B : Nat} {A A1 : Option Addr} {xs xs1 : List Value} (h : w.ownsRow base e size (.slice A n c) n xs) (h1 : w1.ownsRow B e1 size1 (.slice A1 n1 c1) n1 xs1) (hB : w.heap.size ≤ B) :
    ∀ b off, A = some ⟨b, off, none⟩ → some b ≠ (Value.slice A1 n1 c1).ownBlock := by
  intro b off hA he
  obtain ⟨_, hb, _⟩ := own_block h hA
  have := (h1.lt b he.symm).1
  omega
theorem rds_apart {w w1 : World} {B e1 size size1 n n1 c1 : Nat} {A A1 : Option Addr} {xs xs1 : List Value} (h : Rds w size A n xs) (h1 : w1.ownsRow B e1 size1 (.slice A1 n1 c1) n1 xs1) (hB : w.heap.size ≤ B) (hn : 0 < n * size) :
    ∀ b off, A = some ⟨b, off, none⟩ → some b ≠ (Value.slice A1 n1 c1).ownBlock := by
  intro b off hA he
  obtain ⟨b', off', hA', hb, _⟩ := h.at hn
  rw [hA] at hA'
  injection hA' with hA'
  injection hA' with hA' _
  have := (h1.lt b he.symm).1
  omega
theorem up_of_mark {W w w' : World} {base e size n c : Nat} {A : Option Addr} {xs : List Value} (hW : Below W.heap.size W w) (h : w.ownsRow base e size (.slice A n c) n xs) (hb : W.heap.size ≤ base) (hg : w.grownBy w' (Value.slice A n c).ownBlock) : UpOf W w' :=
  up_of_grown hW hg fun k hk => Nat.le_trans hb (h.lt k hk).1
/-- block b is just these cells -/
def Blk (w : World) (b : Nat) (t : TypeId) (cs : Array Value) : Prop := w.heap[b]? = some (.cells cs t (0, 0))
section
variable {w w' : World} {b : Nat} {t : TypeId} {cs : Array Value}
theorem Blk.lt (h : Blk w b t cs) : b < w.heap.size := (Array.getElem?_eq_some_iff.1 h).1
theorem Blk.cell (h : Blk w b t cs) (i : Nat) : w.cell? ⟨b, i, none⟩ = cs[i]? := by unfold Blk at h; simp [World.cell?, h]
theorem Blk.free (h : Blk w b t cs) (i : Nat) : w.frozen? ⟨b, i, none⟩ = false := by unfold Blk at h; simp [World.frozen?, h]
theorem Blk.up (h : Blk w b t cs) (g : Up w) : Blk (up w g) b t cs := (g.below.block b h.lt).trans h
theorem Blk.tr {g : Up w} (h : Blk (Go.Proofs.YtbianlkenallaaaDoor.up w g) b t cs) (k : Up (Go.Proofs.YtbianlkenallaaaDoor.up w g)) : Blk (Go.Proofs.YtbianlkenallaaaDoor.up w (g.tr k)) b t cs := Blk.up h k
theorem Blk.al {g : Up w} (h : Blk (Go.Proofs.YtbianlkenallaaaDoor.up w g) b t cs) (o : Obj) : Blk (Go.Proofs.YtbianlkenallaaaDoor.up w (g.al o)) b t cs := (Below.heap_alloc _ o b h.lt).trans h
theorem Blk.dr {g : Up w} (h : Blk (Go.Proofs.YtbianlkenallaaaDoor.up w g) b t cs) : Blk (Go.Proofs.YtbianlkenallaaaDoor.up w g.dr) b t cs := h
theorem Blk.new_al {g : Up w} (t : TypeId) (cs : Array Value) : Blk (Go.Proofs.YtbianlkenallaaaDoor.up w (g.al (.cells cs t))) (Go.Proofs.YtbianlkenallaaaDoor.up w g).heap.size t cs := heap_alloc_new (Go.Proofs.YtbianlkenallaaaDoor.up w g) _
theorem Blk.drew (h : Blk w b t cs) : Blk w.drew b t cs := h
theorem Blk.alloc (h : Blk w b t cs) (o : Obj) : Blk (w.alloc o) b t cs := (Below.heap_alloc w o b h.lt).trans h
theorem Blk.new (w : World) (t : TypeId) (cs : Array Value) : Blk (w.alloc (.cells cs t)) w.heap.size t cs := heap_alloc_new w _
theorem Blk.put (h : Blk w b t cs) (i : Nat) (u : Value) : Blk (w.setCell ⟨b, i, none⟩ u) b t (cs.setIfInBounds i u) := by
  unfold Blk at h ⊢
  simp [World.setCell, Array.getElem?_modify, h]
theorem Blk.far (h : Blk w b t cs) {p : Addr} (hp : b ≠ p.block) (u : Value) : Blk (w.setCell p u) b t cs := (Below.heap_setCell w p u b hp).trans h
theorem Blk.grown {row : Option Nat} (h : Blk w b t cs) (hg : w.grownBy w' row) (hne : some b ≠ row) : Blk w' b t cs := (hg.block b h.lt hne).trans h
theorem grown_put (w : World) (b i : Nat) (u : Value) : w.grownBy (w.setCell ⟨b, i, none⟩ u) (some b) :=
  ⟨rfl, rfl, rfl, by simp [World.setCell], fun k _ hne => Below.heap_setCell w _ u k (fun e => hne (by rw [e]))⟩
end
/-! only block b, and what is new, has changed: step by step -/
section
variable {a w w' : World} {row : Option Nat}
theorem gr_alloc (h : a.grownBy w row) (o : Obj) : a.grownBy (w.alloc o) row := grown_trans h (World.grownBy_alloc w o row)
theorem gr_up (h : a.grownBy w row) (g : Up w) : a.grownBy (up w g) row := grown_trans h (grown_up g row)
theorem gr_new (h : a.grownBy w row) {p : Addr} (hp : a.heap.size ≤ p.block) (u : Value) : a.grownBy (w.setCell p u) row :=
  ⟨h.os, h.tape, h.output, by simpa [World.setCell] using h.size, fun k hk hne => (Below.heap_setCell w p u k (by omega)).trans (h.block k hk hne)⟩
theorem gr_in {b : Nat} (h : a.grownBy w (some b)) (i : Nat) (u : Value) : a.grownBy (w.setCell ⟨b, i, none⟩ u) (some b) := grown_trans h (grown_put w b i u)
theorem gr_by {b : Nat} (h : a.grownBy w (some b)) (k : w.grownBy w' (some b)) : a.grownBy w' (some b) := grown_trans h k
end
/-- bytes -> a text, of one byte that has just been laid -/
theorem conv_one {P : Program} (W : World) (src e dst : TypeId) (hs : P.underlying src = some (.slice e)) (he : P.underlying e = some (.int .u8)) (hd : P.underlying dst = some .string) (x : Int) :
    (convert src dst (.slice (some ⟨W.heap.size, 0, none⟩) 1 1)).run P (W.alloc (.cells #[.int .u8 x] e)) = .ok (.string ⟨#[UInt8.ofNat x.toNat]⟩) (W.alloc (.cells #[.int .u8 x] e)) :=
  run_convert_bytes_arg _ src e hs he _ 0 1 1 [x] rfl (fun i hi => by
    obtain rfl : i = 0 := by omega
    simp) dst hd
theorem le_up_self {w : World} (g : Up w) : w.heap.size ≤ (up w g).heap.size := le_up _ (Nat.le_refl _)
theorem own_apart' {w w1 : World} {base e e1 size size1 n n1 c c1 B : Nat} {A A1 : Option Addr} {xs xs1 : List Value} (h : w.ownsRow base e size (.slice A n c) n xs) (h1 : w1.ownsRow B e1 size1 (.slice A1 n1 c1) n1 xs1) (hB : w.heap.size ≤ B) :
    ∀ b off, A1 = some ⟨b, off, none⟩ → some b ≠ (Value.slice A n c).ownBlock := by
  intro b off hA he
  obtain ⟨hb, _, _⟩ := own_block h1 hA
  have := (h.lt b he.symm).2
  omega
theorem own_far {w w1 : World} {base e e1 size size1 n n1 c c1 B : Nat} {A A1 : Option Addr} {xs xs1 : List Value} (h : w.ownsRow base e size (.slice A n c) n xs) (h1 : w1.ownsRow B e1 size1 (.slice A1 n1 c1) n1 xs1) (hB : w.heap.size ≤ B) :
    (Value.slice A1 n1 c1).ownBlock = none ∨ (Value.slice A1 n1 c1).ownBlock ≠ (Value.slice A n c).ownBlock := by
  cases hv : (Value.slice A1 n1 c1).ownBlock with
  | none => exact .inl rfl
  | some k =>
    refine .inr fun he => ?_
    have h2 := (h1.lt k hv).1
    have h3 := (h.lt k he.symm).2
    omega
theorem own_below {w w' : World} {base : Nat} {e : TypeId} {size : Nat} {v : Value} {n : Nat} {xs : List Value} (h : w.ownsRow base e size v n xs) (hb : Below w.heap.size w w') : w'.ownsRow base e size v n xs := own_up h ⟨w', hb⟩
end Go.Proofs.YtbianlkenallaaaDoor
namespace Go.Proofs.YtbianlkenallaaaDoor
open Go.RowKit
abbrev i64 (n : Int) : Value := .int .i64 n
theorem ret_bool {a b : Bool} (h : a = b) : Ending.returned (.bool a) = .returned (.bool b) := by rw [h]
theorem ret_int {k : IntKind} {a b : Int} (h : a = b) : Ending.returned (.int k a) = .returned (.int k b) := by rw [h]
section
variable {α : Type} {enc : α → List Value} {sz : Nat}
theorem flat_len (he : ∀ a, (enc a).length = sz) (l : List α) : (l.flatMap enc).length = l.length * sz := by
  induction l with
  | nil => simp
  | cons a l ih => simp [he, ih, Nat.add_mul]; omega
theorem flat_get (he : ∀ a, (enc a).length = sz) (l : List α) {k j : Nat} (hk : k < l.length) (hj : j < sz) : (l.flatMap enc)[k * sz + j]? = (enc l[k])[j]? := by
  induction l generalizing k with
  | nil => simp at hk
  | cons a l ih =>
    rw [List.flatMap_cons]
    cases k with
    | zero => simp [List.getElem?_append, he, hj]
    | succ k =>
      rw [List.getElem?_append_right (by rw [he, Nat.add_mul]; omega), he]
      have : (k + 1) * sz + j - sz = k * sz + j := by rw [Nat.add_mul]; omega
      rw [this, ih (by simpa using hk)]
      simp
theorem flat_ext (he : ∀ a, (enc a).length = sz) (l : List α) {ys : List Value} (hl : ys.length = l.length * sz) (h : ∀ k (hk : k < l.length) j, j < sz → ys[k * sz + j]? = (enc l[k])[j]?) : ys = l.flatMap enc := by
  apply List.ext_getElem?
  intro i
  by_cases hi : i < l.length * sz
  · have hsz : 0 < sz := by
      rcases Nat.eq_zero_or_pos sz with h0 | h0
      · subst h0; omega
      · exact h0
    have hk : i / sz < l.length := (Nat.div_lt_iff_lt_mul hsz).2 hi
    have hj : i % sz < sz := Nat.mod_lt _ hsz
    have hi' : i = i / sz * sz + i % sz := by rw [Nat.mul_comm]; exact (Nat.div_add_mod i sz).symm
    rw [hi', h _ hk _ hj, flat_get he l hk hj]
  · rw [List.getElem?_eq_none (by omega), List.getElem?_eq_none (by rw [flat_len he]; omega)]
/-- a list's cells, element by element, make a slice that reads as it -/
theorem rds_of_elems (he : ∀ a, (enc a).length = sz) {w : World} {b off : Nat} {l : List α} (hb : b < w.heap.size)
    (h : ∀ k (hk : k < l.length) j u, (enc l[k])[j]? = some u → w.cell? ⟨b, off + k * sz + j, none⟩ = some u) : Rds w sz (some ⟨b, off, none⟩) l.length (l.flatMap enc) := by
  refine ⟨flat_len he l, fun hn => ⟨b, off, rfl, hb, fun i u hu => ?_⟩⟩
  have hi : i < l.length * sz := by
    rcases Nat.lt_or_ge i (l.length * sz) with h | h
    · exact h
    · rw [List.getElem?_eq_none (by rw [flat_len he]; exact h)] at hu; cases hu
  have hsz : 0 < sz := by
    rcases Nat.eq_zero_or_pos sz with h0 | h0
    · subst h0; omega
    · exact h0
  have hk : i / sz < l.length := (Nat.div_lt_iff_lt_mul hsz).2 hi
  have hi' : i = i / sz * sz + i % sz := by rw [Nat.mul_comm]; exact (Nat.div_add_mod i sz).symm
  rw [hi', flat_get he l hk (Nat.mod_lt _ hsz)] at hu
  have := h (i / sz) hk (i % sz) u hu
  rw [Nat.add_assoc, ← hi'] at this
  exact this
/-- element k's cells -/
theorem rds_elem (he : ∀ a, (enc a).length = sz) {w : World} {A : Option Addr} {l : List α} (h : Rds w sz A l.length (l.flatMap enc)) {k : Nat} (hk : k < l.length) (hsz : 0 < sz) :
    ∃ b off, A = some ⟨b, off, none⟩ ∧ b < w.heap.size ∧ ∀ j u, (enc l[k])[j]? = some u → w.cell? ⟨b, off + k * sz + j, none⟩ = some u := by
  obtain ⟨b, off, e, hb, hc⟩ := h.at (Nat.mul_pos (by omega) hsz)
  refine ⟨b, off, e, hb, fun j u hu => Nat.add_assoc off (k * sz) j ▸ hc _ u ?_⟩
  have hj : j < sz := by
    rcases Nat.lt_or_ge j sz with h | h
    · exact h
    · rw [List.getElem?_eq_none (by rw [he]; exact h)] at hu; cases hu
  rw [flat_get he l hk hj]
  exact hu
end
/-- what is left of k where tot is taken off, -1 where that is too much -/
def szR (k : Int) (tot : Nat) : Int := if k < tot then -1 else k - tot
theorem szR_no {k : Int} {tot : Nat} (h : k < tot) : szR k tot = -1 := if_pos h
theorem szR_ok {k : Int} {tot : Nat} (h : ¬ k < tot) : szR k tot = k - tot := if_neg h
end Go.Proofs.YtbianlkenallaaaDoor
namespace Go.Proofs.YtbianlkenallaaaDoor
open Go.RowKit
/-- the letters of a mark's number, before those that are there -/
def mtGo : Nat → Int → ByteArray → ByteArray
  | 0, _, s => s
  | f + 1, n, s => if 0 < n then mtGo f (n / 10) (⟨#[UInt8.ofNat (48 + n % 10).toNat]⟩ ++ s) else s
def mt (k : Int) : ByteArray := if k ≤ 0 then ⟨#[109, 48]⟩ else ⟨#[109]⟩ ++ mtGo 9 k ⟨#[]⟩
def pow10 : Nat → Int
  | 0 => 1
  | f + 1 => 10 * pow10 f
theorem pow10_pos (f : Nat) : 1 ≤ pow10 f := by induction f with
  | zero => simp [pow10]
  | succ f ih => simp only [pow10]; omega

theorem mtGo_end {f : Nat} {n : Int} {s : ByteArray} (h : ¬ 0 < n) : mtGo f n s = s := by
  cases f with
  | zero => rfl
  | succ f => rw [mtGo, if_neg h]
end Go.Proofs.YtbianlkenallaaaDoor
namespace Go.Proofs.YtbianlkenallaaaDoor
open Go.RowKit
structure Drill where
  name : ByteArray
  letters : ByteArray
  minutes : Int
def Drill.cells (h : Drill) : List Value := [.string h.name, .string h.letters, i64 h.minutes]
abbrev drv (h : Drill) : Value := .agg #[.string h.name, .string h.letters, i64 h.minutes]
def drcs (l : List Drill) : List Value := l.flatMap Drill.cells
theorem dr_clen (h : Drill) : h.cells.length = 3 := rfl
theorem dr_len (l : List Drill) : (drcs l).length = l.length * 3 := flat_len dr_clen l
theorem dr_one (l : List Drill) : ∀ u ∈ drcs l, u.oneCell' = true := by
  intro u hu
  simp only [drcs, List.mem_flatMap, Drill.cells, List.mem_cons, List.not_mem_nil, or_false] at hu
  obtain ⟨a, _, rfl | rfl | rfl⟩ := hu <;> rfl
theorem dr_at {w : World} {A : Option Addr} {l : List Drill} (h : Rds w 3 A l.length (drcs l)) {k : Nat} (hk : k < l.length) :
    ∃ b off, A = some ⟨b, off, none⟩ ∧ b < w.heap.size ∧ w.cell? ⟨b, off + k * 3, none⟩ = some (.string l[k].name) ∧ w.cell? ⟨b, off + k * 3 + 1, none⟩ = some (.string l[k].letters) ∧ w.cell? ⟨b, off + k * 3 + 2, none⟩ = some (i64 l[k].minutes) := by
  obtain ⟨b, off, e, hb, hc⟩ := rds_elem dr_clen h hk (by omega)
  exact ⟨b, off, e, hb, hc 0 _ rfl, hc 1 _ rfl, hc 2 _ rfl⟩
theorem dr_set {l : List Drill} {ys : List Value} {k i j n : Nat} (hys : ∀ i (hi : i < l.length) j, j < 3 → i < k → ys[i * 3 + j]? = (l[i].cells)[j]?) (hlen : ys.length = n * 3) (hi : i < l.length) (hj : j < 3) (hik : i < k + 1) (hk : k < n)
    {h : Drill} (he : ∀ (hk : k < l.length), l[k] = h := by intro; rfl) :
    (((ys.set (k * 3) (.string h.name)).set (k * 3 + 1) (.string h.letters)).set (k * 3 + 2) (i64 h.minutes))[i * 3 + j]? = (l[i].cells)[j]? := by
  by_cases hik' : i = k
  · subst hik'
    rw [he hi]
    match j, hj with
    | 0, _ => rw [List.getElem?_set_ne (by omega), List.getElem?_set_ne (by omega), Nat.add_zero, List.getElem?_set_self (by first | omega | (simp only [List.length_set]; omega))]; rfl
    | 1, _ => rw [List.getElem?_set_ne (by omega), List.getElem?_set_self (by first | omega | (simp only [List.length_set]; omega))]; rfl
    | 2, _ => rw [List.getElem?_set_self (by first | omega | (simp only [List.length_set]; omega))]; rfl
  · rw [List.getElem?_set_ne (by omega), List.getElem?_set_ne (by omega), List.getElem?_set_ne (by omega)]
    exact hys i hi j hj (by omega)
def drTot1 (h : Drill) : Nat := h.name.size + h.letters.size
theorem szDrill_any (h : Drill) (k : Int) (w : World) (hk : 0 ≤ k) (hk1 : k ≤ 1048576) (hname : h.name.size ≤ 9223372036854775807) (hletters : h.letters.size ≤ 9223372036854775807) :
    Calls Tryd.prog 27 #[drv h, i64 k] w fun e w' => e = .returned (i64 (szR k (drTot1 h))) ∧ UpOf w w' := by
  have hs : (drTot1 h : Int) = h.name.size + h.letters.size := by simp [drTot1]
  by_cases q : k < h.name.size
  · go_enter Tryd.func27, Tryd.ntmps27
    go_wp2_with (first | ((with_reducible refine wp_region_up (by kernel_rfl) (by kernel_rfl) ?_); (repeat (go_big_quiet_step (fail))); refine wpQuiet_nil ?_; intro _ hw'; obtain ⟨nq, hw''⟩ := hw'; subst hw''))
    go_ret
    exact ⟨ret_int (by rw [szR_no (by omega)]), UpOf.of (by repeat (first | exact Below.refl _ _ | refine bl_tr ?_ _ | refine bl_al ?_ _ | refine bl_dr ?_ | refine bl_up ?_ _ | refine Below.drew ?_ | refine bl_alloc ?_ _ | refine Below.setCell ?_ (by first | (simp; done) | (simp; omega)) _))⟩
  · by_cases q2 : k - h.name.size < h.letters.size
    · go_enter Tryd.func27, Tryd.ntmps27
      go_wp2_with (first | ((with_reducible refine wp_region_up (by kernel_rfl) (by kernel_rfl) ?_); (repeat (go_big_quiet_step (fail))); refine wpQuiet_nil ?_; intro _ hw'; obtain ⟨nq, hw''⟩ := hw'; subst hw''))
      go_ret
      exact ⟨ret_int (by rw [szR_no (by omega)]), UpOf.of (by repeat (first | exact Below.refl _ _ | refine bl_tr ?_ _ | refine bl_al ?_ _ | refine bl_dr ?_ | refine bl_up ?_ _ | refine Below.drew ?_ | refine bl_alloc ?_ _ | refine Below.setCell ?_ (by first | (simp; done) | (simp; omega)) _))⟩
    · go_enter Tryd.func27, Tryd.ntmps27
      go_wp2_with (first | ((with_reducible refine wp_region_up (by kernel_rfl) (by kernel_rfl) ?_); (repeat (go_big_quiet_step (fail))); refine wpQuiet_nil ?_; intro _ hw'; obtain ⟨nq, hw''⟩ := hw'; subst hw''))
      go_ret
      exact ⟨ret_int (by rw [szR_ok (by omega)]; omega), UpOf.of (by repeat (first | exact Below.refl _ _ | refine bl_tr ?_ _ | refine bl_al ?_ _ | refine bl_dr ?_ | refine bl_up ?_ _ | refine Below.drew ?_ | refine bl_alloc ?_ _ | refine Below.setCell ?_ (by first | (simp; done) | (simp; omega)) _))⟩
def drTotN (l : List Drill) : Nat → Nat
  | 0 => 0
  | k + 1 => drTotN l k + (match l[k]? with | some h => drTot1 h | none => 0)
theorem drTotN_at {l : List Drill} {k : Nat} (hk : k < l.length) : drTotN l (k + 1) = drTotN l k + drTot1 l[k] := by rw [drTotN, List.getElem?_eq_getElem hk]
theorem drTotN_mono (l : List Drill) (i j : Nat) : drTotN l i ≤ drTotN l (i + j) := by
  induction j with
  | zero => exact Nat.le_refl _
  | succ j ih => exact Nat.le_trans ih (by rw [← Nat.add_assoc, drTotN]; omega)
def drTot (l : List Drill) : Nat := l.length + drTotN l l.length
theorem drTot_len (l : List Drill) : l.length ≤ drTot l := by simp [drTot]
set_option maxRecDepth 10000 in
theorem szDrillS_any (A : Option Addr) (c : Nat) (l : List Drill) (k : Int) (w : World) (h : Rds w 3 A l.length (drcs l)) (hk : 0 ≤ k) (hk1 : k ≤ 1048576) (hn : l.length ≤ 9223372036854775807) (hs : ∀ h ∈ l, h.name.size ≤ 9223372036854775807 ∧ h.letters.size ≤ 9223372036854775807) :
    Calls Tryd.prog 13 #[.slice A l.length c, i64 k] w fun e w' => e = .returned (i64 (szR k (drTot l))) ∧ UpOf w w' := by
  have HS := Lib.hid hs
  have ht : Hid ((drTot l : Int) = l.length + drTotN l l.length) := by show (drTot l : Int) = _; simp [drTot]
  clear hs
  by_cases q : k < l.length
  · go_enter Tryd.func13, Tryd.ntmps13
    go_wp2_with (first | ((with_reducible refine wp_region_up (by kernel_rfl) (by kernel_rfl) ?_); (repeat (go_big_quiet_step (fail))); refine wpQuiet_nil ?_; intro _ hw'; obtain ⟨nq, hw''⟩ := hw'; subst hw''))
    go_ret
    exact ⟨ret_int (by rw [szR_no (by have := ht.out; omega)]), UpOf.of (by repeat (first | exact Below.refl _ _ | refine bl_tr ?_ _ | refine bl_al ?_ _ | refine bl_dr ?_ | refine bl_up ?_ _ | refine Below.drew ?_ | refine bl_alloc ?_ _ | refine Below.setCell ?_ (by first | (simp; done) | (simp; omega)) _))⟩
  · go_enter Tryd.func13, Tryd.ntmps13
    go_wp2_with (first | ((with_reducible refine wp_region_up (by kernel_rfl) (by kernel_rfl) ?_); (repeat (go_big_quiet_step (fail))); refine wpQuiet_nil ?_; intro _ hw'; obtain ⟨nq, hw''⟩ := hw'; subst hw''))
    go_loopw [1, 5] (fun lf i wr => ∃ j : Nat, j ≤ l.length ∧ i = i64 j ∧ lf = i64 (k - l.length - drTotN l j) ∧ (l.length : Int) + drTotN l j ≤ k ∧ ∃ g : Up w, wr = up w g) (fun _ i _ => l.length - (intOf i).toNat)
    case atStart => exact ⟨0, by omega, rfl, by simp [drTotN], by simp [drTotN]; omega, ex_up (by repeat (first | exact Below.refl _ _ | refine bl_tr ?_ _ | refine bl_al ?_ _ | refine bl_dr ?_ | refine bl_up ?_ _ | refine Below.drew ?_ | refine bl_alloc ?_ _ | refine Below.setCell ?_ (by first | (simp; done) | (simp; omega)) _))⟩
    case round =>
      obtain ⟨j, hj, rfl, rfl, hle, g, rfl⟩ := hrel
      by_cases hlt : j < l.length
      · obtain ⟨b, off, rfl, hb, c0, c1, c2⟩ := dr_at h hlt
        have hN := Lib.hid (drTotN_at hlt)
        have hm := Lib.hid (drTotN_mono l (j + 1) (l.length - (j + 1)))
        by_cases q2 : k - l.length - drTotN l j < drTot1 l[j]
        · have hs2 : szR (k - (l.length : Int) - drTotN l j) (drTot1 l[j]) = -1 := szR_no q2
          go_wp2_with (first | (go_at_call 27; refine (szDrill_any _ _ _ (by omega) (by omega) (HS.out _ (List.getElem_mem hlt)).1 (HS.out _ (List.getElem_mem hlt)).2).mono ?_; rintro e w' ⟨rfl, g, rfl⟩) | ((with_reducible refine wp_region_up (by kernel_rfl) (by kernel_rfl) ?_); (repeat (go_big_quiet_step (first | (go_at_call 27; first | exact upq_tr (szDrill_any _ _ _ (by omega) (by omega) (HS.out _ (List.getElem_mem hlt)).1 (HS.out _ (List.getElem_mem hlt)).2) | exact upq (szDrill_any _ _ _ (by omega) (by omega) (HS.out _ (List.getElem_mem hlt)).1 (HS.out _ (List.getElem_mem hlt)).2))))); refine wpQuiet_nil ?_; intro _ hw'; obtain ⟨nq, hw''⟩ := hw'; subst hw''))
          go_ret
          refine ⟨ret_int ?_, UpOf.of (by repeat (first | exact Below.refl _ _ | refine bl_tr ?_ _ | refine bl_al ?_ _ | refine bl_dr ?_ | refine bl_up ?_ _ | refine Below.drew ?_ | refine bl_alloc ?_ _ | refine Below.setCell ?_ (by first | (simp; done) | (simp; omega)) _))⟩
          have h1 := hN.out
          have h2 := hm.out
          have h3 := ht.out
          rw [show j + 1 + (l.length - (j + 1)) = l.length by omega] at h2
          rw [szR_no (by omega)]
        · have hs2 : szR (k - (l.length : Int) - drTotN l j) (drTot1 l[j]) = k - (l.length : Int) - drTotN l j - drTot1 l[j] := szR_ok q2
          go_wp2_with (first | (go_at_call 27; refine (szDrill_any _ _ _ (by omega) (by omega) (HS.out _ (List.getElem_mem hlt)).1 (HS.out _ (List.getElem_mem hlt)).2).mono ?_; rintro e w' ⟨rfl, g, rfl⟩) | ((with_reducible refine wp_region_up (by kernel_rfl) (by kernel_rfl) ?_); (repeat (go_big_quiet_step (first | (go_at_call 27; first | exact upq_tr (szDrill_any _ _ _ (by omega) (by omega) (HS.out _ (List.getElem_mem hlt)).1 (HS.out _ (List.getElem_mem hlt)).2) | exact upq (szDrill_any _ _ _ (by omega) (by omega) (HS.out _ (List.getElem_mem hlt)).1 (HS.out _ (List.getElem_mem hlt)).2))))); refine wpQuiet_nil ?_; intro _ hw'; obtain ⟨nq, hw''⟩ := hw'; subst hw''))
          go_roundw
          case rel =>
            have h1 := hN.out
            exact ⟨j + 1, by omega, by go_num, by rw [h1]; go_num, by omega, ex_up (by repeat (first | exact Below.refl _ _ | refine bl_tr ?_ _ | refine bl_al ?_ _ | refine bl_dr ?_ | refine bl_up ?_ _ | refine Below.drew ?_ | refine bl_alloc ?_ _ | refine Below.setCell ?_ (by first | (simp; done) | (simp; omega)) _))⟩
          case measure => (simp [intOf]; try omega)
      · obtain rfl : j = l.length := by omega
        go_wp2_with (first | ((with_reducible refine wp_region_up (by kernel_rfl) (by kernel_rfl) ?_); (repeat (go_big_quiet_step (fail))); refine wpQuiet_nil ?_; intro _ hw'; obtain ⟨nq, hw''⟩ := hw'; subst hw''))
        go_ret
        refine ⟨ret_int ?_, UpOf.of (by repeat (first | exact Below.refl _ _ | refine bl_tr ?_ _ | refine bl_al ?_ _ | refine bl_dr ?_ | refine bl_up ?_ _ | refine Below.drew ?_ | refine bl_alloc ?_ _ | refine Below.setCell ?_ (by first | (simp; done) | (simp; omega)) _))⟩
        have h3 := ht.out
        rw [szR_ok (by omega)]
        omega
theorem toDrill_any (h : Drill) (w : World) :
    Calls Tryd.prog 32 #[drv h] w fun e w' => e = .returned (drv h) ∧ UpOf w w' := by
  go_enter Tryd.func32, Tryd.ntmps32
  go_wp2_with (first | ((with_reducible refine wp_region_up (by kernel_rfl) (by kernel_rfl) ?_); (repeat (go_big_quiet_step (fail))); refine wpQuiet_nil ?_; intro _ hw'; obtain ⟨nq, hw''⟩ := hw'; subst hw''))
  exact bodyPost_ret (v := drv h) (by simp [results, Tryd.results32, go_sem]) rfl ⟨rfl, UpOf.of (by repeat (first | exact Below.refl _ _ | refine bl_tr ?_ _ | refine bl_al ?_ _ | refine bl_dr ?_ | refine bl_up ?_ _ | refine Below.drew ?_ | refine bl_alloc ?_ _ | refine Below.setCell ?_ (by first | (simp; done) | (simp; omega)) _))⟩
theorem eqDrill_any (h : Drill) (w : World) :
    Calls Tryd.prog 36 #[drv h, drv h] w fun e w' => e = .returned (.bool true) ∧ UpOf w w' := by
  go_enter Tryd.func36, Tryd.ntmps36
  go_wp2_with (first | ((with_reducible refine wp_region_up (by kernel_rfl) (by kernel_rfl) ?_); (repeat (go_big_quiet_step (fail))); refine wpQuiet_nil ?_; intro _ hw'; obtain ⟨nq, hw''⟩ := hw'; subst hw''))
  go_ret
  exact ⟨rfl, UpOf.of (by repeat (first | exact Below.refl _ _ | refine bl_tr ?_ _ | refine bl_al ?_ _ | refine bl_dr ?_ | refine bl_up ?_ _ | refine Below.drew ?_ | refine bl_alloc ?_ _ | refine Below.setCell ?_ (by first | (simp; done) | (simp; omega)) _))⟩
set_option maxRecDepth 10000 in
theorem eqDrillS_any (A A' : Option Addr) (c c' : Nat) (l : List Drill) (w : World) (h : Rds w 3 A l.length (drcs l)) (h' : Rds w 3 A' l.length (drcs l)) (hn : l.length ≤ 100000000) :
    Calls Tryd.prog 24 #[.slice A l.length c, .slice A' l.length c'] w fun e w' => e = .returned (.bool true) ∧ UpOf w w' := by
  go_enter Tryd.func24, Tryd.ntmps24
  go_wp2_with (first | ((with_reducible refine wp_region_up (by kernel_rfl) (by kernel_rfl) ?_); (repeat (go_big_quiet_step (fail))); refine wpQuiet_nil ?_; intro _ hw'; obtain ⟨nq, hw''⟩ := hw'; subst hw''))
  go_loopw [5] (fun i wr => ∃ k : Nat, k ≤ l.length ∧ i = .int .i64 k ∧ ∃ g : Up w, wr = up w g) (fun i _ => l.length - (intOf i).toNat)
  case atStart => exact ⟨0, by omega, rfl, ⟨w, Below.refl _ _⟩, rfl⟩
  case round =>
    obtain ⟨k, hk, rfl, g, rfl⟩ := hrel
    by_cases hlt : k < l.length
    · obtain ⟨b, off, rfl, hb, c0, c1, c2⟩ := dr_at h hlt
      obtain ⟨b', off', rfl, hb', d0, d1, d2⟩ := dr_at h' hlt
      clear h h'
      go_wp2_with (first | (go_at_call 36; refine (eqDrill_any _ _).mono ?_; rintro e w' ⟨rfl, g, rfl⟩) | ((with_reducible refine wp_region_up (by kernel_rfl) (by kernel_rfl) ?_); (repeat (go_big_quiet_step (first | (go_at_call 36; first | exact upq_tr (eqDrill_any _ _) | exact upq (eqDrill_any _ _))))); refine wpQuiet_nil ?_; intro _ hw'; obtain ⟨nq, hw''⟩ := hw'; subst hw''))
      go_roundw
      case rel => exact ⟨k + 1, by omega, by go_num, _, rfl⟩
      case measure => simp [intOf]; omega
    · go_wp2_with (first | ((with_reducible refine wp_region_up (by kernel_rfl) (by kernel_rfl) ?_); (repeat (go_big_quiet_step (fail))); refine wpQuiet_nil ?_; intro _ hw'; obtain ⟨nq, hw''⟩ := hw'; subst hw''))
      go_ret
      exact ⟨rfl, UpOf.of (by repeat (first | exact Below.refl _ _ | refine bl_tr ?_ _ | refine bl_al ?_ _ | refine bl_dr ?_ | refine bl_up ?_ _ | refine Below.drew ?_ | refine bl_alloc ?_ _ | refine Below.setCell ?_ (by first | (simp; done) | (simp; omega)) _))⟩
set_option maxRecDepth 10000 in
theorem toDrillS_any (A : Option Addr) (c : Nat) (l : List Drill) (w : World) (h : Rds w 3 A l.length (drcs l)) (hn : l.length ≤ 100000000) :
    Calls Tryd.prog 17 #[.slice A l.length c] w fun e w' => ∃ b : Nat, e = .returned (.slice (some ⟨b, 0, none⟩) l.length l.length) ∧ w'.ownsRow w.heap.size 62 3 (.slice (some ⟨b, 0, none⟩) l.length l.length) l.length (drcs l) ∧ UpOf w w' := by
  have hi : (Tryd.prog.info? 62).map (fun i => (i.zero, i.size, i.bytes)) = some (some (.agg #[.string ByteArray.empty, .string ByteArray.empty, i64 0]), 3, 40) := by kernel_rfl
  obtain ⟨i0, hi, hz0, hz1, hz2⟩ := info_parts hi
  have hmk : ∀ u : World, (Instr.makeSlice 31 (i64 l.length) (i64 l.length)).run Tryd.prog u = .ok (.slice (some ⟨u.heap.size, 0, none⟩) l.length l.length) (u.alloc (.cells (madeCells #[.string ByteArray.empty, .string ByteArray.empty, i64 0] (l.length * 3)) 62)) := fun u => by
    have h := run_make (P := Tryd.prog) u 31 62 i0 _ Tryd.underlying31 hi hz0 .i64 .i64 l.length l.length (by omega) (Int.le_refl _) (by rw [hz2]; omega) (by omega)
    simpa [hz1, Value.cells] using h
  clear hi hz0 hz1 hz2
  go_enter Tryd.func17, Tryd.ntmps17
  go_wp2_with (first | ((with_reducible refine wp_region_up (by kernel_rfl) (by kernel_rfl) ?_); (repeat (go_big_quiet_step (fail))); refine wpQuiet_nil ?_; intro _ hw'; obtain ⟨nq, hw''⟩ := hw'; subst hw''))
  go_loopw [4] (fun i wr => ∃ k : Nat, k ≤ l.length ∧ i = i64 k ∧ ∃ ys, wr.ownsRow w.heap.size 62 3 (.slice (some ⟨w.heap.size, 0, none⟩) l.length l.length) l.length ys ∧
      (∀ i (hi : i < l.length) j, j < 3 → i < k → ys[i * 3 + j]? = (l[i].cells)[j]?) ∧ Below w.heap.size w wr) (fun i _ => l.length - (intOf i).toNat)
  case atStart =>
    refine ⟨0, by omega, rfl, _, World.ownsRow_lit w _ l.length (Nat.le_refl _) (by unfold maxLen; omega) (size_madeCells _ _), fun i hi j hj h0 => by omega, (Below.refl _ _).alloc (Nat.le_refl _) _⟩
  case round =>
    obtain ⟨k, hk, rfl, ys, hown, hys, hbel⟩ := hrel
    by_cases hlt : k < l.length
    · obtain ⟨b, off, rfl, hb, c0, c1, c2⟩ := dr_at (h.below hbel) hlt
      have hwl := (own_block hown rfl).2.1
      have hlen := hown.1
      have d0 := hown.cellAt (k * 3) (by omega)
      have d1 := hown.cellAt (k * 3 + 1) (by omega)
      have d2 := hown.cellAt (k * 3 + 2) (by omega)
      rw [List.getElem?_eq_getElem (by omega)] at d0 d1 d2
      have f0 := fun i => hown.frozenAt i
      have HY := Lib.hid hys
      clear hys h
      go_wp2_with (first | (go_at_call 32; refine (toDrill_any _ _).mono ?_; rintro e w' ⟨rfl, g, rfl⟩) | ((with_reducible refine wp_region_up (by kernel_rfl) (by kernel_rfl) ?_); (repeat (go_big_quiet_step (first | (go_at_call 32; first | exact upq_tr (toDrill_any _ _) | exact upq (toDrill_any _ _))))); refine wpQuiet_nil ?_; intro _ hw'; obtain ⟨nq, hw''⟩ := hw'; subst hw''))
      go_roundw
      case rel =>
        go_light
        have s1 := (own_up hown g).stored (k * 3) (.string l[k].name)
        have s2 := s1.1.stored (k * 3 + 1) (.string l[k].letters)
        have s3 := s2.1.stored (k * 3 + 2) (i64 l[k].minutes)
        refine ⟨k + 1, by omega, by go_num, _, s3.1, fun i hi j hj hik => dr_set HY.out hlen hi hj hik hlt, ?_⟩
        exact ((((hbel.trans (g.below.mono hbel.size)).setCell (Nat.le_refl _) _).setCell (Nat.le_refl _) _).setCell (Nat.le_refl _) _)
      case measure => simp [intOf]; omega
    · go_wp2_with (first | ((with_reducible refine wp_region_up (by kernel_rfl) (by kernel_rfl) ?_); (repeat (go_big_quiet_step (fail))); refine wpQuiet_nil ?_; intro _ hw'; obtain ⟨nq, hw''⟩ := hw'; subst hw''))
      go_ret
      obtain rfl : k = l.length := by omega
      have hy : ys = drcs l := flat_ext dr_clen l hown.1 (fun i hi j hj => hys i hi j hj hi)
      rw [hy] at hown
      exact ⟨_, rfl, hown, UpOf.of hbel⟩
/-- the elements that mark n places, from number k on -/
def drM (k n : Nat) : List Drill := (List.range n).map fun (i : Nat) => ⟨mt ((k : Int) + 3 * i), mt ((k : Int) + 3 * i + 1), (k : Int) + 3 * i + 1 + 1⟩
theorem drM_len (k n : Nat) : (drM k n).length = n := by simp [drM]
theorem drM_get {k n i : Nat} (h : i < (drM k n).length) : (drM k n)[i] = ⟨mt ((k : Int) + 3 * i), mt ((k : Int) + 3 * i + 1), (k : Int) + 3 * i + 1 + 1⟩ := by simp [drM]
end Go.Proofs.YtbianlkenallaaaDoor
namespace Go.Proofs.YtbianlkenallaaaDoor
open Go.RowKit
def ics (l : List Int) : List Value := l.map i64
theorem ics_len (l : List Int) : (ics l).length = l.length := by simp [ics]
theorem ics_get {l : List Int} {k : Nat} (h : k < l.length) : (ics l)[k]? = some (i64 l[k]) := by simp [ics, h]
theorem int_at {w : World} {A : Option Addr} {l : List Int} {n : Nat} (h : Rds w 1 A n (ics l)) (hn : n = l.length) {k : Nat} (hk : k < l.length) :
    ∃ b off, A = some ⟨b, off, none⟩ ∧ b < w.heap.size ∧ w.cell? ⟨b, off + k, none⟩ = some (i64 l[k]) := by
  obtain ⟨b, off, e, hb, hc⟩ := h.at (by omega)
  exact ⟨b, off, e, hb, hc k _ (ics_get hk)⟩
theorem ics_ext {ys : List Value} {l : List Int} (hl : ys.length = l.length) (h : ∀ i (hi : i < l.length), ys[i]? = some (i64 l[i])) : ys = ics l := by
  refine List.ext_getElem? fun i => ?_
  by_cases hi : i < l.length
  · rw [h i hi, ics_get hi]
  · rw [List.getElem?_eq_none (by omega), List.getElem?_eq_none (by rw [ics_len]; omega)]
set_option maxRecDepth 10000 in
theorem eqInt64S_any (A A' : Option Addr) (c c' : Nat) (l : List Int) (w : World) (h : Rds w 1 A l.length (ics l)) (h' : Rds w 1 A' l.length (ics l)) (hn : l.length ≤ 100000000) :
    Calls Tryd.prog 23 #[.slice A l.length c, .slice A' l.length c'] w fun e w' => e = .returned (.bool true) ∧ UpOf w w' := by
  go_enter Tryd.func23, Tryd.ntmps23
  go_wp2_with (first | ((with_reducible refine wp_region_up (by kernel_rfl) (by kernel_rfl) ?_); (repeat (go_big_quiet_step (fail))); refine wpQuiet_nil ?_; intro _ hw'; obtain ⟨nq, hw''⟩ := hw'; subst hw''))
  go_loopw [5] (fun i wr => ∃ k : Nat, k ≤ l.length ∧ i = i64 k ∧ ∃ g : Up w, wr = up w g) (fun i _ => l.length - (intOf i).toNat)
  case atStart => exact ⟨0, by omega, rfl, ex_up (by repeat (first | exact Below.refl _ _ | refine bl_tr ?_ _ | refine bl_al ?_ _ | refine bl_dr ?_ | refine bl_up ?_ _ | refine Below.drew ?_ | refine bl_alloc ?_ _ | refine Below.setCell ?_ (by first | (simp; done) | (simp; omega)) _))⟩
  case round =>
    obtain ⟨k, hk, rfl, g, rfl⟩ := hrel
    by_cases hlt : k < l.length
    · obtain ⟨b, off, rfl, hb, c0⟩ := int_at h rfl hlt
      obtain ⟨b', off', rfl, hb', d0⟩ := int_at h' rfl hlt
      clear h h'
      go_wp2_with (first | ((with_reducible refine wp_region_up (by kernel_rfl) (by kernel_rfl) ?_); (repeat (go_big_quiet_step (fail))); refine wpQuiet_nil ?_; intro _ hw'; obtain ⟨nq, hw''⟩ := hw'; subst hw''))
      go_roundw
      case rel => exact ⟨k + 1, by omega, by go_num, ex_up (by repeat (first | exact Below.refl _ _ | refine bl_tr ?_ _ | refine bl_al ?_ _ | refine bl_dr ?_ | refine bl_up ?_ _ | refine Below.drew ?_ | refine bl_alloc ?_ _ | refine Below.setCell ?_ (by first | (simp; done) | (simp; omega)) _))⟩
      case measure => (simp [intOf]; try omega)
    · go_wp2_with (first | ((with_reducible refine wp_region_up (by kernel_rfl) (by kernel_rfl) ?_); (repeat (go_big_quiet_step (fail))); refine wpQuiet_nil ?_; intro _ hw'; obtain ⟨nq, hw''⟩ := hw'; subst hw''))
      go_ret
      exact ⟨rfl, UpOf.of (by repeat (first | exact Below.refl _ _ | refine bl_tr ?_ _ | refine bl_al ?_ _ | refine bl_dr ?_ | refine bl_up ?_ _ | refine Below.drew ?_ | refine bl_alloc ?_ _ | refine Below.setCell ?_ (by first | (simp; done) | (simp; omega)) _))⟩
/-- the numbers that mark n places, from number k on -/
def mi (k n : Nat) : List Int := (List.range n).map fun (i : Nat) => (k : Int) + i
theorem mi_len (k n : Nat) : (mi k n).length = n := by simp [mi]
theorem mi_get {k n i : Nat} (h : i < (mi k n).length) : (mi k n)[i] = (k : Int) + i := by simp [mi]
theorem set1_get {l : List Int} {ys : List Value} {k i n : Nat} (hys : ∀ i (hi : i < l.length), i < k → ys[i]? = some (i64 l[i])) (hlen : ys.length = n) (hi : i < l.length) (hik : i < k + 1) (hk : k < n) {x : Int}
    (he : ∀ (hk : k < l.length), l[k] = x) : (ys.set k (i64 x))[i]? = some (i64 l[i]) := by
  by_cases hik' : i = k
  · subst hik'
    rw [he hi, List.getElem?_set_self (by omega)]
  · rw [List.getElem?_set_ne (by omega)]
    exact hys i hi (by omega)
end Go.Proofs.YtbianlkenallaaaDoor
namespace Go.Proofs.YtbianlkenallaaaDoor
open Go.RowKit
structure Bsk where
  bars : Int
  rise : Int
  fall : Int
  clr : Int
  near : Int
abbrev bsv (b : Bsk) : Value := .agg #[i64 b.bars, i64 b.rise, i64 b.fall, i64 b.clr, i64 b.near]
structure DeskD where
  b : Bsk
  stops : List Int
  drills : List Drill
  log : ByteArray
abbrev dkcs (d : DeskD) (A B : Option Addr) (c e : Nat) : Array Value := #[i64 d.b.bars, i64 d.b.rise, i64 d.b.fall, i64 d.b.clr, i64 d.b.near, .slice A d.stops.length c, .slice B d.drills.length e, .string d.log]
abbrev dkv (d : DeskD) (A B : Option Addr) (c e : Nat) : Value := .agg #[i64 d.b.bars, i64 d.b.rise, i64 d.b.fall, i64 d.b.clr, i64 d.b.near, .slice A d.stops.length c, .slice B d.drills.length e, .string d.log]
/-- what a desk's slices hold -/
def DSee (w : World) (d : DeskD) (A B : Option Addr) : Prop := Rds w 1 A d.stops.length (ics d.stops) ∧ Rds w 3 B d.drills.length (drcs d.drills)
theorem DSee.below {w w' : World} {d : DeskD} {A B : Option Addr} (h : DSee w d A B) (hb : Below w.heap.size w w') : DSee w' d A B := ⟨h.1.below hb, h.2.below hb⟩
/-- two boxes, one behind the other -/
theorem box2 (w : World) (x y : Array Value) (t t' : TypeId) : (∀ i, ((w.alloc (.cells x t)).alloc (.cells y t')).cell? ⟨w.heap.size, i, none⟩ = x[i]?) ∧ (∀ i, ((w.alloc (.cells x t)).alloc (.cells y t')).cell? ⟨w.heap.size + 1, i, none⟩ = y[i]?) ∧
    ((w.alloc (.cells x t)).alloc (.cells y t')).heap.size = w.heap.size + 2 ∧ Below w.heap.size w ((w.alloc (.cells x t)).alloc (.cells y t')) := by
  have e1 : (w.alloc (.cells x t)).heap.size = w.heap.size + 1 := by simp
  refine ⟨fun i => ?_, fun i => ?_, by simp, ((Below.refl _ _).alloc (Nat.le_refl _) _).alloc (by simp) _⟩
  · rw [World.cell?_alloc_lt _ _ _ (by rw [e1]; show w.heap.size < _; omega)]
    exact World.cell?_alloc_new _ _ _ _
  · have := World.cell?_alloc_new (w.alloc (.cells x t)) y t' i
    rwa [e1] at this
/-- block b begins with these cells -/
def Box (w : World) (b : Nat) (x : Array Value) : Prop := b < w.heap.size ∧ ∀ i u, x[i]? = some u → w.cell? ⟨b, i, none⟩ = some u
theorem Box.new (w : World) (x : Array Value) (t : TypeId) : Box (w.alloc (.cells x t)) w.heap.size x := ⟨by simp, fun i u h => by rw [World.cell?_alloc_new]; exact h⟩
theorem Box.below {w w' : World} {b : Nat} {x : Array Value} (h : Box w b x) (hb : Below w.heap.size w w') : Box w' b x := ⟨Nat.lt_of_lt_of_le h.1 hb.size, fun i u hu => (hb.cell (p := ⟨b, i, none⟩) h.1).trans (h.2 i u hu)⟩
theorem Box.eight {w : World} {b : Nat} {x0 x1 x2 x3 x4 x5 x6 x7 : Value} (h : Box w b #[x0, x1, x2, x3, x4, x5, x6, x7]) : b < w.heap.size ∧ w.cell? ⟨b, 0, none⟩ = some x0 ∧ w.cell? ⟨b, 1, none⟩ = some x1 ∧ w.cell? ⟨b, 2, none⟩ = some x2 ∧ w.cell? ⟨b, 3, none⟩ = some x3 ∧
    w.cell? ⟨b, 4, none⟩ = some x4 ∧ w.cell? ⟨b, 5, none⟩ = some x5 ∧ w.cell? ⟨b, 6, none⟩ = some x6 ∧ w.cell? ⟨b, 7, none⟩ = some x7 :=
  ⟨h.1, h.2 0 _ rfl, h.2 1 _ rfl, h.2 2 _ rfl, h.2 3 _ rfl, h.2 4 _ rfl, h.2 5 _ rfl, h.2 6 _ rfl, h.2 7 _ rfl⟩
theorem eqBasket_any (b : Bsk) (w : World) :
    Calls Tryd.prog 22 #[bsv b, bsv b] w fun e w' => e = .returned (.bool true) ∧ UpOf w w' := by
  go_enter Tryd.func22, Tryd.ntmps22
  go_wp2_with (first | ((with_reducible refine wp_region_up (by kernel_rfl) (by kernel_rfl) ?_); (repeat (go_big_quiet_step (fail))); refine wpQuiet_nil ?_; intro _ hw'; obtain ⟨nq, hw''⟩ := hw'; subst hw''))
  go_ret
  exact ⟨rfl, UpOf.of (by repeat (first | exact Below.refl _ _ | refine bl_tr ?_ _ | refine bl_al ?_ _ | refine bl_dr ?_ | refine bl_up ?_ _ | refine Below.drew ?_ | refine bl_alloc ?_ _ | refine Below.setCell ?_ (by first | (simp; done) | (simp; omega)) _))⟩
set_option maxRecDepth 10000 in
theorem eqDesk_any (d : DeskD) (A B A' B' : Option Addr) (c e c' e' : Nat) (w : World) (h : DSee w d A B) (h' : DSee w d A' B') (hn : d.stops.length ≤ 100000000) (hm : d.drills.length ≤ 100000000) :
    Calls Tryd.prog 9 #[dkv d A B c e, dkv d A' B' c' e'] w fun e w' => e = .returned (.bool true) ∧ UpOf w w' := by
  go_enter Tryd.func9, Tryd.ntmps9
  go_wp2_with fail
  obtain ⟨x0, y0, hs, hB⟩ := box2 w (dkcs d A B c e) (dkcs d A' B' c' e') 33 33
  have x5 := x0 5
  have x6 := x0 6
  have x7 := x0 7
  have y5 := y0 5
  have y6 := y0 6
  have y7 := y0 7
  have k1 : w.heap.size < w.heap.size + 2 := by omega
  have k2 : w.heap.size + 1 < w.heap.size + 2 := by omega
  rw [← hs] at k1 k2
  have h1 := h.below hB
  have h2 := h'.below hB
  have HB := Lib.hid hB
  clear x0 y0 hs hB h h'
  simp only [List.getElem?_toArray, List.getElem?_cons_succ, List.getElem?_cons_zero] at x5 x6 x7 y5 y6 y7
  revert x5 x6 x7 y5 y6 y7 k1 k2 h1 h2 HB
  generalize (w.alloc (.cells (dkcs d A B c e) 33)).alloc (.cells (dkcs d A' B' c' e') 33) = W
  intro k1 k2 h1 h2 HB x5 x6 x7 y5 y6 y7
  refine (eqBasket_any _ _).mono ?_
  rintro e w' ⟨rfl, g1, rfl⟩
  go_wp2_with fail
  refine (eqInt64S_any _ _ _ _ _ _ (h1.1.below (by repeat (first | exact Below.refl _ _ | refine bl_tr ?_ _ | refine bl_al ?_ _ | refine bl_dr ?_ | refine bl_up ?_ _ | refine Below.drew ?_ | refine bl_alloc ?_ _ | refine Below.setCell ?_ (by first | (simp; done) | (simp; omega)) _))) (h2.1.below (by repeat (first | exact Below.refl _ _ | refine bl_tr ?_ _ | refine bl_al ?_ _ | refine bl_dr ?_ | refine bl_up ?_ _ | refine Below.drew ?_ | refine bl_alloc ?_ _ | refine Below.setCell ?_ (by first | (simp; done) | (simp; omega)) _))) hn).mono ?_
  rintro e w' ⟨rfl, g2, rfl⟩
  go_wp2_with fail
  refine (eqDrillS_any _ _ _ _ _ _ (h1.2.below (by repeat (first | exact Below.refl _ _ | refine bl_tr ?_ _ | refine bl_al ?_ _ | refine bl_dr ?_ | refine bl_up ?_ _ | refine Below.drew ?_ | refine bl_alloc ?_ _ | refine Below.setCell ?_ (by first | (simp; done) | (simp; omega)) _))) (h2.2.below (by repeat (first | exact Below.refl _ _ | refine bl_tr ?_ _ | refine bl_al ?_ _ | refine bl_dr ?_ | refine bl_up ?_ _ | refine Below.drew ?_ | refine bl_alloc ?_ _ | refine Below.setCell ?_ (by first | (simp; done) | (simp; omega)) _))) hm).mono ?_
  rintro e w' ⟨rfl, g3, rfl⟩
  go_wp2_with fail
  go_ret
  exact ⟨rfl, UpOf.of (HB.out.trans (Below.mono (by repeat (first | exact Below.refl _ _ | refine bl_tr ?_ _ | refine bl_al ?_ _ | refine bl_dr ?_ | refine bl_up ?_ _ | refine Below.drew ?_ | refine bl_alloc ?_ _ | refine Below.setCell ?_ (by first | (simp; done) | (simp; omega)) _)) HB.out.size))⟩
/-- the state at the beginning -/
def dk0 : DeskD := ⟨⟨44, 3, 2, 2, 3⟩, [], [], ByteArray.empty⟩
theorem dsee0 (w : World) : DSee w dk0 none none := ⟨Rds.empty _ _ _, Rds.empty _ _ _⟩
theorem bl_set {a w : World} {b i : Nat} (h : Below a.heap.size a w) (hb : a.heap.size ≤ b) (u : Value) : Below a.heap.size a (w.setCell ⟨b, i, none⟩ u) := h.setCell hb u
end Go.Proofs.YtbianlkenallaaaDoor

/-
  'only the blocks from lo to hi have changed, and there is new memory': plain facts on worlds. No program.
-/
import Derived.Test.YtiibpldfnnhhlaaDoorMgA
namespace Go.Proofs.YtiibpldfnnhhlaaDoor
open Go.RowKit
structure Only (lo hi : Nat) (w w' : World) : Prop where
  os : w'.os = w.os
  tape : w'.tape = w.tape
  output : w'.output = w.output
  size : w.heap.size ≤ w'.heap.size
  block : ∀ k, k < w.heap.size → (k < lo ∨ hi ≤ k) → w'.heap[k]? = w.heap[k]?
section
variable {lo hi : Nat} {w w' w'' : World}
theorem Only.refl (lo hi : Nat) (w : World) : Only lo hi w w := ⟨rfl, rfl, rfl, Nat.le_refl _, fun _ _ _ => rfl⟩
theorem Only.trans (h : Only lo hi w w') (k : Only lo hi w' w'') : Only lo hi w w'' :=
  ⟨k.os.trans h.os, k.tape.trans h.tape, k.output.trans h.output, Nat.le_trans h.size k.size, fun i hi' hne => (k.block i (Nat.lt_of_lt_of_le hi' h.size) hne).trans (h.block i hi' hne)⟩
theorem Only.up (h : Only lo hi w w') (g : Up w') : Only lo hi w (up w' g) :=
  ⟨g.below.os.trans h.os, g.below.tape.trans h.tape, g.below.output.trans h.output, Nat.le_trans h.size g.below.size, fun i hi' hne => (g.below.block i (Nat.lt_of_lt_of_le hi' h.size)).trans (h.block i hi' hne)⟩
theorem Only.grown {row : Option Nat} (h : Only lo hi w w') (hg : w'.grownBy w'' row) (hr : ∀ k, row = some k → lo ≤ k ∧ k < hi) : Only lo hi w w'' :=
  ⟨hg.os.trans h.os, hg.tape.trans h.tape, hg.output.trans h.output, Nat.le_trans h.size hg.size, fun i hi' hne => (hg.block i (Nat.lt_of_lt_of_le hi' h.size) (fun e => by have := hr i e.symm; omega)).trans (h.block i hi' hne)⟩
theorem Only.set (h : Only lo hi w w') {p : Addr} (hp : lo ≤ p.block ∧ p.block < hi) (u : Value) : Only lo hi w (w'.setCell p u) :=
  ⟨h.os, h.tape, h.output, by simpa [World.setCell] using h.size, fun i hi' hne => (Below.heap_setCell w' p u i (by omega)).trans (h.block i hi' hne)⟩
theorem Only.rds {sz n : Nat} {A : Option Addr} {xs : List Value} (ho : Only lo hi w w') (h : Rds w sz A n xs) (hb : 0 < n * sz → ∀ b off, A = some ⟨b, off, none⟩ → b < lo ∨ hi ≤ b) : Rds w' sz A n xs :=
  h.keep ho.size (fun hn b off e hlt => ho.block b hlt (hb hn b off e))
theorem Only.own {base size n : Nat} {e : TypeId} {v : Value} {xs : List Value} (ho : Only lo hi w w') (h : w.ownsRow base e size v n xs) (hb : hi ≤ base ∨ ∀ k, v.ownBlock = some k → k < lo) : w'.ownsRow base e size v n xs := by
  refine ⟨h.1, ?_⟩
  rcases h.2 with h2 | ⟨g, cap, cur, hv, hg, hh, r⟩
  · exact .inl h2
  · refine .inr ⟨g, cap, cur, hv, hg, (ho.block g (Array.getElem?_eq_some_iff.1 hh).1 ?_).trans hh, r⟩
    rcases hb with hb | hb
    · exact .inr (by omega)
    · exact .inl (hb g (by rw [hv]; rfl))
theorem Only.upOf {W : World} (ho : Only lo hi w w') (hW : Below W.heap.size W w) (hlo : W.heap.size ≤ lo) : UpOf W w' :=
  .of ⟨ho.os.trans hW.os, ho.tape.trans hW.tape, ho.output.trans hW.output, Nat.le_trans hW.size ho.size, fun k hk => (ho.block k (Nat.lt_of_lt_of_le hk hW.size) (.inl (by omega))).trans (hW.block k hk)⟩
theorem Only.of_grown {row : Option Nat} (hg : w.grownBy w' row) (hr : ∀ k, row = some k → lo ≤ k ∧ k < hi) : Only lo hi w w' := (Only.refl lo hi w).grown hg hr
end
end Go.Proofs.YtiibpldfnnhhlaaDoor

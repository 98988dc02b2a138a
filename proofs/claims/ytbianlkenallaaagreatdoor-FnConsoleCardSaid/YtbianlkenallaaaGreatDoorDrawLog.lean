/-
  The reference's drawing of a log's entries: valid ones, in order. The bounds stand at each.
-/
import Derived.Test.YtbianlkenallaaaGreatDoorDrawEntry
import Derived.Test.YtbianlkenallaaaGreatDoorLogOfP
set_option linter.all false
namespace Go.Proofs.YtbianlkenallaaaGreatDoor
open Go.RowKit
theorem gr_far {a w w' : World} {row row2 : Option Nat} (h : a.grownBy w row) (k : w.grownBy w' row2) (hr : ∀ j, row2 = some j → a.heap.size ≤ j) : a.grownBy w' row :=
  ⟨k.os.trans h.os, k.tape.trans h.tape, k.output.trans h.output, Nat.le_trans h.size k.size, fun i hi hne => (k.block i (Nat.lt_of_lt_of_le hi h.size) (fun e => by have := hr i e.symm; omega)).trans (h.block i hi hne)⟩
theorem SrcAt.kept {w w' : World} {b n c k : Nat} {A : Option Addr} {row : Option Nat} (h : SrcAt w b A n c k) (hg : w.grownBy w' row) (hne : some b ≠ row) : SrcAt w' b A n c k := by
  obtain ⟨s, h0, h1, hB⟩ := h
  exact ⟨s, h0, h1, hB.grown hg hne⟩
theorem Byt.kept {w w' : World} {b n : Nat} {A : Option Addr} {row : Option Nat} (h : Byt w b A n) (hg : w.grownBy w' row) (hr : ∀ j, row = some j → b ≤ j) : Byt w' b A n := by
  obtain ⟨zs, h1, h2, h3⟩ := h
  exact ⟨zs, h1, h2.grown hg (fun hn b' off hA he => by have := h3 (by omega) b' off hA; have := hr b' he.symm; omega), h3⟩
end Go.Proofs.YtbianlkenallaaaGreatDoor

/-
  DeskCommand of the program, up to the command: the state is copied. The bounds stand at it.
-/
import Derived.Test.YtbianlkenallaaaGreatDoorDc1
import Derived.Deep.DeepCutAuto
set_option linter.all false
namespace Go.Proofs.YtbianlkenallaaaGreatDoor
open Go.RowKit
theorem MD.put8 {w V : World} {p q : Nat} {x0 x1 x2 x3 x4 x5 x6 x7 : Value} (h : MD w V p q #[x0, x1, x2, x3, x4, x5, x6, x7]) (u0 u1 u2 u3 u4 u5 u6 u7 : Value) : MD w ((((((((V.setCell ⟨p, 0, none⟩ u0).setCell ⟨p, 1, none⟩ u1).setCell ⟨p, 2, none⟩ u2).setCell ⟨p, 3, none⟩ u3).setCell ⟨p, 4, none⟩ u4).setCell ⟨p, 5, none⟩ u5).setCell ⟨p, 6, none⟩ u6).setCell ⟨p, 7, none⟩ u7) p q #[u0, u1, u2, u3, u4, u5, u6, u7] := by
  have h0 : MD w _ p q #[u0, x1, x2, x3, x4, x5, x6, x7] := h.put 0 u0
  have h1 : MD w _ p q #[u0, u1, x2, x3, x4, x5, x6, x7] := h0.put 1 u1
  have h2 : MD w _ p q #[u0, u1, u2, x3, x4, x5, x6, x7] := h1.put 2 u2
  have h3 : MD w _ p q #[u0, u1, u2, u3, x4, x5, x6, x7] := h2.put 3 u3
  have h4 : MD w _ p q #[u0, u1, u2, u3, u4, x5, x6, x7] := h3.put 4 u4
  have h5 : MD w _ p q #[u0, u1, u2, u3, u4, u5, x6, x7] := h4.put 5 u5
  have h6 : MD w _ p q #[u0, u1, u2, u3, u4, u5, u6, x7] := h5.put 6 u6
  have h7 : MD w _ p q #[u0, u1, u2, u3, u4, u5, u6, u7] := h6.put 7 u7
  exact h7
/-- the state ahead of the command: the copy at p, its rows and the words -/
structure DC (w U : World) (p q : Nat) (d : DeskD) (A B : Option Addr) (c e base : Nat) (W : List ByteArray) (bW cW : Nat) : Prop where
  m : MD w U p q (dkcs d A B c e)
  o : DOwn base U d A B c e
  wo : U.ownsRow base 9 1 (.slice (some ⟨bW, 0, none⟩) W.length cW) W.length (strs W)
  hb : p < base ∧ q < base ∧ w.heap.size ≤ base
theorem DC.below {w U V : World} {p q : Nat} {d : DeskD} {A B : Option Addr} {c e base : Nat} {W : List ByteArray} {bW cW : Nat} (h : DC w U p q d A B c e base W bW cW) (hb : Below U.heap.size U V) : DC w V p q d A B c e base W bW cW :=
  ⟨h.m.below hb, ⟨own_below h.o.1 hb, own_below h.o.2 hb⟩, own_below h.wo hb, h.hb⟩
end Go.Proofs.YtbianlkenallaaaGreatDoor

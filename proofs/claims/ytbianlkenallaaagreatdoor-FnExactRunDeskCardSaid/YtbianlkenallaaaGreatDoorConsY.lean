/-
  The console: how many lines a command says, and the bounds of a valid desk. Plain facts. No program. The bounds stand at each.
-/
import Derived.Test.YtbianlkenallaaaGreatDoorConsRG
import Derived.Test.YtbianlkenallaaaGreatDoorMgF
import Derived.Test.YtbianlkenallaaaGreatDoorMgE
set_option linter.all false
namespace Go.Proofs.YtbianlkenallaaaGreatDoor
open Go.RowKit
theorem sent_one (r : ByteArray × Int) : (sent r).length = 1 := by unfold sent; split <;> rfl
theorem nmb_one (r : Int × Int) : (nmb r).length = 1 := by unfold nmb; split <;> rfl
theorem code_one (r : ByteArray × Int) : (codeOut r).length = 1 := by
 unfold codeOut
 split
 ·rfl
 ·exact sent_one r
theorem doK_lines {two : List ByteArray → ByteArray × Int} {D : DeskD} (hv : vDesk D = true) (W : List ByteArray) (k : Nat) : (doK two D W k).2.length ≤ 4001 := by
 have hd := (vDrills_inv (vDesk_inv hv).2.2.1).1
 have he := entsL_len (vDesk_inv hv).2.2.2
 unfold doK
 split
 all_goals (repeat' split)
 all_goals first
  | (simp only [List.length_singleton]; omega)
  | (simp only [sent_one, nmb_one, code_one]; omega)
  | (simp only [List.length_append, List.length_map, List.length_singleton]; omega)
theorem DoH.of {D : DeskD} {L : List ByteArray} {s : ByteArray} (hv : vDesk D = true) (hn : L.length ≤ 800000) (hs : s.size ≤ 1048576) : DoH D L (splitA 32 [] s.data.toList) := by
 have z := dkSz_of (e := D.drills.length) hv (Nat.le_refl _)
 have h1 := (vStops_inv (vDesk_inv hv).2.1).1
 have h2 := (vDrills_inv (vDesk_inv hv).2.2.1).1
 refine ⟨hv, hn, ?_, fun i hi => ?_, fun i hi => ?_, by omega, h2, z.b, z.l⟩
 ·have := split_len 32 s.data.toList []
  rw [bsz] at this
  omega
 ·have := split_size 32 s.data.toList [] (wd (splitA 32 [] s.data.toList) i) (by rw [← wd_eq hi]; exact List.getElem_mem hi)
  rw [bsz] at this
  simp at this
  omega
 ·have := restW_size (m := i) rfl hi
  rw [bsz] at this
  omega
end Go.Proofs.YtbianlkenallaaaGreatDoor

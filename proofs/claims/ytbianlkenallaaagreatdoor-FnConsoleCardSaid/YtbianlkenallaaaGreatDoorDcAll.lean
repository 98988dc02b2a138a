/-
  DeskCommand of the program: what it answers for a valid state. The bounds stand at it; it leans on the laid table.
-/
import Derived.Test.YtbianlkenallaaaGreatDoorDc3
import Derived.Test.YtbianlkenallaaaGreatDoorDc4
import Derived.Test.YtbianlkenallaaaGreatDoorDc5
import Derived.Test.YtbianlkenallaaaGreatDoorDc6
import Derived.Test.YtbianlkenallaaaGreatDoorDcK1
import Derived.Test.YtbianlkenallaaaGreatDoorDcK2
import Derived.Test.YtbianlkenallaaaGreatDoorDcK3
import Derived.Test.YtbianlkenallaaaGreatDoorDcK5
import Derived.Test.YtbianlkenallaaaGreatDoorDcK6
import Derived.Test.YtbianlkenallaaaGreatDoorDcK7
import Derived.Test.YtbianlkenallaaaGreatDoorDcK10
import Derived.Test.YtbianlkenallaaaGreatDoorDcK11
import Derived.Test.YtbianlkenallaaaGreatDoorDcK12
import Derived.Test.YtbianlkenallaaaGreatDoorDcK13
set_option linter.all false
namespace Go.Proofs.YtbianlkenallaaaGreatDoor
open Go.RowKit
def dcPost (o : Option (DeskD × List ByteArray)) (w : World) (r : Ending) (w' : World) : Prop := match o with
  | none => dcNo w r w'
  | some x => dcYes x.1 x.2 w r w'
theorem deskCmd_any {two : List ByteArray → ByteArray × Int} (h2 : TwoOk two) (d : DeskD) (A B : Option Addr) (c e : Nat) (s : ByteArray) (w : World) (hs : s.size ≤ 1048576) (hS : DSee w d A B) (hz : DkSz d e) (hv : vDesk d = true) (ht : Tab w) :
    Calls Tryz.prog 9 #[dkv d A B c e, .string s] w fun r w' => dcPost (doL two d s) w r w' := by
  cases hf : fitK (kindOf (wd (splitA 32 [] s.data.toList) 0)) (splitA 32 [] s.data.toList).length with
  | false =>
    have hd : doL two d s = none := by rw [doL, hf]; rfl
    rw [hd]
    exact dcNo_any d A B c e s w hs hS hz hv ht hf
  | true =>
    have hd : doL two d s = some (doK two d (splitA 32 [] s.data.toList) (kindOf (wd (splitA 32 [] s.data.toList) 0))) := by rw [doL, hf]; rfl
    rw [hd]
    show Calls Tryz.prog 9 #[dkv d A B c e, .string s] w fun r w' => dcYes (doK two d (splitA 32 [] s.data.toList) (kindOf (wd (splitA 32 [] s.data.toList) 0))).1 (doK two d (splitA 32 [] s.data.toList) (kindOf (wd (splitA 32 [] s.data.toList) 0))).2 w r w'
    obtain ⟨W, hW⟩ : ∃ W, splitA 32 [] s.data.toList = W := ⟨_, rfl⟩
    rw [hW] at hf ⊢
    obtain ⟨k, hk⟩ : ∃ k, kindOf (wd W 0) = k := ⟨_, rfl⟩
    have hle := kind_le (wd W 0)
    rw [hk] at hle ⊢
    have h15 : k = 0 ∨ k = 1 ∨ k = 2 ∨ k = 3 ∨ k = 4 ∨ k = 5 ∨ k = 6 ∨ k = 7 ∨ k = 8 ∨ k = 9 ∨ k = 10 ∨ k = 11 ∨ k = 12 ∨ k = 13 ∨ k = 14 := by omega
    rcases h15 with rfl | rfl | rfl | rfl | rfl | rfl | rfl | rfl | rfl | rfl | rfl | rfl | rfl | rfl | rfl
    · exact dcAlign_any d A B c e s w W hs hS hz hv ht hW hf hk
    · exact dcK1_any h2 d A B c e s w W hs hS hz hv ht hW hf hk
    · exact dcK2_any h2 d A B c e s w W hs hS hz hv ht hW hf hk
    · exact dcK3_any h2 d A B c e s w W hs hS hz hv ht hW hf hk
    · exact dcDrills_any d A B c e s w W hs hS hz hv ht hW hf hk
    · exact dcK5_any h2 d A B c e s w W hs hS hz hv ht hW hf hk
    · exact dcK6_any h2 d A B c e s w W hs hS hz hv ht hW hf hk
    · have e7 : doK two d W 7 = (d, lineR d.drills (wd W 1) (wd W 2)) := by
        simp only [doK, lineR]
        cases numB (wd W 2) with
        | false => rfl
        | true => cases findD d.drills (wd W 1) <;> rfl
      rw [e7]
      exact dcK7_any h2 d A B c e s w W hs hS hz hv ht hW hf hk
    · exact dcLog_any d A B c e s w W hs hS hz hv ht hW hf hk
    · exact dcMark_any d A B c e s w W hs hS hz hv ht hW hf hk
    · exact dcK10_any h2 d A B c e s w W hs hS hz hv ht hW hf hk
    · have e11 : doK two d W 11 = (d, if numB (wd W 1) then sent (setR (wordsA [] (restW W 2).data.toList) (sval (wd W 1))) else [errL 7]) := by
        simp only [doK]
        cases numB (wd W 1) <;> rfl
      rw [e11]
      exact dcK11_any h2 d A B c e s w W hs hS hz hv ht hW hf hk
    · exact dcK12_any h2 d A B c e s w W hs hS hz hv ht hW hf hk
    · exact dcK13_any h2 d A B c e s w W hs hS hz hv ht hW hf hk
    · rw [hk] at hf
      simp [fitK] at hf
end Go.Proofs.YtbianlkenallaaaGreatDoor

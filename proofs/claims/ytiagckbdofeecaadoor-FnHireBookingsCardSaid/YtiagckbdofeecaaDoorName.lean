/-
  Names: the program's IsName and the reference's; both are one plain test of the text. No condition but that a text has a length.
-/
import Derived.Test.YtiagckbdofeecaaDoorRows
import Derived.Test.YtiagckbdofeecaaDoorMgA
namespace Go.Proofs.YtiagckbdofeecaaDoor
open Go.RowKit
def byteAt (s : ByteArray) (i : Nat) : UInt8 := s.data.toList.getD i 0
theorem byteAt_eq {s : ByteArray} {i : Nat} (h : i < s.size) : s[i] = byteAt s i := by
  have h' : i < s.data.size := h
  show s.data[i] = _
  simp [byteAt, Array.getElem?_eq_getElem h']
def small (c : UInt8) : Bool := decide (97 ≤ (c.toNat : Int) ∧ (c.toNat : Int) ≤ 122)
def digit (c : UInt8) : Bool := decide (48 ≤ (c.toNat : Int) ∧ (c.toNat : Int) ≤ 57)
def nameC (i : Nat) (c : UInt8) : Bool := small c || (decide (0 < i) && (decide ((c.toNat : Int) = 45) || digit c))
def nameB (s : ByteArray) : Bool := decide (1 ≤ s.size ∧ s.size ≤ 12) && (List.range s.size).all fun i => nameC i (byteAt s i)
theorem nameB_len {s : ByteArray} (h : ¬ (1 ≤ s.size ∧ s.size ≤ 12)) : nameB s = false := by rw [nameB, decide_eq_false h]; rfl
theorem nameB_at {s : ByteArray} {i : Nat} (hi : i < s.size) (h : nameC i (byteAt s i) = false) : nameB s = false := by
  simp only [nameB, Bool.and_eq_false_iff]
  refine .inr ?_
  rw [← Bool.not_eq_true]
  intro hc
  rw [List.all_eq_true] at hc
  have := hc i (List.mem_range.2 hi)
  simp [h] at this
theorem nameB_true {s : ByteArray} (h1 : 1 ≤ s.size ∧ s.size ≤ 12) (h : ∀ i, i < s.size → nameC i (byteAt s i) = true) : nameB s = true := by
  simp only [nameB, decide_eq_true h1, Bool.true_and, List.all_eq_true, List.mem_range]
  exact h
theorem nameB_bd {s : ByteArray} (h : nameB s = true) : 1 ≤ s.size ∧ s.size ≤ 12 := by
  simp only [nameB, Bool.and_eq_true, decide_eq_true_eq] at h
  exact h.1
theorem lt_ext {P : Nat → Prop} {j : Nat} (h : ∀ i, i < j → P i) (hj : P j) : ∀ i, i < j + 1 → P i := fun i hi => by
  rcases Nat.lt_succ_iff_lt_or_eq.1 hi with h' | h'
  · exact h i h'
  · rw [h']; exact hj
theorem isDigit_any (c : UInt8) (w : World) :
    Calls Tryd.prog 67 #[.int .u8 c.toNat] w fun e w' => e = .returned (.bool (digit c)) ∧ w = w' := by
  go_enter Tryd.func67, Tryd.ntmps67
  go_wp2
  all_goals go_ret
  all_goals exact ⟨ret_bool (by go_light; simp only [digit]; rw [Bool.eq_iff_iff]; simp; try omega), rfl⟩
theorem l01Digit_any (c : UInt8) (w : World) :
    Calls Tryd.prog 66 #[.int .u8 c.toNat] w fun e w' => e = .returned (.bool (digit c)) ∧ w = w' := by
  go_enter Tryd.func66, Tryd.ntmps66
  go_wp2
  all_goals go_ret
  all_goals exact ⟨ret_bool (by go_light; simp only [digit]; rw [Bool.eq_iff_iff]; simp; try omega), rfl⟩
theorem nameC_of {c : UInt8} {k : Nat} {b : Bool} (h : b = (decide (97 ≤ (c.toNat : Int) ∧ (c.toNat : Int) ≤ 122) || (decide (0 < k) && (decide ((c.toNat : Int) = 45) || digit c)))) : nameC k c = b := h.symm
theorem isEmpty_no {s : ByteArray} (h : 0 < s.size) : s.toList.isEmpty = false := by
  rw [ByteArray.toList_eq]
  have h' : 0 < s.data.toList.length := by simpa using h
  cases hl : s.data.toList with
  | nil => rw [hl] at h'; simp at h'
  | cons _ _ => rfl
theorem isEmpty_yes {s : ByteArray} (h : s.size = 0) : s.toList.isEmpty = true := by
  rw [ByteArray.toList_eq]
  have h' : s.data.toList.length = 0 := by simpa using h
  rw [List.eq_nil_of_length_eq_zero h']
  rfl
end Go.Proofs.YtiagckbdofeecaaDoor

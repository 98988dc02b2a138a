/-
  Names: the program's IsName and the reference's; both are one plain test of the text. No condition but that a text has a length.
-/
import Derived.Test.YtbianlkenallaaaDoorRows
import Derived.Test.YtbianlkenallaaaDoorMgA
namespace Go.Proofs.YtbianlkenallaaaDoor
open Go.RowKit
def byteAt (s : ByteArray) (i : Nat) : UInt8 := s.data.toList.getD i 0
theorem byteAt_eq {s : ByteArray} {i : Nat} (h : i < s.size) : s[i] = byteAt s i := by
  have h' : i < s.data.size := h
  show s.data[i] = _
  simp [byteAt, Array.getElem?_eq_getElem h']
def small (c : UInt8) : Bool := decide (97 ≤ (c.toNat : Int) ∧ (c.toNat : Int) ≤ 122)
def digit (c : UInt8) : Bool := decide (48 ≤ (c.toNat : Int) ∧ (c.toNat : Int) ≤ 57)
def nameC (i : Nat) (c : UInt8) : Bool := small c || (decide (0 < i) && (decide ((c.toNat : Int) = 45) || digit c))
def nameB (s : ByteArray) : Bool := decide (1 ≤ s.size ∧ s.size ≤ 12) && (List.range s.size).all fun i => nameC i (byteAt s i)
theorem nameB_len {s : ByteArray} (h : ¬ (1 ≤ s.size ∧ s.size ≤ 12)) : nameB s = false := by rw [nameB, decide_eq_false h]; rfl
theorem nameB_at {s : ByteArray} {i : Nat} (hi : i < s.size) (h : nameC i (byteAt s i) = false) : nameB s = false := by
  simp only [nameB, Bool.and_eq_false_iff]
  refine .inr ?_
  rw [← Bool.not_eq_true]
  intro hc
  rw [List.all_eq_true] at hc
  have := hc i (List.mem_range.2 hi)
  simp [h] at this
theorem nameB_true {s : ByteArray} (h1 : 1 ≤ s.size ∧ s.size ≤ 12) (h : ∀ i, i < s.size → nameC i (byteAt s i) = true) : nameB s = true := by
  simp only [nameB, decide_eq_true h1, Bool.true_and, List.all_eq_true, List.mem_range]
  exact h
theorem nameB_bd {s : ByteArray} (h : nameB s = true) : 1 ≤ s.size ∧ s.size ≤ 12 := by
  simp only [nameB, Bool.and_eq_true, decide_eq_true_eq] at h
  exact h.1
theorem lt_ext {P : Nat → Prop} {j : Nat} (h : ∀ i, i < j → P i) (hj : P j) : ∀ i, i < j + 1 → P i := fun i hi => by
  rcases Nat.lt_succ_iff_lt_or_eq.1 hi with h' | h'
  · exact h i h'
  · rw [h']; exact hj
theorem isDigit_any (c : UInt8) (w : World) :
    Calls Tryd.prog 52 #[.int .u8 c.toNat] w fun e w' => e = .returned (.bool (digit c)) ∧ w = w' := by
  go_enter Tryd.func52, Tryd.ntmps52
  go_wp2
  all_goals go_ret
  all_goals exact ⟨ret_bool (by go_light; simp only [digit]; rw [Bool.eq_iff_iff]; simp; try omega), rfl⟩
theorem l01Small_any (c : UInt8) (w : World) :
    Calls Tryd.prog 66 #[.int .u8 c.toNat] w fun e w' => e = .returned (.bool (small c)) ∧ w = w' := by
  go_enter Tryd.func66, Tryd.ntmps66
  go_wp2
  all_goals go_ret
  all_goals exact ⟨ret_bool (by go_light; simp only [small]; rw [Bool.eq_iff_iff]; simp; try omega), rfl⟩
theorem l01Digit_any (c : UInt8) (w : World) :
    Calls Tryd.prog 67 #[.int .u8 c.toNat] w fun e w' => e = .returned (.bool (digit c)) ∧ w = w' := by
  go_enter Tryd.func67, Tryd.ntmps67
  go_wp2
  all_goals go_ret
  all_goals exact ⟨ret_bool (by go_light; simp only [digit]; rw [Bool.eq_iff_iff]; simp; try omega), rfl⟩
theorem nameC_of {c : UInt8} {k : Nat} {b : Bool} (h : b = (decide (97 ≤ (c.toNat : Int) ∧ (c.toNat : Int) ≤ 122) || (decide (0 < k) && (decide ((c.toNat : Int) = 45) || digit c)))) : nameC k c = b := h.symm
set_option maxRecDepth 10000 in
set_option maxHeartbeats 1000000 in
theorem isNameI_any (s : ByteArray) (w : World) (hs : s.size ≤ 9223372036854775807) :
    Calls Tryd.prog 44 #[.string s] w fun e w' => e = .returned (.bool (nameB s)) ∧ w = w' := by
  by_cases h1 : 1 ≤ s.size ∧ s.size ≤ 12
  · have H1 := Lib.hid h1
    obtain ⟨h2, h3⟩ := h1
    have z : ((s.size : Int) == 0) = false := by rw [beq_eq_false_iff_ne]; omega
    go_enter Tryd.func44, Tryd.ntmps44
    go_wp2
    go_loop [15] (fun i => ∃ k : Nat, k ≤ s.size ∧ i = i64 k ∧ Hid (∀ j, j < k → nameC j (byteAt s j) = true)) (fun i => s.size - (intOf i).toNat)
    case atStart => exact ⟨0, by omega, rfl, fun j hj => by omega⟩
    case round =>
      obtain ⟨k, hk, rfl, hok⟩ := hrel
      by_cases hlt : k < s.size
      · have hb := Lib.hid (byteAt_eq hlt)
        by_cases a1 : 97 ≤ (s[k].toNat : Int)
        · by_cases a2 : (s[k].toNat : Int) ≤ 122
          · have hq := Lib.hid (show nameC k (byteAt s k) = true by rw [← hb.out, nameC_of rfl, decide_eq_true ⟨a1, a2⟩]; rfl)
            go_wp2
            go_round
            case rel => have hx := lt_ext (P := fun j => nameC j (byteAt s j) = true) hok.out hq.out; exact ⟨k + 1, by omega, by go_num, hx⟩
            case measure => (simp [intOf]; try omega)
          · cases q0 : ((k : Int) == 0)
            · have k0 : 0 < k := by
                rw [beq_eq_false_iff_ne] at q0
                omega
              cases q1 : ((s[k].toNat : Int) != 45)
              · have hq := Lib.hid (show nameC k (byteAt s k) = true by
                  rw [← hb.out, nameC_of rfl, decide_eq_true k0, decide_eq_true (show (s[k].toNat : Int) = 45 by simpa using q1)]; simp)
                go_wp2_with (go_at_call 52; refine (isDigit_any _ _).mono ?_; rintro e w' ⟨rfl, rfl⟩)
                go_round
                case rel => have hx := lt_ext (P := fun j => nameC j (byteAt s j) = true) hok.out hq.out; exact ⟨k + 1, by omega, by go_num, hx⟩
                case measure => (simp [intOf]; try omega)
              · cases q2 : digit s[k]
                · have hf := Lib.hid (nameB_at hlt (show nameC k (byteAt s k) = false by
                    rw [← hb.out, nameC_of rfl, q2, decide_eq_false (show ¬ (s[k].toNat : Int) = 45 by simpa using q1)]; simp; intros; omega))
                  go_wp2_with (go_at_call 52; refine (ret_as (isDigit_any _ _) q2).mono ?_; rintro e w' ⟨rfl, rfl⟩)
                  go_ret
                  exact ⟨ret_bool hf.out.symm, rfl⟩
                · have hq := Lib.hid (show nameC k (byteAt s k) = true by rw [← hb.out, nameC_of rfl, q2, decide_eq_true k0]; simp)
                  go_wp2_with (go_at_call 52; refine (ret_as (isDigit_any _ _) q2).mono ?_; rintro e w' ⟨rfl, rfl⟩)
                  go_round
                  case rel => have hx := lt_ext (P := fun j => nameC j (byteAt s j) = true) hok.out hq.out; exact ⟨k + 1, by omega, by go_num, hx⟩
                  case measure => (simp [intOf]; try omega)
            · have k0 : k = 0 := by
                rw [beq_iff_eq] at q0
                omega
              have hf := Lib.hid (nameB_at hlt (show nameC k (byteAt s k) = false by rw [← hb.out, nameC_of rfl, decide_eq_false (show ¬ 0 < k by omega)]; simp; intros; omega))
              clear k0
              go_wp2_with (go_at_call 52; refine (isDigit_any _ _).mono ?_; rintro e w' ⟨rfl, rfl⟩)
              go_ret
              exact ⟨ret_bool hf.out.symm, rfl⟩
        · · cases q0 : ((k : Int) == 0)
            · have k0 : 0 < k := by
                rw [beq_eq_false_iff_ne] at q0
                omega
              cases q1 : ((s[k].toNat : Int) != 45)
              · have hq := Lib.hid (show nameC k (byteAt s k) = true by
                  rw [← hb.out, nameC_of rfl, decide_eq_true k0, decide_eq_true (show (s[k].toNat : Int) = 45 by simpa using q1)]; simp)
                go_wp2_with (go_at_call 52; refine (isDigit_any _ _).mono ?_; rintro e w' ⟨rfl, rfl⟩)
                go_round
                case rel => have hx := lt_ext (P := fun j => nameC j (byteAt s j) = true) hok.out hq.out; exact ⟨k + 1, by omega, by go_num, hx⟩
                case measure => (simp [intOf]; try omega)
              · cases q2 : digit s[k]
                · have hf := Lib.hid (nameB_at hlt (show nameC k (byteAt s k) = false by
                    rw [← hb.out, nameC_of rfl, q2, decide_eq_false (show ¬ (s[k].toNat : Int) = 45 by simpa using q1)]; simp; intros; omega))
                  go_wp2_with (go_at_call 52; refine (ret_as (isDigit_any _ _) q2).mono ?_; rintro e w' ⟨rfl, rfl⟩)
                  go_ret
                  exact ⟨ret_bool hf.out.symm, rfl⟩
                · have hq := Lib.hid (show nameC k (byteAt s k) = true by rw [← hb.out, nameC_of rfl, q2, decide_eq_true k0]; simp)
                  go_wp2_with (go_at_call 52; refine (ret_as (isDigit_any _ _) q2).mono ?_; rintro e w' ⟨rfl, rfl⟩)
                  go_round
                  case rel => have hx := lt_ext (P := fun j => nameC j (byteAt s j) = true) hok.out hq.out; exact ⟨k + 1, by omega, by go_num, hx⟩
                  case measure => (simp [intOf]; try omega)
            · have k0 : k = 0 := by
                rw [beq_iff_eq] at q0
                omega
              have hf := Lib.hid (nameB_at hlt (show nameC k (byteAt s k) = false by rw [← hb.out, nameC_of rfl, decide_eq_false (show ¬ 0 < k by omega)]; simp; intros; omega))
              clear k0
              go_wp2_with (go_at_call 52; refine (isDigit_any _ _).mono ?_; rintro e w' ⟨rfl, rfl⟩)
              go_ret
              exact ⟨ret_bool hf.out.symm, rfl⟩
      · obtain rfl : k = s.size := by omega
        have hf := Lib.hid (nameB_true H1.out hok.out)
        go_wp2
        go_ret
        exact ⟨ret_bool hf.out.symm, rfl⟩
  · have hf := Lib.hid (nameB_len h1)
    by_cases h2 : s.size = 0
    · have z : ((s.size : Int) == 0) = true := by rw [beq_iff_eq]; omega
      clear h1 h2
      go_enter Tryd.func44, Tryd.ntmps44
      go_wp2
      go_ret
      exact ⟨ret_bool hf.out.symm, rfl⟩
    · have h3 : 12 < s.size := by omega
      have z : ((s.size : Int) == 0) = false := by rw [beq_eq_false_iff_ne]; omega
      clear h1 h2
      go_enter Tryd.func44, Tryd.ntmps44
      go_wp2
      go_ret
      exact ⟨ret_bool hf.out.symm, rfl⟩
theorem isEmpty_no {s : ByteArray} (h : 0 < s.size) : s.toList.isEmpty = false := by
  rw [ByteArray.toList_eq]
  have h' : 0 < s.data.toList.length := by simpa using h
  cases hl : s.data.toList with
  | nil => rw [hl] at h'; simp at h'
  | cons _ _ => rfl
theorem isEmpty_yes {s : ByteArray} (h : s.size = 0) : s.toList.isEmpty = true := by
  rw [ByteArray.toList_eq]
  have h' : s.data.toList.length = 0 := by simpa using h
  rw [List.eq_nil_of_length_eq_zero h']
  rfl
set_option maxRecDepth 10000 in
set_option maxHeartbeats 1000000 in
theorem isNameS_any (s : ByteArray) (w : World) (hs : s.size ≤ 9223372036854775807) :
    Calls Tryd.prog 50 #[.string s] w fun e w' => e = .returned (.bool (nameB s)) ∧ w = w' := by
  by_cases h1 : 1 ≤ s.size ∧ s.size ≤ 12
  · have H1 := Lib.hid h1
    obtain ⟨h2, h3⟩ := h1
    have h0 : 0 < s.size := by omega
    have z := isEmpty_no h0
    have hb0 := Lib.hid (byteAt_eq h0)
    cases q : small s[0]
    · have hf := Lib.hid (nameB_at h0 (show nameC 0 (byteAt s 0) = false by rw [← hb0.out, nameC, q]; simp))
      go_enter Tryd.func50, Tryd.ntmps50
      go_wp2_with (go_at_call 66; refine (ret_as (l01Small_any _ _) q).mono ?_; rintro e w' ⟨rfl, rfl⟩)
      go_ret
      exact ⟨ret_bool hf.out.symm, rfl⟩
    · have HQ := Lib.hid q
      go_enter Tryd.func50, Tryd.ntmps50
      go_wp2_with (go_at_call 66; refine (ret_as (l01Small_any _ _) q).mono ?_; rintro e w' ⟨rfl, rfl⟩)
      clear q
      go_loop [3] (fun i => ∃ k : Nat, k ≤ s.size ∧ i = i64 k ∧ Hid (∀ j, j < k → nameC j (byteAt s j) = true)) (fun i => s.size - (intOf i).toNat)
      case atStart => exact ⟨0, by omega, rfl, fun j hj => by omega⟩
      case round =>
        obtain ⟨k, hk, rfl, hok⟩ := hrel
        by_cases hlt : k < s.size
        · have hb := Lib.hid (byteAt_eq hlt)
          cases q0 : small s[k]
          · have k0 : 0 < k := by
              rcases Nat.eq_zero_or_pos k with h | h
              · subst h; rw [HQ.out] at q0; cases q0
              · exact h
            cases q1 : digit s[k]
            · cases q2 : ((s[k].toNat : Int) != 45)
              · have hq := Lib.hid (show nameC k (byteAt s k) = true by rw [← hb.out, nameC, decide_eq_true k0, decide_eq_true (show (s[k].toNat : Int) = 45 by simpa using q2)]; simp)
                go_wp2_with (first | (go_at_call 66; refine (ret_as (l01Small_any _ _) q0).mono ?_; rintro e w' ⟨rfl, rfl⟩) | (go_at_call 67; refine (ret_as (l01Digit_any _ _) q1).mono ?_; rintro e w' ⟨rfl, rfl⟩))
                go_round
                case rel => have hx := lt_ext (P := fun j => nameC j (byteAt s j) = true) hok.out hq.out; exact ⟨k + 1, by omega, by go_num, hx⟩
                case measure => (simp [intOf]; try omega)
              · have hf := Lib.hid (nameB_at hlt (show nameC k (byteAt s k) = false by rw [← hb.out, nameC, q0, q1, decide_eq_false (show ¬ (s[k].toNat : Int) = 45 by simpa using q2)]; simp))
                go_wp2_with (first | (go_at_call 66; refine (ret_as (l01Small_any _ _) q0).mono ?_; rintro e w' ⟨rfl, rfl⟩) | (go_at_call 67; refine (ret_as (l01Digit_any _ _) q1).mono ?_; rintro e w' ⟨rfl, rfl⟩))
                go_ret
                exact ⟨ret_bool hf.out.symm, rfl⟩
            · have hq := Lib.hid (show nameC k (byteAt s k) = true by rw [← hb.out, nameC, q1, decide_eq_true k0]; simp)
              go_wp2_with (first | (go_at_call 66; refine (ret_as (l01Small_any _ _) q0).mono ?_; rintro e w' ⟨rfl, rfl⟩) | (go_at_call 67; refine (ret_as (l01Digit_any _ _) q1).mono ?_; rintro e w' ⟨rfl, rfl⟩))
              go_round
              case rel => have hx := lt_ext (P := fun j => nameC j (byteAt s j) = true) hok.out hq.out; exact ⟨k + 1, by omega, by go_num, hx⟩
              case measure => (simp [intOf]; try omega)
          · have hq := Lib.hid (show nameC k (byteAt s k) = true by rw [← hb.out, nameC, q0]; rfl)
            go_wp2_with (go_at_call 66; refine (ret_as (l01Small_any _ _) q0).mono ?_; rintro e w' ⟨rfl, rfl⟩)
            go_round
            case rel => have hx := lt_ext (P := fun j => nameC j (byteAt s j) = true) hok.out hq.out; exact ⟨k + 1, by omega, by go_num, hx⟩
            case measure => (simp [intOf]; try omega)
        · obtain rfl : k = s.size := by omega
          have hf := Lib.hid (nameB_true H1.out hok.out)
          go_wp2
          go_ret
          exact ⟨ret_bool hf.out.symm, rfl⟩
  · have hf := Lib.hid (nameB_len h1)
    by_cases h2 : s.size = 0
    · have z := isEmpty_yes h2
      clear h1 h2
      go_enter Tryd.func50, Tryd.ntmps50
      go_wp2
      go_ret
      exact ⟨ret_bool hf.out.symm, rfl⟩
    · have h3 : 12 < s.size := by omega
      have z := isEmpty_no (s := s) (by omega)
      clear h1 h2
      go_enter Tryd.func50, Tryd.ntmps50
      go_wp2
      go_ret
      exact ⟨ret_bool hf.out.symm, rfl⟩
end Go.Proofs.YtbianlkenallaaaDoor

/-
  Decimal forms of numbers: plain facts (what is written, what is read). No program. No condition but what stands at each.
-/
import Derived.Test.YtiagckbdofeecaaDoorName
import Derived.Test.YtiagckbdofeecaaDoorSet
import Derived.Lib.ItoaLen
import Derived.Lib.UnsafeStr
namespace Go.Proofs.YtiagckbdofeecaaDoor
open Go.RowKit
def dec (n : Int) : ByteArray := ⟨(Lib.itoa n).toArray⟩
theorem dec_list (n : Int) : (dec n).data.toList = Lib.itoa n := by simp [dec]
theorem bsz (s : ByteArray) : s.data.toList.length = s.size := rfl
theorem dec_size (n : Int) : (dec n).size = (Lib.itoa n).length := by rw [← bsz, dec_list]
theorem dec_len {n : Int} (h0 : -9223372036854775808 ≤ n) (h1 : n ≤ 9223372036854775807) : (dec n).size ≤ 21 := by
  rw [dec_size]; exact Lib.itoa_length_le n h0 h1
/-- the digits of u, none for 0 -/
def decGo (u : Nat) : List UInt8 := if u = 0 then [] else Lib.decDigits u
theorem decGo_zero : decGo 0 = [] := rfl
theorem decGo_step {u : Nat} (h : 0 < u) : decGo u = decGo (u / 10) ++ [UInt8.ofNat (48 + u % 10)] := by
  rw [decGo, if_neg (by omega), Lib.decDigits]
  split
  · rename_i h2
    rw [decGo, if_pos (by omega), Nat.mod_eq_of_lt h2]; rfl
  · rename_i h2
    rw [decGo, if_neg (by omega)]
theorem decGo_len {u : Nat} (h : u ≤ 9223372036854775808) : (decGo u).length ≤ 20 := by
  unfold decGo
  split
  · simp
  · rw [Lib.decDigits_length]; exact Lib.nDigits_le20 u (by omega)
theorem dec_pos {u : Nat} (h : 0 < u) : dec (u : Int) = ⟨(decGo u).toArray⟩ := by
  rw [dec, Lib.itoa_nonneg, decGo, if_neg (by omega)]
theorem dec_zero : dec 0 = ⟨#[48]⟩ := by
  have : dec ((0 : Nat) : Int) = ⟨#[48]⟩ := by rw [dec, Lib.itoa_nonneg, Lib.decDigits]; rfl
  exact this
theorem dec_neg {u : Nat} (h : 0 < u) : dec (-(u : Int)) = ⟨#[45]⟩ ++ ⟨(decGo u).toArray⟩ := by
  rw [dec, Lib.itoa_neg u h, decGo, if_neg (by omega)]
  apply ba_ext
  simp [ByteArray.data_append]
end Go.Proofs.YtiagckbdofeecaaDoor

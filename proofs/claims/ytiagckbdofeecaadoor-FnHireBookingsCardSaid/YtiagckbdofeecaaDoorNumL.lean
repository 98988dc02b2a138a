/-
  Numbers that are read, digit by digit: plain facts for the walks. No program. No condition but what stands at each.
-/
import Derived.Test.YtiagckbdofeecaaDoorSplitP
namespace Go.Proofs.YtiagckbdofeecaaDoor
open Go.RowKit
theorem dig_sub {c : UInt8} (h : digit c = true) : ((c.toNat : Int) - 48) = (dval c : Int) := by
  have := of_decide_eq_true h
  unfold dval
  omega
theorem take_snoc {l : List UInt8} {k : Nat} (h : k < l.length) : l.take (k + 1) = l.take k ++ [l.getD k 0] := by
  rw [List.take_add_one, List.getElem?_eq_getElem h]
  simp [h]
theorem valL_take_bd {l : List UInt8} {k : Nat} (h : ∀ j, j < k → digit (l.getD j 0) = true) (hk : k ≤ 17) (hl : k ≤ l.length) : valL 0 (l.take k) < 100000000000000000 := by
  have h1 := valL_lt (l.take k) (fun c hc => by
    obtain ⟨j, hj, rfl⟩ := List.getElem_of_mem hc
    rw [List.length_take] at hj
    have := h j (by omega)
    rw [List.getElem_take]
    rw [List.getD_eq_getElem?_getD, List.getElem?_eq_getElem (by omega)] at this
    exact this)
  have h2 : 10 ^ (l.take k).length ≤ 10 ^ 17 := Nat.pow_le_pow_right (by omega) (by rw [List.length_take]; omega)
  have h3 : (10 : Nat) ^ 17 = 100000000000000000 := by decide
  omega
theorem all_of_at {l : List UInt8} (h : ∀ j, j < l.length → digit (l.getD j 0) = true) : l.all digit = true := by
  rw [List.all_eq_true]
  intro c hc
  obtain ⟨j, hj, rfl⟩ := List.getElem_of_mem hc
  have := h j hj
  rwa [List.getD_eq_getElem?_getD, List.getElem?_eq_getElem hj] at this
theorem all_no {l : List UInt8} {k : Nat} (hk : k < l.length) (h : digit (l.getD k 0) = false) : l.all digit = false := by
  rw [← Bool.not_eq_true, List.all_eq_true]
  intro hc
  have := hc (l.getD k 0) (by rw [List.getD_eq_getElem?_getD, List.getElem?_eq_getElem hk]; exact List.getElem_mem hk)
  rw [h] at this; cases this
theorem tl_ne {a b : ByteArray} (h : ¬ a = b) : (!(a.toList == b.toList)) = true := by
  rw [ByteArray.toList_eq, ByteArray.toList_eq]
  have : (a.data.toList == b.data.toList) = false := by rw [beq_eq_false_iff_ne]; intro he; exact h (ba_ext he)
  rw [this]; rfl
theorem tl_eq {a b : ByteArray} (h : a = b) : (!(a.toList == b.toList)) = false := by subst h; simp
end Go.Proofs.YtiagckbdofeecaaDoor

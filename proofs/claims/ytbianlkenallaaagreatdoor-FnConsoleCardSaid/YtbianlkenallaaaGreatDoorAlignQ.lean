/-
  Steps of an alignment, from the rests of two texts: plain facts. No program. No condition but what stands at each.
-/
import Derived.Test.YtbianlkenallaaaGreatDoorMgA
set_option linter.all false
namespace Go.Proofs.YtbianlkenallaaaGreatDoor
open Go.RowKit
/-- the rest of a text from a place on -/
def rst (a : ByteArray) (i : Nat) : ByteArray := a.extract i a.size
theorem rst_size (a : ByteArray) (i : Nat) : (rst a i).size = a.size - i := by simp [rst]
theorem rst_at (a : ByteArray) (i x : Nat) : byteAt (rst a i) x = byteAt a (i + x) := by
  unfold byteAt rst
  rw [List.getD_eq_getElem?_getD, List.getD_eq_getElem?_getD]
  congr 1
  simp only [ByteArray.data_extract, Array.toList_extract, List.extract_eq_drop_take, List.getElem?_take, List.getElem?_drop]
  split
  · rfl
  · rw [List.getElem?_eq_none]
    show a.size ≤ _
    omega
theorem okAl_rst {a b : ByteArray} {i k : Nat} (j : Nat) : okAl (rst a i) (rst b k) 0 0 j = okAl a b i k j := by
  unfold okAl
  simp only [rst_size, rst_at, Nat.add_zero, Nat.zero_add]
  congr 1
  · rw [decide_eq_decide]; omega
  congr 1
  · rw [decide_eq_decide]; omega
  congr 1
  · rw [decide_eq_decide]; constructor <;> (rintro ⟨h1, h2, h3⟩; exact ⟨by omega, by omega, h3⟩)
  congr 1
  · rw [decide_eq_decide]; constructor <;> (rintro ⟨h1, h2, h3⟩; exact ⟨by omega, by omega, h3⟩)
  · rw [decide_eq_decide]; constructor <;> (rintro ⟨h1, h2, h3⟩; exact ⟨by omega, by omega, h3⟩)
end Go.Proofs.YtbianlkenallaaaGreatDoor

/-
  Lists of texts as cells. No condition.
-/
import Derived.Test.YtiagckbdofeecaaDoorApp
import Derived.Test.YtiagckbdofeecaaDoorRows
namespace Go.Proofs.YtiagckbdofeecaaDoor
open Go.RowKit
def strs (ss : List ByteArray) : List Value := ss.map Value.string
theorem strs_app (l : List ByteArray) (x : ByteArray) : strs (l ++ [x]) = strs l ++ [.string x] := by simp [strs]
theorem strs_len (l : List ByteArray) : (strs l).length = l.length := by simp [strs]
theorem strs_get {l : List ByteArray} {i : Nat} (h : i < l.length) : (strs l)[i]? = some (.string (l.getD i ByteArray.empty)) := by
  simp [strs, h]
theorem el_str : ElemOf Tryd.prog 60 9 (.string ByteArray.empty) 1 16 := elem_of Tryd.underlying60 (by kernel_rfl) rfl (by omega)
/-- the text number i of a list of texts that is read -/
theorem str_at {w : World} {A : Option Addr} {ss : List ByteArray} (h : Rds w 1 A ss.length (strs ss)) {i : Nat} (hi : i < ss.length) :
    ∃ b off, A = some ⟨b, off, none⟩ ∧ b < w.heap.size ∧ ∀ j, j < ss.length → w.cell? ⟨b, off + j, none⟩ = some (.string (ss.getD j ByteArray.empty)) := by
  obtain ⟨b, off, e, hb, hc⟩ := h.at (by omega)
  exact ⟨b, off, e, hb, fun j hj => hc j _ (strs_get hj)⟩
end Go.Proofs.YtiagckbdofeecaaDoor

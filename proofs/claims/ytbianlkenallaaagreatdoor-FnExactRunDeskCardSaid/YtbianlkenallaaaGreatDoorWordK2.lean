/-
  A command whose numbers are none: plain facts. No program. The bounds stand at each.
-/
import Derived.Test.YtbianlkenallaaaGreatDoorWordK
set_option linter.all false
namespace Go.Proofs.YtbianlkenallaaaGreatDoor
open Go.RowKit
theorem doK_none {two : List ByteArray → ByteArray × Int} {D : DeskD} {W : List ByteArray} {k : Nat} (hk : k < 14) (hf : fitK k W.length = true) (h : wF W (formK k).data.toList 0 [] [] = none) : doK two D W k = (D, [errL 7]) := by
 have h14 : k = 0 ∨ k = 1 ∨ k = 2 ∨ k = 3 ∨ k = 4 ∨ k = 5 ∨ k = 6 ∨ k = 7 ∨ k = 8 ∨ k = 9 ∨ k = 10 ∨ k = 11 ∨ k = 12 ∨ k = 13 := by omega
 clear hk
 rcases h14 with rfl | rfl | rfl | rfl | rfl | rfl | rfl | rfl | rfl | rfl | rfl | rfl | rfl | rfl
 ·rw [wF_0 (.inl rfl) (by simpa [fitK] using hf)] at h; cases h
 ·rw [wF_1 (by simpa [fitK] using hf)] at h
  cases hn : numsOf (W.drop 1) with
  | none => simp only [doK, hn]
  | some l => rw [hn] at h; cases h
 ·rw [wF_2 (.inl rfl)] at h; cases h
 ·rw [wF_2 (.inr (.inl rfl))] at h; cases h
 ·rw [wF_4 (.inl rfl)] at h; cases h
 ·rw [wF_5 (by simpa [fitK] using hf)] at h
  cases hn : numsOf [wd W 1, wd W 3] with
  | none => simp only [doK, hn]
  | some l => rw [hn] at h; cases h
 ·rw [wF_6 (.inl rfl)] at h
  cases hn : numsOf (W.drop 1) with
  | none => simp only [doK, hn]
  | some l => rw [hn] at h; cases h
 ·rw [wF_7 (by simpa [fitK] using hf)] at h
  cases hn : numB (wd W 2) with
  | false => simp [doK, hn]
  | true => rw [hn, if_pos rfl] at h; cases h
 ·rw [wF_4 (.inr rfl)] at h; cases h
 ·rw [wF_0 (.inr rfl) (by simpa [fitK] using hf)] at h; cases h
 ·rw [wF_2 (.inr (.inr rfl))] at h; cases h
 ·rw [wF_11 (by simpa [fitK] using hf)] at h
  cases hn : numB (wd W 1) with
  | false => simp [doK, hn]
  | true => rw [hn, if_pos rfl] at h; cases h
 ·rw [wF_6 (.inr rfl)] at h
  cases hn : numsOf (W.drop 1) with
  | none => simp only [doK, hn]
  | some l => rw [hn] at h; cases h
 ·rw [wF_13 (by simpa [fitK] using hf)] at h
  cases hn : numsOf (W.drop 1) with
  | none => simp only [doK, hn]
  | some l => rw [hn] at h; cases h
end Go.Proofs.YtbianlkenallaaaGreatDoor

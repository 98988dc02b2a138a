/-
  Common parts, put together: WordK, WordK2.
-/
import Derived.Test.YtbianlkenallaaaGreatDoorMgG
import Derived.Test.YtbianlkenallaaaGreatDoorConsR1
set_option linter.all false
namespace Go.Proofs.YtbianlkenallaaaGreatDoor
open Go.RowKit
section
variable {W : List ByteArray}
theorem part_x {c : UInt8} {i : Nat} (hc : ¬ (c = 114 ∨ c = 108)) (h : i + 1 < W.length) : partF c i W = [wd W (i + 1)] := by
 rw [partF, lastF, if_neg hc, drop_one (by omega) (by omega), part_nil]
theorem part_r {c : UInt8} {i : Nat} (hc : c = 114 ∨ c = 108) : partF c i W = W.drop (i + 1) := by
 rw [partF, lastF, if_pos hc, List.take_length]
theorem numsOf_one (x : ByteArray) : numsOf [x] = if numB x = true then some [sval x] else none := by rw [numsOf_cons, numsOf_nil]
theorem wF_x {f : List UInt8} {i : Nat} {ns : List Int} {ts : List ByteArray} (h : i + 1 < W.length) : wF W (120 :: f) i ns ts = wF W f (i + 1) ns (ts ++ [wd W (i + 1)]) :=
 wF_txt (by decide) (by rw [part_x (by decide) h]; rfl)
theorem wF_r {f : List UInt8} {i : Nat} {ns : List Int} {ts : List ByteArray} : wF W (114 :: f) i ns ts = wF W f (i + 1) ns (ts ++ [restW W (i + 1)]) :=
 wF_txt (by decide) (by rw [part_r (by decide), restW])
theorem wF_n {f : List UInt8} {i : Nat} {ns : List Int} {ts : List ByteArray} (h : i + 1 < W.length) : wF W (110 :: f) i ns ts = if numB (wd W (i + 1)) = true then wF W f (i + 1) (ns ++ [sval (wd W (i + 1))]) ts else none := by
 cases hn : numB (wd W (i + 1)) with
 | false => rw [if_neg (by simp)]; exact wF_no (by decide) (by rw [part_x (by decide) h, numsOf_one, hn]; rfl)
 | true => rw [if_pos rfl]; exact wF_num (by decide) (by rw [part_x (by decide) h, numsOf_one, hn, if_pos rfl])
theorem wF_l {i : Nat} {ns : List Int} {ts : List ByteArray} : wF W [108] i ns ts = match numsOf (W.drop (i + 1)) with | none => none | some l => some (ns ++ l, ts) := by
 cases hn : numsOf (W.drop (i + 1)) with
 | none => exact wF_no (by decide) (by rw [part_r (by decide), hn])
 | some l => exact wF_num (by decide) (by rw [part_r (by decide), hn])
theorem wF_ns {ts : List ByteArray} : ∀ (m i : Nat) (ns : List Int), i + m + 1 = W.length → wF W (List.replicate m 110) i ns ts = match numsOf (W.drop (i + 1)) with | none => none | some l => some (ns ++ l, ts)
 | 0, i, ns, h => by
   rw [List.drop_eq_nil_of_le (by omega), numsOf_nil]
   simp [wF]
 | m + 1, i, ns, h => by
   rw [List.replicate_succ, wF_n (by omega)]
   have h1 := drop_one (W := W) (i := i + 1) (n := W.length) (by omega) (Nat.le_refl _)
   rw [List.take_length] at h1
   rw [h1, numsOf_cons]
   cases hn : numB (wd W (i + 1)) with
   | false => simp
   | true =>
     rw [if_pos rfl, if_pos rfl, wF_ns m (i + 1) _ (by omega)]
     cases numsOf (W.drop (i + 1 + 1)) <;> simp
theorem wF_0 {k : Nat} (hk : k = 0 ∨ k = 9) (h : W.length = 3) : wF W (formK k).data.toList 0 [] [] = some ([], [wd W 1, wd W 2]) := by
 have e : (formK k).data.toList = [120, 120] := by rcases hk with rfl | rfl <;> rfl
 rw [e, wF_x (by omega), wF_x (by omega)]; rfl
theorem wF_1 (h : W.length = 6) : wF W (formK 1).data.toList 0 [] [] = match numsOf (W.drop 1) with | none => none | some l => some (l, []) := by
 have e : (formK 1).data.toList = List.replicate 5 110 := rfl
 rw [e, wF_ns 5 0 [] (by omega)]
 cases numsOf (W.drop (0 + 1)) <;> rfl
theorem wF_2 {k : Nat} (hk : k = 2 ∨ k = 3 ∨ k = 10) : wF W (formK k).data.toList 0 [] [] = some ([], [restW W 1]) := by
 have e : (formK k).data.toList = [114] := by rcases hk with rfl | rfl | rfl <;> rfl
 rw [e, wF_r]; rfl
theorem wF_6 {k : Nat} (hk : k = 6 ∨ k = 12) : wF W (formK k).data.toList 0 [] [] = match numsOf (W.drop 1) with | none => none | some l => some (l, []) := by
 have e : (formK k).data.toList = [108] := by rcases hk with rfl | rfl <;> rfl
 rw [e, wF_l]
 cases numsOf (W.drop (0 + 1)) <;> rfl
theorem wF_11 (h : 3 ≤ W.length) : wF W (formK 11).data.toList 0 [] [] = if numB (wd W 1) = true then some ([sval (wd W 1)], [restW W 2]) else none := by
 have e : (formK 11).data.toList = [110, 114] := rfl
 rw [e, wF_n (by omega), wF_r]; rfl
theorem wF_7 (h : W.length = 3) : wF W (formK 7).data.toList 0 [] [] = if numB (wd W 2) = true then some ([sval (wd W 2)], [wd W 1]) else none := by
 have e : (formK 7).data.toList = [120, 110] := rfl
 rw [e, wF_x (by omega), wF_n (by omega)]; rfl
theorem wF_13 (h : W.length = 3) : wF W (formK 13).data.toList 0 [] [] = match numsOf (W.drop 1) with | none => none | some l => some (l, []) := by
 have e : (formK 13).data.toList = List.replicate 2 110 := rfl
 rw [e, wF_ns 2 0 [] (by omega)]
 cases numsOf (W.drop (0 + 1)) <;> rfl
theorem wF_5 (h : W.length = 4) : wF W (formK 5).data.toList 0 [] [] = match numsOf [wd W 1, wd W 3] with | none => none | some l => some (l, [wd W 2]) := by
 have e : (formK 5).data.toList = [110, 120, 110] := rfl
 rw [e, wF_n (by omega), wF_x (by omega), wF_n (by omega), numsOf_cons, numsOf_one]
 cases h1 : numB (wd W 1) <;> cases h2 : numB (wd W 3) <;> simp [h1, h2, wF]
theorem wF_4 {k : Nat} (hk : k = 4 ∨ k = 8) : wF W (formK k).data.toList 0 [] [] = some ([], []) := by
 have e : (formK k).data.toList = [] := by rcases hk with rfl | rfl <;> rfl
 rw [e]; rfl
end
theorem doK_none {two : List ByteArray → ByteArray × Int} {D : DeskD} {W : List ByteArray} {k : Nat} (hk : k < 14) (hf : fitK k W.length = true) (h : wF W (formK k).data.toList 0 [] [] = none) : doK two D W k = (D, [errL 7]) := by
 have h14 : k = 0 ∨ k = 1 ∨ k = 2 ∨ k = 3 ∨ k = 4 ∨ k = 5 ∨ k = 6 ∨ k = 7 ∨ k = 8 ∨ k = 9 ∨ k = 10 ∨ k = 11 ∨ k = 12 ∨ k = 13 := by omega
 clear hk
 rcases h14 with rfl | rfl | rfl | rfl | rfl | rfl | rfl | rfl | rfl | rfl | rfl | rfl | rfl | rfl
 ·rw [wF_0 (.inl rfl) (by simpa [fitK] using hf)] at h; cases h
 ·rw [wF_1 (by simpa [fitK] using hf)] at h
  cases hn : numsOf (W.drop 1) with
  | none => simp only [doK, hn]
  | some l => rw [hn] at h; cases h
 ·rw [wF_2 (.inl rfl)] at h; cases h
 ·rw [wF_2 (.inr (.inl rfl))] at h; cases h
 ·rw [wF_4 (.inl rfl)] at h; cases h
 ·rw [wF_5 (by simpa [fitK] using hf)] at h
  cases hn : numsOf [wd W 1, wd W 3] with
  | none => simp only [doK, hn]
  | some l => rw [hn] at h; cases h
 ·rw [wF_6 (.inl rfl)] at h
  cases hn : numsOf (W.drop 1) with
  | none => simp only [doK, hn]
  | some l => rw [hn] at h; cases h
 ·rw [wF_7 (by simpa [fitK] using hf)] at h
  cases hn : numB (wd W 2) with
  | false => simp [doK, hn]
  | true => rw [hn, if_pos rfl] at h; cases h
 ·rw [wF_4 (.inr rfl)] at h; cases h
 ·rw [wF_0 (.inr rfl) (by simpa [fitK] using hf)] at h; cases h
 ·rw [wF_2 (.inr (.inr rfl))] at h; cases h
 ·rw [wF_11 (by simpa [fitK] using hf)] at h
  cases hn : numB (wd W 1) with
  | false => simp [doK, hn]
  | true => rw [hn, if_pos rfl] at h; cases h
 ·rw [wF_6 (.inr rfl)] at h
  cases hn : numsOf (W.drop 1) with
  | none => simp only [doK, hn]
  | some l => rw [hn] at h; cases h
 ·rw [wF_13 (by simpa [fitK] using hf)] at h
  cases hn : numsOf (W.drop 1) with
  | none => simp only [doK, hn]
  | some l => rw [hn] at h; cases h
end Go.Proofs.YtbianlkenallaaaGreatDoor

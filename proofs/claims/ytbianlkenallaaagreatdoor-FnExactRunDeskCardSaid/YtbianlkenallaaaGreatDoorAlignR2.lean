/-
  A table of rows of numbers of the reference, set from its last row on: its cells; and the least numbers by the reference's chain of tests. No condition but what stands at each.
-/
import Derived.Test.YtbianlkenallaaaGreatDoorAlignR1
import Derived.Test.YtbianlkenallaaaGreatDoorMgE
set_option linter.all false
namespace Go.Proofs.YtbianlkenallaaaGreatDoor
open Go.RowKit
def rowD (n m : Nat) (Q : Nat → Nat) (I : Nat) : Array Value := ((List.range (n + 1)).map fun i => if I ≤ i then Value.slice (some ⟨Q i, 0, none⟩) (m + 1) (m + 1) else .slice none 0 0).toArray
theorem rowD_get {n m I i : Nat} {Q : Nat → Nat} (h : i ≤ n) : (rowD n m Q I)[i]? = some (if I ≤ i then Value.slice (some ⟨Q i, 0, none⟩) (m + 1) (m + 1) else .slice none 0 0) := by
 have : i < n + 1 := by omega
 simp [rowD, this]
theorem rowD_size (n m I : Nat) (Q : Nat → Nat) : (rowD n m Q I).size = n + 1 := by simp [rowD]
theorem rowD_set {n m i b : Nat} {Q : Nat → Nat} (hi : i ≤ n) : (rowD n m Q (i + 1)).setIfInBounds i (.slice (some ⟨b, 0, none⟩) (m + 1) (m + 1)) = rowD n m (fun x => if x = i then b else Q x) i := by
 apply Array.ext_getElem?
 intro j
 by_cases hj : j ≤ n
 ·rw [rowD_get hj, Array.getElem?_setIfInBounds]
  by_cases e : i = j
  ·subst e
   rw [if_pos rfl, if_pos (by rw [rowD_size]; omega), if_pos (Nat.le_refl _), if_pos rfl]
  ·rw [if_neg e, rowD_get hj]
   by_cases hl : i + 1 ≤ j
   ·rw [if_pos hl, if_pos (by omega), if_neg (fun h => e h.symm)]
   ·rw [if_neg hl, if_neg (by omega)]
 ·rw [Array.getElem?_eq_none (by rw [Array.size_setIfInBounds, rowD_size]; omega), Array.getElem?_eq_none (by rw [rowD_size]; omega)]
theorem made_rowsD (n m : Nat) (Q : Nat → Nat) : madeCells #[Value.slice none 0 0] (n + 1) = rowD n m Q (n + 1) := by
 rw [made_any, rowD]
 congr 1
 exact List.map_congr_left fun i hi => by rw [if_neg (by have := List.mem_range.1 hi; omega)]
theorem mkS_row (u : World) (m : Nat) (hn : m ≤ 1000000) : (Instr.makeSlice 28 (.int .i64 ((m : Int) + 1)) (.int .i64 ((m : Int) + 1))).run Tryz.prog u = .ok (.slice (some ⟨u.heap.size, 0, none⟩) (m + 1) (m + 1)) (u.alloc (.cells (arrN m fun _ => 0) 2)) := by
 have hi : (Tryz.prog.info? 2).map (fun i => (i.zero, i.size, i.bytes)) = some (some (i64 0), 1, 8) := by kernel_rfl
 obtain ⟨i0, hi, hz0, hz1, hz2⟩ := info_parts hi
 have h := run_make (P := Tryz.prog) u 28 2 i0 _ Tryz.underlying28 hi hz0 .i64 .i64 ((m + 1 : Nat) : Int) ((m + 1 : Nat) : Int) (by omega) (Int.le_refl _) (by rw [hz2]; omega) (by omega)
 have e : ((m : Int) + 1) = ((m + 1 : Nat) : Int) := by omega
 rw [e, ← made_row]
 simpa [hz1, Value.cells] using h
theorem mkS_rows (u : World) (n m : Nat) (Q : Nat → Nat) (hn : n ≤ 1000000) : (Instr.makeSlice 211 (.int .i64 ((n : Int) + 1)) (.int .i64 ((n : Int) + 1))).run Tryz.prog u = .ok (.slice (some ⟨u.heap.size, 0, none⟩) (n + 1) (n + 1)) (u.alloc (.cells (rowD n m Q (n + 1)) 28)) := by
 have hi : (Tryz.prog.info? 28).map (fun i => (i.zero, i.size, i.bytes)) = some (some (.slice none 0 0), 1, 24) := by kernel_rfl
 obtain ⟨i0, hi, hz0, hz1, hz2⟩ := info_parts hi
 have h := run_make (P := Tryz.prog) u 211 28 i0 _ Tryz.underlying211 hi hz0 .i64 .i64 ((n + 1 : Nat) : Int) ((n + 1 : Nat) : Int) (by omega) (Int.le_refl _) (by rw [hz2]; omega) (by omega)
 have e : ((n : Int) + 1) = ((n + 1 : Nat) : Int) := by omega
 rw [e, ← made_rowsD n m Q]
 simpa [hz1, Value.cells] using h
structure Ax (w wr : World) (B n m I : Nat) (Q : Nat → Nat) (a b : ByteArray) : Prop where
 o : Blk wr B 28 (rowD n m Q I)
 r : ∀ i, I ≤ i → i ≤ n → Blk wr (Q i) 2 (arrN m (cst a b i))
 u : UpOf w wr
 hB : w.heap.size ≤ B
def rwF (a b : ByteArray) (i K k : Nat) : Int := if K ≤ k then cst a b i k else 0
structure Cx (w wr : World) (B n m I : Nat) (Q : Nat → Nat) (R K : Nat) (a b : ByteArray) : Prop where
 t : Ax w wr B n m (I + 1) Q a b
 r : Blk wr R 2 (arrN m (rwF a b I K))
 hR : w.heap.size ≤ R
 ne : ∀ x, I + 1 ≤ x → x ≤ n → Q x ≠ R
theorem blk_ty {w : World} {p q : Nat} {t u : TypeId} {x y : Array Value} (h : Blk w p t x) (h' : Blk w q u y) (hne : t ≠ u) : p ≠ q := fun e => by
 subst e
 unfold Blk at h h'
 rw [h] at h'
 simp only [Option.some.injEq, Obj.cells.injEq] at h'
 exact hne h'.2.1
section
variable {w wr wr' : World} {B n m I R K : Nat} {Q : Nat → Nat} {a b : ByteArray}
theorem Ax.below (h : Ax w wr B n m I Q a b) (hb : Below wr.heap.size wr wr') : Ax w wr' B n m I Q a b :=
 ⟨h.o.up ⟨wr', hb⟩, fun i hi hn => (h.r i hi hn).up ⟨wr', hb⟩, h.u.tr hb, h.hB⟩
theorem Ax.row (h : Ax w wr B n m I Q a b) {i : Nat} (hi : I ≤ i) (hn : i ≤ n) : wr.cell? ⟨B, i, none⟩ = some (.slice (some ⟨Q i, 0, none⟩) (m + 1) (m + 1)) := by
 rw [h.o.cell, rowD_get hn, if_pos hi]
theorem Ax.cell (h : Ax w wr B n m I Q a b) {i j : Nat} (hi : I ≤ i) (hn : i ≤ n) (hj : j ≤ m) : wr.cell? ⟨Q i, j, none⟩ = some (i64 (cst a b i j)) := by
 rw [(h.r i hi hn).cell, arrN_get _ hj]
theorem Cx.below (h : Cx w wr B n m I Q R K a b) (hb : Below wr.heap.size wr wr') : Cx w wr' B n m I Q R K a b :=
 ⟨h.t.below hb, h.r.up ⟨wr', hb⟩, h.hR, h.ne⟩
theorem Cx.cell (h : Cx w wr B n m I Q R K a b) {j : Nat} (hk : K ≤ j) (hj : j ≤ m) : wr.cell? ⟨R, j, none⟩ = some (i64 (cst a b I j)) := by
 rw [h.r.cell, arrN_get _ hj, rwF, if_pos hk]
theorem Cx.at (h : Cx w wr B n m I Q R K a b) {j : Nat} (hj : j ≤ m) : ∃ v, wr.cell? ⟨R, j, none⟩ = some (i64 v) := ⟨_, by rw [h.r.cell, arrN_get _ hj]⟩
theorem Ax.fresh (h : Ax w wr B n m (I + 1) Q a b) : Cx w (wr.alloc (.cells (arrN m fun _ => 0) 2)) B n m I Q wr.heap.size (m + 1) a b :=
 ⟨h.below (bl_alloc (Below.refl _ _) _), by
  have h1 := Blk.new wr 2 (arrN m fun _ => 0)
  have e : arrN m (fun _ => 0) = arrN m (rwF a b I (m + 1)) := arrN_congr fun i hi => by rw [rwF, if_neg (by omega)]
  rw [e] at h1 ⊢
  exact h1, h.u.below.size, fun x h1 h2 => Nat.ne_of_lt (h.r x h1 h2).lt⟩
theorem Cx.put {k : Nat} (h : Cx w wr B n m I Q R (k + 1) a b) : Cx w (wr.setCell ⟨R, k, none⟩ (i64 (cst a b I k))) B n m I Q R k a b :=
 ⟨⟨h.t.o.far (p := ⟨R, k, none⟩) (blk_ty h.t.o h.r (by decide)) _, fun i hi hn => (h.t.r i hi hn).far (p := ⟨R, k, none⟩) (h.ne i hi hn) _, UpOf.of (h.t.u.below.setCell (p := ⟨R, k, none⟩) h.hR _), h.t.hB⟩, by
  have h1 := h.r.put k (i64 (cst a b I k))
  rw [arrN_set] at h1
  have e : arrN m (fun j => if j = k then cst a b I k else rwF a b I (k + 1) j) = arrN m (rwF a b I k) := arrN_congr fun j _ => by
   unfold rwF
   by_cases e : j = k
   ·rw [if_pos e, if_pos (by omega), e]
   ·rw [if_neg e]
    by_cases h : k + 1 ≤ j
    ·rw [if_pos h, if_pos (by omega)]
    ·rw [if_neg h, if_neg (by omega)]
  rw [e] at h1
  exact h1, h.hR, h.ne⟩
theorem Cx.done (h : Cx w wr B n m I Q R 0 a b) (hI : I ≤ n) : Ax w (wr.setCell ⟨B, I, none⟩ (.slice (some ⟨R, 0, none⟩) (m + 1) (m + 1))) B n m I (fun x => if x = I then R else Q x) a b where
 o := by
  have h1 := h.t.o.put I (.slice (some ⟨R, 0, none⟩) (m + 1) (m + 1))
  rw [rowD_set hI] at h1
  exact h1
 r := fun i hi hn => by
  show Blk _ (if i = I then R else Q i) _ _
  by_cases e : i = I
  ·rw [if_pos e, e]
   have h1 := h.r.far (p := ⟨B, I, none⟩) (blk_ty h.r h.t.o (by decide)) (.slice (some ⟨R, 0, none⟩) (m + 1) (m + 1))
   have e2 : arrN m (rwF a b I 0) = arrN m (cst a b I) := arrN_congr fun j _ => by rw [rwF, if_pos (Nat.zero_le _)]
   rw [e2] at h1
   exact h1
  ·rw [if_neg e]
   have h2 := h.t.r i (by omega) hn
   exact h2.far (p := ⟨B, I, none⟩) (blk_ty h2 h.t.o (by decide)) _
 u := UpOf.of (h.t.u.below.setCell (p := ⟨B, I, none⟩) h.t.hB _)
 hB := h.t.hB
end
theorem cst_B {a b : ByteArray} {i k : Nat} (hi : i = a.size) (hk : k < b.size) : min ((a.size : Int) + b.size) (cst a b i (k + 1) + 1) = cst a b i k := by
 have hb := cst_bd a b _ i k rfl
 obtain ⟨j, hj, ho, he⟩ := cst_ex (a := a) (b := b) (i := i) (k := k) (.inr hk)
 have h5 : j = 0 ∨ j = 1 ∨ j = 2 ∨ j = 3 ∨ j = 4 := by omega
 rcases h5 with rfl | rfl | rfl | rfl | rfl
 ·simp only [sdi, sdk, ser, if_true, if_false, Nat.reduceEqDiff, reduceIte, Nat.add_zero] at he
  omega
 all_goals
  simp only [okAl, if_true, if_false, Nat.reduceEqDiff, reduceIte, decide_eq_true_eq] at ho
  omega
theorem cst_C {a b : ByteArray} {i k : Nat} (hi : i < a.size) (hk : k = b.size) : min ((a.size : Int) + b.size) (cst a b (i + 1) k + 1) = cst a b i k := by
 have hb := cst_bd a b _ i k rfl
 obtain ⟨j, hj, ho, he⟩ := cst_ex (a := a) (b := b) (i := i) (k := k) (.inl hi)
 have h5 : j = 0 ∨ j = 1 ∨ j = 2 ∨ j = 3 ∨ j = 4 := by omega
 rcases h5 with rfl | rfl | rfl | rfl | rfl
 ·simp only [okAl, if_true, if_false, Nat.reduceEqDiff, reduceIte, decide_eq_true_eq] at ho
  omega
 ·simp only [sdi, sdk, ser, if_true, if_false, Nat.reduceEqDiff, reduceIte, Nat.add_zero] at he
  omega
 all_goals
  simp only [okAl, if_true, if_false, Nat.reduceEqDiff, reduceIte, decide_eq_true_eq] at ho
  omega
theorem cst_D2 {a b : ByteArray} {i k : Nat} (hi : i < a.size) (hk : k < b.size) (he2 : byteAt a i = byteAt b k) : min (min (min ((a.size : Int) + b.size) (cst a b (i + 1) (k + 1))) (cst a b (i + 1) k + 1)) (cst a b i (k + 1) + 1) = cst a b i k ∧ okAl a b i k 4 = false := by
 have h4 : okAl a b i k 4 = false := by
  simp only [okAl, if_true, if_false, Nat.reduceEqDiff, reduceIte, decide_eq_false_iff_not]
  rintro ⟨_, _, h3, h4, h5⟩
  exact h3 (by rw [he2, h5])
 refine ⟨?_, h4⟩
 have hb := cst_bd a b _ i k rfl
 have l0 := cst_le (a := a) (b := b) (i := i) (k := k) (j := 0) (by omega) (by simp [okAl, hk])
 have l1 := cst_le (a := a) (b := b) (i := i) (k := k) (j := 1) (by omega) (by simp [okAl, hi])
 have l2 := cst_le (a := a) (b := b) (i := i) (k := k) (j := 2) (by omega) (by simp [okAl, hi, hk, he2])
 obtain ⟨j, hj, ho, he⟩ := cst_ex (a := a) (b := b) (i := i) (k := k) (.inl hi)
 have h5 : j = 0 ∨ j = 1 ∨ j = 2 ∨ j = 3 ∨ j = 4 := by omega
 rcases h5 with rfl | rfl | rfl | rfl | rfl
 ·simp only [sdi, sdk, ser, if_true, if_false, Nat.reduceEqDiff, reduceIte, Nat.add_zero] at he l0 l1 l2
  omega
 ·simp only [sdi, sdk, ser, if_true, if_false, Nat.reduceEqDiff, reduceIte, Nat.add_zero] at he l0 l1 l2
  omega
 ·simp only [sdi, sdk, ser, if_true, if_false, Nat.reduceEqDiff, reduceIte, Nat.add_zero] at he l0 l1 l2
  omega
 ·simp only [okAl, if_true, if_false, Nat.reduceEqDiff, reduceIte, decide_eq_true_eq] at ho
  exact absurd he2 ho.2.2
 ·rw [h4] at ho; cases ho
theorem cst_D3 {a b : ByteArray} {i k : Nat} (hi : i < a.size) (hk : k < b.size) (hne : byteAt a i ≠ byteAt b k) (h4 : okAl a b i k 4 = false) : min (min (min ((a.size : Int) + b.size) (cst a b (i + 1) (k + 1) + 1)) (cst a b (i + 1) k + 1)) (cst a b i (k + 1) + 1) = cst a b i k := by
 have hb := cst_bd a b _ i k rfl
 have l0 := cst_le (a := a) (b := b) (i := i) (k := k) (j := 0) (by omega) (by simp [okAl, hk])
 have l1 := cst_le (a := a) (b := b) (i := i) (k := k) (j := 1) (by omega) (by simp [okAl, hi])
 have l2 := cst_le (a := a) (b := b) (i := i) (k := k) (j := 3) (by omega) (by simp [okAl, hi, hk, hne])
 obtain ⟨j, hj, ho, he⟩ := cst_ex (a := a) (b := b) (i := i) (k := k) (.inl hi)
 have h5 : j = 0 ∨ j = 1 ∨ j = 2 ∨ j = 3 ∨ j = 4 := by omega
 rcases h5 with rfl | rfl | rfl | rfl | rfl
 ·simp only [sdi, sdk, ser, if_true, if_false, Nat.reduceEqDiff, reduceIte, Nat.add_zero] at he l0 l1 l2
  omega
 ·simp only [sdi, sdk, ser, if_true, if_false, Nat.reduceEqDiff, reduceIte, Nat.add_zero] at he l0 l1 l2
  omega
 ·simp only [okAl, if_true, if_false, Nat.reduceEqDiff, reduceIte, decide_eq_true_eq] at ho
  exact absurd ho.2.2 hne
 ·simp only [sdi, sdk, ser, if_true, if_false, Nat.reduceEqDiff, reduceIte, Nat.add_zero] at he l0 l1 l2
  omega
 ·rw [h4] at ho; cases ho
theorem cst_D4 {a b : ByteArray} {i k : Nat} (hi : i < a.size) (hk : k < b.size) (hne : byteAt a i ≠ byteAt b k) (h4 : okAl a b i k 4 = true) : min (min (min (min ((a.size : Int) + b.size) (cst a b (i + 1) (k + 1) + 1)) (cst a b (i + 1) k + 1)) (cst a b i (k + 1) + 1)) (cst a b (i + 2) (k + 2) + 1) = cst a b i k := by
 have hb := cst_bd a b _ i k rfl
 have l0 := cst_le (a := a) (b := b) (i := i) (k := k) (j := 0) (by omega) (by simp [okAl, hk])
 have l1 := cst_le (a := a) (b := b) (i := i) (k := k) (j := 1) (by omega) (by simp [okAl, hi])
 have l2 := cst_le (a := a) (b := b) (i := i) (k := k) (j := 3) (by omega) (by simp [okAl, hi, hk, hne])
 have l4 := cst_le (a := a) (b := b) (i := i) (k := k) (j := 4) (by omega) h4
 obtain ⟨j, hj, ho, he⟩ := cst_ex (a := a) (b := b) (i := i) (k := k) (.inl hi)
 have h5 : j = 0 ∨ j = 1 ∨ j = 2 ∨ j = 3 ∨ j = 4 := by omega
 rcases h5 with rfl | rfl | rfl | rfl | rfl
 ·simp only [sdi, sdk, ser, if_true, if_false, Nat.reduceEqDiff, reduceIte, Nat.add_zero] at he l0 l1 l2 l4
  omega
 ·simp only [sdi, sdk, ser, if_true, if_false, Nat.reduceEqDiff, reduceIte, Nat.add_zero] at he l0 l1 l2 l4
  omega
 ·simp only [okAl, if_true, if_false, Nat.reduceEqDiff, reduceIte, decide_eq_true_eq] at ho
  exact absurd ho.2.2 hne
 ·simp only [sdi, sdk, ser, if_true, if_false, Nat.reduceEqDiff, reduceIte, Nat.add_zero] at he l0 l1 l2 l4
  omega
 ·simp only [sdi, sdk, ser, if_true, if_false, Nat.reduceEqDiff, reduceIte, Nat.add_zero] at he l0 l1 l2 l4
  omega
end Go.Proofs.YtbianlkenallaaaGreatDoor

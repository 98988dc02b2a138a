/-
  A table of rows of numbers that a call makes: its cells. No condition but what stands at each.
-/
import Derived.Test.YtbianlkenallaaaGreatDoorAlignQ
import Derived.Test.YtbianlkenallaaaGreatDoorMgD
set_option linter.all false
namespace Go.Proofs.YtbianlkenallaaaGreatDoor
open Go.RowKit
/-- the row of rows: the first k are made -/
def rowQ (n m : Nat) (Q : Nat → Nat) (k : Nat) : Array Value := ((List.range (n + 1)).map fun i => if i < k then Value.slice (some ⟨Q i, 0, none⟩) (m + 1) (m + 1) else .slice none 0 0).toArray
def arrN (m : Nat) (f : Nat → Int) : Array Value := ((List.range (m + 1)).map fun i => i64 (f i)).toArray
theorem rowQ_get {n m k i : Nat} {Q : Nat → Nat} (h : i ≤ n) : (rowQ n m Q k)[i]? = some (if i < k then Value.slice (some ⟨Q i, 0, none⟩) (m + 1) (m + 1) else .slice none 0 0) := by
  have : i < n + 1 := by omega
  simp [rowQ, this]
theorem rowQ_size (n m k : Nat) (Q : Nat → Nat) : (rowQ n m Q k).size = n + 1 := by simp [rowQ]
theorem arrN_size (m : Nat) (f : Nat → Int) : (arrN m f).size = m + 1 := by simp [arrN]
theorem arrN_get {m i : Nat} (f : Nat → Int) (h : i ≤ m) : (arrN m f)[i]? = some (i64 (f i)) := by
  have : i < m + 1 := by omega
  simp [arrN, this]
theorem arrN_set (m : Nat) (f : Nat → Int) (i : Nat) (v : Int) : (arrN m f).setIfInBounds i (i64 v) = arrN m fun j => if j = i then v else f j := by
  apply Array.ext_getElem?
  intro j
  by_cases hj : j ≤ m
  · rw [arrN_get _ hj, Array.getElem?_setIfInBounds]
    by_cases e : i = j
    · subst e
      rw [if_pos rfl, if_pos (by rw [arrN_size]; omega), if_pos rfl]
    · rw [if_neg e, arrN_get _ hj, if_neg (fun h => e h.symm)]
  · rw [Array.getElem?_eq_none (by rw [Array.size_setIfInBounds, arrN_size]; omega), Array.getElem?_eq_none (by rw [arrN_size]; omega)]
theorem arrN_congr {m : Nat} {f g : Nat → Int} (h : ∀ i, i ≤ m → f i = g i) : arrN m f = arrN m g := by
  unfold arrN
  congr 1
  exact List.map_congr_left fun i hi => by rw [h i (by have := List.mem_range.1 hi; omega)]
theorem rowQ_set {n m k b : Nat} {Q : Nat → Nat} (hk : k ≤ n) : (rowQ n m Q k).setIfInBounds k (.slice (some ⟨b, 0, none⟩) (m + 1) (m + 1)) = rowQ n m (fun i => if i = k then b else Q i) (k + 1) := by
  apply Array.ext_getElem?
  intro j
  by_cases hj : j ≤ n
  · rw [rowQ_get hj, Array.getElem?_setIfInBounds]
    by_cases e : k = j
    · subst e
      rw [if_pos rfl, if_pos (by rw [rowQ_size]; omega), if_pos (by omega), if_pos rfl]
    · rw [if_neg e, rowQ_get hj]
      by_cases hl : j < k
      · rw [if_pos hl, if_pos (by omega), if_neg (fun h => e h.symm)]
      · rw [if_neg hl, if_neg (by omega)]
  · rw [Array.getElem?_eq_none (by rw [Array.size_setIfInBounds, rowQ_size]; omega), Array.getElem?_eq_none (by rw [rowQ_size]; omega)]
theorem made_any (v : Value) (n : Nat) : madeCells #[v] n = ((List.range n).map fun _ => v).toArray := by
  apply Array.ext_getElem?
  intro j
  by_cases hj : j < n
  · simp [madeCells, hj, Nat.mod_one]
  · rw [Array.getElem?_eq_none (by rw [size_madeCells]; omega), Array.getElem?_eq_none (by simp; omega)]
theorem made_row (m : Nat) : madeCells #[i64 0] (m + 1) = arrN m fun _ => 0 := made_any _ _
theorem made_rows (n m : Nat) (Q : Nat → Nat) : madeCells #[Value.slice none 0 0] (n + 1) = rowQ n m Q 0 := by
  rw [made_any, rowQ]
  congr 1
theorem mk_row (u : World) (m : Nat) (hn : m ≤ 1000000) : (Instr.makeSlice 121 (.int .i64 ((m : Int) + 1)) (.int .i64 ((m : Int) + 1))).run Tryz.prog u = .ok (.slice (some ⟨u.heap.size, 0, none⟩) (m + 1) (m + 1)) (u.alloc (.cells (arrN m fun _ => 0) 3)) := by
  have hi : (Tryz.prog.info? 3).map (fun i => (i.zero, i.size, i.bytes)) = some (some (i64 0), 1, 8) := by kernel_rfl
  obtain ⟨i0, hi, hz0, hz1, hz2⟩ := info_parts hi
  have h := run_make (P := Tryz.prog) u 121 3 i0 _ Tryz.underlying121 hi hz0 .i64 .i64 ((m + 1 : Nat) : Int) ((m + 1 : Nat) : Int) (by omega) (Int.le_refl _) (by rw [hz2]; omega) (by omega)
  have e : ((m : Int) + 1) = ((m + 1 : Nat) : Int) := by omega
  rw [e, ← made_row]
  simpa [hz1, Value.cells] using h
theorem mk_rows (u : World) (n m : Nat) (Q : Nat → Nat) (hn : n ≤ 1000000) : (Instr.makeSlice 122 (.int .i64 ((n : Int) + 1)) (.int .i64 ((n : Int) + 1))).run Tryz.prog u = .ok (.slice (some ⟨u.heap.size, 0, none⟩) (n + 1) (n + 1)) (u.alloc (.cells (rowQ n m Q 0) 121)) := by
  have hi : (Tryz.prog.info? 121).map (fun i => (i.zero, i.size, i.bytes)) = some (some (.slice none 0 0), 1, 24) := by kernel_rfl
  obtain ⟨i0, hi, hz0, hz1, hz2⟩ := info_parts hi
  have h := run_make (P := Tryz.prog) u 122 121 i0 _ Tryz.underlying122 hi hz0 .i64 .i64 ((n + 1 : Nat) : Int) ((n + 1 : Nat) : Int) (by omega) (Int.le_refl _) (by rw [hz2]; omega) (by omega)
  have e : ((n : Int) + 1) = ((n + 1 : Nat) : Int) := by omega
  rw [e, ← made_rows n m Q]
  simpa [hz1, Value.cells] using h
/-- the call's own table: the first k of n + 1 rows are made, of m + 1 numbers each -/
structure Mx (w wr : World) (B n m k : Nat) (Q : Nat → Nat) (f : Nat → Nat → Int) : Prop where
  o : Blk wr B 121 (rowQ n m Q k)
  r : ∀ i, i < k → Blk wr (Q i) 3 (arrN m (f i))
  u : UpOf w wr
  hB : w.heap.size ≤ B
  hQ : ∀ i, i < k → B < Q i
  inj : ∀ i j, i < k → j < k → Q i = Q j → i = j
section
variable {w wr wr' : World} {B n m k : Nat} {Q : Nat → Nat} {f g : Nat → Nat → Int}
theorem Mx.congr (h : Mx w wr B n m k Q f) (e : ∀ i j, i < k → j ≤ m → f i j = g i j) : Mx w wr B n m k Q g :=
  ⟨h.o, fun i hi => arrN_congr (fun j hj => e i j hi hj) ▸ h.r i hi, h.u, h.hB, h.hQ, h.inj⟩
theorem Mx.below (h : Mx w wr B n m k Q f) (hb : Below wr.heap.size wr wr') : Mx w wr' B n m k Q f :=
  ⟨h.o.up ⟨wr', hb⟩, fun i hi => (h.r i hi).up ⟨wr', hb⟩, h.u.tr hb, h.hB, h.hQ, h.inj⟩
theorem Mx.row (h : Mx w wr B n m k Q f) {i : Nat} (hi : i < k) (hn : i ≤ n) : wr.cell? ⟨B, i, none⟩ = some (.slice (some ⟨Q i, 0, none⟩) (m + 1) (m + 1)) := by
  rw [h.o.cell, rowQ_get hn, if_pos hi]
theorem Mx.cell (h : Mx w wr B n m k Q f) {i j : Nat} (hi : i < k) (hj : j ≤ m) : wr.cell? ⟨Q i, j, none⟩ = some (i64 (f i j)) := by
  rw [(h.r i hi).cell, arrN_get _ hj]
theorem Mx.free (h : Mx w wr B n m k Q f) {i : Nat} (hi : i < k) (j : Nat) : wr.frozen? ⟨Q i, j, none⟩ = false := (h.r i hi).free j
theorem Mx.put (h : Mx w wr B n m k Q f) {i j : Nat} (hi : i < k) (v : Int) : Mx w (wr.setCell ⟨Q i, j, none⟩ (i64 v)) B n m k Q (fun a b => if a = i ∧ b = j then v else f a b) where
  o := h.o.far (p := ⟨Q i, j, none⟩) (Nat.ne_of_lt (h.hQ i hi)) _
  r := fun a ha => by
    by_cases e : a = i
    · have h1 := (h.r a ha).put j (i64 v)
      rw [arrN_set] at h1
      have e2 : arrN m (fun q => if q = j then v else f a q) = arrN m (fun q => if a = i ∧ q = j then v else f a q) := arrN_congr fun q _ => by
        by_cases hq : q = j
        · rw [if_pos hq, if_pos ⟨e, hq⟩]
        · rw [if_neg hq, if_neg (fun h => hq h.2)]
      rw [e2, e] at h1
      rw [e]
      exact h1
    · have hne : Q a ≠ Q i := fun h' => e (h.inj a i ha hi h')
      have h1 := (h.r a ha).far (p := ⟨Q i, j, none⟩) hne (i64 v)
      have e2 : arrN m (f a) = arrN m (fun q => if a = i ∧ q = j then v else f a q) := arrN_congr fun q _ => by
        rw [if_neg (fun h => e h.1)]
      rw [e2] at h1
      exact h1
  u := UpOf.of (h.u.below.setCell (p := ⟨Q i, j, none⟩) (Nat.le_of_lt (Nat.lt_of_le_of_lt h.hB (h.hQ i hi))) _)
  hB := h.hB
  hQ := h.hQ
  inj := h.inj
/-- one more row is made -/
theorem Mx.more (h : Mx w wr B n m k Q f) (hk : k ≤ n) (f0 : Nat → Int) : Mx w ((wr.alloc (.cells (arrN m f0) 3)).setCell ⟨B, k, none⟩ (.slice (some ⟨wr.heap.size, 0, none⟩) (m + 1) (m + 1))) B n m (k + 1) (fun i => if i = k then wr.heap.size else Q i) (fun i => if i = k then f0 else f i) where
  o := by
    have h1 := (h.o.alloc (.cells (arrN m f0) 3)).put k (.slice (some ⟨wr.heap.size, 0, none⟩) (m + 1) (m + 1))
    rw [rowQ_set hk] at h1
    exact h1
  r := fun i hi => by
    by_cases e : i = k
    · rw [if_pos e, if_pos e]
      exact (Blk.new wr 3 (arrN m f0)).far (p := ⟨B, k, none⟩) (Nat.ne_of_gt h.o.lt) _
    · rw [if_neg e, if_neg e]
      have hi' : i < k := by omega
      exact ((h.r i hi').alloc _).far (p := ⟨B, k, none⟩) (Nat.ne_of_gt (h.hQ i hi')) _
  u := UpOf.of ((h.u.below.alloc h.u.below.size _).setCell (p := ⟨B, k, none⟩) h.hB _)
  hB := h.hB
  hQ := fun i hi => by
    show B < if i = k then wr.heap.size else Q i
    by_cases e : i = k
    · rw [if_pos e]; exact h.o.lt
    · rw [if_neg e]; exact h.hQ i (by omega)
  inj := fun i j hi hj he => by
    have hlt : ∀ a, a < k → Q a < wr.heap.size := fun a ha => (h.r a ha).lt
    replace he : (if i = k then wr.heap.size else Q i) = (if j = k then wr.heap.size else Q j) := he
    by_cases e1 : i = k
    · by_cases e2 : j = k
      · omega
      · rw [if_pos e1, if_neg e2] at he
        have := hlt j (by omega)
        omega
    · by_cases e2 : j = k
      · rw [if_neg e1, if_pos e2] at he
        have := hlt i (by omega)
        omega
      · rw [if_neg e1, if_neg e2] at he
        exact h.inj i j (by omega) (by omega) he
theorem Mx.more' (h : Mx w wr B n m k Q f) (hk : k ≤ n) (f0 : Nat → Int) : Mx w ((wr.setCell ⟨B, k, none⟩ (.slice (some ⟨wr.heap.size, 0, none⟩) (m + 1) (m + 1))).alloc (.cells (arrN m f0) 3)) B n m (k + 1) (fun i => if i = k then wr.heap.size else Q i) (fun i => if i = k then f0 else f i) := by
  have h1 := h.more hk f0
  rw [World.setCell_alloc_past (w := wr) _ B k _ h.o.lt] at h1
  exact h1
end
/-- what is filled in: rows from I on, and of the row before it places from K on -/
def mtF (a b : ByteArray) (I K i k : Nat) : Int := if I ≤ i ∨ (i + 1 = I ∧ K ≤ k) then cst a b i k else 0
theorem mtF_put (a b : ByteArray) (i k x y : Nat) : (if x = i ∧ y = k then cst a b i k else mtF a b (i + 1) (k + 1) x y) = mtF a b (i + 1) k x y := by
  unfold mtF
  by_cases h : x = i ∧ y = k
  · rw [if_pos h, h.1, h.2, if_pos (.inr ⟨rfl, Nat.le_refl _⟩)]
  · rw [if_neg h]
    by_cases h1 : i + 1 ≤ x ∨ x + 1 = i + 1 ∧ k + 1 ≤ y
    · rw [if_pos h1, if_pos (by omega)]
    · rw [if_neg h1, if_neg (by omega)]
theorem mtF_row (a b : ByteArray) {i m x y : Nat} (hy : y ≤ m) : mtF a b (i + 1) 0 x y = mtF a b i (m + 1) x y := by
  unfold mtF
  by_cases h1 : i + 1 ≤ x ∨ x + 1 = i + 1 ∧ 0 ≤ y
  · rw [if_pos h1, if_pos (by omega)]
  · rw [if_neg h1, if_neg (by omega)]
theorem mtF_done {a b : ByteArray} {i k x y : Nat} (h : i < x ∨ (i = x ∧ k < y)) : mtF a b (i + 1) (k + 1) x y = cst a b x y := by
  unfold mtF
  rw [if_pos (by omega)]
/-- the table of the least numbers -/
def Tb (w wr : World) (B : Nat) (Q : Nat → Nat) (a b : ByteArray) : Prop := Mx w wr B a.size b.size (a.size + 1) Q (cst a b)
/-- what the steps from a place lead to -/
def nxV (a b : ByteArray) (i k j : Nat) : Int := cst a b (i + sdi j) (k + sdk j) + ser j
def bst (a b : ByteArray) (i k j : Nat) : Int := bstJ (nxV a b i k) (okAl a b i k) j
theorem bst_no {a b : ByteArray} {i k j : Nat} (h : okAl a b i k j = false) : bst a b i k (j + 1) = bst a b i k j := by
  rw [bst, bstJ, h, Bool.false_and, if_neg (by simp)]; rfl
theorem bst_new {a b : ByteArray} {i k j : Nat} (h : okAl a b i k j = true) (h2 : bst a b i k j < 0 ∨ nxV a b i k j < bst a b i k j) : bst a b i k (j + 1) = nxV a b i k j := by
  rw [bst, bstJ, h, Bool.true_and, if_pos]
  rw [Bool.or_eq_true, decide_eq_true_eq, decide_eq_true_eq]
  exact h2
theorem bst_old {a b : ByteArray} {i k j : Nat} (h1 : ¬ bst a b i k j < 0) (h2 : ¬ nxV a b i k j < bst a b i k j) : bst a b i k (j + 1) = bst a b i k j := by
  rw [bst, bstJ, if_neg]
  · rfl
  · rw [Bool.and_eq_true, Bool.or_eq_true, decide_eq_true_eq, decide_eq_true_eq]
    rintro ⟨_, h | h⟩
    · exact h1 h
    · exact h2 h
theorem cst_bst (a b : ByteArray) (i k : Nat) : cst a b i k = max (bst a b i k 5) 0 := by
  rw [cst_eq]
  show (if bst a b i k 5 < 0 then 0 else bst a b i k 5) = _
  split <;> omega
/-- the step's list, on the heap -/
def Lit5 (w : World) (b : Nat) : Prop := w.heap[b]? = some (.cells #[.int .u8 43, .int .u8 45, .int .u8 61, .int .u8 120, .int .u8 126] 5 (5, 6))
section
variable {w w' : World} {b : Nat}
theorem Lit5.lt (h : Lit5 w b) : b < w.heap.size := (Array.getElem?_eq_some_iff.1 h).1
theorem Lit5.below (h : Lit5 w b) (hb : Below w.heap.size w w') : Lit5 w' b := (hb.block b h.lt).trans h
theorem Lit5.cell (h : Lit5 w b) {j : Nat} (hj : j < 5) : w.cell? ⟨b, j, none⟩ = some (.int .u8 ((stB j).toNat : Int)) := by
  unfold Lit5 at h
  have h3 : j = 0 ∨ j = 1 ∨ j = 2 ∨ j = 3 ∨ j = 4 := by omega
  rcases h3 with rfl | rfl | rfl | rfl | rfl <;> simp [World.cell?, h] <;> rfl
end
end Go.Proofs.YtbianlkenallaaaGreatDoor

/-
  Numbers that are read: plain facts. No program. No condition but what stands at each.
-/
import Derived.Test.YtiagckbdofeecaaDoorDecP
namespace Go.Proofs.YtiagckbdofeecaaDoor
open Go.RowKit
def dval (c : UInt8) : Nat := c.toNat - 48
def valL : Nat → List UInt8 → Nat
  | n, [] => n
  | n, c :: t => valL (10 * n + dval c) t
theorem valL_snoc (t : List UInt8) : ∀ (n : Nat) (c : UInt8), valL n (t ++ [c]) = 10 * valL n t + dval c := by
  induction t with
  | nil => intro n c; rfl
  | cons d t ih => intro n c; exact ih _ c
theorem dval_lt {c : UInt8} (h : digit c = true) : dval c < 10 := by
  have := of_decide_eq_true h
  unfold dval
  omega
theorem valL_lt' : ∀ (t : List UInt8) (n : Nat), (∀ c ∈ t, digit c = true) → valL n t < (n + 1) * 10 ^ t.length
  | [], n, _ => by show n < (n + 1) * 1; omega
  | c :: t, n, h => by
    have h1 := valL_lt' t (10 * n + dval c) fun d hd => h d (by simp [hd])
    have h2 := dval_lt (h c (by simp))
    have h3 : (10 * n + dval c + 1) * 10 ^ t.length ≤ ((n + 1) * 10) * 10 ^ t.length := Nat.mul_le_mul_right _ (by omega)
    have h4 : ((n + 1) * 10) * 10 ^ t.length = (n + 1) * 10 ^ (t.length + 1) := by rw [Nat.pow_succ, Nat.mul_comm (10 ^ t.length) 10, Nat.mul_assoc]
    exact Nat.lt_of_lt_of_le h1 (Nat.le_trans h3 (Nat.le_of_eq h4))
theorem valL_lt (t : List UInt8) (h : ∀ c ∈ t, digit c = true) : valL 0 t < 10 ^ t.length := by
  have := valL_lt' t 0 h
  omega
theorem nDigits_le : ∀ (k u : Nat), u < 10 ^ (k + 1) → Lib.nDigits u ≤ k + 1
  | 0, u, h => by rw [Lib.nDigits_small (by simpa using h)]; omega
  | k + 1, u, h => by
    by_cases h1 : u < 10
    · rw [Lib.nDigits_small h1]; omega
    · rw [Lib.nDigits_big h1]
      have := nDigits_le k (u / 10) (by rw [Nat.pow_succ] at h; omega)
      omega
theorem digit_of {u : Nat} (h : u < 10) : digit (UInt8.ofNat (48 + u)) = true ∧ dval (UInt8.ofNat (48 + u)) = u := by
  have e : (UInt8.ofNat (48 + u)).toNat = 48 + u := by simp; omega
  refine ⟨decide_eq_true ?_, ?_⟩
  · rw [e]; omega
  · unfold dval; rw [e]; omega
theorem dec_digits (u : Nat) : (∀ c ∈ Lib.decDigits u, digit c = true) ∧ valL 0 (Lib.decDigits u) = u := by
  induction u using Nat.strongRecOn with
  | _ u ih =>
    by_cases h : u < 10
    · rw [Lib.decDigits_one h]
      have := digit_of h
      exact ⟨fun c hc => by rw [List.mem_singleton] at hc; rw [hc]; exact this.1, by show 10 * 0 + dval _ = u; rw [this.2]; omega⟩
    · have e : Lib.decDigits u = Lib.decDigits (u / 10) ++ [UInt8.ofNat (48 + u % 10)] := by rw [Lib.decDigits, dif_neg h]
      obtain ⟨i1, i2⟩ := ih (u / 10) (by omega)
      have := digit_of (u := u % 10) (by omega)
      rw [e]
      refine ⟨fun c hc => ?_, ?_⟩
      · rw [List.mem_append, List.mem_singleton] at hc
        rcases hc with hc | hc
        · exact i1 c hc
        · rw [hc]; exact this.1
      · rw [valL_snoc, i2, this.2]; omega
/-- does the text begin with a minus -/
def negS (s : ByteArray) : Bool := decide (0 < s.size ∧ ((byteAt s 0).toNat : Int) = 45)
def digs (s : ByteArray) : List UInt8 := if negS s then s.data.toList.drop 1 else s.data.toList
def sval (s : ByteArray) : Int := if negS s then -(valL 0 (digs s) : Int) else valL 0 (digs s)
def numB (s : ByteArray) : Bool := decide (1 ≤ (digs s).length ∧ (digs s).length ≤ 18) && (digs s).all digit && decide (dec (sval s) = s)
/-- what both readers of a number answer -/
def rdR (s : ByteArray) : Int × Bool := if numB s then (sval s, true) else (0, false)
theorem numB_len {s : ByteArray} (h : ¬ (1 ≤ (digs s).length ∧ (digs s).length ≤ 18)) : numB s = false := by rw [numB, decide_eq_false h]; rfl
theorem numB_digit {s : ByteArray} (h : (digs s).all digit = false) : numB s = false := by rw [numB, h]; simp
theorem numB_dec {s : ByteArray} (h : ¬ dec (sval s) = s) : numB s = false := by rw [numB, decide_eq_false h]; simp
theorem numB_ok {s : ByteArray} (h1 : 1 ≤ (digs s).length ∧ (digs s).length ≤ 18) (h2 : (digs s).all digit = true) (h3 : dec (sval s) = s) : numB s = true := by
  rw [numB, decide_eq_true h1, h2, decide_eq_true h3]; rfl
theorem numB_inv {s : ByteArray} (h : numB s = true) : (1 ≤ (digs s).length ∧ (digs s).length ≤ 18) ∧ (digs s).all digit = true ∧ dec (sval s) = s := by
  simp only [numB, Bool.and_eq_true, decide_eq_true_eq] at h
  exact ⟨h.1.1, h.1.2, h.2⟩
theorem rdR_no {s : ByteArray} (h : numB s = false) : rdR s = (0, false) := by rw [rdR, h]; rfl
theorem rdR_ok {s : ByteArray} (h : numB s = true) : rdR s = (sval s, true) := by rw [rdR, h]; rfl
theorem sval_bd {s : ByteArray} (h1 : (digs s).length ≤ 18) (h2 : (digs s).all digit = true) : -1000000000000000000 < sval s ∧ sval s < 1000000000000000000 := by
  have h := valL_lt (digs s) (fun c hc => List.all_eq_true.1 h2 c hc)
  have h3 : 10 ^ (digs s).length ≤ 10 ^ 18 := Nat.pow_le_pow_right (by omega) h1
  have h4 : (10 : Nat) ^ 18 = 1000000000000000000 := by decide
  unfold sval
  split <;> omega
theorem rdR_bd (s : ByteArray) : -1000000000000000000 < (rdR s).1 ∧ (rdR s).1 < 1000000000000000000 := by
  cases h : numB s
  · rw [rdR_no h]; decide
  · rw [rdR_ok h]
    have := numB_inv h
    exact sval_bd this.1.2 this.2.1
theorem rdR_true {s : ByteArray} (h : (rdR s).2 = true) : s = dec (rdR s).1 := by
  cases hn : numB s
  · rw [rdR_no hn] at h; cases h
  · rw [rdR_ok hn]; exact (numB_inv hn).2.2.symm
theorem digs_dec {n : Int} (h0 : -1000000000000000000 < n) (h1 : n < 1000000000000000000) : (1 ≤ (digs (dec n)).length ∧ (digs (dec n)).length ≤ 18) ∧ (digs (dec n)).all digit = true ∧ sval (dec n) = n := by
  have hl : ∀ u : Nat, u < 1000000000000000000 → 1 ≤ (Lib.decDigits u).length ∧ (Lib.decDigits u).length ≤ 18 := by
    intro u hu
    rw [Lib.decDigits_length]
    refine ⟨Lib.nDigits_pos u, ?_⟩
    exact nDigits_le 17 u (by simpa using hu)
  rcases Int.lt_or_le n 0 with hn | hn
  · obtain ⟨N, rfl⟩ : ∃ N : Nat, n = -(N : Int) := ⟨n.natAbs, by omega⟩
    have e : (dec (-(N : Int))).data.toList = 45 :: Lib.decDigits N := by rw [dec_list, Lib.itoa_neg N (by omega)]
    have hg : negS (dec (-(N : Int))) = true := by
      unfold negS byteAt
      rw [e]
      refine decide_eq_true ⟨?_, rfl⟩
      rw [← bsz, e]; simp
    have hd : digs (dec (-(N : Int))) = Lib.decDigits N := by rw [digs, if_pos hg, e]; rfl
    refine ⟨by rw [hd]; exact hl N (by omega), by rw [hd, List.all_eq_true]; exact (dec_digits N).1, ?_⟩
    rw [sval, if_pos hg, hd, (dec_digits N).2]
  · obtain ⟨N, rfl⟩ : ∃ N : Nat, n = (N : Int) := ⟨n.toNat, by omega⟩
    have e : (dec (N : Int)).data.toList = Lib.decDigits N := by rw [dec_list, Lib.itoa_nonneg]
    have hg : negS (dec (N : Int)) = false := by
      unfold negS byteAt
      rw [e]
      apply decide_eq_false
      rintro ⟨_, h⟩
      have hp := (hl N (by omega)).1
      obtain ⟨c, t, ht⟩ : ∃ c t, Lib.decDigits N = c :: t := by
        cases hh : Lib.decDigits N with
        | nil => rw [hh] at hp; simp at hp
        | cons c t => exact ⟨c, t, rfl⟩
      have hc := (dec_digits N).1 c (by rw [ht]; simp)
      rw [ht] at h
      have h2 : (c.toNat : Int) = 45 := h
      have := of_decide_eq_true hc
      omega
    have hd : digs (dec (N : Int)) = Lib.decDigits N := by rw [digs, if_neg (by rw [hg]; simp), e]
    refine ⟨by rw [hd]; exact hl N (by omega), by rw [hd, List.all_eq_true]; exact (dec_digits N).1, ?_⟩
    rw [sval, if_neg (by rw [hg]; simp), hd, (dec_digits N).2]
theorem rdR_dec {n : Int} (h0 : -1000000000000000000 < n) (h1 : n < 1000000000000000000) : rdR (dec n) = (n, true) := by
  obtain ⟨a, b, c⟩ := digs_dec h0 h1
  rw [rdR_ok (numB_ok a b (by rw [c])), c]
theorem dec_inj {m n : Int} (h0 : -1000000000000000000 < n) (h1 : n < 1000000000000000000) (h2 : -1000000000000000000 < m) (h3 : m < 1000000000000000000) (h : dec m = dec n) : m = n := by
  have a := rdR_dec h2 h3
  rw [h, rdR_dec h0 h1] at a
  injection a with a
  exact a.symm
/-- the bytes of a number: digits, a minus -/
theorem dec_bytes {n : Int} (h0 : -1000000000000000000 < n) (h1 : n < 1000000000000000000) : (∀ c ∈ (dec n).data.toList, digit c = true ∨ (c.toNat : Int) = 45) ∧ 1 ≤ (dec n).size ∧ (dec n).size ≤ 19 := by
  obtain ⟨a, b, c⟩ := digs_dec h0 h1
  rw [List.all_eq_true] at b
  cases hg : negS (dec n)
  · have hd : digs (dec n) = (dec n).data.toList := by rw [digs, if_neg (by rw [hg]; simp)]
    rw [hd] at a b
    exact ⟨fun c hc => .inl (b c hc), by rw [← bsz]; exact a.1, by rw [← bsz]; omega⟩
  · have hd : digs (dec n) = (dec n).data.toList.drop 1 := by rw [digs, if_pos hg]
    rw [hd] at a b
    have h := of_decide_eq_true hg
    have hs : (dec n).data.toList ≠ [] := by
      intro he
      have := h.1
      rw [← bsz, he] at this
      simp at this
    obtain ⟨c0, t, ht⟩ := List.exists_cons_of_ne_nil hs
    have h2 := h.2
    unfold byteAt at h2
    rw [ht] at a b h2
    simp only [List.drop_one, List.tail_cons] at a b
    refine ⟨fun c hc => ?_, by rw [← bsz, ht]; simp, by rw [← bsz, ht]; simp; omega⟩
    rw [ht, List.mem_cons] at hc
    rcases hc with rfl | hc
    · exact .inr h2
    · exact .inl (b c hc)
end Go.Proofs.YtiagckbdofeecaaDoor

/-
  Wares: plain facts (valid wares, prices, the cheapest number, the most for some money, sums). No program. No condition but what stands at each.
-/
import Derived.Test.YtiibpldfnnhhlaaBreaks
import Derived.Test.YtiibpldfnnhhlaaName
namespace Go.Proofs.Ytiibpldfnnhhlaa
open Go.RowKit
structure Ware where
  name : ByteArray
  brs : List Brk
def brk (x : Ware) (i : Nat) : Brk := x.brs.getD i ⟨0, 0⟩
theorem brk_eq {x : Ware} {i : Nat} (h : i < x.brs.length) : x.brs[i] = brk x i := by simp [brk, h]
def wat (l : List Ware) (i : Nat) : Ware := l.getD i ⟨ByteArray.empty, []⟩
theorem wat_eq {l : List Ware} {i : Nat} (h : i < l.length) : l[i] = wat l i := by simp [wat, h]
def btw (n lo hi : Int) : Bool := decide (lo ≤ n ∧ n ≤ hi)
theorem btw_true {n lo hi : Int} (h : btw n lo hi = true) : lo ≤ n ∧ n ≤ hi := by simpa [btw] using h
theorem btw_false {n lo hi : Int} (h : btw n lo hi = false) : ¬ (lo ≤ n ∧ n ≤ hi) := by simpa [btw] using h
def vBrk (b : Brk) : Bool := btw b.fr 1 1000 && btw b.pr 1 1000000
/-- break i fits: its numbers, and how it lies behind the one in front of it -/
def brkAt (x : Ware) (i : Nat) : Bool := vBrk (brk x i) && (if i = 0 then decide ((brk x i).fr = 1) else decide ((brk x (i - 1)).fr < (brk x i).fr ∧ (brk x i).pr < (brk x (i - 1)).pr))
def vWare (x : Ware) : Bool := nameB x.name && btw x.brs.length 1 6 && (List.range x.brs.length).all (brkAt x)
theorem vWare_true {x : Ware} (h1 : nameB x.name = true) (h2 : btw x.brs.length 1 6 = true) (h : ∀ i, i < x.brs.length → brkAt x i = true) : vWare x = true := by
  simp only [vWare, h1, h2, Bool.true_and, List.all_eq_true, List.mem_range]
  exact h
theorem vWare_at {x : Ware} {i : Nat} (hi : i < x.brs.length) (h : brkAt x i = false) : vWare x = false := by
  simp only [vWare, Bool.and_eq_false_iff]
  refine .inr ?_
  rw [← Bool.not_eq_true]
  intro hc
  rw [List.all_eq_true] at hc
  have := hc i (List.mem_range.2 hi)
  simp [h] at this
theorem vWare_name {x : Ware} (h : nameB x.name = false) : vWare x = false := by simp [vWare, h]
theorem vWare_len {x : Ware} (h : btw x.brs.length 1 6 = false) : vWare x = false := by simp [vWare, h]
theorem vWare_inv {x : Ware} (h : vWare x = true) : nameB x.name = true ∧ 1 ≤ x.brs.length ∧ x.brs.length ≤ 6 ∧ ∀ i, i < x.brs.length → brkAt x i = true := by
  simp only [vWare, Bool.and_eq_true, List.all_eq_true, List.mem_range] at h
  have := btw_true h.1.2
  exact ⟨h.1.1, by omega, by omega, h.2⟩
theorem brkAt_bd {x : Ware} {i : Nat} (h : brkAt x i = true) : 1 ≤ (brk x i).fr ∧ (brk x i).fr ≤ 1000 ∧ 1 ≤ (brk x i).pr ∧ (brk x i).pr ≤ 1000000 := by
  simp [brkAt, vBrk, btw] at h
  omega
theorem vWare_first {x : Ware} (h : vWare x = true) : (brk x 0).fr = 1 := by
  obtain ⟨_, h1, _, h2⟩ := vWare_inv h
  have := h2 0 (by omega)
  simp [brkAt] at this
  exact this.2
theorem brkAt_step {x : Ware} {i : Nat} (h : brkAt x (i + 1) = true) : (brk x i).fr < (brk x (i + 1)).fr ∧ (brk x (i + 1)).pr < (brk x i).pr := by
  simp [brkAt] at h
  exact h.2
theorem vWare_rise {x : Ware} (h : vWare x = true) {i j : Nat} (hij : i < j) (hj : j < x.brs.length) : (brk x i).fr < (brk x j).fr := by
  obtain ⟨_, _, _, hb⟩ := vWare_inv h
  induction j with
  | zero => omega
  | succ j ih =>
    have hs := (brkAt_step (hb (j + 1) hj)).1
    rcases Nat.lt_succ_iff_lt_or_eq.1 hij with h' | h'
    · have := ih h' (by omega); omega
    · subst h'; exact hs
/-- ware i of a list fits: it is valid, and its name is none of those in front -/
def okW (l : List Ware) (i : Nat) : Bool := vWare (wat l i) && (List.range i).all fun k => !decide ((wat l k).name = (wat l i).name)
def vWares (l : List Ware) : Bool := decide (l.length ≤ 30) && (List.range l.length).all (okW l)
theorem okW_true {l : List Ware} {i : Nat} (h : vWare (wat l i) = true) (hk : ∀ k, k < i → (wat l k).name ≠ (wat l i).name) : okW l i = true := by
  simp only [okW, h, Bool.true_and, List.all_eq_true, List.mem_range]
  intro k hki
  simp [hk k hki]
theorem okW_no {l : List Ware} {i : Nat} (h : vWare (wat l i) = false) : okW l i = false := by simp [okW, h]
theorem okW_name {l : List Ware} {i k : Nat} (hk : k < i) (h : (wat l k).name = (wat l i).name) : okW l i = false := by
  simp only [okW, Bool.and_eq_false_iff]
  refine .inr ?_
  rw [← Bool.not_eq_true]
  intro hc
  rw [List.all_eq_true] at hc
  have := hc k (List.mem_range.2 hk)
  simp [h] at this
theorem vWares_true {l : List Ware} (h1 : l.length ≤ 30) (h : ∀ i, i < l.length → okW l i = true) : vWares l = true := by
  simp only [vWares, decide_eq_true h1, Bool.true_and, List.all_eq_true, List.mem_range]
  exact h
theorem vWares_len {l : List Ware} (h : 30 < l.length) : vWares l = false := by simp [vWares]; omega
theorem vWares_at {l : List Ware} {i : Nat} (hi : i < l.length) (h : okW l i = false) : vWares l = false := by
  simp only [vWares, Bool.and_eq_false_iff]
  refine .inr ?_
  rw [← Bool.not_eq_true]
  intro hc
  rw [List.all_eq_true] at hc
  have := hc i (List.mem_range.2 hi)
  simp [h] at this
theorem vWares_inv {l : List Ware} (h : vWares l = true) : l.length ≤ 30 ∧ ∀ i, i < l.length → vWare (wat l i) = true := by
  simp only [vWares, Bool.and_eq_true, decide_eq_true_eq, List.all_eq_true, List.mem_range] at h
  refine ⟨h.1, fun i hi => ?_⟩
  have := h.2 i hi
  simp only [okW, Bool.and_eq_true] at this
  exact this.1
/-- the price that each of m costs, by the first k breaks -/
def eachN (x : Ware) (m : Int) : Nat → Int
  | 0 => 0
  | k + 1 => if (brk x k).fr ≤ m then (brk x k).pr else eachN x m k
def prc (x : Ware) (m : Int) : Int := m * eachN x m x.brs.length
theorem eachN_yes {x : Ware} {m : Int} {k : Nat} (h : (brk x k).fr ≤ m) : eachN x m (k + 1) = (brk x k).pr := by rw [eachN, if_pos h]
theorem eachN_no {x : Ware} {m : Int} {k : Nat} (h : ¬ (brk x k).fr ≤ m) : eachN x m (k + 1) = eachN x m k := by rw [eachN, if_neg h]
theorem eachN_bd {x : Ware} (h : vWare x = true) (m : Int) (k : Nat) (hk : k ≤ x.brs.length) : 0 ≤ eachN x m k ∧ eachN x m k ≤ 1000000 := by
  obtain ⟨_, _, _, hb⟩ := vWare_inv h
  induction k with
  | zero => simp [eachN]
  | succ k ih =>
    have := ih (by omega)
    have := brkAt_bd (hb k (by omega))
    rw [eachN]
    split <;> omega
/-- behind the first break that is too great none counts -/
theorem eachN_stop {x : Ware} (h : vWare x = true) {m : Int} {k : Nat} (hk : k ≤ x.brs.length) (hs : k < x.brs.length → m < (brk x k).fr) : eachN x m x.brs.length = eachN x m k := by
  suffices hs' : ∀ d, k + d ≤ x.brs.length → eachN x m (k + d) = eachN x m k by
    have := hs' (x.brs.length - k) (by omega)
    rwa [show k + (x.brs.length - k) = x.brs.length by omega] at this
  intro d
  induction d with
  | zero => intro _; rfl
  | succ d ih =>
    intro hd
    have h1 := hs (by omega)
    have h2 : m < (brk x (k + d)).fr := by
      rcases Nat.eq_zero_or_pos d with h0 | h0
      · subst h0; exact h1
      · have := vWare_rise h (i := k) (j := k + d) (by omega) (by omega); omega
    rw [← Nat.add_assoc, eachN, if_neg (by omega)]
    exact ih (by omega)
theorem mul_bd {a b p q : Int} (h1 : 0 ≤ a) (h2 : a ≤ p) (h3 : 0 ≤ b) (h4 : b ≤ q) : 0 ≤ a * b ∧ a * b ≤ p * q :=
  ⟨Int.mul_nonneg h1 h3, Int.mul_le_mul h2 h4 h3 (by omega)⟩
theorem prc_bd {x : Ware} (h : vWare x = true) {m : Int} (h0 : 0 ≤ m) (h1 : m ≤ 1000) : 0 ≤ prc x m ∧ prc x m ≤ 1000000000 := by
  have h2 := eachN_bd h m x.brs.length (Nat.le_refl _)
  have := mul_bd h0 h1 h2.1 h2.2
  unfold prc
  omega
/-- the number that is best bought, and its price, by the first k breaks -/
def chp (x : Ware) (m : Int) : Nat → Int × Int
  | 0 => (m, prc x m)
  | k + 1 => if m < (brk x k).fr ∧ prc x (brk x k).fr < (chp x m k).2 then ((brk x k).fr, prc x (brk x k).fr) else chp x m k
theorem chp_yes {x : Ware} {m : Int} {k : Nat} (h1 : m < (brk x k).fr) (h2 : prc x (brk x k).fr < (chp x m k).2) : chp x m (k + 1) = ((brk x k).fr, prc x (brk x k).fr) := by rw [chp, if_pos ⟨h1, h2⟩]
theorem chp_no1 {x : Ware} {m : Int} {k : Nat} (h1 : ¬ m < (brk x k).fr) : chp x m (k + 1) = chp x m k := by rw [chp, if_neg (fun h => h1 h.1)]
theorem chp_no2 {x : Ware} {m : Int} {k : Nat} (h2 : ¬ prc x (brk x k).fr < (chp x m k).2) : chp x m (k + 1) = chp x m k := by rw [chp, if_neg (fun h => h2 h.2)]
/-- the most that one gets for some money, of the numbers up to k -/
def mst (x : Ware) (c : Int) : Nat → Int
  | 0 => 0
  | k + 1 => if prc x ((k : Int) + 1) ≤ c then (k : Int) + 1 else mst x c k
theorem mst_yes {x : Ware} {c : Int} {k : Nat} (h : prc x ((k : Int) + 1) ≤ c) : mst x c (k + 1) = (k : Int) + 1 := by rw [mst, if_pos h]
theorem mst_no {x : Ware} {c : Int} {k : Nat} (h : ¬ prc x ((k : Int) + 1) ≤ c) : mst x c (k + 1) = mst x c k := by rw [mst, if_neg h]
theorem mst_stop {x : Ware} {c : Int} {n k : Nat} (hk : k ≤ n) (h : ∀ j, k < j → j ≤ n → c < prc x (j : Int)) : mst x c n = mst x c k := by
  suffices hs : ∀ d, k + d ≤ n → mst x c (k + d) = mst x c k by
    have := hs (n - k) (by omega)
    rwa [show k + (n - k) = n by omega] at this
  intro d
  induction d with
  | zero => intro _; rfl
  | succ d ih =>
    intro hd
    have h1 := h (k + d + 1) (by omega) (by omega)
    rw [← Nat.add_assoc, mst, if_neg (by push_cast at h1 ⊢; omega)]
    exact ih (by omega)
theorem mst_top {x : Ware} {c : Int} {n k : Nat} (hk : k ≤ n) (h : ∀ j, k < j → j ≤ n → c < prc x (j : Int)) (he : 0 < k → prc x (k : Int) ≤ c) : mst x c n = k := by
  rw [mst_stop hk h]
  cases k with
  | zero => rfl
  | succ k =>
    have := he (by omega)
    push_cast at this ⊢
    exact mst_yes this
end Go.Proofs.Ytiibpldfnnhhlaa

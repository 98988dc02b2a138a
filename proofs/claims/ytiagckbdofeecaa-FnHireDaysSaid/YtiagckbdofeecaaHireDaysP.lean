/-
  Days out add up, and no day has more machines out than told; a machine that is free next is free for all its days: plain facts. No program.
-/
import Derived.Test.YtiagckbdofeecaaLawDaysOut
import Derived.Test.YtiagckbdofeecaaFreeMach
import Derived.Test.YtiagckbdofeecaaNextFree2
namespace Go.Proofs.Ytiagckbdofeecaa
open Go.RowKit
def tot (g : Nat → Int) : Nat → Int
  | 0 => 0
  | k + 1 => tot g k + g k
theorem tot_add (g h : Nat → Int) : ∀ n, tot (fun k => g k + h k) n = tot g n + tot h n
  | 0 => rfl
  | n + 1 => by rw [tot, tot, tot, tot_add g h n]; omega
theorem tot_congr {g h : Nat → Int} : ∀ n, (∀ k, k < n → g k = h k) → tot g n = tot h n
  | 0, _ => rfl
  | n + 1, e => by rw [tot, tot, tot_congr n (fun k hk => e k (by omega)), e n (by omega)]
theorem tot_zero : ∀ n, tot (fun _ => 0) n = 0
  | 0 => rfl
  | n + 1 => by rw [tot, tot_zero n]; rfl
theorem tot_one (a x : Int) : ∀ n : Nat, tot (fun m => if a = (m : Int) then x else 0) n = if 0 ≤ a ∧ a < (n : Int) then x else 0
  | 0 => by
    rw [tot, if_neg (by omega)]
  | n + 1 => by
    rw [tot, tot_one a x n]
    by_cases h : a = (n : Int)
    · rw [if_pos h, if_neg (by omega), if_pos (by omega), Int.zero_add]
    · rw [if_neg h, Int.add_zero]
      by_cases h2 : 0 ≤ a ∧ a < (n : Int)
      · rw [if_pos h2, if_pos (by omega)]
      · rw [if_neg h2, if_neg (by omega)]
theorem tot_span (f t : Int) (h0 : 0 ≤ f) (h1 : f < t) : ∀ n : Nat, tot (fun d => if f < (d : Int) + 1 ∧ (d : Int) < t then 1 else 0) n = if (n : Int) ≤ f then 0 else if (n : Int) ≤ t then (n : Int) - f else t - f
  | 0 => by rw [tot, if_pos (by omega)]
  | n + 1 => by
    rw [tot, tot_span f t h0 h1 n]
    by_cases a1 : ((n + 1 : Nat) : Int) ≤ f
    · rw [if_pos (by omega), if_neg (by omega), if_pos a1]; rfl
    · rw [if_neg a1]
      by_cases a2 : ((n + 1 : Nat) : Int) ≤ t
      · rw [if_pos a2, if_pos (show f < (n : Int) + 1 ∧ (n : Int) < t by omega)]
        split
        · omega
        · split <;> omega
      · rw [if_neg a2, if_neg (show ¬ (f < (n : Int) + 1 ∧ (n : Int) < t) by omega)]
        rw [if_neg (by omega)]
        split <;> omega
def len1 (l : List Hire) (i : Nat) : Int := (hat l i).t - (hat l i).f
theorem tot_sumTo (l : List Hire) (N : Nat) (k : Nat) (h : ∀ i, i < k → 0 ≤ (hat l i).m ∧ (hat l i).m < (N : Int)) : tot (fun m => sumTo l k (m : Int)) N = tot (len1 l) k := by
  induction k with
  | zero => simp only [sumTo, tot]; exact tot_zero N
  | succ k ih =>
    have e : tot (fun m => sumTo l (k + 1) (m : Int)) N = tot (fun m => sumTo l k (m : Int) + (if (hat l k).m = (m : Int) then len1 l k else 0)) N := tot_congr N fun m _ => rfl
    rw [e, tot_add, ih (fun i hi => h i (by omega)), tot_one, if_pos (h k (by omega)), tot]
theorem cnt_tot (P : Nat → Bool) : ∀ k, (cnt P k : Int) = tot (fun i => if P i = true then 1 else 0) k
  | 0 => rfl
  | k + 1 => by
    rw [cnt, tot, Int.natCast_add, cnt_tot P k]
    congr 1
    by_cases h : P k = true
    · rw [if_pos h, if_pos h]; rfl
    · rw [if_neg h, if_neg h]; rfl
theorem tot_out (l : List Hire) (n : Nat) (k : Nat) (h : ∀ i, i < k → 0 ≤ (hat l i).f ∧ (hat l i).f < (hat l i).t ∧ (hat l i).t ≤ (n : Int)) : tot (fun d => (cnt (isOut l (d : Int)) k : Int)) n = tot (len1 l) k := by
  induction k with
  | zero => simp only [cnt, tot]; exact tot_zero n
  | succ k ih =>
    have e : tot (fun d => (cnt (isOut l (d : Int)) (k + 1) : Int)) n = tot (fun d => (cnt (isOut l (d : Int)) k : Int) + (if (hat l k).f < (d : Int) + 1 ∧ (d : Int) < (hat l k).t then 1 else 0)) n := tot_congr n fun d _ => by
      rw [cnt, Int.natCast_add]
      congr 1
      simp only [isOut, ovl, decide_eq_true_eq]
      split <;> rfl
    have hk := h k (by omega)
    rw [e, tot_add, ih (fun i hi => h i (by omega)), tot_span _ _ hk.1 hk.2.1, tot, len1]
    congr 1
    rw [if_neg (by omega)]
    split <;> omega
def lastN (l : List Hire) : Nat → Int
  | 0 => 0
  | k + 1 => max (lastN l k) (hat l k).t
theorem lastN_ge {l : List Hire} {i : Nat} : ∀ k, i < k → (hat l i).t ≤ lastN l k
  | 0, h => by omega
  | k + 1, h => by
    rw [lastN]
    by_cases e : i = k
    · subst e; omega
    · have := lastN_ge (l := l) k (show i < k by omega); omega
theorem lastN_bd {l : List Hire} (h : ∀ i, i < l.length → (hat l i).t ≤ 3650) : ∀ k, k ≤ l.length → 0 ≤ lastN l k ∧ lastN l k ≤ 3650
  | 0, _ => by simp [lastN]
  | k + 1, hk => by
    have := lastN_bd h k (by omega)
    have := h k (by omega)
    rw [lastN]; omega
def topN (l : List Hire) : Nat → Int
  | 0 => 0
  | k + 1 => max (topN l k) (outN l (k : Int))
theorem topN_ge {l : List Hire} {d : Nat} : ∀ k, d < k → (outN l (d : Int) : Int) ≤ topN l k
  | 0, h => by omega
  | k + 1, h => by
    rw [topN]
    by_cases e : d = k
    · subst e; omega
    · have := topN_ge (l := l) k (show d < k by omega); omega
theorem topN_bd (l : List Hire) : ∀ k, 0 ≤ topN l k ∧ topN l k ≤ l.length
  | 0 => by simp [topN]
  | k + 1 => by
    have := topN_bd l k
    have := cnt_le (isOut l (k : Int)) l.length
    rw [topN]; unfold outN; omega
theorem cnt_mono {P Q : Nat → Bool} : ∀ k, (∀ i, i < k → P i = true → Q i = true) → cnt P k ≤ cnt Q k
  | 0, _ => Nat.le_refl _
  | k + 1, h => by
    have := cnt_mono k (fun i hi => h i (by omega))
    rw [cnt, cnt]
    by_cases hp : P k = true
    · rw [if_pos hp, if_pos (h k (by omega) hp)]; omega
    · rw [if_neg hp]; omega
theorem cnt_pos {P : Nat → Bool} : ∀ k, 0 < cnt P k → ∃ i, i < k ∧ P i = true
  | 0, h => by simp [cnt] at h
  | k + 1, h => by
    by_cases hp : P k = true
    · exact ⟨k, by omega, hp⟩
    · rw [cnt, if_neg hp] at h
      obtain ⟨i, hi, hp'⟩ := cnt_pos k (by omega)
      exact ⟨i, by omega, hp'⟩
theorem ex_max {P : Nat → Bool} (f : Nat → Int) : ∀ n, (∃ j, j < n ∧ P j = true) → ∃ j, j < n ∧ P j = true ∧ ∀ i, i < n → P i = true → f i ≤ f j
  | 0, ⟨j, hj, _⟩ => by omega
  | n + 1, ⟨j, hj, hp⟩ => by
    by_cases h : ∃ j, j < n ∧ P j = true
    · obtain ⟨m, hm, hpm, hmax⟩ := ex_max f n h
      by_cases hn : P n = true ∧ f m < f n
      · refine ⟨n, by omega, hn.1, fun i hi hpi => ?_⟩
        by_cases e : i = n
        · subst e; exact Int.le_refl _
        · have := hmax i (by omega) hpi; omega
      · refine ⟨m, by omega, hpm, fun i hi hpi => ?_⟩
        by_cases e : i = n
        · subst e
          have : ¬ f m < f i := fun h9 => hn ⟨hpi, h9⟩
          omega
        · exact hmax i (by omega) hpi
    · have e : j = n := by
        by_cases e : j = n
        · exact e
        · exact absurd ⟨j, by omega, hp⟩ h
      subst e
      refine ⟨j, by omega, hp, fun i hi hpi => ?_⟩
      by_cases e : i = j
      · subst e; exact Int.le_refl _
      · exact absurd ⟨i, by omega, hpi⟩ h
theorem mostOut_ge {l : List Hire} {i : Nat} : ∀ k, i < k → (outN l (hat l i).f : Int) ≤ mostOut l k
  | 0, h => by omega
  | k + 1, h => by
    rw [mostOut]
    by_cases e : i = k
    · subst e; omega
    · have := mostOut_ge (l := l) k (show i < k by omega); omega
theorem out_le (l : List Hire) (d : Int) : (outN l d : Int) ≤ mostOut l l.length := by
  by_cases h0 : outN l d = 0
  · have := mostOut_bd l l.length; omega
  · obtain ⟨j, hj, hp, hmax⟩ := ex_max (fun i => (hat l i).f) l.length (cnt_pos (P := isOut l d) l.length (by unfold outN at h0; omega))
    have h1 : outN l d ≤ outN l (hat l j).f := cnt_mono l.length fun i hi hpi => by
      have := hmax i hi hpi
      simp only [isOut, ovl, decide_eq_true_eq] at hp hpi ⊢
      omega
    have := mostOut_ge (l := l) (i := j) l.length hj
    omega
theorem topN_eq {l : List Hire} {n : Nat} (h : ∀ i, i < l.length → 0 ≤ (hat l i).f ∧ (hat l i).f < (n : Int)) : topN l n = mostOut l l.length := by
  have a : ∀ k, topN l k ≤ mostOut l l.length := fun k => by
    induction k with
    | zero => exact (mostOut_bd l l.length).1
    | succ k ih => rw [topN]; have := out_le l (k : Int); omega
  have b : ∀ k, k ≤ l.length → mostOut l k ≤ topN l n := fun k hk => by
    induction k with
    | zero => exact (topN_bd l n).1
    | succ k ih =>
      rw [mostOut]
      have := ih (by omega)
      obtain ⟨h1, h2⟩ := h k (by omega)
      obtain ⟨d, hd⟩ : ∃ d : Nat, (hat l k).f = (d : Int) := ⟨(hat l k).f.toNat, by omega⟩
      rw [hd] at h2 ⊢
      have := topN_ge (l := l) (d := d) n (by omega)
      omega
  have := a n
  have := b l.length (Nat.le_refl _)
  omega
theorem vHires_bds {l : List Hire} {n : Int} (h : vHires l n = true) : ∀ i, i < l.length → 0 ≤ (hat l i).m ∧ (hat l i).m < n ∧ 0 ≤ (hat l i).f ∧ (hat l i).f < (hat l i).t ∧ (hat l i).t ≤ 3650 := fun i hi => by
  obtain ⟨h1, h2⟩ := vHires_one h hi
  have := vHire_bd h1
  omega
/-- the days out of all machines add up to the machines out of all days -/
theorem days_sum {l : List Hire} {n : Int} (h : vHires l n = true) {last : Nat} (hl : lastN l l.length = (last : Int)) : tot (fun d => (outN l (d : Int) : Int)) last = tot (fun m => sumTo l l.length (m : Int)) n.toNat := by
  have hb := vHires_bds h
  have hn := vHires_nn h
  rw [tot_sumTo l n.toNat l.length (fun i hi => by have := hb i hi; omega)]
  exact tot_out l last l.length (fun i hi => by
    have := hb i hi
    have := lastN_ge (l := l) (i := i) l.length hi
    omega)
theorem days_top {l : List Hire} {n : Int} (h : vHires l n = true) {last : Nat} (hl : lastN l l.length = (last : Int)) : topN l last = mostOut l l.length := by
  have hb := vHires_bds h
  exact topN_eq (fun i hi => by
    have := hb i hi
    have := lastN_ge (l := l) (i := i) l.length hi
    omega)
/-- the free machine next is the first of those that are free on its days -/
theorem fL_none {l : List Hire} {f t : Int} : ∀ k : Nat, (∀ x : Nat, x < k → free l (x : Int) f t = false) → fL l f t k = []
  | 0, _ => rfl
  | k + 1, h => by rw [fL, if_neg (by rw [h k (by omega)]; simp), fL_none k (fun x hx => h x (by omega))]
theorem fL_head {l : List Hire} {f t : Int} {m : Nat} (hm : free l (m : Int) f t = true) (hx : ∀ x : Nat, x < m → free l (x : Int) f t = false) : ∀ k, m < k → ∃ L, fL l f t k = (m : Int) :: L
  | 0, h => by omega
  | k + 1, h => by
    rw [fL]
    by_cases e : m = k
    · subst e
      rw [if_pos hm, fL_none m hx]
      exact ⟨[], rfl⟩
    · obtain ⟨L, hL⟩ := fL_head hm hx k (by omega)
      rw [hL]
      split
      · exact ⟨L ++ [(k : Int)], rfl⟩
      · exact ⟨L, rfl⟩
theorem next_free {l : List Hire} {n day dd : Int} {r : Int × Int × Int} (h : NFR l n day dd r) (h0 : r.2.2 = 0) :
    (0 ≤ r.1 ∧ r.1 ≤ 3650 ∧ 1 ≤ dd ∧ dd ≤ 3650 ∧ day ≤ r.1) ∧ (∃ L, fmR l n r.1 (r.1 + dd) = (r.2.1 :: L, 0)) ∧ (day < r.1 → fmR l n (r.1 - 1) (r.1 - 1 + dd) = ([], 0)) := by
  unfold NFR at h
  by_cases hv : vHires l n = true
  · rw [if_pos hv] at h
    by_cases hb : btw day 0 3650 = true ∧ btw dd 1 3650 = true
    · rw [if_pos hb] at h
      obtain ⟨b1, b2⟩ := btw_true hb.1
      obtain ⟨b3, b4⟩ := btw_true hb.2
      have hn := vHires_nn hv
      rcases h with ⟨rfl, _⟩ | ⟨d, m, rfl, hnf, hmin⟩
      · exact absurd h0 (by show ¬ (3 : Int) = 0; omega)
      · obtain ⟨q1, q2, q3, q4, q5⟩ := hnf
        show (0 ≤ d ∧ d ≤ 3650 ∧ 1 ≤ dd ∧ dd ≤ 3650 ∧ day ≤ d) ∧ (∃ L, fmR l n d (d + dd) = (m :: L, 0)) ∧ (day < d → fmR l n (d - 1) (d - 1 + dd) = ([], 0))
        refine ⟨by omega, ?_, fun hd => ?_⟩
        · obtain ⟨M, rfl⟩ : ∃ M : Nat, m = (M : Int) := ⟨m.toNat, by omega⟩
          obtain ⟨L, hL⟩ := fL_head (m := M) q5 (fun x hx => by
            rw [← Bool.not_eq_true]
            intro hc
            have := hmin d (x : Int) ⟨q1, q2, by omega, by omega, hc⟩
            omega) n.toNat (by omega)
          refine ⟨L, ?_⟩
          rw [fmR, if_pos hv, if_pos (by simp only [days, decide_eq_true_eq]; omega), hL]
        · rw [fmR, if_pos hv, if_pos (by simp only [days, decide_eq_true_eq]; omega), fL_none n.toNat (fun x hx => ?_)]
          rw [← Bool.not_eq_true]
          intro hc
          have := hmin (d - 1) (x : Int) ⟨by omega, by omega, by omega, by omega, hc⟩
          omega
    · rw [if_neg hb] at h
      rw [h] at h0
      exact absurd h0 (by show ¬ (2 : Int) = 0; omega)
  · rw [if_neg hv] at h
    rw [h] at h0
    exact absurd h0 (by show ¬ (1 : Int) = 0; omega)
end Go.Proofs.Ytiagckbdofeecaa

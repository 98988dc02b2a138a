/-
  The least price of a hire: plain facts (the months and weeks are gone through, the least price is kept). No program.
-/
import Derived.Test.YtiagckbdofeecaaHire1
namespace Go.Proofs.Ytiagckbdofeecaa
open Go.RowKit
/-- the days that are left behind so many months -/
def hpL (n : Int) (m : Nat) : Int := max (n - 30 * (m : Int)) 0
def hp1 (n d e f : Int) (m k : Nat) : Int := (m : Int) * f + (k : Int) * e + max (hpL n m - 7 * (k : Int)) 0 * d
def hpU (b x : Int) : Int := if b < 0 ∨ x < b then x else b
/-- behind k weeks of the month m -/
def hpK (n d e f b : Int) (m : Nat) : Nat → Int
  | 0 => b
  | k + 1 => hpU (hpK n d e f b m k) (hp1 n d e f m k)
def hpW (n : Int) (m : Nat) : Nat := ((hpL n m + 6) / 7).toNat
/-- behind m months -/
def hpM (n d e f : Int) : Nat → Int
  | 0 => -1
  | m + 1 => hpK n d e f (hpM n d e f m) m (hpW n m + 1)
def hpOk (n d e f : Int) : Bool := btw n 1 3650 && btw d 0 100000 && btw e 0 1000000 && btw f 0 10000000
def hpR (n d e f : Int) : Int × Int := if hpOk n d e f = true then (hpM n d e f (((n + 29) / 30).toNat + 1), 0) else (0, 2)
theorem hpOk_inv {n d e f : Int} (h : hpOk n d e f = true) : (1 ≤ n ∧ n ≤ 3650) ∧ (0 ≤ d ∧ d ≤ 100000) ∧ (0 ≤ e ∧ e ≤ 1000000) ∧ 0 ≤ f ∧ f ≤ 10000000 := by
  simp only [hpOk, Bool.and_eq_true] at h
  exact ⟨btw_true h.1.1.1, btw_true h.1.1.2, btw_true h.1.2, btw_true h.2⟩
theorem hpL_bd {n : Int} (h : 1 ≤ n ∧ n ≤ 3650) (m : Nat) : 0 ≤ hpL n m ∧ hpL n m ≤ 3650 := by unfold hpL; omega
theorem hpW_bd {n : Int} (h : 1 ≤ n ∧ n ≤ 3650) (m : Nat) : hpW n m ≤ 522 := by
  have := hpL_bd h m
  unfold hpW; omega
theorem hp1_bd {n d e f : Int} (h : hpOk n d e f = true) {m k : Nat} (hm : m ≤ 122) (hk : k ≤ 522) : 0 ≤ hp1 n d e f m k ∧ hp1 n d e f m k ≤ 10000000000 := by
  obtain ⟨h1, h2, h3, h4⟩ := hpOk_inv h
  have h5 := hpL_bd h1 m
  have a0 : 0 ≤ (m : Int) * f := Int.mul_nonneg (by omega) h4.1
  have a1 : (m : Int) * f ≤ 122 * 10000000 := Int.mul_le_mul (by omega) h4.2 h4.1 (by omega)
  have b0 : 0 ≤ (k : Int) * e := Int.mul_nonneg (by omega) h3.1
  have b1 : (k : Int) * e ≤ 522 * 1000000 := Int.mul_le_mul (by omega) h3.2 h3.1 (by omega)
  have c0 : 0 ≤ max (hpL n m - 7 * (k : Int)) 0 * d := Int.mul_nonneg (by omega) h2.1
  have c1 : max (hpL n m - 7 * (k : Int)) 0 * d ≤ 3650 * 100000 := Int.mul_le_mul (by omega) h2.2 h2.1 (by omega)
  unfold hp1
  omega
theorem hpU_bd {b x c : Int} (hb : -1 ≤ b ∧ b ≤ c) (hx : 0 ≤ x ∧ x ≤ c) : 0 ≤ hpU b x ∧ hpU b x ≤ c ∧ hpU b x ≤ x ∧ (0 ≤ b → hpU b x ≤ b) := by
  unfold hpU
  split <;> omega
theorem hpK_bd {n d e f b : Int} (h : hpOk n d e f = true) {m : Nat} (hm : m ≤ 122) (hb : -1 ≤ b ∧ b ≤ 10000000000) : ∀ k, k ≤ 523 → (-1 ≤ hpK n d e f b m k ∧ hpK n d e f b m k ≤ 10000000000) ∧ (0 < k → 0 ≤ hpK n d e f b m k) ∧ (0 ≤ b → 0 ≤ hpK n d e f b m k ∧ hpK n d e f b m k ≤ b) ∧ ∀ j, j < k → hpK n d e f b m k ≤ hp1 n d e f m j
  | 0, _ => ⟨hb, fun h => by omega, fun h => ⟨h, Int.le_refl _⟩, fun j hj => by omega⟩
  | k + 1, hk => by
    obtain ⟨i1, i2, i3, i4⟩ := hpK_bd h hm hb k (by omega)
    have hx := hp1_bd h hm (k := k) (by omega)
    obtain ⟨u1, u2, u3, u4⟩ := hpU_bd i1 hx
    rw [hpK]
    refine ⟨by omega, fun _ => u1, fun h0 => ?_, fun j hj => ?_⟩
    · have := i3 h0
      have := u4 this.1
      omega
    · by_cases ej : j = k
      · subst ej; exact u3
      · have h9 := i4 j (by omega)
        have h8 := u4 (i2 (by omega))
        omega
theorem hpM_bd {n d e f : Int} (h : hpOk n d e f = true) : ∀ m, m ≤ 123 → (-1 ≤ hpM n d e f m ∧ hpM n d e f m ≤ 10000000000) ∧ (0 < m → 0 ≤ hpM n d e f m) ∧ ∀ j k, j < m → k ≤ hpW n j → hpM n d e f m ≤ hp1 n d e f j k
  | 0, _ => ⟨by rw [hpM]; omega, fun h => by omega, fun j k hj => by omega⟩
  | m + 1, hm => by
    obtain ⟨i1, i2, i3⟩ := hpM_bd h m (by omega)
    have hw := hpW_bd (hpOk_inv h).1 m
    obtain ⟨k1, k2, k3, k4⟩ := hpK_bd h (m := m) (by omega) i1 (hpW n m + 1) (by omega)
    rw [hpM]
    refine ⟨k1, fun _ => k2 (by omega), fun j k hj hk => ?_⟩
    by_cases ej : j = m
    · subst ej; exact k4 k (by omega)
    · have h9 := i3 j k (by omega) hk
      have h8 := k3 (i2 (by omega))
      omega
theorem hpR_law {n d e f : Int} (h : hpOk n d e f = true) : 0 ≤ (hpR n d e f).1 ∧ (hpR n d e f).1 ≤ n * d ∧ (hpR n d e f).1 ≤ (n + 6) / 7 * e ∧ (hpR n d e f).1 ≤ (n + 29) / 30 * f := by
  have h1 := (hpOk_inv h).1
  obtain ⟨_, b2, b3⟩ := hpM_bd h (((n + 29) / 30).toNat + 1) (by omega)
  have e1 : (hpR n d e f).1 = hpM n d e f (((n + 29) / 30).toNat + 1) := by rw [hpR, if_pos h]
  rw [e1]
  have l0 : hpL n 0 = n := by unfold hpL; omega
  refine ⟨b2 (by omega), ?_, ?_, ?_⟩
  · have := b3 0 0 (by omega) (by omega)
    rw [hp1, l0] at this
    rw [show max (n - 7 * ((0 : Nat) : Int)) 0 = n by omega] at this
    simpa using this
  · have := b3 0 ((n + 6) / 7).toNat (by omega) (by unfold hpW; rw [l0]; omega)
    rw [hp1, l0] at this
    rw [show max (n - 7 * (((n + 6) / 7).toNat : Int)) 0 = 0 by omega, show (((n + 6) / 7).toNat : Int) = (n + 6) / 7 by omega] at this
    simpa using this
  · have := b3 ((n + 29) / 30).toNat 0 (by omega) (by omega)
    have lM : hpL n ((n + 29) / 30).toNat = 0 := by unfold hpL; omega
    rw [hp1, lM] at this
    rw [show max ((0 : Int) - 7 * ((0 : Nat) : Int)) 0 = 0 by omega, show (((n + 29) / 30).toNat : Int) = (n + 29) / 30 by omega] at this
    simpa using this
end Go.Proofs.Ytiagckbdofeecaa

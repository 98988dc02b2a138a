/-
  DaysOut: of the program and of the reference; the days of each machine.
-/
import Derived.Test.YtiagckbdofeecaaDoorMgA
import Derived.Test.YtiagckbdofeecaaDoorInts
import Derived.StillTailTactics
namespace Go.Proofs.YtiagckbdofeecaaDoor
open Go.RowKit
def sumTo (l : List Hire) : Nat → Int → Int
  | 0, _ => 0
  | k + 1, m => sumTo l k m + if (hat l k).m = m then (hat l k).t - (hat l k).f else 0
def dL (l : List Hire) (k N : Nat) : List Int := (List.range N).map (fun (m : Nat) => sumTo l k m)
def dOutR (l : List Hire) (n : Int) : List Int × Int := if vHires l n = true then (dL l l.length n.toNat, 0) else ([], 1)
theorem dL_len (l : List Hire) (k N : Nat) : (dL l k N).length = N := by simp [dL]
theorem dL_get {l : List Hire} {k N i : Nat} (h : i < (dL l k N).length) : (dL l k N)[i] = sumTo l k i := by simp [dL]
theorem sumTo_bd {l : List Hire} (h : ∀ i, i < l.length → 0 ≤ (hat l i).m ∧ (hat l i).m ≤ 19 ∧ 0 ≤ (hat l i).f ∧ (hat l i).f < (hat l i).t ∧ (hat l i).t ≤ 3650) (k : Nat) (hk : k ≤ l.length) (m : Int) : 0 ≤ sumTo l k m ∧ sumTo l k m ≤ 3650 * k := by
  induction k with
  | zero => simp [sumTo]
  | succ k ih =>
    have := ih (by omega)
    have := h k (by omega)
    rw [sumTo]
    split <;> omega
theorem dL_zero (l : List Hire) (N : Nat) : (madeCells #[i64 0] (N * 1)).toList = ics (dL l 0 N) := by
  refine ics_ext ?_ fun i hi => ?_
  · simp [dL, madeCells]
  · rw [dL_get, sumTo]
    rw [dL_len] at hi
    simp [madeCells, hi, Nat.mod_one]
theorem dL_set {l : List Hire} {k N M : Nat} (hM : (hat l k).m = M) (hN : M < N) : (ics (dL l k N)).set M (i64 (sumTo l k M + ((hat l k).t - (hat l k).f))) = ics (dL l (k + 1) N) := by
  refine ics_ext (by rw [List.length_set, ics_len, dL_len, dL_len]) fun i hi => ?_
  rw [dL_get, sumTo]
  rw [dL_len] at hi
  by_cases hiM : i = M
  · subst hiM
    rw [List.getElem?_set_self (by rw [ics_len, dL_len]; exact hi), if_pos hM]
  · rw [List.getElem?_set_ne (by omega), ics_get (by rw [dL_len]; exact hi), dL_get, if_neg (by omega), Int.add_zero]
theorem vHires_nn {l : List Hire} {n : Int} (h : vHires l n = true) : 1 ≤ n ∧ n ≤ 20 := by
  simp only [vHires, Bool.and_eq_true] at h
  exact btw_true h.1.1
end Go.Proofs.YtiagckbdofeecaaDoor

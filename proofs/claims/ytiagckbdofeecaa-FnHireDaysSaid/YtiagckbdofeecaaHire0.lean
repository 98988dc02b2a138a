/-
  One hire: contracts of the laws' own functions on it (copied, equal); lists of hires as cells. No condition.
-/
import Derived.Test.YtiagckbdofeecaaRows
import Derived.Test.YtiagckbdofeecaaFlat
namespace Go.Proofs.Ytiagckbdofeecaa
open Go.RowKit
structure Hire where
  m : Int
  f : Int
  t : Int
def Hire.cells (h : Hire) : List Value := [i64 h.m, i64 h.f, i64 h.t]
abbrev hv (h : Hire) : Value := .agg #[i64 h.m, i64 h.f, i64 h.t]
def hcs (l : List Hire) : List Value := l.flatMap Hire.cells
theorem hcells_len (h : Hire) : h.cells.length = 3 := rfl

theorem hire_at {w : World} {A : Option Addr} {l : List Hire} (h : Rds w 3 A l.length (hcs l)) {k : Nat} (hk : k < l.length) :
    ∃ b off, A = some ⟨b, off, none⟩ ∧ b < w.heap.size ∧ w.cell? ⟨b, off + k * 3, none⟩ = some (i64 l[k].m) ∧ w.cell? ⟨b, off + k * 3 + 1, none⟩ = some (i64 l[k].f) ∧ w.cell? ⟨b, off + k * 3 + 2, none⟩ = some (i64 l[k].t) := by
  obtain ⟨b, off, e, hb, hc⟩ := rds_elem hcells_len h hk (by omega)
  exact ⟨b, off, e, hb, hc 0 _ rfl, hc 1 _ rfl, hc 2 _ rfl⟩
theorem set3_get {l : List Hire} {ys : List Value} {k i j n : Nat} (hys : ∀ i (hi : i < l.length) j, j < 3 → i < k → ys[i * 3 + j]? = (l[i].cells)[j]?) (hlen : ys.length = n * 3) (hi : i < l.length) (hj : j < 3) (hik : i < k + 1) (hk : k < n)
    {h : Hire} (he : ∀ (hk : k < l.length), l[k] = h := by intro; rfl) :
    (((ys.set (k * 3) (i64 h.m)).set (k * 3 + 1) (i64 h.f)).set (k * 3 + 2) (i64 h.t))[i * 3 + j]? = (l[i].cells)[j]? := by
  by_cases hik' : i = k
  · subst hik'
    rw [he hi]
    match j, hj with
    | 0, _ => rw [List.getElem?_set_ne (by omega), List.getElem?_set_ne (by omega), Nat.add_zero, List.getElem?_set_self (by omega)]; rfl
    | 1, _ => rw [List.getElem?_set_ne (by omega), List.getElem?_set_self (by rw [List.length_set]; omega)]; rfl
    | 2, _ => rw [List.getElem?_set_self (by rw [List.length_set, List.length_set]; omega)]; rfl
  · rw [List.getElem?_set_ne (by omega), List.getElem?_set_ne (by omega), List.getElem?_set_ne (by omega)]
    exact hys i hi j hj (by omega)
theorem toHire_any (h : Hire) (w : World) :
    Calls Try.prog 34 #[hv h] w fun e w' => e = .returned (hv h) ∧ UpOf w w' := by
  go_enter Try.func34, Try.ntmps34
  go_wp2_with (first | ((with_reducible refine wp_region_up (by kernel_rfl) (by kernel_rfl) ?_); (repeat (go_big_quiet_step (fail))); refine wpQuiet_nil ?_; intro _ hw'; obtain ⟨nq, hw''⟩ := hw'; subst hw''))
  exact bodyPost_ret (v := hv h) (by simp [results, Try.results34, go_sem]) rfl ⟨rfl, UpOf.of (by repeat (first | exact Below.refl _ _ | refine bl_tr ?_ _ | refine bl_al ?_ _ | refine bl_dr ?_ | refine bl_up ?_ _ | refine Below.drew ?_ | refine bl_alloc ?_ _ | refine Below.setCell ?_ (by first | (simp; done) | (simp; omega)) _))⟩
theorem eqHire_any (h : Hire) (w : World) :
    Calls Try.prog 54 #[hv h, hv h] w fun e w' => e = .returned (.bool true) ∧ UpOf w w' := by
  go_enter Try.func54, Try.ntmps54
  go_wp2_with (first | ((with_reducible refine wp_region_up (by kernel_rfl) (by kernel_rfl) ?_); (repeat (go_big_quiet_step (fail))); refine wpQuiet_nil ?_; intro _ hw'; obtain ⟨nq, hw''⟩ := hw'; subst hw''))
  go_ret
  exact ⟨rfl, UpOf.of (by repeat (first | exact Below.refl _ _ | refine bl_tr ?_ _ | refine bl_al ?_ _ | refine bl_dr ?_ | refine bl_up ?_ _ | refine Below.drew ?_ | refine bl_alloc ?_ _ | refine Below.setCell ?_ (by first | (simp; done) | (simp; omega)) _))⟩
end Go.Proofs.Ytiagckbdofeecaa

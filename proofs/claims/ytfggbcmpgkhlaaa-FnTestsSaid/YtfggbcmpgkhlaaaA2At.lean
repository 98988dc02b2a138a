/-
  The laws' helper a2At: a number from 0 to less than q. The bounds stand at it.
-/
import Derived.Test.YtfggbcmpgkhlaaaSrc
import Derived.Test.YtfggbcmpgkhlaaaInts
namespace Go.Proofs.Ytfggbcmpgkhlaaa
open Go.RowKit
set_option maxRecDepth 10000 in
theorem a2At_any (A : Option Addr) (n c : Nat) (zs : List Int) (k q : Nat) (w : World) (hz : ∀ z ∈ zs, 0 ≤ z ∧ z ≤ 255) (h : Rds w 1 A n (bytes zs)) (hn : n ≤ 3000) (hq : 1 ≤ q) (hq2 : q ≤ 1000000) :
    Calls Try.prog 11 #[.slice A n c, i64 k, i64 q] w fun e w' => ∃ x : Nat, e = .returned (i64 x) ∧ x < q ∧ UpOf w w' := by
  by_cases hlt : k < n
  · obtain ⟨b, off, rfl, hb, hc⟩ := h.at (by omega)
    have hl := h.1
    simp only [bytes, List.length_map, Nat.mul_one] at hl
    have c0 : w.cell? ⟨b, off + k, none⟩ = some (.int .u8 zs[k]) := hc k _ (by simp [bytes])
    have hz' := hz zs[k] (List.getElem_mem _)
    generalize zs[k] = z at *
    obtain ⟨y, rfl⟩ : ∃ y : Nat, z = (y : Int) := ⟨z.toNat, by omega⟩
    have hm : ((y : Int)).tmod (q : Int) = ((y % q : Nat) : Int) := rfl
    have hmq := Nat.mod_lt y (show 0 < q by omega)
    generalize y % q = r at *
    have hlt' : (k : Int) < (n : Int) := by omega
    have hq0 : ¬ (q : Int) < 1 := by omega
    have hq1 : ((q : Int) == 0) = false := by rw [beq_eq_false_iff_ne]; omega
    have hq3 : ¬ (q : Int) = 0 := by omega
    have hq4 : (q : Int) ≠ -1 := by omega
    clear hc h hl
    go_enter Try.func11, Try.ntmps11
    go_wp2_with (first | ((with_reducible refine wp_region_up (by kernel_rfl) (by kernel_rfl) ?_); (repeat (go_big_quiet_step (fail))); refine wpQuiet_nil ?_; intro _ hw'; obtain ⟨nq, hw''⟩ := hw'; subst hw''))
    go_ret
    exact ⟨r, rfl, by omega, UpOf.of (by repeat (first | exact Below.refl _ _ | refine bl_tr ?_ _ | refine bl_al ?_ _ | refine bl_dr ?_ | refine bl_up ?_ _ | refine Below.drew ?_ | refine bl_alloc ?_ _ | refine Below.setCell ?_ (by first | (simp; done) | (simp; omega)) _))⟩
  · have hge : (n : Int) ≤ (k : Int) := by omega
    go_enter Try.func11, Try.ntmps11
    go_wp2_with (first | ((with_reducible refine wp_region_up (by kernel_rfl) (by kernel_rfl) ?_); (repeat (go_big_quiet_step (fail))); refine wpQuiet_nil ?_; intro _ hw'; obtain ⟨nq, hw''⟩ := hw'; subst hw''))
    go_ret
    exact ⟨0, rfl, by omega, UpOf.of (by repeat (first | exact Below.refl _ _ | refine bl_tr ?_ _ | refine bl_al ?_ _ | refine bl_dr ?_ | refine bl_up ?_ _ | refine Below.drew ?_ | refine bl_alloc ?_ _ | refine Below.setCell ?_ (by first | (simp; done) | (simp; omega)) _))⟩
theorem own_cap {w : World} {base e size n c : Nat} {A : Option Addr} {xs : List Value} (h : w.ownsRow base e size (.slice A n c) n xs) : n ≤ c := by
  rcases h.2 with ⟨hv, h0⟩ | ⟨g, cap, cur, hv, _, _, hle, _⟩
  · omega
  · injection hv with _ _ hc
    omega
end Go.Proofs.Ytfggbcmpgkhlaaa

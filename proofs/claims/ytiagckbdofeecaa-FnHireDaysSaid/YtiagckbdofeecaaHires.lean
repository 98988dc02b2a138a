/-
  Hires: contracts of the laws' own functions on them (copied, equal, marked, held, counted). The bounds stand at each.
-/
import Derived.Test.YtiagckbdofeecaaRows
import Derived.Test.YtiagckbdofeecaaHire0
namespace Go.Proofs.Ytiagckbdofeecaa
open Go.RowKit
theorem szHireS_any (A : Option Addr) (n c : Nat) (k : Int) (w : World) (hk : 0 ≤ k) (hk1 : k ≤ 1048576) (hn : n ≤ 9223372036854775807) :
    Calls Try.prog 13 #[.slice A n c, i64 k] w fun e w' => e = .returned (i64 (if k < n then -1 else k - n)) ∧ UpOf w w' := by
  by_cases h : k < n
  · go_enter Try.func13, Try.ntmps13
    go_wp2_with (first | ((with_reducible refine wp_region_up (by kernel_rfl) (by kernel_rfl) ?_); (repeat (go_big_quiet_step (fail))); refine wpQuiet_nil ?_; intro _ hw'; obtain ⟨nq, hw''⟩ := hw'; subst hw''))
    go_ret
    exact ⟨rfl, UpOf.of (by repeat (first | exact Below.refl _ _ | refine bl_tr ?_ _ | refine bl_al ?_ _ | refine bl_dr ?_ | refine bl_up ?_ _ | refine Below.drew ?_ | refine bl_alloc ?_ _ | refine Below.setCell ?_ (by first | (simp; done) | (simp; omega)) _))⟩
  · go_enter Try.func13, Try.ntmps13
    go_wp2_with (first | ((with_reducible refine wp_region_up (by kernel_rfl) (by kernel_rfl) ?_); (repeat (go_big_quiet_step (fail))); refine wpQuiet_nil ?_; intro _ hw'; obtain ⟨nq, hw''⟩ := hw'; subst hw''))
    go_ret
    exact ⟨rfl, UpOf.of (by repeat (first | exact Below.refl _ _ | refine bl_tr ?_ _ | refine bl_al ?_ _ | refine bl_dr ?_ | refine bl_up ?_ _ | refine Below.drew ?_ | refine bl_alloc ?_ _ | refine Below.setCell ?_ (by first | (simp; done) | (simp; omega)) _))⟩
set_option maxRecDepth 10000 in
theorem eqHireS_any (A A' : Option Addr) (c c' : Nat) (l : List Hire) (w : World) (h : Rds w 3 A l.length (hcs l)) (h' : Rds w 3 A' l.length (hcs l)) (hn : l.length ≤ 100000000) :
    Calls Try.prog 17 #[.slice A l.length c, .slice A' l.length c'] w fun e w' => e = .returned (.bool true) ∧ UpOf w w' := by
  go_enter Try.func17, Try.ntmps17
  go_wp2_with (first | ((with_reducible refine wp_region_up (by kernel_rfl) (by kernel_rfl) ?_); (repeat (go_big_quiet_step (fail))); refine wpQuiet_nil ?_; intro _ hw'; obtain ⟨nq, hw''⟩ := hw'; subst hw''))
  go_loopw [5] (fun i wr => ∃ k : Nat, k ≤ l.length ∧ i = .int .i64 k ∧ ∃ g : Up w, wr = up w g) (fun i _ => l.length - (intOf i).toNat)
  case atStart => exact ⟨0, by omega, rfl, ⟨w, Below.refl _ _⟩, rfl⟩
  case round =>
    obtain ⟨k, hk, rfl, g, rfl⟩ := hrel
    by_cases hlt : k < l.length
    · obtain ⟨b, off, rfl, hb, c0, c1, c2⟩ := hire_at h hlt
      obtain ⟨b', off', rfl, hb', d0, d1, d2⟩ := hire_at h' hlt
      clear h h'
      go_wp2_with (first | (go_at_call 54; refine (eqHire_any _ _).mono ?_; rintro e w' ⟨rfl, g, rfl⟩) | ((with_reducible refine wp_region_up (by kernel_rfl) (by kernel_rfl) ?_); (repeat (go_big_quiet_step (first | (go_at_call 54; first | exact upq_tr (eqHire_any _ _) | exact upq (eqHire_any _ _))))); refine wpQuiet_nil ?_; intro _ hw'; obtain ⟨nq, hw''⟩ := hw'; subst hw''))
      go_roundw
      case rel => exact ⟨k + 1, by omega, by go_num, _, rfl⟩
      case measure => simp [intOf]; omega
    · go_wp2_with (first | ((with_reducible refine wp_region_up (by kernel_rfl) (by kernel_rfl) ?_); (repeat (go_big_quiet_step (fail))); refine wpQuiet_nil ?_; intro _ hw'; obtain ⟨nq, hw''⟩ := hw'; subst hw''))
      go_ret
      exact ⟨rfl, UpOf.of (by repeat (first | exact Below.refl _ _ | refine bl_tr ?_ _ | refine bl_al ?_ _ | refine bl_dr ?_ | refine bl_up ?_ _ | refine Below.drew ?_ | refine bl_alloc ?_ _ | refine Below.setCell ?_ (by first | (simp; done) | (simp; omega)) _))⟩

set_option maxRecDepth 10000 in
theorem toHireS_any (A : Option Addr) (c : Nat) (l : List Hire) (w : World) (h : Rds w 3 A l.length (hcs l)) (hn : l.length ≤ 100000000) :
    Calls Try.prog 15 #[.slice A l.length c] w fun e w' => ∃ b : Nat, e = .returned (.slice (some ⟨b, 0, none⟩) l.length l.length) ∧ w'.ownsRow w.heap.size 47 3 (.slice (some ⟨b, 0, none⟩) l.length l.length) l.length (hcs l) ∧ UpOf w w' := by
  have hi : (Try.prog.info? 47).map (fun i => (i.zero, i.size, i.bytes)) = some (some (.agg #[i64 0, i64 0, i64 0]), 3, 24) := by kernel_rfl
  obtain ⟨i0, hi, hz0, hz1, hz2⟩ := info_parts hi
  have hmk : ∀ u : World, (Instr.makeSlice 25 (i64 l.length) (i64 l.length)).run Try.prog u = .ok (.slice (some ⟨u.heap.size, 0, none⟩) l.length l.length) (u.alloc (.cells (madeCells #[i64 0, i64 0, i64 0] (l.length * 3)) 47)) := fun u => by
    have h := run_make (P := Try.prog) u 25 47 i0 _ Try.underlying25 hi hz0 .i64 .i64 l.length l.length (by omega) (Int.le_refl _) (by rw [hz2]; omega) (by omega)
    simpa [hz1, Value.cells] using h
  clear hi hz0 hz1 hz2
  go_enter Try.func15, Try.ntmps15
  go_wp2_with (first | ((with_reducible refine wp_region_up (by kernel_rfl) (by kernel_rfl) ?_); (repeat (go_big_quiet_step (fail))); refine wpQuiet_nil ?_; intro _ hw'; obtain ⟨nq, hw''⟩ := hw'; subst hw''))
  go_loopw [4] (fun i wr => ∃ k : Nat, k ≤ l.length ∧ i = i64 k ∧ ∃ ys, wr.ownsRow w.heap.size 47 3 (.slice (some ⟨w.heap.size, 0, none⟩) l.length l.length) l.length ys ∧
      (∀ i (hi : i < l.length) j, j < 3 → i < k → ys[i * 3 + j]? = (l[i].cells)[j]?) ∧ Below w.heap.size w wr) (fun i _ => l.length - (intOf i).toNat)
  case atStart =>
    refine ⟨0, by omega, rfl, _, World.ownsRow_lit w _ l.length (Nat.le_refl _) (by unfold maxLen; omega) (size_madeCells _ _), fun i hi j hj h0 => by omega, (Below.refl _ _).alloc (Nat.le_refl _) _⟩
  case round =>
    obtain ⟨k, hk, rfl, ys, hown, hys, hbel⟩ := hrel
    by_cases hlt : k < l.length
    · obtain ⟨b, off, rfl, hb, c0, c1, c2⟩ := hire_at (h.below hbel) hlt
      have hwl := (own_block hown rfl).2.1
      have hlen := hown.1
      have d0 := hown.cellAt (k * 3) (by omega)
      have d1 := hown.cellAt (k * 3 + 1) (by omega)
      have d2 := hown.cellAt (k * 3 + 2) (by omega)
      rw [List.getElem?_eq_getElem (by omega)] at d0 d1 d2
      have f0 := fun i => hown.frozenAt i
      have HY := Lib.hid hys
      clear hys h
      go_wp2_with (first | (go_at_call 34; refine (toHire_any _ _).mono ?_; rintro e w' ⟨rfl, g, rfl⟩) | ((with_reducible refine wp_region_up (by kernel_rfl) (by kernel_rfl) ?_); (repeat (go_big_quiet_step (first | (go_at_call 34; first | exact upq_tr (toHire_any _ _) | exact upq (toHire_any _ _))))); refine wpQuiet_nil ?_; intro _ hw'; obtain ⟨nq, hw''⟩ := hw'; subst hw''))
      go_roundw
      case rel =>
        go_light
        have s1 := (own_up hown g).stored (k * 3) (i64 l[k].m)
        have s2 := s1.1.stored (k * 3 + 1) (i64 l[k].f)
        have s3 := s2.1.stored (k * 3 + 2) (i64 l[k].t)
        refine ⟨k + 1, by omega, by go_num, _, s3.1, fun i hi j hj hik => set3_get HY.out hlen hi hj hik hlt, ?_⟩
        exact (((hbel.trans (g.below.mono hbel.size)).setCell (Nat.le_refl _) _).setCell (Nat.le_refl _) _).setCell (Nat.le_refl _) _
      case measure => simp [intOf]; omega
    · go_wp2_with (first | ((with_reducible refine wp_region_up (by kernel_rfl) (by kernel_rfl) ?_); (repeat (go_big_quiet_step (fail))); refine wpQuiet_nil ?_; intro _ hw'; obtain ⟨nq, hw''⟩ := hw'; subst hw''))
      go_ret
      obtain rfl : k = l.length := by omega
      have hy : ys = hcs l := flat_ext hcells_len l hown.1 (fun i hi j hj => hys i hi j hj hi)
      rw [hy] at hown
      exact ⟨_, rfl, hown, UpOf.of hbel⟩
/-- the hires that mark n places, from number k on -/
def mh (k n : Nat) : List Hire := (List.range n).map fun (i : Nat) => ⟨(k : Int) + 3 * i, (k : Int) + 3 * i + 1, (k : Int) + 3 * i + 1 + 1⟩
theorem mh_len (k n : Nat) : (mh k n).length = n := by simp [mh]
theorem mh_get {k n i : Nat} (h : i < (mh k n).length) : (mh k n)[i] = ⟨(k : Int) + 3 * i, (k : Int) + 3 * i + 1, (k : Int) + 3 * i + 1 + 1⟩ := by simp [mh]

set_option maxRecDepth 10000 in
theorem heldHireS_any (A : Option Addr) (n c k0 : Nat) (w : World) (h : Rds w 3 A n (hcs (mh k0 n))) (hk0 : 1 ≤ k0) (hn : k0 + 3 * n < 1000000000) :
    Calls Try.prog 25 #[.slice A n c, i64 k0] w fun e w' => e = .returned (i64 ((k0 + 3 * n : Nat) : Int)) ∧ UpOf w w' := by
  go_enter Try.func25, Try.ntmps25
  go_wp2_with (first | ((with_reducible refine wp_region_up (by kernel_rfl) (by kernel_rfl) ?_); (repeat (go_big_quiet_step (fail))); refine wpQuiet_nil ?_; intro _ hw'; obtain ⟨nq, hw''⟩ := hw'; subst hw''))
  go_loopw [1, 5] (fun kk i wr => ∃ k : Nat, k ≤ n ∧ i = i64 k ∧ kk = i64 ((k0 : Int) + 3 * k) ∧ ∃ g : Up w, wr = up w g) (fun _ i _ => n - (intOf i).toNat)
  case atStart => exact ⟨0, by omega, rfl, by go_num, ⟨w, Below.refl _ _⟩, rfl⟩
  case round =>
    obtain ⟨k, hk, rfl, rfl, g, rfl⟩ := hrel
    by_cases hlt : k < n
    · obtain ⟨b, off, rfl, hb, c0, c1, c2⟩ := hire_at (l := mh k0 n) (by rw [mh_len]; exact h) (k := k) (by rw [mh_len]; exact hlt)
      rw [mh_get] at c0 c1 c2
      simp only at c0 c1 c2
      clear h
      go_wp2_with (first | ((with_reducible refine wp_region_up (by kernel_rfl) (by kernel_rfl) ?_); (repeat (go_big_quiet_step (fail))); refine wpQuiet_nil ?_; intro _ hw'; obtain ⟨nq, hw''⟩ := hw'; subst hw''))
      go_roundw
      case rel => exact ⟨k + 1, by omega, by go_num, by go_num, _, rfl⟩
      case measure => simp [intOf]; omega
    · go_wp2_with (first | ((with_reducible refine wp_region_up (by kernel_rfl) (by kernel_rfl) ?_); (repeat (go_big_quiet_step (fail))); refine wpQuiet_nil ?_; intro _ hw'; obtain ⟨nq, hw''⟩ := hw'; subst hw''))
      go_ret
      obtain rfl : k = n := by omega
      exact ⟨ret_int (by omega), UpOf.of (by repeat (first | exact Below.refl _ _ | refine bl_tr ?_ _ | refine bl_al ?_ _ | refine bl_dr ?_ | refine bl_up ?_ _ | refine Below.drew ?_ | refine bl_alloc ?_ _ | refine Below.setCell ?_ (by first | (simp; done) | (simp; omega)) _))⟩

set_option maxRecDepth 10000 in
theorem markHireS_any (base : Nat) (A : Option Addr) (n c k0 : Nat) (xs : List Value) (w : World) (h : w.ownsRow base 47 3 (.slice A n c) n xs) (hk0 : 1 ≤ k0) (hn : k0 + 3 * n < 1000000000) :
    Calls Try.prog 24 #[.slice A n c, i64 k0] w fun e w' => e = .returned (i64 ((k0 + 3 * n : Nat) : Int)) ∧ w'.ownsRow base 47 3 (.slice A n c) n (hcs (mh k0 n)) ∧ w.grownBy w' (Value.slice A n c).ownBlock := by
  go_enter Try.func24, Try.ntmps24
  go_wp2_with (first | ((with_reducible refine wp_region_up (by kernel_rfl) (by kernel_rfl) ?_); (repeat (go_big_quiet_step (fail))); refine wpQuiet_nil ?_; intro _ hw'; obtain ⟨nq, hw''⟩ := hw'; subst hw''))
  go_loopw [1, 5] (fun kk i wr => ∃ k : Nat, k ≤ n ∧ i = i64 k ∧ kk = i64 ((k0 : Int) + 3 * k) ∧ ∃ ys, wr.ownsRow base 47 3 (.slice A n c) n ys ∧
      (∀ i (hi : i < (mh k0 n).length) j, j < 3 → i < k → ys[i * 3 + j]? = ((mh k0 n)[i].cells)[j]?) ∧ w.grownBy wr (Value.slice A n c).ownBlock) (fun _ i _ => n - (intOf i).toNat)
  case atStart => exact ⟨0, by omega, rfl, by go_num, xs, h, fun i hi j hj h0 => by omega, grown_refl _ _⟩
  case round =>
    obtain ⟨k, hk, rfl, rfl, ys, hown, hys, hgr⟩ := hrel
    by_cases hlt : k < n
    · obtain ⟨b, off, rfl, hb, hc⟩ := (Rds.of_own hown).at (by omega)
      obtain ⟨hb0, hb1, rfl⟩ := own_block hown rfl
      have hlen := hown.1
      have d0 := hown.cellAt (k * 3) (by omega)
      have d1 := hown.cellAt (k * 3 + 1) (by omega)
      have d2 := hown.cellAt (k * 3 + 2) (by omega)
      rw [List.getElem?_eq_getElem (by omega)] at d0 d1 d2
      have f0 := fun i => hown.frozenAt i
      have HY := Lib.hid hys
      clear hc h hys
      go_wp2_with (first | ((with_reducible refine wp_region_up (by kernel_rfl) (by kernel_rfl) ?_); (repeat (go_big_quiet_step (fail))); refine wpQuiet_nil ?_; intro _ hw'; obtain ⟨nq, hw''⟩ := hw'; subst hw''))
      go_roundw
      case rel =>
        go_light
        have s1 := hown.stored (k * 3) (i64 ((k0 : Int) + 3 * k))
        have s2 := s1.1.stored (k * 3 + 1) (i64 ((k0 : Int) + 3 * k + 1))
        have s3 := s2.1.stored (k * 3 + 2) (i64 ((k0 : Int) + 3 * k + 1 + 1))
        refine ⟨k + 1, by omega, by go_num, by go_num, _, ?_, fun i hi j hj hik => set3_get HY.out hlen hi hj hik hlt (h := ⟨(k0 : Int) + 3 * k, (k0 : Int) + 3 * k + 1, (k0 : Int) + 3 * k + 1 + 1⟩) (fun hk => mh_get hk), ?_⟩
        · exact s3.1
        · exact grown_trans hgr (grown_trans s1.2 (grown_trans s2.2 s3.2))
      case measure => simp [intOf]; omega
    · go_wp2_with (first | ((with_reducible refine wp_region_up (by kernel_rfl) (by kernel_rfl) ?_); (repeat (go_big_quiet_step (fail))); refine wpQuiet_nil ?_; intro _ hw'; obtain ⟨nq, hw''⟩ := hw'; subst hw''))
      go_ret
      obtain rfl : k = n := by omega
      have hy : ys = hcs (mh k0 k) := flat_ext hcells_len _ (by rw [mh_len]; exact hown.1) (fun i hi j hj => hys i hi j hj (by rw [mh_len] at hi; exact hi))
      rw [hy] at hown
      exact ⟨ret_int (by omega), hown, hgr⟩
end Go.Proofs.Ytiagckbdofeecaa

/-
  DaysOut: of the program and of the reference; the days of each machine.
-/
import Derived.Test.YtiagckbdofeecaaHire4
import Derived.Test.YtiagckbdofeecaaInts
import Derived.StillTailTactics
namespace Go.Proofs.Ytiagckbdofeecaa
open Go.RowKit
def sumTo (l : List Hire) : Nat → Int → Int
  | 0, _ => 0
  | k + 1, m => sumTo l k m + if (hat l k).m = m then (hat l k).t - (hat l k).f else 0
def dL (l : List Hire) (k N : Nat) : List Int := (List.range N).map (fun (m : Nat) => sumTo l k m)
def dOutR (l : List Hire) (n : Int) : List Int × Int := if vHires l n = true then (dL l l.length n.toNat, 0) else ([], 1)
theorem dL_len (l : List Hire) (k N : Nat) : (dL l k N).length = N := by simp [dL]
theorem dL_get {l : List Hire} {k N i : Nat} (h : i < (dL l k N).length) : (dL l k N)[i] = sumTo l k i := by simp [dL]
theorem sumTo_bd {l : List Hire} (h : ∀ i, i < l.length → 0 ≤ (hat l i).m ∧ (hat l i).m ≤ 19 ∧ 0 ≤ (hat l i).f ∧ (hat l i).f < (hat l i).t ∧ (hat l i).t ≤ 3650) (k : Nat) (hk : k ≤ l.length) (m : Int) : 0 ≤ sumTo l k m ∧ sumTo l k m ≤ 3650 * k := by
  induction k with
  | zero => simp [sumTo]
  | succ k ih =>
    have := ih (by omega)
    have := h k (by omega)
    rw [sumTo]
    split <;> omega
theorem dL_zero (l : List Hire) (N : Nat) : (madeCells #[i64 0] (N * 1)).toList = ics (dL l 0 N) := by
  refine ics_ext ?_ fun i hi => ?_
  · simp [dL, madeCells]
  · rw [dL_get, sumTo]
    rw [dL_len] at hi
    simp [madeCells, hi, Nat.mod_one]
theorem dL_set {l : List Hire} {k N M : Nat} (hM : (hat l k).m = M) (hN : M < N) : (ics (dL l k N)).set M (i64 (sumTo l k M + ((hat l k).t - (hat l k).f))) = ics (dL l (k + 1) N) := by
  refine ics_ext (by rw [List.length_set, ics_len, dL_len, dL_len]) fun i hi => ?_
  rw [dL_get, sumTo]
  rw [dL_len] at hi
  by_cases hiM : i = M
  · subst hiM
    rw [List.getElem?_set_self (by rw [ics_len, dL_len]; exact hi), if_pos hM]
  · rw [List.getElem?_set_ne (by omega), ics_get (by rw [dL_len]; exact hi), dL_get, if_neg (by omega), Int.add_zero]
theorem vHires_nn {l : List Hire} {n : Int} (h : vHires l n = true) : 1 ≤ n ∧ n ≤ 20 := by
  simp only [vHires, Bool.and_eq_true] at h
  exact btw_true h.1.1
set_option maxRecDepth 10000 in
set_option maxHeartbeats 1000000 in
theorem daysOutI_any (A : Option Addr) (c : Nat) (l : List Hire) (n : Int) (w : World) (h : Rds w 3 A l.length (hcs l)) (hn : l.length ≤ 100000000) (hcap : l.length ≤ c) :
    Calls Try.prog 27 #[.slice A l.length c, i64 n] w fun e w' => ∃ A' c', e = .returned (.tuple #[.slice A' (dOutR l n).1.length c', i64 (dOutR l n).2]) ∧ w'.ownsRow w.heap.size 2 1 (.slice A' (dOutR l n).1.length c') (dOutR l n).1.length (ics (dOutR l n).1) ∧ UpOf w w' := by
  by_cases h1 : vHires l n = true
  · obtain ⟨n1, n2⟩ := vHires_nn h1
    obtain ⟨N, rfl⟩ : ∃ N : Nat, n = N := ⟨n.toNat, by omega⟩
    have hl60 := vHires_len60 h1
    have hone := Lib.hid (fun i (hi : i < l.length) => vHire_bd (vHires_one h1 hi).1)
    have hlt' := Lib.hid (fun i (hi : i < l.length) => (vHires_one h1 hi).2)
    have hR := Lib.hid (show dOutR l N = (dL l l.length N, 0) by rw [dOutR, if_pos h1]; rfl)
    have hi : (Try.prog.info? 2).map (fun i => (i.zero, i.size, i.bytes)) = some (some (i64 0), 1, 8) := by kernel_rfl
    obtain ⟨i0, hi, hz0, hz1, hz2⟩ := info_parts hi
    have hmk : ∀ u : World, (Instr.makeSlice 37 (i64 N) (i64 N)).run Try.prog u = .ok (.slice (some ⟨u.heap.size, 0, none⟩) N N) (u.alloc (.cells (madeCells #[i64 0] (N * 1)) 2)) := fun u => by
      have h := run_make (P := Try.prog) u 37 2 i0 _ Try.underlying37 hi hz0 .i64 .i64 N N (by omega) (Int.le_refl _) (by rw [hz2]; omega) (by omega)
      simpa [hz1, Value.cells] using h
    clear hi hz0 hz1 hz2
    go_enter Try.func27, Try.ntmps27
    go_wp2_with (first | (go_at_call 16; refine (ret_as (validHires_any _ _ _ _ _ h hn hcap) h1).mono ?_; rintro e w' ⟨rfl, g, rfl⟩) | ((with_reducible refine wp_region_up (by kernel_rfl) (by kernel_rfl) ?_); (repeat (go_big_quiet_step (first | (go_at_call 16; first | exact upq_tr (ret_as (validHires_any _ _ _ _ _ h hn hcap) h1) | exact upq (ret_as (validHires_any _ _ _ _ _ h hn hcap) h1))))); refine wpQuiet_nil ?_; intro _ hw'; obtain ⟨nq, hw''⟩ := hw'; subst hw''))
    go_loopw [17] (fun i wr => ∃ k : Nat, k ≤ l.length ∧ i = i64 k ∧ wr.ownsRow w.heap.size 2 1 (.slice (some ⟨(up w g).heap.size, 0, none⟩) N N) N (ics (dL l k N)) ∧ Below w.heap.size w wr) (fun i _ => l.length - (intOf i).toNat)
    case atStart => exact ⟨0, by omega, rfl, by rw [← dL_zero, Nat.mul_one]; exact World.ownsRow_lit (up w g) (madeCells #[i64 0] N) N g.below.size (by unfold maxLen; omega) (by rw [size_madeCells, Nat.mul_one]), (by repeat (first | exact Below.refl _ _ | refine bl_tr ?_ _ | refine bl_al ?_ _ | refine bl_dr ?_ | refine bl_up ?_ _ | refine Below.drew ?_ | refine bl_alloc ?_ _ | refine Below.setCell ?_ (by first | (simp; done) | (simp; omega)) _))⟩
    case round =>
      obtain ⟨k, hk, rfl, hown, hbel⟩ := hrel
      by_cases hlt : k < l.length
      · obtain ⟨b, off, rfl, hb, ha⟩ := hire_at' (h.below hbel) hlt
        obtain ⟨_, c0, c1, c2⟩ := ha k hlt
        obtain ⟨o1, o2, o3, o4, o5⟩ := hone.out k hlt
        have o6 := hlt'.out k hlt
        obtain ⟨M, hM⟩ : ∃ M : Nat, (hat l k).m = M := ⟨(hat l k).m.toNat, by omega⟩
        have hMN : M < N := by omega
        obtain ⟨s1, s2⟩ := sumTo_bd hone.out k (by omega) M
        have hwl := (own_block hown rfl).2.1
        have d0 := hown.cellAt M (by omega)
        rw [ics_get (by rw [dL_len]; exact hMN), dL_get] at d0
        have f0 := fun i => hown.frozenAt i
        rw [hM] at c0
        have hset := Lib.hid (dL_set hM hMN)
        clear h ha
        refine as_up fun g0 => ?_
        go_wp2_with fail
        go_still_tail 12, (by kernel_rfl)
        change wpList _ _ _ _ _ (World.drew _)
        rw [drew_up]
        go_wp2_with fail
        go_roundw
        case rel =>
          go_light
          have s := (own_up hown (Up.dr (g0.al (.cells #[i64 M, i64 (hat l k).f, i64 (hat l k).t] 47)))).stored M (i64 (sumTo l k M + ((hat l k).t - (hat l k).f)))
          rw [hset.out] at s
          exact ⟨k + 1, by omega, by go_num, s.1, ((hbel.trans ((Up.dr (g0.al (.cells #[i64 M, i64 (hat l k).f, i64 (hat l k).t] 47))).below.mono hbel.size)).setCell g.below.size _)⟩
        case measure => (simp [intOf]; try omega)
      · obtain rfl : k = l.length := by omega
        go_wp2_with (first | ((with_reducible refine wp_region_up (by kernel_rfl) (by kernel_rfl) ?_); (repeat (go_big_quiet_step (fail))); refine wpQuiet_nil ?_; intro _ hw'; obtain ⟨nq, hw''⟩ := hw'; subst hw''))
        go_ret2
        rw [hR.out]
        exact ⟨_, N, by rw [dL_len]; rfl, by rw [dL_len]; exact hown, UpOf.of hbel⟩
  · have h1' : vHires l n = false := by simpa using h1
    have hR := Lib.hid (show dOutR l n = ([], 1) by rw [dOutR, if_neg h1])
    clear h1
    go_enter Try.func27, Try.ntmps27
    go_wp2_with (first | (go_at_call 16; refine (ret_as (validHires_any _ _ _ _ _ h hn hcap) h1').mono ?_; rintro e w' ⟨rfl, g, rfl⟩) | ((with_reducible refine wp_region_up (by kernel_rfl) (by kernel_rfl) ?_); (repeat (go_big_quiet_step (first | (go_at_call 16; first | exact upq_tr (ret_as (validHires_any _ _ _ _ _ h hn hcap) h1') | exact upq (ret_as (validHires_any _ _ _ _ _ h hn hcap) h1'))))); refine wpQuiet_nil ?_; intro _ hw'; obtain ⟨nq, hw''⟩ := hw'; subst hw''))
    go_ret2
    rw [hR.out]
    exact ⟨none, 0, rfl, ⟨rfl, .inl ⟨rfl, rfl⟩⟩, UpOf.of (by repeat (first | exact Below.refl _ _ | refine bl_tr ?_ _ | refine bl_al ?_ _ | refine bl_dr ?_ | refine bl_up ?_ _ | refine Below.drew ?_ | refine bl_alloc ?_ _ | refine Below.setCell ?_ (by first | (simp; done) | (simp; omega)) _))⟩
set_option maxRecDepth 10000 in
set_option maxHeartbeats 1000000 in
theorem daysOutS_any (A : Option Addr) (c : Nat) (l : List Hire) (n : Int) (w : World) (h : Rds w 3 A l.length (hcs l)) (hn : l.length ≤ 100000000) :
    Calls Try.prog 26 #[.slice A l.length c, i64 n] w fun e w' => ∃ A' c', e = .returned (.tuple #[.slice A' (dOutR l n).1.length c', i64 (dOutR l n).2]) ∧ w'.ownsRow w.heap.size 2 1 (.slice A' (dOutR l n).1.length c') (dOutR l n).1.length (ics (dOutR l n).1) ∧ UpOf w w' := by
  by_cases h1 : vHires l n = true
  · obtain ⟨n1, n2⟩ := vHires_nn h1
    obtain ⟨N, rfl⟩ : ∃ N : Nat, n = N := ⟨n.toNat, by omega⟩
    have hl60 := vHires_len60 h1
    have hone := Lib.hid (fun i (hi : i < l.length) => vHire_bd (vHires_one h1 hi).1)
    have hlt' := Lib.hid (fun i (hi : i < l.length) => (vHires_one h1 hi).2)
    have hR := Lib.hid (show dOutR l N = (dL l l.length N, 0) by rw [dOutR, if_pos h1]; rfl)
    have hi : (Try.prog.info? 2).map (fun i => (i.zero, i.size, i.bytes)) = some (some (i64 0), 1, 8) := by kernel_rfl
    obtain ⟨i0, hi, hz0, hz1, hz2⟩ := info_parts hi
    have hmk : ∀ u : World, (Instr.makeSlice 37 (i64 N) (i64 N)).run Try.prog u = .ok (.slice (some ⟨u.heap.size, 0, none⟩) N N) (u.alloc (.cells (madeCells #[i64 0] (N * 1)) 2)) := fun u => by
      have h := run_make (P := Try.prog) u 37 2 i0 _ Try.underlying37 hi hz0 .i64 .i64 N N (by omega) (Int.le_refl _) (by rw [hz2]; omega) (by omega)
      simpa [hz1, Value.cells] using h
    clear hi hz0 hz1 hz2
    go_enter Try.func26, Try.ntmps26
    go_wp2_with (first | (go_at_call 49; refine (ret_as (l25Ok_any _ _ _ _ _ h hn) h1).mono ?_; rintro e w' ⟨rfl, g, rfl⟩) | ((with_reducible refine wp_region_up (by kernel_rfl) (by kernel_rfl) ?_); (repeat (go_big_quiet_step (first | (go_at_call 49; first | exact upq_tr (ret_as (l25Ok_any _ _ _ _ _ h hn) h1) | exact upq (ret_as (l25Ok_any _ _ _ _ _ h hn) h1))))); refine wpQuiet_nil ?_; intro _ hw'; obtain ⟨nq, hw''⟩ := hw'; subst hw''))
    go_loopw [7] (fun i wr => ∃ k : Nat, k ≤ l.length ∧ i = i64 k ∧ wr.ownsRow w.heap.size 2 1 (.slice (some ⟨(up w g).heap.size, 0, none⟩) N N) N (ics (dL l k N)) ∧ Below w.heap.size w wr) (fun i _ => l.length - (intOf i).toNat)
    case atStart => exact ⟨0, by omega, rfl, by rw [← dL_zero, Nat.mul_one]; exact World.ownsRow_lit (up w g) (madeCells #[i64 0] N) N g.below.size (by unfold maxLen; omega) (by rw [size_madeCells, Nat.mul_one]), (by repeat (first | exact Below.refl _ _ | refine bl_tr ?_ _ | refine bl_al ?_ _ | refine bl_dr ?_ | refine bl_up ?_ _ | refine Below.drew ?_ | refine bl_alloc ?_ _ | refine Below.setCell ?_ (by first | (simp; done) | (simp; omega)) _))⟩
    case round =>
      obtain ⟨k, hk, rfl, hown, hbel⟩ := hrel
      by_cases hlt : k < l.length
      · obtain ⟨b, off, rfl, hb, ha⟩ := hire_at' (h.below hbel) hlt
        obtain ⟨_, c0, c1, c2⟩ := ha k hlt
        obtain ⟨o1, o2, o3, o4, o5⟩ := hone.out k hlt
        have o6 := hlt'.out k hlt
        obtain ⟨M, hM⟩ : ∃ M : Nat, (hat l k).m = M := ⟨(hat l k).m.toNat, by omega⟩
        have hMN : M < N := by omega
        obtain ⟨s1, s2⟩ := sumTo_bd hone.out k (by omega) M
        have hwl := (own_block hown rfl).2.1
        have d0 := hown.cellAt M (by omega)
        rw [ics_get (by rw [dL_len]; exact hMN), dL_get] at d0
        have f0 := fun i => hown.frozenAt i
        rw [hM] at c0
        have hset := Lib.hid (dL_set hM hMN)
        clear h ha
        refine as_up fun g0 => ?_
        go_wp2_with fail
        go_still_tail 21, (by kernel_rfl)
        change wpList _ _ _ _ _ (World.drew _)
        rw [drew_up]
        go_wp2_with fail
        go_roundw
        case rel =>
          go_light
          have s := (own_up hown (Up.dr g0)).stored M (i64 (sumTo l k M + ((hat l k).t - (hat l k).f)))
          rw [hset.out] at s
          exact ⟨k + 1, by omega, by go_num, s.1, ((hbel.trans ((Up.dr g0).below.mono hbel.size)).setCell g.below.size _)⟩
        case measure => (simp [intOf]; try omega)
      · obtain rfl : k = l.length := by omega
        go_wp2_with (first | ((with_reducible refine wp_region_up (by kernel_rfl) (by kernel_rfl) ?_); (repeat (go_big_quiet_step (fail))); refine wpQuiet_nil ?_; intro _ hw'; obtain ⟨nq, hw''⟩ := hw'; subst hw''))
        go_ret2
        rw [hR.out]
        exact ⟨_, N, by rw [dL_len]; rfl, by rw [dL_len]; exact hown, UpOf.of hbel⟩
  · have h1' : vHires l n = false := by simpa using h1
    have hR := Lib.hid (show dOutR l n = ([], 1) by rw [dOutR, if_neg h1])
    clear h1
    go_enter Try.func26, Try.ntmps26
    go_wp2_with (first | (go_at_call 49; refine (ret_as (l25Ok_any _ _ _ _ _ h hn) h1').mono ?_; rintro e w' ⟨rfl, g, rfl⟩) | ((with_reducible refine wp_region_up (by kernel_rfl) (by kernel_rfl) ?_); (repeat (go_big_quiet_step (first | (go_at_call 49; first | exact upq_tr (ret_as (l25Ok_any _ _ _ _ _ h hn) h1') | exact upq (ret_as (l25Ok_any _ _ _ _ _ h hn) h1'))))); refine wpQuiet_nil ?_; intro _ hw'; obtain ⟨nq, hw''⟩ := hw'; subst hw''))
    go_ret2
    rw [hR.out]
    exact ⟨none, 0, rfl, ⟨rfl, .inl ⟨rfl, rfl⟩⟩, UpOf.of (by repeat (first | exact Below.refl _ _ | refine bl_tr ?_ _ | refine bl_al ?_ _ | refine bl_dr ?_ | refine bl_up ?_ _ | refine Below.drew ?_ | refine bl_alloc ?_ _ | refine Below.setCell ?_ (by first | (simp; done) | (simp; omega)) _))⟩
end Go.Proofs.Ytiagckbdofeecaa

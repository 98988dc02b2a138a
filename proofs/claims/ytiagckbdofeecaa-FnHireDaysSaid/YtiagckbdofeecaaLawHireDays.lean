/-
  The law FnHireDays: its walk. No condition.
-/
import Derived.Test.YtiagckbdofeecaaHireDaysP
import Derived.Test.YtiagckbdofeecaaHirePrice
import Derived.Test.YtiagckbdofeecaaHiresAsk
import Derived.Test.YtiagckbdofeecaaF6
namespace Go.Proofs.Ytiagckbdofeecaa
open Go.RowKit
def sumQ (l : List Int) : Nat → Int
  | 0 => 0
  | k + 1 => sumQ l k + l.getD k 0
theorem sumQ_bd {l : List Int} (h : ∀ x ∈ l, 0 ≤ x ∧ x ≤ 1000000) : ∀ k, k ≤ l.length → 0 ≤ sumQ l k ∧ sumQ l k ≤ 1000000 * (k : Int)
  | 0, _ => by simp [sumQ]
  | k + 1, hk => by
    have := sumQ_bd h k (by omega)
    have h2 := h l[k] (List.getElem_mem _)
    have e : l.getD k 0 = l[k] := by simp [List.getD, show k < l.length by omega]
    rw [sumQ, e]; omega
set_option maxRecDepth 10000 in
theorem f6sum_any (A : Option Addr) (c : Nat) (l : List Int) (w : World) (h : Rds w 1 A l.length (ics l)) (hn : l.length ≤ 1000) (hb : ∀ x ∈ l, 0 ≤ x ∧ x ≤ 1000000) :
    Calls Try.prog 48 #[.slice A l.length c] w fun e w' => e = .returned (i64 (sumQ l l.length)) ∧ UpOf w w' := by
  have HR := Lib.hid h
  have HB := Lib.hid hb
  clear h hb
  go_enter Try.func48, Try.ntmps48
  go_wp2_with (first | ((with_reducible refine wp_region_up (by kernel_rfl) (by kernel_rfl) ?_); (repeat (go_big_quiet_step (fail))); refine wpQuiet_nil ?_; intro _ hw'; obtain ⟨nq, hw''⟩ := hw'; subst hw''))
  go_loopw [3, 4] (fun s i wr => ∃ (k : Nat), k ≤ l.length ∧ i = i64 k ∧ s = i64 (sumQ l k) ∧ ∃ g : Up w, wr = up w g) (fun _ i _ => l.length - (intOf i).toNat)
  case atStart => exact ⟨0, by omega, rfl, rfl, ex_up (by repeat (first | exact Below.refl _ _ | refine bl_tr ?_ _ | refine bl_al ?_ _ | refine bl_dr ?_ | refine bl_up ?_ _ | refine Below.drew ?_ | refine bl_alloc ?_ _ | refine Below.setCell ?_ (by first | (simp; done) | (simp; omega)) _))⟩
  case round =>
    obtain ⟨k, hk, rfl, rfl, g, rfl⟩ := hrel
    by_cases hlt : k < l.length
    · obtain ⟨b, off, rfl, hbb, hcc⟩ := HR.out.at (by omega)
      have c0 := hcc k _ (ics_get hlt)
      have e : l.getD k 0 = l[k] := by simp [List.getD, hlt]
      have hw : IntKind.i64.wrap (sumQ l k + l[k]) = sumQ l (k + 1) := by
        have h1 := sumQ_bd HB.out k hk
        have h2 := HB.out l[k] (List.getElem_mem _)
        rw [IntKind.wrap_i64, sumQ, e]; omega
      clear hcc e
      go_wp2_with (first | ((with_reducible refine wp_region_up (by kernel_rfl) (by kernel_rfl) ?_); (repeat (go_big_quiet_step (fail))); refine wpQuiet_nil ?_; intro _ hw'; obtain ⟨nq, hw''⟩ := hw'; subst hw''))
      go_roundw
      case rel => exact ⟨k + 1, by omega, by go_num, rfl, ex_up (by repeat (first | exact Below.refl _ _ | refine bl_tr ?_ _ | refine bl_al ?_ _ | refine bl_dr ?_ | refine bl_up ?_ _ | refine Below.drew ?_ | refine bl_alloc ?_ _ | refine Below.setCell ?_ (by first | (simp; done) | (simp; omega)) _))⟩
      case measure => (simp [intOf]; try omega)
    · obtain rfl : k = l.length := by omega
      go_wp2_with (first | ((with_reducible refine wp_region_up (by kernel_rfl) (by kernel_rfl) ?_); (repeat (go_big_quiet_step (fail))); refine wpQuiet_nil ?_; intro _ hw'; obtain ⟨nq, hw''⟩ := hw'; subst hw''))
      go_ret
      exact ⟨rfl, UpOf.of (by repeat (first | exact Below.refl _ _ | refine bl_tr ?_ _ | refine bl_al ?_ _ | refine bl_dr ?_ | refine bl_up ?_ _ | refine Below.drew ?_ | refine bl_alloc ?_ _ | refine Below.setCell ?_ (by first | (simp; done) | (simp; omega)) _))⟩
theorem sumQ_dL (l : List Hire) (k N : Nat) : ∀ M, M ≤ N → sumQ (dL l k N) M = tot (fun m => sumTo l k (m : Int)) M
  | 0, _ => rfl
  | M + 1, h => by
    have e : (dL l k N).getD M 0 = sumTo l k M := by
      have : M < (dL l k N).length := by rw [dL_len]; omega
      simp [List.getD, this, dL_get]
    rw [sumQ, tot, sumQ_dL l k N M (by omega), e]
theorem fewIK {l : List Hire} {n : Int} {r0 r1 : Int} (hL : Hid (fewR l n = (r0, r1))) (A : Option Addr) (c : Nat) (w : World) (h : Rds w 3 A l.length (hcs l)) (hn : l.length ≤ 100000000) (hcap : l.length ≤ c) :
    Calls Try.prog 21 #[.slice A l.length c, i64 n] w fun e w' => e = .returned (.tuple #[i64 r0, i64 r1]) ∧ UpOf w w' := by
  have := fewI_any A c l n w h hn hcap
  rw [hL.out] at this
  exact this
theorem fewSK {l : List Hire} {n : Int} {r0 r1 : Int} (hL : Hid (fewR l n = (r0, r1))) (A : Option Addr) (c : Nat) (w : World) (h : Rds w 3 A l.length (hcs l)) (hn : l.length ≤ 100000000)  :
    Calls Try.prog 20 #[.slice A l.length c, i64 n] w fun e w' => e = .returned (.tuple #[i64 r0, i64 r1]) ∧ UpOf w w' := by
  have := fewS_any A c l n w h hn
  rw [hL.out] at this
  exact this
theorem outIK {l : List Hire} {n d : Int} {r0 r1 : Int} (hL : Hid (outR l n d = (r0, r1))) (A : Option Addr) (c : Nat) (w : World) (h : Rds w 3 A l.length (hcs l)) (hn : l.length ≤ 100000000) (hcap : l.length ≤ c) :
    Calls Try.prog 19 #[.slice A l.length c, i64 n, i64 d] w fun e w' => e = .returned (.tuple #[i64 r0, i64 r1]) ∧ UpOf w w' := by
  have := outOnI_any A c l n d w h hn hcap
  rw [hL.out] at this
  exact this
theorem outSK {l : List Hire} {n d : Int} {r0 r1 : Int} (hL : Hid (outR l n d = (r0, r1))) (A : Option Addr) (c : Nat) (w : World) (h : Rds w 3 A l.length (hcs l)) (hn : l.length ≤ 100000000)  :
    Calls Try.prog 18 #[.slice A l.length c, i64 n, i64 d] w fun e w' => e = .returned (.tuple #[i64 r0, i64 r1]) ∧ UpOf w w' := by
  have := outOnS_any A c l n d w h hn
  rw [hL.out] at this
  exact this
theorem freeIK {l : List Hire} {n f t : Int} {L : List Int} {cd : Int} (hL : Hid (fmR l n f t = (L, cd))) (M : Nat) (hM : Hid (L.length = M)) (A : Option Addr) (c : Nat) (w : World) (h : Rds w 3 A l.length (hcs l)) (hn : l.length ≤ 100000000) (hcap : l.length ≤ c) :
    Calls Try.prog 37 #[.slice A l.length c, i64 n, i64 f, i64 t] w fun e w' => ∃ A' c', e = .returned (.tuple #[.slice A' M c', i64 cd]) ∧ w'.ownsRow w.heap.size 2 1 (.slice A' M c') M (ics L) ∧ UpOf w w' := by
  have := freeMachI_any A c l n f t w h hn hcap
  rw [hL.out] at this
  rw [← hM.out]
  exact this
theorem hireIK {n d f g : Int} {r0 r1 : Int} (hL : Hid (hpR n d f g = (r0, r1))) (w : World) :
    Calls Try.prog 45 #[i64 n, i64 d, i64 f, i64 g] w fun e w' => e = .returned (.tuple #[i64 r0, i64 r1]) ∧ UpOf w w' := by
  have := hireI_any n d f g w
  rw [hL.out] at this
  exact this
theorem hireSK {n d f g : Int} {r0 r1 : Int} (hL : Hid (hpR n d f g = (r0, r1))) (w : World) :
    Calls Try.prog 46 #[i64 n, i64 d, i64 f, i64 g] w fun e w' => e = .returned (.tuple #[i64 r0, i64 r1]) ∧ UpOf w w' := by
  have := hireS_any n d f g w
  rw [hL.out] at this
  exact this
theorem dOut_len {l : List Hire} {n : Int} {D : List Int} {bad : Int} (h : dOutR l n = (D, bad)) : D.length ≤ 20 := by
  unfold dOutR at h
  split at h
  · rename_i hv
    injection h with h _
    have := vHires_nn hv
    rw [← h, dL_len]; omega
  · injection h with h _
    rw [← h]; simp
/-- what the law needs of a price that is told -/
theorem hp_facts {n d f g r0 r1 : Int} (h : hpR n d f g = (r0, r1)) (h1 : r1 = 0) :
    (IntKind.i64.wrap (n * d) = n * d ∧ ¬ n * d < r0) ∧ (IntKind.i64.wrap (n + 6) = n + 6 ∧ (n + 6).tdiv 7 = (n + 6) / 7 ∧ IntKind.i64.wrap ((n + 6) / 7) = (n + 6) / 7 ∧ IntKind.i64.wrap ((n + 6) / 7 * f) = (n + 6) / 7 * f ∧ ¬ (n + 6) / 7 * f < r0) ∧
    (IntKind.i64.wrap (n + 29) = n + 29 ∧ (n + 29).tdiv 30 = (n + 29) / 30 ∧ IntKind.i64.wrap ((n + 29) / 30) = (n + 29) / 30 ∧ IntKind.i64.wrap ((n + 29) / 30 * g) = (n + 29) / 30 * g ∧ ¬ (n + 29) / 30 * g < r0) ∧ ¬ r0 < 0 := by
  have hok : hpOk n d f g = true := by
    cases hc : hpOk n d f g with
    | true => rfl
    | false => rw [hpR_no hc] at h; injection h with _ h; omega
  obtain ⟨a, b, c, e⟩ := hpR_law hok
  rw [h] at a b c e
  obtain ⟨h2, h3, h4, h5⟩ := hpOk_inv hok
  have m1 : n * d ≤ 3650 * 100000 := Int.mul_le_mul h2.2 h3.2 h3.1 (by omega)
  have m2 : (n + 6) / 7 * f ≤ 522 * 1000000 := Int.mul_le_mul (by omega) h4.2 h4.1 (by omega)
  have m3 : (n + 29) / 30 * g ≤ 122 * 10000000 := Int.mul_le_mul (by omega) h5.2 h5.1 (by omega)
  have t1 : (n + 6).tdiv 7 = (n + 6) / 7 := Int.tdiv_eq_ediv_of_nonneg (by omega)
  have t2 : (n + 29).tdiv 30 = (n + 29) / 30 := Int.tdiv_eq_ediv_of_nonneg (by omega)
  dsimp only at a b c e
  simp only [IntKind.wrap_i64]
  refine ⟨⟨by omega, by omega⟩, ⟨by omega, t1, by omega, by omega, by omega⟩, ⟨by omega, t2, by omega, by omega, by omega⟩, by omega⟩
theorem tot_bd (l : List Hire) : ∀ k, 0 ≤ tot (fun d => (outN l (d : Int) : Int)) k ∧ tot (fun d => (outN l (d : Int) : Int)) k ≤ (l.length : Int) * (k : Int)
  | 0 => by simp [tot]
  | k + 1 => by
    have h1 := tot_bd l k
    have h2 := cnt_le (isOut l (k : Int)) l.length
    have e : (l.length : Int) * ((k + 1 : Nat) : Int) = (l.length : Int) * (k : Int) + l.length := by rw [Int.natCast_succ, Int.mul_add]; omega
    rw [tot, e]
    unfold outN at *
    omega
set_option maxRecDepth 10000 in
set_option maxHeartbeats 12000000 in
theorem law_hireDays (A : Option Addr) (n c : Nat) (zs : List Int) (w : World) (hz : ∀ z ∈ zs, 0 ≤ z ∧ z ≤ 255) (hr : Rds w 1 A n (bytes zs)) (hn : n ≤ 9223372036854775807) :
    Calls Try.prog 12 #[.slice A n c] w fun e w' => e = .returned (.bool true) ∧ UpOf w w' := by
  have HR := Lib.hid hr
  have HZ := Lib.hid hz
  clear hr hz
  by_cases hbig : (4096 : Int) < n
  · have hd : decide ((4096 : Int) < n) = true := decide_eq_true hbig
    go_enter Try.func12, Try.ntmps12
    go_wp2_with fail
    refine (ret_as (f6big_any A n c _ hn) hd).mono ?_
    rintro e w' ⟨rfl, g0, rfl⟩
    go_wp2_with fail
    go_ret
    exact ⟨rfl, UpOf.of (by repeat (first | exact Below.refl _ _ | refine bl_tr ?_ _ | refine bl_al ?_ _ | refine bl_dr ?_ | refine bl_up ?_ _ | refine Below.drew ?_ | refine bl_alloc ?_ _ | refine Below.setCell ?_ (by first | (simp; done) | (simp; omega)) _))⟩
  have hd : decide ((4096 : Int) < n) = false := decide_eq_false hbig
  have hn4 : n ≤ 4096 := by omega
  go_enter Try.func12, Try.ntmps12
  go_wp2_with fail
  refine (ret_as (f6big_any A n c _ hn) hd).mono ?_
  rintro e w' ⟨rfl, g0, rfl⟩
  clear hd
  go_wp2_with fail
  refine (drawDaysOut_any A n c zs _ HZ.out (HR.out.below (by repeat (first | exact Below.refl _ _ | refine bl_tr ?_ _ | refine bl_al ?_ _ | refine bl_dr ?_ | refine bl_up ?_ _ | refine Below.drew ?_ | refine bl_alloc ?_ _ | refine Below.setCell ?_ (by first | (simp; done) | (simp; omega)) _))) hn4).mono ?_
  rintro e w' ⟨l, A1, c1, N, rfl, hr1, hc1, hl1, g1, rfl⟩
  have R1 := Lib.hid hr1
  obtain ⟨D, bad, hD⟩ : ∃ D bad, dOutR l N = (D, bad) := ⟨_, _, rfl⟩
  have hDl := dOut_len hD
  have HD := Lib.hid hD
  obtain ⟨f0, f1, hF⟩ : ∃ f0 f1, fewR l N = (f0, f1) := ⟨_, _, rfl⟩
  have HF := Lib.hid hF
  clear hr1 hD hF
  go_wp2_with fail
  refine (daysOutI' HD.out A1 c1 _ (R1.out.below (by repeat (first | exact Below.refl _ _ | refine bl_tr ?_ _ | refine bl_al ?_ _ | refine bl_dr ?_ | refine bl_up ?_ _ | refine Below.drew ?_ | refine bl_alloc ?_ _ | refine Below.setCell ?_ (by first | (simp; done) | (simp; omega)) _))) (by omega) hc1).mono ?_
  rintro e w' ⟨A2, c2, rfl, o2, g2, rfl⟩
  have D2 := Lib.hid (Rds.of_own o2)
  clear o2
  go_wp2_with fail
  refine (daysOutS' HD.out A1 c1 _ (R1.out.below (by repeat (first | exact Below.refl _ _ | refine bl_tr ?_ _ | refine bl_al ?_ _ | refine bl_dr ?_ | refine bl_up ?_ _ | refine Below.drew ?_ | refine bl_alloc ?_ _ | refine Below.setCell ?_ (by first | (simp; done) | (simp; omega)) _))) (by omega)).mono ?_
  rintro e w' ⟨A3, c3, rfl, o3, g3, rfl⟩
  have D3 := Lib.hid (Rds.of_own o3)
  clear o3
  go_wp2_with fail
  refine (fewIK HF A1 c1 _ (R1.out.below (by repeat (first | exact Below.refl _ _ | refine bl_tr ?_ _ | refine bl_al ?_ _ | refine bl_dr ?_ | refine bl_up ?_ _ | refine Below.drew ?_ | refine bl_alloc ?_ _ | refine Below.setCell ?_ (by first | (simp; done) | (simp; omega)) _))) (by omega) hc1).mono ?_
  rintro e w' ⟨rfl, g4, rfl⟩
  go_wp2_with fail
  refine (fewSK HF A1 c1 _ (R1.out.below (by repeat (first | exact Below.refl _ _ | refine bl_tr ?_ _ | refine bl_al ?_ _ | refine bl_dr ?_ | refine bl_up ?_ _ | refine Below.drew ?_ | refine bl_alloc ?_ _ | refine Below.setCell ?_ (by first | (simp; done) | (simp; omega)) _))) (by omega)).mono ?_
  rintro e w' ⟨rfl, g5, rfl⟩
  go_wp2_with fail
  refine (drawNextFree_any A n c zs _ HZ.out (HR.out.below (by repeat (first | exact Below.refl _ _ | refine bl_tr ?_ _ | refine bl_al ?_ _ | refine bl_dr ?_ | refine bl_up ?_ _ | refine Below.drew ?_ | refine bl_alloc ?_ _ | refine Below.setCell ?_ (by first | (simp; done) | (simp; omega)) _))) hn4).mono ?_
  rintro e w' ⟨l2, A4, c4, N2, d2, t2, rfl, hr2, hc2, hl2, g6, rfl⟩
  have R2 := Lib.hid hr2
  clear hr2
  go_wp2_with fail
  refine (nextFreeI_any A4 c4 l2 N2 d2 t2 _ (R2.out.below (by repeat (first | exact Below.refl _ _ | refine bl_tr ?_ _ | refine bl_al ?_ _ | refine bl_dr ?_ | refine bl_up ?_ _ | refine Below.drew ?_ | refine bl_alloc ?_ _ | refine Below.setCell ?_ (by first | (simp; done) | (simp; omega)) _))) (by omega) hc2).mono ?_
  rintro e w' ⟨r, rfl, hrr, g7, rfl⟩
  have NF := Lib.hid hrr
  clear hrr
  obtain ⟨n0, n1, n2⟩ := r
  dsimp only at NF ⊢
  go_wp2_with fail
  refine (nextFreeS_any A4 c4 l2 N2 d2 t2 _ (R2.out.below (by repeat (first | exact Below.refl _ _ | refine bl_tr ?_ _ | refine bl_al ?_ _ | refine bl_dr ?_ | refine bl_up ?_ _ | refine Below.drew ?_ | refine bl_alloc ?_ _ | refine Below.setCell ?_ (by first | (simp; done) | (simp; omega)) _))) (by omega)).mono ?_
  rintro e w' ⟨r', rfl, hr', g8, rfl⟩
  obtain rfl := nfr_one NF.out hr'
  clear hr'
  dsimp only
  go_wp2_with fail
  refine (drawOutOn_any A n c zs _ HZ.out (HR.out.below (by repeat (first | exact Below.refl _ _ | refine bl_tr ?_ _ | refine bl_al ?_ _ | refine bl_dr ?_ | refine bl_up ?_ _ | refine Below.drew ?_ | refine bl_alloc ?_ _ | refine Below.setCell ?_ (by first | (simp; done) | (simp; omega)) _))) hn4).mono ?_
  rintro e w' ⟨l3, A5, c5, N3, d3, rfl, hr3, hc3, hl3, g9, rfl⟩
  have R3 := Lib.hid hr3
  obtain ⟨o0, o1, hO⟩ : ∃ o0 o1, outR l3 N3 d3 = (o0, o1) := ⟨_, _, rfl⟩
  have HO := Lib.hid hO
  clear hr3 hO
  go_wp2_with fail
  refine (outIK HO A5 c5 _ (R3.out.below (by repeat (first | exact Below.refl _ _ | refine bl_tr ?_ _ | refine bl_al ?_ _ | refine bl_dr ?_ | refine bl_up ?_ _ | refine Below.drew ?_ | refine bl_alloc ?_ _ | refine Below.setCell ?_ (by first | (simp; done) | (simp; omega)) _))) (by omega) hc3).mono ?_
  rintro e w' ⟨rfl, g10, rfl⟩
  go_wp2_with fail
  refine (outSK HO A5 c5 _ (R3.out.below (by repeat (first | exact Below.refl _ _ | refine bl_tr ?_ _ | refine bl_al ?_ _ | refine bl_dr ?_ | refine bl_up ?_ _ | refine Below.drew ?_ | refine bl_alloc ?_ _ | refine Below.setCell ?_ (by first | (simp; done) | (simp; omega)) _))) (by omega)).mono ?_
  rintro e w' ⟨rfl, g11, rfl⟩
  go_wp2_with fail
  refine (drawHirePrice_any A n c zs _ HZ.out (HR.out.below (by repeat (first | exact Below.refl _ _ | refine bl_tr ?_ _ | refine bl_al ?_ _ | refine bl_dr ?_ | refine bl_up ?_ _ | refine Below.drew ?_ | refine bl_alloc ?_ _ | refine Below.setCell ?_ (by first | (simp; done) | (simp; omega)) _))) hn4).mono ?_
  rintro e w' ⟨p1, p2, p3, p4, rfl, g12, rfl⟩
  obtain ⟨h0, h1, hH⟩ : ∃ h0 h1, hpR p1 p2 p3 p4 = (h0, h1) := ⟨_, _, rfl⟩
  have HH := Lib.hid hH
  clear hH R3 HO
  go_wp2_with fail
  refine (hireIK HH _).mono ?_
  rintro e w' ⟨rfl, g13, rfl⟩
  go_wp2_with fail
  refine (hireSK HH _).mono ?_
  rintro e w' ⟨rfl, g14, rfl⟩
  go_upto_region 17 with (fail)
  refine wpg (R := fun V => Hid (Rds V 3 A1 l.length (hcs l)) ∧ Hid (Rds V 1 A2 D.length (ics D)) ∧ Hid (Rds V 1 A3 D.length (ics D)) ∧ Hid (Rds V 3 A4 l2.length (hcs l2)) ∧ Hid (UpOf w V)) ⟨Lib.hid (R1.out.below (by repeat (first | exact Below.refl _ _ | refine bl_tr ?_ _ | refine bl_al ?_ _ | refine bl_dr ?_ | refine bl_up ?_ _ | refine Below.drew ?_ | refine bl_alloc ?_ _ | refine Below.setCell ?_ (by first | (simp; done) | (simp; omega)) _))), Lib.hid (D2.out.below (by repeat (first | exact Below.refl _ _ | refine bl_tr ?_ _ | refine bl_al ?_ _ | refine bl_dr ?_ | refine bl_up ?_ _ | refine Below.drew ?_ | refine bl_alloc ?_ _ | refine Below.setCell ?_ (by first | (simp; done) | (simp; omega)) _))), Lib.hid (D3.out.below (by repeat (first | exact Below.refl _ _ | refine bl_tr ?_ _ | refine bl_al ?_ _ | refine bl_dr ?_ | refine bl_up ?_ _ | refine Below.drew ?_ | refine bl_alloc ?_ _ | refine Below.setCell ?_ (by first | (simp; done) | (simp; omega)) _))), Lib.hid (R2.out.below (by repeat (first | exact Below.refl _ _ | refine bl_tr ?_ _ | refine bl_al ?_ _ | refine bl_dr ?_ | refine bl_up ?_ _ | refine Below.drew ?_ | refine bl_alloc ?_ _ | refine Below.setCell ?_ (by first | (simp; done) | (simp; omega)) _))), Lib.hid UpOf.of (by repeat (first | exact Below.refl _ _ | refine bl_tr ?_ _ | refine bl_al ?_ _ | refine bl_dr ?_ | refine bl_up ?_ _ | refine Below.drew ?_ | refine bl_alloc ?_ _ | refine Below.setCell ?_ (by first | (simp; done) | (simp; omega)) _))⟩ (fun V z => ?_)
  clear R1 D2 D3 R2 HR
  obtain ⟨R1, D2, D3, R2, HU⟩ := z
  have q1 : (bad != bad) = false := by simp
  have q2 : (f0 != f0) = false := by simp
  have q3 : (f1 != f1) = false := by simp
  have q4 : (n0 != n0) = false := by simp
  have q5 : (n1 != n1) = false := by simp
  have q6 : (n2 != n2) = false := by simp
  have q7 : (o0 != o0) = false := by simp
  have q8 : (o1 != o1) = false := by simp
  have q9 : (h0 != h0) = false := by simp
  have q10 : (h1 != h1) = false := by simp
  go_wp2_with fail
  refine (f6ints_same A2 A3 c2 c3 D _ (D2.out.below (by repeat (first | exact Below.refl _ _ | refine bl_tr ?_ _ | refine bl_al ?_ _ | refine bl_dr ?_ | refine bl_up ?_ _ | refine Below.drew ?_ | refine bl_alloc ?_ _ | refine Below.setCell ?_ (by first | (simp; done) | (simp; omega)) _))) (D3.out.below (by repeat (first | exact Below.refl _ _ | refine bl_tr ?_ _ | refine bl_al ?_ _ | refine bl_dr ?_ | refine bl_up ?_ _ | refine Below.drew ?_ | refine bl_alloc ?_ _ | refine Below.setCell ?_ (by first | (simp; done) | (simp; omega)) _))) (by omega)).mono ?_
  rintro e w' ⟨rfl, g1, rfl⟩
  go_upto_region 19 with (fail)
  clear q1 q2 q3 q4 q5 q6 q7 q8 q9 q10
  go_cut [232] (fun t U => t = .bool false ∧ ∃ g : Up V, U = up V g)
  case first =>
   as_aux_lemma =>
    by_cases hp0 : h1 = 0
    · obtain ⟨⟨a1, a2⟩, ⟨b1, b2, b5, b3, b4⟩, ⟨e1, e2, e6, e3, e4⟩, e5⟩ := hp_facts HH.out hp0
      subst hp0
      go_wp2_with fail
      go_meet
      exact ⟨rfl, ex_up (by repeat (first | exact Below.refl _ _ | refine bl_tr ?_ _ | refine bl_al ?_ _ | refine bl_dr ?_ | refine bl_up ?_ _ | refine Below.drew ?_ | refine bl_alloc ?_ _ | refine Below.setCell ?_ (by first | (simp; done) | (simp; omega)) _))⟩
    · have hp1 : (h1 == 0) = false := by rw [beq_eq_false_iff_ne]; exact hp0
      go_wp2_with fail
      go_meet
      exact ⟨rfl, ex_up (by repeat (first | exact Below.refl _ _ | refine bl_tr ?_ _ | refine bl_al ?_ _ | refine bl_dr ?_ | refine bl_up ?_ _ | refine Below.drew ?_ | refine bl_alloc ?_ _ | refine Below.setCell ?_ (by first | (simp; done) | (simp; omega)) _))⟩
  case rest =>
    obtain ⟨rfl, g2, rfl⟩ := hcut
    go_upto_if 234 with (fail)
    go_cut [] (fun U => ∃ g : Up V, U = up V g)
    case first =>
     as_aux_lemma =>
      by_cases hn2 : n2 = 0
      · obtain ⟨⟨a1, a2, a3, a4, a5⟩, ⟨L, hL⟩, hM⟩ := next_free NF.out hn2
        dsimp only at a1 a2 a3 a4 a5 hL hM
        have hwa : IntKind.i64.wrap (n0 + t2) = n0 + t2 := by rw [IntKind.wrap_i64]; omega
        have HLL := Lib.hid hL
        obtain ⟨M, hMl⟩ : ∃ M, (n1 :: L).length = M := ⟨_, rfl⟩
        have hl1 : 0 < M := by rw [← hMl]; simp
        have HLM := Lib.hid hMl
        clear hMl
        have HM := Lib.hid hM
        clear hL hM
        subst hn2
        go_wp2_with fail
        refine (freeIK HLL M HLM A4 c4 _ (R2.out.below (by repeat (first | exact Below.refl _ _ | refine bl_tr ?_ _ | refine bl_al ?_ _ | refine bl_dr ?_ | refine bl_up ?_ _ | refine Below.drew ?_ | refine bl_alloc ?_ _ | refine Below.setCell ?_ (by first | (simp; done) | (simp; omega)) _))) (by omega) hc2).mono ?_
        rintro e w' ⟨A6, c6, rfl, o6, g3, rfl⟩
        obtain ⟨b6, off6, rfl, hb6, hc6⟩ := (Rds.of_own o6).at (by omega)
        have H6 := Lib.hid (And.intro hb6 (show (up (up V g2) g3).cell? ⟨b6, off6, none⟩ = some (i64 n1) from hc6 0 _ rfl))
        clear o6 hc6 hb6
        go_upto_region 23 with (fail)
        refine wpg (R := fun U => (b6 < U.heap.size ∧ U.cell? ⟨b6, off6, none⟩ = some (i64 n1)) ∧ Hid (Rds U 3 A4 l2.length (hcs l2)) ∧ Hid (Below V.heap.size V U)) ⟨H6.out, Lib.hid (R2.out.below (by repeat (first | exact Below.refl _ _ | refine bl_tr ?_ _ | refine bl_al ?_ _ | refine bl_dr ?_ | refine bl_up ?_ _ | refine Below.drew ?_ | refine bl_alloc ?_ _ | refine Below.setCell ?_ (by first | (simp; done) | (simp; omega)) _))), Lib.hid (by repeat (first | exact Below.refl _ _ | refine bl_tr ?_ _ | refine bl_al ?_ _ | refine bl_dr ?_ | refine bl_up ?_ _ | refine Below.drew ?_ | refine bl_alloc ?_ _ | refine Below.setCell ?_ (by first | (simp; done) | (simp; omega)) _))⟩ (fun U z => ?_)
        obtain ⟨⟨hb6, d0⟩, R2U, BU⟩ := z
        clear H6
        have m1 : ((M : Int) == 0) = false := by rw [beq_eq_false_iff_ne]; omega
        have m2 : (0 : Int) < (M : Int) := by omega
        have m3 : (n1 != n1) = false := by simp
        have m4 : ¬ n0 < d2 := by omega
        by_cases hdn : d2 < n0
        · have hw1 : IntKind.i64.wrap (n0 - 1) = n0 - 1 := by rw [IntKind.wrap_i64]; omega
          have hw2 : IntKind.i64.wrap (n0 - 1 + t2) = n0 - 1 + t2 := by rw [IntKind.wrap_i64]; omega
          go_wp2_with fail
          refine (freeIK (Lib.hid (HM.out hdn)) 0 (Lib.hid rfl) A4 c4 _ (R2U.out.below (by repeat (first | exact Below.refl _ _ | refine bl_tr ?_ _ | refine bl_al ?_ _ | refine bl_dr ?_ | refine bl_up ?_ _ | refine Below.drew ?_ | refine bl_alloc ?_ _ | refine Below.setCell ?_ (by first | (simp; done) | (simp; omega)) _))) (by omega) hc2).mono ?_
          rintro e w' ⟨A7, c7, rfl, o7, g4, rfl⟩
          clear o7
          go_wp2_with fail
          go_meet
          exact ex_up (BU.out.trans (Below.mono (by repeat (first | exact Below.refl _ _ | refine bl_tr ?_ _ | refine bl_al ?_ _ | refine bl_dr ?_ | refine bl_up ?_ _ | refine Below.drew ?_ | refine bl_alloc ?_ _ | refine Below.setCell ?_ (by first | (simp; done) | (simp; omega)) _)) BU.out.size))
        · go_wp2_with fail
          go_meet
          exact ex_up (BU.out.trans (Below.mono (by repeat (first | exact Below.refl _ _ | refine bl_tr ?_ _ | refine bl_al ?_ _ | refine bl_dr ?_ | refine bl_up ?_ _ | refine Below.drew ?_ | refine bl_alloc ?_ _ | refine Below.setCell ?_ (by first | (simp; done) | (simp; omega)) _)) BU.out.size))
      · have hn3 : (n2 == 0) = false := by rw [beq_eq_false_iff_ne]; exact hn2
        go_wp2_with fail
        go_meet
        exact ex_up (by repeat (first | exact Below.refl _ _ | refine bl_tr ?_ _ | refine bl_al ?_ _ | refine bl_dr ?_ | refine bl_up ?_ _ | refine Below.drew ?_ | refine bl_alloc ?_ _ | refine Below.setCell ?_ (by first | (simp; done) | (simp; omega)) _))
    case rest =>
     as_aux_lemma =>
      obtain ⟨g3, rfl⟩ := hcut
      clear NF R2 HH D2
      by_cases hb0 : bad = 0
      rotate_left
      · have hb1 : (bad != 0) = true := by simp [hb0]
        go_wp2_with fail
        go_ret
        exact ⟨rfl, HU.out.tr (by repeat (first | exact Below.refl _ _ | refine bl_tr ?_ _ | refine bl_al ?_ _ | refine bl_dr ?_ | refine bl_up ?_ _ | refine Below.drew ?_ | refine bl_alloc ?_ _ | refine Below.setCell ?_ (by first | (simp; done) | (simp; omega)) _))⟩
      have hv : vHires l N = true := by
        have := HD.out
        unfold dOutR at this
        split at this
        · assumption
        · injection this with _ this; omega
      have hDD := Lib.hid (show D = dL l l.length N.toNat by
        have := HD.out
        rw [dOutR, if_pos hv] at this
        injection this with this _
        exact this.symm)
      have hfw := Lib.hid (show f0 = mostOut l l.length by
        have := HF.out
        rw [fewR, if_pos hv] at this
        injection this with this _
        exact this.symm)
      have HV := Lib.hid hv
      have HBD := Lib.hid (vHires_bds hv)
      have hlb := Lib.hid (lastN_bd (l := l) (fun i hi => (HBD.out i hi).2.2.2.2))
      clear hv HD HF
      subst hb0
      go_wp2_with fail
      go_loopw [42, 43] (fun s i wr => ∃ (k : Nat), k ≤ l.length ∧ i = i64 k ∧ s = i64 (lastN l k) ∧ ∃ g : Up V, wr = up V g) (fun _ i _ => l.length - (intOf i).toNat)
      case atStart => exact ⟨0, by omega, rfl, rfl, ex_up (by repeat (first | exact Below.refl _ _ | refine bl_tr ?_ _ | refine bl_al ?_ _ | refine bl_dr ?_ | refine bl_up ?_ _ | refine Below.drew ?_ | refine bl_alloc ?_ _ | refine Below.setCell ?_ (by first | (simp; done) | (simp; omega)) _))⟩
      case round =>
        obtain ⟨k, hk, rfl, rfl, g4, rfl⟩ := hrel
        by_cases hlt : k < l.length
        · have hlt' : (k : Int) < (l.length : Int) := by omega
          obtain ⟨b7, off7, rfl, hb7, c70, c71, c72⟩ := hire_at R1.out hlt
          rw [hat_eq hlt] at c72
          clear c70 c71
          by_cases hmx : lastN l k < (hat l k).t
          · have e1 := Lib.hid (show lastN l (k + 1) = (hat l k).t by rw [lastN]; omega)
            go_wp2_with (first | ((with_reducible refine wp_region_up (by kernel_rfl) (by kernel_rfl) ?_); (repeat (go_big_quiet_step (fail))); refine wpQuiet_nil ?_; intro _ hw'; obtain ⟨nq, hw''⟩ := hw'; subst hw''))
            go_roundw
            case rel => exact ⟨k + 1, by omega, by go_num, by rw [e1.out], ex_up (by repeat (first | exact Below.refl _ _ | refine bl_tr ?_ _ | refine bl_al ?_ _ | refine bl_dr ?_ | refine bl_up ?_ _ | refine Below.drew ?_ | refine bl_alloc ?_ _ | refine Below.setCell ?_ (by first | (simp; done) | (simp; omega)) _))⟩
            case measure => (simp [intOf]; try omega)
          · have e1 := Lib.hid (show lastN l (k + 1) = lastN l k by rw [lastN]; omega)
            go_wp2_with (first | ((with_reducible refine wp_region_up (by kernel_rfl) (by kernel_rfl) ?_); (repeat (go_big_quiet_step (fail))); refine wpQuiet_nil ?_; intro _ hw'; obtain ⟨nq, hw''⟩ := hw'; subst hw''))
            go_roundw
            case rel => exact ⟨k + 1, by omega, by go_num, by rw [e1.out], ex_up (by repeat (first | exact Below.refl _ _ | refine bl_tr ?_ _ | refine bl_al ?_ _ | refine bl_dr ?_ | refine bl_up ?_ _ | refine Below.drew ?_ | refine bl_alloc ?_ _ | refine Below.setCell ?_ (by first | (simp; done) | (simp; omega)) _))⟩
            case measure => (simp [intOf]; try omega)
        · obtain rfl : k = l.length := by omega
          by_cases h300 : 300 < lastN l l.length
          · go_wp2_with (first | ((with_reducible refine wp_region_up (by kernel_rfl) (by kernel_rfl) ?_); (repeat (go_big_quiet_step (fail))); refine wpQuiet_nil ?_; intro _ hw'; obtain ⟨nq, hw''⟩ := hw'; subst hw''))
            go_ret
            exact ⟨rfl, HU.out.tr (by repeat (first | exact Below.refl _ _ | refine bl_tr ?_ _ | refine bl_al ?_ _ | refine bl_dr ?_ | refine bl_up ?_ _ | refine Below.drew ?_ | refine bl_alloc ?_ _ | refine Below.setCell ?_ (by first | (simp; done) | (simp; omega)) _))⟩
          · obtain ⟨T, hT⟩ : ∃ T : Nat, lastN l l.length = (T : Int) := ⟨(lastN l l.length).toNat, by have := hlb.out l.length (Nat.le_refl _); omega⟩
            have HT := Lib.hid hT
            rw [hT] at h300
            rw [hT]
            have hT3 : T ≤ 300 := by omega
            clear hT hlb
            go_wp2_with (first | ((with_reducible refine wp_region_up (by kernel_rfl) (by kernel_rfl) ?_); (repeat (go_big_quiet_step (fail))); refine wpQuiet_nil ?_; intro _ hw'; obtain ⟨nq, hw''⟩ := hw'; subst hw''))
            go_loopw [44, 45, 46] (fun s t kk wr => ∃ (k : Nat), k ≤ T ∧ kk = i64 k ∧ s = i64 (tot (fun d => (outN l (d : Int) : Int)) k) ∧ t = i64 (topN l k) ∧ ∃ g : Up V, wr = up V g) (fun _ _ kk _ => T - (intOf kk).toNat)
            case atStart => exact ⟨0, by omega, rfl, rfl, rfl, ex_up (by repeat (first | exact Below.refl _ _ | refine bl_tr ?_ _ | refine bl_al ?_ _ | refine bl_dr ?_ | refine bl_up ?_ _ | refine Below.drew ?_ | refine bl_alloc ?_ _ | refine Below.setCell ?_ (by first | (simp; done) | (simp; omega)) _))⟩
            case round =>
              obtain ⟨k, hk, rfl, rfl, rfl, g5, rfl⟩ := hrel
              by_cases hlt : k < T
              · have hlt' : (k : Int) < (T : Int) := by omega
                have hO := Lib.hid (show outR l N (k : Int) = ((outN l (k : Int) : Int), 0) by rw [outR, if_pos HV.out, if_pos (show btw (k : Int) 0 3650 = true from decide_eq_true (by omega))])
                have hS := Lib.hid (show IntKind.i64.wrap (tot (fun d => (outN l (d : Int) : Int)) k + (outN l (k : Int) : Int)) = tot (fun d => (outN l (d : Int) : Int)) (k + 1) by
                  have h1 := tot_bd l (k + 1)
                  have e : (l.length : Int) * ((k + 1 : Nat) : Int) ≤ 61 * 301 := Int.mul_le_mul (by omega) (by omega) (by omega) (by omega)
                  rw [IntKind.wrap_i64]
                  rw [tot] at h1 ⊢
                  omega)
                go_wp2_with fail
                refine (outIK hO A1 c1 _ (R1.out.below (by repeat (first | exact Below.refl _ _ | refine bl_tr ?_ _ | refine bl_al ?_ _ | refine bl_dr ?_ | refine bl_up ?_ _ | refine Below.drew ?_ | refine bl_alloc ?_ _ | refine Below.setCell ?_ (by first | (simp; done) | (simp; omega)) _))) (by omega) hc1).mono ?_
                rintro e w' ⟨rfl, g6, rfl⟩
                have hS' := hS.out
                by_cases hmx : topN l k < (outN l (k : Int) : Int)
                · have e1 := Lib.hid (show topN l (k + 1) = (outN l (k : Int) : Int) by rw [topN]; omega)
                  go_wp2_with fail
                  go_roundw
                  case rel => exact ⟨k + 1, by omega, by go_num, rfl, by rw [e1.out], ex_up (by repeat (first | exact Below.refl _ _ | refine bl_tr ?_ _ | refine bl_al ?_ _ | refine bl_dr ?_ | refine bl_up ?_ _ | refine Below.drew ?_ | refine bl_alloc ?_ _ | refine Below.setCell ?_ (by first | (simp; done) | (simp; omega)) _))⟩
                  case measure => (simp [intOf]; try omega)
                · have e1 := Lib.hid (show topN l (k + 1) = topN l k by rw [topN]; omega)
                  go_wp2_with fail
                  go_roundw
                  case rel => exact ⟨k + 1, by omega, by go_num, rfl, by rw [e1.out], ex_up (by repeat (first | exact Below.refl _ _ | refine bl_tr ?_ _ | refine bl_al ?_ _ | refine bl_dr ?_ | refine bl_up ?_ _ | refine Below.drew ?_ | refine bl_alloc ?_ _ | refine Below.setCell ?_ (by first | (simp; done) | (simp; omega)) _))⟩
                  case measure => (simp [intOf]; try omega)
              · obtain rfl : k = T := by omega
                have hDb : ∀ x ∈ D, 0 ≤ x ∧ x ≤ 1000000 := by
                  intro x hx
                  rw [hDD.out] at hx
                  obtain ⟨i, hi, rfl⟩ := List.getElem_of_mem hx
                  rw [dL_get]
                  have := sumTo_bd (l := l) (fun i hi => by have := HBD.out i hi; have := vHires_nn HV.out; omega) l.length (Nat.le_refl _) (i : Int)
                  omega
                have HDB := Lib.hid hDb
                clear hDb
                have hsum : tot (fun d => (outN l (d : Int) : Int)) k = sumQ D D.length := by
                  have := days_sum HV.out HT.out
                  rw [this, hDD.out, dL_len, sumQ_dL _ _ _ _ (Nat.le_refl _)]
                have htop : topN l k = f0 := by rw [hfw.out]; exact days_top HV.out HT.out
                rw [hsum, htop]
                clear hsum htop
                have hx1 : (sumQ D D.length == sumQ D D.length) = true := by simp
                have hx2 : (f0 == f0) = true := by simp
                go_wp2_with fail
                refine (f6sum_any A3 c3 D _ (D3.out.below (by repeat (first | exact Below.refl _ _ | refine bl_tr ?_ _ | refine bl_al ?_ _ | refine bl_dr ?_ | refine bl_up ?_ _ | refine Below.drew ?_ | refine bl_alloc ?_ _ | refine Below.setCell ?_ (by first | (simp; done) | (simp; omega)) _))) (by omega) HDB.out).mono ?_
                rintro e w' ⟨rfl, g6, rfl⟩
                go_wp2_with fail
                go_ret
                exact ⟨rfl, HU.out.tr (by repeat (first | exact Below.refl _ _ | refine bl_tr ?_ _ | refine bl_al ?_ _ | refine bl_dr ?_ | refine bl_up ?_ _ | refine Below.drew ?_ | refine bl_alloc ?_ _ | refine Below.setCell ?_ (by first | (simp; done) | (simp; omega)) _))⟩
end Go.Proofs.Ytiagckbdofeecaa

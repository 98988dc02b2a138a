/-
  TestsPrice, of the program and of the reference. The bounds stand at each.
-/
import Derived.Test.YtfggbcmpgkhlaaaTest8
namespace Go.Proofs.Ytfggbcmpgkhlaaa
open Go.RowKit
theorem runI' {l : List Defect} {ps : List Int} {k : Int} {L : List Int} {s : ByteArray} {cd : Int} (hR : runR l ps k = (L, s, cd)) (w : World) {A B : Option Addr} {c d : Nat} (h : Rds w 3 A l.length (dfcs l)) (hp : Rds w 1 B ps.length (ics ps)) (hn : l.length ≤ 100000000) (hm : ps.length ≤ 100000000) (hs : sizesD l) :
    Calls Try.prog 12 #[.slice A l.length c, .slice B ps.length d, i64 k] w fun e w' => ∃ A' c', e = .returned (.tuple #[.slice A' L.length c', .string s, i64 cd]) ∧ w'.ownsRow w.heap.size 2 1 (.slice A' L.length c') L.length (ics L) ∧ UpOf w w' := by
  have := runI_any A B c d l ps k w h hp hn hm hs
  rw [hR] at this
  exact this
theorem runS' {l : List Defect} {ps : List Int} {k : Int} {L : List Int} {s : ByteArray} {cd : Int} (hR : runR l ps k = (L, s, cd)) (w : World) {A B : Option Addr} {c d : Nat} (h : Rds w 3 A l.length (dfcs l)) (hp : Rds w 1 B ps.length (ics ps)) (hn : l.length ≤ 100000000) (hm : ps.length ≤ 100000000) (hs : sizesD l) :
    Calls Try.prog 31 #[.slice A l.length c, .slice B ps.length d, i64 k] w fun e w' => ∃ A' c', e = .returned (.tuple #[.slice A' L.length c', .string s, i64 cd]) ∧ w'.ownsRow w.heap.size 2 1 (.slice A' L.length c') L.length (ics L) ∧ UpOf w w' := by
  have := runS_any A B c d l ps k w h hp hn hm hs
  rw [hR] at this
  exact this
set_option maxRecDepth 10000 in
set_option maxHeartbeats 4000000 in
theorem tpI_any (A B : Option Addr) (c d : Nat) (l : List Defect) (ps : List Int) (k : Int) (w : World) (h : Rds w 3 A l.length (dfcs l)) (hp : Rds w 1 B ps.length (ics ps)) (hn : l.length ≤ 100000000) (hm : ps.length ≤ 100000000) (hs : sizesD l) : Calls Try.prog 13 #[.slice A l.length c, .slice B ps.length d, i64 k] w fun e w' => e = .returned (.tuple #[i64 (tpR l ps k).1, i64 (tpR l ps k).2]) ∧ UpOf w w' := by
  cases b1 : vDefects l ps
  · have hR := Lib.hid (tpR_1 (k := k) b1)
    have hq := runR_1 (k := k) b1
    go_enter Try.func13, Try.ntmps13
    go_wp2_with fail
    refine (runI' hq _ (h.below (by repeat (first | exact Below.refl _ _ | refine bl_tr ?_ _ | refine bl_al ?_ _ | refine bl_dr ?_ | refine bl_up ?_ _ | refine Below.drew ?_ | refine bl_alloc ?_ _ | refine Below.setCell ?_ (by first | (simp; done) | (simp; omega)) _))) (hp.below (by repeat (first | exact Below.refl _ _ | refine bl_tr ?_ _ | refine bl_al ?_ _ | refine bl_dr ?_ | refine bl_up ?_ _ | refine Below.drew ?_ | refine bl_alloc ?_ _ | refine Below.setCell ?_ (by first | (simp; done) | (simp; omega)) _))) hn hm hs).mono ?_
    rintro e w' ⟨A', c', rfl, o, g1, rfl⟩
    go_wp2_with fail
    go_ret2
    rw [hR.out]
    exact ⟨rfl, UpOf.of (by repeat (first | exact Below.refl _ _ | refine bl_tr ?_ _ | refine bl_al ?_ _ | refine bl_dr ?_ | refine bl_up ?_ _ | refine Below.drew ?_ | refine bl_alloc ?_ _ | refine Below.setCell ?_ (by first | (simp; done) | (simp; omega)) _))⟩
  cases b2 : btw k 0 ((l.length : Int) - 1)
  · have hR := Lib.hid (tpR_2 b1 b2)
    have hq := runR_2 b1 b2
    go_enter Try.func13, Try.ntmps13
    go_wp2_with fail
    refine (runI' hq _ (h.below (by repeat (first | exact Below.refl _ _ | refine bl_tr ?_ _ | refine bl_al ?_ _ | refine bl_dr ?_ | refine bl_up ?_ _ | refine Below.drew ?_ | refine bl_alloc ?_ _ | refine Below.setCell ?_ (by first | (simp; done) | (simp; omega)) _))) (hp.below (by repeat (first | exact Below.refl _ _ | refine bl_tr ?_ _ | refine bl_al ?_ _ | refine bl_dr ?_ | refine bl_up ?_ _ | refine Below.drew ?_ | refine bl_alloc ?_ _ | refine Below.setCell ?_ (by first | (simp; done) | (simp; omega)) _))) hn hm hs).mono ?_
    rintro e w' ⟨A', c', rfl, o, g1, rfl⟩
    go_wp2_with fail
    go_ret2
    rw [hR.out]
    exact ⟨rfl, UpOf.of (by repeat (first | exact Below.refl _ _ | refine bl_tr ?_ _ | refine bl_al ?_ _ | refine bl_dr ?_ | refine bl_up ?_ _ | refine Below.drew ?_ | refine bl_alloc ?_ _ | refine Below.setCell ?_ (by first | (simp; done) | (simp; omega)) _))⟩
  obtain ⟨k1, k2⟩ := btw_true b2
  obtain ⟨D, rfl⟩ : ∃ D : Nat, k = D := ⟨k.toNat, by omega⟩
  have hD : D < l.length := by omega
  have hR := Lib.hid (tpR_0 b1 b2)
  have hq := runR_0 b1 b2
  have hV := Lib.hid b1
  have hlen : (runT l ps (dat l D) (qs ps.length)).1.length ≤ 6 := by
    have h1 := runT_len l ps (dat l D) (qs ps.length)
    rw [qs_size] at h1
    have h2 := (vDefects_inv b1).2.1
    omega
  have HM := Lib.hid (runT_mem b1 ((vDefects_inv b1).2.2.2 D hD) (qs ps.length) (qs_size _))
  revert hq hR HM hlen
  generalize (runT l ps (dat l D) (qs ps.length)).1 = ts
  intro hR hq hlen HM
  go_enter Try.func13, Try.ntmps13
  go_wp2_with fail
  refine (runI' hq _ (h.below (by repeat (first | exact Below.refl _ _ | refine bl_tr ?_ _ | refine bl_al ?_ _ | refine bl_dr ?_ | refine bl_up ?_ _ | refine Below.drew ?_ | refine bl_alloc ?_ _ | refine Below.setCell ?_ (by first | (simp; done) | (simp; omega)) _))) (hp.below (by repeat (first | exact Below.refl _ _ | refine bl_tr ?_ _ | refine bl_al ?_ _ | refine bl_dr ?_ | refine bl_up ?_ _ | refine Below.drew ?_ | refine bl_alloc ?_ _ | refine Below.setCell ?_ (by first | (simp; done) | (simp; omega)) _))) hn hm hs).mono ?_
  rintro e w' ⟨A', c', rfl, o, g1, rfl⟩
  have ho := Lib.hid (Rds.of_own o)
  have hP := Lib.hid (hp.below (up_below w g1))
  have HB := Lib.hid (up_below w g1)
  clear o h hp b1 b2 hq
  revert ho hP HB
  generalize up w g1 = W
  intro ho hP HB
  go_wp2_with (first | ((with_reducible refine wp_region_up (by kernel_rfl) (by kernel_rfl) ?_); (repeat (go_big_quiet_step (fail))); refine wpQuiet_nil ?_; intro _ hw'; obtain ⟨nq, hw''⟩ := hw'; subst hw''))
  go_loopw [11, 27] (fun v i wr => ∃ j : Nat, j ≤ ts.length ∧ i = i64 j ∧ v = i64 (sumP ps ts j) ∧ ∃ g : Up W, wr = up W g) (fun _ i _ => ts.length - (intOf i).toNat)
  case atStart => exact ⟨0, by omega, rfl, rfl, ex_up (by repeat (first | exact Below.refl _ _ | refine bl_tr ?_ _ | refine bl_al ?_ _ | refine bl_dr ?_ | refine bl_up ?_ _ | refine Below.drew ?_ | refine bl_alloc ?_ _ | refine Below.setCell ?_ (by first | (simp; done) | (simp; omega)) _))⟩
  case round =>
    obtain ⟨j, hj, rfl, rfl, g, rfl⟩ := hrel
    by_cases hlt : j < ts.length
    · obtain ⟨b1, off1, rfl, hb1, hc1⟩ := num_at ho.out hlt
      have e1 := hc1 j hlt
      have hmj := HM.out ts[j] (List.getElem_mem hlt)
      rw [num_eq hlt] at hmj
      obtain ⟨u, hu⟩ : ∃ u : Nat, num ts j = (u : Int) := ⟨_, (Int.toNat_of_nonneg hmj.1).symm⟩
      have hN := Lib.hid (show sumP ps ts (j + 1) = sumP ps ts j + num ps u by rw [sumP, hu]; rfl)
      rw [hu] at e1 hmj
      obtain ⟨b2, off2, rfl, hb2, hc2⟩ := num_at hP.out (k := u) (by omega)
      have e2 := hc2 u (by omega)
      obtain ⟨s1, s2⟩ := sumP_bd hV.out HM.out j (by omega)
      obtain ⟨p1, p2⟩ := (vDefects_inv hV.out).2.2.1 u (by omega)
      clear hc1 hc2 hu
      go_wp2_with (first | ((with_reducible refine wp_region_up (by kernel_rfl) (by kernel_rfl) ?_); (repeat (go_big_quiet_step (fail))); refine wpQuiet_nil ?_; intro _ hw'; obtain ⟨nq, hw''⟩ := hw'; subst hw''))
      go_roundw
      case rel => exact ⟨j + 1, by omega, by go_num, by rw [hN.out], ex_up (by repeat (first | exact Below.refl _ _ | refine bl_tr ?_ _ | refine bl_al ?_ _ | refine bl_dr ?_ | refine bl_up ?_ _ | refine Below.drew ?_ | refine bl_alloc ?_ _ | refine Below.setCell ?_ (by first | (simp; done) | (simp; omega)) _))⟩
      case measure => (simp [intOf]; try omega)
    · obtain rfl : j = ts.length := by omega
      go_wp2_with (first | ((with_reducible refine wp_region_up (by kernel_rfl) (by kernel_rfl) ?_); (repeat (go_big_quiet_step (fail))); refine wpQuiet_nil ?_; intro _ hw'; obtain ⟨nq, hw''⟩ := hw'; subst hw''))
      go_ret2
      rw [hR.out]
      exact ⟨rfl, UpOf.of (HB.out.trans (Below.mono (by repeat (first | exact Below.refl _ _ | refine bl_tr ?_ _ | refine bl_al ?_ _ | refine bl_dr ?_ | refine bl_up ?_ _ | refine Below.drew ?_ | refine bl_alloc ?_ _ | refine Below.setCell ?_ (by first | (simp; done) | (simp; omega)) _)) HB.out.size))⟩
set_option maxRecDepth 10000 in
set_option maxHeartbeats 4000000 in
theorem tpS_any (A B : Option Addr) (c d : Nat) (l : List Defect) (ps : List Int) (k : Int) (w : World) (h : Rds w 3 A l.length (dfcs l)) (hp : Rds w 1 B ps.length (ics ps)) (hn : l.length ≤ 100000000) (hm : ps.length ≤ 100000000) (hs : sizesD l) : Calls Try.prog 30 #[.slice A l.length c, .slice B ps.length d, i64 k] w fun e w' => e = .returned (.tuple #[i64 (tpR l ps k).1, i64 (tpR l ps k).2]) ∧ UpOf w w' := by
  cases b1 : vDefects l ps
  · have hR := Lib.hid (tpR_1 (k := k) b1)
    have hc := at_1 (k := k) b1
    go_enter Try.func30, Try.ntmps30
    go_wp2_with (first | (go_at_call 55; refine (ret_num (l23At_any _ _ _ _ _ _ _ _ (h.below (by repeat (first | exact Below.refl _ _ | refine bl_tr ?_ _ | refine bl_al ?_ _ | refine bl_dr ?_ | refine bl_up ?_ _ | refine Below.drew ?_ | refine bl_alloc ?_ _ | refine Below.setCell ?_ (by first | (simp; done) | (simp; omega)) _))) (hp.below (by repeat (first | exact Below.refl _ _ | refine bl_tr ?_ _ | refine bl_al ?_ _ | refine bl_dr ?_ | refine bl_up ?_ _ | refine Below.drew ?_ | refine bl_alloc ?_ _ | refine Below.setCell ?_ (by first | (simp; done) | (simp; omega)) _))) hn hm hs) hc).mono ?_; rintro e w' ⟨rfl, g, rfl⟩) | ((with_reducible refine wp_region_up (by kernel_rfl) (by kernel_rfl) ?_); (repeat (go_big_quiet_step (first | (go_at_call 55; first | exact upq_tr (ret_num (l23At_any _ _ _ _ _ _ _ _ (h.below (by repeat (first | exact Below.refl _ _ | refine bl_tr ?_ _ | refine bl_al ?_ _ | refine bl_dr ?_ | refine bl_up ?_ _ | refine Below.drew ?_ | refine bl_alloc ?_ _ | refine Below.setCell ?_ (by first | (simp; done) | (simp; omega)) _))) (hp.below (by repeat (first | exact Below.refl _ _ | refine bl_tr ?_ _ | refine bl_al ?_ _ | refine bl_dr ?_ | refine bl_up ?_ _ | refine Below.drew ?_ | refine bl_alloc ?_ _ | refine Below.setCell ?_ (by first | (simp; done) | (simp; omega)) _))) hn hm hs) hc) | exact upq (ret_num (l23At_any _ _ _ _ _ _ _ _ (h.below (by repeat (first | exact Below.refl _ _ | refine bl_tr ?_ _ | refine bl_al ?_ _ | refine bl_dr ?_ | refine bl_up ?_ _ | refine Below.drew ?_ | refine bl_alloc ?_ _ | refine Below.setCell ?_ (by first | (simp; done) | (simp; omega)) _))) (hp.below (by repeat (first | exact Below.refl _ _ | refine bl_tr ?_ _ | refine bl_al ?_ _ | refine bl_dr ?_ | refine bl_up ?_ _ | refine Below.drew ?_ | refine bl_alloc ?_ _ | refine Below.setCell ?_ (by first | (simp; done) | (simp; omega)) _))) hn hm hs) hc))))); refine wpQuiet_nil ?_; intro _ hw'; obtain ⟨nq, hw''⟩ := hw'; subst hw''))
    go_ret2
    rw [hR.out]
    exact ⟨rfl, UpOf.of (by repeat (first | exact Below.refl _ _ | refine bl_tr ?_ _ | refine bl_al ?_ _ | refine bl_dr ?_ | refine bl_up ?_ _ | refine Below.drew ?_ | refine bl_alloc ?_ _ | refine Below.setCell ?_ (by first | (simp; done) | (simp; omega)) _))⟩
  cases b2 : btw k 0 ((l.length : Int) - 1)
  · have hR := Lib.hid (tpR_2 b1 b2)
    have hc := at_2 b1 b2
    go_enter Try.func30, Try.ntmps30
    go_wp2_with (first | (go_at_call 55; refine (ret_num (l23At_any _ _ _ _ _ _ _ _ (h.below (by repeat (first | exact Below.refl _ _ | refine bl_tr ?_ _ | refine bl_al ?_ _ | refine bl_dr ?_ | refine bl_up ?_ _ | refine Below.drew ?_ | refine bl_alloc ?_ _ | refine Below.setCell ?_ (by first | (simp; done) | (simp; omega)) _))) (hp.below (by repeat (first | exact Below.refl _ _ | refine bl_tr ?_ _ | refine bl_al ?_ _ | refine bl_dr ?_ | refine bl_up ?_ _ | refine Below.drew ?_ | refine bl_alloc ?_ _ | refine Below.setCell ?_ (by first | (simp; done) | (simp; omega)) _))) hn hm hs) hc).mono ?_; rintro e w' ⟨rfl, g, rfl⟩) | ((with_reducible refine wp_region_up (by kernel_rfl) (by kernel_rfl) ?_); (repeat (go_big_quiet_step (first | (go_at_call 55; first | exact upq_tr (ret_num (l23At_any _ _ _ _ _ _ _ _ (h.below (by repeat (first | exact Below.refl _ _ | refine bl_tr ?_ _ | refine bl_al ?_ _ | refine bl_dr ?_ | refine bl_up ?_ _ | refine Below.drew ?_ | refine bl_alloc ?_ _ | refine Below.setCell ?_ (by first | (simp; done) | (simp; omega)) _))) (hp.below (by repeat (first | exact Below.refl _ _ | refine bl_tr ?_ _ | refine bl_al ?_ _ | refine bl_dr ?_ | refine bl_up ?_ _ | refine Below.drew ?_ | refine bl_alloc ?_ _ | refine Below.setCell ?_ (by first | (simp; done) | (simp; omega)) _))) hn hm hs) hc) | exact upq (ret_num (l23At_any _ _ _ _ _ _ _ _ (h.below (by repeat (first | exact Below.refl _ _ | refine bl_tr ?_ _ | refine bl_al ?_ _ | refine bl_dr ?_ | refine bl_up ?_ _ | refine Below.drew ?_ | refine bl_alloc ?_ _ | refine Below.setCell ?_ (by first | (simp; done) | (simp; omega)) _))) (hp.below (by repeat (first | exact Below.refl _ _ | refine bl_tr ?_ _ | refine bl_al ?_ _ | refine bl_dr ?_ | refine bl_up ?_ _ | refine Below.drew ?_ | refine bl_alloc ?_ _ | refine Below.setCell ?_ (by first | (simp; done) | (simp; omega)) _))) hn hm hs) hc))))); refine wpQuiet_nil ?_; intro _ hw'; obtain ⟨nq, hw''⟩ := hw'; subst hw''))
    go_ret2
    rw [hR.out]
    exact ⟨rfl, UpOf.of (by repeat (first | exact Below.refl _ _ | refine bl_tr ?_ _ | refine bl_al ?_ _ | refine bl_dr ?_ | refine bl_up ?_ _ | refine Below.drew ?_ | refine bl_alloc ?_ _ | refine Below.setCell ?_ (by first | (simp; done) | (simp; omega)) _))⟩
  obtain ⟨k1, k2⟩ := btw_true b2
  obtain ⟨D, rfl⟩ : ∃ D : Nat, k = D := ⟨k.toNat, by omega⟩
  have hD : D < l.length := by omega
  have hR := Lib.hid (tpR_0 b1 b2)
  have hc := at_0 b1 b2
  have hV := Lib.hid b1
  have hlen : (runT l ps (dat l D) (qs ps.length)).1.length ≤ 6 := by
    have h1 := runT_len l ps (dat l D) (qs ps.length)
    rw [qs_size] at h1
    have h2 := (vDefects_inv b1).2.1
    omega
  have HM := Lib.hid (runT_mem b1 ((vDefects_inv b1).2.2.2 D hD) (qs ps.length) (qs_size _))
  go_enter Try.func30, Try.ntmps30
  go_wp2_with (first | (go_at_call 55; refine (ret_num (l23At_any _ _ _ _ _ _ _ _ (h.below (by repeat (first | exact Below.refl _ _ | refine bl_tr ?_ _ | refine bl_al ?_ _ | refine bl_dr ?_ | refine bl_up ?_ _ | refine Below.drew ?_ | refine bl_alloc ?_ _ | refine Below.setCell ?_ (by first | (simp; done) | (simp; omega)) _))) (hp.below (by repeat (first | exact Below.refl _ _ | refine bl_tr ?_ _ | refine bl_al ?_ _ | refine bl_dr ?_ | refine bl_up ?_ _ | refine Below.drew ?_ | refine bl_alloc ?_ _ | refine Below.setCell ?_ (by first | (simp; done) | (simp; omega)) _))) hn hm hs) hc).mono ?_; rintro e w' ⟨rfl, g, rfl⟩) | ((with_reducible refine wp_region_up (by kernel_rfl) (by kernel_rfl) ?_); (repeat (go_big_quiet_step (first | (go_at_call 55; first | exact upq_tr (ret_num (l23At_any _ _ _ _ _ _ _ _ (h.below (by repeat (first | exact Below.refl _ _ | refine bl_tr ?_ _ | refine bl_al ?_ _ | refine bl_dr ?_ | refine bl_up ?_ _ | refine Below.drew ?_ | refine bl_alloc ?_ _ | refine Below.setCell ?_ (by first | (simp; done) | (simp; omega)) _))) (hp.below (by repeat (first | exact Below.refl _ _ | refine bl_tr ?_ _ | refine bl_al ?_ _ | refine bl_dr ?_ | refine bl_up ?_ _ | refine Below.drew ?_ | refine bl_alloc ?_ _ | refine Below.setCell ?_ (by first | (simp; done) | (simp; omega)) _))) hn hm hs) hc) | exact upq (ret_num (l23At_any _ _ _ _ _ _ _ _ (h.below (by repeat (first | exact Below.refl _ _ | refine bl_tr ?_ _ | refine bl_al ?_ _ | refine bl_dr ?_ | refine bl_up ?_ _ | refine Below.drew ?_ | refine bl_alloc ?_ _ | refine Below.setCell ?_ (by first | (simp; done) | (simp; omega)) _))) (hp.below (by repeat (first | exact Below.refl _ _ | refine bl_tr ?_ _ | refine bl_al ?_ _ | refine bl_dr ?_ | refine bl_up ?_ _ | refine Below.drew ?_ | refine bl_alloc ?_ _ | refine Below.setCell ?_ (by first | (simp; done) | (simp; omega)) _))) hn hm hs) hc))))); refine wpQuiet_nil ?_; intro _ hw'; obtain ⟨nq, hw''⟩ := hw'; subst hw''))
  refine (l23Run_any _ _ _ _ _ _ D _ b1 hD (h.below (by repeat (first | exact Below.refl _ _ | refine bl_tr ?_ _ | refine bl_al ?_ _ | refine bl_dr ?_ | refine bl_up ?_ _ | refine Below.drew ?_ | refine bl_alloc ?_ _ | refine Below.setCell ?_ (by first | (simp; done) | (simp; omega)) _))) (hp.below (by repeat (first | exact Below.refl _ _ | refine bl_tr ?_ _ | refine bl_al ?_ _ | refine bl_dr ?_ | refine bl_up ?_ _ | refine Below.drew ?_ | refine bl_alloc ?_ _ | refine Below.setCell ?_ (by first | (simp; done) | (simp; omega)) _)))).mono ?_
  rintro e w' ⟨A', c', rfl, o, g1, rfl⟩
  have ho := Lib.hid (Rds.of_own o)
  have hP := Lib.hid (hp.below (w' := up _ g1) (by repeat (first | exact Below.refl _ _ | refine bl_tr ?_ _ | refine bl_al ?_ _ | refine bl_dr ?_ | refine bl_up ?_ _ | refine Below.drew ?_ | refine bl_alloc ?_ _ | refine Below.setCell ?_ (by first | (simp; done) | (simp; omega)) _)))
  have HB : Hid (Below w.heap.size w (up _ g1)) := (by repeat (first | exact Below.refl _ _ | refine bl_tr ?_ _ | refine bl_al ?_ _ | refine bl_dr ?_ | refine bl_up ?_ _ | refine Below.drew ?_ | refine bl_alloc ?_ _ | refine Below.setCell ?_ (by first | (simp; done) | (simp; omega)) _))
  clear o h hp b1 b2 hc
  revert ho hP HB hR HM hlen
  generalize (runT l ps (dat l D) (qs ps.length)).1 = ts
  generalize up _ g1 = W
  intro hR hlen HM ho hP HB
  go_wp2_with (first | ((with_reducible refine wp_region_up (by kernel_rfl) (by kernel_rfl) ?_); (repeat (go_big_quiet_step (fail))); refine wpQuiet_nil ?_; intro _ hw'; obtain ⟨nq, hw''⟩ := hw'; subst hw''))
  go_loopw [11, 12] (fun v i wr => ∃ j : Nat, j ≤ ts.length ∧ i = i64 j ∧ v = i64 (sumP ps ts j) ∧ ∃ g : Up W, wr = up W g) (fun _ i _ => ts.length - (intOf i).toNat)
  case atStart => exact ⟨0, by omega, rfl, rfl, ex_up (by repeat (first | exact Below.refl _ _ | refine bl_tr ?_ _ | refine bl_al ?_ _ | refine bl_dr ?_ | refine bl_up ?_ _ | refine Below.drew ?_ | refine bl_alloc ?_ _ | refine Below.setCell ?_ (by first | (simp; done) | (simp; omega)) _))⟩
  case round =>
    obtain ⟨j, hj, rfl, rfl, g, rfl⟩ := hrel
    by_cases hlt : j < ts.length
    · obtain ⟨b1, off1, rfl, hb1, hc1⟩ := num_at ho.out hlt
      have e1 := hc1 j hlt
      have hmj := HM.out ts[j] (List.getElem_mem hlt)
      rw [num_eq hlt] at hmj
      obtain ⟨u, hu⟩ : ∃ u : Nat, num ts j = (u : Int) := ⟨_, (Int.toNat_of_nonneg hmj.1).symm⟩
      have hN := Lib.hid (show sumP ps ts (j + 1) = sumP ps ts j + num ps u by rw [sumP, hu]; rfl)
      rw [hu] at e1 hmj
      obtain ⟨b2, off2, rfl, hb2, hc2⟩ := num_at hP.out (k := u) (by omega)
      have e2 := hc2 u (by omega)
      obtain ⟨s1, s2⟩ := sumP_bd hV.out HM.out j (by omega)
      obtain ⟨p1, p2⟩ := (vDefects_inv hV.out).2.2.1 u (by omega)
      clear hc1 hc2 hu
      go_wp2_with (first | ((with_reducible refine wp_region_up (by kernel_rfl) (by kernel_rfl) ?_); (repeat (go_big_quiet_step (fail))); refine wpQuiet_nil ?_; intro _ hw'; obtain ⟨nq, hw''⟩ := hw'; subst hw''))
      go_roundw
      case rel => exact ⟨j + 1, by omega, by go_num, by rw [hN.out], ex_up (by repeat (first | exact Below.refl _ _ | refine bl_tr ?_ _ | refine bl_al ?_ _ | refine bl_dr ?_ | refine bl_up ?_ _ | refine Below.drew ?_ | refine bl_alloc ?_ _ | refine Below.setCell ?_ (by first | (simp; done) | (simp; omega)) _))⟩
      case measure => (simp [intOf]; try omega)
    · obtain rfl : j = ts.length := by omega
      go_wp2_with (first | ((with_reducible refine wp_region_up (by kernel_rfl) (by kernel_rfl) ?_); (repeat (go_big_quiet_step (fail))); refine wpQuiet_nil ?_; intro _ hw'; obtain ⟨nq, hw''⟩ := hw'; subst hw''))
      go_ret2
      rw [hR.out]
      exact ⟨rfl, UpOf.of (HB.out.trans (Below.mono (by repeat (first | exact Below.refl _ _ | refine bl_tr ?_ _ | refine bl_al ?_ _ | refine bl_dr ?_ | refine bl_up ?_ _ | refine Below.drew ?_ | refine bl_alloc ?_ _ | refine Below.setCell ?_ (by first | (simp; done) | (simp; omega)) _)) HB.out.size))⟩
end Go.Proofs.Ytfggbcmpgkhlaaa

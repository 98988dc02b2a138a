/-
  FnCopyPrices: the law's walk.
-/
import Derived.Test.YtdackofjmdmoiaaCopies5
namespace Go.Proofs.Ytdackofjmdmoiaa
open Go.RowKit
set_option maxRecDepth 10000 in
set_option maxHeartbeats 1000000 in
theorem law_copyPrices (A B : Option Addr) (n c m d : Nat) (zs ys : List Int) (w : World) (hz : ∀ z ∈ zs, 0 ≤ z ∧ z ≤ 255) (hr : Rds w 1 A n (bytes zs)) (hy : ∀ z ∈ ys, 0 ≤ z ∧ z ≤ 255) (hs : Rds w 1 B m (bytes ys))
    (hn : n ≤ 9223372036854775807) (hm : m ≤ 9223372036854775807) :
    Calls Try.prog 7 #[.slice A n c, .slice B m d] w fun e w' => e = .returned (.bool true) ∧ UpOf w w' := by
  by_cases hl : 3000 < n ∨ 3000 < m
  · have hd : decide (3000 < n ∨ 3000 < m) = true := by simpa using hl
    go_enter Try.func7, Try.ntmps7
    go_wp2_with (first | (go_at_call 21; refine (a2Long_any _ _ _ _ _ _ _ hn hm).mono ?_; rintro e w' ⟨rfl, g, rfl⟩) | (refine wp_region_up (by kernel_rfl) (by kernel_rfl) ?_; (repeat (go_big_quiet_step (first | (go_at_call 21; first | exact upq_tr (a2Long_any _ _ _ _ _ _ _ hn hm) | exact upq (a2Long_any _ _ _ _ _ _ _ hn hm))))); refine wpQuiet_nil ?_; intro _ hw'; obtain ⟨nq, hw''⟩ := hw'; subst hw''))
    go_ret
    exact ⟨rfl, UpOf.of (by repeat (first | exact Below.refl _ _ | refine bl_up ?_ _ | refine Below.drew ?_ | refine bl_alloc ?_ _ | refine Below.setCell ?_ (by simp) _))⟩
  · have hd : decide (3000 < n ∨ 3000 < m) = false := by simpa using hl
    go_enter Try.func7, Try.ntmps7
    go_wp2_with (first | (go_at_call 21; refine (a2Long_any _ _ _ _ _ _ _ hn hm).mono ?_; rintro e w' ⟨rfl, g, rfl⟩) | (refine wp_region_up (by kernel_rfl) (by kernel_rfl) ?_; (repeat (go_big_quiet_step (first | (go_at_call 21; first | exact upq_tr (a2Long_any _ _ _ _ _ _ _ hn hm) | exact upq (a2Long_any _ _ _ _ _ _ _ hn hm))))); refine wpQuiet_nil ?_; intro _ hw'; obtain ⟨nq, hw''⟩ := hw'; subst hw''))
    refine (a2Carbon_any A n c zs _ hz (hr.up _) (by omega)).mono ?_
    rintro e w' ⟨f, l, le, rfl, hv, g1, rfl⟩
    have HV := Lib.hid hv
    clear hv
    go_wp2_with fail
    refine (a2Ways_any B m d ys _ hy (hs.up _) (by omega)).mono ?_
    rintro e w' ⟨t, s, st, p, rfl, hv, g2, rfl⟩
    have HW := Lib.hid hv
    obtain ⟨v0, v1, v2, v3, v4, v5, v6, v7⟩ := vW_b hv
    clear hv
    go_wp2_with fail
    refine (a2At_any B m d 20 60 ys _ hy (hs.up _) (by omega) (by omega) (by omega)).mono ?_
    rintro e w' ⟨x, rfl, x0, x1, g3, rfl⟩
    obtain ⟨x, rfl⟩ := Int.eq_ofNat_of_zero_le x0
    have hc0 : cpCode f l le t s st p x = 0 := cp_code0 HV.out HW.out (by simp [btw]; omega)
    obtain ⟨j, hj, hst, hmin, hfst⟩ := stI_min (tot f l le t s st p x) (x + 1) (fun i hi => tot_bd HV.out HW.out (by omega) i (by omega)) (by omega)
    obtain ⟨pl, hpl⟩ : ∃ pl : Int, pl = (x : Int) - j := ⟨_, rfl⟩
    have HC := Lib.hid (show ccAns f l le t s st p x = ((j : Int), pl, tot f l le t s st p x j, 0) by rw [hpl]; exact cc_ok (m := x) hc0 (by simpa using hst))
    have hj1 : 0 ≤ pl := by omega
    have hj2 : ((j : Int) + pl != (x : Int)) = false := by simp; omega
    have hj3 : pl ≤ 60 := by omega
    clear hpl
    have HM := Lib.hid hmin
    have HF := Lib.hid hfst
    clear hc0 hst hmin hfst
    go_wp2_with fail
    refine (cheapest_any _ _ _ _ _ _ _ _ _).mono ?_
    rintro e w' ⟨he, g4, rfl⟩
    rw [HC.out] at he
    subst he
    have hj0 : (0 : Int) ≤ j := by omega
    go_wp2_with fail
    refine name_world fun W hW => ?_
    have B5 : Blk W (up w (g.tr g1)).heap.size 33 #[i64 f, i64 l, i64 le] := by rw [hW.out]; exact (((Blk.new_al _ _).tr g2).al _ |>.tr g3).tr g4
    have B6 := (Blk.new_al (g := ((g.tr g1).al (.cells #[i64 f, i64 l, i64 le] 33)).tr g2) 35 #[i64 t, i64 s, i64 st, i64 p]).tr g3 |>.tr g4
    have HU : UpOf w W := by rw [hW.out]; exact ⟨_, rfl⟩
    rw [← hW.out] at B6
    clear hW
    generalize (up w (g.tr g1)).heap.size = b5 at *
    generalize (up w (((g.tr g1).al (.cells #[i64 f, i64 l, i64 le] 33)).tr g2)).heap.size = b6 at *
    have l5 := B5.lt
    have l6 := B6.lt
    have c5 := fun i => B5.cell i
    have c6 := fun i => B6.cell i
    go_loopw [12] (fun i wr => ∃ k : Nat, k ≤ x + 1 ∧ i = i64 k ∧ ∃ g : Up W, wr = up W g) (fun i _ => x + 1 - (intOf i).toNat)
    case atStart => exact ⟨0, by omega, rfl, ⟨W, Below.refl _ _⟩, rfl⟩
    case round =>
      obtain ⟨k, hk, rfl, g, rfl⟩ := hrel
      by_cases hlt : k ≤ x
      · have hck : cpCode f l le t s st p k = 0 := cp_code0 HV.out HW.out (by simp [btw]; omega)
        have HP := Lib.hid (show cpPrice f l le t s st p k = price f l le t s k by unfold cpPrice; rw [if_pos hck])
        have HK := Lib.hid hck
        obtain ⟨b0, b1⟩ := price_bd HV.out HW.out (n := k) (by omega) (by omega)
        obtain ⟨m0, m1⟩ := mul_bd (a := (x : Int) - k) (A := 500) (by omega) (by omega) (b := p) (B := 10000) (by omega) (by omega)
        have hmin := HM.out k (by omega)
        clear hck
        by_cases hlt2 : k < x
        · have ht : tot f l le t s st p x k = price f l le t s k + (st + ((x : Int) - k) * p) := by unfold tot; rw [if_pos (by omega)]
          rw [ht] at hmin
          rcases Nat.lt_trichotomy k j with hkj | hkj | hkj
          · have hlt3 := HF.out k hkj
            rw [ht] at hlt3
            have e1 : ((k : Int) == (j : Int)) = false := by simp; omega
            have e2 : (price f l le t s k + (st + ((x : Int) - k) * p) == tot f l le t s st p x j) = false := by simp; omega
            clear ht
            go_wp2_with (go_at_call 16; refine (carbonPrice_any _ _ _ _ _ _ _ _ _).mono ?_; rintro e w' ⟨he, g, rfl⟩; rw [HP.out, HK.out] at he; subst he)
            go_roundw
            case rel => exact ⟨k + 1, by omega, by go_num, _, rfl⟩
            case measure => (simp [intOf]; try omega)
          · subst hkj
            have e2 : (price f l le t s k + (st + ((x : Int) - k) * p) != tot f l le t s st p x k) = false := by rw [ht]; simp
            clear ht
            go_wp2_with (go_at_call 16; refine (carbonPrice_any _ _ _ _ _ _ _ _ _).mono ?_; rintro e w' ⟨he, g, rfl⟩; rw [HP.out, HK.out] at he; subst he)
            go_roundw
            case rel => exact ⟨k + 1, by omega, by go_num, _, rfl⟩
            case measure => (simp [intOf]; try omega)
          · have e1 : ((k : Int) == (j : Int)) = false := by simp; omega
            have e3 : ¬ (k : Int) < (j : Int) := by omega
            clear ht
            go_wp2_with (go_at_call 16; refine (carbonPrice_any _ _ _ _ _ _ _ _ _).mono ?_; rintro e w' ⟨he, g, rfl⟩; rw [HP.out, HK.out] at he; subst he)
            go_roundw
            case rel => exact ⟨k + 1, by omega, by go_num, _, rfl⟩
            case measure => (simp [intOf]; try omega)
        · obtain rfl : k = x := by omega
          have ht : tot f l le t s st p k k = price f l le t s k := by unfold tot; rw [if_neg (by omega)]; omega
          rw [ht] at hmin
          rcases Nat.lt_trichotomy k j with hkj | hkj | hkj
          · omega
          · subst hkj
            have e2 : (price f l le t s k != tot f l le t s st p k k) = false := by rw [ht]; simp
            clear ht
            go_wp2_with (go_at_call 16; refine (carbonPrice_any _ _ _ _ _ _ _ _ _).mono ?_; rintro e w' ⟨he, g, rfl⟩; rw [HP.out, HK.out] at he; subst he)
            go_roundw
            case rel => first | exact ⟨k + 1, by omega, by go_num, _, rfl⟩ | ((repeat apply Exists.intro); exact ⟨⟨k + 1, by omega, by go_num, _, rfl⟩, rfl⟩)
            case measure => (simp [intOf]; try omega)
          · have e1 : ((k : Int) == (j : Int)) = false := by simp; omega
            have e3 : ¬ (k : Int) < (j : Int) := by omega
            clear ht
            go_wp2_with (go_at_call 16; refine (carbonPrice_any _ _ _ _ _ _ _ _ _).mono ?_; rintro e w' ⟨he, g, rfl⟩; rw [HP.out, HK.out] at he; subst he)
            go_roundw
            case rel => first | exact ⟨k + 1, by omega, by go_num, _, rfl⟩ | ((repeat apply Exists.intro); exact ⟨⟨k + 1, by omega, by go_num, _, rfl⟩, rfl⟩)
            case measure => (simp [intOf]; try omega)
      · obtain rfl : k = x + 1 := by omega
        go_wp2_with fail
        rcases hff : firstFrom (cheaper f l le t s st p) 500 1 with _ | r
        · have HS := Lib.hid (sf_no HV.out HW.out hff)
          refine (stencilFrom_any _ _ _ _ _ _ _ _).mono ?_
          rintro e w' ⟨he, g', rfl⟩
          rw [HS.out] at he
          subst he
          go_wp2_with fail
          go_ret
          exact ⟨rfl, UpOf.of (below_up (below_up HU.below HU.below.size _) (Nat.le_trans HU.below.size (up_below W g).size) _)⟩
        · have HS := Lib.hid (sf_yes HV.out HW.out hff)
          obtain ⟨r1, r2, r3, r4⟩ := firstFrom_some hff
          have q1 : cpCode f l le t s st p r = 0 := cp_code0 HV.out HW.out (by simp [btw]; omega)
          have q2 : cpCode f l le t s st p (r - 1) = 0 := cp_code0 HV.out HW.out (by simp [btw]; omega)
          have P1 := Lib.hid (show cpPrice f l le t s st p r = price f l le t s r by unfold cpPrice; rw [if_pos q1])
          have P2 := Lib.hid (show cpPrice f l le t s st p (r - 1) = price f l le t s (r - 1) by unfold cpPrice; rw [if_pos q2])
          have K1 := Lib.hid q1
          have K2 := Lib.hid q2
          have r3' : st + r * p < price f l le t s r := by simpa [cheaper] using r3
          obtain ⟨m0, m1⟩ := mul_bd (a := r) (A := 500) (by omega) (by omega) (b := p) (B := 10000) (by omega) (by omega)
          obtain ⟨m2, m3⟩ := mul_bd (a := r - 1) (A := 500) (by omega) (by omega) (b := p) (B := 10000) (by omega) (by omega)
          have R4 := Lib.hid r4
          clear q1 q2 r3 r4 hff
          refine (stencilFrom_any _ _ _ _ _ _ _ _).mono ?_
          rintro e w' ⟨he, g', rfl⟩
          rw [HS.out] at he
          subst he
          go_wp2_with fail
          refine (carbonPrice_any _ _ _ _ _ _ _ _ _).mono ?_
          rintro e w' ⟨he, g2', rfl⟩
          rw [P1.out, K1.out] at he
          subst he
          go_wp2_with fail
          refine (carbonPrice_any _ _ _ _ _ _ _ _ _).mono ?_
          rintro e w' ⟨he, g3', rfl⟩
          rw [P2.out, K2.out] at he
          subst he
          have HB : Below w.heap.size w (up W (g.tr (g'.tr (g2'.tr g3')))) := below_up HU.below HU.below.size _
          by_cases hr1 : r = 1
          · subst hr1
            simp only [Int.one_mul] at r3'
            go_wp2_with fail
            go_ret
            exact ⟨rfl, UpOf.of HB⟩
          · have e1 : (r == 1) = false := by simp [hr1]
            have e2 : ¬ st + (r - 1) * p < price f l le t s (r - 1) := by
              rcases R4.out with h | h
              · omega
              · simpa [cheaper] using h
            go_wp2_with fail
            go_ret
            exact ⟨rfl, UpOf.of HB⟩
end Go.Proofs.Ytdackofjmdmoiaa

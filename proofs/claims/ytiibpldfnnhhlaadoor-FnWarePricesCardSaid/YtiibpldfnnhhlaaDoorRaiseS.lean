/-
  RaisePrices: the reference's walk. The bounds stand at it.
-/
import Derived.Test.YtiibpldfnnhhlaaDoorRaiseI
namespace Go.Proofs.YtiibpldfnnhhlaaDoor
open Go.RowKit
set_option maxRecDepth 10000 in
set_option maxHeartbeats 4000000 in
theorem raiseS_any (A : Option Addr) (c : Nat) (l : List Ware) (m : Int) (w : World) (h : WSee w A l) (hn : l.length ≤ 100000000) (hf : WBd l) :
    Calls Tryd.prog 27 #[.slice A l.length c, i64 m] w fun e w' => ∃ A' c' ps, e = .returned (.tuple #[.slice A' (raisR l m).1.length c', i64 (raisR l m).2]) ∧ WGot w.heap.size w' A' c' (raisR l m).1 ps ∧ UpOf w w' := by
  have HF := Lib.hid hf
  cases b1 : vWares l
  · rw [raisR_1 b1]
    go_enter Tryd.func27, Tryd.ntmps27
    go_wp2_with (first | (go_at_call 73; refine (ret_as (l26Ok_any _ _ _ _ (h.below (by repeat (first | exact Below.refl _ _ | refine bl_tr ?_ _ | refine bl_al ?_ _ | refine bl_dr ?_ | refine bl_up ?_ _ | refine Below.drew ?_ | refine bl_alloc ?_ _ | refine Below.setCell ?_ (by first | (simp; done) | (simp; omega)) _))) hn HF.out) b1).mono ?_; rintro e w' ⟨rfl, g, rfl⟩) | ((with_reducible refine wp_region_up (by kernel_rfl) (by kernel_rfl) ?_); (repeat (go_big_quiet_step (first | (go_at_call 73; first | exact upq_tr (ret_as (l26Ok_any _ _ _ _ (h.below (by repeat (first | exact Below.refl _ _ | refine bl_tr ?_ _ | refine bl_al ?_ _ | refine bl_dr ?_ | refine bl_up ?_ _ | refine Below.drew ?_ | refine bl_alloc ?_ _ | refine Below.setCell ?_ (by first | (simp; done) | (simp; omega)) _))) hn HF.out) b1) | exact upq (ret_as (l26Ok_any _ _ _ _ (h.below (by repeat (first | exact Below.refl _ _ | refine bl_tr ?_ _ | refine bl_al ?_ _ | refine bl_dr ?_ | refine bl_up ?_ _ | refine Below.drew ?_ | refine bl_alloc ?_ _ | refine Below.setCell ?_ (by first | (simp; done) | (simp; omega)) _))) hn HF.out) b1))))); refine wpQuiet_nil ?_; intro _ hw'; obtain ⟨nq, hw''⟩ := hw'; subst hw''))
    go_ret2
    exact ⟨none, 0, [], rfl, WGot.nil _ _, UpOf.of (by repeat (first | exact Below.refl _ _ | refine bl_tr ?_ _ | refine bl_al ?_ _ | refine bl_dr ?_ | refine bl_up ?_ _ | refine Below.drew ?_ | refine bl_alloc ?_ _ | refine Below.setCell ?_ (by first | (simp; done) | (simp; omega)) _))⟩
  cases b2 : btw m 0 1000
  · rw [raisR_2 b1 b2]
    go_enter Tryd.func27, Tryd.ntmps27
    go_wp2_with (first | (go_at_call 73; refine (ret_as (l26Ok_any _ _ _ _ (h.below (by repeat (first | exact Below.refl _ _ | refine bl_tr ?_ _ | refine bl_al ?_ _ | refine bl_dr ?_ | refine bl_up ?_ _ | refine Below.drew ?_ | refine bl_alloc ?_ _ | refine Below.setCell ?_ (by first | (simp; done) | (simp; omega)) _))) hn HF.out) b1).mono ?_; rintro e w' ⟨rfl, g, rfl⟩) | (go_at_call 64; refine (ret_as (in_any _ _ _ _) b2).mono ?_; rintro e w' ⟨rfl, rfl⟩) | ((with_reducible refine wp_region_up (by kernel_rfl) (by kernel_rfl) ?_); (repeat (go_big_quiet_step (first | (go_at_call 73; first | exact upq_tr (ret_as (l26Ok_any _ _ _ _ (h.below (by repeat (first | exact Below.refl _ _ | refine bl_tr ?_ _ | refine bl_al ?_ _ | refine bl_dr ?_ | refine bl_up ?_ _ | refine Below.drew ?_ | refine bl_alloc ?_ _ | refine Below.setCell ?_ (by first | (simp; done) | (simp; omega)) _))) hn HF.out) b1) | exact upq (ret_as (l26Ok_any _ _ _ _ (h.below (by repeat (first | exact Below.refl _ _ | refine bl_tr ?_ _ | refine bl_al ?_ _ | refine bl_dr ?_ | refine bl_up ?_ _ | refine Below.drew ?_ | refine bl_alloc ?_ _ | refine Below.setCell ?_ (by first | (simp; done) | (simp; omega)) _))) hn HF.out) b1)) | (go_at_call 64; first | exact upq_tr_same (ret_as (in_any _ _ _ _) b2) | exact upq_same (ret_as (in_any _ _ _ _) b2))))); refine wpQuiet_nil ?_; intro _ hw'; obtain ⟨nq, hw''⟩ := hw'; subst hw''))
    go_ret2
    exact ⟨none, 0, [], rfl, WGot.nil _ _, UpOf.of (by repeat (first | exact Below.refl _ _ | refine bl_tr ?_ _ | refine bl_al ?_ _ | refine bl_dr ?_ | refine bl_up ?_ _ | refine Below.drew ?_ | refine bl_alloc ?_ _ | refine Below.setCell ?_ (by first | (simp; done) | (simp; omega)) _))⟩
  · have hm := btw_true b2
    go_enter Tryd.func27, Tryd.ntmps27
    go_wp2_with (first | (go_at_call 73; refine (ret_as (l26Ok_any _ _ _ _ (h.below (by repeat (first | exact Below.refl _ _ | refine bl_tr ?_ _ | refine bl_al ?_ _ | refine bl_dr ?_ | refine bl_up ?_ _ | refine Below.drew ?_ | refine bl_alloc ?_ _ | refine Below.setCell ?_ (by first | (simp; done) | (simp; omega)) _))) hn HF.out) b1).mono ?_; rintro e w' ⟨rfl, g, rfl⟩) | (go_at_call 64; refine (ret_as (in_any _ _ _ _) b2).mono ?_; rintro e w' ⟨rfl, rfl⟩) | ((with_reducible refine wp_region_up (by kernel_rfl) (by kernel_rfl) ?_); (repeat (go_big_quiet_step (first | (go_at_call 73; first | exact upq_tr (ret_as (l26Ok_any _ _ _ _ (h.below (by repeat (first | exact Below.refl _ _ | refine bl_tr ?_ _ | refine bl_al ?_ _ | refine bl_dr ?_ | refine bl_up ?_ _ | refine Below.drew ?_ | refine bl_alloc ?_ _ | refine Below.setCell ?_ (by first | (simp; done) | (simp; omega)) _))) hn HF.out) b1) | exact upq (ret_as (l26Ok_any _ _ _ _ (h.below (by repeat (first | exact Below.refl _ _ | refine bl_tr ?_ _ | refine bl_al ?_ _ | refine bl_dr ?_ | refine bl_up ?_ _ | refine Below.drew ?_ | refine bl_alloc ?_ _ | refine Below.setCell ?_ (by first | (simp; done) | (simp; omega)) _))) hn HF.out) b1)) | (go_at_call 64; first | exact upq_tr_same (ret_as (in_any _ _ _ _) b2) | exact upq_same (ret_as (in_any _ _ _ _) b2))))); refine wpQuiet_nil ?_; intro _ hw'; obtain ⟨nq, hw''⟩ := hw'; subst hw''))
    have hb1 := Lib.hid b1
    have hb2 := Lib.hid b2
    clear b1 b2 hf
    go_loopw [6, 7] (fun out i wr => ∃ k : Nat, k ≤ l.length ∧ i = i64 k ∧ Hid (∀ i, i < k → vWare (rais m (wat l i)) = true) ∧ (∃ A' c' ps, out = .slice A' (raisL m (l.take k)).length c' ∧ WGot w.heap.size wr A' c' (raisL m (l.take k)) ps) ∧ Below w.heap.size w wr) (fun _ i _ => l.length - (intOf i).toNat)
    case atStart =>
      refine ⟨0, by omega, rfl, fun i hi => by omega, ⟨_, _, [], rfl, WGot.lit (World.ownsRow_lit _ #[] 0 (by first | exact Nat.le_refl _ | exact (up_below _ _).size) (by unfold maxLen; omega) rfl)⟩, ?_⟩
      exact (by repeat (first | exact Below.refl _ _ | refine bl_tr ?_ _ | refine bl_al ?_ _ | refine bl_dr ?_ | refine bl_up ?_ _ | refine Below.drew ?_ | refine bl_alloc ?_ _ | refine Below.setCell ?_ (by first | (simp; done) | (simp; omega)) _))
    case round =>
      obtain ⟨k, hk, rfl, hok, ⟨A', c', ps, rfl, hgot⟩, hbel⟩ := hrel
      by_cases hlt : k < l.length
      · obtain ⟨b, off, Ai, ci, rfl, hb, c0, c1, r⟩ := ware_at (h.below hbel) hlt
        have hv := Lib.hid ((vWares_inv hb1.out).2 k hlt)
        have HG := Lib.hid hgot
        have HB := Lib.hid hbel
        have hr := Lib.hid r
        have hlen6 := (vWare_inv hv.out).2.2.1
        have hname := (nameB_bd (vWare_inv hv.out).1).2
        have hll := Lib.hid (raisL_len m (l.take k))
        have hl30 := (vWares_inv hb1.out).1
        have htk : (l.take k).length ≤ l.length := by rw [List.length_take]; omega
        clear h hgot hbel r
        go_wp2_with (first | ((with_reducible refine wp_region_up (by kernel_rfl) (by kernel_rfl) ?_); (repeat (go_big_quiet_step (fail))); refine wpQuiet_nil ?_; intro _ hw'; obtain ⟨nq, hw''⟩ := hw'; subst hw''))
        have hbox : Hid (OwnBox wr ((wr.alloc (.cells #[] 69)).alloc (.cells #[.string (wat l k).name, .slice (some ⟨wr.heap.size, 0, none⟩) 0 0] 29)) (wr.heap.size + 1) wr.heap.size (wat l k).name (some ⟨wr.heap.size, 0, none⟩) 0 []) := by
          refine ⟨?_, ?_, .inr (fun e => by injection e with e; have e' : wr.heap.size = wr.heap.size + 1 := e; omega), (((Below.refl _ _).alloc (Nat.le_refl _) _).alloc (by simp) _)⟩
          · have := Blk.new (wr.alloc (.cells #[] 69)) 29 #[.string (wat l k).name, .slice (some ⟨wr.heap.size, 0, none⟩) 0 0]
            rwa [show (wr.alloc (.cells #[] 69)).heap.size = wr.heap.size + 1 by simp] at this
          · exact own_below (World.ownsRow_lit wr #[] 0 (Nat.le_refl _) (by unfold maxLen; omega) rfl) ((Below.refl _ _).alloc (Nat.le_refl _) _)
        go_loopw [9] (fun i wr2 => ∃ j : Nat, j ≤ (wat l k).brs.length ∧ i = i64 j ∧ ∃ A2 c2, Hid (OwnBox wr wr2 (wr.heap.size + 1) wr.heap.size (wat l k).name A2 c2 (rbk m (wat l k) j))) (fun i _ => (wat l k).brs.length - (intOf i).toNat)
        case atStart => exact ⟨0, by omega, rfl, _, _, by rw [rbk_zero]; exact hbox.out⟩
        case round =>
          clear hbox
          obtain ⟨j, hj, rfl, A2, c2, hbox⟩ := hrel
          have hrl := Lib.hid (rbk_len (m := m) hj)
          have k1 := hbox.out.c1
          have k2 := hbox.out.box.lt
          have e1 := (hbox.out.bel.cell (p := ⟨b, off + k * 2 + 1, none⟩) hb).trans c1
          have hbw := Nat.lt_of_lt_of_le hb hbox.out.bel.size
          by_cases hlt2 : j < (wat l k).brs.length
          · obtain ⟨b5, off5, rfl, hb5, ha5⟩ := brk_all (hr.out.below hbox.out.bel) (by omega)
            obtain ⟨d0, d1⟩ := ha5 j hlt2
            obtain ⟨_, _, q1, q2⟩ := brkAt_bd ((vWare_inv hv.out).2.2.2 j hlt2)
            obtain ⟨q3, q4⟩ := raise_bd q1 q2 hm.1 hm.2
            have hN := Lib.hid (rbk_step (m := m) hlt2)
            clear ha5 c0 c1 hb
            refine as_up fun g0 => ?_
            have hr5 := rds_new (up wr (g0.al (.cells #[i64 (brk (wat l k) j).fr, i64 (brk (wat l k) j).pr] 69))) #[i64 (brk (wat l k) j).fr, i64 (((brk (wat l k) j).pr * (1000 + m) + 999) / 1000)] 69 2 1 rfl
            rw [size_al] at hr5
            go_wp2_with (first | (at_builtin; go_must (refine wpl_appAt rfl _ _ 27 rfl _ 69 _ 2 16 el_brk (.slice A2 (rbk m (wat l k) j).length c2) (rbk m (wat l k) j).length _ rfl (own_below hbox.out.row (by repeat (first | exact Below.refl _ _ | refine bl_tr ?_ _ | refine bl_al ?_ _ | refine bl_dr ?_ | refine bl_up ?_ _ | refine Below.drew ?_ | refine bl_alloc ?_ _ | refine Below.setCell ?_ (by first | (simp; done) | (simp; omega)) _))) _ 1 1 [i64 (brk (wat l k) j).fr, i64 (((brk (wat l k) j).pr * (1000 + m) + 999) / 1000)] rfl hr5 (fun u hu => by simp at hu; rcases hu with rfl | rfl <;> rfl) (by omega) (by unfold maxLen; have := hrl.out; omega) (by have := hrl.out; omega) (Nat.le_trans hbox.out.bel.size (up_below wr _).size) ?_; intro g3 c3 w3 o3 hg3 hat3; rw [own_ablk] at hg3 hat3; have hq3 := (hbox.out.below (by repeat (first | exact Below.refl _ _ | refine bl_tr ?_ _ | refine bl_al ?_ _ | refine bl_dr ?_ | refine bl_up ?_ _ | refine Below.drew ?_ | refine bl_alloc ?_ _ | refine Below.setCell ?_ (by first | (simp; done) | (simp; omega)) _))).app (Nat.le_refl _) hg3; have k1 := hq3.1.cell 1; have f1 := hq3.1.free 1; simp only [List.getElem?_toArray, List.getElem?_cons_succ, List.getElem?_cons_zero] at k1; have k2 := hq3.1.lt; have HO3 := Lib.hid (And.intro o3 (And.intro hg3 hat3)); clear hq3 o3 hg3 hat3)) | ((with_reducible refine wp_region_up (by kernel_rfl) (by kernel_rfl) ?_); (repeat (go_big_quiet_step (fail))); refine wpQuiet_nil ?_; intro _ hw'; obtain ⟨nq, hw''⟩ := hw'; subst hw''))
            go_roundw
            case rel =>
              refine ⟨j + 1, by omega, by go_num, some ⟨g3, 0, none⟩, c3, ?_⟩
              rw [hN.out]
              exact OwnBox.put (b := raisB m (brk (wat l k) j)) (hbox.out.below (by repeat (first | exact Below.refl _ _ | refine bl_tr ?_ _ | refine bl_al ?_ _ | refine bl_dr ?_ | refine bl_up ?_ _ | refine Below.drew ?_ | refine bl_alloc ?_ _ | refine Below.setCell ?_ (by first | (simp; done) | (simp; omega)) _))) (Nat.le_refl _) (Nat.le_succ _) HO3.out.2.1 HO3.out.1 HO3.out.2.2
            case measure => (simp [intOf]; try omega)
          · obtain rfl : j = (wat l k).brs.length := by omega
            clear k1 k2
            have hbx := hbox.out
            rw [rbk_all] at hbx
            have k1 := hbx.c1
            have k0 := hbx.c0
            have k2 := hbx.box.lt
            have HX := Lib.hid hbx
            have hwat : Hid (WAt wr _ 0 (rais m (wat l k)) A2 c2) := ⟨k2, k0, k1, Rds.of_own hbx.row⟩
            have hrl2 : (rais m (wat l k)).brs.length ≤ 100000000 := by rw [rais_len]; omega
            have hrn : (rais m (wat l k)).name.size ≤ 9223372036854775807 := by show (wat l k).name.size ≤ _; omega
            clear hbx hbox hrl c0 c1 hb
            refine as_up fun g0 => ?_
            cases b4 : vWare (rais m (wat l k))
            · have hR := Lib.hid (raisR_5 hb1.out hb2.out (raisL_no hlt b4))
              go_wp2_with (first | (go_at_call 40; refine (ret_as (l26One_any _ _ _ _ _ _ (hwat.out.below (by repeat (first | exact Below.refl _ _ | refine bl_tr ?_ _ | refine bl_al ?_ _ | refine bl_dr ?_ | refine bl_up ?_ _ | refine Below.drew ?_ | refine bl_alloc ?_ _ | refine Below.setCell ?_ (by first | (simp; done) | (simp; omega)) _))) hrl2 hrn) b4).mono ?_; rintro e w' ⟨rfl, g, rfl⟩) | ((with_reducible refine wp_region_up (by kernel_rfl) (by kernel_rfl) ?_); (repeat (go_big_quiet_step (first | (go_at_call 40; first | exact upq_tr (ret_as (l26One_any _ _ _ _ _ _ (hwat.out.below (by repeat (first | exact Below.refl _ _ | refine bl_tr ?_ _ | refine bl_al ?_ _ | refine bl_dr ?_ | refine bl_up ?_ _ | refine Below.drew ?_ | refine bl_alloc ?_ _ | refine Below.setCell ?_ (by first | (simp; done) | (simp; omega)) _))) hrl2 hrn) b4) | exact upq (ret_as (l26One_any _ _ _ _ _ _ (hwat.out.below (by repeat (first | exact Below.refl _ _ | refine bl_tr ?_ _ | refine bl_al ?_ _ | refine bl_dr ?_ | refine bl_up ?_ _ | refine Below.drew ?_ | refine bl_alloc ?_ _ | refine Below.setCell ?_ (by first | (simp; done) | (simp; omega)) _))) hrl2 hrn) b4))))); refine wpQuiet_nil ?_; intro _ hw'; obtain ⟨nq, hw''⟩ := hw'; subst hw''))
              go_ret2
              rw [hR.out]
              exact ⟨none, 0, [], rfl, WGot.nil _ _, UpOf.of ((HB.out.trans (HX.out.bel.mono HB.out.size)).trans (Below.mono (by repeat (first | exact Below.refl _ _ | refine bl_tr ?_ _ | refine bl_al ?_ _ | refine bl_dr ?_ | refine bl_up ?_ _ | refine Below.drew ?_ | refine bl_alloc ?_ _ | refine Below.setCell ?_ (by first | (simp; done) | (simp; omega)) _)) (Nat.le_trans HB.out.size HX.out.bel.size)))⟩
            · have hq := Lib.hid b4
              go_wp2_with fail
              refine (ret_as (l26One_any _ _ _ _ _ _ (hwat.out.below (by repeat (first | exact Below.refl _ _ | refine bl_tr ?_ _ | refine bl_al ?_ _ | refine bl_dr ?_ | refine bl_up ?_ _ | refine Below.drew ?_ | refine bl_alloc ?_ _ | refine Below.setCell ?_ (by first | (simp; done) | (simp; omega)) _))) hrl2 hrn) b4).mono ?_
              rintro e w' ⟨rfl, g1, rfl⟩
              simp only [up_up]
              have hr5 := rds_new (up wr (g0.tr g1)) #[.string (wat l k).name, .slice A2 (rais m (wat l k)).brs.length c2] 29 2 1 rfl
              go_wp2_with (first | (at_builtin; go_must (refine wpl_appAt rfl _ _ 39 rfl w.heap.size 29 _ 2 40 el_ware (.slice A' (raisL m (l.take k)).length c') (raisL m (l.take k)).length _ rfl (own_below (own_below HG.out.row HX.out.bel) (by repeat (first | exact Below.refl _ _ | refine bl_tr ?_ _ | refine bl_al ?_ _ | refine bl_dr ?_ | refine bl_up ?_ _ | refine Below.drew ?_ | refine bl_alloc ?_ _ | refine Below.setCell ?_ (by first | (simp; done) | (simp; omega)) _))) _ 1 1 [.string (wat l k).name, .slice A2 (rais m (wat l k)).brs.length c2] rfl hr5 (fun u hu => by simp at hu; rcases hu with rfl | rfl <;> rfl) (by omega) (by unfold maxLen; have := hll.out; omega) (by have := hll.out; omega) (Nat.le_trans HB.out.size (Nat.le_trans HX.out.bel.size (up_below wr _).size)) ?_; intro g3 c3 w3 o3 hg3 hat3; rw [own_ablk] at hg3 hat3; have HO3 := Lib.hid (And.intro o3 (And.intro hg3 hat3)); clear o3 hg3 hat3)) | ((with_reducible refine wp_region_up (by kernel_rfl) (by kernel_rfl) ?_); (repeat (go_big_quiet_step (fail))); refine wpQuiet_nil ?_; intro _ hw'; obtain ⟨nq, hw''⟩ := hw'; subst hw''))
              have hN := Lib.hid (take_snocW (m := m) hlt)
              go_roundw
              case rel =>
                have hx := lt_ext (P := fun i => vWare (rais m (wat l i)) = true) hok.out hq.out
                refine ⟨k + 1, by omega, by go_num, hx, ⟨some ⟨g3, 0, none⟩, c3, ps ++ [(A2, c2)], by rw [hN.out, List.length_append]; rfl, ?_⟩, ?_⟩
                · rw [hN.out]
                  exact WGot.step HG.out (HX.out.bel.trans (Below.mono (by repeat (first | exact Below.refl _ _ | refine bl_tr ?_ _ | refine bl_al ?_ _ | refine bl_dr ?_ | refine bl_up ?_ _ | refine Below.drew ?_ | refine bl_alloc ?_ _ | refine Below.setCell ?_ (by first | (simp; done) | (simp; omega)) _)) HX.out.bel.size)) (Nat.le_refl _) HB.out.size (own_below HX.out.row (by repeat (first | exact Below.refl _ _ | refine bl_tr ?_ _ | refine bl_al ?_ _ | refine bl_dr ?_ | refine bl_up ?_ _ | refine Below.drew ?_ | refine bl_alloc ?_ _ | refine Below.setCell ?_ (by first | (simp; done) | (simp; omega)) _))) HO3.out.1 HO3.out.2.1 HO3.out.2.2
                · exact ((HB.out.trans (HX.out.bel.mono HB.out.size)).trans (Below.mono (by repeat (first | exact Below.refl _ _ | refine bl_tr ?_ _ | refine bl_al ?_ _ | refine bl_dr ?_ | refine bl_up ?_ _ | refine Below.drew ?_ | refine bl_alloc ?_ _ | refine Below.setCell ?_ (by first | (simp; done) | (simp; omega)) _)) (Nat.le_trans HB.out.size HX.out.bel.size))).grown HO3.out.2.1 (Nat.le_trans HB.out.size (Nat.le_trans HX.out.bel.size (up_below wr _).size)) (fun q hq => (WHas.aLt HG.out hq).1)
              case measure => (simp [intOf]; try omega)
      · obtain rfl : k = l.length := by omega
        rw [List.take_length] at hgot
        have hlt3 : l.take l.length = l := List.take_length
        have HG := Lib.hid hgot
        have HB := Lib.hid hbel
        have hR := Lib.hid (raisR_0 hb1.out hb2.out (raisL_ok hb1.out hok.out))
        clear h hgot hbel
        rw [hlt3]
        go_wp2_with (first | ((with_reducible refine wp_region_up (by kernel_rfl) (by kernel_rfl) ?_); (repeat (go_big_quiet_step (fail))); refine wpQuiet_nil ?_; intro _ hw'; obtain ⟨nq, hw''⟩ := hw'; subst hw''))
        go_ret2
        rw [hR.out]
        exact ⟨A', c', ps, rfl, HG.out.below (by repeat (first | exact Below.refl _ _ | refine bl_tr ?_ _ | refine bl_al ?_ _ | refine bl_dr ?_ | refine bl_up ?_ _ | refine Below.drew ?_ | refine bl_alloc ?_ _ | refine Below.setCell ?_ (by first | (simp; done) | (simp; omega)) _)), UpOf.of (HB.out.trans (Below.mono (by repeat (first | exact Below.refl _ _ | refine bl_tr ?_ _ | refine bl_al ?_ _ | refine bl_dr ?_ | refine bl_up ?_ _ | refine Below.drew ?_ | refine bl_alloc ?_ _ | refine Below.setCell ?_ (by first | (simp; done) | (simp; omega)) _)) HB.out.size))⟩
end Go.Proofs.YtiibpldfnnhhlaaDoor

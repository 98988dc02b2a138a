/-
  The law FnLogs: its walk. Premise on the world: the laid table.
-/
import Derived.Test.YtkjomkiajdjhpaaDoorLogsP
import Derived.Test.YtkjomkiajdjhpaaDoorDrawLog
import Derived.Test.YtkjomkiajdjhpaaDoorLogOf
import Derived.Test.YtkjomkiajdjhpaaDoorVals
import Derived.Test.YtkjomkiajdjhpaaDoorCheckLog
namespace Go.Proofs.YtkjomkiajdjhpaaDoor
open Go.RowKit
set_option maxRecDepth 10000 in
theorem a2Entries_any (A : Option Addr) (n c : Nat) (zs : List Int) (w : World) (hz : ∀ z ∈ zs, 0 ≤ z ∧ z ≤ 255) (h : Rds w 1 A n (bytes zs)) (hn : n ≤ 3000) :
    Calls Tryd.prog 30 #[.slice A n c] w fun e w' => ∃ (l : List Entry) (A' : Option Addr) (c' : Nat), e = .returned (.slice A' l.length c') ∧ w'.ownsRow w.heap.size 27 3 (.slice A' l.length c') l.length (encs l) ∧ (∀ x ∈ l, vEntry x = true) ∧ sortE l ∧ l.length ≤ 7 ∧ UpOf w w' := by
  have HR := Lib.hid h
  clear h
  go_enter Tryd.func30, Tryd.ntmps30
  go_wp2_with fail
  refine (l00From_any A n c _).mono ?_
  rintro e w1 ⟨rfl, rfl⟩
  go_wp2_with fail
  refine (entries_any w.heap.size A n c 0 7 _ (src_new w A n c) (byt_new hz HR.out _) (by omega) (by omega) (by omega)).mono ?_
  rintro e w2 ⟨l, A', c', rfl, ho, hv, hs, hl, hg⟩
  have HO := Lib.hid ho
  have HG := Lib.hid hg
  clear ho hg
  go_wp2_with fail
  go_ret
  exact ⟨l, A', c', rfl, own_mono HO.out (by simp), hv, hs, hl, up_of_grown ((Below.refl _ _).alloc (Nat.le_refl _) _) HG.out (fun k hk => by injection hk with hk; omega)⟩
def longB (n m : Nat) : Bool := decide (3000 < n ∨ 3000 < m)
set_option maxRecDepth 10000 in
theorem a2Long_any (A B : Option Addr) (n m c d : Nat) (w : World) (hn : n ≤ 9223372036854775807) (hm : m ≤ 9223372036854775807) :
    Calls Tryd.prog 29 #[.slice A n c, .slice B m d] w fun e w' => e = .returned (.bool (longB n m)) ∧ UpOf w w' := by
  by_cases h1 : (3000 : Int) < n
  · have hd := Lib.hid (show longB n m = true from decide_eq_true (by omega))
    go_enter Tryd.func29, Tryd.ntmps29
    go_wp2_with (first | ((with_reducible refine wp_region_up (by kernel_rfl) (by kernel_rfl) ?_); (repeat (go_big_quiet_step (fail))); refine wpQuiet_nil ?_; intro _ hw'; obtain ⟨nq, hw''⟩ := hw'; subst hw''))
    go_ret
    exact ⟨ret_bool hd.out.symm, UpOf.of (by repeat (first | exact Below.refl _ _ | refine bl_tr ?_ _ | refine bl_al ?_ _ | refine bl_dr ?_ | refine bl_up ?_ _ | refine Below.drew ?_ | refine bl_alloc ?_ _ | refine Below.setCell ?_ (by first | (simp; done) | (simp; omega)) _))⟩
  · by_cases h2 : (3000 : Int) < m
    · have hd := Lib.hid (show longB n m = true from decide_eq_true (by omega))
      go_enter Tryd.func29, Tryd.ntmps29
      go_wp2_with (first | ((with_reducible refine wp_region_up (by kernel_rfl) (by kernel_rfl) ?_); (repeat (go_big_quiet_step (fail))); refine wpQuiet_nil ?_; intro _ hw'; obtain ⟨nq, hw''⟩ := hw'; subst hw''))
      go_ret
      exact ⟨ret_bool hd.out.symm, UpOf.of (by repeat (first | exact Below.refl _ _ | refine bl_tr ?_ _ | refine bl_al ?_ _ | refine bl_dr ?_ | refine bl_up ?_ _ | refine Below.drew ?_ | refine bl_alloc ?_ _ | refine Below.setCell ?_ (by first | (simp; done) | (simp; omega)) _))⟩
    · have hd := Lib.hid (show longB n m = false from decide_eq_false (by omega))
      go_enter Tryd.func29, Tryd.ntmps29
      go_wp2_with (first | ((with_reducible refine wp_region_up (by kernel_rfl) (by kernel_rfl) ?_); (repeat (go_big_quiet_step (fail))); refine wpQuiet_nil ?_; intro _ hw'; obtain ⟨nq, hw''⟩ := hw'; subst hw''))
      go_ret
      exact ⟨ret_bool hd.out.symm, UpOf.of (by repeat (first | exact Below.refl _ _ | refine bl_tr ?_ _ | refine bl_al ?_ _ | refine bl_dr ?_ | refine bl_up ?_ _ | refine Below.drew ?_ | refine bl_alloc ?_ _ | refine Below.setCell ?_ (by first | (simp; done) | (simp; omega)) _))⟩
set_option maxRecDepth 10000 in
theorem a2At_any (A : Option Addr) (n c : Nat) (zs : List Int) (k : Nat) (w : World) (hz : ∀ z ∈ zs, 0 ≤ z ∧ z ≤ 255) (h : Rds w 1 A n (bytes zs)) (hn : n ≤ 3000) :
    Calls Tryd.prog 48 #[.slice A n c, i64 k, i64 256] w fun e w' => ∃ x : Nat, e = .returned (i64 x) ∧ x ≤ 255 ∧ UpOf w w' := by
  by_cases hlt : k < n
  · obtain ⟨b, off, rfl, hb, hc⟩ := h.at (by omega)
    have hl := h.1
    simp only [bytes, List.length_map, Nat.mul_one] at hl
    have c0 : w.cell? ⟨b, off + k, none⟩ = some (.int .u8 zs[k]) := hc k _ (by simp [bytes])
    have hz' := hz zs[k] (List.getElem_mem _)
    generalize zs[k] = z at *
    obtain ⟨y, rfl⟩ : ∃ y : Nat, z = (y : Int) := ⟨z.toNat, by omega⟩
    have hm : ((y : Int)).tmod 256 = (y : Int) := Int.tmod_eq_of_lt (by omega) (by omega)
    have hlt' : (k : Int) < (n : Int) := by omega
    clear hc h hl
    go_enter Tryd.func48, Tryd.ntmps48
    go_wp2_with (first | ((with_reducible refine wp_region_up (by kernel_rfl) (by kernel_rfl) ?_); (repeat (go_big_quiet_step (fail))); refine wpQuiet_nil ?_; intro _ hw'; obtain ⟨nq, hw''⟩ := hw'; subst hw''))
    go_ret
    exact ⟨y, rfl, by omega, UpOf.of (by repeat (first | exact Below.refl _ _ | refine bl_tr ?_ _ | refine bl_al ?_ _ | refine bl_dr ?_ | refine bl_up ?_ _ | refine Below.drew ?_ | refine bl_alloc ?_ _ | refine Below.setCell ?_ (by first | (simp; done) | (simp; omega)) _))⟩
  · have hge : (n : Int) ≤ (k : Int) := by omega
    go_enter Tryd.func48, Tryd.ntmps48
    go_wp2_with (first | ((with_reducible refine wp_region_up (by kernel_rfl) (by kernel_rfl) ?_); (repeat (go_big_quiet_step (fail))); refine wpQuiet_nil ?_; intro _ hw'; obtain ⟨nq, hw''⟩ := hw'; subst hw''))
    go_ret
    exact ⟨0, rfl, by omega, UpOf.of (by repeat (first | exact Below.refl _ _ | refine bl_tr ?_ _ | refine bl_al ?_ _ | refine bl_dr ?_ | refine bl_up ?_ _ | refine Below.drew ?_ | refine bl_alloc ?_ _ | refine Below.setCell ?_ (by first | (simp; done) | (simp; omega)) _))⟩
set_option maxRecDepth 10000 in
set_option maxHeartbeats 4000000 in
theorem law_logs (A : Option Addr) (n c : Nat) (zs : List Int) (B : Option Addr) (m d : Nat) (ys : List Int) (w : World) (hz : ∀ z ∈ zs, 0 ≤ z ∧ z ≤ 255) (hr : Rds w 1 A n (bytes zs)) (hn : n ≤ 9223372036854775807) (hy : ∀ z ∈ ys, 0 ≤ z ∧ z ≤ 255) (hr2 : Rds w 1 B m (bytes ys)) (hm : m ≤ 9223372036854775807) (ht : Tab w) :
    Calls Tryd.prog 13 #[.slice A n c, .slice B m d] w fun e w' => e = .returned (.bool true) ∧ UpOf w w' := by
  have HT := Lib.hid ht
  have HR := Lib.hid hr
  have HZ := Lib.hid hz
  have HR2 := Lib.hid hr2
  have HY := Lib.hid hy
  clear ht hr hz hr2 hy
  cases hlo : longB n m
  · have hn3 : n ≤ 3000 ∧ m ≤ 3000 := by have := of_decide_eq_false hlo; omega
    go_enter Tryd.func13, Tryd.ntmps13
    go_wp2_with fail
    refine (ret_as (a2Long_any A B n m c d _ hn hm) hlo).mono ?_
    rintro e w' ⟨rfl, g0, rfl⟩
    go_wp2_with fail
    refine (a2Entries_any A n c zs _ HZ.out (HR.out.below (by repeat (first | exact Below.refl _ _ | refine bl_tr ?_ _ | refine bl_al ?_ _ | refine bl_dr ?_ | refine bl_up ?_ _ | refine Below.drew ?_ | refine bl_alloc ?_ _ | refine Below.setCell ?_ (by first | (simp; done) | (simp; omega)) _))) hn3.1).mono ?_
    rintro e V ⟨l, A', c', rfl, ho, hv, hs, hl, hu⟩
    have hu0 := (show UpOf w (up w g0) from ⟨g0, rfl⟩)
    have HU := Lib.hid (hu0.tr hu.below)
    have HO := Lib.hid (Rds.of_own ho)
    have HV := Lib.hid hv
    have HSO := Lib.hid hs
    have hmb := (mkB_bd l hv).1
    have hcm := code_mk hv hs (by omega)
    have HCL := Lib.hid (cut_len hv hs)
    have HMM := Lib.hid (mkB_mono l)
    have HPR := Lib.hid (mkB_pre l)
    have HAD := Lib.hid (fun k (h : k < l.length) => step_add hv hs (by omega) h)
    have hall := Lib.hid (show (mkB (l.take l.length)).1 = (mkB l).1 by rw [List.take_length])
    have hen := Lib.hid (show enR (mkB l).1 = (l, 0) by rw [enR_ok hcm.1, hcm.2.1])
    have hlg := lgR_0 hv hs (by omega)
    obtain ⟨T, hTT⟩ : ∃ T, (mkB l).1 = T := ⟨_, rfl⟩
    rw [hTT] at hlg hmb HCL HMM HPR hen hall
    clear hu ho hv hu0 hcm hTT hs
    have hln : ∀ x ∈ l, x.what.size ≤ 9223372036854775807 := fun x hx => by have := (nameB_bd (vEntry_inv (HV.out x hx)).2.2.1).2; omega
    go_wp2_with fail
    have cl := logOfI_any A' c' l V HO.out (by omega) hln (HT.out.below HU.out.below)
    rw [hlg] at cl
    refine cl.mono ?_
    clear cl hln hlg
    rintro e w' ⟨rfl, g1, rfl⟩
    go_wp2_with fail
    have cn := entriesOfI_any T (up V g1) (by omega) (HT.out.below (HU.out.tr (by repeat (first | exact Below.refl _ _ | refine bl_tr ?_ _ | refine bl_al ?_ _ | refine bl_dr ?_ | refine bl_up ?_ _ | refine Below.drew ?_ | refine bl_alloc ?_ _ | refine Below.setCell ?_ (by first | (simp; done) | (simp; omega)) _))).below)
    rw [hen.out] at cn
    refine cn.mono ?_
    clear cn hen
    rintro e V2 ⟨A2, c2, rfl, o2, hu2⟩
    have HO2 := Lib.hid (Rds.of_own o2)
    have hB2 : Below V.heap.size V V2 := (up_below V g1).trans (hu2.below.mono (up_below V g1).size)
    have HL2 := Lib.hid (HO.out.below hB2)
    have HU2 := Lib.hid (HU.out.tr hB2)
    clear o2 hu2 hB2 HU HO
    go_wp2_with (first | ((with_reducible refine wp_region_up (by kernel_rfl) (by kernel_rfl) ?_); (repeat (go_big_quiet_step (fail))); refine wpQuiet_nil ?_; intro _ hw'; obtain ⟨nq, hw''⟩ := hw'; subst hw''))
    go_loopw [10, 11] (fun s i wr => ∃ (k : Nat) (X : ByteArray), k ≤ l.length ∧ i = i64 k ∧ s = .string X ∧ Hid ((mkB (l.take k)).1 = X) ∧ ∃ g : Up V2, wr = up V2 g) (fun _ i _ => l.length - (intOf i).toNat)
    case atStart => exact ⟨0, _, by omega, rfl, rfl, rfl, ex_up (by repeat (first | exact Below.refl _ _ | refine bl_tr ?_ _ | refine bl_al ?_ _ | refine bl_dr ?_ | refine bl_up ?_ _ | refine Below.drew ?_ | refine bl_alloc ?_ _ | refine Below.setCell ?_ (by first | (simp; done) | (simp; omega)) _))⟩
    case round =>
      obtain ⟨k, X, hk, rfl, rfl, hX, g, rfl⟩ := hrel
      by_cases hlt : k < l.length
      · have hmx := HMM.out k
        rw [hX.out] at hmx
        have hmy := HMM.out (k + 1)
        have hpre := HPR.out (k + 1)
        have had := HAD.out k hlt
        rw [hX.out] at had
        obtain ⟨Y, hY⟩ : ∃ Y, (mkB (l.take (k + 1))).1 = Y := ⟨_, rfl⟩
        rw [hY] at hmy hpre had
        have HAd := Lib.hid had
        have hxs := (nameB_bd (vEntry_inv (HV.out l[k] (List.getElem_mem hlt))).2.2.1).2
        obtain ⟨b1, off1, rfl, hb1, x0, x1, x2⟩ := en_at HO2.out hlt
        obtain ⟨b2, off2, rfl, hb2, y0, y1, y2⟩ := en_at HL2.out hlt
        have HN := Lib.hid hY
        have ca := fun (g9 : Up V2) => addEntryI_any X l[k] (up V2 g9) (by omega) (by omega) (HT.out.below (HU2.out.tr (up_below V2 g9)).below)
        rw [had] at ca
        have CA := Lib.hid ca
        have hle : decide ((Y.size : Int) > (T.size : Int)) = false := decide_eq_false (by omega)
        clear had hY ca
        go_wp2_with (first | ((with_reducible refine wp_region_up (by kernel_rfl) (by kernel_rfl) ?_); (repeat (go_big_quiet_step (fail))); refine wpQuiet_nil ?_; intro _ hw'; obtain ⟨nq, hw''⟩ := hw'; subst hw''))
        refine (CA.out _).mono ?_
        rintro e w' ⟨rfl, g3, rfl⟩
        go_wp2_with (first | ((with_reducible refine wp_region_up (by kernel_rfl) (by kernel_rfl) ?_); (repeat (go_big_quiet_step (fail))); refine wpQuiet_nil ?_; intro _ hw'; obtain ⟨nq, hw''⟩ := hw'; subst hw''))
        go_roundw
        case rel => exact ⟨k + 1, Y, by omega, by go_num, rfl, HN, ex_up (by repeat (first | exact Below.refl _ _ | refine bl_tr ?_ _ | refine bl_al ?_ _ | refine bl_dr ?_ | refine bl_up ?_ _ | refine Below.drew ?_ | refine bl_alloc ?_ _ | refine Below.setCell ?_ (by first | (simp; done) | (simp; omega)) _))⟩
        case measure => (simp [intOf]; try omega)
      · obtain rfl : k = l.length := by omega
        have hX2 : X = T := hX.out.symm.trans hall.out
        subst hX2
        clear hX hall HMM HPR HAD
        go_wp2_with (first | ((with_reducible refine wp_region_up (by kernel_rfl) (by kernel_rfl) ?_); (repeat (go_big_quiet_step (fail))); refine wpQuiet_nil ?_; intro _ hw'; obtain ⟨nq, hw''⟩ := hw'; subst hw''))
        refine (a2At_any B m d ys 0 _ HY.out (HR2.out.below (HU2.out.tr (by repeat (first | exact Below.refl _ _ | refine bl_tr ?_ _ | refine bl_al ?_ _ | refine bl_dr ?_ | refine bl_up ?_ _ | refine Below.drew ?_ | refine bl_alloc ?_ _ | refine Below.setCell ?_ (by first | (simp; done) | (simp; omega)) _))).below) hn3.2).mono ?_
        rintro e w' ⟨p, rfl, hp, g3, rfl⟩
        go_wp2_with (first | ((with_reducible refine wp_region_up (by kernel_rfl) (by kernel_rfl) ?_); (repeat (go_big_quiet_step (fail))); refine wpQuiet_nil ?_; intro _ hw'; obtain ⟨nq, hw''⟩ := hw'; subst hw''))
        refine (a2At_any B m d ys 1 _ HY.out (HR2.out.below (HU2.out.tr (by repeat (first | exact Below.refl _ _ | refine bl_tr ?_ _ | refine bl_al ?_ _ | refine bl_dr ?_ | refine bl_up ?_ _ | refine Below.drew ?_ | refine bl_alloc ?_ _ | refine Below.setCell ?_ (by first | (simp; done) | (simp; omega)) _))).below) hn3.2).mono ?_
        rintro e w' ⟨q, rfl, hq, g4, rfl⟩
        go_wp2_with (first | ((with_reducible refine wp_region_up (by kernel_rfl) (by kernel_rfl) ?_); (repeat (go_big_quiet_step (fail))); refine wpQuiet_nil ?_; intro _ hw'; obtain ⟨nq, hw''⟩ := hw'; subst hw''))
        have hmi : 0 ≤ min ((p : Int) + (q : Int)) (X.size : Int) ∧ min ((p : Int) + (q : Int)) (X.size : Int) ≤ (X.size : Int) := by omega
        generalize min ((p : Int) + (q : Int)) (X.size : Int) = r at *
        obtain ⟨r, rfl⟩ : ∃ y : Nat, r = (y : Int) := ⟨r.toNat, by omega⟩
        have hrX : r ≤ X.size := by omega
        rw [Int.toNat_natCast]
        have hUz : (X.extract 0 r).size = r := by rw [ByteArray.size_extract]; omega
        have hcu := HCL.out r hrX
        have hmr := (logR_inv (X.extract 0 r)).1
        have hke := kept_ok (s := X.extract 0 r) (by omega)
        have hrc := rcR_0 (s := X.extract 0 r) (by omega)
        have hck := ckR_0 (s := X.extract 0 r) (by omega)
        have hex : (X.extract 0 r).extract 0 (logR (X.extract 0 r)).2.2 = X.extract 0 (logR (X.extract 0 r)).2.2 := by
          apply ba_ext
          rw [ex_list, ex_list, ex_list, List.take_take, Nat.min_eq_left (by omega)]
        have henK : enR ((X.extract 0 r).extract 0 (logR (X.extract 0 r)).2.2) = ((logR (X.extract 0 r)).1, 0) := by rw [enR_ok hke.1, hke.2]
        have hKz : ((X.extract 0 r).extract 0 (logR (X.extract 0 r)).2.2).size = (logR (X.extract 0 r)).2.2 := by rw [ByteArray.size_extract]; omega
        clear hke
        generalize hU : X.extract 0 r = U at *
        generalize logR U = M at *
        obtain ⟨lk, st, mm⟩ := M
        dsimp only at *
        generalize U.extract 0 mm = Y at *
        have hex2 := hex.symm
        clear hex
        have cr := recoverLogI_any U (up V2 ((g.tr g3).tr g4)) (by omega) (HT.out.below (HU2.out.tr (by repeat (first | exact Below.refl _ _ | refine bl_tr ?_ _ | refine bl_al ?_ _ | refine bl_dr ?_ | refine bl_up ?_ _ | refine Below.drew ?_ | refine bl_alloc ?_ _ | refine Below.setCell ?_ (by first | (simp; done) | (simp; omega)) _))).below)
        rw [hrc] at cr
        refine cr.mono ?_
        clear cr hrc
        rintro e w' ⟨rfl, g5, rfl⟩
        go_wp2_with (first | ((with_reducible refine wp_region_up (by kernel_rfl) (by kernel_rfl) ?_); (repeat (go_big_quiet_step (fail))); refine wpQuiet_nil ?_; intro _ hw'; obtain ⟨nq, hw''⟩ := hw'; subst hw''))
        have cr := checkLogI_any U _ (by omega) (HT.out.below (HU2.out.tr (V' := up V2 (((g.tr g3).tr g4).tr g5)) (by repeat (first | exact Below.refl _ _ | refine bl_tr ?_ _ | refine bl_al ?_ _ | refine bl_dr ?_ | refine bl_up ?_ _ | refine Below.drew ?_ | refine bl_alloc ?_ _ | refine Below.setCell ?_ (by first | (simp; done) | (simp; omega)) _))).below)
        rw [hck] at cr
        refine cr.mono ?_
        clear cr hck
        rintro e w' ⟨rfl, g6, rfl⟩
        go_wp2_with (first | ((with_reducible refine wp_region_up (by kernel_rfl) (by kernel_rfl) ?_); (repeat (go_big_quiet_step (fail))); refine wpQuiet_nil ?_; intro _ hw'; obtain ⟨nq, hw''⟩ := hw'; subst hw''))
        have hdl : decide (lk.length ≤ l.length) = true := decide_eq_true hcu
        have ce := entriesOfS_any Y (up V2 ((((g.tr g3).tr g4).tr g5).tr g6)) (by omega)
        rw [henK] at ce
        refine ce.mono ?_
        clear ce henK
        rintro e w' ⟨A3, c3, rfl, o3, g7, rfl⟩
        clear o3
        go_wp2_with (first | ((with_reducible refine wp_region_up (by kernel_rfl) (by kernel_rfl) ?_); (repeat (go_big_quiet_step (fail))); refine wpQuiet_nil ?_; intro _ hw'; obtain ⟨nq, hw''⟩ := hw'; subst hw''))
        go_ret
        exact ⟨rfl, HU2.out.tr (by repeat (first | exact Below.refl _ _ | refine bl_tr ?_ _ | refine bl_al ?_ _ | refine bl_dr ?_ | refine bl_up ?_ _ | refine Below.drew ?_ | refine bl_alloc ?_ _ | refine Below.setCell ?_ (by first | (simp; done) | (simp; omega)) _))⟩
  · go_enter Tryd.func13, Tryd.ntmps13
    go_wp2_with (first | (go_at_call 29; refine (ret_as (a2Long_any A B n m c d _ hn hm) hlo).mono ?_; rintro e w' ⟨rfl, g, rfl⟩) | ((with_reducible refine wp_region_up (by kernel_rfl) (by kernel_rfl) ?_); (repeat (go_big_quiet_step (first | (go_at_call 29; first | exact upq_tr (ret_as (a2Long_any A B n m c d _ hn hm) hlo) | exact upq (ret_as (a2Long_any A B n m c d _ hn hm) hlo))))); refine wpQuiet_nil ?_; intro _ hw'; obtain ⟨nq, hw''⟩ := hw'; subst hw''))
    go_ret
    exact ⟨rfl, UpOf.of (by repeat (first | exact Below.refl _ _ | refine bl_tr ?_ _ | refine bl_al ?_ _ | refine bl_dr ?_ | refine bl_up ?_ _ | refine Below.drew ?_ | refine bl_alloc ?_ _ | refine Below.setCell ?_ (by first | (simp; done) | (simp; omega)) _))⟩
end Go.Proofs.YtkjomkiajdjhpaaDoor

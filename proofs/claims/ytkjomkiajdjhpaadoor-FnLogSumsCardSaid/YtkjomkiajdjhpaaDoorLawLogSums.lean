/-
  The law FnLogSums: its walk. Premise on the world: the laid table.
-/
import Derived.Test.YtkjomkiajdjhpaaDoorLogSumsP
import Derived.Test.YtkjomkiajdjhpaaDoorDrawLog
import Derived.Test.YtkjomkiajdjhpaaDoorLogOfS
namespace Go.Proofs.YtkjomkiajdjhpaaDoor
open Go.RowKit
set_option maxRecDepth 10000 in
theorem a2Entries_any (A : Option Addr) (n c : Nat) (zs : List Int) (w : World) (hz : ∀ z ∈ zs, 0 ≤ z ∧ z ≤ 255) (h : Rds w 1 A n (bytes zs)) (hn : n ≤ 3000) :
    Calls Tryd.prog 30 #[.slice A n c] w fun e w' => ∃ (l : List Entry) (A' : Option Addr) (c' : Nat), e = .returned (.slice A' l.length c') ∧ w'.ownsRow w.heap.size 27 3 (.slice A' l.length c') l.length (encs l) ∧ (∀ x ∈ l, vEntry x = true) ∧ sortE l ∧ l.length ≤ 7 ∧ UpOf w w' := by
  have HR := Lib.hid h
  clear h
  go_enter Tryd.func30, Tryd.ntmps30
  go_wp2_with fail
  refine (l00From_any A n c _).mono ?_
  rintro e w1 ⟨rfl, rfl⟩
  go_wp2_with fail
  refine (entries_any w.heap.size A n c 0 7 _ (src_new w A n c) (byt_new hz HR.out _) (by omega) (by omega) (by omega)).mono ?_
  rintro e w2 ⟨l, A', c', rfl, ho, hv, hs, hl, hg⟩
  have HO := Lib.hid ho
  have HG := Lib.hid hg
  clear ho hg
  go_wp2_with fail
  go_ret
  exact ⟨l, A', c', rfl, own_mono HO.out (by simp), hv, hs, hl, up_of_grown ((Below.refl _ _).alloc (Nat.le_refl _) _) HG.out (fun k hk => by injection hk with hk; omega)⟩
def longB (n m : Nat) : Bool := decide (3000 < n ∨ 3000 < m)
set_option maxRecDepth 10000 in
theorem a2Long_any (A B : Option Addr) (n m c d : Nat) (w : World) (hn : n ≤ 9223372036854775807) (hm : m ≤ 9223372036854775807) :
    Calls Tryd.prog 29 #[.slice A n c, .slice B m d] w fun e w' => e = .returned (.bool (longB n m)) ∧ UpOf w w' := by
  by_cases h1 : (3000 : Int) < n
  · have hd := Lib.hid (show longB n m = true from decide_eq_true (by omega))
    go_enter Tryd.func29, Tryd.ntmps29
    go_wp2_with (first | ((with_reducible refine wp_region_up (by kernel_rfl) (by kernel_rfl) ?_); (repeat (go_big_quiet_step (fail))); refine wpQuiet_nil ?_; intro _ hw'; obtain ⟨nq, hw''⟩ := hw'; subst hw''))
    go_ret
    exact ⟨ret_bool hd.out.symm, UpOf.of (by repeat (first | exact Below.refl _ _ | refine bl_tr ?_ _ | refine bl_al ?_ _ | refine bl_dr ?_ | refine bl_up ?_ _ | refine Below.drew ?_ | refine bl_alloc ?_ _ | refine Below.setCell ?_ (by first | (simp; done) | (simp; omega)) _))⟩
  · by_cases h2 : (3000 : Int) < m
    · have hd := Lib.hid (show longB n m = true from decide_eq_true (by omega))
      go_enter Tryd.func29, Tryd.ntmps29
      go_wp2_with (first | ((with_reducible refine wp_region_up (by kernel_rfl) (by kernel_rfl) ?_); (repeat (go_big_quiet_step (fail))); refine wpQuiet_nil ?_; intro _ hw'; obtain ⟨nq, hw''⟩ := hw'; subst hw''))
      go_ret
      exact ⟨ret_bool hd.out.symm, UpOf.of (by repeat (first | exact Below.refl _ _ | refine bl_tr ?_ _ | refine bl_al ?_ _ | refine bl_dr ?_ | refine bl_up ?_ _ | refine Below.drew ?_ | refine bl_alloc ?_ _ | refine Below.setCell ?_ (by first | (simp; done) | (simp; omega)) _))⟩
    · have hd := Lib.hid (show longB n m = false from decide_eq_false (by omega))
      go_enter Tryd.func29, Tryd.ntmps29
      go_wp2_with (first | ((with_reducible refine wp_region_up (by kernel_rfl) (by kernel_rfl) ?_); (repeat (go_big_quiet_step (fail))); refine wpQuiet_nil ?_; intro _ hw'; obtain ⟨nq, hw''⟩ := hw'; subst hw''))
      go_ret
      exact ⟨ret_bool hd.out.symm, UpOf.of (by repeat (first | exact Below.refl _ _ | refine bl_tr ?_ _ | refine bl_al ?_ _ | refine bl_dr ?_ | refine bl_up ?_ _ | refine Below.drew ?_ | refine bl_alloc ?_ _ | refine Below.setCell ?_ (by first | (simp; done) | (simp; omega)) _))⟩
set_option maxRecDepth 10000 in
theorem a2Sum_any (A : Option Addr) (c : Nat) (l : List Int) (w : World) (h : Rds w 1 A l.length (ics l)) (hn : l.length ≤ 1000) (hb : ∀ y ∈ l, -1000000 ≤ y ∧ y ≤ 1000000) :
    Calls Tryd.prog 33 #[.slice A l.length c] w fun e w' => e = .returned (i64 (sumI l)) ∧ UpOf w w' := by
  have HR := Lib.hid h
  have HB := Lib.hid hb
  clear h hb
  go_enter Tryd.func33, Tryd.ntmps33
  go_wp2_with (first | ((with_reducible refine wp_region_up (by kernel_rfl) (by kernel_rfl) ?_); (repeat (go_big_quiet_step (fail))); refine wpQuiet_nil ?_; intro _ hw'; obtain ⟨nq, hw''⟩ := hw'; subst hw''))
  go_loopw [3, 4] (fun s i wr => ∃ (k : Nat) (v : Int), k ≤ l.length ∧ i = i64 k ∧ s = i64 v ∧ Hid (sumI (l.take k) = v) ∧ ∃ g : Up w, wr = up w g) (fun _ i _ => l.length - (intOf i).toNat)
  case atStart => exact ⟨0, 0, by omega, rfl, rfl, rfl, ex_up (by repeat (first | exact Below.refl _ _ | refine bl_tr ?_ _ | refine bl_al ?_ _ | refine bl_dr ?_ | refine bl_up ?_ _ | refine Below.drew ?_ | refine bl_alloc ?_ _ | refine Below.setCell ?_ (by first | (simp; done) | (simp; omega)) _))⟩
  case round =>
    obtain ⟨k, v, hk, rfl, rfl, hv, g, rfl⟩ := hrel
    by_cases hlt : k < l.length
    · obtain ⟨b, off, rfl, hbb, hcc⟩ := HR.out.at (by omega)
      have c0 := hcc k _ (ics_get hlt)
      have hbd := sumI_bd (l.take k) 1000000 (fun y hy => HB.out y (List.mem_of_mem_take hy))
      rw [hv.out, List.length_take, Nat.min_eq_left hk] at hbd
      have hy := HB.out l[k] (List.getElem_mem hlt)
      have hN := Lib.hid (show sumI (l.take (k + 1)) = v + l[k] by rw [sumI_take hlt, hv.out])
      clear hcc
      go_wp2_with (first | ((with_reducible refine wp_region_up (by kernel_rfl) (by kernel_rfl) ?_); (repeat (go_big_quiet_step (fail))); refine wpQuiet_nil ?_; intro _ hw'; obtain ⟨nq, hw''⟩ := hw'; subst hw''))
      go_roundw
      case rel => exact ⟨k + 1, v + l[k], by omega, by go_num, rfl, hN, ex_up (by repeat (first | exact Below.refl _ _ | refine bl_tr ?_ _ | refine bl_al ?_ _ | refine bl_dr ?_ | refine bl_up ?_ _ | refine Below.drew ?_ | refine bl_alloc ?_ _ | refine Below.setCell ?_ (by first | (simp; done) | (simp; omega)) _))⟩
      case measure => (simp [intOf]; try omega)
    · obtain rfl : k = l.length := by omega
      have hv2 := hv.out
      rw [List.take_of_length_le (Nat.le_refl _)] at hv2
      have HV := Lib.hid hv2
      clear hv hv2
      go_wp2_with (first | ((with_reducible refine wp_region_up (by kernel_rfl) (by kernel_rfl) ?_); (repeat (go_big_quiet_step (fail))); refine wpQuiet_nil ?_; intro _ hw'; obtain ⟨nq, hw''⟩ := hw'; subst hw''))
      go_ret
      exact ⟨ret_int HV.out.symm, UpOf.of (by repeat (first | exact Below.refl _ _ | refine bl_tr ?_ _ | refine bl_al ?_ _ | refine bl_dr ?_ | refine bl_up ?_ _ | refine Below.drew ?_ | refine bl_alloc ?_ _ | refine Below.setCell ?_ (by first | (simp; done) | (simp; omega)) _))⟩
theorem names_name {l : List Entry} (h : ∀ x ∈ l, vEntry x = true) {j : Nat} (hj : j < (namesN l).length) : nameB (namesN l)[j] = true := by
  obtain ⟨x, hx, e⟩ := (names_all l).2.2 _ (List.getElem_mem hj)
  rw [← e]
  exact (vEntry_inv (h x hx)).2.2.1
theorem tot_bd {N : List ByteArray} {l : List Entry} (hv : ∀ x ∈ l, vEntry x = true) (hl : l.length ≤ 7) : -(7000000 * (N.length : Int)) ≤ tot N l ∧ tot N l ≤ 7000000 * (N.length : Int) := by
  have := sumI_bd (N.map fun n => sumW n 0 100000 l) 7000000 (fun y hy => by
    rw [List.mem_map] at hy
    obtain ⟨n, _, rfl⟩ := hy
    have := sumW_bd n 0 100000 l hv
    omega)
  rw [List.length_map] at this
  exact this
theorem cnt_bd (l : List Entry) : ∀ N : List ByteArray, cnt N l ≤ N.length * l.length
  | [] => by simp [cnt]
  | n :: N => by
    have := cnt_bd l N
    have := vals_len n l
    rw [cnt, List.length_cons, Nat.add_mul]
    omega
theorem sumV_bd : ∀ l : List Entry, (∀ x ∈ l, vEntry x = true) → -(1000000 * (l.length : Int)) ≤ sumV l ∧ sumV l ≤ 1000000 * (l.length : Int)
  | [], _ => by simp [sumV]
  | x :: l, h => by
    obtain ⟨_, _, _, h1, h2⟩ := vEntry_inv (h x (by simp))
    have ih := sumV_bd l fun y hy => h y (by simp [hy])
    rw [sumV]
    simp only [List.length_cons]
    omega
set_option maxRecDepth 10000 in
set_option maxHeartbeats 4000000 in
theorem law_logSums (A : Option Addr) (n c : Nat) (zs : List Int) (w : World) (hz : ∀ z ∈ zs, 0 ≤ z ∧ z ≤ 255) (h : Rds w 1 A n (bytes zs)) (hn : n ≤ 9223372036854775807) (ht : Tab w) :
    Calls Tryd.prog 8 #[.slice A n c] w fun e w' => e = .returned (.bool true) ∧ UpOf w w' := by
  have HT := Lib.hid ht
  have HR := Lib.hid h
  have HZ := Lib.hid hz
  clear ht h hz
  cases hlo : longB n 0
  · have hn3 : n ≤ 3000 := by have := of_decide_eq_false hlo; omega
    go_enter Tryd.func8, Tryd.ntmps8
    go_wp2_with fail
    refine (ret_as (a2Long_any A none n 0 c 0 _ hn (by omega)) hlo).mono ?_
    rintro e w' ⟨rfl, g0, rfl⟩
    go_wp2_with fail
    refine (a2Entries_any A n c zs _ HZ.out (HR.out.below (by repeat (first | exact Below.refl _ _ | refine bl_tr ?_ _ | refine bl_al ?_ _ | refine bl_dr ?_ | refine bl_up ?_ _ | refine Below.drew ?_ | refine bl_alloc ?_ _ | refine Below.setCell ?_ (by first | (simp; done) | (simp; omega)) _))) hn3).mono ?_
    rintro e V ⟨l, A', c', rfl, ho, hv, hs, hl, hu⟩
    have hu0 := (show UpOf w (up w g0) from ⟨g0, rfl⟩)
    have HU := Lib.hid (hu0.tr hu.below)
    have HO := Lib.hid (Rds.of_own ho)
    have HV := Lib.hid hv
    have hmb := (mkB_bd l hv).1
    have hcm := code_mk hv hs (by omega)
    have HC := Lib.hid hcm.1
    have HE := Lib.hid hcm.2.1
    have hlg := lgR_0 hv hs (by omega)
    obtain ⟨T, hTT⟩ : ∃ T, (mkB l).1 = T := ⟨_, rfl⟩
    rw [hTT] at hlg hmb
    have hcT : codeL T = 0 := by rw [← hTT]; exact HC.out
    have hE : entsL T = l := by rw [← hTT]; exact HE.out
    have HCT := Lib.hid hcT
    have HET := Lib.hid hE
    have hna := Lib.hid (show naR T = (namesN l, 0) by rw [naR_ok hcT, hE])
    clear hu ho hv hu0 hcm hTT hcT hE HC HE
    have hln : ∀ x ∈ l, x.what.size ≤ 9223372036854775807 := fun x hx => by have := (nameB_bd (vEntry_inv (HV.out x hx)).2.2.1).2; omega
    have HLN := Lib.hid hln
    go_wp2_with fail
    have cl := logOfS_any A' c' l V HO.out (by omega) HLN.out
    rw [hlg] at cl
    refine cl.mono ?_
    clear cl hln hlg
    rintro e w' ⟨rfl, g1, rfl⟩
    go_wp2_with fail
    have cn := namesInI_any T (up V g1) (by omega) (HT.out.below (HU.out.tr (by repeat (first | exact Below.refl _ _ | refine bl_tr ?_ _ | refine bl_al ?_ _ | refine bl_dr ?_ | refine bl_up ?_ _ | refine Below.drew ?_ | refine bl_alloc ?_ _ | refine Below.setCell ?_ (by first | (simp; done) | (simp; omega)) _))).below)
    rw [hna.out] at cn
    refine cn.mono ?_
    clear cn hna
    rintro e V2 ⟨A2, c2, rfl, o2, hu2⟩
    have HO2 := Lib.hid (Rds.of_own o2)
    have hB2 : Below V.heap.size V V2 := (up_below V g1).trans (hu2.below.mono (up_below V g1).size)
    have HL2 := Lib.hid (HO.out.below hB2)
    have HU2 := Lib.hid (HU.out.tr hB2)
    have hnl := names_len l
    have hne := names_empty l
    clear o2 hu2 hB2 HU HO
    have hall := all_names (names_all l).1 HV.out (names_all l).2.1
    have HTOT := Lib.hid hall.1
    have HCNT := Lib.hid hall.2
    have HNN := Lib.hid (fun j (hj : j < (namesN l).length) => names_name HV.out hj)
    have HVP := Lib.hid (fun j (hj : j < (namesN l).length) => vals_pos ((names_all l).2.2 _ (List.getElem_mem hj)))
    generalize namesN l = N at *
    clear hall
    obtain ⟨bz, hbz⟩ : ∃ bz, ((l.length : Int) == 0) = bz := ⟨_, rfl⟩
    have hbz2 : ((N.length : Int) == 0) = bz := by
      rw [← hbz, Bool.eq_iff_iff, beq_iff_eq, beq_iff_eq]
      constructor
      · intro hh; have := hne.1 (by omega); omega
      · intro hh; have := hne.2 (by omega); omega
    go_wp2_with fail
    go_loopw [8, 9, 10] (fun s m i wr => ∃ (j : Nat) (v : Int) (q : Nat), j ≤ N.length ∧ i = i64 j ∧ s = i64 v ∧ m = i64 q ∧ Hid (tot (N.take j) l = v) ∧ Hid (cnt (N.take j) l = q) ∧ ∃ g : Up V2, wr = up V2 g) (fun _ _ i _ => N.length - (intOf i).toNat)
    case atStart => exact ⟨0, 0, 0, by omega, rfl, rfl, rfl, rfl, rfl, ex_up (by repeat (first | exact Below.refl _ _ | refine bl_tr ?_ _ | refine bl_al ?_ _ | refine bl_dr ?_ | refine bl_up ?_ _ | refine Below.drew ?_ | refine bl_alloc ?_ _ | refine Below.setCell ?_ (by first | (simp; done) | (simp; omega)) _))⟩
    case round =>
      obtain ⟨j, v, q, hj, rfl, rfl, rfl, hv, hq, g, rfl⟩ := hrel
      by_cases hlt : j < N.length
      · obtain ⟨b2, off2, rfl, hb2, hcc⟩ := str_at HO2.out hlt
        have y0 := hcc j hlt
        rw [show N.getD j ByteArray.empty = N[j] by simp [hlt]] at y0
        have hbd := tot_bd (N := N.take j) HV.out hl
        rw [hv.out, List.length_take, Nat.min_eq_left hj] at hbd
        have hcb := cnt_bd l (N.take j)
        rw [hq.out, List.length_take, Nat.min_eq_left hj] at hcb
        have hcb2 : q ≤ 49 := Nat.le_trans hcb (Nat.le_trans (Nat.mul_le_mul (show j ≤ 7 by omega) hl) (by decide))
        have hnb := HNN.out j hlt
        have hsz := (nameB_bd hnb).2
        have hvp := HVP.out j hlt
        have hvl := vals_len N[j] l
        have hsw := sumW_vals HV.out N[j]
        have hsb := sumW_bd N[j] 0 100000 l HV.out
        have hsu := Lib.hid (show suR T N[j] 0 100000 = (sumW N[j] 0 100000 l, 0) by rw [suR_0 HCT.out (by rw [suB, hnb]; rfl), HET.out])
        have hva := Lib.hid (show vaR T N[j] = (vals N[j] l, 0) by rw [vaR_0 HCT.out hnb, HET.out])
        have hN1 := Lib.hid (show tot (N.take (j + 1)) l = v + sumW N[j] 0 100000 l by rw [tot_take hlt, hv.out])
        have hN2 := Lib.hid (show cnt (N.take (j + 1)) l = q + (vals N[j] l).length by rw [cnt_take hlt, hq.out])
        have hvb := Lib.hid (vals_bd HV.out N[j])
        have hpos : (((vals N[j] l).length : Int) == 0) = false := by rw [beq_eq_false_iff_ne]; omega
        obtain ⟨S, hS⟩ : ∃ S, sumW N[j] 0 100000 l = S := ⟨_, rfl⟩
        rw [hS] at hsb hsw
        have HS := Lib.hid hS
        clear hcc hS hcb
        go_wp2_with fail
        have cs := sumOfI_any T N[j] 0 100000 (up V2 g) (by omega) (by omega) (HT.out.below (HU2.out.tr (by repeat (first | exact Below.refl _ _ | refine bl_tr ?_ _ | refine bl_al ?_ _ | refine bl_dr ?_ | refine bl_up ?_ _ | refine Below.drew ?_ | refine bl_alloc ?_ _ | refine Below.setCell ?_ (by first | (simp; done) | (simp; omega)) _))).below)
        rw [hsu.out, HS.out] at cs
        refine cs.mono ?_
        clear cs
        rintro e w' ⟨rfl, g1, rfl⟩
        go_wp2_with fail
        have cv := valuesOfI_any T N[j] _ (by omega) (by omega) (HT.out.below (HU2.out.tr (V' := up V2 (g.tr g1)) (by repeat (first | exact Below.refl _ _ | refine bl_tr ?_ _ | refine bl_al ?_ _ | refine bl_dr ?_ | refine bl_up ?_ _ | refine Below.drew ?_ | refine bl_alloc ?_ _ | refine Below.setCell ?_ (by first | (simp; done) | (simp; omega)) _))).below)
        rw [hva.out] at cv
        refine cv.mono ?_
        clear cv
        rintro e V3 ⟨A3, c3, rfl, o3, hu3⟩
        have HO3 := Lib.hid (Rds.of_own o3)
        obtain ⟨g3, rfl⟩ := hu3
        clear o3
        go_wp2_with fail
        refine (a2Sum_any A3 c3 (vals N[j] l) _ (HO3.out.below (by repeat (first | exact Below.refl _ _ | refine bl_tr ?_ _ | refine bl_al ?_ _ | refine bl_dr ?_ | refine bl_up ?_ _ | refine Below.drew ?_ | refine bl_alloc ?_ _ | refine Below.setCell ?_ (by first | (simp; done) | (simp; omega)) _))) (by omega) hvb.out).mono ?_
        rintro e w' ⟨rfl, g4, rfl⟩
        go_wp2_with (first | ((with_reducible refine wp_region_up (by kernel_rfl) (by kernel_rfl) ?_); (repeat (go_big_quiet_step (fail))); refine wpQuiet_nil ?_; intro _ hw'; obtain ⟨nq, hw''⟩ := hw'; subst hw''))
        go_roundw
        case rel => exact ⟨j + 1, v + sumI (vals N[j] l), q + (vals N[j] l).length, by omega, by go_num, by go_num, by go_num, Lib.hid (by rw [hN1.out, sumW_vals HV.out]), hN2, ex_up (by repeat (first | exact Below.refl _ _ | refine bl_tr ?_ _ | refine bl_al ?_ _ | refine bl_dr ?_ | refine bl_up ?_ _ | refine Below.drew ?_ | refine bl_alloc ?_ _ | refine Below.setCell ?_ (by first | (simp; done) | (simp; omega)) _))⟩
        case measure => (simp [intOf]; try omega)
      · obtain rfl : j = N.length := by omega
        have hv2 := hv.out
        have hq2 := hq.out
        rw [List.take_of_length_le (Nat.le_refl _)] at hv2 hq2
        rw [HTOT.out] at hv2
        rw [HCNT.out] at hq2
        subst hv2 hq2
        clear hv hq
        go_wp2_with (first | ((with_reducible refine wp_region_up (by kernel_rfl) (by kernel_rfl) ?_); (repeat (go_big_quiet_step (fail))); refine wpQuiet_nil ?_; intro _ hw'; obtain ⟨nq, hw''⟩ := hw'; subst hw''))
        refine wpg (R := fun V => UpOf V2 V) (UpOf.of (by repeat (first | exact Below.refl _ _ | refine bl_tr ?_ _ | refine bl_al ?_ _ | refine bl_dr ?_ | refine bl_up ?_ _ | refine Below.drew ?_ | refine bl_alloc ?_ _ | refine Below.setCell ?_ (by first | (simp; done) | (simp; omega)) _))) (fun W hu => ?_)
        have HU3 := Lib.hid hu
        have HL3 := Lib.hid (HL2.out.below hu.below)
        clear hu
        go_loopw [15, 16] (fun s i wr => ∃ (k : Nat) (v : Int), k ≤ l.length ∧ i = i64 k ∧ s = i64 v ∧ Hid (sumV (l.take k) = v) ∧ ∃ g : Up W, wr = up W g) (fun _ i _ => l.length - (intOf i).toNat)
        case atStart => exact ⟨0, 0, by omega, rfl, rfl, rfl, ex_up (by repeat (first | exact Below.refl _ _ | refine bl_tr ?_ _ | refine bl_al ?_ _ | refine bl_dr ?_ | refine bl_up ?_ _ | refine Below.drew ?_ | refine bl_alloc ?_ _ | refine Below.setCell ?_ (by first | (simp; done) | (simp; omega)) _))⟩
        case round =>
          obtain ⟨k, v, hk, rfl, rfl, hv, g5, rfl⟩ := hrel
          by_cases hlt2 : k < l.length
          · obtain ⟨b, off, rfl, hb, x0, x1, x2⟩ := en_at HL3.out hlt2
            have hvb := sumV_bd (l.take k) (fun x hx => HV.out x (List.mem_of_mem_take hx))
            rw [hv.out, List.length_take, Nat.min_eq_left hk] at hvb
            obtain ⟨_, _, _, y1, y2⟩ := vEntry_inv (HV.out l[k] (List.getElem_mem hlt2))
            have hN := Lib.hid (show sumV (l.take (k + 1)) = v + l[k].value by rw [sumV_take hlt2, hv.out])
            go_wp2_with (first | ((with_reducible refine wp_region_up (by kernel_rfl) (by kernel_rfl) ?_); (repeat (go_big_quiet_step (fail))); refine wpQuiet_nil ?_; intro _ hw'; obtain ⟨nq, hw''⟩ := hw'; subst hw''))
            go_roundw
            case rel => exact ⟨k + 1, v + l[k].value, by omega, by go_num, rfl, hN, ex_up (by repeat (first | exact Below.refl _ _ | refine bl_tr ?_ _ | refine bl_al ?_ _ | refine bl_dr ?_ | refine bl_up ?_ _ | refine Below.drew ?_ | refine bl_alloc ?_ _ | refine Below.setCell ?_ (by first | (simp; done) | (simp; omega)) _))⟩
            case measure => (simp [intOf]; try omega)
          · obtain rfl : k = l.length := by omega
            have hv2 := hv.out
            rw [List.take_of_length_le (Nat.le_refl _)] at hv2
            subst hv2
            clear hv
            go_wp2_with (first | ((with_reducible refine wp_region_up (by kernel_rfl) (by kernel_rfl) ?_); (repeat (go_big_quiet_step (fail))); refine wpQuiet_nil ?_; intro _ hw'; obtain ⟨nq, hw''⟩ := hw'; subst hw''))
            go_ret
            exact ⟨rfl, (HU2.out.tr HU3.out.below).tr (by repeat (first | exact Below.refl _ _ | refine bl_tr ?_ _ | refine bl_al ?_ _ | refine bl_dr ?_ | refine bl_up ?_ _ | refine Below.drew ?_ | refine bl_alloc ?_ _ | refine Below.setCell ?_ (by first | (simp; done) | (simp; omega)) _))⟩
  · go_enter Tryd.func8, Tryd.ntmps8
    go_wp2_with (first | (go_at_call 29; refine (ret_as (a2Long_any A none n 0 c 0 _ hn (by omega)) hlo).mono ?_; rintro e w' ⟨rfl, g, rfl⟩) | ((with_reducible refine wp_region_up (by kernel_rfl) (by kernel_rfl) ?_); (repeat (go_big_quiet_step (first | (go_at_call 29; first | exact upq_tr (ret_as (a2Long_any A none n 0 c 0 _ hn (by omega)) hlo) | exact upq (ret_as (a2Long_any A none n 0 c 0 _ hn (by omega)) hlo))))); refine wpQuiet_nil ?_; intro _ hw'; obtain ⟨nq, hw''⟩ := hw'; subst hw''))
    go_ret
    exact ⟨rfl, UpOf.of (by repeat (first | exact Below.refl _ _ | refine bl_tr ?_ _ | refine bl_al ?_ _ | refine bl_dr ?_ | refine bl_up ?_ _ | refine Below.drew ?_ | refine bl_alloc ?_ _ | refine Below.setCell ?_ (by first | (simp; done) | (simp; omega)) _))⟩
end Go.Proofs.YtkjomkiajdjhpaaDoor

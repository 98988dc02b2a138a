/-
  The law FnTests: its walk. No condition.
-/
import Derived.Test.YtfggbcmpgkhlaaaA2Defects
import Derived.Test.YtfggbcmpgkhlaaaA2At
import Derived.Test.YtfggbcmpgkhlaaaAlike
import Derived.Test.YtfggbcmpgkhlaaaTest9
import Derived.Test.YtfggbcmpgkhlaaaPossible
namespace Go.Proofs.Ytfggbcmpgkhlaaa
open Go.RowKit
theorem sizes_drawn {m : Nat} {l : List Defect} (h : drawnD m l) (hm : m ≤ 5) : sizesD l := fun i hi => by
  obtain ⟨hn, _, hz, _⟩ := h.2 i hi
  have h7 := h.1
  rw [hn, hz]
  have : ∀ k, k < 7 → (nm7.getD k ⟨#[]⟩).size ≤ 10 := by decide
  have := this i (by omega)
  omega
theorem worstR_0 {l : List Defect} {ps : List Int} {s : ByteArray} (h : codeT l ps s = 0) : worstR l ps s = ((wst l ps s).1, 0) := by rw [worstR, if_pos h]
theorem a2Has_pre {A : Option Addr} {c : Nat} {l : List Int} {k : Nat} {v : Int} {w : World} (h : Rds w 1 A l.length (ics l)) (hk : k ≤ l.length) (hn : l.length ≤ 1000000) :
    Calls Try.prog 16 #[.slice A k c, i64 v] w fun e w' => e = .returned (.bool ((l.take k).contains v)) ∧ UpOf w w' := by
  have hl : (l.take k).length = k := by rw [List.length_take]; omega
  have h2 := h.pre hk
  rw [Nat.mul_one, show (ics l).take k = ics (l.take k) by simp [ics, List.map_take]] at h2
  have := a2Has_any A c (l.take k) v w (by rw [hl]; exact h2) (by omega)
  rwa [hl] at this
theorem take_no {l : List Int} (h : l.Nodup) {k : Nat} (hk : k < l.length) : (l.take k).contains l[k] = false := by
  rw [← Bool.not_eq_true, List.contains_iff_mem]
  intro hm
  obtain ⟨j, hj, e⟩ := List.getElem_of_mem hm
  rw [List.length_take] at hj
  rw [List.getElem_take] at e
  have hjk : j < k := by omega
  exact (List.pairwise_iff_getElem.1 h) j k (by omega) hk hjk e
theorem sumT_take {ps ts : List Int} {k : Nat} (hk : k < ts.length) : sumT ps (ts.take (k + 1)) = sumT ps (ts.take k) + num ps (num ts k).toNat := by
  rw [List.take_succ_eq_append_getElem hk, sumT_snoc, num_eq hk]
theorem sumT_bd {l : List Defect} {ps ts : List Int} (hv : vDefects l ps = true) (ht : ∀ x ∈ ts, 0 ≤ x ∧ x < ps.length) (k : Nat) (hk : k ≤ ts.length) : 0 ≤ sumT ps (ts.take k) ∧ sumT ps (ts.take k) ≤ 100 * (k : Int) := by
  rw [← sumP_sumT ps ts k hk]
  exact sumP_bd hv ht k hk
set_option maxRecDepth 10000 in
set_option maxHeartbeats 4000000 in
theorem law_tests (A : Option Addr) (n c : Nat) (zs : List Int) (B : Option Addr) (m d : Nat) (ys : List Int) (w : World) (hz : ∀ z ∈ zs, 0 ≤ z ∧ z ≤ 255) (hr : Rds w 1 A n (bytes zs)) (hn : n ≤ 9223372036854775807) (hy : ∀ z ∈ ys, 0 ≤ z ∧ z ≤ 255) (hr2 : Rds w 1 B m (bytes ys)) (hm : m ≤ 9223372036854775807) :
    Calls Try.prog 3 #[.slice A n c, .slice B m d] w fun e w' => e = .returned (.bool true) ∧ UpOf w w' := by
  have HR := Lib.hid hr
  have HZ := Lib.hid hz
  have HR2 := Lib.hid hr2
  have HY := Lib.hid hy
  clear hr hz hr2 hy
  cases hlo : longB n m
  · have hn3 : n ≤ 3000 ∧ m ≤ 3000 := by have := of_decide_eq_false hlo; omega
    go_enter Try.func3, Try.ntmps3
    go_wp2_with fail
    refine (ret_as (a2Long_any A B n m c d _ hn hm) hlo).mono ?_
    rintro e w' ⟨rfl, g0, rfl⟩
    go_wp2_with fail
    refine (a2Defects_any A n c zs _ HZ.out (HR.out.below (by repeat (first | exact Below.refl _ _ | refine bl_tr ?_ _ | refine bl_al ?_ _ | refine bl_dr ?_ | refine bl_up ?_ _ | refine Below.drew ?_ | refine bl_alloc ?_ _ | refine Below.setCell ?_ (by first | (simp; done) | (simp; omega)) _))) hn3.1).mono ?_
    rintro e V ⟨l, ps, A1, c1, A2, c2, rfl, hl, hp, hd, h5, h12, hu⟩
    have hu0 := (show UpOf w (up w g0) from ⟨g0, rfl⟩)
    have HU := Lib.hid (hu0.tr hu.below)
    have HL := Lib.hid hl
    have HP := Lib.hid hp
    have hv := drawn_ok hd h5 h12
    have HSZ := Lib.hid (sizes_drawn hd h5)
    have hl7 := hd.1
    clear hu hu0 hl hp h12
    by_cases hl0 : l.length = 0
    · have hl0' : ((l.length : Int) == 0) = true := by rw [beq_iff_eq]; omega
      go_wp2_with fail
      go_ret
      exact ⟨rfl, HU.out⟩
    have hl0' : ((l.length : Int) == 0) = false := by rw [beq_eq_false_iff_ne]; omega
    go_wp2_with fail
    refine (a2At_any B m d ys 0 l.length V HY.out (HR2.out.below HU.out.below) hn3.2 (by omega) (by omega)).mono ?_
    rintro e w' ⟨D, rfl, hD, g1, rfl⟩
    have hbt : btw (D : Int) 0 ((l.length : Int) - 1) = true := decide_eq_true (by omega)
    have hvd := (vDefects_inv hv).2.2.2 D hD
    have hok := runT_ok hv hvd (qs ps.length) (qs_size _)
    have hrR := runR_0 hv hbt
    have htR := tpR_0 hv hbt
    have hans := run_answers hvd hok
    have hcod := codeT_0 hv hans
    have hqs : answersB (qs ps.length) ps.length = true := answersB_true (qs_size _) fun i hi => by rw [qs_size] at hi; rw [qs_at hi]; rfl
    have hw0 := worstR_0 (codeT_0 hv hqs)
    have htl := runT_len l ps (dat l D) (qs ps.length)
    rw [qs_size] at htl
    have hsame := run_same hD hok
    have hone := fun ha => run_one hD hok ha (fitN_up l (runT l ps (dat l D) (qs ps.length)).2 l.length).2 (fitN_up l (runT l ps (dat l D) (qs ps.length)).2 l.length).1
    have hris := fitL_rises l (runT l ps (dat l D) (qs ps.length)).2
    have hfl := fitL_len l (runT l ps (dat l D) (qs ps.length)).2
    have hpos : possR l ps (runT l ps (dat l D) (qs ps.length)).2 = (fitL l (runT l ps (dat l D) (qs ps.length)).2, 0) := by rw [possR, if_pos hcod]
    have hcut := cut6 ps.length (by omega)
    have hsgs := sgn_def l (runT l ps (dat l D) (qs ps.length)).2
    rw [sumP_all] at htR
    generalize runT l ps (dat l D) (qs ps.length) = RT at *
    obtain ⟨ts, r⟩ := RT
    dsimp only at *
    have hs5 := hok.size
    obtain ⟨hcs, hcs0⟩ := hok.cost
    generalize hv0 : (wst l ps (qs ps.length)).1 = v at *
    generalize hsm : sumT ps ts = S at *
    generalize hF : fitL l r = F at *
    have HV := Lib.hid hv
    have HVD := Lib.hid hvd
    have HOK := Lib.hid hok
    have HSAME := Lib.hid hsame
    have HONE := Lib.hid hone
    have HRIS := Lib.hid hris
    have HSM := Lib.hid hsm
    have HSGS := Lib.hid hsgs
    clear hv hvd hok hsame hone hris hqs hans hsm hv0 hF hsgs hd
    go_wp2_with fail
    refine (runI' hrR _ (HL.out.below (by repeat (first | exact Below.refl _ _ | refine bl_tr ?_ _ | refine bl_al ?_ _ | refine bl_dr ?_ | refine bl_up ?_ _ | refine Below.drew ?_ | refine bl_alloc ?_ _ | refine Below.setCell ?_ (by first | (simp; done) | (simp; omega)) _))) (HP.out.below (by repeat (first | exact Below.refl _ _ | refine bl_tr ?_ _ | refine bl_al ?_ _ | refine bl_dr ?_ | refine bl_up ?_ _ | refine Below.drew ?_ | refine bl_alloc ?_ _ | refine Below.setCell ?_ (by first | (simp; done) | (simp; omega)) _))) (by omega) (by omega) HSZ.out).mono ?_
    rintro e V2 ⟨A3, c3, rfl, ho, hu⟩
    have hB2 : Below V.heap.size V V2 := (up_below V g1).trans (hu.below.mono (up_below V g1).size)
    have HU2 := Lib.hid (HU.out.tr hB2)
    have HL2 := Lib.hid (HL.out.below hB2)
    have HP2 := Lib.hid (HP.out.below hB2)
    have HT2 := Lib.hid (Rds.of_own ho)
    have hc3 := own_cap ho
    clear ho hu hB2 HU HL HP hrR
    go_wp2_with fail
    have cw := tpI_any A1 A2 c1 c2 l ps D V2 HL2.out HP2.out (by omega) (by omega) HSZ.out
    rw [htR] at cw
    refine cw.mono ?_
    clear cw htR
    rintro e w' ⟨rfl, g2, rfl⟩
    go_wp2_with fail
    have cw := worstI_any A1 A2 c1 c2 l ps (qs ps.length) (up V2 g2) (HL2.out.below (by repeat (first | exact Below.refl _ _ | refine bl_tr ?_ _ | refine bl_al ?_ _ | refine bl_dr ?_ | refine bl_up ?_ _ | refine Below.drew ?_ | refine bl_alloc ?_ _ | refine Below.setCell ?_ (by first | (simp; done) | (simp; omega)) _))) (HP2.out.below (by repeat (first | exact Below.refl _ _ | refine bl_tr ?_ _ | refine bl_al ?_ _ | refine bl_dr ?_ | refine bl_up ?_ _ | refine Below.drew ?_ | refine bl_alloc ?_ _ | refine Below.setCell ?_ (by first | (simp; done) | (simp; omega)) _))) (by omega) (by omega) HSZ.out (by rw [qs_size]; omega)
    rw [hw0] at cw
    refine cw.mono ?_
    clear cw hw0 hcut
    rintro e w' ⟨rfl, g3, rfl⟩
    go_wp2_with fail
    have cw := possI_any A1 A2 c1 c2 l ps r (up V2 (g2.tr g3)) (HL2.out.below (by repeat (first | exact Below.refl _ _ | refine bl_tr ?_ _ | refine bl_al ?_ _ | refine bl_dr ?_ | refine bl_up ?_ _ | refine Below.drew ?_ | refine bl_alloc ?_ _ | refine Below.setCell ?_ (by first | (simp; done) | (simp; omega)) _))) (HP2.out.below (by repeat (first | exact Below.refl _ _ | refine bl_tr ?_ _ | refine bl_al ?_ _ | refine bl_dr ?_ | refine bl_up ?_ _ | refine Below.drew ?_ | refine bl_alloc ?_ _ | refine Below.setCell ?_ (by first | (simp; done) | (simp; omega)) _))) (by omega) (by omega) HSZ.out (by omega)
    rw [hpos] at cw
    refine cw.mono ?_
    clear cw hpos
    rintro e W ⟨A4, c4, rfl, ho, hu⟩
    have hB := (up_below V2 (g2.tr g3)).trans (hu.below.mono (up_below V2 (g2.tr g3)).size)
    have HU3 := Lib.hid (HU2.out.tr hB)
    have HL3 := Lib.hid (HL2.out.below hB)
    have HP3 := Lib.hid (HP2.out.below hB)
    have HT3 := Lib.hid (HT2.out.below hB)
    have HF3 := Lib.hid (Rds.of_own ho)
    clear ho hu hB HU2 HL2 HP2 HT2
    have hcon := Lib.hid (show F.contains (D : Int) = true by rw [List.contains_iff_mem]; exact HSAME.out.1)
    have hb1 : ((r.size : Int) != (ps.length : Int)) = false := by rw [bne_eq_false_iff_eq]; omega
    have hb2 : decide (S > v) = false := decide_eq_false (by omega)
    have hb3 : decide (S < 0) = false := decide_eq_false (by omega)
    go_wp2_with (first | (go_at_call 16; refine (ret_as (a2Has_any A4 c4 F D _ (HF3.out.below (by repeat (first | exact Below.refl _ _ | refine bl_tr ?_ _ | refine bl_al ?_ _ | refine bl_dr ?_ | refine bl_up ?_ _ | refine Below.drew ?_ | refine bl_alloc ?_ _ | refine Below.setCell ?_ (by first | (simp; done) | (simp; omega)) _))) (by omega)) hcon.out).mono ?_; rintro e w' ⟨rfl, g, rfl⟩) | (go_at_call 17; refine (a2Rises_any A4 c4 F l.length _ (HF3.out.below (by repeat (first | exact Below.refl _ _ | refine bl_tr ?_ _ | refine bl_al ?_ _ | refine bl_dr ?_ | refine bl_up ?_ _ | refine Below.drew ?_ | refine bl_alloc ?_ _ | refine Below.setCell ?_ (by first | (simp; done) | (simp; omega)) _))) (by omega) HRIS.out).mono ?_; rintro e w' ⟨rfl, g, rfl⟩) | ((with_reducible refine wp_region_up (by kernel_rfl) (by kernel_rfl) ?_); (repeat (go_big_quiet_step (first | (go_at_call 16; first | exact upq_tr (ret_as (a2Has_any A4 c4 F D _ (HF3.out.below (by repeat (first | exact Below.refl _ _ | refine bl_tr ?_ _ | refine bl_al ?_ _ | refine bl_dr ?_ | refine bl_up ?_ _ | refine Below.drew ?_ | refine bl_alloc ?_ _ | refine Below.setCell ?_ (by first | (simp; done) | (simp; omega)) _))) (by omega)) hcon.out) | exact upq (ret_as (a2Has_any A4 c4 F D _ (HF3.out.below (by repeat (first | exact Below.refl _ _ | refine bl_tr ?_ _ | refine bl_al ?_ _ | refine bl_dr ?_ | refine bl_up ?_ _ | refine Below.drew ?_ | refine bl_alloc ?_ _ | refine Below.setCell ?_ (by first | (simp; done) | (simp; omega)) _))) (by omega)) hcon.out)) | (go_at_call 17; first | exact upq_tr (a2Rises_any A4 c4 F l.length _ (HF3.out.below (by repeat (first | exact Below.refl _ _ | refine bl_tr ?_ _ | refine bl_al ?_ _ | refine bl_dr ?_ | refine bl_up ?_ _ | refine Below.drew ?_ | refine bl_alloc ?_ _ | refine Below.setCell ?_ (by first | (simp; done) | (simp; omega)) _))) (by omega) HRIS.out) | exact upq (a2Rises_any A4 c4 F l.length _ (HF3.out.below (by repeat (first | exact Below.refl _ _ | refine bl_tr ?_ _ | refine bl_al ?_ _ | refine bl_dr ?_ | refine bl_up ?_ _ | refine Below.drew ?_ | refine bl_alloc ?_ _ | refine Below.setCell ?_ (by first | (simp; done) | (simp; omega)) _))) (by omega) HRIS.out))))); refine wpQuiet_nil ?_; intro _ hw'; obtain ⟨nq, hw''⟩ := hw'; subst hw''))
    refine wpg (R := fun V => UpOf W V) (UpOf.of (by repeat (first | exact Below.refl _ _ | refine bl_tr ?_ _ | refine bl_al ?_ _ | refine bl_dr ?_ | refine bl_up ?_ _ | refine Below.drew ?_ | refine bl_alloc ?_ _ | refine Below.setCell ?_ (by first | (simp; done) | (simp; omega)) _))) (fun W2 hu => ?_)
    have HU4 := Lib.hid (HU3.out.tr hu.below)
    have HL4 := Lib.hid (HL3.out.below hu.below)
    have HP4 := Lib.hid (HP3.out.below hu.below)
    have HT4 := Lib.hid (HT3.out.below hu.below)
    have HF4 := Lib.hid (HF3.out.below hu.below)
    have hfs := Lib.hid (show ∀ k, k < F.length → (dat l (num F k).toNat).signs = (dat l D).signs from fun k hk => by rw [← HSGS.out k]; exact HSAME.out.2 k hk)
    have hS0 := Lib.hid (show sumT ps (ts.take ts.length) = S by rw [List.take_length]; exact HSM.out)
    have hmem := Lib.hid HOK.out.mem
    have hrng := Lib.hid (show ∀ x ∈ ts, 0 ≤ x ∧ x < (ps.length : Int) from fun x hx => ⟨(HOK.out.mem x hx).1, (HOK.out.mem x hx).2.1⟩)
    clear hu HU3 HL3 HP3 HT3 HF3 HSM HSGS
    go_loopw [17] (fun i wr => ∃ k : Nat, k ≤ F.length ∧ i = i64 k ∧ ∃ g : Up W2, wr = up W2 g) (fun i _ => F.length - (intOf i).toNat)
    case atStart => exact ⟨0, by omega, rfl, ex_up (by repeat (first | exact Below.refl _ _ | refine bl_tr ?_ _ | refine bl_al ?_ _ | refine bl_dr ?_ | refine bl_up ?_ _ | refine Below.drew ?_ | refine bl_alloc ?_ _ | refine Below.setCell ?_ (by first | (simp; done) | (simp; omega)) _))⟩
    case round =>
      obtain ⟨k, hk, rfl, g, rfl⟩ := hrel
      by_cases hlt : k < F.length
      · obtain ⟨b1, off1, rfl, hb1, hcc⟩ := HF4.out.at (by omega)
        have f0 := hcc k _ (ics_get hlt)
        have hx0 := HRIS.out.1 k hlt
        have hfk := hfs.out k hlt
        rw [num_eq hlt] at f0 hx0
        obtain ⟨X, hX⟩ : ∃ X : Nat, num F k = (X : Int) := ⟨(num F k).toNat, by omega⟩
        rw [hX] at f0 hx0 hfk
        rw [Int.toNat_natCast] at hfk
        have hXl : X < l.length := by omega
        obtain ⟨b, off, rfl, hb, hall⟩ := def_all HL4.out hXl
        obtain ⟨_, _, _, c2⟩ := hall X hXl
        obtain ⟨_, _, _, d2⟩ := hall D hD
        rw [hfk] at c2
        generalize (dat l D).signs = sg at c2 d2
        clear hcc hall hX hfk
        go_wp2_with (first | ((with_reducible refine wp_region_up (by kernel_rfl) (by kernel_rfl) ?_); (repeat (go_big_quiet_step (fail))); refine wpQuiet_nil ?_; intro _ hw'; obtain ⟨nq, hw''⟩ := hw'; subst hw''))
        go_roundw
        case rel => exact ⟨k + 1, by omega, by go_num, ex_up (by repeat (first | exact Below.refl _ _ | refine bl_tr ?_ _ | refine bl_al ?_ _ | refine bl_dr ?_ | refine bl_up ?_ _ | refine Below.drew ?_ | refine bl_alloc ?_ _ | refine Below.setCell ?_ (by first | (simp; done) | (simp; omega)) _))⟩
        case measure => (simp [intOf]; try omega)
      · obtain rfl : k = F.length := by omega
        go_wp2_with (first | ((with_reducible refine wp_region_up (by kernel_rfl) (by kernel_rfl) ?_); (repeat (go_big_quiet_step (fail))); refine wpQuiet_nil ?_; intro _ hw'; obtain ⟨nq, hw''⟩ := hw'; subst hw''))
        go_loopw [18, 19] (fun s i wr => ∃ k : Nat, k ≤ ts.length ∧ i = i64 k ∧ s = i64 (sumT ps (ts.take k)) ∧ ∃ g : Up W2, wr = up W2 g) (fun _ i _ => ts.length - (intOf i).toNat)
        case atStart => exact ⟨0, by omega, rfl, rfl, ex_up (by repeat (first | exact Below.refl _ _ | refine bl_tr ?_ _ | refine bl_al ?_ _ | refine bl_dr ?_ | refine bl_up ?_ _ | refine Below.drew ?_ | refine bl_alloc ?_ _ | refine Below.setCell ?_ (by first | (simp; done) | (simp; omega)) _))⟩
        case round =>
          obtain ⟨k, hk, rfl, rfl, g, rfl⟩ := hrel
          by_cases hlt2 : k < ts.length
          · obtain ⟨b1, off1, rfl, hb1, hcc⟩ := HT4.out.at (by omega)
            have f0 := hcc k _ (ics_get hlt2)
            have hx0 := hrng.out ts[k] (List.getElem_mem hlt2)
            have hno := Lib.hid (take_no HOK.out.nodup hlt2)
            obtain ⟨sb0, sb1⟩ := sumT_bd HV.out hrng.out k hk
            have hN := Lib.hid (sumT_take (ps := ps) hlt2)
            rw [num_eq hlt2] at f0 hx0
            have hnk := num_eq hlt2
            obtain ⟨X, hX⟩ : ∃ X : Nat, num ts k = (X : Int) := ⟨(num ts k).toNat, by omega⟩
            rw [hX] at f0 hx0 hnk
            have hno2 := Lib.hid (show (ts.take k).contains (X : Int) = false by rw [← hnk]; exact hno.out)
            have hXl : X < ps.length := by omega
            obtain ⟨b2, off2, rfl, hb2, hcc2⟩ := num_at HP4.out hXl
            have p0 := hcc2 X hXl
            obtain ⟨p1, p2⟩ := (vDefects_inv HV.out).2.2.1 X hXl
            have hN2 := Lib.hid (show sumT ps (ts.take (k + 1)) = sumT ps (ts.take k) + num ps X by rw [hN.out, hX]; rfl)
            have hkc : k ≤ c3 := by omega
            have z1 : decide ((X : Int) < 0) = false := decide_eq_false (by omega)
            have z2 : decide ((X : Int) ≥ (ps.length : Int)) = false := decide_eq_false (by omega)
            have CA := fun (V' : World) (hV : Below W2.heap.size W2 V') => ret_as (a2Has_pre (w := V') (c := c3) (k := k) (v := (X : Int)) (HT4.out.below hV) hk (by omega)) hno2.out
            have CA2 := Lib.hid CA
            clear hcc hcc2 hX hnk CA
            generalize sumT ps (ts.take k) = sk at *
            have z3 : decide (ps.length ≤ X) = false := decide_eq_false (by omega)
            have hki : (k : Int) ≤ (c3 : Int) := by omega
            have hki2 : (k : Int) < (ts.length : Int) := by omega
            go_wp2_with fail
            refine wpg (R := fun V => (b1 < V.heap.size ∧ V.cell? ⟨b1, off1 + k, none⟩ = some (i64 (X : Int))) ∧ (b2 < V.heap.size ∧ V.cell? ⟨b2, off2 + X, none⟩ = some (i64 (num ps X))) ∧ UpOf W2 V) ⟨⟨by simp [hb1], by simp [hb1, f0]⟩, ⟨by simp [hb2], by simp [hb2, p0]⟩, UpOf.of (by repeat (first | exact Below.refl _ _ | refine bl_tr ?_ _ | refine bl_al ?_ _ | refine bl_dr ?_ | refine bl_up ?_ _ | refine Below.drew ?_ | refine bl_alloc ?_ _ | refine Below.setCell ?_ (by first | (simp; done) | (simp; omega)) _))⟩ (fun V5 z => ?_)
            clear f0 p0 hb1 hb2
            obtain ⟨⟨hb1, f0⟩, ⟨hb2, p0⟩, hu⟩ := z
            have HU5 := Lib.hid hu
            clear hu
            go_wp2_with fail
            go_region_held3 (fun w' => (V5).heap.size ≤ w'.heap.size ∧ ∀ b o, b < (V5).heap.size → w'.cell? ⟨b, o, none⟩ = (V5).cell? ⟨b, o, none⟩) (exact sm_of (by repeat (first | exact Below.refl _ _ | refine bl_tr ?_ _ | refine bl_al ?_ _ | refine bl_dr ?_ | refine bl_up ?_ _ | refine Below.drew ?_ | refine bl_alloc ?_ _ | refine Below.setCell ?_ (by first | (simp; done) | (simp; omega)) _))) (first | (go_at_call 16; refine (CA2.out _ (HU5.out.tr (by repeat (first | exact Below.refl _ _ | refine bl_tr ?_ _ | refine bl_al ?_ _ | refine bl_dr ?_ | refine bl_up ?_ _ | refine Below.drew ?_ | refine bl_alloc ?_ _ | refine Below.setCell ?_ (by first | (simp; done) | (simp; omega)) _))).below).mono ?_; rintro e w' ⟨rfl, g6, rfl⟩))
            go_wp2_with fail
            refine ⟨⟨k + 1, by omega, by go_num, by rw [hN2.out], ex_up (HU5.out.tr (V' := up V5.drew g6) (by repeat (first | exact Below.refl _ _ | refine bl_tr ?_ _ | refine bl_al ?_ _ | refine bl_dr ?_ | refine bl_up ?_ _ | refine Below.drew ?_ | refine bl_alloc ?_ _ | refine Below.setCell ?_ (by first | (simp; done) | (simp; omega)) _))).below⟩, ?_⟩
            (simp [intOf]; try omega)
          · obtain rfl : k = ts.length := by omega
            rw [hS0.out]
            have HS5 := Lib.hid hs5
            clear hs5
            go_wp2_with (first | ((with_reducible refine wp_region_up (by kernel_rfl) (by kernel_rfl) ?_); (repeat (go_big_quiet_step (fail))); refine wpQuiet_nil ?_; intro _ hw'; obtain ⟨nq, hw''⟩ := hw'; subst hw''))
            go_loopw [20] (fun i wr => ∃ k : Nat, k ≤ r.size ∧ i = i64 k ∧ ∃ g : Up W2, wr = up W2 g) (fun i _ => r.size - (intOf i).toNat)
            case atStart => exact ⟨0, by omega, rfl, ex_up (by repeat (first | exact Below.refl _ _ | refine bl_tr ?_ _ | refine bl_al ?_ _ | refine bl_dr ?_ | refine bl_up ?_ _ | refine Below.drew ?_ | refine bl_alloc ?_ _ | refine Below.setCell ?_ (by first | (simp; done) | (simp; omega)) _))⟩
            case round =>
              obtain ⟨k, hk, rfl, g, rfl⟩ := hrel
              by_cases hlt3 : k < r.size
              · have hkp : k < ps.length := by have := HS5.out; omega
                have hfit := HOK.out.fit k hkp
                cases hc : ts.contains (k : Int) with
                | false =>
                  have hnm : ¬ ((k : Int) ∈ ts) := by rw [← List.contains_iff_mem, hc]; simp
                  rw [if_neg hnm, qs_at hkp] at hfit
                  have h63 : ((r[k].toNat : Int) != 63) = false := by rw [byteAt_eq hlt3, hfit]; rfl
                  have CA := Lib.hid (fun (g' : Up W2) => ret_as (a2Has_any _ c3 ts (k : Int) (up W2 g') (HT4.out.below (by repeat (first | exact Below.refl _ _ | refine bl_tr ?_ _ | refine bl_al ?_ _ | refine bl_dr ?_ | refine bl_up ?_ _ | refine Below.drew ?_ | refine bl_alloc ?_ _ | refine Below.setCell ?_ (by first | (simp; done) | (simp; omega)) _))) (by omega)) hc)
                  clear hfit hnm
                  go_wp2_with (first | (go_at_call 16; refine (CA.out _).mono ?_; rintro e w' ⟨rfl, g, rfl⟩) | ((with_reducible refine wp_region_up (by kernel_rfl) (by kernel_rfl) ?_); (repeat (go_big_quiet_step (first | (go_at_call 16; first | exact upq_tr (CA.out _) | exact upq (CA.out _))))); refine wpQuiet_nil ?_; intro _ hw'; obtain ⟨nq, hw''⟩ := hw'; subst hw''))
                  go_roundw
                  case rel => exact ⟨k + 1, by omega, by go_num, ex_up (by repeat (first | exact Below.refl _ _ | refine bl_tr ?_ _ | refine bl_al ?_ _ | refine bl_dr ?_ | refine bl_up ?_ _ | refine Below.drew ?_ | refine bl_alloc ?_ _ | refine Below.setCell ?_ (by first | (simp; done) | (simp; omega)) _))⟩
                  case measure => (simp [intOf]; try omega)
                | true =>
                  have hnm : (k : Int) ∈ ts := by rw [← List.contains_iff_mem]; exact hc
                  rw [if_pos hnm] at hfit
                  obtain ⟨_, _, _, hz, _⟩ := vDef_inv HVD.out
                  obtain ⟨b, off, rfl, hb, hall⟩ := def_all HL4.out hD
                  obtain ⟨_, _, _, d2⟩ := hall D hD
                  generalize (dat l D).signs = sg at d2 hz hfit
                  have hks : k < sg.size := by omega
                  have h63 : ((r[k].toNat : Int) != (sg[k].toNat : Int)) = false := by rw [byteAt_eq hlt3, byteAt_eq hks, hfit, bne_eq_false_iff_eq]
                  have CA := Lib.hid (fun (g' : Up W2) => ret_as (a2Has_any _ c3 ts (k : Int) (up W2 g') (HT4.out.below (by repeat (first | exact Below.refl _ _ | refine bl_tr ?_ _ | refine bl_al ?_ _ | refine bl_dr ?_ | refine bl_up ?_ _ | refine Below.drew ?_ | refine bl_alloc ?_ _ | refine Below.setCell ?_ (by first | (simp; done) | (simp; omega)) _))) (by omega)) hc)
                  clear hfit hnm hall hz
                  go_wp2_with (first | (go_at_call 16; refine (CA.out _).mono ?_; rintro e w' ⟨rfl, g, rfl⟩) | ((with_reducible refine wp_region_up (by kernel_rfl) (by kernel_rfl) ?_); (repeat (go_big_quiet_step (first | (go_at_call 16; first | exact upq_tr (CA.out _) | exact upq (CA.out _))))); refine wpQuiet_nil ?_; intro _ hw'; obtain ⟨nq, hw''⟩ := hw'; subst hw''))
                  go_roundw
                  case rel => exact ⟨k + 1, by omega, by go_num, ex_up (by repeat (first | exact Below.refl _ _ | refine bl_tr ?_ _ | refine bl_al ?_ _ | refine bl_dr ?_ | refine bl_up ?_ _ | refine Below.drew ?_ | refine bl_alloc ?_ _ | refine Below.setCell ?_ (by first | (simp; done) | (simp; omega)) _))⟩
                  case measure => (simp [intOf]; try omega)
              · obtain rfl : k = r.size := by omega
                go_wp2_with fail
                refine (areTold_any A1 A2 c1 c2 l ps _ HV.out (HL4.out.below (by repeat (first | exact Below.refl _ _ | refine bl_tr ?_ _ | refine bl_al ?_ _ | refine bl_dr ?_ | refine bl_up ?_ _ | refine Below.drew ?_ | refine bl_alloc ?_ _ | refine Below.setCell ?_ (by first | (simp; done) | (simp; omega)) _))) (HP4.out.below (by repeat (first | exact Below.refl _ _ | refine bl_tr ?_ _ | refine bl_al ?_ _ | refine bl_dr ?_ | refine bl_up ?_ _ | refine Below.drew ?_ | refine bl_alloc ?_ _ | refine Below.setCell ?_ (by first | (simp; done) | (simp; omega)) _))) (by omega) (by omega) HSZ.out).mono ?_
                rintro e w' ⟨rfl, g5, rfl⟩
                go_wp2_with (first | ((with_reducible refine wp_region_up (by kernel_rfl) (by kernel_rfl) ?_); (repeat (go_big_quiet_step (fail))); refine wpQuiet_nil ?_; intro _ hw'; obtain ⟨nq, hw''⟩ := hw'; subst hw''))
                refine (sameSigns_any A1 A2 c1 c2 l ps _ HV.out (HL4.out.below (by repeat (first | exact Below.refl _ _ | refine bl_tr ?_ _ | refine bl_al ?_ _ | refine bl_dr ?_ | refine bl_up ?_ _ | refine Below.drew ?_ | refine bl_alloc ?_ _ | refine Below.setCell ?_ (by first | (simp; done) | (simp; omega)) _))) (HP4.out.below (by repeat (first | exact Below.refl _ _ | refine bl_tr ?_ _ | refine bl_al ?_ _ | refine bl_dr ?_ | refine bl_up ?_ _ | refine Below.drew ?_ | refine bl_alloc ?_ _ | refine Below.setCell ?_ (by first | (simp; done) | (simp; omega)) _))) (by omega) (by omega) HSZ.out).mono ?_
                rintro e w' ⟨x1, x2, x3, rfl, hx3, g6, rfl⟩
                cases ha : alikeB l with
                | false =>
                  rw [ha] at hx3
                  have h1 : ((F.length : Int) == 1) = true := by rw [beq_iff_eq]; have := HONE.out ha; omega
                  go_wp2_with (first | ((with_reducible refine wp_region_up (by kernel_rfl) (by kernel_rfl) ?_); (repeat (go_big_quiet_step (fail))); refine wpQuiet_nil ?_; intro _ hw'; obtain ⟨nq, hw''⟩ := hw'; subst hw''))
                  go_ret
                  exact ⟨rfl, HU4.out.tr (by repeat (first | exact Below.refl _ _ | refine bl_tr ?_ _ | refine bl_al ?_ _ | refine bl_dr ?_ | refine bl_up ?_ _ | refine Below.drew ?_ | refine bl_alloc ?_ _ | refine Below.setCell ?_ (by first | (simp; done) | (simp; omega)) _))⟩
                | true =>
                  rw [ha] at hx3
                  go_wp2_with (first | ((with_reducible refine wp_region_up (by kernel_rfl) (by kernel_rfl) ?_); (repeat (go_big_quiet_step (fail))); refine wpQuiet_nil ?_; intro _ hw'; obtain ⟨nq, hw''⟩ := hw'; subst hw''))
                  go_ret
                  exact ⟨rfl, HU4.out.tr (by repeat (first | exact Below.refl _ _ | refine bl_tr ?_ _ | refine bl_al ?_ _ | refine bl_dr ?_ | refine bl_up ?_ _ | refine Below.drew ?_ | refine bl_alloc ?_ _ | refine Below.setCell ?_ (by first | (simp; done) | (simp; omega)) _))⟩
  · go_enter Try.func3, Try.ntmps3
    go_wp2_with (first | (go_at_call 9; refine (ret_as (a2Long_any A B n m c d _ hn hm) hlo).mono ?_; rintro e w' ⟨rfl, g, rfl⟩) | ((with_reducible refine wp_region_up (by kernel_rfl) (by kernel_rfl) ?_); (repeat (go_big_quiet_step (first | (go_at_call 9; first | exact upq_tr (ret_as (a2Long_any A B n m c d _ hn hm) hlo) | exact upq (ret_as (a2Long_any A B n m c d _ hn hm) hlo))))); refine wpQuiet_nil ?_; intro _ hw'; obtain ⟨nq, hw''⟩ := hw'; subst hw''))
    go_ret
    exact ⟨rfl, UpOf.of (by repeat (first | exact Below.refl _ _ | refine bl_tr ?_ _ | refine bl_al ?_ _ | refine bl_dr ?_ | refine bl_up ?_ _ | refine Below.drew ?_ | refine bl_alloc ?_ _ | refine Below.setCell ?_ (by first | (simp; done) | (simp; omega)) _))⟩
end Go.Proofs.Ytfggbcmpgkhlaaa

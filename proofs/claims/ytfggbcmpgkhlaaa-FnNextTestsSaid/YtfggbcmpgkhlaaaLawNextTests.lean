/-
  The law FnNextTests: its walk. No condition.
-/
import Derived.Test.YtfggbcmpgkhlaaaA2Defects
import Derived.Test.YtfggbcmpgkhlaaaA2Answers
import Derived.Test.YtfggbcmpgkhlaaaLikeliest
import Derived.Deep.RegionHeld3
import Derived.Laws.Strings2
namespace Go.Proofs.Ytfggbcmpgkhlaaa
open Go.RowKit
theorem ans_ok {l : List UInt8} {n : Nat} (h : ansOk l) (hl : l.length = n) : answersB ⟨l.toArray⟩ n = true := answersB_true hl fun i hi => by
  have hi' : i < l.length := hi
  have e : byteAt ⟨l.toArray⟩ i = l[i] := by simp [byteAt, hi']
  rw [e]
  rcases h l[i] (List.getElem_mem hi') with e | e | e <;> rw [e] <;> rfl
theorem put_ok {s : ByteArray} {n t : Nat} {c : UInt8} (h : answersB s n = true) (ht : t < s.size) (hc : ansC c = true) : answersB (put s t c) n = true := by
  obtain ⟨h1, h2⟩ := answersB_inv h
  refine answersB_true (by rw [put_size, h1]) fun i hi => ?_
  rw [put_at s t c i ht]
  split
  · exact hc
  · exact h2 i (by rwa [put_size] at hi)
theorem worstR_0 {l : List Defect} {ps : List Int} {s : ByteArray} (h : codeT l ps s = 0) : worstR l ps s = ((wst l ps s).1, 0) := by rw [worstR, if_pos h]
theorem worstS' {l : List Defect} {ps : List Int} {s : ByteArray} {v : Int} (hv : codeT l ps s = 0) (hw : (wst l ps s).1 = v) (w : World) {A B : Option Addr} {c d : Nat} (h : Rds w 3 A l.length (dfcs l)) (hp : Rds w 1 B ps.length (ics ps)) (hn : l.length ≤ 100000000) (hm : ps.length ≤ 100000000) (hs : sizesD l) (ha : s.size ≤ 100000000) :
    Calls Try.prog 23 #[.slice A l.length c, .slice B ps.length d, .string s] w fun e w' => e = .returned (.tuple #[i64 v, i64 0]) ∧ UpOf w w' := by
  have := worstS_any A B c d l ps s w h hp hn hm hs ha
  rw [worstR_0 hv, hw] at this
  exact this
/-- what the law asks of the worst price, the next test and its code -/
def nextOk (l : List Defect) (ps : List Int) (s : ByteArray) (v x r : Int) : Prop :=
  (r = 6 ∧ v = 0) ∨ (r = 0 ∧ ∃ t : Nat, x = t ∧ t < ps.length ∧ (byteAt s t).toNat = 63 ∧ v = thr l ps s t ∧ ∀ u, u < ps.length → (byteAt s u).toNat = 63 → thr l ps s t ≤ thr l ps s u ∧ (u < t → thr l ps s t < thr l ps s u))
theorem next_ok {l : List Defect} {ps : List Int} {s : ByteArray} (hv : vDefects l ps = true) (hc : codeT l ps s = 0) (hs : s.size = ps.length) : nextOk l ps s (wst l ps s).1 (nextR l ps s).1 (nextR l ps s).2 := by
  rw [nextR, if_pos hc]
  cases hf : foundB l s
  · obtain ⟨t, h1, h2, h3, h4⟩ := wst_spec hv hs hf
    rw [if_neg (by simp), h2]
    exact .inr ⟨rfl, t, rfl, h1, h3, rfl, h4⟩
  · rw [if_pos rfl, wst_found hf]
    exact .inl ⟨rfl, rfl⟩
theorem sizes_drawn {m : Nat} {l : List Defect} (h : drawnD m l) (hm : m ≤ 5) : sizesD l := fun i hi => by
  obtain ⟨hn, _, hz, _⟩ := h.2 i hi
  have h7 := h.1
  rw [hn, hz]
  have : ∀ k, k < 7 → (nm7.getD k ⟨#[]⟩).size ≤ 10 := by decide
  have := this i (by omega)
  omega
set_option maxRecDepth 10000 in
set_option maxHeartbeats 4000000 in
theorem law_nextTests (A : Option Addr) (n c : Nat) (zs : List Int) (B : Option Addr) (m d : Nat) (ys : List Int) (w : World) (hz : ∀ z ∈ zs, 0 ≤ z ∧ z ≤ 255) (hr : Rds w 1 A n (bytes zs)) (hn : n ≤ 9223372036854775807) (hy : ∀ z ∈ ys, 0 ≤ z ∧ z ≤ 255) (hr2 : Rds w 1 B m (bytes ys)) (hm : m ≤ 9223372036854775807) :
    Calls Try.prog 4 #[.slice A n c, .slice B m d] w fun e w' => e = .returned (.bool true) ∧ UpOf w w' := by
  have HR := Lib.hid hr
  have HZ := Lib.hid hz
  have HR2 := Lib.hid hr2
  have HY := Lib.hid hy
  clear hr hz hr2 hy
  cases hlo : longB n m
  · have hn3 : n ≤ 3000 ∧ m ≤ 3000 := by have := of_decide_eq_false hlo; omega
    go_enter Try.func4, Try.ntmps4
    go_wp2_with fail
    refine (ret_as (a2Long_any A B n m c d _ hn hm) hlo).mono ?_
    rintro e w' ⟨rfl, g0, rfl⟩
    go_wp2_with fail
    refine (a2Defects_any A n c zs _ HZ.out (HR.out.below (by repeat (first | exact Below.refl _ _ | refine bl_tr ?_ _ | refine bl_al ?_ _ | refine bl_dr ?_ | refine bl_up ?_ _ | refine Below.drew ?_ | refine bl_alloc ?_ _ | refine Below.setCell ?_ (by first | (simp; done) | (simp; omega)) _))) hn3.1).mono ?_
    rintro e V ⟨l, ps, A1, c1, A2, c2, rfl, hl, hp, hd, h5, h12, hu⟩
    have hu0 := (show UpOf w (up w g0) from ⟨g0, rfl⟩)
    have HU := Lib.hid (hu0.tr hu.below)
    have HL := Lib.hid hl
    have HP := Lib.hid hp
    have hv := drawn_ok hd h5 h12
    have hsz := sizes_drawn hd h5
    have HSZ := Lib.hid hsz
    have hl7 := hd.1
    clear hu hu0 hl hp h12 hsz
    go_wp2_with fail
    refine (a2Answers_any B m d ps.length ys V HY.out (HR2.out.below HU.out.below) hn3.2 (by omega)).mono ?_
    rintro e w' ⟨al, rfl, hal, hok, g1, rfl⟩
    have hab := ans_ok hok hal
    obtain ⟨s, hs⟩ : ∃ s, (⟨al.toArray⟩ : ByteArray) = s := ⟨_, rfl⟩
    rw [hs] at hab ⊢
    have hss := (answersB_inv hab).1
    have hct := codeT_0 hv hab
    have hwst := worstR_0 hct
    have hnx := next_ok hv hct hss
    obtain ⟨v, hvv⟩ : ∃ v, (wst l ps s).1 = v := ⟨_, rfl⟩
    obtain ⟨x, hx⟩ : ∃ x, (nextR l ps s).1 = x := ⟨_, rfl⟩
    obtain ⟨r, hrr⟩ : ∃ r, (nextR l ps s).2 = r := ⟨_, rfl⟩
    rw [hvv, hx, hrr] at hnx
    rw [hvv] at hwst
    have HNX := Lib.hid hnx
    have HV := Lib.hid hv
    have HAB := Lib.hid hab
    have HSS := Lib.hid hss
    have hs5 : s.size ≤ 5 := by omega
    clear hs hok hal hnx hv hss
    have cw := worstI_any A1 A2 c1 c2 l ps s (up V g1) (HL.out.below (by repeat (first | exact Below.refl _ _ | refine bl_tr ?_ _ | refine bl_al ?_ _ | refine bl_dr ?_ | refine bl_up ?_ _ | refine Below.drew ?_ | refine bl_alloc ?_ _ | refine Below.setCell ?_ (by first | (simp; done) | (simp; omega)) _))) (HP.out.below (by repeat (first | exact Below.refl _ _ | refine bl_tr ?_ _ | refine bl_al ?_ _ | refine bl_dr ?_ | refine bl_up ?_ _ | refine Below.drew ?_ | refine bl_alloc ?_ _ | refine Below.setCell ?_ (by first | (simp; done) | (simp; omega)) _))) (by omega) (by omega) HSZ.out (by omega)
    rw [hwst] at cw
    go_wp2_with fail
    refine cw.mono ?_
    clear cw
    rintro e w' ⟨rfl, g2, rfl⟩
    have cw := nextI_any A1 A2 c1 c2 l ps s (up V (g1.tr g2)) (HL.out.below (by repeat (first | exact Below.refl _ _ | refine bl_tr ?_ _ | refine bl_al ?_ _ | refine bl_dr ?_ | refine bl_up ?_ _ | refine Below.drew ?_ | refine bl_alloc ?_ _ | refine Below.setCell ?_ (by first | (simp; done) | (simp; omega)) _))) (HP.out.below (by repeat (first | exact Below.refl _ _ | refine bl_tr ?_ _ | refine bl_al ?_ _ | refine bl_dr ?_ | refine bl_up ?_ _ | refine Below.drew ?_ | refine bl_alloc ?_ _ | refine Below.setCell ?_ (by first | (simp; done) | (simp; omega)) _))) (by omega) (by omega) HSZ.out (by omega)
    rw [hx, hrr] at cw
    go_wp2_with fail
    refine cw.mono ?_
    clear cw
    rintro e w' ⟨rfl, g3, rfl⟩
    have cw := possI_any A1 A2 c1 c2 l ps s (up V ((g1.tr g2).tr g3)) (HL.out.below (by repeat (first | exact Below.refl _ _ | refine bl_tr ?_ _ | refine bl_al ?_ _ | refine bl_dr ?_ | refine bl_up ?_ _ | refine Below.drew ?_ | refine bl_alloc ?_ _ | refine Below.setCell ?_ (by first | (simp; done) | (simp; omega)) _))) (HP.out.below (by repeat (first | exact Below.refl _ _ | refine bl_tr ?_ _ | refine bl_al ?_ _ | refine bl_dr ?_ | refine bl_up ?_ _ | refine Below.drew ?_ | refine bl_alloc ?_ _ | refine Below.setCell ?_ (by first | (simp; done) | (simp; omega)) _))) (by omega) (by omega) HSZ.out (by omega)
    rw [show possR l ps s = (fitL l s, 0) by rw [possR, if_pos hct]] at cw
    go_wp2_with fail
    refine cw.mono ?_
    clear cw
    rintro e W ⟨A3, c3, rfl, ho, hu⟩
    have HU2 := Lib.hid (HU.out.tr (V' := W) ((up_below V _).trans (hu.below.mono (up_below V _).size)))
    have HL2 := Lib.hid (HL.out.below ((up_below V _).trans (hu.below.mono (up_below V _).size)))
    have HP2 := Lib.hid (HP.out.below ((up_below V _).trans (hu.below.mono (up_below V _).size)))
    have HF := Lib.hid (Rds.of_own ho)
    have hrs := fitL_rises l s
    have HRS := Lib.hid hrs
    have hfl := fitL_len l s
    clear ho hu HU HL HP hrs
    go_wp2_with fail
    refine (likI_any A1 A2 c1 c2 l ps s W HL2.out HP2.out (by omega) (by omega) HSZ.out (by omega) hct).mono ?_
    rintro e w' ⟨y, q, rfl, hlk, g4, rfl⟩
    have HLK := Lib.hid hlk
    obtain ⟨bz, hbz⟩ : ∃ bz, (((fitL l s).length : Int) == 0) = bz := ⟨_, rfl⟩
    have hbz2 : (q == 3) = bz := by
      rw [← hbz, Bool.eq_iff_iff, beq_iff_eq, beq_iff_eq]
      rcases hlk with ⟨h1, rfl⟩ | ⟨h1, rfl, _⟩
      · rw [h1]; simp
      · constructor
        · intro h; omega
        · intro h; exact absurd (List.eq_nil_of_length_eq_zero (by omega)) h1
    clear hlk
    generalize fitL l s = F at *
    go_wp2_with fail
    refine (a2Rises_any A3 c3 F l.length _ (HF.out.below (by repeat (first | exact Below.refl _ _ | refine bl_tr ?_ _ | refine bl_al ?_ _ | refine bl_dr ?_ | refine bl_up ?_ _ | refine Below.drew ?_ | refine bl_alloc ?_ _ | refine Below.setCell ?_ (by first | (simp; done) | (simp; omega)) _))) (by omega) HRS.out).mono ?_
    rintro e w' ⟨rfl, g5, rfl⟩
    go_wp2_with fail
    refine wpg (R := fun V => UpOf W V) (UpOf.of (by repeat (first | exact Below.refl _ _ | refine bl_tr ?_ _ | refine bl_al ?_ _ | refine bl_dr ?_ | refine bl_up ?_ _ | refine Below.drew ?_ | refine bl_alloc ?_ _ | refine Below.setCell ?_ (by first | (simp; done) | (simp; omega)) _))) (fun W2 hu => ?_)
    have HU3 := Lib.hid (HU2.out.tr hu.below)
    have HL3 := Lib.hid (HL2.out.below hu.below)
    have HP3 := Lib.hid (HP2.out.below hu.below)
    have HF3 := Lib.hid (HF.out.below hu.below)
    clear hu HL2 HP2 HF HU2
    go_loopw [16] (fun i wr => ∃ k : Nat, k ≤ F.length ∧ i = i64 k ∧ ∃ g : Up W2, wr = up W2 g) (fun i _ => F.length - (intOf i).toNat)
    case atStart => exact ⟨0, by omega, rfl, ex_up (by repeat (first | exact Below.refl _ _ | refine bl_tr ?_ _ | refine bl_al ?_ _ | refine bl_dr ?_ | refine bl_up ?_ _ | refine Below.drew ?_ | refine bl_alloc ?_ _ | refine Below.setCell ?_ (by first | (simp; done) | (simp; omega)) _))⟩
    case round =>
      obtain ⟨k, hk, rfl, g, rfl⟩ := hrel
      by_cases hlt : k < F.length
      · have hb := HLK.out
        rcases hb with ⟨h1, _⟩ | ⟨_, _, hb⟩
        · rw [h1] at hlt; simp at hlt
        have hcon := Lib.hid (show F.contains y = true by rw [List.contains_iff_mem]; exact hb.1)
        have hwle := hb.2 F[k] (List.getElem_mem hlt)
        have hx0 := HRS.out.1 k hlt
        obtain ⟨jy, hjy, hey⟩ := List.getElem_of_mem hb.1
        have hy0 := HRS.out.1 jy hjy
        rw [hey] at hy0
        obtain ⟨Y, rfl⟩ : ∃ Y : Nat, y = (Y : Int) := ⟨y.toNat, by omega⟩
        obtain ⟨X, hX⟩ : ∃ X : Nat, F[k] = (X : Int) := ⟨F[k].toNat, by omega⟩
        obtain ⟨b3, off3, rfl, hb3, hcc⟩ := HF3.out.at (by omega)
        have f0 := hcc k _ (ics_get hlt)
        rw [hX] at f0 hx0 hwle
        simp only [wtD, Int.toNat_natCast] at hwle
        obtain ⟨b1, off1, rfl, hb1, hall⟩ := def_all HL3.out (k := X) (by omega)
        obtain ⟨_, _, wx, _⟩ := hall X (by omega)
        obtain ⟨_, _, wy, _⟩ := hall Y (by omega)
        have hXl : X < l.length := by omega
        have hYl : Y < l.length := by omega
        have hgt : decide ((dat l X).weight > (dat l Y).weight) = false := decide_eq_false (by omega)
        clear hb hcc hall hX hey hjy hwle
        go_wp2_with (first | (go_at_call 16; refine (ret_as (a2Has_any _ c3 F Y _ (HF3.out.below (by repeat (first | exact Below.refl _ _ | refine bl_tr ?_ _ | refine bl_al ?_ _ | refine bl_dr ?_ | refine bl_up ?_ _ | refine Below.drew ?_ | refine bl_alloc ?_ _ | refine Below.setCell ?_ (by first | (simp; done) | (simp; omega)) _))) (by omega)) hcon.out).mono ?_; rintro e w' ⟨rfl, g, rfl⟩) | ((with_reducible refine wp_region_up (by kernel_rfl) (by kernel_rfl) ?_); (repeat (go_big_quiet_step (first | (go_at_call 16; first | exact upq_tr (ret_as (a2Has_any _ c3 F Y _ (HF3.out.below (by repeat (first | exact Below.refl _ _ | refine bl_tr ?_ _ | refine bl_al ?_ _ | refine bl_dr ?_ | refine bl_up ?_ _ | refine Below.drew ?_ | refine bl_alloc ?_ _ | refine Below.setCell ?_ (by first | (simp; done) | (simp; omega)) _))) (by omega)) hcon.out) | exact upq (ret_as (a2Has_any _ c3 F Y _ (HF3.out.below (by repeat (first | exact Below.refl _ _ | refine bl_tr ?_ _ | refine bl_al ?_ _ | refine bl_dr ?_ | refine bl_up ?_ _ | refine Below.drew ?_ | refine bl_alloc ?_ _ | refine Below.setCell ?_ (by first | (simp; done) | (simp; omega)) _))) (by omega)) hcon.out))))); refine wpQuiet_nil ?_; intro _ hw'; obtain ⟨nq, hw''⟩ := hw'; subst hw''))
        go_roundw
        case rel => exact ⟨k + 1, by omega, by go_num, ex_up (by repeat (first | exact Below.refl _ _ | refine bl_tr ?_ _ | refine bl_al ?_ _ | refine bl_dr ?_ | refine bl_up ?_ _ | refine Below.drew ?_ | refine bl_alloc ?_ _ | refine Below.setCell ?_ (by first | (simp; done) | (simp; omega)) _))⟩
        case measure => (simp [intOf]; try omega)
      · obtain rfl : k = F.length := by omega
        rcases HNX.out with ⟨rfl, rfl⟩ | ⟨rfl, t, rfl, ht, h63, hvt, hmin⟩
        · go_wp2_with (first | ((with_reducible refine wp_region_up (by kernel_rfl) (by kernel_rfl) ?_); (repeat (go_big_quiet_step (fail))); refine wpQuiet_nil ?_; intro _ hw'; obtain ⟨nq, hw''⟩ := hw'; subst hw''))
          go_ret
          exact ⟨rfl, HU3.out.tr (by repeat (first | exact Below.refl _ _ | refine bl_tr ?_ _ | refine bl_al ?_ _ | refine bl_dr ?_ | refine bl_up ?_ _ | refine Below.drew ?_ | refine bl_alloc ?_ _ | refine Below.setCell ?_ (by first | (simp; done) | (simp; omega)) _))⟩
        · have hts : t < s.size := by have := HSS.out; omega
          have h63' : ((s[t].toNat : Int) != 63) = false := by
            cases hq : ((s[t].toNat : Int) != 63) with
            | false => rfl
            | true => exact absurd h63 (shut63 hts hq)
          have HMIN := Lib.hid hmin
          have HVT := Lib.hid hvt
          have hz1 : decide ((t : Int) < 0) = false := decide_eq_false (by omega)
          have hz2 : decide (ps.length ≤ t) = false := decide_eq_false (by omega)
          clear hmin hvt h63
          go_wp2_with (first | ((with_reducible refine wp_region_up (by kernel_rfl) (by kernel_rfl) ?_); (repeat (go_big_quiet_step (fail))); refine wpQuiet_nil ?_; intro _ hw'; obtain ⟨nq, hw''⟩ := hw'; subst hw''))
          go_loopw [17] (fun i wr => ∃ j : Nat, j ≤ ps.length ∧ i = i64 j ∧ ∃ g : Up W2, wr = up W2 g) (fun i _ => ps.length - (intOf i).toNat)
          case atStart => exact ⟨0, by omega, rfl, ex_up (by repeat (first | exact Below.refl _ _ | refine bl_tr ?_ _ | refine bl_al ?_ _ | refine bl_dr ?_ | refine bl_up ?_ _ | refine Below.drew ?_ | refine bl_alloc ?_ _ | refine Below.setCell ?_ (by first | (simp; done) | (simp; omega)) _))⟩
          case round =>
            obtain ⟨j, hj, rfl, g, rfl⟩ := hrel
            by_cases hjl : j < ps.length
            · have hjs : j < s.size := by have := HSS.out; omega
              cases hq : ((s[j].toNat : Int) != 63)
              · have h63 := open63 hjs hq
                obtain ⟨m1, m2⟩ := HMIN.out j hjl h63
                rw [← HVT.out] at m1 m2
                have hthr : thr l ps s j = num ps j + max (wst l ps (put s j 48)).1 (wst l ps (put s j 49)).1 := rfl
                have w1 := wst_le (s := put s j 48) HV.out (by rw [put_size, HSS.out])
                have w2 := wst_le (s := put s j 49) HV.out (by rw [put_size, HSS.out])
                have hpj := (vDefects_inv HV.out).2.2.1 j hjl
                have hvj := HVT.out
                have k48 := codeT_0 HV.out (put_ok HAB.out hjs (c := 48) (by decide))
                have k49 := codeT_0 HV.out (put_ok HAB.out hjs (c := 49) (by decide))
                have C48 := fun (V' : World) (hV : Below W2.heap.size W2 V') => worstS' (c := c1) (d := c2) k48 rfl V' (HL3.out.below hV) (HP3.out.below hV) (by omega) (by omega) HSZ.out (by rw [put_size]; omega)
                have C49 := fun (V' : World) (hV : Below W2.heap.size W2 V') => worstS' (c := c1) (d := c2) k49 rfl V' (HL3.out.below hV) (HP3.out.below hV) (by omega) (by omega) HSZ.out (by rw [put_size]; omega)
                have x48 : ∀ w, (Op.stringOp .add (s.extract 0 j) ⟨#[48]⟩).run Try.prog w = .ok (.string (s.extract 0 j ++ ⟨#[48]⟩)) w := fun w => run_string_add_sum w _ _ (by have h1 : (⟨#[48]⟩ : ByteArray).size = 1 := rfl; rw [ByteArray.size_extract, h1]; omega)
                have x49 : ∀ w, (Op.stringOp .add (s.extract 0 j) ⟨#[49]⟩).run Try.prog w = .ok (.string (s.extract 0 j ++ ⟨#[49]⟩)) w := fun w => run_string_add_sum w _ _ (by have h1 : (⟨#[49]⟩ : ByteArray).size = 1 := rfl; rw [ByteArray.size_extract, h1]; omega)
                have y48 : ∀ w, (Op.stringOp .add (s.extract 0 j ++ ⟨#[48]⟩) (s.extract (j + 1) s.size)).run Try.prog w = .ok (.string (put s j 48)) w := fun w => by
                  rw [← with_eq s j 48 hjs]
                  exact run_string_add_sum w _ _ (by have h1 : (⟨#[48]⟩ : ByteArray).size = 1 := rfl; rw [ByteArray.size_append, ByteArray.size_extract, ByteArray.size_extract, h1]; omega)
                have y49 : ∀ w, (Op.stringOp .add (s.extract 0 j ++ ⟨#[49]⟩) (s.extract (j + 1) s.size)).run Try.prog w = .ok (.string (put s j 49)) w := fun w => by
                  rw [← with_eq s j 49 hjs]
                  exact run_string_add_sum w _ _ (by have h1 : (⟨#[49]⟩ : ByteArray).size = 1 := rfl; rw [ByteArray.size_append, ByteArray.size_extract, ByteArray.size_extract, h1]; omega)
                generalize s.extract 0 j ++ ⟨#[48]⟩ = X48 at x48 y48
                generalize s.extract 0 j ++ ⟨#[49]⟩ = X49 at x49 y49
                generalize put s j 48 = P48 at *
                generalize put s j 49 = P49 at *
                have D48 := Lib.hid C48
                have D49 := Lib.hid C49
                have htj : t = j → v = thr l ps s j := fun e => by rw [← e]; exact HVT.out
                obtain ⟨b2, off2, rfl, hb2, hcc⟩ := num_at HP3.out hjl
                have p0 := hcc j hjl
                clear hcc C48 C49 k48 k49 hvj h63
                rw [hthr] at m1 m2 htj
                generalize hA : (wst l ps P48).1 = a at *
                generalize hB : (wst l ps P49).1 = b at *
                clear hA hB hthr
                have hjs1 : (j : Int) + 1 ≤ (s.size : Int) := by omega
                have hjs0 : (j : Int) ≤ (s.size : Int) := by omega
                go_wp2_with fail
                refine wpg (R := fun V => UpOf W2 V) (UpOf.of (by repeat (first | exact Below.refl _ _ | refine bl_tr ?_ _ | refine bl_al ?_ _ | refine bl_dr ?_ | refine bl_up ?_ _ | refine Below.drew ?_ | refine bl_alloc ?_ _ | refine Below.setCell ?_ (by first | (simp; done) | (simp; omega)) _))) (fun V5 hu => ?_)
                have HU5 := Lib.hid hu
                clear hu
                go_wp2_with fail
                have hw1 : IntKind.i64.wrap ((j : Int) + 1) = (j : Int) + 1 := by rw [IntKind.wrap_i64]; omega
                have hw0 : (0 : Int) ≤ (j : Int) + 1 := by clear hw1; omega
                have hw2 : ((j : Int) + 1).toNat = j + 1 := by clear hw1; omega
                go_region_held3 (fun w' => (V5).heap.size ≤ w'.heap.size ∧ ∀ b o, b < (V5).heap.size → w'.cell? ⟨b, o, none⟩ = (V5).cell? ⟨b, o, none⟩) (exact sm_of (by repeat (first | exact Below.refl _ _ | refine bl_tr ?_ _ | refine bl_al ?_ _ | refine bl_dr ?_ | refine bl_up ?_ _ | refine Below.drew ?_ | refine bl_alloc ?_ _ | refine Below.setCell ?_ (by first | (simp; done) | (simp; omega)) _))) (first | (go_at_call 23; refine (D48.out _ (HU5.out.tr (by repeat (first | exact Below.refl _ _ | refine bl_tr ?_ _ | refine bl_al ?_ _ | refine bl_dr ?_ | refine bl_up ?_ _ | refine Below.drew ?_ | refine bl_alloc ?_ _ | refine Below.setCell ?_ (by first | (simp; done) | (simp; omega)) _))).below).mono ?_; rintro e w' ⟨rfl, g6, rfl⟩))
                go_wp2_with fail
                refine wpg (R := fun V => UpOf W2 V) (HU5.out.tr (by repeat (first | exact Below.refl _ _ | refine bl_tr ?_ _ | refine bl_al ?_ _ | refine bl_dr ?_ | refine bl_up ?_ _ | refine Below.drew ?_ | refine bl_alloc ?_ _ | refine Below.setCell ?_ (by first | (simp; done) | (simp; omega)) _))) (fun V6 hu => ?_)
                have HU6 := Lib.hid hu
                clear hu
                go_region_held3 (fun w' => (V6).heap.size ≤ w'.heap.size ∧ ∀ b o, b < (V6).heap.size → w'.cell? ⟨b, o, none⟩ = (V6).cell? ⟨b, o, none⟩) (exact sm_of (by repeat (first | exact Below.refl _ _ | refine bl_tr ?_ _ | refine bl_al ?_ _ | refine bl_dr ?_ | refine bl_up ?_ _ | refine Below.drew ?_ | refine bl_alloc ?_ _ | refine Below.setCell ?_ (by first | (simp; done) | (simp; omega)) _))) (first | (go_at_call 23; refine (D49.out _ (HU6.out.tr (by repeat (first | exact Below.refl _ _ | refine bl_tr ?_ _ | refine bl_al ?_ _ | refine bl_dr ?_ | refine bl_up ?_ _ | refine Below.drew ?_ | refine bl_alloc ?_ _ | refine Below.setCell ?_ (by first | (simp; done) | (simp; omega)) _))).below).mono ?_; rintro e w' ⟨rfl, g7, rfl⟩))
                clear hw1 hw0 hw2
                refine exit_gen (R := fun V => UpOf W2 V) (HU6.out.tr (by repeat (first | exact Below.refl _ _ | refine bl_tr ?_ _ | refine bl_al ?_ _ | refine bl_dr ?_ | refine bl_up ?_ _ | refine Below.drew ?_ | refine bl_alloc ?_ _ | refine Below.setCell ?_ (by first | (simp; done) | (simp; omega)) _))) (fun V7 hu => ?_)
                obtain ⟨g8, rfl⟩ := hu
                clear x48 x49 y48 y49 D48 D49 HU5 HU6 HL3 HP3 HF3 HMIN
                by_cases hab : a < b
                · have hmx : max a b = b := by omega
                  rw [hmx] at m1 m2 htj
                  clear hmx
                  iterate 14 go_step
                  rcases Nat.lt_trichotomy j t with hjt | hjt | hjt
                  · have z2 : ((j : Int) == (t : Int)) = false := by rw [beq_eq_false_iff_ne]; omega
                    have z3 : (num ps j + b == v) = false := by rw [beq_eq_false_iff_ne]; have := m2 hjt; omega
                    have hji : (j : Int) < (t : Int) := by omega
                    have z1 : ¬ num ps j + b < v := by omega
                    clear m1 m2 htj
                    go_wp2_with fail
                    refine ⟨⟨j + 1, by omega, by go_num, ex_up (by repeat (first | exact Below.refl _ _ | refine bl_tr ?_ _ | refine bl_al ?_ _ | refine bl_dr ?_ | refine bl_up ?_ _ | refine Below.drew ?_ | refine bl_alloc ?_ _ | refine Below.setCell ?_ (by first | (simp; done) | (simp; omega)) _))⟩, ?_⟩
                    (simp [intOf]; try omega)
                  · subst hjt
                    have z3 : (num ps j + b != v) = false := by rw [bne_eq_false_iff_eq]; exact (htj rfl).symm
                    have z1 : ¬ num ps j + b < v := by omega
                    clear m1 m2 htj
                    go_wp2_with fail
                    refine ⟨⟨j + 1, by omega, by go_num, ex_up (by repeat (first | exact Below.refl _ _ | refine bl_tr ?_ _ | refine bl_al ?_ _ | refine bl_dr ?_ | refine bl_up ?_ _ | refine Below.drew ?_ | refine bl_alloc ?_ _ | refine Below.setCell ?_ (by first | (simp; done) | (simp; omega)) _))⟩, ?_⟩
                    (simp [intOf]; try omega)
                  · have z2 : ((j : Int) == (t : Int)) = false := by rw [beq_eq_false_iff_ne]; omega
                    have hji : ¬ (j : Int) < (t : Int) := by omega
                    have z1 : ¬ num ps j + b < v := by omega
                    clear m1 m2 htj
                    go_wp2_with fail
                    refine ⟨⟨j + 1, by omega, by go_num, ex_up (by repeat (first | exact Below.refl _ _ | refine bl_tr ?_ _ | refine bl_al ?_ _ | refine bl_dr ?_ | refine bl_up ?_ _ | refine Below.drew ?_ | refine bl_alloc ?_ _ | refine Below.setCell ?_ (by first | (simp; done) | (simp; omega)) _))⟩, ?_⟩
                    (simp [intOf]; try omega)
                · have hmx : max a b = a := by omega
                  rw [hmx] at m1 m2 htj
                  clear hmx
                  iterate 14 go_step
                  rcases Nat.lt_trichotomy j t with hjt | hjt | hjt
                  · have z2 : ((j : Int) == (t : Int)) = false := by rw [beq_eq_false_iff_ne]; omega
                    have z3 : (num ps j + a == v) = false := by rw [beq_eq_false_iff_ne]; have := m2 hjt; omega
                    have hji : (j : Int) < (t : Int) := by omega
                    have z1 : ¬ num ps j + a < v := by omega
                    clear m1 m2 htj
                    go_wp2_with fail
                    refine ⟨⟨j + 1, by omega, by go_num, ex_up (by repeat (first | exact Below.refl _ _ | refine bl_tr ?_ _ | refine bl_al ?_ _ | refine bl_dr ?_ | refine bl_up ?_ _ | refine Below.drew ?_ | refine bl_alloc ?_ _ | refine Below.setCell ?_ (by first | (simp; done) | (simp; omega)) _))⟩, ?_⟩
                    (simp [intOf]; try omega)
                  · subst hjt
                    have z3 : (num ps j + a != v) = false := by rw [bne_eq_false_iff_eq]; exact (htj rfl).symm
                    have z1 : ¬ num ps j + a < v := by omega
                    clear m1 m2 htj
                    go_wp2_with fail
                    refine ⟨⟨j + 1, by omega, by go_num, ex_up (by repeat (first | exact Below.refl _ _ | refine bl_tr ?_ _ | refine bl_al ?_ _ | refine bl_dr ?_ | refine bl_up ?_ _ | refine Below.drew ?_ | refine bl_alloc ?_ _ | refine Below.setCell ?_ (by first | (simp; done) | (simp; omega)) _))⟩, ?_⟩
                    (simp [intOf]; try omega)
                  · have z2 : ((j : Int) == (t : Int)) = false := by rw [beq_eq_false_iff_ne]; omega
                    have hji : ¬ (j : Int) < (t : Int) := by omega
                    have z1 : ¬ num ps j + a < v := by omega
                    clear m1 m2 htj
                    go_wp2_with fail
                    refine ⟨⟨j + 1, by omega, by go_num, ex_up (by repeat (first | exact Below.refl _ _ | refine bl_tr ?_ _ | refine bl_al ?_ _ | refine bl_dr ?_ | refine bl_up ?_ _ | refine Below.drew ?_ | refine bl_alloc ?_ _ | refine Below.setCell ?_ (by first | (simp; done) | (simp; omega)) _))⟩, ?_⟩
                    (simp [intOf]; try omega)
              · go_wp2_with (first | ((with_reducible refine wp_region_up (by kernel_rfl) (by kernel_rfl) ?_); (repeat (go_big_quiet_step (fail))); refine wpQuiet_nil ?_; intro _ hw'; obtain ⟨nq, hw''⟩ := hw'; subst hw''))
                go_roundw
                case rel => exact ⟨j + 1, by omega, by go_num, ex_up (by repeat (first | exact Below.refl _ _ | refine bl_tr ?_ _ | refine bl_al ?_ _ | refine bl_dr ?_ | refine bl_up ?_ _ | refine Below.drew ?_ | refine bl_alloc ?_ _ | refine Below.setCell ?_ (by first | (simp; done) | (simp; omega)) _))⟩
                case measure => (simp [intOf]; try omega)
            · obtain rfl : j = ps.length := by omega
              go_wp2_with (first | ((with_reducible refine wp_region_up (by kernel_rfl) (by kernel_rfl) ?_); (repeat (go_big_quiet_step (fail))); refine wpQuiet_nil ?_; intro _ hw'; obtain ⟨nq, hw''⟩ := hw'; subst hw''))
              go_ret
              exact ⟨rfl, HU3.out.tr (by repeat (first | exact Below.refl _ _ | refine bl_tr ?_ _ | refine bl_al ?_ _ | refine bl_dr ?_ | refine bl_up ?_ _ | refine Below.drew ?_ | refine bl_alloc ?_ _ | refine Below.setCell ?_ (by first | (simp; done) | (simp; omega)) _))⟩
  · go_enter Try.func4, Try.ntmps4
    go_wp2_with (first | (go_at_call 9; refine (ret_as (a2Long_any A B n m c d _ hn hm) hlo).mono ?_; rintro e w' ⟨rfl, g, rfl⟩) | ((with_reducible refine wp_region_up (by kernel_rfl) (by kernel_rfl) ?_); (repeat (go_big_quiet_step (first | (go_at_call 9; first | exact upq_tr (ret_as (a2Long_any A B n m c d _ hn hm) hlo) | exact upq (ret_as (a2Long_any A B n m c d _ hn hm) hlo))))); refine wpQuiet_nil ?_; intro _ hw'; obtain ⟨nq, hw''⟩ := hw'; subst hw''))
    go_ret
    exact ⟨rfl, UpOf.of (by repeat (first | exact Below.refl _ _ | refine bl_tr ?_ _ | refine bl_al ?_ _ | refine bl_dr ?_ | refine bl_up ?_ _ | refine Below.drew ?_ | refine bl_alloc ?_ _ | refine Below.setCell ?_ (by first | (simp; done) | (simp; omega)) _))⟩
end Go.Proofs.Ytfggbcmpgkhlaaa

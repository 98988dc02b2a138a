/-
  The law FnOffers: its walk. No condition.
-/
import Derived.Test.YtiibpldfnnhhlaaOffersP
import Derived.Test.YtiibpldfnnhhlaaDrawMany
import Derived.Test.YtiibpldfnnhhlaaF6
import Derived.Test.YtiibpldfnnhhlaaBestS2
import Derived.Test.YtiibpldfnnhhlaaOffer2
import Derived.StillTailTactics
namespace Go.Proofs.Ytiibpldfnnhhlaa
open Go.RowKit
theorem bestIK {l : List Ware} {os : List Offer} {many : List Int} {L0 : List Int} {r1 : Int} {r2 : Int} (hL : Hid (bestR l os many = (L0, r1, r2))) (w : World) {A O M : Option Addr} {c d e9 : Nat} (hw : WSee w A l) (h : OSee w O os) (hm : Rds w 1 M many.length (ics many)) (hb : WBd l) (ho : OBd os) (hn : os.length ≤ 100000000) (hl : l.length ≤ 100000000) (hmn : many.length ≤ 100000000) :
    Calls Try.prog 48 #[.slice A l.length c, .slice O os.length d, .slice M many.length e9] w fun e w' => ∃ A' c', e = .returned (.tuple #[.slice A' L0.length c', i64 r1, i64 r2]) ∧ w'.ownsRow w.heap.size 2 1 (.slice A' L0.length c') L0.length (ics L0) ∧ UpOf w w' := by
  have := bestI_any A O M c d e9 l os many w hw h hm hl hn hmn hb ho
  rw [hL.out] at this
  exact this
theorem bestSK {l : List Ware} {os : List Offer} {many : List Int} {L0 : List Int} {r1 : Int} {r2 : Int} (hL : Hid (bestR l os many = (L0, r1, r2))) (w : World) {A O M : Option Addr} {c d e9 : Nat} (hw : WSee w A l) (h : OSee w O os) (hm : Rds w 1 M many.length (ics many)) (hb : WBd l) (ho : OBd os) (hn : os.length ≤ 100000000) (hl : l.length ≤ 100000000) (hmn : many.length ≤ 100000000) :
    Calls Try.prog 47 #[.slice A l.length c, .slice O os.length d, .slice M many.length e9] w fun e w' => ∃ A' c', e = .returned (.tuple #[.slice A' L0.length c', i64 r1, i64 r2]) ∧ w'.ownsRow w.heap.size 2 1 (.slice A' L0.length c') L0.length (ics L0) ∧ UpOf w w' := by
  have := bestS_any A O M c d e9 l os many w hw h hm hl hn hmn hb ho
  rw [hL.out] at this
  exact this
theorem savIK {l : List Ware} {os : List Offer} {k : Int} {r0 : Int} {r1 : Int} (hL : Hid (savR l os k = (r0, r1))) (w : World) {A O : Option Addr} {c d : Nat} (hw : WSee w A l) (h : OSee w O os) (hb : WBd l) (ho : OBd os) (hn : os.length ≤ 100000000) (hl : l.length ≤ 100000000) :
    Calls Try.prog 46 #[.slice A l.length c, .slice O os.length d, i64 k] w fun e w' => e = .returned (.tuple #[i64 r0, i64 r1]) ∧ UpOf w w' := by
  have := savI_any A O c d l os k w hw h hl hn hb ho
  rw [hL.out] at this
  exact this
theorem savSK {l : List Ware} {os : List Offer} {k : Int} {r0 : Int} {r1 : Int} (hL : Hid (savR l os k = (r0, r1))) (w : World) {A O : Option Addr} {c d : Nat} (hw : WSee w A l) (h : OSee w O os) (hb : WBd l) (ho : OBd os) (hn : os.length ≤ 100000000) (hl : l.length ≤ 100000000) :
    Calls Try.prog 45 #[.slice A l.length c, .slice O os.length d, i64 k] w fun e w' => e = .returned (.tuple #[i64 r0, i64 r1]) ∧ UpOf w w' := by
  have := savS_any A O c d l os k w hw h hl hn hb ho
  rw [hL.out] at this
  exact this
theorem basketIK {l : List Ware} {many : List Int} {r0 : Int} (hL : Hid (bskR l many = (r0, 0))) (n : Nat) (hnn : many.length = n) (w : World) {A B : Option Addr} {c d : Nat} (hw : WSee w A l) (h : Rds w 1 B n (ics many)) (hb : WBd l) (hn : n ≤ 100000000) (hl : l.length ≤ 100000000) :
    Calls Try.prog 30 #[.slice A l.length c, .slice B n d] w fun e w' => e = .returned (.tuple #[i64 r0, i64 0]) ∧ UpOf w w' := by
  subst hnn
  have := basketI_any A B c d l many w hw h hn hl hb
  rw [hL.out] at this
  exact this
theorem WShort.bd {m : Nat} {l : List Ware} (h : WShort m l) (hm : m ≤ 100000000) : WBd l := fun i hi => ⟨Nat.le_trans (h i hi).1 (by omega), Nat.le_trans (h i hi).2 hm⟩
theorem OShort.bd {m : Nat} {l : List Offer} (h : OShort m l) (hm : m ≤ 100000000) : OBd l := fun i hi => Nat.le_trans (h i hi) hm
/-- what the law's second half needs of the best way -/
structure BF (l : List Ware) (os : List Offer) (ms L0 : List Int) (r1 : Int) : Prop where
  vo : vOffers l os = true
  many : ms.length = l.length
  bd : ∀ i, i < ms.length → 0 ≤ iat ms i ∧ iat ms i ≤ 20
  len : L0.length = os.length
  tk : ∀ i, i < L0.length → 0 ≤ iat L0 i ∧ iat L0 i ≤ 40
  rem : ∀ i, i < ms.length → 0 ≤ iat (remT os ms L0 L0.length) i
  cost : r1 = sumC os L0 L0.length + bsk l (remT os ms L0 L0.length) l.length
  le : r1 ≤ bsk l ms l.length
  bms : bskR l ms = (bsk l ms l.length, 0)
  brs : bskR l (remT os ms L0 L0.length) = (bsk l (remT os ms L0 L0.length) l.length, 0)
theorem isMany_true {l : List Ware} {many : List Int} {most : Int} (h : many.length = l.length) (h2 : ∀ i, i < many.length → 0 ≤ iat many i ∧ iat many i ≤ most) : isMany l many most = true := by
  rw [isMany_of (fun i hi => by have := h2 i hi; exact decide_eq_true this), decide_eq_true h]
theorem bf_of {l : List Ware} {os : List Offer} {ms L0 : List Int} {r1 r2 : Int} (h : bestR l os ms = (L0, r1, r2)) (h2 : r2 = 0) : BF l os ms L0 r1 := by
  have hc : bestC l os ms = 0 := by
    unfold bestR at h
    split at h
    · assumption
    · injection h with _ h; injection h with _ h; omega
  rw [bestR, if_pos hc] at h
  injection h with ha h
  injection h with hb _
  have hv : vOffers l os = true := by
    unfold bestC at hc
    split at hc
    · assumption
    · omega
  have hm : isMany l ms 20 = true := by
    rw [bestC, if_pos hv] at hc
    split at hc
    · assumption
    · omega
  have hmi := isMany_inv hm
  obtain ⟨hg, hle⟩ := best_law hv hm
  have e1 : (bestW l os ms).1.length = os.length := hg.len
  subst ha hb
  have htk : ∀ i, i < (bestW l os ms).1.length → 0 ≤ iat (bestW l os ms).1 i ∧ iat (bestW l os ms).1 i ≤ 40 := fun i hi => hg.tk i (by omega)
  have hrem : ∀ i, i < ms.length → 0 ≤ iat (remT os ms (bestW l os ms).1 (bestW l os ms).1.length) i := fun i hi => by rw [e1]; exact hg.rem i hi
  have hup := remT_up hv hmi.2 hmi.1 (tk := (bestW l os ms).1) (bestW l os ms).1.length (by omega) htk
  have hw := (vOffers_inv hv).1
  refine ⟨hv, hmi.1, hmi.2, e1, htk, hrem, by rw [e1]; exact hg.cost, hle, ?_, ?_⟩
  · rw [bskR, if_pos hw, if_pos (isMany_true hmi.1 (fun i hi => by have := hmi.2 i hi; omega))]
  · rw [bskR, if_pos hw, if_pos (isMany_true (by rw [remT_len]; exact hmi.1) (fun i hi => by rw [remT_len] at hi; have := hrem i hi; have := hup i hi; omega))]
theorem bestR_lenK {l : List Ware} {os : List Offer} {ms L0 : List Int} {r1 r2 : Int} (h : bestR l os ms = (L0, r1, r2)) (hos : os.length ≤ 9) : L0.length ≤ 9 := by
  by_cases h2 : r2 = 0
  · have := (bf_of h h2).len
    omega
  · unfold bestR at h
    split at h
    · injection h with _ h; injection h with _ h; omega
    · injection h with h _
      rw [← h]; simp
theorem BF.off {l : List Ware} {os : List Offer} {ms L0 : List Int} {r1 : Int} (h : BF l os ms L0 r1) {k : Nat} (hk : k < L0.length) : (oat os k).many.length = ms.length ∧ (∀ i, i < ms.length → 0 ≤ iat (oat os k).many i ∧ iat (oat os k).many i ≤ 20) ∧ 0 ≤ (oat os k).price ∧ (oat os k).price ≤ 1000000 := by
  have h2 := offerOk_inv ((vOffers_inv h.vo).2.2 k (by have := h.len; omega))
  have h3 := isMany_inv h2.1
  exact ⟨by rw [h3.1, h.many], fun i hi => h3.2 i (by have := h.many; omega), h2.2.2⟩
theorem BF.sum {l : List Ware} {os : List Offer} {ms L0 : List Int} {r1 : Int} (h : BF l os ms L0 r1) {k : Nat} (hk : k < L0.length) : IntKind.i64.wrap (iat L0 k * (oat os k).price) = iat L0 k * (oat os k).price ∧ IntKind.i64.wrap (sumC os L0 k + iat L0 k * (oat os k).price) = sumC os L0 (k + 1) := by
  have h1 := h.tk k hk
  have h2 := (h.off hk).2.2
  have h8 := (vOffers_inv h.vo).2.1
  have hl := h.len
  have h3 : 0 ≤ iat L0 k * (oat os k).price := Int.mul_nonneg h1.1 h2.1
  have h4 : iat L0 k * (oat os k).price ≤ 40 * 1000000 := Int.mul_le_mul h1.2 h2.2 h2.1 (by omega)
  have h5 := sumC_pos h.vo (tk := L0) (k + 1) (by omega) (fun i hi => h.tk i (by omega))
  have e : sumC os L0 (k + 1) = sumC os L0 k + iat L0 k * (oat os k).price := rfl
  rw [IntKind.wrap_i64, IntKind.wrap_i64, e]
  rw [e] at h5
  omega
theorem BF.sub {l : List Ware} {os : List Offer} {ms L0 : List Int} {r1 : Int} (h : BF l os ms L0 r1) {k j : Nat} (hk : k < L0.length) (hj : j < ms.length) : IntKind.i64.wrap (iat L0 k * iat (oat os k).many j) = iat L0 k * iat (oat os k).many j ∧ IntKind.i64.wrap (iat (remT os ms L0 k) j - iat L0 k * iat (oat os k).many j) = iat (remT os ms L0 (k + 1)) j := by
  have h1 := h.tk k hk
  have h2 := (h.off hk).2.1 j hj
  have h8 := (vOffers_inv h.vo).2.1
  have hl := h.len
  have h3 : 0 ≤ iat L0 k * iat (oat os k).many j := Int.mul_nonneg h1.1 h2.1
  have h4 : iat L0 k * iat (oat os k).many j ≤ 40 * 20 := Int.mul_le_mul h1.2 h2.2 h2.1 (by omega)
  have h5 := remT_up h.vo h.bd h.many (tk := L0) k (by omega) (fun i hi => h.tk i (by omega)) j hj
  have e : iat (remT os ms L0 (k + 1)) j = iat (remT os ms L0 k) j - iat L0 k * iat (oat os k).many j := by
    rw [remT, subX_at (by rw [remT_len]; exact hj)]
  rw [IntKind.wrap_i64, IntKind.wrap_i64, e]
  omega
theorem BF.fin {l : List Ware} {os : List Offer} {ms L0 : List Int} {r1 : Int} (h : BF l os ms L0 r1) (hl : l.length ≤ 100) : IntKind.i64.wrap (sumC os L0 L0.length + bsk l (remT os ms L0 L0.length) l.length) = r1 := by
  have h8 := (vOffers_inv h.vo).2.1
  have hll := h.len
  have hu := remT_up h.vo h.bd h.many (tk := L0) L0.length (by omega) h.tk
  have hb := bsk_bd (l := l) (many := remT os ms L0 L0.length) (vWares_inv (vOffers_inv h.vo).1).2 (fun i hi => by have := h.rem i (by have := h.many; omega); have := hu i (by have := h.many; omega); omega) l.length (Nat.le_refl _)
  have hs := sumC_pos h.vo (tk := L0) L0.length (by omega) h.tk
  rw [IntKind.wrap_i64, h.cost]
  omega
structure LO (w V : World) (A1 : Option Addr) (l : List Ware) (A2 : Option Addr) (os : List Offer) (A3 : Option Addr) (ms : List Int) (A5 : Option Addr) (L0 : List Int) : Prop where
  see : WSee V A1 l
  off : OSee V A2 os
  man : Rds V 1 A3 ms.length (ics ms)
  tak : Rds V 1 A5 L0.length (ics L0)
  up : UpOf w V
theorem LO.below {w V V' : World} {A1 : Option Addr} {l : List Ware} {A2 : Option Addr} {os : List Offer} {A3 : Option Addr} {ms : List Int} {A5 : Option Addr} {L0 : List Int} (h : LO w V A1 l A2 os A3 ms A5 L0) (hb : Below V.heap.size V V') : LO w V' A1 l A2 os A3 ms A5 L0 :=
  ⟨h.see.below hb, h.off.below hb, h.man.below hb, h.tak.below hb, h.up.tr hb⟩
set_option maxRecDepth 10000 in
set_option maxHeartbeats 6000000 in
theorem law_offers (A : Option Addr) (n c : Nat) (zs : List Int) (w : World) (hz : ∀ z ∈ zs, 0 ≤ z ∧ z ≤ 255) (hr : Rds w 1 A n (bytes zs)) (hn : n ≤ 9223372036854775807) :
    Calls Try.prog 14 #[.slice A n c] w fun e w' => e = .returned (.bool true) ∧ UpOf w w' := by
  have HR := Lib.hid hr
  have HZ := Lib.hid hz
  clear hr hz
  by_cases hbig : (4096 : Int) < n
  · have hd : decide ((4096 : Int) < n) = true := decide_eq_true hbig
    go_enter Try.func14, Try.ntmps14
    go_wp2_with fail
    refine (ret_as (f6big_any A n c _ hn) hd).mono ?_
    rintro e w' ⟨rfl, g0, rfl⟩
    go_wp2_with fail
    go_ret
    exact ⟨rfl, UpOf.of (by repeat (first | exact Below.refl _ _ | refine bl_tr ?_ _ | refine bl_al ?_ _ | refine bl_dr ?_ | refine bl_up ?_ _ | refine Below.drew ?_ | refine bl_alloc ?_ _ | refine Below.setCell ?_ (by first | (simp; done) | (simp; omega)) _))⟩
  have hd : decide ((4096 : Int) < n) = false := decide_eq_false hbig
  have hn4 : n ≤ 4096 := by omega
  go_enter Try.func14, Try.ntmps14
  go_wp2_with fail
  refine (ret_as (f6big_any A n c _ hn) hd).mono ?_
  rintro e w' ⟨rfl, g0, rfl⟩
  clear hd
  go_wp2_with fail
  refine (drawBestOffers_any A n c zs _ HZ.out (HR.out.below (by repeat (first | exact Below.refl _ _ | refine bl_tr ?_ _ | refine bl_al ?_ _ | refine bl_dr ?_ | refine bl_up ?_ _ | refine Below.drew ?_ | refine bl_alloc ?_ _ | refine Below.setCell ?_ (by first | (simp; done) | (simp; omega)) _))) hn4).mono ?_
  rintro e V ⟨l, A1, c1, os, A2, c2, ms, A3, c3, rfl, hw, hsh, hl, ho, hsh2, hl2, hm, hml, hu⟩
  have HU := Lib.hid ((show UpOf w (up w g0) from ⟨g0, rfl⟩).tr hu.below)
  have HW := Lib.hid hw
  have HO := Lib.hid ho
  have HM := Lib.hid hm
  have HWB := Lib.hid (hsh.bd (by omega))
  have HOB := Lib.hid (hsh2.bd (by omega))
  obtain ⟨L0, r1, r2, hL⟩ : ∃ L0 r1 r2, bestR l os ms = (L0, r1, r2) := ⟨_, _, _, rfl⟩
  have HL := Lib.hid hL
  have hL9 := bestR_lenK hL hl2
  clear hL hw hsh ho hsh2 hm hu
  go_wp2_with fail
  refine (bestIK HL V HW.out HO.out HM.out HWB.out HOB.out (by omega) (by omega) (by omega)).mono ?_
  rintro e w' ⟨A4, c4, rfl, ho4, g1, rfl⟩
  have H4 := Lib.hid (Rds.of_own ho4)
  clear ho4
  go_wp2_with fail
  refine (bestSK HL _ (HW.out.below (by repeat (first | exact Below.refl _ _ | refine bl_tr ?_ _ | refine bl_al ?_ _ | refine bl_dr ?_ | refine bl_up ?_ _ | refine Below.drew ?_ | refine bl_alloc ?_ _ | refine Below.setCell ?_ (by first | (simp; done) | (simp; omega)) _))) (HO.out.below (by repeat (first | exact Below.refl _ _ | refine bl_tr ?_ _ | refine bl_al ?_ _ | refine bl_dr ?_ | refine bl_up ?_ _ | refine Below.drew ?_ | refine bl_alloc ?_ _ | refine Below.setCell ?_ (by first | (simp; done) | (simp; omega)) _))) (HM.out.below (by repeat (first | exact Below.refl _ _ | refine bl_tr ?_ _ | refine bl_al ?_ _ | refine bl_dr ?_ | refine bl_up ?_ _ | refine Below.drew ?_ | refine bl_alloc ?_ _ | refine Below.setCell ?_ (by first | (simp; done) | (simp; omega)) _))) HWB.out HOB.out (by omega) (by omega) (by omega)).mono ?_
  rintro e w' ⟨A5, c5, rfl, ho5, g2, rfl⟩
  have H5 := Lib.hid (Rds.of_own ho5)
  clear ho5
  go_wp2_with fail
  refine (drawOfferSaving_any A n c zs _ HZ.out ((HR.out.below HU.out.below).below (by repeat (first | exact Below.refl _ _ | refine bl_tr ?_ _ | refine bl_al ?_ _ | refine bl_dr ?_ | refine bl_up ?_ _ | refine Below.drew ?_ | refine bl_alloc ?_ _ | refine Below.setCell ?_ (by first | (simp; done) | (simp; omega)) _))) hn4).mono ?_
  rintro e w' ⟨l', B1, d1, os', B2, d2, k2, rfl, hw', hsh', hl', ho', hsh3, hl3, g3, rfl⟩
  have HW' := Lib.hid hw'
  have HO' := Lib.hid ho'
  have HWB' := Lib.hid (hsh'.bd (by omega))
  have HOB' := Lib.hid (hsh3.bd (by omega))
  obtain ⟨s0, s1, hS⟩ : ∃ s0 s1, savR l' os' k2 = (s0, s1) := ⟨_, _, rfl⟩
  have HS := Lib.hid hS
  clear hS hw' hsh' ho' hsh3
  go_wp2_with fail
  refine (savIK HS _ (HW'.out.below (by repeat (first | exact Below.refl _ _ | refine bl_tr ?_ _ | refine bl_al ?_ _ | refine bl_dr ?_ | refine bl_up ?_ _ | refine Below.drew ?_ | refine bl_alloc ?_ _ | refine Below.setCell ?_ (by first | (simp; done) | (simp; omega)) _))) (HO'.out.below (by repeat (first | exact Below.refl _ _ | refine bl_tr ?_ _ | refine bl_al ?_ _ | refine bl_dr ?_ | refine bl_up ?_ _ | refine Below.drew ?_ | refine bl_alloc ?_ _ | refine Below.setCell ?_ (by first | (simp; done) | (simp; omega)) _))) HWB'.out HOB'.out (by omega) (by omega)).mono ?_
  rintro e w' ⟨rfl, g4, rfl⟩
  go_wp2_with fail
  refine (savSK HS _ (HW'.out.below (by repeat (first | exact Below.refl _ _ | refine bl_tr ?_ _ | refine bl_al ?_ _ | refine bl_dr ?_ | refine bl_up ?_ _ | refine Below.drew ?_ | refine bl_alloc ?_ _ | refine Below.setCell ?_ (by first | (simp; done) | (simp; omega)) _))) (HO'.out.below (by repeat (first | exact Below.refl _ _ | refine bl_tr ?_ _ | refine bl_al ?_ _ | refine bl_dr ?_ | refine bl_up ?_ _ | refine Below.drew ?_ | refine bl_alloc ?_ _ | refine Below.setCell ?_ (by first | (simp; done) | (simp; omega)) _))) HWB'.out HOB'.out (by omega) (by omega)).mono ?_
  rintro e w' ⟨rfl, g5, rfl⟩
  have q1 : (r2 != r2) = false := by simp
  have q2 : (r1 != r1) = false := by simp
  have q3 : (s1 != s1) = false := by simp
  have q4 : (s0 != s0) = false := by simp
  go_wp2_with fail
  refine (f6ints_same _ _ _ _ L0 _ (H4.out.below (by repeat (first | exact Below.refl _ _ | refine bl_tr ?_ _ | refine bl_al ?_ _ | refine bl_dr ?_ | refine bl_up ?_ _ | refine Below.drew ?_ | refine bl_alloc ?_ _ | refine Below.setCell ?_ (by first | (simp; done) | (simp; omega)) _))) (H5.out.below (by repeat (first | exact Below.refl _ _ | refine bl_tr ?_ _ | refine bl_al ?_ _ | refine bl_dr ?_ | refine bl_up ?_ _ | refine Below.drew ?_ | refine bl_alloc ?_ _ | refine Below.setCell ?_ (by first | (simp; done) | (simp; omega)) _))) (by omega)).mono ?_
  rintro e w' ⟨rfl, g6, rfl⟩
  go_wp2_with fail
  refine (validOffers_any _ _ _ _ l os _ (HW.out.below (by repeat (first | exact Below.refl _ _ | refine bl_tr ?_ _ | refine bl_al ?_ _ | refine bl_dr ?_ | refine bl_up ?_ _ | refine Below.drew ?_ | refine bl_alloc ?_ _ | refine Below.setCell ?_ (by first | (simp; done) | (simp; omega)) _))) (HO.out.below (by repeat (first | exact Below.refl _ _ | refine bl_tr ?_ _ | refine bl_al ?_ _ | refine bl_dr ?_ | refine bl_up ?_ _ | refine Below.drew ?_ | refine bl_alloc ?_ _ | refine Below.setCell ?_ (by first | (simp; done) | (simp; omega)) _))) (by omega) (by omega) HWB.out HOB.out).mono ?_
  rintro e w' ⟨rfl, g7, rfl⟩
  go_wp2_with fail
  refine (specValidOffers_any _ _ _ _ l os _ (HW.out.below (by repeat (first | exact Below.refl _ _ | refine bl_tr ?_ _ | refine bl_al ?_ _ | refine bl_dr ?_ | refine bl_up ?_ _ | refine Below.drew ?_ | refine bl_alloc ?_ _ | refine Below.setCell ?_ (by first | (simp; done) | (simp; omega)) _))) (HO.out.below (by repeat (first | exact Below.refl _ _ | refine bl_tr ?_ _ | refine bl_al ?_ _ | refine bl_dr ?_ | refine bl_up ?_ _ | refine Below.drew ?_ | refine bl_alloc ?_ _ | refine Below.setCell ?_ (by first | (simp; done) | (simp; omega)) _))) (by omega) (by omega) HWB.out HOB.out).mono ?_
  rintro e w' ⟨rfl, g8, rfl⟩
  have q5 : (vOffers l os != vOffers l os) = false := by simp
  by_cases hr2 : r2 = 0
  rotate_left
  · have q6 : (r2 != 0) = true := by simp [hr2]
    go_wp2_with fail
    go_ret
    exact ⟨rfl, HU.out.tr (by repeat (first | exact Below.refl _ _ | refine bl_tr ?_ _ | refine bl_al ?_ _ | refine bl_dr ?_ | refine bl_up ?_ _ | refine Below.drew ?_ | refine bl_alloc ?_ _ | refine Below.setCell ?_ (by first | (simp; done) | (simp; omega)) _))⟩
  have HF := Lib.hid (bf_of HL.out hr2)
  subst hr2
  go_upto_region 13 with (fail)
  refine wpg (R := fun V9 => Hid (LO w V9 A1 l A2 os A3 ms A5 L0)) (Lib.hid ⟨HW.out.below (by repeat (first | exact Below.refl _ _ | refine bl_tr ?_ _ | refine bl_al ?_ _ | refine bl_dr ?_ | refine bl_up ?_ _ | refine Below.drew ?_ | refine bl_alloc ?_ _ | refine Below.setCell ?_ (by first | (simp; done) | (simp; omega)) _)), HO.out.below (by repeat (first | exact Below.refl _ _ | refine bl_tr ?_ _ | refine bl_al ?_ _ | refine bl_dr ?_ | refine bl_up ?_ _ | refine Below.drew ?_ | refine bl_alloc ?_ _ | refine Below.setCell ?_ (by first | (simp; done) | (simp; omega)) _)), HM.out.below (by repeat (first | exact Below.refl _ _ | refine bl_tr ?_ _ | refine bl_al ?_ _ | refine bl_dr ?_ | refine bl_up ?_ _ | refine Below.drew ?_ | refine bl_alloc ?_ _ | refine Below.setCell ?_ (by first | (simp; done) | (simp; omega)) _)), H5.out.below (by repeat (first | exact Below.refl _ _ | refine bl_tr ?_ _ | refine bl_al ?_ _ | refine bl_dr ?_ | refine bl_up ?_ _ | refine Below.drew ?_ | refine bl_alloc ?_ _ | refine Below.setCell ?_ (by first | (simp; done) | (simp; omega)) _)), HU.out.tr (by repeat (first | exact Below.refl _ _ | refine bl_tr ?_ _ | refine bl_al ?_ _ | refine bl_dr ?_ | refine bl_up ?_ _ | refine Below.drew ?_ | refine bl_alloc ?_ _ | refine Below.setCell ?_ (by first | (simp; done) | (simp; omega)) _))⟩) (fun V9 Z => ?_)
  clear HR HZ HU HW HO HM H4 H5 HL HS HW' HO' HWB' HOB' q1 q2 q3 q4 q5
  go_wp2_with (at_builtin; go_must (refine wpl_appU rfl _ _ 35 rfl V9 V9.heap.size 2 (i64 0) 1 8 el_int _ 0 [] rfl (World.ownsRow_lit _ #[] 0 (Below.size (B := V9.heap.size) (w := V9) (by repeat (first | exact Below.refl _ _ | refine bl_tr ?_ _ | refine bl_al ?_ _ | refine bl_dr ?_ | refine bl_up ?_ _ | refine Below.drew ?_ | refine bl_alloc ?_ _ | refine Below.setCell ?_ (by first | (simp; done) | (simp; omega)) _))) (by unfold maxLen; omega) rfl) _ ms.length _ (ics ms) rfl (Z.out.man.below (by repeat (first | exact Below.refl _ _ | refine bl_tr ?_ _ | refine bl_al ?_ _ | refine bl_dr ?_ | refine bl_up ?_ _ | refine Below.drew ?_ | refine bl_alloc ?_ _ | refine Below.setCell ?_ (by first | (simp; done) | (simp; omega)) _))) (fun u hu => by simp [ics] at hu; obtain ⟨x, _, rfl⟩ := hu; rfl) (by unfold maxLen; omega) (by omega) (Below.size (B := V9.heap.size) (w := V9) (by repeat (first | exact Below.refl _ _ | refine bl_tr ?_ _ | refine bl_al ?_ _ | refine bl_dr ?_ | refine bl_up ?_ _ | refine Below.drew ?_ | refine bl_alloc ?_ _ | refine Below.setCell ?_ (by first | (simp; done) | (simp; omega)) _))) (by repeat (first | exact Below.refl _ _ | refine bl_tr ?_ _ | refine bl_al ?_ _ | refine bl_dr ?_ | refine bl_up ?_ _ | refine Below.drew ?_ | refine bl_alloc ?_ _ | refine Below.setCell ?_ (by first | (simp; done) | (simp; omega)) _)) (Nat.le_refl _) ?_); intro A6 c6 g9 o1; simp only [Nat.zero_add, List.nil_append] at o1 ⊢; have O1 := Lib.hid o1; clear o1)
  go_loopw [20, 21] (fun s ii V8 => ∃ (k : Nat), ii = i64 k ∧ k ≤ L0.length ∧ s = i64 (sumC os L0 k) ∧ Hid (V8.ownsRow V9.heap.size 2 1 (.slice A6 ms.length c6) ms.length (ics (remT os ms L0 k))) ∧ Hid (Below V9.heap.size V9 V8)) (fun _ ii _ => L0.length - (intOf ii).toNat)
  case atStart => exact ⟨0, rfl, by omega, rfl, O1, Lib.hid (by repeat (first | exact Below.refl _ _ | refine bl_tr ?_ _ | refine bl_al ?_ _ | refine bl_dr ?_ | refine bl_up ?_ _ | refine Below.drew ?_ | refine bl_alloc ?_ _ | refine Below.setCell ?_ (by first | (simp; done) | (simp; omega)) _))⟩
  case round =>
    obtain ⟨k, rfl, hk, rfl, OW, BW⟩ := hrel
    clear O1
    by_cases hlt : k < L0.length
    · have hlt' : (k : Int) < (L0.length : Int) := by omega
      have ZW := Lib.hid (Z.out.below BW.out)
      obtain ⟨b5, off5, rfl, hb5, hc5⟩ := ZW.out.tak.at (by omega)
      have c0 := hc5 k _ (ics_get hlt)
      rw [iat_eq hlt] at c0
      obtain ⟨x0, x1⟩ := HF.out.tk k hlt
      obtain ⟨b4, off4, rfl, hb4, hc4⟩ := offer_all ZW.out.off (by have := HF.out.len; omega)
      obtain ⟨Ai, ci, d0, d1, d2⟩ := hc4 k (by have := HF.out.len; omega)
      have hko : (k : Int) < (os.length : Int) := by have := HF.out.len; omega
      obtain ⟨w1, w2⟩ := HF.out.sum hlt
      have hx0 : ¬ iat L0 k < 0 := by omega
      have hx1 : ¬ 40 < iat L0 k := by omega
      clear hc5 hc4 d2
      refine as_up fun g10 => ?_
      go_wp2_with (first | ((with_reducible refine wp_region_up (by kernel_rfl) (by kernel_rfl) ?_); (repeat (go_big_quiet_step (fail))); refine wpQuiet_nil ?_; intro _ hw'; obtain ⟨nq, hw''⟩ := hw'; subst hw''))
      clear hx0 hx1 w1 w2 c0 d0 d1
      go_loopw [22] (fun jj wr => ∃ (j : Nat) (ys : List Int), jj = i64 j ∧ j ≤ ms.length ∧ Hid (ys.length = ms.length) ∧ Hid (∀ x, x < ms.length → iat ys x = if x < j then iat (remT os ms L0 (k + 1)) x else iat (remT os ms L0 k) x) ∧ Hid (wr.ownsRow V9.heap.size 2 1 (.slice A6 ms.length c6) ms.length (ics ys)) ∧ Hid (Below V9.heap.size V9 wr)) (fun jj _ => ms.length - (intOf jj).toNat)
      case atStart => exact ⟨0, remT os ms L0 k, rfl, by omega, Lib.hid (remT_len _ _ _ _), Lib.hid (fun x hx => by rw [if_neg (by omega)]), Lib.hid (own_below OW.out (by repeat (first | exact Below.refl _ _ | refine bl_tr ?_ _ | refine bl_al ?_ _ | refine bl_dr ?_ | refine bl_up ?_ _ | refine Below.drew ?_ | refine bl_alloc ?_ _ | refine Below.setCell ?_ (by first | (simp; done) | (simp; omega)) _))), Lib.hid (BW.out.trans ((Below.mono (by repeat (first | exact Below.refl _ _ | refine bl_tr ?_ _ | refine bl_al ?_ _ | refine bl_dr ?_ | refine bl_up ?_ _ | refine Below.drew ?_ | refine bl_alloc ?_ _ | refine Below.setCell ?_ (by first | (simp; done) | (simp; omega)) _)) BW.out.size)))⟩
      case round =>
        obtain ⟨j, ys, rfl, hj, hyl, hyv, OY, BY⟩ := hrel
        clear OW BW
        by_cases hjl : j < ms.length
        · have ZW := Lib.hid (Z.out.below BY.out)
          obtain ⟨b5', off5', e5, hb5, hc5⟩ := ZW.out.tak.at (by omega)
          injection e5 with e5
          injection e5 with e51 e52
          subst e51 e52
          have c0 := hc5 k _ (ics_get hlt)
          rw [iat_eq hlt] at c0
          obtain ⟨b4', off4', e4, hb4, hc4⟩ := offer_all ZW.out.off (by have := HF.out.len; omega)
          injection e4 with e4
          injection e4 with e41 e42
          subst e41 e42
          obtain ⟨Aj, cj, d0, d1, d2⟩ := hc4 k (by have := HF.out.len; omega)
          obtain ⟨hm1, hm2, hm3⟩ := HF.out.off hlt
          obtain ⟨b6, off6, rfl, hb6, hc6⟩ := d2.at (by omega)
          have c6' := hc6 j _ (ics_get (by omega))
          rw [iat_eq (by omega)] at c6'
          obtain ⟨q, rfl⟩ : ∃ q, A6 = some ⟨q, 0, none⟩ := own_addr OY.out (by omega)
          have hyi := hyv.out j hjl
          rw [if_neg (by omega)] at hyi
          have hy0 := OY.out.cellAt j (by omega)
          rw [ics_get (show j < ys.length by have := hyl.out; omega), iat_eq (show j < ys.length by have := hyl.out; omega), hyi] at hy0
          have hyf := OY.out.frozenAt j
          have hya := (OY.out.lt q rfl).2
          obtain ⟨w1, w2⟩ := HF.out.sub hlt hjl
          have hjl' : (j : Int) < (ms.length : Int) := by omega
          have hjm : (j : Int) < ((oat os k).many.length : Int) := by omega
          have HSET := Lib.hid (show ∀ x, x < ms.length → iat (ys.set j (iat (remT os ms L0 (k + 1)) j)) x = if x < j + 1 then iat (remT os ms L0 (k + 1)) x else iat (remT os ms L0 k) x from fun x hx => by
            rw [iat_set (by have := hyl.out; omega)]
            by_cases e : x = j
            · subst e; rw [if_pos rfl, if_pos (by omega)]
            · rw [if_neg e, hyv.out x hx]
              by_cases h9 : x < j
              · rw [if_pos h9, if_pos (by omega)]
              · rw [if_neg h9, if_neg (by omega)])
          have HM1 := Lib.hid hm1
          clear hc5 hc4 hc6 d2 hm1 hm2 hm3 hyi d1
          refine as_up fun g11 => ?_
          go_wp2_with fail
          go_still_tail 21, (by kernel_rfl)
          change wpList _ _ _ _ _ (World.drew _)
          rw [drew_up]
          go_wp2_with fail
          go_roundw
          case rel =>
            go_light
            have S := (own_up OY.out (Up.dr g11)).stored j (i64 (iat (remT os ms L0 (k + 1)) j))
            exact ⟨j + 1, ys.set j (iat (remT os ms L0 (k + 1)) j), by go_num, by omega, Lib.hid (by rw [List.length_set]; exact hyl.out), HSET, Lib.hid (by rw [← ics_set]; exact S.1), Lib.hid ((BY.out.trans ((Up.dr g11).below.mono BY.out.size)).setCell (OY.out.lt q rfl).1 _)⟩
          case measure => (simp [intOf]; try omega)
        · obtain rfl : j = ms.length := by omega
          have hys : ys = remT os ms L0 (k + 1) := iats_ext (by rw [hyl.out, remT_len]) (fun x hx => by have := hyv.out x (by have := hyl.out; omega); rw [this, if_pos (by have := hyl.out; omega)])
          subst hys
          go_wp2_with fail
          go_roundw
          case rel => exact ⟨k + 1, by go_num, by omega, rfl, OY, BY⟩
          case measure => (simp [intOf]; try omega)
    · obtain rfl : k = L0.length := by omega
      have ZW := Lib.hid (Z.out.below BW.out)
      generalize wr = V7 at *
      clear Z BW
      go_wp2_with fail
      go_loopw [23] (fun jj wr => ∃ (j : Nat), jj = i64 j ∧ j ≤ ms.length ∧ ∃ g : Up V7, wr = up V7 g) (fun jj _ => ms.length - (intOf jj).toNat)
      case atStart => exact ⟨0, rfl, by omega, ex_up (by repeat (first | exact Below.refl _ _ | refine bl_tr ?_ _ | refine bl_al ?_ _ | refine bl_dr ?_ | refine bl_up ?_ _ | refine Below.drew ?_ | refine bl_alloc ?_ _ | refine Below.setCell ?_ (by first | (simp; done) | (simp; omega)) _))⟩
      case round =>
        obtain ⟨j, rfl, hj, g11, rfl⟩ := hrel
        by_cases hjl : j < ms.length
        · have hjl' : (j : Int) < (ms.length : Int) := by omega
          obtain ⟨q, rfl⟩ : ∃ q, A6 = some ⟨q, 0, none⟩ := own_addr OW.out (by omega)
          have hy0 := OW.out.cellAt j (by omega)
          rw [ics_get (show j < (remT os ms L0 L0.length).length by rw [remT_len]; exact hjl), iat_eq (by rw [remT_len]; exact hjl)] at hy0
          have hya := (OW.out.lt q rfl).2
          have hp := HF.out.rem j hjl
          have hp' : ¬ iat (remT os ms L0 L0.length) j < 0 := by omega
          go_wp2_with (first | ((with_reducible refine wp_region_up (by kernel_rfl) (by kernel_rfl) ?_); (repeat (go_big_quiet_step (fail))); refine wpQuiet_nil ?_; intro _ hw'; obtain ⟨nq, hw''⟩ := hw'; subst hw''))
          go_roundw
          case rel => exact ⟨j + 1, by go_num, by omega, ex_up (by repeat (first | exact Below.refl _ _ | refine bl_tr ?_ _ | refine bl_al ?_ _ | refine bl_dr ?_ | refine bl_up ?_ _ | refine Below.drew ?_ | refine bl_alloc ?_ _ | refine Below.setCell ?_ (by first | (simp; done) | (simp; omega)) _))⟩
          case measure => (simp [intOf]; try omega)
        · obtain rfl : j = ms.length := by omega
          go_wp2_with fail
          refine (basketIK (Lib.hid HF.out.brs) ms.length (remT_len _ _ _ _) _ (ZW.out.see.below (by repeat (first | exact Below.refl _ _ | refine bl_tr ?_ _ | refine bl_al ?_ _ | refine bl_dr ?_ | refine bl_up ?_ _ | refine Below.drew ?_ | refine bl_alloc ?_ _ | refine Below.setCell ?_ (by first | (simp; done) | (simp; omega)) _))) ((Rds.of_own OW.out).below (by repeat (first | exact Below.refl _ _ | refine bl_tr ?_ _ | refine bl_al ?_ _ | refine bl_dr ?_ | refine bl_up ?_ _ | refine Below.drew ?_ | refine bl_alloc ?_ _ | refine Below.setCell ?_ (by first | (simp; done) | (simp; omega)) _))) HWB.out (by omega) (by omega)).mono ?_
          rintro e w' ⟨rfl, g12, rfl⟩
          go_wp2_with fail
          refine (basketIK (Lib.hid HF.out.bms) ms.length rfl _ (ZW.out.see.below (by repeat (first | exact Below.refl _ _ | refine bl_tr ?_ _ | refine bl_al ?_ _ | refine bl_dr ?_ | refine bl_up ?_ _ | refine Below.drew ?_ | refine bl_alloc ?_ _ | refine Below.setCell ?_ (by first | (simp; done) | (simp; omega)) _))) (ZW.out.man.below (by repeat (first | exact Below.refl _ _ | refine bl_tr ?_ _ | refine bl_al ?_ _ | refine bl_dr ?_ | refine bl_up ?_ _ | refine Below.drew ?_ | refine bl_alloc ?_ _ | refine Below.setCell ?_ (by first | (simp; done) | (simp; omega)) _))) HWB.out (by omega) (by omega)).mono ?_
          rintro e w' ⟨rfl, g13, rfl⟩
          have f1 : ((L0.length : Int) == (os.length : Int)) = true := by rw [beq_iff_eq]; have := HF.out.len; omega
          have f2 := HF.out.fin (by omega)
          have f3 : (r1 == r1) = true := by simp
          have f4 : r1 ≤ bsk l ms l.length := HF.out.le
          go_wp2_with fail
          go_ret
          exact ⟨rfl, ZW.out.up.tr (by repeat (first | exact Below.refl _ _ | refine bl_tr ?_ _ | refine bl_al ?_ _ | refine bl_dr ?_ | refine bl_up ?_ _ | refine Below.drew ?_ | refine bl_alloc ?_ _ | refine Below.setCell ?_ (by first | (simp; done) | (simp; omega)) _))⟩
end Go.Proofs.Ytiibpldfnnhhlaa

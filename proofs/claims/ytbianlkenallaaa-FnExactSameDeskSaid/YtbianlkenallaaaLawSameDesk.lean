/-
  The law on SameDesk: the measure of a desk, the walk.
-/
import Derived.Test.YtbianlkenallaaaToDesk
import Derived.Test.YtbianlkenallaaaSameDesk
import Derived.Test.YtbianlkenallaaaIntsSz
namespace Go.Proofs.Ytbianlkenallaaa
open Go.RowKit
def dkTot (d : DeskD) : Nat := d.stops.length + drTot d.drills + d.log.size
def DkBnd (d : DeskD) : Prop := d.stops.length ≤ 9223372036854775807 ∧ d.drills.length ≤ 9223372036854775807 ∧ (∀ h ∈ d.drills, h.name.size ≤ 9223372036854775807 ∧ h.letters.size ≤ 9223372036854775807) ∧ d.log.size ≤ 9223372036854775807
set_option maxRecDepth 10000 in
theorem szDesk_any (d : DeskD) (A B : Option Addr) (c e : Nat) (k : Int) (w : World) (hk : 0 ≤ k) (hk1 : k ≤ 1048576) (hd : DkBnd d) (h : DSee w d A B) :
    Calls Try.prog 10 #[dkv d A B c e, i64 k] w fun r w' => r = .returned (i64 (szR k (dkTot d))) ∧ UpOf w w' := by
  have ht : (dkTot d : Int) = d.stops.length + drTot d.drills + d.log.size := by simp [dkTot]
  obtain ⟨d1, d2, d3, d4⟩ := hd
  have H3 := Lib.hid d3
  have H := Lib.hid h
  clear d3 h
  go_enter Try.func10, Try.ntmps10
  go_wp2_with fail
  refine calls_gen (R := fun V => Box V w.heap.size (dkcs d A B c e) ∧ Below w.heap.size w V) ⟨Box.new _ _ _, (by repeat (first | exact Below.refl _ _ | refine bl_tr ?_ _ | refine bl_al ?_ _ | refine bl_dr ?_ | refine bl_up ?_ _ | refine Below.drew ?_ | refine bl_alloc ?_ _ | refine Below.setCell ?_ (by first | (simp; done) | (simp; omega)) _))⟩ (fun W0 st0 => ?_)
  obtain ⟨l1, x0, x1, x2, x3, x4, x5, x6, x7⟩ := st0.1.eight
  have HB := Lib.hid st0.2
  clear st0 x0 x1 x2 x3 x4 x5
  generalize hp : w.heap.size = p at l1 x6 x7
  refine (szInt64S_any _ _ _ k _ hk hk1 d1).mono ?_
  rintro r w' ⟨rfl, g1, rfl⟩
  by_cases q1 : k < ((d.stops.length : Nat) : Int)
  · rw [szR_no q1]
    go_wp2_with fail
    go_ret
    exact ⟨ret_int (by rw [szR_no (by omega)]), UpOf.of (HB.out.trans (Below.mono (by repeat (first | exact Below.refl _ _ | refine bl_tr ?_ _ | refine bl_al ?_ _ | refine bl_dr ?_ | refine bl_up ?_ _ | refine Below.drew ?_ | refine bl_alloc ?_ _ | refine Below.setCell ?_ (by first | (simp; done) | (simp; omega)) _)) HB.out.size))⟩
  rw [szR_ok q1]
  go_wp2_with fail
  refine (szDrillS_any _ _ _ _ _ ((H.out.2.below HB.out).below (by repeat (first | exact Below.refl _ _ | refine bl_tr ?_ _ | refine bl_al ?_ _ | refine bl_dr ?_ | refine bl_up ?_ _ | refine Below.drew ?_ | refine bl_alloc ?_ _ | refine Below.setCell ?_ (by first | (simp; done) | (simp; omega)) _))) (by omega) (by omega) d2 H3.out).mono ?_
  rintro r w' ⟨rfl, g2, rfl⟩
  by_cases q2 : k - ((d.stops.length : Nat) : Int) < ((drTot d.drills : Nat) : Int)
  · rw [szR_no q2]
    go_wp2_with fail
    go_ret
    exact ⟨ret_int (by rw [szR_no (by omega)]), UpOf.of (HB.out.trans (Below.mono (by repeat (first | exact Below.refl _ _ | refine bl_tr ?_ _ | refine bl_al ?_ _ | refine bl_dr ?_ | refine bl_up ?_ _ | refine Below.drew ?_ | refine bl_alloc ?_ _ | refine Below.setCell ?_ (by first | (simp; done) | (simp; omega)) _)) HB.out.size))⟩
  rw [szR_ok q2]
  by_cases q3 : k - ((d.stops.length : Nat) : Int) - ((drTot d.drills : Nat) : Int) - ((d.log.size : Nat) : Int) < 0
  · go_wp2_with fail
    go_ret
    exact ⟨ret_int (by rw [szR_no (by omega)]), UpOf.of (HB.out.trans (Below.mono (by repeat (first | exact Below.refl _ _ | refine bl_tr ?_ _ | refine bl_al ?_ _ | refine bl_dr ?_ | refine bl_up ?_ _ | refine Below.drew ?_ | refine bl_alloc ?_ _ | refine Below.setCell ?_ (by first | (simp; done) | (simp; omega)) _)) HB.out.size))⟩
  · go_wp2_with fail
    go_ret
    exact ⟨ret_int (by rw [szR_ok (by omega)]; omega), UpOf.of (HB.out.trans (Below.mono (by repeat (first | exact Below.refl _ _ | refine bl_tr ?_ _ | refine bl_al ?_ _ | refine bl_dr ?_ | refine bl_up ?_ _ | refine Below.drew ?_ | refine bl_alloc ?_ _ | refine Below.setCell ?_ (by first | (simp; done) | (simp; omega)) _)) HB.out.size))⟩
theorem deskS' {x y : DeskD} {r : Bool} (hr : Hid (deskEq x y = r)) {A B A' B' : Option Addr} {c e c' e' : Nat} {w : World} (h : DSee w x A B) (h' : DSee w y A' B') (h1 : x.stops.length ≤ 100000000) (h2 : x.drills.length ≤ 100000000) (h3 : y.stops.length ≤ 100000000) (h4 : y.drills.length ≤ 100000000) :
    Calls Try.prog 11 #[dkv x A B c e, dkv y A' B' c' e'] w fun e w' => e = .returned (.bool r) ∧ UpOf w w' := by
  rw [← hr.out]
  exact sameDeskS_any x y A B A' B' c e c' e' w h h' h1 h2 h3 h4
theorem deskI' {x y : DeskD} {r : Bool} (hr : Hid (deskEq x y = r)) {A B A' B' : Option Addr} {c e c' e' : Nat} {w : World} (h : DSee w x A B) (h' : DSee w y A' B') (h1 : x.stops.length ≤ 100000000) (h2 : x.drills.length ≤ 100000000) (h3 : y.stops.length ≤ 100000000) (h4 : y.drills.length ≤ 100000000) :
    Calls Try.prog 13 #[dkv x A B c e, dkv y A' B' c' e'] w fun e w' => e = .returned (.bool r) ∧ UpOf w w' := by
  rw [← hr.out]
  exact sameDeskI_any x y A B A' B' c e c' e' w h h' h1 h2 h3 h4
theorem ub {w V : World} (h : UpOf w V) : Below w.heap.size w V := by obtain ⟨g, rfl⟩ := h; exact up_below w g
theorem wp_gen {P : Program} {c : Code} {Q : Exit → Act → World → Prop} {a : Act} {w : World} {R : World → Prop} (st : R w) (h : ∀ W, R W → Code.wp P c Q a W) : Code.wp P c Q a w := h w st
theorem UpOf.tr {w V V' : World} (h : UpOf w V) (hb : Below V.heap.size V V') : UpOf w V' := UpOf.of ((ub h).trans (hb.mono (ub h).size))
theorem dkTot_lens {d : DeskD} {k : Int} (h : (dkTot d : Int) ≤ k) (hk : k ≤ 1048576) : d.stops.length ≤ 100000000 ∧ d.drills.length ≤ 100000000 := by
  have := drTot_len d.drills
  unfold dkTot at h
  omega
set_option maxRecDepth 10000 in
set_option maxHeartbeats 2000000 in
theorem law_sameDesk (x y : DeskD) (A B A' B' : Option Addr) (c e c' e' : Nat) (w : World) (hx : DSee w x A B) (hy : DSee w y A' B') (bx : DkBnd x) (by_ : DkBnd y) :
    Calls Try.prog 4 #[dkv x A B c e, dkv y A' B' c' e'] w fun r w' => r = .returned (.bool true) ∧ UpOf w w' := by
  obtain ⟨r0, hr⟩ : ∃ r, deskEq x y = r := ⟨_, rfl⟩
  have HR := Lib.hid hr
  have X := Lib.hid hx
  have Y := Lib.hid hy
  have BX := Lib.hid bx
  have BY := Lib.hid by_
  clear hr hx hy bx by_
  go_enter Try.func4, Try.ntmps4
  go_wp2_with fail
  obtain ⟨b0, b1, hs, hB⟩ := box2 w (dkcs x A B c e) (dkcs y A' B' c' e') 35 35
  refine calls_gen (R := fun V => Box V w.heap.size (dkcs x A B c e) ∧ Box V (w.heap.size + 1) (dkcs y A' B' c' e') ∧ UpOf w V) ⟨⟨by rw [hs]; omega, fun i u h => (b0 i).trans h⟩, ⟨by rw [hs]; omega, fun i u h => (b1 i).trans h⟩, UpOf.of hB⟩ (fun W0 st0 => ?_)
  clear b0 b1 hs hB
  have S0 := Lib.hid st0
  obtain ⟨l1, x0, x1, x2, x3, x4, x5, x6, x7⟩ := st0.1.eight
  obtain ⟨l2, y0, y1, y2, y3, y4, y5, y6, y7⟩ := st0.2.1.eight
  clear st0
  generalize w.heap.size + 1 = q at *
  generalize hp : w.heap.size = p at *
  by_cases q1 : (1048576 : Int) < ((dkTot x : Nat) : Int)
  · refine (szDesk_any x A B c e _ _ (by omega) (by omega) BX.out (X.out.below (ub S0.out.2.2))).mono ?_
    rintro r w' ⟨rfl, g1, rfl⟩
    rw [szR_no q1]
    go_wp2_with fail
    go_ret
    exact ⟨rfl, UpOf.of ((ub S0.out.2.2).trans (Below.mono (by repeat (first | exact Below.refl _ _ | refine bl_tr ?_ _ | refine bl_al ?_ _ | refine bl_dr ?_ | refine bl_up ?_ _ | refine Below.drew ?_ | refine bl_alloc ?_ _ | refine Below.setCell ?_ (by first | (simp; done) | (simp; omega)) _)) (ub S0.out.2.2).size))⟩
  obtain ⟨n1, n2⟩ := dkTot_lens (d := x) (k := 1048576) (by omega) (by omega)
  refine (szDesk_any x A B c e _ _ (by omega) (by omega) BX.out (X.out.below (ub S0.out.2.2))).mono ?_
  rintro r w' ⟨rfl, g1, rfl⟩
  rw [szR_ok q1]
  go_wp2_with fail
  have K1 := Lib.hid (ub S0.out.2.2)
  by_cases q2 : (1048576 : Int) - ((dkTot x : Nat) : Int) < ((dkTot y : Nat) : Int)
  · refine (szDesk_any y A' B' c' e' _ _ (by omega) (by omega) BY.out ((Y.out.below K1.out).below (by repeat (first | exact Below.refl _ _ | refine bl_tr ?_ _ | refine bl_al ?_ _ | refine bl_dr ?_ | refine bl_up ?_ _ | refine Below.drew ?_ | refine bl_alloc ?_ _ | refine Below.setCell ?_ (by first | (simp; done) | (simp; omega)) _)))).mono ?_
    rintro r w' ⟨rfl, g2, rfl⟩
    rw [szR_no q2]
    go_wp2_with fail
    go_ret
    exact ⟨rfl, UpOf.of (K1.out.trans (Below.mono (by repeat (first | exact Below.refl _ _ | refine bl_tr ?_ _ | refine bl_al ?_ _ | refine bl_dr ?_ | refine bl_up ?_ _ | refine Below.drew ?_ | refine bl_alloc ?_ _ | refine Below.setCell ?_ (by first | (simp; done) | (simp; omega)) _)) K1.out.size))⟩
  obtain ⟨n3, n4⟩ := dkTot_lens (d := y) (k := 1048576) (by omega) (by omega)
  refine (szDesk_any y A' B' c' e' _ _ (by omega) (by omega) BY.out ((Y.out.below K1.out).below (by repeat (first | exact Below.refl _ _ | refine bl_tr ?_ _ | refine bl_al ?_ _ | refine bl_dr ?_ | refine bl_up ?_ _ | refine Below.drew ?_ | refine bl_alloc ?_ _ | refine Below.setCell ?_ (by first | (simp; done) | (simp; omega)) _)))).mono ?_
  rintro r w' ⟨rfl, g2, rfl⟩
  rw [szR_ok q2]
  go_wp2_with fail
  refine wp_gen (R := fun V => Box V p (dkcs x A B c e) ∧ Box V q (dkcs y A' B' c' e') ∧ UpOf w V) ⟨S0.out.1.below (by repeat (first | exact Below.refl _ _ | refine bl_tr ?_ _ | refine bl_al ?_ _ | refine bl_dr ?_ | refine bl_up ?_ _ | refine Below.drew ?_ | refine bl_alloc ?_ _ | refine Below.setCell ?_ (by first | (simp; done) | (simp; omega)) _)), S0.out.2.1.below (by repeat (first | exact Below.refl _ _ | refine bl_tr ?_ _ | refine bl_al ?_ _ | refine bl_dr ?_ | refine bl_up ?_ _ | refine Below.drew ?_ | refine bl_alloc ?_ _ | refine Below.setCell ?_ (by first | (simp; done) | (simp; omega)) _)), S0.out.2.2.tr (by repeat (first | exact Below.refl _ _ | refine bl_tr ?_ _ | refine bl_al ?_ _ | refine bl_dr ?_ | refine bl_up ?_ _ | refine Below.drew ?_ | refine bl_alloc ?_ _ | refine Below.setCell ?_ (by first | (simp; done) | (simp; omega)) _))⟩ (fun W st => ?_)
  clear x0 x1 x2 x3 x4 x5 x6 x7 y0 y1 y2 y3 y4 y5 y6 y7 l1 l2 S0 K1
  have K := Lib.hid (ub st.2.2)
  have SB := Lib.hid st
  obtain ⟨l1, x0, x1, x2, x3, x4, x5, x6, x7⟩ := st.1.eight
  obtain ⟨l2, y0, y1, y2, y3, y4, y5, y6, y7⟩ := st.2.1.eight
  clear st
  go_region_held3 (fun w' => (W).heap.size ≤ w'.heap.size ∧ ∀ b o, b < (W).heap.size → w'.cell? ⟨b, o, none⟩ = (W).cell? ⟨b, o, none⟩) (exact sm_of (by repeat (first | exact Below.refl _ _ | refine bl_tr ?_ _ | refine bl_al ?_ _ | refine bl_dr ?_ | refine bl_up ?_ _ | refine Below.drew ?_ | refine bl_alloc ?_ _ | refine Below.setCell ?_ (by first | (simp; done) | (simp; omega)) _))) (first | (go_at_call 11; refine (deskS' HR (DSee.below (by assumption) (by repeat (first | exact Below.refl _ _ | refine bl_tr ?_ _ | refine bl_al ?_ _ | refine bl_dr ?_ | refine bl_up ?_ _ | refine Below.drew ?_ | refine bl_alloc ?_ _ | refine Below.setCell ?_ (by first | (simp; done) | (simp; omega)) _))) (DSee.below (by assumption) (by repeat (first | exact Below.refl _ _ | refine bl_tr ?_ _ | refine bl_al ?_ _ | refine bl_dr ?_ | refine bl_up ?_ _ | refine Below.drew ?_ | refine bl_alloc ?_ _ | refine Below.setCell ?_ (by first | (simp; done) | (simp; omega)) _))) n1 n2 n3 n4).mono ?_; rintro r w' ⟨rfl, g5, rfl⟩) | (go_at_call 12; refine (toDesk_any _ _ _ _ _ _ ((by first | exact X.out.below K.out | exact Y.out.below K.out : DSee W _ _ _).below (by repeat (first | exact Below.refl _ _ | refine bl_tr ?_ _ | refine bl_al ?_ _ | refine bl_dr ?_ | refine bl_up ?_ _ | refine Below.drew ?_ | refine bl_alloc ?_ _ | refine Below.setCell ?_ (by first | (simp; done) | (simp; omega)) _))) (by first | exact n1 | exact n3) (by first | exact n2 | exact n4)).mono ?_; rintro r w' ⟨Ad, Bd, cd, ed, rfl, sd, g4, rfl⟩))
  go_wp2_with fail
  refine (toDesk_any x _ _ _ _ _ ((X.out.below K.out).below (by repeat (first | exact Below.refl _ _ | refine bl_tr ?_ _ | refine bl_al ?_ _ | refine bl_dr ?_ | refine bl_up ?_ _ | refine Below.drew ?_ | refine bl_alloc ?_ _ | refine Below.setCell ?_ (by first | (simp; done) | (simp; omega)) _))) n1 n2).mono ?_
  rintro r w' ⟨A3, B3, c3, e3, rfl, s3, g6, rfl⟩
  simp only []
  refine act_gen (R := fun V => Box V p (dkcs x A B c e) ∧ Box V q (dkcs y A' B' c' e') ∧ DSee V x A3 B3 ∧ UpOf w V) ⟨SB.out.1.below (by repeat (first | exact Below.refl _ _ | refine bl_tr ?_ _ | refine bl_al ?_ _ | refine bl_dr ?_ | refine bl_up ?_ _ | refine Below.drew ?_ | refine bl_alloc ?_ _ | refine Below.setCell ?_ (by first | (simp; done) | (simp; omega)) _)), SB.out.2.1.below (by repeat (first | exact Below.refl _ _ | refine bl_tr ?_ _ | refine bl_al ?_ _ | refine bl_dr ?_ | refine bl_up ?_ _ | refine Below.drew ?_ | refine bl_alloc ?_ _ | refine Below.setCell ?_ (by first | (simp; done) | (simp; omega)) _)), s3, SB.out.2.2.tr (by repeat (first | exact Below.refl _ _ | refine bl_tr ?_ _ | refine bl_al ?_ _ | refine bl_dr ?_ | refine bl_up ?_ _ | refine Below.drew ?_ | refine bl_alloc ?_ _ | refine Below.setCell ?_ (by first | (simp; done) | (simp; omega)) _))⟩ (fun W3 st3 => ?_)
  clear x0 x1 x2 x3 x4 x5 x6 x7 y0 y1 y2 y3 y4 y5 y6 y7 l1 l2 SB K s3 g6
  have S3 := Lib.hid st3
  clear st3
  iterate 6 go_step
  refine act_gen (R := fun V => Box V p (dkcs x A B c e) ∧ Box V q (dkcs y A' B' c' e') ∧ Box V W3.heap.size (dkcs x A3 B3 c3 e3) ∧ DSee V x A3 B3 ∧ UpOf w V) ⟨S3.out.1.below (by repeat (first | exact Below.refl _ _ | refine bl_tr ?_ _ | refine bl_al ?_ _ | refine bl_dr ?_ | refine bl_up ?_ _ | refine Below.drew ?_ | refine bl_alloc ?_ _ | refine Below.setCell ?_ (by first | (simp; done) | (simp; omega)) _)), S3.out.2.1.below (by repeat (first | exact Below.refl _ _ | refine bl_tr ?_ _ | refine bl_al ?_ _ | refine bl_dr ?_ | refine bl_up ?_ _ | refine Below.drew ?_ | refine bl_alloc ?_ _ | refine Below.setCell ?_ (by first | (simp; done) | (simp; omega)) _)), Box.new _ _ _, S3.out.2.2.1.below (by repeat (first | exact Below.refl _ _ | refine bl_tr ?_ _ | refine bl_al ?_ _ | refine bl_dr ?_ | refine bl_up ?_ _ | refine Below.drew ?_ | refine bl_alloc ?_ _ | refine Below.setCell ?_ (by first | (simp; done) | (simp; omega)) _)), S3.out.2.2.2.tr (by repeat (first | exact Below.refl _ _ | refine bl_tr ?_ _ | refine bl_al ?_ _ | refine bl_dr ?_ | refine bl_up ?_ _ | refine Below.drew ?_ | refine bl_alloc ?_ _ | refine Below.setCell ?_ (by first | (simp; done) | (simp; omega)) _))⟩ (fun W4 st4 => ?_)
  have S4 := Lib.hid st4
  clear S3
  generalize W3.heap.size = s7 at *
  obtain ⟨l1, x0, x1, x2, x3, x4, x5, x6, x7⟩ := st4.1.eight
  obtain ⟨l2, y0, y1, y2, y3, y4, y5, y6, y7⟩ := st4.2.1.eight
  clear st4
  go_wp2_with fail
  refine (toDesk_any y _ _ _ _ _ ((Y.out.below (ub S4.out.2.2.2.2)).below (by repeat (first | exact Below.refl _ _ | refine bl_tr ?_ _ | refine bl_al ?_ _ | refine bl_dr ?_ | refine bl_up ?_ _ | refine Below.drew ?_ | refine bl_alloc ?_ _ | refine Below.setCell ?_ (by first | (simp; done) | (simp; omega)) _))) n3 n4).mono ?_
  rintro r w' ⟨A5, B5, c5, e5, rfl, s5, g8, rfl⟩
  simp only []
  refine act_gen (R := fun V => Box V p (dkcs x A B c e) ∧ Box V q (dkcs y A' B' c' e') ∧ Box V s7 (dkcs x A3 B3 c3 e3) ∧ DSee V x A3 B3 ∧ DSee V y A5 B5 ∧ UpOf w V) ⟨S4.out.1.below (by repeat (first | exact Below.refl _ _ | refine bl_tr ?_ _ | refine bl_al ?_ _ | refine bl_dr ?_ | refine bl_up ?_ _ | refine Below.drew ?_ | refine bl_alloc ?_ _ | refine Below.setCell ?_ (by first | (simp; done) | (simp; omega)) _)), S4.out.2.1.below (by repeat (first | exact Below.refl _ _ | refine bl_tr ?_ _ | refine bl_al ?_ _ | refine bl_dr ?_ | refine bl_up ?_ _ | refine Below.drew ?_ | refine bl_alloc ?_ _ | refine Below.setCell ?_ (by first | (simp; done) | (simp; omega)) _)), S4.out.2.2.1.below (by repeat (first | exact Below.refl _ _ | refine bl_tr ?_ _ | refine bl_al ?_ _ | refine bl_dr ?_ | refine bl_up ?_ _ | refine Below.drew ?_ | refine bl_alloc ?_ _ | refine Below.setCell ?_ (by first | (simp; done) | (simp; omega)) _)), S4.out.2.2.2.1.below (by repeat (first | exact Below.refl _ _ | refine bl_tr ?_ _ | refine bl_al ?_ _ | refine bl_dr ?_ | refine bl_up ?_ _ | refine Below.drew ?_ | refine bl_alloc ?_ _ | refine Below.setCell ?_ (by first | (simp; done) | (simp; omega)) _)), s5, S4.out.2.2.2.2.tr (by repeat (first | exact Below.refl _ _ | refine bl_tr ?_ _ | refine bl_al ?_ _ | refine bl_dr ?_ | refine bl_up ?_ _ | refine Below.drew ?_ | refine bl_alloc ?_ _ | refine Below.setCell ?_ (by first | (simp; done) | (simp; omega)) _))⟩ (fun W5 st5 => ?_)
  clear x0 x1 x2 x3 x4 x5 x6 x7 y0 y1 y2 y3 y4 y5 y6 y7 l1 l2 S4 s5 g8
  have S5 := Lib.hid st5
  clear st5
  iterate 6 go_step
  refine act_gen (R := fun V => Box V p (dkcs x A B c e) ∧ Box V q (dkcs y A' B' c' e') ∧ Box V s7 (dkcs x A3 B3 c3 e3) ∧ Box V W5.heap.size (dkcs y A5 B5 c5 e5) ∧ DSee V x A3 B3 ∧ DSee V y A5 B5 ∧ UpOf w V) ⟨S5.out.1.below (by repeat (first | exact Below.refl _ _ | refine bl_tr ?_ _ | refine bl_al ?_ _ | refine bl_dr ?_ | refine bl_up ?_ _ | refine Below.drew ?_ | refine bl_alloc ?_ _ | refine Below.setCell ?_ (by first | (simp; done) | (simp; omega)) _)), S5.out.2.1.below (by repeat (first | exact Below.refl _ _ | refine bl_tr ?_ _ | refine bl_al ?_ _ | refine bl_dr ?_ | refine bl_up ?_ _ | refine Below.drew ?_ | refine bl_alloc ?_ _ | refine Below.setCell ?_ (by first | (simp; done) | (simp; omega)) _)), S5.out.2.2.1.below (by repeat (first | exact Below.refl _ _ | refine bl_tr ?_ _ | refine bl_al ?_ _ | refine bl_dr ?_ | refine bl_up ?_ _ | refine Below.drew ?_ | refine bl_alloc ?_ _ | refine Below.setCell ?_ (by first | (simp; done) | (simp; omega)) _)), Box.new _ _ _, S5.out.2.2.2.1.below (by repeat (first | exact Below.refl _ _ | refine bl_tr ?_ _ | refine bl_al ?_ _ | refine bl_dr ?_ | refine bl_up ?_ _ | refine Below.drew ?_ | refine bl_alloc ?_ _ | refine Below.setCell ?_ (by first | (simp; done) | (simp; omega)) _)), S5.out.2.2.2.2.1.below (by repeat (first | exact Below.refl _ _ | refine bl_tr ?_ _ | refine bl_al ?_ _ | refine bl_dr ?_ | refine bl_up ?_ _ | refine Below.drew ?_ | refine bl_alloc ?_ _ | refine Below.setCell ?_ (by first | (simp; done) | (simp; omega)) _)), S5.out.2.2.2.2.2.tr (by repeat (first | exact Below.refl _ _ | refine bl_tr ?_ _ | refine bl_al ?_ _ | refine bl_dr ?_ | refine bl_up ?_ _ | refine Below.drew ?_ | refine bl_alloc ?_ _ | refine Below.setCell ?_ (by first | (simp; done) | (simp; omega)) _))⟩ (fun W6 st6 => ?_)
  have S6 := Lib.hid st6
  clear S5
  generalize W5.heap.size = s8 at *
  obtain ⟨l1, x0, x1, x2, x3, x4, x5, x6, x7⟩ := st6.1.eight
  obtain ⟨l2, y0, y1, y2, y3, y4, y5, y6, y7⟩ := st6.2.1.eight
  obtain ⟨l3, z0, z1, z2, z3, z4, z5, z6, z7⟩ := st6.2.2.1.eight
  obtain ⟨l4, v0, v1, v2, v3, v4, v5, v6, v7⟩ := st6.2.2.2.1.eight
  clear st6
  go_wp2_with fail
  refine (deskI' HR (S6.out.2.2.2.2.1.below (by repeat (first | exact Below.refl _ _ | refine bl_tr ?_ _ | refine bl_al ?_ _ | refine bl_dr ?_ | refine bl_up ?_ _ | refine Below.drew ?_ | refine bl_alloc ?_ _ | refine Below.setCell ?_ (by first | (simp; done) | (simp; omega)) _))) (S6.out.2.2.2.2.2.1.below (by repeat (first | exact Below.refl _ _ | refine bl_tr ?_ _ | refine bl_al ?_ _ | refine bl_dr ?_ | refine bl_up ?_ _ | refine Below.drew ?_ | refine bl_alloc ?_ _ | refine Below.setCell ?_ (by first | (simp; done) | (simp; omega)) _))) n1 n2 n3 n4).mono ?_
  rintro r w' ⟨rfl, g9, rfl⟩
  go_wp2_with fail
  refine wp_gen (R := fun V => Box V p (dkcs x A B c e) ∧ Box V q (dkcs y A' B' c' e') ∧ Box V s7 (dkcs x A3 B3 c3 e3) ∧ Box V s8 (dkcs y A5 B5 c5 e5) ∧ DSee V x A3 B3 ∧ DSee V y A5 B5 ∧ UpOf w V) ⟨S6.out.1.below (by repeat (first | exact Below.refl _ _ | refine bl_tr ?_ _ | refine bl_al ?_ _ | refine bl_dr ?_ | refine bl_up ?_ _ | refine Below.drew ?_ | refine bl_alloc ?_ _ | refine Below.setCell ?_ (by first | (simp; done) | (simp; omega)) _)), S6.out.2.1.below (by repeat (first | exact Below.refl _ _ | refine bl_tr ?_ _ | refine bl_al ?_ _ | refine bl_dr ?_ | refine bl_up ?_ _ | refine Below.drew ?_ | refine bl_alloc ?_ _ | refine Below.setCell ?_ (by first | (simp; done) | (simp; omega)) _)), S6.out.2.2.1.below (by repeat (first | exact Below.refl _ _ | refine bl_tr ?_ _ | refine bl_al ?_ _ | refine bl_dr ?_ | refine bl_up ?_ _ | refine Below.drew ?_ | refine bl_alloc ?_ _ | refine Below.setCell ?_ (by first | (simp; done) | (simp; omega)) _)), S6.out.2.2.2.1.below (by repeat (first | exact Below.refl _ _ | refine bl_tr ?_ _ | refine bl_al ?_ _ | refine bl_dr ?_ | refine bl_up ?_ _ | refine Below.drew ?_ | refine bl_alloc ?_ _ | refine Below.setCell ?_ (by first | (simp; done) | (simp; omega)) _)), S6.out.2.2.2.2.1.below (by repeat (first | exact Below.refl _ _ | refine bl_tr ?_ _ | refine bl_al ?_ _ | refine bl_dr ?_ | refine bl_up ?_ _ | refine Below.drew ?_ | refine bl_alloc ?_ _ | refine Below.setCell ?_ (by first | (simp; done) | (simp; omega)) _)), S6.out.2.2.2.2.2.1.below (by repeat (first | exact Below.refl _ _ | refine bl_tr ?_ _ | refine bl_al ?_ _ | refine bl_dr ?_ | refine bl_up ?_ _ | refine Below.drew ?_ | refine bl_alloc ?_ _ | refine Below.setCell ?_ (by first | (simp; done) | (simp; omega)) _)), S6.out.2.2.2.2.2.2.tr (by repeat (first | exact Below.refl _ _ | refine bl_tr ?_ _ | refine bl_al ?_ _ | refine bl_dr ?_ | refine bl_up ?_ _ | refine Below.drew ?_ | refine bl_alloc ?_ _ | refine Below.setCell ?_ (by first | (simp; done) | (simp; omega)) _))⟩ (fun W7 st => ?_)
  clear x0 x1 x2 x3 x4 x5 x6 x7 y0 y1 y2 y3 y4 y5 y6 y7 z0 z1 z2 z3 z4 z5 z6 z7 v0 v1 v2 v3 v4 v5 v6 v7 l1 l2 l3 l4 S6
  have SW7 := Lib.hid st
  have KW7 := Lib.hid (ub st.2.2.2.2.2.2)
  obtain ⟨l1, x0, x1, x2, x3, x4, x5, x6, x7⟩ := st.1.eight
  obtain ⟨l2, y0, y1, y2, y3, y4, y5, y6, y7⟩ := st.2.1.eight
  obtain ⟨l3, z0, z1, z2, z3, z4, z5, z6, z7⟩ := st.2.2.1.eight
  obtain ⟨l4, v0, v1, v2, v3, v4, v5, v6, v7⟩ := st.2.2.2.1.eight
  clear st
  go_region_held3 (fun w' => (W7).heap.size ≤ w'.heap.size ∧ ∀ b o, b < (W7).heap.size → w'.cell? ⟨b, o, none⟩ = (W7).cell? ⟨b, o, none⟩) (exact sm_of (by repeat (first | exact Below.refl _ _ | refine bl_tr ?_ _ | refine bl_al ?_ _ | refine bl_dr ?_ | refine bl_up ?_ _ | refine Below.drew ?_ | refine bl_alloc ?_ _ | refine Below.setCell ?_ (by first | (simp; done) | (simp; omega)) _))) (first | (go_at_call 7; refine (eqDesk_any x _ _ _ _ _ _ _ _ _ (DSee.below (SW7.out.2.2.2.2.1) (by repeat (first | exact Below.refl _ _ | refine bl_tr ?_ _ | refine bl_al ?_ _ | refine bl_dr ?_ | refine bl_up ?_ _ | refine Below.drew ?_ | refine bl_alloc ?_ _ | refine Below.setCell ?_ (by first | (simp; done) | (simp; omega)) _))) (DSee.below (by assumption) (by repeat (first | exact Below.refl _ _ | refine bl_tr ?_ _ | refine bl_al ?_ _ | refine bl_dr ?_ | refine bl_up ?_ _ | refine Below.drew ?_ | refine bl_alloc ?_ _ | refine Below.setCell ?_ (by first | (simp; done) | (simp; omega)) _))) n1 n2).mono ?_; rintro r w' ⟨rfl, g5, rfl⟩) | (go_at_call 12; refine (toDesk_any x _ _ _ _ _ ((X.out.below KW7.out).below (by repeat (first | exact Below.refl _ _ | refine bl_tr ?_ _ | refine bl_al ?_ _ | refine bl_dr ?_ | refine bl_up ?_ _ | refine Below.drew ?_ | refine bl_alloc ?_ _ | refine Below.setCell ?_ (by first | (simp; done) | (simp; omega)) _))) n1 n2).mono ?_; rintro r w' ⟨Ad, Bd, cd, ed, rfl, sd, g4, rfl⟩))
  go_wp2_with fail
  refine wp_gen (R := fun V => Box V p (dkcs x A B c e) ∧ Box V q (dkcs y A' B' c' e') ∧ Box V s7 (dkcs x A3 B3 c3 e3) ∧ Box V s8 (dkcs y A5 B5 c5 e5) ∧ DSee V x A3 B3 ∧ DSee V y A5 B5 ∧ UpOf w V) ⟨SW7.out.1.below (by repeat (first | exact Below.refl _ _ | refine bl_tr ?_ _ | refine bl_al ?_ _ | refine bl_dr ?_ | refine bl_up ?_ _ | refine Below.drew ?_ | refine bl_alloc ?_ _ | refine Below.setCell ?_ (by first | (simp; done) | (simp; omega)) _)), SW7.out.2.1.below (by repeat (first | exact Below.refl _ _ | refine bl_tr ?_ _ | refine bl_al ?_ _ | refine bl_dr ?_ | refine bl_up ?_ _ | refine Below.drew ?_ | refine bl_alloc ?_ _ | refine Below.setCell ?_ (by first | (simp; done) | (simp; omega)) _)), SW7.out.2.2.1.below (by repeat (first | exact Below.refl _ _ | refine bl_tr ?_ _ | refine bl_al ?_ _ | refine bl_dr ?_ | refine bl_up ?_ _ | refine Below.drew ?_ | refine bl_alloc ?_ _ | refine Below.setCell ?_ (by first | (simp; done) | (simp; omega)) _)), SW7.out.2.2.2.1.below (by repeat (first | exact Below.refl _ _ | refine bl_tr ?_ _ | refine bl_al ?_ _ | refine bl_dr ?_ | refine bl_up ?_ _ | refine Below.drew ?_ | refine bl_alloc ?_ _ | refine Below.setCell ?_ (by first | (simp; done) | (simp; omega)) _)), SW7.out.2.2.2.2.1.below (by repeat (first | exact Below.refl _ _ | refine bl_tr ?_ _ | refine bl_al ?_ _ | refine bl_dr ?_ | refine bl_up ?_ _ | refine Below.drew ?_ | refine bl_alloc ?_ _ | refine Below.setCell ?_ (by first | (simp; done) | (simp; omega)) _)), SW7.out.2.2.2.2.2.1.below (by repeat (first | exact Below.refl _ _ | refine bl_tr ?_ _ | refine bl_al ?_ _ | refine bl_dr ?_ | refine bl_up ?_ _ | refine Below.drew ?_ | refine bl_alloc ?_ _ | refine Below.setCell ?_ (by first | (simp; done) | (simp; omega)) _)), SW7.out.2.2.2.2.2.2.tr (by repeat (first | exact Below.refl _ _ | refine bl_tr ?_ _ | refine bl_al ?_ _ | refine bl_dr ?_ | refine bl_up ?_ _ | refine Below.drew ?_ | refine bl_alloc ?_ _ | refine Below.setCell ?_ (by first | (simp; done) | (simp; omega)) _))⟩ (fun W8 st => ?_)
  clear x0 x1 x2 x3 x4 x5 x6 x7 y0 y1 y2 y3 y4 y5 y6 y7 z0 z1 z2 z3 z4 z5 z6 z7 v0 v1 v2 v3 v4 v5 v6 v7 l1 l2 l3 l4 SW7
  have SW8 := Lib.hid st
  have KW8 := Lib.hid (ub st.2.2.2.2.2.2)
  obtain ⟨l1, x0, x1, x2, x3, x4, x5, x6, x7⟩ := st.1.eight
  obtain ⟨l2, y0, y1, y2, y3, y4, y5, y6, y7⟩ := st.2.1.eight
  obtain ⟨l3, z0, z1, z2, z3, z4, z5, z6, z7⟩ := st.2.2.1.eight
  obtain ⟨l4, v0, v1, v2, v3, v4, v5, v6, v7⟩ := st.2.2.2.1.eight
  clear st
  go_region_held3 (fun w' => (W8).heap.size ≤ w'.heap.size ∧ ∀ b o, b < (W8).heap.size → w'.cell? ⟨b, o, none⟩ = (W8).cell? ⟨b, o, none⟩) (exact sm_of (by repeat (first | exact Below.refl _ _ | refine bl_tr ?_ _ | refine bl_al ?_ _ | refine bl_dr ?_ | refine bl_up ?_ _ | refine Below.drew ?_ | refine bl_alloc ?_ _ | refine Below.setCell ?_ (by first | (simp; done) | (simp; omega)) _))) (first | (go_at_call 7; refine (eqDesk_any y _ _ _ _ _ _ _ _ _ (DSee.below (SW8.out.2.2.2.2.2.1) (by repeat (first | exact Below.refl _ _ | refine bl_tr ?_ _ | refine bl_al ?_ _ | refine bl_dr ?_ | refine bl_up ?_ _ | refine Below.drew ?_ | refine bl_alloc ?_ _ | refine Below.setCell ?_ (by first | (simp; done) | (simp; omega)) _))) (DSee.below (by assumption) (by repeat (first | exact Below.refl _ _ | refine bl_tr ?_ _ | refine bl_al ?_ _ | refine bl_dr ?_ | refine bl_up ?_ _ | refine Below.drew ?_ | refine bl_alloc ?_ _ | refine Below.setCell ?_ (by first | (simp; done) | (simp; omega)) _))) n3 n4).mono ?_; rintro r w' ⟨rfl, g5, rfl⟩) | (go_at_call 12; refine (toDesk_any y _ _ _ _ _ ((Y.out.below KW8.out).below (by repeat (first | exact Below.refl _ _ | refine bl_tr ?_ _ | refine bl_al ?_ _ | refine bl_dr ?_ | refine bl_up ?_ _ | refine Below.drew ?_ | refine bl_alloc ?_ _ | refine Below.setCell ?_ (by first | (simp; done) | (simp; omega)) _))) n3 n4).mono ?_; rintro r w' ⟨Ad, Bd, cd, ed, rfl, sd, g4, rfl⟩))
  go_wp2_with fail
  go_ret
  exact ⟨rfl, SW8.out.2.2.2.2.2.2.tr (by repeat (first | exact Below.refl _ _ | refine bl_tr ?_ _ | refine bl_al ?_ _ | refine bl_dr ?_ | refine bl_up ?_ _ | refine Below.drew ?_ | refine bl_alloc ?_ _ | refine Below.setCell ?_ (by first | (simp; done) | (simp; omega)) _))⟩
end Go.Proofs.Ytbianlkenallaaa

/-
  The laws on ValidDesk and DeskText: the walks. Premise on the world: the laid table.
-/
import Derived.Test.YtbianlkenallaaaDoorLawSameDesk
import Derived.Test.YtbianlkenallaaaDoorDeskOk
namespace Go.Proofs.YtbianlkenallaaaDoor
open Go.RowKit
theorem drTotN_at_le (l : List Drill) {i : Nat} (h : i < l.length) : drTot1 l[i] ≤ drTotN l l.length := by
  have h1 : drTotN l (i + 1) = drTotN l i + drTot1 l[i] := by rw [drTotN, List.getElem?_eq_getElem h]
  have h2 := drTotN_mono l (i + 1) (l.length - (i + 1))
  rw [show i + 1 + (l.length - (i + 1)) = l.length by omega] at h2
  omega
theorem dkSz_of {d : DeskD} {k : Int} (h : (dkTot d : Int) ≤ k) (hk : k ≤ 1048576) : DkSz d d.drills.length := by
  have h1 := dkTot_lens h hk
  unfold dkTot drTot at h
  refine ⟨h1.1, h1.2, fun i hi => ?_, by omega, Nat.le_refl _⟩
  have h2 := drTotN_at_le d.drills hi
  rw [drl_eq hi, drTot1] at h2
  omega
set_option maxRecDepth 10000 in
set_option maxHeartbeats 2000000 in
theorem law_validDesk (x : DeskD) (A B : Option Addr) (c e : Nat) (w : World) (hx : DSee w x A B) (bx : DkBnd x) (ht : Tab w) :
    Calls Tryd.prog 3 #[dkv x A B c e] w fun r w' => r = .returned (.bool true) ∧ UpOf w w' := by
  have X := Lib.hid hx
  have BX := Lib.hid bx
  have HT := Lib.hid ht
  obtain ⟨r0, hr⟩ : ∃ r, vDesk x = r := ⟨_, rfl⟩
  have hS := Lib.hid (fun (A : Option Addr) (B : Option Addr) (c e : Nat) (V : World) (h : DSee V x A B) (hz : DkSz x e) => show Calls Tryd.prog 6 #[dkv x A B c e] V fun r w' => r = .returned (.bool r0) ∧ UpOf V w' from hr ▸ validDeskS_any x A B c e V h hz)
  have hI := Lib.hid (fun (A : Option Addr) (B : Option Addr) (c e : Nat) (V : World) (h : DSee V x A B) (hz : DkSz x e) (ht : Tab V) => show Calls Tryd.prog 8 #[dkv x A B c e] V fun r w' => r = .returned (.bool r0) ∧ UpOf V w' from hr ▸ validDeskI_any x A B c e V h hz ht)
  have htest : (r0 != r0) = false := by simp
  clear hx bx ht hr
  go_enter Tryd.func3, Tryd.ntmps3
  go_wp2_with fail
  refine calls_gen (R := fun V => Box V w.heap.size (dkcs x A B c e) ∧ UpOf w V) ⟨Box.new _ _ _, UpOf.of (by repeat (first | exact Below.refl _ _ | refine bl_tr ?_ _ | refine bl_al ?_ _ | refine bl_dr ?_ | refine bl_up ?_ _ | refine Below.drew ?_ | refine bl_alloc ?_ _ | refine Below.setCell ?_ (by first | (simp; done) | (simp; omega)) _))⟩ (fun W0 st0 => ?_)
  obtain ⟨l1, x0, x1, x2, x3, x4, x5, x6, x7⟩ := st0.1.eight
  have S0 := Lib.hid st0
  clear st0
  generalize hp : w.heap.size = p at *
  by_cases q1 : (1048576 : Int) < ((dkTot x : Nat) : Int)
  · refine (szDesk_any x A B c e _ _ (by omega) (by omega) BX.out (X.out.below (ub S0.out.2))).mono ?_
    rintro r w' ⟨rfl, g1, rfl⟩
    rw [szR_no q1]
    go_wp2_with fail
    go_ret
    exact ⟨rfl, UpOf.of ((ub S0.out.2).trans (Below.mono (by repeat (first | exact Below.refl _ _ | refine bl_tr ?_ _ | refine bl_al ?_ _ | refine bl_dr ?_ | refine bl_up ?_ _ | refine Below.drew ?_ | refine bl_alloc ?_ _ | refine Below.setCell ?_ (by first | (simp; done) | (simp; omega)) _)) (ub S0.out.2).size))⟩
  have hz := dkSz_of (d := x) (k := 1048576) (by omega) (by omega)
  have HZ := Lib.hid hz
  have n1 := hz.s
  have n2 := hz.n
  clear hz
  refine (szDesk_any x A B c e _ _ (by omega) (by omega) BX.out (X.out.below (ub S0.out.2))).mono ?_
  rintro r w' ⟨rfl, g1, rfl⟩
  rw [szR_ok q1]
  go_wp2_with fail
  refine (toDeskO_any x A B c e (up W0 g1) ((X.out.below (ub S0.out.2)).below (by repeat (first | exact Below.refl _ _ | refine bl_tr ?_ _ | refine bl_al ?_ _ | refine bl_dr ?_ | refine bl_up ?_ _ | refine Below.drew ?_ | refine bl_alloc ?_ _ | refine Below.setCell ?_ (by first | (simp; done) | (simp; omega)) _))) n1 n2).mono ?_
  rintro r w' ⟨A2, B2, rfl, s2, g2, rfl⟩
  have SE2 := Lib.hid s2.see
  clear s2
  go_wp2_with fail
  refine (hS.out _ _ _ _ _ (SE2.out.below (by repeat (first | exact Below.refl _ _ | refine bl_tr ?_ _ | refine bl_al ?_ _ | refine bl_dr ?_ | refine bl_up ?_ _ | refine Below.drew ?_ | refine bl_alloc ?_ _ | refine Below.setCell ?_ (by first | (simp; done) | (simp; omega)) _))) HZ.out).mono ?_
  rintro r w' ⟨rfl, g3, rfl⟩
  go_wp2_with fail
  refine (toDeskO_any x _ _ _ _ _ ((X.out.below (ub S0.out.2)).below (by repeat (first | exact Below.refl _ _ | refine bl_tr ?_ _ | refine bl_al ?_ _ | refine bl_dr ?_ | refine bl_up ?_ _ | refine Below.drew ?_ | refine bl_alloc ?_ _ | refine Below.setCell ?_ (by first | (simp; done) | (simp; omega)) _))) n1 n2).mono ?_
  rintro r w' ⟨A3, B3, rfl, s3, g6, rfl⟩
  have SE3 := Lib.hid s3.see
  clear s3
  simp only []
  refine act_gen (R := fun V => Box V p (dkcs x A B c e) ∧ DSee V x A3 B3 ∧ UpOf w V) ⟨S0.out.1.below (by repeat (first | exact Below.refl _ _ | refine bl_tr ?_ _ | refine bl_al ?_ _ | refine bl_dr ?_ | refine bl_up ?_ _ | refine Below.drew ?_ | refine bl_alloc ?_ _ | refine Below.setCell ?_ (by first | (simp; done) | (simp; omega)) _)), SE3.out.below (by repeat (first | exact Below.refl _ _ | refine bl_tr ?_ _ | refine bl_al ?_ _ | refine bl_dr ?_ | refine bl_up ?_ _ | refine Below.drew ?_ | refine bl_alloc ?_ _ | refine Below.setCell ?_ (by first | (simp; done) | (simp; omega)) _)), S0.out.2.tr (by repeat (first | exact Below.refl _ _ | refine bl_tr ?_ _ | refine bl_al ?_ _ | refine bl_dr ?_ | refine bl_up ?_ _ | refine Below.drew ?_ | refine bl_alloc ?_ _ | refine Below.setCell ?_ (by first | (simp; done) | (simp; omega)) _))⟩ (fun W3 st3 => ?_)
  clear x0 x1 x2 x3 x4 x5 x6 x7 l1 S0 SE2 SE3
  have S3 := Lib.hid st3
  clear st3
  iterate 6 go_step
  refine act_gen (R := fun V => Box V p (dkcs x A B c e) ∧ Box V W3.heap.size (dkcs x A3 B3 x.stops.length x.drills.length) ∧ DSee V x A3 B3 ∧ UpOf w V) ⟨S3.out.1.below (by repeat (first | exact Below.refl _ _ | refine bl_tr ?_ _ | refine bl_al ?_ _ | refine bl_dr ?_ | refine bl_up ?_ _ | refine Below.drew ?_ | refine bl_alloc ?_ _ | refine Below.setCell ?_ (by first | (simp; done) | (simp; omega)) _)), Box.new _ _ _, S3.out.2.1.below (by repeat (first | exact Below.refl _ _ | refine bl_tr ?_ _ | refine bl_al ?_ _ | refine bl_dr ?_ | refine bl_up ?_ _ | refine Below.drew ?_ | refine bl_alloc ?_ _ | refine Below.setCell ?_ (by first | (simp; done) | (simp; omega)) _)), S3.out.2.2.tr (by repeat (first | exact Below.refl _ _ | refine bl_tr ?_ _ | refine bl_al ?_ _ | refine bl_dr ?_ | refine bl_up ?_ _ | refine Below.drew ?_ | refine bl_alloc ?_ _ | refine Below.setCell ?_ (by first | (simp; done) | (simp; omega)) _))⟩ (fun W4 st4 => ?_)
  have S4 := Lib.hid st4
  clear S3
  generalize W3.heap.size = s7 at *
  obtain ⟨l1, x0, x1, x2, x3, x4, x5, x6, x7⟩ := st4.1.eight
  obtain ⟨l2, y0, y1, y2, y3, y4, y5, y6, y7⟩ := st4.2.1.eight
  clear st4
  go_wp2_with fail
  refine (hI.out _ _ _ _ _ (S4.out.2.2.1.below (by repeat (first | exact Below.refl _ _ | refine bl_tr ?_ _ | refine bl_al ?_ _ | refine bl_dr ?_ | refine bl_up ?_ _ | refine Below.drew ?_ | refine bl_alloc ?_ _ | refine Below.setCell ?_ (by first | (simp; done) | (simp; omega)) _))) HZ.out ((HT.out.below (ub S4.out.2.2.2)).below (by repeat (first | exact Below.refl _ _ | refine bl_tr ?_ _ | refine bl_al ?_ _ | refine bl_dr ?_ | refine bl_up ?_ _ | refine Below.drew ?_ | refine bl_alloc ?_ _ | refine Below.setCell ?_ (by first | (simp; done) | (simp; omega)) _)))).mono ?_
  rintro r w' ⟨rfl, g9, rfl⟩
  go_wp2_with fail
  refine wp_gen (R := fun V => Box V p (dkcs x A B c e) ∧ Box V s7 (dkcs x A3 B3 x.stops.length x.drills.length) ∧ DSee V x A3 B3 ∧ UpOf w V) ⟨S4.out.1.below (by repeat (first | exact Below.refl _ _ | refine bl_tr ?_ _ | refine bl_al ?_ _ | refine bl_dr ?_ | refine bl_up ?_ _ | refine Below.drew ?_ | refine bl_alloc ?_ _ | refine Below.setCell ?_ (by first | (simp; done) | (simp; omega)) _)), S4.out.2.1.below (by repeat (first | exact Below.refl _ _ | refine bl_tr ?_ _ | refine bl_al ?_ _ | refine bl_dr ?_ | refine bl_up ?_ _ | refine Below.drew ?_ | refine bl_alloc ?_ _ | refine Below.setCell ?_ (by first | (simp; done) | (simp; omega)) _)), S4.out.2.2.1.below (by repeat (first | exact Below.refl _ _ | refine bl_tr ?_ _ | refine bl_al ?_ _ | refine bl_dr ?_ | refine bl_up ?_ _ | refine Below.drew ?_ | refine bl_alloc ?_ _ | refine Below.setCell ?_ (by first | (simp; done) | (simp; omega)) _)), S4.out.2.2.2.tr (by repeat (first | exact Below.refl _ _ | refine bl_tr ?_ _ | refine bl_al ?_ _ | refine bl_dr ?_ | refine bl_up ?_ _ | refine Below.drew ?_ | refine bl_alloc ?_ _ | refine Below.setCell ?_ (by first | (simp; done) | (simp; omega)) _))⟩ (fun W7 st => ?_)
  clear x0 x1 x2 x3 x4 x5 x6 x7 y0 y1 y2 y3 y4 y5 y6 y7 l1 l2 S4
  have SW7 := Lib.hid st
  have KW7 := Lib.hid (ub st.2.2.2)
  obtain ⟨l1, x0, x1, x2, x3, x4, x5, x6, x7⟩ := st.1.eight
  obtain ⟨l2, y0, y1, y2, y3, y4, y5, y6, y7⟩ := st.2.1.eight
  clear st
  go_region_held3 (fun w' => (W7).heap.size ≤ w'.heap.size ∧ ∀ b o, b < (W7).heap.size → w'.cell? ⟨b, o, none⟩ = (W7).cell? ⟨b, o, none⟩) (exact sm_of (by repeat (first | exact Below.refl _ _ | refine bl_tr ?_ _ | refine bl_al ?_ _ | refine bl_dr ?_ | refine bl_up ?_ _ | refine Below.drew ?_ | refine bl_alloc ?_ _ | refine Below.setCell ?_ (by first | (simp; done) | (simp; omega)) _))) (first | (go_at_call 9; refine (eqDesk_any x _ _ _ _ _ _ _ _ _ (DSee.below (SW7.out.2.2.1) (by repeat (first | exact Below.refl _ _ | refine bl_tr ?_ _ | refine bl_al ?_ _ | refine bl_dr ?_ | refine bl_up ?_ _ | refine Below.drew ?_ | refine bl_alloc ?_ _ | refine Below.setCell ?_ (by first | (simp; done) | (simp; omega)) _))) (DSee.below (by assumption) (by repeat (first | exact Below.refl _ _ | refine bl_tr ?_ _ | refine bl_al ?_ _ | refine bl_dr ?_ | refine bl_up ?_ _ | refine Below.drew ?_ | refine bl_alloc ?_ _ | refine Below.setCell ?_ (by first | (simp; done) | (simp; omega)) _))) n1 n2).mono ?_; rintro r w' ⟨rfl, g5, rfl⟩) | (go_at_call 7; refine (toDesk_any x _ _ _ _ _ ((X.out.below KW7.out).below (by repeat (first | exact Below.refl _ _ | refine bl_tr ?_ _ | refine bl_al ?_ _ | refine bl_dr ?_ | refine bl_up ?_ _ | refine Below.drew ?_ | refine bl_alloc ?_ _ | refine Below.setCell ?_ (by first | (simp; done) | (simp; omega)) _))) n1 n2).mono ?_; rintro r w' ⟨Ad, Bd, cd, ed, rfl, sd, g4, rfl⟩))
  go_wp2_with fail
  go_ret
  exact ⟨rfl, SW7.out.2.2.2.tr (by repeat (first | exact Below.refl _ _ | refine bl_tr ?_ _ | refine bl_al ?_ _ | refine bl_dr ?_ | refine bl_up ?_ _ | refine Below.drew ?_ | refine bl_alloc ?_ _ | refine Below.setCell ?_ (by first | (simp; done) | (simp; omega)) _))⟩
set_option maxRecDepth 10000 in
set_option maxHeartbeats 2000000 in
theorem law_deskText (x : DeskD) (A B : Option Addr) (c e : Nat) (w : World) (hx : DSee w x A B) (bx : DkBnd x) (ht : Tab w) :
    Calls Tryd.prog 4 #[dkv x A B c e] w fun r w' => r = .returned (.bool true) ∧ UpOf w w' := by
  have X := Lib.hid hx
  have BX := Lib.hid bx
  have HT := Lib.hid ht
  obtain ⟨r0, hr⟩ : ∃ r, dkText x = r := ⟨_, rfl⟩
  have hS := Lib.hid (fun (A : Option Addr) (B : Option Addr) (c e : Nat) (V : World) (h : DSee V x A B) (hz : DkSz x e) => show Calls Tryd.prog 10 #[dkv x A B c e] V fun r w' => r = .returned (.string r0) ∧ UpOf V w' from hr ▸ deskTextS_any x A B c e V h hz)
  have hI := Lib.hid (fun (A : Option Addr) (B : Option Addr) (c e : Nat) (V : World) (h : DSee V x A B) (hz : DkSz x e) (ht : Tab V) => show Calls Tryd.prog 11 #[dkv x A B c e] V fun r w' => r = .returned (.string r0) ∧ UpOf V w' from hr ▸ deskTextI_any x A B c e V h hz ht)
  have htest : (!(r0.toList == r0.toList)) = false := by simp
  clear hx bx ht hr
  go_enter Tryd.func4, Tryd.ntmps4
  go_wp2_with fail
  refine calls_gen (R := fun V => Box V w.heap.size (dkcs x A B c e) ∧ UpOf w V) ⟨Box.new _ _ _, UpOf.of (by repeat (first | exact Below.refl _ _ | refine bl_tr ?_ _ | refine bl_al ?_ _ | refine bl_dr ?_ | refine bl_up ?_ _ | refine Below.drew ?_ | refine bl_alloc ?_ _ | refine Below.setCell ?_ (by first | (simp; done) | (simp; omega)) _))⟩ (fun W0 st0 => ?_)
  obtain ⟨l1, x0, x1, x2, x3, x4, x5, x6, x7⟩ := st0.1.eight
  have S0 := Lib.hid st0
  clear st0
  generalize hp : w.heap.size = p at *
  by_cases q1 : (1048576 : Int) < ((dkTot x : Nat) : Int)
  · refine (szDesk_any x A B c e _ _ (by omega) (by omega) BX.out (X.out.below (ub S0.out.2))).mono ?_
    rintro r w' ⟨rfl, g1, rfl⟩
    rw [szR_no q1]
    go_wp2_with fail
    go_ret
    exact ⟨rfl, UpOf.of ((ub S0.out.2).trans (Below.mono (by repeat (first | exact Below.refl _ _ | refine bl_tr ?_ _ | refine bl_al ?_ _ | refine bl_dr ?_ | refine bl_up ?_ _ | refine Below.drew ?_ | refine bl_alloc ?_ _ | refine Below.setCell ?_ (by first | (simp; done) | (simp; omega)) _)) (ub S0.out.2).size))⟩
  have hz := dkSz_of (d := x) (k := 1048576) (by omega) (by omega)
  have HZ := Lib.hid hz
  have n1 := hz.s
  have n2 := hz.n
  clear hz
  refine (szDesk_any x A B c e _ _ (by omega) (by omega) BX.out (X.out.below (ub S0.out.2))).mono ?_
  rintro r w' ⟨rfl, g1, rfl⟩
  rw [szR_ok q1]
  go_wp2_with fail
  refine (toDeskO_any x A B c e (up W0 g1) ((X.out.below (ub S0.out.2)).below (by repeat (first | exact Below.refl _ _ | refine bl_tr ?_ _ | refine bl_al ?_ _ | refine bl_dr ?_ | refine bl_up ?_ _ | refine Below.drew ?_ | refine bl_alloc ?_ _ | refine Below.setCell ?_ (by first | (simp; done) | (simp; omega)) _))) n1 n2).mono ?_
  rintro r w' ⟨A2, B2, rfl, s2, g2, rfl⟩
  have SE2 := Lib.hid s2.see
  clear s2
  go_wp2_with fail
  refine (hS.out _ _ _ _ _ (SE2.out.below (by repeat (first | exact Below.refl _ _ | refine bl_tr ?_ _ | refine bl_al ?_ _ | refine bl_dr ?_ | refine bl_up ?_ _ | refine Below.drew ?_ | refine bl_alloc ?_ _ | refine Below.setCell ?_ (by first | (simp; done) | (simp; omega)) _))) HZ.out).mono ?_
  rintro r w' ⟨rfl, g3, rfl⟩
  go_wp2_with fail
  refine (toDeskO_any x _ _ _ _ _ ((X.out.below (ub S0.out.2)).below (by repeat (first | exact Below.refl _ _ | refine bl_tr ?_ _ | refine bl_al ?_ _ | refine bl_dr ?_ | refine bl_up ?_ _ | refine Below.drew ?_ | refine bl_alloc ?_ _ | refine Below.setCell ?_ (by first | (simp; done) | (simp; omega)) _))) n1 n2).mono ?_
  rintro r w' ⟨A3, B3, rfl, s3, g6, rfl⟩
  have SE3 := Lib.hid s3.see
  clear s3
  simp only []
  refine act_gen (R := fun V => Box V p (dkcs x A B c e) ∧ DSee V x A3 B3 ∧ UpOf w V) ⟨S0.out.1.below (by repeat (first | exact Below.refl _ _ | refine bl_tr ?_ _ | refine bl_al ?_ _ | refine bl_dr ?_ | refine bl_up ?_ _ | refine Below.drew ?_ | refine bl_alloc ?_ _ | refine Below.setCell ?_ (by first | (simp; done) | (simp; omega)) _)), SE3.out.below (by repeat (first | exact Below.refl _ _ | refine bl_tr ?_ _ | refine bl_al ?_ _ | refine bl_dr ?_ | refine bl_up ?_ _ | refine Below.drew ?_ | refine bl_alloc ?_ _ | refine Below.setCell ?_ (by first | (simp; done) | (simp; omega)) _)), S0.out.2.tr (by repeat (first | exact Below.refl _ _ | refine bl_tr ?_ _ | refine bl_al ?_ _ | refine bl_dr ?_ | refine bl_up ?_ _ | refine Below.drew ?_ | refine bl_alloc ?_ _ | refine Below.setCell ?_ (by first | (simp; done) | (simp; omega)) _))⟩ (fun W3 st3 => ?_)
  clear x0 x1 x2 x3 x4 x5 x6 x7 l1 S0 SE2 SE3
  have S3 := Lib.hid st3
  clear st3
  iterate 6 go_step
  refine act_gen (R := fun V => Box V p (dkcs x A B c e) ∧ Box V W3.heap.size (dkcs x A3 B3 x.stops.length x.drills.length) ∧ DSee V x A3 B3 ∧ UpOf w V) ⟨S3.out.1.below (by repeat (first | exact Below.refl _ _ | refine bl_tr ?_ _ | refine bl_al ?_ _ | refine bl_dr ?_ | refine bl_up ?_ _ | refine Below.drew ?_ | refine bl_alloc ?_ _ | refine Below.setCell ?_ (by first | (simp; done) | (simp; omega)) _)), Box.new _ _ _, S3.out.2.1.below (by repeat (first | exact Below.refl _ _ | refine bl_tr ?_ _ | refine bl_al ?_ _ | refine bl_dr ?_ | refine bl_up ?_ _ | refine Below.drew ?_ | refine bl_alloc ?_ _ | refine Below.setCell ?_ (by first | (simp; done) | (simp; omega)) _)), S3.out.2.2.tr (by repeat (first | exact Below.refl _ _ | refine bl_tr ?_ _ | refine bl_al ?_ _ | refine bl_dr ?_ | refine bl_up ?_ _ | refine Below.drew ?_ | refine bl_alloc ?_ _ | refine Below.setCell ?_ (by first | (simp; done) | (simp; omega)) _))⟩ (fun W4 st4 => ?_)
  have S4 := Lib.hid st4
  clear S3
  generalize W3.heap.size = s7 at *
  obtain ⟨l1, x0, x1, x2, x3, x4, x5, x6, x7⟩ := st4.1.eight
  obtain ⟨l2, y0, y1, y2, y3, y4, y5, y6, y7⟩ := st4.2.1.eight
  clear st4
  go_wp2_with fail
  refine (hI.out _ _ _ _ _ (S4.out.2.2.1.below (by repeat (first | exact Below.refl _ _ | refine bl_tr ?_ _ | refine bl_al ?_ _ | refine bl_dr ?_ | refine bl_up ?_ _ | refine Below.drew ?_ | refine bl_alloc ?_ _ | refine Below.setCell ?_ (by first | (simp; done) | (simp; omega)) _))) HZ.out ((HT.out.below (ub S4.out.2.2.2)).below (by repeat (first | exact Below.refl _ _ | refine bl_tr ?_ _ | refine bl_al ?_ _ | refine bl_dr ?_ | refine bl_up ?_ _ | refine Below.drew ?_ | refine bl_alloc ?_ _ | refine Below.setCell ?_ (by first | (simp; done) | (simp; omega)) _)))).mono ?_
  rintro r w' ⟨rfl, g9, rfl⟩
  go_wp2_with fail
  refine wp_gen (R := fun V => Box V p (dkcs x A B c e) ∧ Box V s7 (dkcs x A3 B3 x.stops.length x.drills.length) ∧ DSee V x A3 B3 ∧ UpOf w V) ⟨S4.out.1.below (by repeat (first | exact Below.refl _ _ | refine bl_tr ?_ _ | refine bl_al ?_ _ | refine bl_dr ?_ | refine bl_up ?_ _ | refine Below.drew ?_ | refine bl_alloc ?_ _ | refine Below.setCell ?_ (by first | (simp; done) | (simp; omega)) _)), S4.out.2.1.below (by repeat (first | exact Below.refl _ _ | refine bl_tr ?_ _ | refine bl_al ?_ _ | refine bl_dr ?_ | refine bl_up ?_ _ | refine Below.drew ?_ | refine bl_alloc ?_ _ | refine Below.setCell ?_ (by first | (simp; done) | (simp; omega)) _)), S4.out.2.2.1.below (by repeat (first | exact Below.refl _ _ | refine bl_tr ?_ _ | refine bl_al ?_ _ | refine bl_dr ?_ | refine bl_up ?_ _ | refine Below.drew ?_ | refine bl_alloc ?_ _ | refine Below.setCell ?_ (by first | (simp; done) | (simp; omega)) _)), S4.out.2.2.2.tr (by repeat (first | exact Below.refl _ _ | refine bl_tr ?_ _ | refine bl_al ?_ _ | refine bl_dr ?_ | refine bl_up ?_ _ | refine Below.drew ?_ | refine bl_alloc ?_ _ | refine Below.setCell ?_ (by first | (simp; done) | (simp; omega)) _))⟩ (fun W7 st => ?_)
  clear x0 x1 x2 x3 x4 x5 x6 x7 y0 y1 y2 y3 y4 y5 y6 y7 l1 l2 S4
  have SW7 := Lib.hid st
  have KW7 := Lib.hid (ub st.2.2.2)
  obtain ⟨l1, x0, x1, x2, x3, x4, x5, x6, x7⟩ := st.1.eight
  obtain ⟨l2, y0, y1, y2, y3, y4, y5, y6, y7⟩ := st.2.1.eight
  clear st
  go_region_held3 (fun w' => (W7).heap.size ≤ w'.heap.size ∧ ∀ b o, b < (W7).heap.size → w'.cell? ⟨b, o, none⟩ = (W7).cell? ⟨b, o, none⟩) (exact sm_of (by repeat (first | exact Below.refl _ _ | refine bl_tr ?_ _ | refine bl_al ?_ _ | refine bl_dr ?_ | refine bl_up ?_ _ | refine Below.drew ?_ | refine bl_alloc ?_ _ | refine Below.setCell ?_ (by first | (simp; done) | (simp; omega)) _))) (first | (go_at_call 9; refine (eqDesk_any x _ _ _ _ _ _ _ _ _ (DSee.below (SW7.out.2.2.1) (by repeat (first | exact Below.refl _ _ | refine bl_tr ?_ _ | refine bl_al ?_ _ | refine bl_dr ?_ | refine bl_up ?_ _ | refine Below.drew ?_ | refine bl_alloc ?_ _ | refine Below.setCell ?_ (by first | (simp; done) | (simp; omega)) _))) (DSee.below (by assumption) (by repeat (first | exact Below.refl _ _ | refine bl_tr ?_ _ | refine bl_al ?_ _ | refine bl_dr ?_ | refine bl_up ?_ _ | refine Below.drew ?_ | refine bl_alloc ?_ _ | refine Below.setCell ?_ (by first | (simp; done) | (simp; omega)) _))) n1 n2).mono ?_; rintro r w' ⟨rfl, g5, rfl⟩) | (go_at_call 7; refine (toDesk_any x _ _ _ _ _ ((X.out.below KW7.out).below (by repeat (first | exact Below.refl _ _ | refine bl_tr ?_ _ | refine bl_al ?_ _ | refine bl_dr ?_ | refine bl_up ?_ _ | refine Below.drew ?_ | refine bl_alloc ?_ _ | refine Below.setCell ?_ (by first | (simp; done) | (simp; omega)) _))) n1 n2).mono ?_; rintro r w' ⟨Ad, Bd, cd, ed, rfl, sd, g4, rfl⟩))
  go_wp2_with fail
  go_ret
  exact ⟨rfl, SW7.out.2.2.2.tr (by repeat (first | exact Below.refl _ _ | refine bl_tr ?_ _ | refine bl_al ?_ _ | refine bl_dr ?_ | refine bl_up ?_ _ | refine Below.drew ?_ | refine bl_alloc ?_ _ | refine Below.setCell ?_ (by first | (simp; done) | (simp; omega)) _))⟩
end Go.Proofs.YtbianlkenallaaaDoor

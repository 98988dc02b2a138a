/-
  RunTests of the reference; TestsPrice, of the program and of the reference. The bounds stand at each.
-/
import Derived.Test.YtfggbcmpgkhlaaaTest7
import Derived.Laws.Strings2
namespace Go.Proofs.Ytfggbcmpgkhlaaa
open Go.RowKit
theorem extract_one {s : ByteArray} {t : Nat} (h : t < s.size) : s.extract t (t + 1) = ⟨#[s[t]]⟩ := by
  apply ba_ext
  have h' : t < s.data.toList.length := h
  rw [ByteArray.data_extract, Array.toList_extract, List.extract_eq_take_drop, show t + 1 - t = 1 by omega, List.drop_eq_getElem_cons h']
  rfl
theorem slice_one {s : ByteArray} {t : Nat} (h : t < s.size) (w : World) : (Instr.slice 9 (.string s) (some (i64 t)) (some (.int .i64 ((t : Int) + 1))) none).run Try.prog w = .ok (.string ⟨#[s[t]]⟩) w := by
  rw [run_slice_string w 9 s .i64 .i64 t ((t : Int) + 1) Try.underlying9 (by omega) (by omega) (by omega), ← extract_one h]
  rw [show ((t : Int) + 1).toNat = t + 1 by omega, Int.toNat_natCast]
def atR (l : List Defect) (ps : List Int) (k : Int) : Int := if vDefects l ps = true then if btw k 0 ((l.length : Int) - 1) = true then 0 else 2 else 1
set_option maxRecDepth 10000 in
theorem l23At_any (A B : Option Addr) (c d : Nat) (l : List Defect) (ps : List Int) (k : Int) (w : World) (h : Rds w 3 A l.length (dfcs l)) (hp : Rds w 1 B ps.length (ics ps)) (hn : l.length ≤ 100000000) (hm : ps.length ≤ 100000000) (hs : sizesD l) :
    Calls Try.prog 55 #[.slice A l.length c, .slice B ps.length d, i64 k] w fun e w' => e = .returned (i64 (atR l ps k)) ∧ UpOf w w' := by
  cases b1 : vDefects l ps
  · have hC := Lib.hid (show atR l ps k = 1 by rw [atR, if_neg (by simp [b1])])
    go_enter Try.func55, Try.ntmps55
    go_wp2_with (first | (go_at_call 62; refine (ret_as (l23Ok_any _ _ _ _ _ _ _ (h.below (by repeat (first | exact Below.refl _ _ | refine bl_tr ?_ _ | refine bl_al ?_ _ | refine bl_dr ?_ | refine bl_up ?_ _ | refine Below.drew ?_ | refine bl_alloc ?_ _ | refine Below.setCell ?_ (by first | (simp; done) | (simp; omega)) _))) (hp.below (by repeat (first | exact Below.refl _ _ | refine bl_tr ?_ _ | refine bl_al ?_ _ | refine bl_dr ?_ | refine bl_up ?_ _ | refine Below.drew ?_ | refine bl_alloc ?_ _ | refine Below.setCell ?_ (by first | (simp; done) | (simp; omega)) _))) hn hm hs) b1).mono ?_; rintro e w' ⟨rfl, g, rfl⟩) | ((with_reducible refine wp_region_up (by kernel_rfl) (by kernel_rfl) ?_); (repeat (go_big_quiet_step (first | (go_at_call 62; first | exact upq_tr (ret_as (l23Ok_any _ _ _ _ _ _ _ (h.below (by repeat (first | exact Below.refl _ _ | refine bl_tr ?_ _ | refine bl_al ?_ _ | refine bl_dr ?_ | refine bl_up ?_ _ | refine Below.drew ?_ | refine bl_alloc ?_ _ | refine Below.setCell ?_ (by first | (simp; done) | (simp; omega)) _))) (hp.below (by repeat (first | exact Below.refl _ _ | refine bl_tr ?_ _ | refine bl_al ?_ _ | refine bl_dr ?_ | refine bl_up ?_ _ | refine Below.drew ?_ | refine bl_alloc ?_ _ | refine Below.setCell ?_ (by first | (simp; done) | (simp; omega)) _))) hn hm hs) b1) | exact upq (ret_as (l23Ok_any _ _ _ _ _ _ _ (h.below (by repeat (first | exact Below.refl _ _ | refine bl_tr ?_ _ | refine bl_al ?_ _ | refine bl_dr ?_ | refine bl_up ?_ _ | refine Below.drew ?_ | refine bl_alloc ?_ _ | refine Below.setCell ?_ (by first | (simp; done) | (simp; omega)) _))) (hp.below (by repeat (first | exact Below.refl _ _ | refine bl_tr ?_ _ | refine bl_al ?_ _ | refine bl_dr ?_ | refine bl_up ?_ _ | refine Below.drew ?_ | refine bl_alloc ?_ _ | refine Below.setCell ?_ (by first | (simp; done) | (simp; omega)) _))) hn hm hs) b1))))); refine wpQuiet_nil ?_; intro _ hw'; obtain ⟨nq, hw''⟩ := hw'; subst hw''))
    go_ret
    rw [hC.out]
    exact ⟨rfl, UpOf.of (by repeat (first | exact Below.refl _ _ | refine bl_tr ?_ _ | refine bl_al ?_ _ | refine bl_dr ?_ | refine bl_up ?_ _ | refine Below.drew ?_ | refine bl_alloc ?_ _ | refine Below.setCell ?_ (by first | (simp; done) | (simp; omega)) _))⟩
  cases b2 : btw k 0 ((l.length : Int) - 1)
  · have hC := Lib.hid (show atR l ps k = 2 by rw [atR, if_pos b1, if_neg (by simp [b2])])
    go_enter Try.func55, Try.ntmps55
    go_wp2_with (first | (go_at_call 62; refine (ret_as (l23Ok_any _ _ _ _ _ _ _ (h.below (by repeat (first | exact Below.refl _ _ | refine bl_tr ?_ _ | refine bl_al ?_ _ | refine bl_dr ?_ | refine bl_up ?_ _ | refine Below.drew ?_ | refine bl_alloc ?_ _ | refine Below.setCell ?_ (by first | (simp; done) | (simp; omega)) _))) (hp.below (by repeat (first | exact Below.refl _ _ | refine bl_tr ?_ _ | refine bl_al ?_ _ | refine bl_dr ?_ | refine bl_up ?_ _ | refine Below.drew ?_ | refine bl_alloc ?_ _ | refine Below.setCell ?_ (by first | (simp; done) | (simp; omega)) _))) hn hm hs) b1).mono ?_; rintro e w' ⟨rfl, g, rfl⟩) | (go_at_call 67; refine (ret_as (in_any _ _ _ _) b2).mono ?_; rintro e w' ⟨rfl, rfl⟩) | ((with_reducible refine wp_region_up (by kernel_rfl) (by kernel_rfl) ?_); (repeat (go_big_quiet_step (first | (go_at_call 62; first | exact upq_tr (ret_as (l23Ok_any _ _ _ _ _ _ _ (h.below (by repeat (first | exact Below.refl _ _ | refine bl_tr ?_ _ | refine bl_al ?_ _ | refine bl_dr ?_ | refine bl_up ?_ _ | refine Below.drew ?_ | refine bl_alloc ?_ _ | refine Below.setCell ?_ (by first | (simp; done) | (simp; omega)) _))) (hp.below (by repeat (first | exact Below.refl _ _ | refine bl_tr ?_ _ | refine bl_al ?_ _ | refine bl_dr ?_ | refine bl_up ?_ _ | refine Below.drew ?_ | refine bl_alloc ?_ _ | refine Below.setCell ?_ (by first | (simp; done) | (simp; omega)) _))) hn hm hs) b1) | exact upq (ret_as (l23Ok_any _ _ _ _ _ _ _ (h.below (by repeat (first | exact Below.refl _ _ | refine bl_tr ?_ _ | refine bl_al ?_ _ | refine bl_dr ?_ | refine bl_up ?_ _ | refine Below.drew ?_ | refine bl_alloc ?_ _ | refine Below.setCell ?_ (by first | (simp; done) | (simp; omega)) _))) (hp.below (by repeat (first | exact Below.refl _ _ | refine bl_tr ?_ _ | refine bl_al ?_ _ | refine bl_dr ?_ | refine bl_up ?_ _ | refine Below.drew ?_ | refine bl_alloc ?_ _ | refine Below.setCell ?_ (by first | (simp; done) | (simp; omega)) _))) hn hm hs) b1)) | (go_at_call 67; first | exact upq_tr_same (ret_as (in_any _ _ _ _) b2) | exact upq_same (ret_as (in_any _ _ _ _) b2))))); refine wpQuiet_nil ?_; intro _ hw'; obtain ⟨nq, hw''⟩ := hw'; subst hw''))
    go_ret
    rw [hC.out]
    exact ⟨rfl, UpOf.of (by repeat (first | exact Below.refl _ _ | refine bl_tr ?_ _ | refine bl_al ?_ _ | refine bl_dr ?_ | refine bl_up ?_ _ | refine Below.drew ?_ | refine bl_alloc ?_ _ | refine Below.setCell ?_ (by first | (simp; done) | (simp; omega)) _))⟩
  · have hC := Lib.hid (show atR l ps k = 0 by rw [atR, if_pos b1, if_pos b2])
    go_enter Try.func55, Try.ntmps55
    go_wp2_with (first | (go_at_call 62; refine (ret_as (l23Ok_any _ _ _ _ _ _ _ (h.below (by repeat (first | exact Below.refl _ _ | refine bl_tr ?_ _ | refine bl_al ?_ _ | refine bl_dr ?_ | refine bl_up ?_ _ | refine Below.drew ?_ | refine bl_alloc ?_ _ | refine Below.setCell ?_ (by first | (simp; done) | (simp; omega)) _))) (hp.below (by repeat (first | exact Below.refl _ _ | refine bl_tr ?_ _ | refine bl_al ?_ _ | refine bl_dr ?_ | refine bl_up ?_ _ | refine Below.drew ?_ | refine bl_alloc ?_ _ | refine Below.setCell ?_ (by first | (simp; done) | (simp; omega)) _))) hn hm hs) b1).mono ?_; rintro e w' ⟨rfl, g, rfl⟩) | (go_at_call 67; refine (ret_as (in_any _ _ _ _) b2).mono ?_; rintro e w' ⟨rfl, rfl⟩) | ((with_reducible refine wp_region_up (by kernel_rfl) (by kernel_rfl) ?_); (repeat (go_big_quiet_step (first | (go_at_call 62; first | exact upq_tr (ret_as (l23Ok_any _ _ _ _ _ _ _ (h.below (by repeat (first | exact Below.refl _ _ | refine bl_tr ?_ _ | refine bl_al ?_ _ | refine bl_dr ?_ | refine bl_up ?_ _ | refine Below.drew ?_ | refine bl_alloc ?_ _ | refine Below.setCell ?_ (by first | (simp; done) | (simp; omega)) _))) (hp.below (by repeat (first | exact Below.refl _ _ | refine bl_tr ?_ _ | refine bl_al ?_ _ | refine bl_dr ?_ | refine bl_up ?_ _ | refine Below.drew ?_ | refine bl_alloc ?_ _ | refine Below.setCell ?_ (by first | (simp; done) | (simp; omega)) _))) hn hm hs) b1) | exact upq (ret_as (l23Ok_any _ _ _ _ _ _ _ (h.below (by repeat (first | exact Below.refl _ _ | refine bl_tr ?_ _ | refine bl_al ?_ _ | refine bl_dr ?_ | refine bl_up ?_ _ | refine Below.drew ?_ | refine bl_alloc ?_ _ | refine Below.setCell ?_ (by first | (simp; done) | (simp; omega)) _))) (hp.below (by repeat (first | exact Below.refl _ _ | refine bl_tr ?_ _ | refine bl_al ?_ _ | refine bl_dr ?_ | refine bl_up ?_ _ | refine Below.drew ?_ | refine bl_alloc ?_ _ | refine Below.setCell ?_ (by first | (simp; done) | (simp; omega)) _))) hn hm hs) b1)) | (go_at_call 67; first | exact upq_tr_same (ret_as (in_any _ _ _ _) b2) | exact upq_same (ret_as (in_any _ _ _ _) b2))))); refine wpQuiet_nil ?_; intro _ hw'; obtain ⟨nq, hw''⟩ := hw'; subst hw''))
    go_ret
    rw [hC.out]
    exact ⟨rfl, UpOf.of (by repeat (first | exact Below.refl _ _ | refine bl_tr ?_ _ | refine bl_al ?_ _ | refine bl_dr ?_ | refine bl_up ?_ _ | refine Below.drew ?_ | refine bl_alloc ?_ _ | refine Below.setCell ?_ (by first | (simp; done) | (simp; omega)) _))⟩
set_option maxRecDepth 10000 in
set_option maxHeartbeats 4000000 in
theorem l23Run_any (A B : Option Addr) (c d : Nat) (l : List Defect) (ps : List Int) (D : Nat) (w : World) (hv : vDefects l ps = true) (hD : D < l.length) (h : Rds w 3 A l.length (dfcs l)) (hp : Rds w 1 B ps.length (ics ps)) :
    Calls Try.prog 56 #[.slice A l.length c, .slice B ps.length d, i64 D] w fun e w' => ∃ A' c', e = .returned (.tuple #[.slice A' (runT l ps (dat l D) (qs ps.length)).1.length c', .string (runT l ps (dat l D) (qs ps.length)).2]) ∧
      w'.ownsRow w.heap.size 2 1 (.slice A' (runT l ps (dat l D) (qs ps.length)).1.length c') (runT l ps (dat l D) (qs ps.length)).1.length (ics (runT l ps (dat l D) (qs ps.length)).1) ∧ UpOf w w' := by
  obtain ⟨hl10, hp6, _, hvd⟩ := vDefects_inv hv
  have hdv := Lib.hid (hvd D hD)
  have hV := Lib.hid hv
  have hcut := cut6 ps.length hp6
  have hOwn := Lib.hid (World.ownsRow_lit (base := w.heap.size) (e := 2) (size := 1) w #[] 0 (Nat.le_refl _) (by unfold maxLen; omega) rfl)
  obtain ⟨bA, offA, rfl, hbA, hdd⟩ := def_all h hD
  obtain ⟨_, _, _, d2⟩ := hdd D hD
  clear hvd hv hdd
  go_enter Try.func56, Try.ntmps56
  go_wp2_with (first | ((with_reducible refine wp_region_up (by kernel_rfl) (by kernel_rfl) ?_); (repeat (go_big_quiet_step (fail))); refine wpQuiet_nil ?_; intro _ hw'; obtain ⟨nq, hw''⟩ := hw'; subst hw''))
  clear hcut
  go_loopw [8, 9] (fun v a wr => ∃ (s : ByteArray) (out : List Int) (A' : Option Addr) (c' : Nat), a = .string s ∧ v = .slice A' out.length c' ∧ Hid (RunSt l ps (dat l D) out s) ∧ Hid (wr.ownsRow w.heap.size 2 1 (.slice A' out.length c') out.length (ics out)) ∧ ∃ g : Up w, wr = up w g) (fun _ a _ => strHoles a)
  case atStart => exact ⟨_, [], _, _, rfl, rfl, RunSt.start _ _ _ hp6, hOwn.out, ex_up (by repeat (first | exact Below.refl _ _ | refine bl_tr ?_ _ | refine bl_al ?_ _ | refine bl_dr ?_ | refine bl_up ?_ _ | refine Below.drew ?_ | refine bl_alloc ?_ _ | refine Below.setCell ?_ (by first | (simp; done) | (simp; omega)) _))⟩
  case round =>
    obtain ⟨s, out, A', c', rfl, rfl, hst, hown, g, rfl⟩ := hrel
    obtain ⟨hs1, hs2, _, _⟩ := hst.out
    cases b1 : foundB l s
    · obtain ⟨t, ht, hw, h63, _⟩ := wst_spec hV.out hs1 b1
      have hw2 : (wst l ps s).2 = (t : Int) := by rw [hw]
      have H63 := Lib.hid h63
      have HF := Lib.hid b1
      have hts : t < s.size := by omega
      have htd : t < (dat l D).signs.size := by have := (vDef_inv hdv.out).2.2.2.1; omega
      have hbb := Lib.hid (byteAt_eq htd)
      have hsl := fun w1 => slice_one htd w1
      have hst2 := Lib.hid (hst.out.step hdv.out HF.out ht hw2 H63.out)
      clear hw h63 b1
      go_wp2_with (first | (go_at_call 51; refine (l23Worst_any _ _ _ _ _ _ hV.out _ _ _ rfl hs1 (h.below (by repeat (first | exact Below.refl _ _ | refine bl_tr ?_ _ | refine bl_al ?_ _ | refine bl_dr ?_ | refine bl_up ?_ _ | refine Below.drew ?_ | refine bl_alloc ?_ _ | refine Below.setCell ?_ (by first | (simp; done) | (simp; omega)) _))) (hp.below (by repeat (first | exact Below.refl _ _ | refine bl_tr ?_ _ | refine bl_al ?_ _ | refine bl_dr ?_ | refine bl_up ?_ _ | refine Below.drew ?_ | refine bl_alloc ?_ _ | refine Below.setCell ?_ (by first | (simp; done) | (simp; omega)) _)))).mono ?_; rintro e w' ⟨rfl, g, rfl⟩) | (go_at_call 65; refine (l23With_any s t (dat l D).signs[t] _ (by omega) hts).mono ?_; rintro e w' ⟨rfl, g, rfl⟩) | (at_builtin; refine wpl_appU rfl _ _ 25 rfl w w.heap.size 2 _ 1 8 el_int _ _ _ rfl (own_below hown.out (by repeat (first | exact Below.refl _ _ | refine bl_tr ?_ _ | refine bl_al ?_ _ | refine bl_dr ?_ | refine bl_up ?_ _ | refine Below.drew ?_ | refine bl_alloc ?_ _ | refine Below.setCell ?_ (by first | (simp; done) | (simp; omega)) _))) _ 1 1 [i64 (t : Int)] rfl (rds_new _ _ _ 1 1 rfl) (fun u hu => by simp at hu; subst hu; rfl) (by unfold maxLen; omega) (by omega) (up_below w _).size (by repeat (first | exact Below.refl _ _ | refine bl_tr ?_ _ | refine bl_al ?_ _ | refine bl_dr ?_ | refine bl_up ?_ _ | refine Below.drew ?_ | refine bl_alloc ?_ _ | refine Below.setCell ?_ (by first | (simp; done) | (simp; omega)) _)) (Nat.le_refl _) ?_; intro A3 c3 g3 o3) | ((with_reducible refine wp_region_up (by kernel_rfl) (by kernel_rfl) ?_); (repeat (go_big_quiet_step (first | (go_at_call 51; first | exact upq_tr (l23Worst_any _ _ _ _ _ _ hV.out _ _ _ rfl hs1 (h.below (by repeat (first | exact Below.refl _ _ | refine bl_tr ?_ _ | refine bl_al ?_ _ | refine bl_dr ?_ | refine bl_up ?_ _ | refine Below.drew ?_ | refine bl_alloc ?_ _ | refine Below.setCell ?_ (by first | (simp; done) | (simp; omega)) _))) (hp.below (by repeat (first | exact Below.refl _ _ | refine bl_tr ?_ _ | refine bl_al ?_ _ | refine bl_dr ?_ | refine bl_up ?_ _ | refine Below.drew ?_ | refine bl_alloc ?_ _ | refine Below.setCell ?_ (by first | (simp; done) | (simp; omega)) _)))) | exact upq (l23Worst_any _ _ _ _ _ _ hV.out _ _ _ rfl hs1 (h.below (by repeat (first | exact Below.refl _ _ | refine bl_tr ?_ _ | refine bl_al ?_ _ | refine bl_dr ?_ | refine bl_up ?_ _ | refine Below.drew ?_ | refine bl_alloc ?_ _ | refine Below.setCell ?_ (by first | (simp; done) | (simp; omega)) _))) (hp.below (by repeat (first | exact Below.refl _ _ | refine bl_tr ?_ _ | refine bl_al ?_ _ | refine bl_dr ?_ | refine bl_up ?_ _ | refine Below.drew ?_ | refine bl_alloc ?_ _ | refine Below.setCell ?_ (by first | (simp; done) | (simp; omega)) _))))) | (go_at_call 65; first | exact upq_tr (l23With_any s t (dat l D).signs[t] _ (by omega) hts) | exact upq (l23With_any s t (dat l D).signs[t] _ (by omega) hts))))); refine wpQuiet_nil ?_; intro _ hw'; obtain ⟨nq, hw''⟩ := hw'; subst hw''))
      have hst3 := hst2.out
      rw [← hbb.out] at hst3
      go_roundw
      case rel =>
        refine ⟨put s t (dat l D).signs[t], out ++ [(t : Int)], A3, c3, rfl, congrArg (fun n => Value.slice A3 n c3) (by simp), hst3.1, ?_, ex_up (by repeat (first | exact Below.refl _ _ | refine bl_tr ?_ _ | refine bl_al ?_ _ | refine bl_dr ?_ | refine bl_up ?_ _ | refine Below.drew ?_ | refine bl_alloc ?_ _ | refine Below.setCell ?_ (by first | (simp; done) | (simp; omega)) _))⟩
        rw [ics_app, List.length_append]
        exact own_below o3 (by repeat (first | exact Below.refl _ _ | refine bl_tr ?_ _ | refine bl_al ?_ _ | refine bl_dr ?_ | refine bl_up ?_ _ | refine Below.drew ?_ | refine bl_alloc ?_ _ | refine Below.setCell ?_ (by first | (simp; done) | (simp; omega)) _))
      case measure =>
        show holes (put s t (dat l D).signs[t]) < holes s
        have := hst3.2
        omega
    · have hw := wst_found (ps := ps) b1
      have hw2 : (wst l ps s).2 = -1 := by rw [hw]
      have D1 := Lib.hid (hst.out.done b1).1
      have D2 := Lib.hid (hst.out.done b1).2
      clear hw b1
      go_wp2_with (first | (go_at_call 51; refine (l23Worst_any _ _ _ _ _ _ hV.out _ _ _ rfl hs1 (h.below (by repeat (first | exact Below.refl _ _ | refine bl_tr ?_ _ | refine bl_al ?_ _ | refine bl_dr ?_ | refine bl_up ?_ _ | refine Below.drew ?_ | refine bl_alloc ?_ _ | refine Below.setCell ?_ (by first | (simp; done) | (simp; omega)) _))) (hp.below (by repeat (first | exact Below.refl _ _ | refine bl_tr ?_ _ | refine bl_al ?_ _ | refine bl_dr ?_ | refine bl_up ?_ _ | refine Below.drew ?_ | refine bl_alloc ?_ _ | refine Below.setCell ?_ (by first | (simp; done) | (simp; omega)) _)))).mono ?_; rintro e w' ⟨rfl, g, rfl⟩) | ((with_reducible refine wp_region_up (by kernel_rfl) (by kernel_rfl) ?_); (repeat (go_big_quiet_step (first | (go_at_call 51; first | exact upq_tr (l23Worst_any _ _ _ _ _ _ hV.out _ _ _ rfl hs1 (h.below (by repeat (first | exact Below.refl _ _ | refine bl_tr ?_ _ | refine bl_al ?_ _ | refine bl_dr ?_ | refine bl_up ?_ _ | refine Below.drew ?_ | refine bl_alloc ?_ _ | refine Below.setCell ?_ (by first | (simp; done) | (simp; omega)) _))) (hp.below (by repeat (first | exact Below.refl _ _ | refine bl_tr ?_ _ | refine bl_al ?_ _ | refine bl_dr ?_ | refine bl_up ?_ _ | refine Below.drew ?_ | refine bl_alloc ?_ _ | refine Below.setCell ?_ (by first | (simp; done) | (simp; omega)) _)))) | exact upq (l23Worst_any _ _ _ _ _ _ hV.out _ _ _ rfl hs1 (h.below (by repeat (first | exact Below.refl _ _ | refine bl_tr ?_ _ | refine bl_al ?_ _ | refine bl_dr ?_ | refine bl_up ?_ _ | refine Below.drew ?_ | refine bl_alloc ?_ _ | refine Below.setCell ?_ (by first | (simp; done) | (simp; omega)) _))) (hp.below (by repeat (first | exact Below.refl _ _ | refine bl_tr ?_ _ | refine bl_al ?_ _ | refine bl_dr ?_ | refine bl_up ?_ _ | refine Below.drew ?_ | refine bl_alloc ?_ _ | refine Below.setCell ?_ (by first | (simp; done) | (simp; omega)) _)))))))); refine wpQuiet_nil ?_; intro _ hw'; obtain ⟨nq, hw''⟩ := hw'; subst hw''))
      go_ret2
      refine ⟨A', c', ?_, ?_, UpOf.of (by repeat (first | exact Below.refl _ _ | refine bl_tr ?_ _ | refine bl_al ?_ _ | refine bl_dr ?_ | refine bl_up ?_ _ | refine Below.drew ?_ | refine bl_alloc ?_ _ | refine Below.setCell ?_ (by first | (simp; done) | (simp; omega)) _))⟩
      · rw [← D1.out, ← D2.out]
        rfl
      · rw [← D1.out]
        exact own_below hown.out (by repeat (first | exact Below.refl _ _ | refine bl_tr ?_ _ | refine bl_al ?_ _ | refine bl_dr ?_ | refine bl_up ?_ _ | refine Below.drew ?_ | refine bl_alloc ?_ _ | refine Below.setCell ?_ (by first | (simp; done) | (simp; omega)) _))
theorem runN_mem {l : List Defect} {ps : List Int} {d : Defect} (hv : vDefects l ps = true) (hd : vDef ps.length d = true) : ∀ f s, holes s = f → s.size = ps.length → ∀ x ∈ (runN l ps d f s).1, 0 ≤ x ∧ x < ps.length := by
  intro f
  induction f with
  | zero => intro s _ _ x hx; simp [runN] at hx
  | succ f ih =>
    intro s hf hs x hx
    rw [runN] at hx
    split at hx
    · simp at hx
    · rename_i hb
      have hb' : foundB l s = false := by simpa using hb
      obtain ⟨t, ht, hw, h63, _⟩ := wst_spec hv hs hb'
      have e : (wst l ps s).2 = (t : Int) := by rw [hw]
      rw [e] at hx
      simp only [Int.toNat_natCast, List.mem_cons] at hx
      rcases hx with rfl | hx
      · omega
      · have hh := holes_put (c := byteAt d.signs t) (show t < s.size by omega) h63 (sign_ne hd ht)
        exact ih _ (by omega) (by rw [put_size, hs]) x hx
theorem runT_mem {l : List Defect} {ps : List Int} {d : Defect} (hv : vDefects l ps = true) (hd : vDef ps.length d = true) (s : ByteArray) (hs : s.size = ps.length) : ∀ x ∈ (runT l ps d s).1, 0 ≤ x ∧ x < ps.length := runN_mem hv hd _ s rfl hs
/-- the prices of the first k tests -/
def sumP (ps : List Int) (ts : List Int) : Nat → Int
  | 0 => 0
  | k + 1 => sumP ps ts k + num ps (num ts k).toNat
theorem sumP_bd {l : List Defect} {ps ts : List Int} (hv : vDefects l ps = true) (ht : ∀ x ∈ ts, 0 ≤ x ∧ x < ps.length) : ∀ k, k ≤ ts.length → 0 ≤ sumP ps ts k ∧ sumP ps ts k ≤ 100 * (k : Int) := by
  intro k
  induction k with
  | zero => intro _; simp [sumP]
  | succ k ih =>
    intro hk
    have h1 := ih (by omega)
    have h2 := ht ts[k] (List.getElem_mem (by omega))
    rw [num_eq (by omega)] at h2
    have h3 := (vDefects_inv hv).2.2.1 (num ts k).toNat (by omega)
    rw [sumP]
    omega
def tpR (l : List Defect) (ps : List Int) (k : Int) : Int × Int :=
  if vDefects l ps = true then if btw k 0 ((l.length : Int) - 1) = true then (sumP ps (runT l ps (dat l k.toNat) (qs ps.length)).1 (runT l ps (dat l k.toNat) (qs ps.length)).1.length, 0) else (0, 2) else (0, 1)
theorem tpR_1 {l : List Defect} {ps : List Int} {k : Int} (h : vDefects l ps = false) : tpR l ps k = (0, 1) := by rw [tpR, if_neg (by simp [h])]
theorem tpR_2 {l : List Defect} {ps : List Int} {k : Int} (h : vDefects l ps = true) (h2 : btw k 0 ((l.length : Int) - 1) = false) : tpR l ps k = (0, 2) := by rw [tpR, if_pos h, if_neg (by simp [h2])]
theorem tpR_0 {l : List Defect} {ps : List Int} {D : Nat} (h : vDefects l ps = true) (h2 : btw (D : Int) 0 ((l.length : Int) - 1) = true) : tpR l ps D = (sumP ps (runT l ps (dat l D) (qs ps.length)).1 (runT l ps (dat l D) (qs ps.length)).1.length, 0) := by rw [tpR, if_pos h, if_pos h2]; rfl
theorem at_1 {l : List Defect} {ps : List Int} {k : Int} (h : vDefects l ps = false) : atR l ps k = 1 := by rw [atR, if_neg (by simp [h])]
theorem at_2 {l : List Defect} {ps : List Int} {k : Int} (h : vDefects l ps = true) (h2 : btw k 0 ((l.length : Int) - 1) = false) : atR l ps k = 2 := by rw [atR, if_pos h, if_neg (by simp [h2])]
theorem at_0 {l : List Defect} {ps : List Int} {k : Int} (h : vDefects l ps = true) (h2 : btw k 0 ((l.length : Int) - 1) = true) : atR l ps k = 0 := by rw [atR, if_pos h, if_pos h2]
set_option maxRecDepth 10000 in
set_option maxHeartbeats 2000000 in
theorem runS_any (A B : Option Addr) (c d : Nat) (l : List Defect) (ps : List Int) (k : Int) (w : World) (h : Rds w 3 A l.length (dfcs l)) (hp : Rds w 1 B ps.length (ics ps)) (hn : l.length ≤ 100000000) (hm : ps.length ≤ 100000000) (hs : sizesD l) : Calls Try.prog 31 #[.slice A l.length c, .slice B ps.length d, i64 k] w fun e w' => ∃ A' c', e = .returned (.tuple #[.slice A' (runR l ps k).1.length c', .string (runR l ps k).2.1, i64 (runR l ps k).2.2]) ∧ w'.ownsRow w.heap.size 2 1 (.slice A' (runR l ps k).1.length c') (runR l ps k).1.length (ics (runR l ps k).1) ∧ UpOf w w' := by
  cases b1 : vDefects l ps
  · have hR := Lib.hid (runR_1 (k := k) b1)
    have hc := at_1 (k := k) b1
    go_enter Try.func31, Try.ntmps31
    go_wp2_with (first | (go_at_call 55; refine (ret_num (l23At_any _ _ _ _ _ _ _ _ (h.below (by repeat (first | exact Below.refl _ _ | refine bl_tr ?_ _ | refine bl_al ?_ _ | refine bl_dr ?_ | refine bl_up ?_ _ | refine Below.drew ?_ | refine bl_alloc ?_ _ | refine Below.setCell ?_ (by first | (simp; done) | (simp; omega)) _))) (hp.below (by repeat (first | exact Below.refl _ _ | refine bl_tr ?_ _ | refine bl_al ?_ _ | refine bl_dr ?_ | refine bl_up ?_ _ | refine Below.drew ?_ | refine bl_alloc ?_ _ | refine Below.setCell ?_ (by first | (simp; done) | (simp; omega)) _))) hn hm hs) hc).mono ?_; rintro e w' ⟨rfl, g, rfl⟩) | ((with_reducible refine wp_region_up (by kernel_rfl) (by kernel_rfl) ?_); (repeat (go_big_quiet_step (first | (go_at_call 55; first | exact upq_tr (ret_num (l23At_any _ _ _ _ _ _ _ _ (h.below (by repeat (first | exact Below.refl _ _ | refine bl_tr ?_ _ | refine bl_al ?_ _ | refine bl_dr ?_ | refine bl_up ?_ _ | refine Below.drew ?_ | refine bl_alloc ?_ _ | refine Below.setCell ?_ (by first | (simp; done) | (simp; omega)) _))) (hp.below (by repeat (first | exact Below.refl _ _ | refine bl_tr ?_ _ | refine bl_al ?_ _ | refine bl_dr ?_ | refine bl_up ?_ _ | refine Below.drew ?_ | refine bl_alloc ?_ _ | refine Below.setCell ?_ (by first | (simp; done) | (simp; omega)) _))) hn hm hs) hc) | exact upq (ret_num (l23At_any _ _ _ _ _ _ _ _ (h.below (by repeat (first | exact Below.refl _ _ | refine bl_tr ?_ _ | refine bl_al ?_ _ | refine bl_dr ?_ | refine bl_up ?_ _ | refine Below.drew ?_ | refine bl_alloc ?_ _ | refine Below.setCell ?_ (by first | (simp; done) | (simp; omega)) _))) (hp.below (by repeat (first | exact Below.refl _ _ | refine bl_tr ?_ _ | refine bl_al ?_ _ | refine bl_dr ?_ | refine bl_up ?_ _ | refine Below.drew ?_ | refine bl_alloc ?_ _ | refine Below.setCell ?_ (by first | (simp; done) | (simp; omega)) _))) hn hm hs) hc))))); refine wpQuiet_nil ?_; intro _ hw'; obtain ⟨nq, hw''⟩ := hw'; subst hw''))
    go_ret3
    rw [hR.out]
    exact ⟨none, 0, rfl, ⟨rfl, .inl ⟨rfl, rfl⟩⟩, UpOf.of (by repeat (first | exact Below.refl _ _ | refine bl_tr ?_ _ | refine bl_al ?_ _ | refine bl_dr ?_ | refine bl_up ?_ _ | refine Below.drew ?_ | refine bl_alloc ?_ _ | refine Below.setCell ?_ (by first | (simp; done) | (simp; omega)) _))⟩
  cases b2 : btw k 0 ((l.length : Int) - 1)
  · have hR := Lib.hid (runR_2 b1 b2)
    have hc := at_2 b1 b2
    go_enter Try.func31, Try.ntmps31
    go_wp2_with (first | (go_at_call 55; refine (ret_num (l23At_any _ _ _ _ _ _ _ _ (h.below (by repeat (first | exact Below.refl _ _ | refine bl_tr ?_ _ | refine bl_al ?_ _ | refine bl_dr ?_ | refine bl_up ?_ _ | refine Below.drew ?_ | refine bl_alloc ?_ _ | refine Below.setCell ?_ (by first | (simp; done) | (simp; omega)) _))) (hp.below (by repeat (first | exact Below.refl _ _ | refine bl_tr ?_ _ | refine bl_al ?_ _ | refine bl_dr ?_ | refine bl_up ?_ _ | refine Below.drew ?_ | refine bl_alloc ?_ _ | refine Below.setCell ?_ (by first | (simp; done) | (simp; omega)) _))) hn hm hs) hc).mono ?_; rintro e w' ⟨rfl, g, rfl⟩) | ((with_reducible refine wp_region_up (by kernel_rfl) (by kernel_rfl) ?_); (repeat (go_big_quiet_step (first | (go_at_call 55; first | exact upq_tr (ret_num (l23At_any _ _ _ _ _ _ _ _ (h.below (by repeat (first | exact Below.refl _ _ | refine bl_tr ?_ _ | refine bl_al ?_ _ | refine bl_dr ?_ | refine bl_up ?_ _ | refine Below.drew ?_ | refine bl_alloc ?_ _ | refine Below.setCell ?_ (by first | (simp; done) | (simp; omega)) _))) (hp.below (by repeat (first | exact Below.refl _ _ | refine bl_tr ?_ _ | refine bl_al ?_ _ | refine bl_dr ?_ | refine bl_up ?_ _ | refine Below.drew ?_ | refine bl_alloc ?_ _ | refine Below.setCell ?_ (by first | (simp; done) | (simp; omega)) _))) hn hm hs) hc) | exact upq (ret_num (l23At_any _ _ _ _ _ _ _ _ (h.below (by repeat (first | exact Below.refl _ _ | refine bl_tr ?_ _ | refine bl_al ?_ _ | refine bl_dr ?_ | refine bl_up ?_ _ | refine Below.drew ?_ | refine bl_alloc ?_ _ | refine Below.setCell ?_ (by first | (simp; done) | (simp; omega)) _))) (hp.below (by repeat (first | exact Below.refl _ _ | refine bl_tr ?_ _ | refine bl_al ?_ _ | refine bl_dr ?_ | refine bl_up ?_ _ | refine Below.drew ?_ | refine bl_alloc ?_ _ | refine Below.setCell ?_ (by first | (simp; done) | (simp; omega)) _))) hn hm hs) hc))))); refine wpQuiet_nil ?_; intro _ hw'; obtain ⟨nq, hw''⟩ := hw'; subst hw''))
    go_ret3
    rw [hR.out]
    exact ⟨none, 0, rfl, ⟨rfl, .inl ⟨rfl, rfl⟩⟩, UpOf.of (by repeat (first | exact Below.refl _ _ | refine bl_tr ?_ _ | refine bl_al ?_ _ | refine bl_dr ?_ | refine bl_up ?_ _ | refine Below.drew ?_ | refine bl_alloc ?_ _ | refine Below.setCell ?_ (by first | (simp; done) | (simp; omega)) _))⟩
  obtain ⟨k1, k2⟩ := btw_true b2
  obtain ⟨D, rfl⟩ : ∃ D : Nat, k = D := ⟨k.toNat, by omega⟩
  have hD : D < l.length := by omega
  have hR := Lib.hid (runR_0 b1 b2)
  have hc := at_0 b1 b2
  go_enter Try.func31, Try.ntmps31
  go_wp2_with (first | (go_at_call 55; refine (ret_num (l23At_any _ _ _ _ _ _ _ _ (h.below (by repeat (first | exact Below.refl _ _ | refine bl_tr ?_ _ | refine bl_al ?_ _ | refine bl_dr ?_ | refine bl_up ?_ _ | refine Below.drew ?_ | refine bl_alloc ?_ _ | refine Below.setCell ?_ (by first | (simp; done) | (simp; omega)) _))) (hp.below (by repeat (first | exact Below.refl _ _ | refine bl_tr ?_ _ | refine bl_al ?_ _ | refine bl_dr ?_ | refine bl_up ?_ _ | refine Below.drew ?_ | refine bl_alloc ?_ _ | refine Below.setCell ?_ (by first | (simp; done) | (simp; omega)) _))) hn hm hs) hc).mono ?_; rintro e w' ⟨rfl, g, rfl⟩) | ((with_reducible refine wp_region_up (by kernel_rfl) (by kernel_rfl) ?_); (repeat (go_big_quiet_step (first | (go_at_call 55; first | exact upq_tr (ret_num (l23At_any _ _ _ _ _ _ _ _ (h.below (by repeat (first | exact Below.refl _ _ | refine bl_tr ?_ _ | refine bl_al ?_ _ | refine bl_dr ?_ | refine bl_up ?_ _ | refine Below.drew ?_ | refine bl_alloc ?_ _ | refine Below.setCell ?_ (by first | (simp; done) | (simp; omega)) _))) (hp.below (by repeat (first | exact Below.refl _ _ | refine bl_tr ?_ _ | refine bl_al ?_ _ | refine bl_dr ?_ | refine bl_up ?_ _ | refine Below.drew ?_ | refine bl_alloc ?_ _ | refine Below.setCell ?_ (by first | (simp; done) | (simp; omega)) _))) hn hm hs) hc) | exact upq (ret_num (l23At_any _ _ _ _ _ _ _ _ (h.below (by repeat (first | exact Below.refl _ _ | refine bl_tr ?_ _ | refine bl_al ?_ _ | refine bl_dr ?_ | refine bl_up ?_ _ | refine Below.drew ?_ | refine bl_alloc ?_ _ | refine Below.setCell ?_ (by first | (simp; done) | (simp; omega)) _))) (hp.below (by repeat (first | exact Below.refl _ _ | refine bl_tr ?_ _ | refine bl_al ?_ _ | refine bl_dr ?_ | refine bl_up ?_ _ | refine Below.drew ?_ | refine bl_alloc ?_ _ | refine Below.setCell ?_ (by first | (simp; done) | (simp; omega)) _))) hn hm hs) hc))))); refine wpQuiet_nil ?_; intro _ hw'; obtain ⟨nq, hw''⟩ := hw'; subst hw''))
  refine (l23Run_any _ _ _ _ _ _ D _ b1 hD (h.below (by repeat (first | exact Below.refl _ _ | refine bl_tr ?_ _ | refine bl_al ?_ _ | refine bl_dr ?_ | refine bl_up ?_ _ | refine Below.drew ?_ | refine bl_alloc ?_ _ | refine Below.setCell ?_ (by first | (simp; done) | (simp; omega)) _))) (hp.below (by repeat (first | exact Below.refl _ _ | refine bl_tr ?_ _ | refine bl_al ?_ _ | refine bl_dr ?_ | refine bl_up ?_ _ | refine Below.drew ?_ | refine bl_alloc ?_ _ | refine Below.setCell ?_ (by first | (simp; done) | (simp; omega)) _)))).mono ?_
  rintro e w' ⟨A', c', rfl, o, g1, rfl⟩
  go_wp2_with fail
  go_ret3
  rw [hR.out]
  exact ⟨A', c', rfl, own_mono o (by first | exact Nat.le_refl _ | exact (up_below _ _).size | exact Nat.le_trans (up_below _ _).size (up_below _ _).size | (simp; done) | (repeat (first | exact Nat.le_refl _ | refine Nat.le_trans ?_ (le_tr_self _)))), UpOf.of (by repeat (first | exact Below.refl _ _ | refine bl_tr ?_ _ | refine bl_al ?_ _ | refine bl_dr ?_ | refine bl_up ?_ _ | refine Below.drew ?_ | refine bl_alloc ?_ _ | refine Below.setCell ?_ (by first | (simp; done) | (simp; omega)) _))⟩
end Go.Proofs.Ytfggbcmpgkhlaaa

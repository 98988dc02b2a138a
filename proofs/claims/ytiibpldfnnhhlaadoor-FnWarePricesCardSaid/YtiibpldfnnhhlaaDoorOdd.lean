/-
  OddBreaks, of the program and of the reference. The bounds stand at each.
-/
import Derived.Test.YtiibpldfnnhhlaaDoorMgA
import Derived.Test.YtiibpldfnnhhlaaDoorMgB
namespace Go.Proofs.YtiibpldfnnhhlaaDoor
open Go.RowKit
theorem el_int : ElemOf Tryd.prog 46 2 (i64 0) 1 8 := elem_of Tryd.underlying46 (by kernel_rfl) rfl (by omega)
theorem ics_app (l : List Int) (x : Int) : ics (l ++ [x]) = ics l ++ [i64 x] := by simp [ics]
/-- the breaks, up to number k, from which on some more cost less than fewer -/
def oddN (x : Ware) : Nat → List Int
  | 0 => []
  | k + 1 => if prc x (brk x (k + 1)).fr < prc x ((brk x (k + 1)).fr - 1) then oddN x k ++ [(k : Int) + 1] else oddN x k
theorem oddN_len (x : Ware) (k : Nat) : (oddN x k).length ≤ k := by
  induction k with
  | zero => simp [oddN]
  | succ k ih => rw [oddN]; split <;> (try rw [List.length_append, List.length_singleton]) <;> omega
def oddR (l : List Ware) (k : Int) : List Int × Int := if vWares l = true then if btw k 0 ((l.length : Int) - 1) = true then (oddN (wat l k.toNat) ((wat l k.toNat).brs.length - 1), 0) else ([], 2) else ([], 1)
set_option maxRecDepth 10000 in
set_option maxHeartbeats 2000000 in
theorem oddI_any (A : Option Addr) (c : Nat) (l : List Ware) (k : Int) (w : World) (h : WSee w A l) (hn : l.length ≤ 100000000) (hf : WBd l) :
    Calls Tryd.prog 28 #[.slice A l.length c, i64 k] w fun e w' => ∃ A' c', e = .returned (.tuple #[.slice A' (oddR l k).1.length c', i64 (oddR l k).2]) ∧ w'.ownsRow w.heap.size 2 1 (.slice A' (oddR l k).1.length c') (oddR l k).1.length (ics (oddR l k).1) ∧ UpOf w w' := by
  cases h1 : vWares l
  · have hR := Lib.hid (show oddR l k = ([], 1) by rw [oddR, if_neg (by simp [h1])])
    have hC := Lib.hid (codeW_1 (k := k) h1)
    go_enter Tryd.func28, Tryd.ntmps28
    go_wp2_with (first | (go_at_call 54; refine (ret_num (wareCode_any _ _ _ _ _ h hn hf) hC.out).mono ?_; rintro e w' ⟨rfl, g, rfl⟩) | ((with_reducible refine wp_region_up (by kernel_rfl) (by kernel_rfl) ?_); (repeat (go_big_quiet_step (first | (go_at_call 54; first | exact upq_tr (ret_num (wareCode_any _ _ _ _ _ h hn hf) hC.out) | exact upq (ret_num (wareCode_any _ _ _ _ _ h hn hf) hC.out))))); refine wpQuiet_nil ?_; intro _ hw'; obtain ⟨nq, hw''⟩ := hw'; subst hw''))
    go_ret2
    rw [hR.out]
    exact ⟨none, 0, rfl, ⟨rfl, .inl ⟨rfl, rfl⟩⟩, UpOf.of (by repeat (first | exact Below.refl _ _ | refine bl_tr ?_ _ | refine bl_al ?_ _ | refine bl_dr ?_ | refine bl_up ?_ _ | refine Below.drew ?_ | refine bl_alloc ?_ _ | refine Below.setCell ?_ (by first | (simp; done) | (simp; omega)) _))⟩
  cases h2 : btw k 0 ((l.length : Int) - 1)
  · have hR := Lib.hid (show oddR l k = ([], 2) by rw [oddR, if_pos h1, if_neg (by simp [h2])])
    have hC := Lib.hid (codeW_2 h1 h2)
    go_enter Tryd.func28, Tryd.ntmps28
    go_wp2_with (first | (go_at_call 54; refine (ret_num (wareCode_any _ _ _ _ _ h hn hf) hC.out).mono ?_; rintro e w' ⟨rfl, g, rfl⟩) | ((with_reducible refine wp_region_up (by kernel_rfl) (by kernel_rfl) ?_); (repeat (go_big_quiet_step (first | (go_at_call 54; first | exact upq_tr (ret_num (wareCode_any _ _ _ _ _ h hn hf) hC.out) | exact upq (ret_num (wareCode_any _ _ _ _ _ h hn hf) hC.out))))); refine wpQuiet_nil ?_; intro _ hw'; obtain ⟨nq, hw''⟩ := hw'; subst hw''))
    go_ret2
    rw [hR.out]
    exact ⟨none, 0, rfl, ⟨rfl, .inl ⟨rfl, rfl⟩⟩, UpOf.of (by repeat (first | exact Below.refl _ _ | refine bl_tr ?_ _ | refine bl_al ?_ _ | refine bl_dr ?_ | refine bl_up ?_ _ | refine Below.drew ?_ | refine bl_alloc ?_ _ | refine Below.setCell ?_ (by first | (simp; done) | (simp; omega)) _))⟩
  obtain ⟨k1, k2⟩ := btw_true h2
  obtain ⟨K, rfl⟩ : ∃ K : Nat, k = K := ⟨k.toNat, by omega⟩
  have hR := Lib.hid (show oddR l K = (oddN (wat l K) ((wat l K).brs.length - 1), 0) by rw [oddR, if_pos h1, if_pos h2]; rfl)
  have hC := Lib.hid (codeW_0 h1 h2)
  obtain ⟨hl30, hvs⟩ := vWares_inv h1
  have hK : K < l.length := by omega
  have hvv := Lib.hid (hvs K hK)
  clear h1 h2 hvs
  have HH := Lib.hid h
  obtain ⟨b, off, Ai, ci, rfl, hb, c0, c1, r⟩ := ware_at h hK
  have HR := Lib.hid r
  obtain ⟨_, hl1, hl6, hbk⟩ := vWare_inv hvv.out
  have HBK := Lib.hid (fun i hi => brkAt_bd (hbk i hi))
  clear hbk r
  go_enter Tryd.func28, Tryd.ntmps28
  go_wp2_with fail
  refine (ret_num (wareCode_any _ _ _ _ _ HH.out hn hf) hC.out).mono ?_
  rintro e w' ⟨rfl, g0, rfl⟩
  have hB := up_below w g0
  revert hB
  generalize up w g0 = W0
  intro hB
  have HB := Lib.hid hB
  have hr := HR.out.below hB
  have C0 := (hB.cell (p := ⟨b, off + K * 2, none⟩) hb).trans c0
  have C1 := (hB.cell (p := ⟨b, off + K * 2 + 1, none⟩) hb).trans c1
  have hbW : b < W0.heap.size := Nat.lt_of_lt_of_le hb hB.size
  clear hB h c0 c1 hb
  go_wp2_with fail
  have P0 : (W0.alloc (.cells #[.string (wat l K).name, .slice Ai (wat l K).brs.length ci] 29)).cell? ⟨W0.heap.size, 0, none⟩ = some (.string (wat l K).name) := by simp
  have P1 : (W0.alloc (.cells #[.string (wat l K).name, .slice Ai (wat l K).brs.length ci] 29)).cell? ⟨W0.heap.size, 1, none⟩ = some (.slice Ai (wat l K).brs.length ci) := by simp
  have P2 : (W0.alloc (.cells #[.string (wat l K).name, .slice Ai (wat l K).brs.length ci] 29)).heap.size = W0.heap.size + 1 := by simp
  have hB2 : Below W0.heap.size W0 (W0.alloc (.cells #[.string (wat l K).name, .slice Ai (wat l K).brs.length ci] 29)) := (Below.refl _ _).alloc (Nat.le_refl _) _
  have hr2 := hr.below hB2
  have hB3 := HB.out.trans (hB2.mono HB.out.size)
  have hOwn := Lib.hid (World.ownsRow_lit (base := W0.heap.size + 1) (e := 2) (size := 1) (W0.alloc (.cells #[.string (wat l K).name, .slice Ai (wat l K).brs.length ci] 29)) #[] 0 (by simp) (by unfold maxLen; omega) rfl)
  rw [P2] at hOwn
  have hps := Nat.lt_succ_self W0.heap.size
  clear hr hB2 C0 C1 HB HR hbW
  revert P0 P1 P2 hr2 hB3 hOwn hps
  generalize W0.alloc (.cells #[.string (wat l K).name, .slice Ai (wat l K).brs.length ci] 29) = W
  generalize W0.heap.size = p
  intro P0 P1 P2 hr hB hOwn hps
  have HB := Lib.hid hB
  have HR := Lib.hid hr
  have HP2 := Lib.hid P2
  have hpW : p < W.heap.size := by rw [P2]; exact hps
  clear hB hr P2 hps
  go_loopw [8, 9] (fun v i wr => ∃ j : Nat, j + 1 ≤ (wat l K).brs.length ∧ i = i64 ((j : Int) + 1) ∧ ∃ A' c', v = .slice A' (oddN (wat l K) j).length c' ∧ wr.ownsRow (p + 1) 2 1 (.slice A' (oddN (wat l K) j).length c') (oddN (wat l K) j).length (ics (oddN (wat l K) j)) ∧ ∃ g : Up W, wr = up W g) (fun _ i _ => (wat l K).brs.length + 1 - (intOf i).toNat)
  case atStart => exact ⟨0, by omega, rfl, _, _, rfl, hOwn.out, ex_up (by repeat (first | exact Below.refl _ _ | refine bl_tr ?_ _ | refine bl_al ?_ _ | refine bl_dr ?_ | refine bl_up ?_ _ | refine Below.drew ?_ | refine bl_alloc ?_ _ | refine Below.setCell ?_ (by first | (simp; done) | (simp; omega)) _))⟩
  case round =>
    obtain ⟨j, hj, rfl, A', c', rfl, hown, g, rfl⟩ := hrel
    have hol := oddN_len (wat l K) j
    by_cases hlt : j + 1 < (wat l K).brs.length
    · obtain ⟨b1, off1, rfl, hb1, ha⟩ := brk_all HR.out (by omega)
      obtain ⟨e0, e1⟩ := ha (j + 1) hlt
      obtain ⟨f1, f2, _, _⟩ := HBK.out (j + 1) hlt
      clear ha
      have f3 : (0 : Int) ≤ (brk (wat l K) (j + 1)).fr := by omega
      have f4 : (0 : Int) ≤ (brk (wat l K) (j + 1)).fr - 1 := by omega
      have f5 : (brk (wat l K) (j + 1)).fr - 1 ≤ 1000 := by omega
      have j1 : (0 : Int) ≤ (j : Int) + 1 := by omega
      have j2 : (j : Int) + 1 < ((wat l K).brs.length : Int) := by omega
      have j3 : ((j : Int) + 1).toNat = j + 1 := by omega
      by_cases q : prc (wat l K) (brk (wat l K) (j + 1)).fr < prc (wat l K) ((brk (wat l K) (j + 1)).fr - 1)
      · have hN := Lib.hid (show oddN (wat l K) (j + 1) = oddN (wat l K) j ++ [(j : Int) + 1] by rw [oddN, if_pos q])
        go_wp2_with (first | (go_at_call 56; refine (price_any _ _ _ _ _ (HR.out.below (by repeat (first | exact Below.refl _ _ | refine bl_tr ?_ _ | refine bl_al ?_ _ | refine bl_dr ?_ | refine bl_up ?_ _ | refine Below.drew ?_ | refine bl_alloc ?_ _ | refine Below.setCell ?_ (by first | (simp; done) | (simp; omega)) _))) hvv.out (by assumption) (by assumption)).mono ?_; rintro e w' ⟨rfl, g, rfl⟩) | (at_builtin; refine wpl_appU rfl _ _ 46 rfl W (p + 1) 2 _ 1 8 el_int _ _ _ rfl (own_below hown (by repeat (first | exact Below.refl _ _ | refine bl_tr ?_ _ | refine bl_al ?_ _ | refine bl_dr ?_ | refine bl_up ?_ _ | refine Below.drew ?_ | refine bl_alloc ?_ _ | refine Below.setCell ?_ (by first | (simp; done) | (simp; omega)) _))) _ 1 1 [i64 ((j : Int) + 1)] rfl (rds_new _ _ _ 1 1 rfl) (fun u hu => by simp at hu; subst hu; rfl) (by unfold maxLen; omega) (by omega) (Nat.le_trans (Nat.le_of_eq HP2.out.symm) (up_below W _).size) (by repeat (first | exact Below.refl _ _ | refine bl_tr ?_ _ | refine bl_al ?_ _ | refine bl_dr ?_ | refine bl_up ?_ _ | refine Below.drew ?_ | refine bl_alloc ?_ _ | refine Below.setCell ?_ (by first | (simp; done) | (simp; omega)) _)) (Nat.le_of_eq HP2.out) ?_; intro A2 c2 g2 o2) | ((with_reducible refine wp_region_up (by kernel_rfl) (by kernel_rfl) ?_); (repeat (go_big_quiet_step (first | (go_at_call 56; first | exact upq_tr (price_any _ _ _ _ _ (HR.out.below (by repeat (first | exact Below.refl _ _ | refine bl_tr ?_ _ | refine bl_al ?_ _ | refine bl_dr ?_ | refine bl_up ?_ _ | refine Below.drew ?_ | refine bl_alloc ?_ _ | refine Below.setCell ?_ (by first | (simp; done) | (simp; omega)) _))) hvv.out (by assumption) (by assumption)) | exact upq (price_any _ _ _ _ _ (HR.out.below (by repeat (first | exact Below.refl _ _ | refine bl_tr ?_ _ | refine bl_al ?_ _ | refine bl_dr ?_ | refine bl_up ?_ _ | refine Below.drew ?_ | refine bl_alloc ?_ _ | refine Below.setCell ?_ (by first | (simp; done) | (simp; omega)) _))) hvv.out (by assumption) (by assumption)))))); refine wpQuiet_nil ?_; intro _ hw'; obtain ⟨nq, hw''⟩ := hw'; subst hw''))
        go_roundw
        case rel => exact ⟨j + 1, by omega, by go_num, A2, c2, by rw [hN.out, List.length_append]; rfl, by rw [hN.out, List.length_append, ics_app]; exact o2, _, rfl⟩
        case measure => (simp [intOf]; try omega)
      · have hN := Lib.hid (show oddN (wat l K) (j + 1) = oddN (wat l K) j by rw [oddN, if_neg q])
        go_wp2_with (first | (go_at_call 56; refine (price_any _ _ _ _ _ (HR.out.below (by repeat (first | exact Below.refl _ _ | refine bl_tr ?_ _ | refine bl_al ?_ _ | refine bl_dr ?_ | refine bl_up ?_ _ | refine Below.drew ?_ | refine bl_alloc ?_ _ | refine Below.setCell ?_ (by first | (simp; done) | (simp; omega)) _))) hvv.out (by assumption) (by assumption)).mono ?_; rintro e w' ⟨rfl, g, rfl⟩) | ((with_reducible refine wp_region_up (by kernel_rfl) (by kernel_rfl) ?_); (repeat (go_big_quiet_step (first | (go_at_call 56; first | exact upq_tr (price_any _ _ _ _ _ (HR.out.below (by repeat (first | exact Below.refl _ _ | refine bl_tr ?_ _ | refine bl_al ?_ _ | refine bl_dr ?_ | refine bl_up ?_ _ | refine Below.drew ?_ | refine bl_alloc ?_ _ | refine Below.setCell ?_ (by first | (simp; done) | (simp; omega)) _))) hvv.out (by assumption) (by assumption)) | exact upq (price_any _ _ _ _ _ (HR.out.below (by repeat (first | exact Below.refl _ _ | refine bl_tr ?_ _ | refine bl_al ?_ _ | refine bl_dr ?_ | refine bl_up ?_ _ | refine Below.drew ?_ | refine bl_alloc ?_ _ | refine Below.setCell ?_ (by first | (simp; done) | (simp; omega)) _))) hvv.out (by assumption) (by assumption)))))); refine wpQuiet_nil ?_; intro _ hw'; obtain ⟨nq, hw''⟩ := hw'; subst hw''))
        go_roundw
        case rel => exact ⟨j + 1, by omega, by go_num, A', c', by rw [hN.out], by rw [hN.out]; exact own_below hown (by repeat (first | exact Below.refl _ _ | refine bl_tr ?_ _ | refine bl_al ?_ _ | refine bl_dr ?_ | refine bl_up ?_ _ | refine Below.drew ?_ | refine bl_alloc ?_ _ | refine Below.setCell ?_ (by first | (simp; done) | (simp; omega)) _)), ex_up (by repeat (first | exact Below.refl _ _ | refine bl_tr ?_ _ | refine bl_al ?_ _ | refine bl_dr ?_ | refine bl_up ?_ _ | refine Below.drew ?_ | refine bl_alloc ?_ _ | refine Below.setCell ?_ (by first | (simp; done) | (simp; omega)) _))⟩
        case measure => (simp [intOf]; try omega)
    · have hjl := Lib.hid (show (wat l K).brs.length - 1 = j by omega)
      have hlt' : ¬ (j : Int) + 1 < ((wat l K).brs.length : Int) := by omega
      go_wp2_with (first | ((with_reducible refine wp_region_up (by kernel_rfl) (by kernel_rfl) ?_); (repeat (go_big_quiet_step (fail))); refine wpQuiet_nil ?_; intro _ hw'; obtain ⟨nq, hw''⟩ := hw'; subst hw''))
      go_ret2
      rw [hR.out]
      exact ⟨A', c', by rw [hjl.out]; rfl, by rw [hjl.out]; exact own_mono hown (by have := HB.out.size; have := HP2.out; omega), UpOf.of (HB.out.trans (Below.mono (by repeat (first | exact Below.refl _ _ | refine bl_tr ?_ _ | refine bl_al ?_ _ | refine bl_dr ?_ | refine bl_up ?_ _ | refine Below.drew ?_ | refine bl_alloc ?_ _ | refine Below.setCell ?_ (by first | (simp; done) | (simp; omega)) _)) HB.out.size))⟩
set_option maxRecDepth 10000 in
set_option maxHeartbeats 2000000 in
theorem oddS_any (A : Option Addr) (c : Nat) (l : List Ware) (k : Int) (w : World) (h : WSee w A l) (hn : l.length ≤ 100000000) (hf : WBd l) :
    Calls Tryd.prog 29 #[.slice A l.length c, i64 k] w fun e w' => ∃ A' c', e = .returned (.tuple #[.slice A' (oddR l k).1.length c', i64 (oddR l k).2]) ∧ w'.ownsRow w.heap.size 2 1 (.slice A' (oddR l k).1.length c') (oddR l k).1.length (ics (oddR l k).1) ∧ UpOf w w' := by
  cases h1 : vWares l
  · have hR := Lib.hid (show oddR l k = ([], 1) by rw [oddR, if_neg (by simp [h1])])
    have hC := Lib.hid (codeW_1 (k := k) h1)
    go_enter Tryd.func29, Tryd.ntmps29
    go_wp2_with (first | (go_at_call 57; refine (ret_num (l26Code_any _ _ _ _ _ h hn hf) hC.out).mono ?_; rintro e w' ⟨rfl, g, rfl⟩) | ((with_reducible refine wp_region_up (by kernel_rfl) (by kernel_rfl) ?_); (repeat (go_big_quiet_step (first | (go_at_call 57; first | exact upq_tr (ret_num (l26Code_any _ _ _ _ _ h hn hf) hC.out) | exact upq (ret_num (l26Code_any _ _ _ _ _ h hn hf) hC.out))))); refine wpQuiet_nil ?_; intro _ hw'; obtain ⟨nq, hw''⟩ := hw'; subst hw''))
    go_ret2
    rw [hR.out]
    exact ⟨none, 0, rfl, ⟨rfl, .inl ⟨rfl, rfl⟩⟩, UpOf.of (by repeat (first | exact Below.refl _ _ | refine bl_tr ?_ _ | refine bl_al ?_ _ | refine bl_dr ?_ | refine bl_up ?_ _ | refine Below.drew ?_ | refine bl_alloc ?_ _ | refine Below.setCell ?_ (by first | (simp; done) | (simp; omega)) _))⟩
  cases h2 : btw k 0 ((l.length : Int) - 1)
  · have hR := Lib.hid (show oddR l k = ([], 2) by rw [oddR, if_pos h1, if_neg (by simp [h2])])
    have hC := Lib.hid (codeW_2 h1 h2)
    go_enter Tryd.func29, Tryd.ntmps29
    go_wp2_with (first | (go_at_call 57; refine (ret_num (l26Code_any _ _ _ _ _ h hn hf) hC.out).mono ?_; rintro e w' ⟨rfl, g, rfl⟩) | ((with_reducible refine wp_region_up (by kernel_rfl) (by kernel_rfl) ?_); (repeat (go_big_quiet_step (first | (go_at_call 57; first | exact upq_tr (ret_num (l26Code_any _ _ _ _ _ h hn hf) hC.out) | exact upq (ret_num (l26Code_any _ _ _ _ _ h hn hf) hC.out))))); refine wpQuiet_nil ?_; intro _ hw'; obtain ⟨nq, hw''⟩ := hw'; subst hw''))
    go_ret2
    rw [hR.out]
    exact ⟨none, 0, rfl, ⟨rfl, .inl ⟨rfl, rfl⟩⟩, UpOf.of (by repeat (first | exact Below.refl _ _ | refine bl_tr ?_ _ | refine bl_al ?_ _ | refine bl_dr ?_ | refine bl_up ?_ _ | refine Below.drew ?_ | refine bl_alloc ?_ _ | refine Below.setCell ?_ (by first | (simp; done) | (simp; omega)) _))⟩
  obtain ⟨k1, k2⟩ := btw_true h2
  obtain ⟨K, rfl⟩ : ∃ K : Nat, k = K := ⟨k.toNat, by omega⟩
  have hR := Lib.hid (show oddR l K = (oddN (wat l K) ((wat l K).brs.length - 1), 0) by rw [oddR, if_pos h1, if_pos h2]; rfl)
  have hC := Lib.hid (codeW_0 h1 h2)
  obtain ⟨hl30, hvs⟩ := vWares_inv h1
  have hK : K < l.length := by omega
  have hvv := Lib.hid (hvs K hK)
  clear h1 h2 hvs
  have HH := Lib.hid h
  obtain ⟨b, off, Ai, ci, rfl, hb, c0, c1, r⟩ := ware_at h hK
  have HR := Lib.hid r
  obtain ⟨_, hl1, hl6, hbk⟩ := vWare_inv hvv.out
  have HBK := Lib.hid (fun i hi => brkAt_bd (hbk i hi))
  clear hbk r
  have hat : Hid (WAt w b (off + K * 2) (wat l K) Ai ci) := ⟨hb, c0, c1, HR.out⟩
  go_enter Tryd.func29, Tryd.ntmps29
  go_wp2_with fail
  refine (ret_num (l26Code_any _ _ _ _ _ HH.out hn hf) hC.out).mono ?_
  rintro e w' ⟨rfl, g0, rfl⟩
  have hB := up_below w g0
  revert hB
  generalize up w g0 = W
  intro hB
  have HB := Lib.hid hB
  have HR2 := Lib.hid (HR.out.below hB)
  have HAT := Lib.hid (hat.out.below hB)
  obtain ⟨hbW, C0, C1, _⟩ := HAT.out
  clear hB h c0 c1 hb HR hat
  have hOwn := Lib.hid (World.ownsRow_lit (base := W.heap.size) (e := 2) (size := 1) W #[] 0 (Nat.le_refl _) (by unfold maxLen; omega) rfl)
  go_wp2_with fail
  go_loopw [8, 9] (fun v i wr => ∃ j : Nat, j + 1 ≤ (wat l K).brs.length ∧ i = i64 ((j : Int) + 1) ∧ ∃ A' c', v = .slice A' (oddN (wat l K) j).length c' ∧ wr.ownsRow W.heap.size 2 1 (.slice A' (oddN (wat l K) j).length c') (oddN (wat l K) j).length (ics (oddN (wat l K) j)) ∧ ∃ g : Up W, wr = up W g) (fun _ i _ => (wat l K).brs.length + 1 - (intOf i).toNat)
  case atStart => exact ⟨0, by omega, rfl, _, _, rfl, hOwn.out, ex_up (by repeat (first | exact Below.refl _ _ | refine bl_tr ?_ _ | refine bl_al ?_ _ | refine bl_dr ?_ | refine bl_up ?_ _ | refine Below.drew ?_ | refine bl_alloc ?_ _ | refine Below.setCell ?_ (by first | (simp; done) | (simp; omega)) _))⟩
  case round =>
    obtain ⟨j, hj, rfl, A', c', rfl, hown, g, rfl⟩ := hrel
    have hol := oddN_len (wat l K) j
    by_cases hlt : j + 1 < (wat l K).brs.length
    · obtain ⟨b1, off1, rfl, hb1, ha⟩ := brk_all HR2.out (by omega)
      obtain ⟨e0, e1⟩ := ha (j + 1) hlt
      obtain ⟨f1, f2, _, _⟩ := HBK.out (j + 1) hlt
      clear ha
      have f3 : (0 : Int) ≤ (brk (wat l K) (j + 1)).fr := by omega
      have f4 : (0 : Int) ≤ (brk (wat l K) (j + 1)).fr - 1 := by omega
      have f5 : (brk (wat l K) (j + 1)).fr - 1 ≤ 1000 := by omega
      have j1 : (0 : Int) ≤ (j : Int) + 1 := by omega
      have j2 : (j : Int) + 1 < ((wat l K).brs.length : Int) := by omega
      have j3 : ((j : Int) + 1).toNat = j + 1 := by omega
      by_cases q : prc (wat l K) (brk (wat l K) (j + 1)).fr < prc (wat l K) ((brk (wat l K) (j + 1)).fr - 1)
      · have hN := Lib.hid (show oddN (wat l K) (j + 1) = oddN (wat l K) j ++ [(j : Int) + 1] by rw [oddN, if_pos q])
        go_wp2_with (first | (go_at_call 65; refine (l26Price_any _ _ _ _ _ _ _ (HAT.out.below (by repeat (first | exact Below.refl _ _ | refine bl_tr ?_ _ | refine bl_al ?_ _ | refine bl_dr ?_ | refine bl_up ?_ _ | refine Below.drew ?_ | refine bl_alloc ?_ _ | refine Below.setCell ?_ (by first | (simp; done) | (simp; omega)) _))) hvv.out (by assumption) (by assumption)).mono ?_; rintro e w' ⟨rfl, g, rfl⟩) | (at_builtin; refine wpl_appU rfl _ _ 46 rfl W W.heap.size 2 _ 1 8 el_int _ _ _ rfl (own_below hown (by repeat (first | exact Below.refl _ _ | refine bl_tr ?_ _ | refine bl_al ?_ _ | refine bl_dr ?_ | refine bl_up ?_ _ | refine Below.drew ?_ | refine bl_alloc ?_ _ | refine Below.setCell ?_ (by first | (simp; done) | (simp; omega)) _))) _ 1 1 [i64 ((j : Int) + 1)] rfl (rds_new _ _ _ 1 1 rfl) (fun u hu => by simp at hu; subst hu; rfl) (by unfold maxLen; omega) (by omega) (up_below W _).size (by repeat (first | exact Below.refl _ _ | refine bl_tr ?_ _ | refine bl_al ?_ _ | refine bl_dr ?_ | refine bl_up ?_ _ | refine Below.drew ?_ | refine bl_alloc ?_ _ | refine Below.setCell ?_ (by first | (simp; done) | (simp; omega)) _)) (Nat.le_refl _) ?_; intro A2 c2 g2 o2) | ((with_reducible refine wp_region_up (by kernel_rfl) (by kernel_rfl) ?_); (repeat (go_big_quiet_step (first | (go_at_call 65; first | exact upq_tr (l26Price_any _ _ _ _ _ _ _ (HAT.out.below (by repeat (first | exact Below.refl _ _ | refine bl_tr ?_ _ | refine bl_al ?_ _ | refine bl_dr ?_ | refine bl_up ?_ _ | refine Below.drew ?_ | refine bl_alloc ?_ _ | refine Below.setCell ?_ (by first | (simp; done) | (simp; omega)) _))) hvv.out (by assumption) (by assumption)) | exact upq (l26Price_any _ _ _ _ _ _ _ (HAT.out.below (by repeat (first | exact Below.refl _ _ | refine bl_tr ?_ _ | refine bl_al ?_ _ | refine bl_dr ?_ | refine bl_up ?_ _ | refine Below.drew ?_ | refine bl_alloc ?_ _ | refine Below.setCell ?_ (by first | (simp; done) | (simp; omega)) _))) hvv.out (by assumption) (by assumption)))))); refine wpQuiet_nil ?_; intro _ hw'; obtain ⟨nq, hw''⟩ := hw'; subst hw''))
        go_roundw
        case rel => exact ⟨j + 1, by omega, by go_num, A2, c2, by rw [hN.out, List.length_append]; rfl, by rw [hN.out, List.length_append, ics_app]; exact o2, _, rfl⟩
        case measure => (simp [intOf]; try omega)
      · have hN := Lib.hid (show oddN (wat l K) (j + 1) = oddN (wat l K) j by rw [oddN, if_neg q])
        go_wp2_with (first | (go_at_call 65; refine (l26Price_any _ _ _ _ _ _ _ (HAT.out.below (by repeat (first | exact Below.refl _ _ | refine bl_tr ?_ _ | refine bl_al ?_ _ | refine bl_dr ?_ | refine bl_up ?_ _ | refine Below.drew ?_ | refine bl_alloc ?_ _ | refine Below.setCell ?_ (by first | (simp; done) | (simp; omega)) _))) hvv.out (by assumption) (by assumption)).mono ?_; rintro e w' ⟨rfl, g, rfl⟩) | ((with_reducible refine wp_region_up (by kernel_rfl) (by kernel_rfl) ?_); (repeat (go_big_quiet_step (first | (go_at_call 65; first | exact upq_tr (l26Price_any _ _ _ _ _ _ _ (HAT.out.below (by repeat (first | exact Below.refl _ _ | refine bl_tr ?_ _ | refine bl_al ?_ _ | refine bl_dr ?_ | refine bl_up ?_ _ | refine Below.drew ?_ | refine bl_alloc ?_ _ | refine Below.setCell ?_ (by first | (simp; done) | (simp; omega)) _))) hvv.out (by assumption) (by assumption)) | exact upq (l26Price_any _ _ _ _ _ _ _ (HAT.out.below (by repeat (first | exact Below.refl _ _ | refine bl_tr ?_ _ | refine bl_al ?_ _ | refine bl_dr ?_ | refine bl_up ?_ _ | refine Below.drew ?_ | refine bl_alloc ?_ _ | refine Below.setCell ?_ (by first | (simp; done) | (simp; omega)) _))) hvv.out (by assumption) (by assumption)))))); refine wpQuiet_nil ?_; intro _ hw'; obtain ⟨nq, hw''⟩ := hw'; subst hw''))
        go_roundw
        case rel => exact ⟨j + 1, by omega, by go_num, A', c', by rw [hN.out], by rw [hN.out]; exact own_below hown (by repeat (first | exact Below.refl _ _ | refine bl_tr ?_ _ | refine bl_al ?_ _ | refine bl_dr ?_ | refine bl_up ?_ _ | refine Below.drew ?_ | refine bl_alloc ?_ _ | refine Below.setCell ?_ (by first | (simp; done) | (simp; omega)) _)), ex_up (by repeat (first | exact Below.refl _ _ | refine bl_tr ?_ _ | refine bl_al ?_ _ | refine bl_dr ?_ | refine bl_up ?_ _ | refine Below.drew ?_ | refine bl_alloc ?_ _ | refine Below.setCell ?_ (by first | (simp; done) | (simp; omega)) _))⟩
        case measure => (simp [intOf]; try omega)
    · have hjl := Lib.hid (show (wat l K).brs.length - 1 = j by omega)
      have hlt' : ¬ (j : Int) + 1 < ((wat l K).brs.length : Int) := by omega
      go_wp2_with (first | ((with_reducible refine wp_region_up (by kernel_rfl) (by kernel_rfl) ?_); (repeat (go_big_quiet_step (fail))); refine wpQuiet_nil ?_; intro _ hw'; obtain ⟨nq, hw''⟩ := hw'; subst hw''))
      go_ret2
      rw [hR.out]
      exact ⟨A', c', by rw [hjl.out]; rfl, by rw [hjl.out]; exact own_mono hown HB.out.size, UpOf.of (HB.out.trans (Below.mono (by repeat (first | exact Below.refl _ _ | refine bl_tr ?_ _ | refine bl_al ?_ _ | refine bl_dr ?_ | refine bl_up ?_ _ | refine Below.drew ?_ | refine bl_alloc ?_ _ | refine Below.setCell ?_ (by first | (simp; done) | (simp; omega)) _)) HB.out.size))⟩
end Go.Proofs.YtiibpldfnnhhlaaDoor

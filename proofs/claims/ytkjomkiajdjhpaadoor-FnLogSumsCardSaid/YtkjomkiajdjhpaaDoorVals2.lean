/-
  ValuesOf and SumOfWhat, of the program and of the reference. The bounds stand at each; the program's lean on the laid table.
-/
import Derived.Test.YtkjomkiajdjhpaaDoorVals
namespace Go.Proofs.YtkjomkiajdjhpaaDoor
open Go.RowKit
theorem rds_new2 {V : World} {g : Up V} {o : Obj} {cs : Array Value} {t : TypeId} (sz m : Nat) (h : cs.size = m * sz) : Rds (up V ((g.al o).al (.cells cs t))) sz (some ⟨(up V g).heap.size + 1, 0, none⟩) m cs.toList := by
  have := rds_new (up V (g.al o)) cs t sz m h
  rw [size_al] at this
  exact this
set_option maxRecDepth 10000 in
set_option maxHeartbeats 1000000 in
theorem valuesOfI_any (s what : ByteArray) (w : World) (hs : s.size ≤ 1048576) (hs2 : what.size ≤ 9223372036854775807) (ht : Tab w) :
    Calls Tryd.prog 32 #[.string s, .string what] w fun e w' => ∃ A' c', e = .returned (.tuple #[.slice A' (vaR s what).1.length c', i64 (vaR s what).2]) ∧ w'.ownsRow w.heap.size 2 1 (.slice A' (vaR s what).1.length c') (vaR s what).1.length (ics (vaR s what).1) ∧ UpOf w w' := by
  have HT := Lib.hid ht
  clear ht
  by_cases h1 : codeL s = 0
  · cases h2 : nameB what
    · have hf := Lib.hid (vaR_2 h1 h2)
      go_enter Tryd.func32, Tryd.ntmps32
      go_wp2_with fail
      refine (wholeI_ok s _ (HT.out.below (by repeat (first | exact Below.refl _ _ | refine bl_tr ?_ _ | refine bl_al ?_ _ | refine bl_dr ?_ | refine bl_up ?_ _ | refine Below.drew ?_ | refine bl_alloc ?_ _ | refine Below.setCell ?_ (by first | (simp; done) | (simp; omega)) _))) h1).mono ?_
      rintro e V ⟨rb, rfl, hl, hup⟩
      obtain ⟨A, c, hc, hrb, hown⟩ := hl.list
      have HO := Lib.hid (Rds.of_own hown)
      have HU := Lib.hid hup
      clear hl hown hup
      go_wp2_with (first | (go_at_call 64; refine (ret_as (isNameI_any _ _ hs2) h2).mono ?_; rintro e w' ⟨rfl, rfl⟩) | ((with_reducible refine wp_region_up (by kernel_rfl) (by kernel_rfl) ?_); (repeat (go_big_quiet_step (first | (go_at_call 64; first | exact upq_tr_same (ret_as (isNameI_any _ _ hs2) h2) | exact upq_same (ret_as (isNameI_any _ _ hs2) h2))))); refine wpQuiet_nil ?_; intro _ hw'; obtain ⟨nq, hw''⟩ := hw'; subst hw''))
      go_ret2
      rw [hf.out]
      exact ⟨none, 0, rfl, ⟨rfl, .inl ⟨rfl, rfl⟩⟩, HU.out.tr (by repeat (first | exact Below.refl _ _ | refine bl_tr ?_ _ | refine bl_al ?_ _ | refine bl_dr ?_ | refine bl_up ?_ _ | refine Below.drew ?_ | refine bl_alloc ?_ _ | refine Below.setCell ?_ (by first | (simp; done) | (simp; omega)) _))⟩
    · have hf := Lib.hid (vaR_0 h1 h2)
      go_enter Tryd.func32, Tryd.ntmps32
      go_wp2_with fail
      refine (wholeI_ok s _ (HT.out.below (by repeat (first | exact Below.refl _ _ | refine bl_tr ?_ _ | refine bl_al ?_ _ | refine bl_dr ?_ | refine bl_up ?_ _ | refine Below.drew ?_ | refine bl_alloc ?_ _ | refine Below.setCell ?_ (by first | (simp; done) | (simp; omega)) _))) h1).mono ?_
      rintro e V ⟨rb, rfl, hl, hup⟩
      obtain ⟨A, c, hc, hrb, hown⟩ := hl.list
      have HO := Lib.hid (Rds.of_own hown)
      have HU := Lib.hid hup
      clear hl hown hup
      go_wp2_with (first | (go_at_call 64; refine (ret_as (isNameI_any _ _ hs2) h2).mono ?_; rintro e w' ⟨rfl, rfl⟩) | ((with_reducible refine wp_region_up (by kernel_rfl) (by kernel_rfl) ?_); (repeat (go_big_quiet_step (first | (go_at_call 64; first | exact upq_tr_same (ret_as (isNameI_any _ _ hs2) h2) | exact upq_same (ret_as (isNameI_any _ _ hs2) h2))))); refine wpQuiet_nil ?_; intro _ hw'; obtain ⟨nq, hw''⟩ := hw'; subst hw''))
      have hl4 := entsL_len h1
      generalize entsL s = l at *
      have hOwn := Lib.hid (World.ownsRow_lit (base := V.heap.size) (e := 2) (size := 1) V #[] 0 (Nat.le_refl _) (by unfold maxLen; omega) rfl)
      go_loopw [8, 28] (fun o i wr => ∃ (k : Nat) (A' : Option Addr) (c' : Nat), k ≤ l.length ∧ i = i64 k ∧ o = .slice A' (vals what (l.take k)).length c' ∧ wr.ownsRow V.heap.size 2 1 (.slice A' (vals what (l.take k)).length c') (vals what (l.take k)).length (ics (vals what (l.take k))) ∧ ∃ g : Up V, wr = up V g) (fun _ i _ => l.length - (intOf i).toNat)
      case atStart => exact ⟨0, _, _, by omega, rfl, rfl, hOwn.out, ex_up (by repeat (first | exact Below.refl _ _ | refine bl_tr ?_ _ | refine bl_al ?_ _ | refine bl_dr ?_ | refine bl_up ?_ _ | refine Below.drew ?_ | refine bl_alloc ?_ _ | refine Below.setCell ?_ (by first | (simp; done) | (simp; omega)) _))⟩
      case round =>
        obtain ⟨k, A', c', hk, rfl, rfl, hown, g, rfl⟩ := hrel
        have hvl := Nat.le_trans (vals_len what (l.take k)) (by rw [List.length_take]; exact Nat.min_le_left _ _)
        by_cases hlt : k < l.length
        · obtain ⟨b, off, rfl, hb, x0, x1, x2⟩ := en_at HO.out hlt
          by_cases q : l[k].what = what
          · have qe := tl_teq q
            have hN := Lib.hid (vals_yes hlt q)
            clear q
            go_wp2_with (first | (at_builtin; go_must (refine wpl_appU rfl _ _ 50 rfl V V.heap.size 2 _ 1 8 el_int _ _ _ rfl (own_below hown (by repeat (first | exact Below.refl _ _ | refine bl_tr ?_ _ | refine bl_al ?_ _ | refine bl_dr ?_ | refine bl_up ?_ _ | refine Below.drew ?_ | refine bl_alloc ?_ _ | refine Below.setCell ?_ (by first | (simp; done) | (simp; omega)) _))) _ 1 1 [i64 l[k].value] rfl (rds_new2 1 1 rfl) (fun u hu => by simp at hu; subst hu; rfl) (by unfold maxLen; omega) (by omega) (up_below V _).size (by repeat (first | exact Below.refl _ _ | refine bl_tr ?_ _ | refine bl_al ?_ _ | refine bl_dr ?_ | refine bl_up ?_ _ | refine Below.drew ?_ | refine bl_alloc ?_ _ | refine Below.setCell ?_ (by first | (simp; done) | (simp; omega)) _)) (Nat.le_refl _) ?_; intro A2 c2 g2 o2)) | ((with_reducible refine wp_region_up (by kernel_rfl) (by kernel_rfl) ?_); (repeat (go_big_quiet_step (fail))); refine wpQuiet_nil ?_; intro _ hw'; obtain ⟨nq, hw''⟩ := hw'; subst hw''))
            go_roundw
            case rel => exact ⟨k + 1, A2, c2, by omega, by go_num, by rw [hN.out, List.length_append]; rfl, by rw [hN.out, List.length_append, ics_app]; exact o2, _, rfl⟩
            case measure => (simp [intOf]; try omega)
          · have qe := tl_tne q
            have hN := Lib.hid (vals_not hlt q)
            clear q
            go_wp2_with (first | ((with_reducible refine wp_region_up (by kernel_rfl) (by kernel_rfl) ?_); (repeat (go_big_quiet_step (fail))); refine wpQuiet_nil ?_; intro _ hw'; obtain ⟨nq, hw''⟩ := hw'; subst hw''))
            go_roundw
            case rel => exact ⟨k + 1, A', c', by omega, by go_num, by rw [hN.out], by rw [hN.out]; exact own_below hown (by repeat (first | exact Below.refl _ _ | refine bl_tr ?_ _ | refine bl_al ?_ _ | refine bl_dr ?_ | refine bl_up ?_ _ | refine Below.drew ?_ | refine bl_alloc ?_ _ | refine Below.setCell ?_ (by first | (simp; done) | (simp; omega)) _)), ex_up (by repeat (first | exact Below.refl _ _ | refine bl_tr ?_ _ | refine bl_al ?_ _ | refine bl_dr ?_ | refine bl_up ?_ _ | refine Below.drew ?_ | refine bl_alloc ?_ _ | refine Below.setCell ?_ (by first | (simp; done) | (simp; omega)) _))⟩
            case measure => (simp [intOf]; try omega)
        · obtain rfl : k = l.length := by omega
          rw [List.take_of_length_le (Nat.le_refl _)] at hown
          go_wp2_with (first | ((with_reducible refine wp_region_up (by kernel_rfl) (by kernel_rfl) ?_); (repeat (go_big_quiet_step (fail))); refine wpQuiet_nil ?_; intro _ hw'; obtain ⟨nq, hw''⟩ := hw'; subst hw''))
          go_ret2
          rw [hf.out]
          exact ⟨A', c', rfl, own_mono (own_below hown (by repeat (first | exact Below.refl _ _ | refine bl_tr ?_ _ | refine bl_al ?_ _ | refine bl_dr ?_ | refine bl_up ?_ _ | refine Below.drew ?_ | refine bl_alloc ?_ _ | refine Below.setCell ?_ (by first | (simp; done) | (simp; omega)) _))) HU.out.below.size, HU.out.tr (by repeat (first | exact Below.refl _ _ | refine bl_tr ?_ _ | refine bl_al ?_ _ | refine bl_dr ?_ | refine bl_up ?_ _ | refine Below.drew ?_ | refine bl_alloc ?_ _ | refine Below.setCell ?_ (by first | (simp; done) | (simp; omega)) _))⟩
  · have hf := Lib.hid (vaR_1 (what := what) h1)
    have z := code_ne h1
    go_enter Tryd.func32, Tryd.ntmps32
    go_wp2_with (first | (go_at_call 63; refine (wholeI_no s _ hs (HT.out.below (by repeat (first | exact Below.refl _ _ | refine bl_tr ?_ _ | refine bl_al ?_ _ | refine bl_dr ?_ | refine bl_up ?_ _ | refine Below.drew ?_ | refine bl_alloc ?_ _ | refine Below.setCell ?_ (by first | (simp; done) | (simp; omega)) _))) h1).mono ?_; rintro e w' ⟨rfl, g, rfl⟩) | ((with_reducible refine wp_region_up (by kernel_rfl) (by kernel_rfl) ?_); (repeat (go_big_quiet_step (first | (go_at_call 63; first | exact upq_tr (wholeI_no s _ hs (HT.out.below (by repeat (first | exact Below.refl _ _ | refine bl_tr ?_ _ | refine bl_al ?_ _ | refine bl_dr ?_ | refine bl_up ?_ _ | refine Below.drew ?_ | refine bl_alloc ?_ _ | refine Below.setCell ?_ (by first | (simp; done) | (simp; omega)) _))) h1) | exact upq (wholeI_no s _ hs (HT.out.below (by repeat (first | exact Below.refl _ _ | refine bl_tr ?_ _ | refine bl_al ?_ _ | refine bl_dr ?_ | refine bl_up ?_ _ | refine Below.drew ?_ | refine bl_alloc ?_ _ | refine Below.setCell ?_ (by first | (simp; done) | (simp; omega)) _))) h1))))); refine wpQuiet_nil ?_; intro _ hw'; obtain ⟨nq, hw''⟩ := hw'; subst hw''))
    go_ret2
    rw [hf.out]
    exact ⟨none, 0, rfl, ⟨rfl, .inl ⟨rfl, rfl⟩⟩, UpOf.of (by repeat (first | exact Below.refl _ _ | refine bl_tr ?_ _ | refine bl_al ?_ _ | refine bl_dr ?_ | refine bl_up ?_ _ | refine Below.drew ?_ | refine bl_alloc ?_ _ | refine Below.setCell ?_ (by first | (simp; done) | (simp; omega)) _))⟩
def whC (s what : ByteArray) : Int := if codeL s = 0 then (if nameB what = true then 0 else 2) else codeL s
theorem whC_1 {s what : ByteArray} (h : ¬ codeL s = 0) : whC s what = codeL s := by rw [whC, if_neg h]
theorem whC_2 {s what : ByteArray} (h : codeL s = 0) (h2 : nameB what = false) : whC s what = 2 := by rw [whC, if_pos h, if_neg (by rw [h2]; simp)]
set_option maxRecDepth 10000 in
theorem whatS_no (s what : ByteArray) (w : World) (hs : s.size ≤ 1048576) (hs2 : what.size ≤ 9223372036854775807) (h : ¬ codeL s = 0 ∨ nameB what = false) :
    Calls Tryd.prog 61 #[.string s, .string what] w fun e w' => ∃ p, e = .returned (.tuple #[.pointer p, i64 (whC s what)]) ∧ UpOf w w' := by
  by_cases h1 : codeL s = 0
  · have h2 : nameB what = false := h.resolve_left (fun hn => hn h1)
    have hf := Lib.hid (whC_2 h1 h2)
    clear h
    go_enter Tryd.func61, Tryd.ntmps61
    go_wp2_with fail
    refine (codeS_ok s _ h1).mono ?_
    rintro e V ⟨rb, rfl, hl, hup⟩
    have HU := Lib.hid hup
    clear hup hl
    go_wp2_with (first | (go_at_call 71; refine (ret_as (isNameS_any _ _ hs2) h2).mono ?_; rintro e w' ⟨rfl, rfl⟩) | ((with_reducible refine wp_region_up (by kernel_rfl) (by kernel_rfl) ?_); (repeat (go_big_quiet_step (first | (go_at_call 71; first | exact upq_tr_same (ret_as (isNameS_any _ _ hs2) h2) | exact upq_same (ret_as (isNameS_any _ _ hs2) h2))))); refine wpQuiet_nil ?_; intro _ hw'; obtain ⟨nq, hw''⟩ := hw'; subst hw''))
    go_ret2
    exact ⟨_, by rw [hf.out] <;> rfl, HU.out.tr (by repeat (first | exact Below.refl _ _ | refine bl_tr ?_ _ | refine bl_al ?_ _ | refine bl_dr ?_ | refine bl_up ?_ _ | refine Below.drew ?_ | refine bl_alloc ?_ _ | refine Below.setCell ?_ (by first | (simp; done) | (simp; omega)) _))⟩
  · have hf := Lib.hid (whC_1 (what := what) h1)
    have z : ((codeL s) == 0) = false := by rw [beq_eq_false_iff_ne]; exact h1
    clear h
    go_enter Tryd.func61, Tryd.ntmps61
    go_wp2_with fail
    refine (codeS_no s _ hs h1).mono ?_
    rintro e V ⟨p, rfl, hup⟩
    have HU := Lib.hid hup
    clear hup
    go_wp2_with (first | ((with_reducible refine wp_region_up (by kernel_rfl) (by kernel_rfl) ?_); (repeat (go_big_quiet_step (fail))); refine wpQuiet_nil ?_; intro _ hw'; obtain ⟨nq, hw''⟩ := hw'; subst hw''))
    go_ret2
    exact ⟨_, by rw [hf.out] <;> rfl, HU.out.tr (by repeat (first | exact Below.refl _ _ | refine bl_tr ?_ _ | refine bl_al ?_ _ | refine bl_dr ?_ | refine bl_up ?_ _ | refine Below.drew ?_ | refine bl_alloc ?_ _ | refine Below.setCell ?_ (by first | (simp; done) | (simp; omega)) _))⟩
set_option maxRecDepth 10000 in
theorem whatS_ok (s what : ByteArray) (w : World) (hs2 : what.size ≤ 9223372036854775807) (h1 : codeL s = 0) (h2 : nameB what = true) :
    Calls Tryd.prog 61 #[.string s, .string what] w fun e w' => ∃ rb, e = .returned (.tuple #[.pointer (some ⟨rb, 0, none⟩), i64 0]) ∧ LS w.heap.size w' rb s (entsL s) (logR s).2.1 s.size ∧ UpOf w w' := by
  go_enter Tryd.func61, Tryd.ntmps61
  go_wp2_with fail
  refine (codeS_ok s _ h1).mono ?_
  rintro e V ⟨rb, rfl, hl, hup⟩
  have HU := Lib.hid hup
  have HL := Lib.hid hl
  clear hup hl
  go_wp2_with (first | (go_at_call 71; refine (ret_as (isNameS_any _ _ hs2) h2).mono ?_; rintro e w' ⟨rfl, rfl⟩) | ((with_reducible refine wp_region_up (by kernel_rfl) (by kernel_rfl) ?_); (repeat (go_big_quiet_step (first | (go_at_call 71; first | exact upq_tr_same (ret_as (isNameS_any _ _ hs2) h2) | exact upq_same (ret_as (isNameS_any _ _ hs2) h2))))); refine wpQuiet_nil ?_; intro _ hw'; obtain ⟨nq, hw''⟩ := hw'; subst hw''))
  go_ret2
  exact ⟨rb, rfl, HL.out.below (by repeat (first | exact Below.refl _ _ | refine bl_tr ?_ _ | refine bl_al ?_ _ | refine bl_dr ?_ | refine bl_up ?_ _ | refine Below.drew ?_ | refine bl_alloc ?_ _ | refine Below.setCell ?_ (by first | (simp; done) | (simp; omega)) _)), HU.out.tr (by repeat (first | exact Below.refl _ _ | refine bl_tr ?_ _ | refine bl_al ?_ _ | refine bl_dr ?_ | refine bl_up ?_ _ | refine Below.drew ?_ | refine bl_alloc ?_ _ | refine Below.setCell ?_ (by first | (simp; done) | (simp; omega)) _))⟩
set_option maxRecDepth 10000 in
set_option maxHeartbeats 1000000 in
theorem valuesOfS_any (s what : ByteArray) (w : World) (hs : s.size ≤ 1048576) (hs2 : what.size ≤ 9223372036854775807) :
    Calls Tryd.prog 36 #[.string s, .string what] w fun e w' => ∃ A' c', e = .returned (.tuple #[.slice A' (vaR s what).1.length c', i64 (vaR s what).2]) ∧ w'.ownsRow w.heap.size 2 1 (.slice A' (vaR s what).1.length c') (vaR s what).1.length (ics (vaR s what).1) ∧ UpOf w w' := by
  by_cases h : codeL s = 0 ∧ nameB what = true
  · obtain ⟨h1, h2⟩ := h
    have hf := Lib.hid (vaR_0 h1 h2)
    go_enter Tryd.func36, Tryd.ntmps36
    go_wp2_with fail
    refine (whatS_ok s what _ hs2 h1 h2).mono ?_
    rintro e V ⟨rb, rfl, hl, hup⟩
    obtain ⟨A, c, hc, hrb, hown⟩ := hl.list
    have HO := Lib.hid (Rds.of_own hown)
    have HU := Lib.hid hup
    clear hl hown hup
    go_wp2_with (first | ((with_reducible refine wp_region_up (by kernel_rfl) (by kernel_rfl) ?_); (repeat (go_big_quiet_step (fail))); refine wpQuiet_nil ?_; intro _ hw'; obtain ⟨nq, hw''⟩ := hw'; subst hw''))
    have hl4 := entsL_len h1
    generalize entsL s = l at *
    have hOwn := Lib.hid (World.ownsRow_lit (base := V.heap.size) (e := 2) (size := 1) V #[] 0 (Nat.le_refl _) (by unfold maxLen; omega) rfl)
    go_loopw [8, 9] (fun o i wr => ∃ (k : Nat) (A' : Option Addr) (c' : Nat), k ≤ l.length ∧ i = i64 k ∧ o = .slice A' (vals what (l.take k)).length c' ∧ wr.ownsRow V.heap.size 2 1 (.slice A' (vals what (l.take k)).length c') (vals what (l.take k)).length (ics (vals what (l.take k))) ∧ ∃ g : Up V, wr = up V g) (fun _ i _ => l.length - (intOf i).toNat)
    case atStart => exact ⟨0, _, _, by omega, rfl, rfl, hOwn.out, ex_up (by repeat (first | exact Below.refl _ _ | refine bl_tr ?_ _ | refine bl_al ?_ _ | refine bl_dr ?_ | refine bl_up ?_ _ | refine Below.drew ?_ | refine bl_alloc ?_ _ | refine Below.setCell ?_ (by first | (simp; done) | (simp; omega)) _))⟩
    case round =>
      obtain ⟨k, A', c', hk, rfl, rfl, hown, g, rfl⟩ := hrel
      have hvl := Nat.le_trans (vals_len what (l.take k)) (by rw [List.length_take]; exact Nat.min_le_left _ _)
      by_cases hlt : k < l.length
      · obtain ⟨b, off, rfl, hb, x0, x1, x2⟩ := en_at HO.out hlt
        by_cases q : l[k].what = what
        · have qe := tl_teq q
          have hN := Lib.hid (vals_yes hlt q)
          clear q
          go_wp2_with (first | (at_builtin; go_must (refine wpl_appU rfl _ _ 50 rfl V V.heap.size 2 _ 1 8 el_int _ _ _ rfl (own_below hown (by repeat (first | exact Below.refl _ _ | refine bl_tr ?_ _ | refine bl_al ?_ _ | refine bl_dr ?_ | refine bl_up ?_ _ | refine Below.drew ?_ | refine bl_alloc ?_ _ | refine Below.setCell ?_ (by first | (simp; done) | (simp; omega)) _))) _ 1 1 [i64 l[k].value] rfl (rds_new _ _ _ 1 1 rfl) (fun u hu => by simp at hu; subst hu; rfl) (by unfold maxLen; omega) (by omega) (up_below V _).size (by repeat (first | exact Below.refl _ _ | refine bl_tr ?_ _ | refine bl_al ?_ _ | refine bl_dr ?_ | refine bl_up ?_ _ | refine Below.drew ?_ | refine bl_alloc ?_ _ | refine Below.setCell ?_ (by first | (simp; done) | (simp; omega)) _)) (Nat.le_refl _) ?_; intro A2 c2 g2 o2)) | ((with_reducible refine wp_region_up (by kernel_rfl) (by kernel_rfl) ?_); (repeat (go_big_quiet_step (fail))); refine wpQuiet_nil ?_; intro _ hw'; obtain ⟨nq, hw''⟩ := hw'; subst hw''))
          go_roundw
          case rel => exact ⟨k + 1, A2, c2, by omega, by go_num, by rw [hN.out, List.length_append]; rfl, by rw [hN.out, List.length_append, ics_app]; exact o2, _, rfl⟩
          case measure => (simp [intOf]; try omega)
        · have qe := tl_tne q
          have hN := Lib.hid (vals_not hlt q)
          clear q
          go_wp2_with (first | ((with_reducible refine wp_region_up (by kernel_rfl) (by kernel_rfl) ?_); (repeat (go_big_quiet_step (fail))); refine wpQuiet_nil ?_; intro _ hw'; obtain ⟨nq, hw''⟩ := hw'; subst hw''))
          go_roundw
          case rel => exact ⟨k + 1, A', c', by omega, by go_num, by rw [hN.out], by rw [hN.out]; exact own_below hown (by repeat (first | exact Below.refl _ _ | refine bl_tr ?_ _ | refine bl_al ?_ _ | refine bl_dr ?_ | refine bl_up ?_ _ | refine Below.drew ?_ | refine bl_alloc ?_ _ | refine Below.setCell ?_ (by first | (simp; done) | (simp; omega)) _)), ex_up (by repeat (first | exact Below.refl _ _ | refine bl_tr ?_ _ | refine bl_al ?_ _ | refine bl_dr ?_ | refine bl_up ?_ _ | refine Below.drew ?_ | refine bl_alloc ?_ _ | refine Below.setCell ?_ (by first | (simp; done) | (simp; omega)) _))⟩
          case measure => (simp [intOf]; try omega)
      · obtain rfl : k = l.length := by omega
        rw [List.take_of_length_le (Nat.le_refl _)] at hown
        go_wp2_with (first | ((with_reducible refine wp_region_up (by kernel_rfl) (by kernel_rfl) ?_); (repeat (go_big_quiet_step (fail))); refine wpQuiet_nil ?_; intro _ hw'; obtain ⟨nq, hw''⟩ := hw'; subst hw''))
        go_ret2
        rw [hf.out]
        exact ⟨A', c', rfl, own_mono (own_below hown (by repeat (first | exact Below.refl _ _ | refine bl_tr ?_ _ | refine bl_al ?_ _ | refine bl_dr ?_ | refine bl_up ?_ _ | refine Below.drew ?_ | refine bl_alloc ?_ _ | refine Below.setCell ?_ (by first | (simp; done) | (simp; omega)) _))) HU.out.below.size, HU.out.tr (by repeat (first | exact Below.refl _ _ | refine bl_tr ?_ _ | refine bl_al ?_ _ | refine bl_dr ?_ | refine bl_up ?_ _ | refine Below.drew ?_ | refine bl_alloc ?_ _ | refine Below.setCell ?_ (by first | (simp; done) | (simp; omega)) _))⟩
  · have hf := Lib.hid (show vaR s what = ([], whC s what) by
      by_cases h1 : codeL s = 0
      · have h2 : nameB what = false := by rw [← Bool.not_eq_true]; exact fun h2 => h ⟨h1, h2⟩
        rw [vaR_2 h1 h2, whC_2 h1 h2]
      · rw [vaR_1 h1, whC_1 h1])
    have z : ((whC s what) != 0) = true := by
      rw [bne_iff_ne]
      by_cases h1 : codeL s = 0
      · rw [whC_2 h1 (by rw [← Bool.not_eq_true]; exact fun h2 => h ⟨h1, h2⟩)]; decide
      · rw [whC_1 h1]; exact h1
    have h' : ¬ codeL s = 0 ∨ nameB what = false := by
      by_cases h1 : codeL s = 0
      · exact .inr (by rw [← Bool.not_eq_true]; exact fun h2 => h ⟨h1, h2⟩)
      · exact .inl h1
    clear h
    go_enter Tryd.func36, Tryd.ntmps36
    go_wp2_with fail
    refine (whatS_no s what _ hs hs2 h').mono ?_
    rintro e V ⟨p, rfl, hup⟩
    have HU := Lib.hid hup
    clear hup
    go_wp2_with (first | ((with_reducible refine wp_region_up (by kernel_rfl) (by kernel_rfl) ?_); (repeat (go_big_quiet_step (fail))); refine wpQuiet_nil ?_; intro _ hw'; obtain ⟨nq, hw''⟩ := hw'; subst hw''))
    go_ret2
    rw [hf.out]
    exact ⟨none, 0, rfl, ⟨rfl, .inl ⟨rfl, rfl⟩⟩, HU.out.tr (by repeat (first | exact Below.refl _ _ | refine bl_tr ?_ _ | refine bl_al ?_ _ | refine bl_dr ?_ | refine bl_up ?_ _ | refine Below.drew ?_ | refine bl_alloc ?_ _ | refine Below.setCell ?_ (by first | (simp; done) | (simp; omega)) _))⟩
end Go.Proofs.YtkjomkiajdjhpaaDoor

/-
  SumOfWhat, of the program and of the reference. The bounds stand at each; the program's leans on the laid table.
-/
import Derived.Test.YtkjomkiajdjhpaaDoorVals2
namespace Go.Proofs.YtkjomkiajdjhpaaDoor
open Go.RowKit
def sumW (what : ByteArray) (f t : Int) : List Entry → Int
  | [] => 0
  | x :: l => (if x.what = what ∧ btw x.day f t = true then x.value else 0) + sumW what f t l
theorem sumW_app (what : ByteArray) (f t : Int) : ∀ (a b : List Entry), sumW what f t (a ++ b) = sumW what f t a + sumW what f t b
  | [], b => by simp [sumW]
  | x :: a, b => by rw [List.cons_append, sumW, sumW, sumW_app what f t a b]; omega
theorem sumW_take {what : ByteArray} {f t : Int} {l : List Entry} {k : Nat} (h : k < l.length) : sumW what f t (l.take (k + 1)) = sumW what f t (l.take k) + (if l[k].what = what ∧ btw l[k].day f t = true then l[k].value else 0) := by
  rw [ents_take h, sumW_app, sumW, sumW]; simp
theorem sumW_bd (what : ByteArray) (f t : Int) : ∀ l : List Entry, (∀ x ∈ l, vEntry x = true) → -(1000000 * (l.length : Int)) ≤ sumW what f t l ∧ sumW what f t l ≤ 1000000 * (l.length : Int)
  | [], _ => by simp [sumW]
  | x :: l, h => by
    obtain ⟨_, _, _, h1, h2⟩ := vEntry_inv (h x (by simp))
    have ih := sumW_bd what f t l fun y hy => h y (by simp [hy])
    rw [sumW]
    simp only [List.length_cons]
    split <;> omega
def suB (what : ByteArray) (f t : Int) : Bool := nameB what && (btw f 0 100000 && btw t 0 100000)
def suR (s what : ByteArray) (f t : Int) : Int × Int := if codeL s = 0 then (if suB what f t = true then (sumW what f t (entsL s), 0) else (0, 2)) else (0, codeL s)
theorem suR_1 {s what : ByteArray} {f t : Int} (h : ¬ codeL s = 0) : suR s what f t = (0, codeL s) := by rw [suR, if_neg h]
theorem suR_2 {s what : ByteArray} {f t : Int} (h : codeL s = 0) (h2 : suB what f t = false) : suR s what f t = (0, 2) := by rw [suR, if_pos h, if_neg (by rw [h2]; simp)]
theorem suR_0 {s what : ByteArray} {f t : Int} (h : codeL s = 0) (h2 : suB what f t = true) : suR s what f t = (sumW what f t (entsL s), 0) := by rw [suR, if_pos h, if_pos h2]
set_option maxRecDepth 10000 in
set_option maxHeartbeats 1000000 in
theorem sumOfI_any (s what : ByteArray) (f t : Int) (w : World) (hs : s.size ≤ 1048576) (hs2 : what.size ≤ 9223372036854775807) (ht : Tab w) :
    Calls Tryd.prog 28 #[.string s, .string what, i64 f, i64 t] w fun e w' => e = .returned (.tuple #[i64 (suR s what f t).1, i64 (suR s what f t).2]) ∧ UpOf w w' := by
  have HT := Lib.hid ht
  clear ht
  by_cases h1 : codeL s = 0
  · cases h2 : nameB what
    · have hf := Lib.hid (suR_2 (f := f) (t := t) h1 (show suB what f t = false by rw [suB, h2]; rfl))
      go_enter Tryd.func28, Tryd.ntmps28
      go_wp2_with fail
      refine (wholeI_ok s _ (HT.out.below (by repeat (first | exact Below.refl _ _ | refine bl_tr ?_ _ | refine bl_al ?_ _ | refine bl_dr ?_ | refine bl_up ?_ _ | refine Below.drew ?_ | refine bl_alloc ?_ _ | refine Below.setCell ?_ (by first | (simp; done) | (simp; omega)) _))) h1).mono ?_
      rintro e V ⟨rb, rfl, hl, hup⟩
      obtain ⟨A, c, hc, hrb, hown⟩ := hl.list
      have HO := Lib.hid (Rds.of_own hown)
      have HU := Lib.hid hup
      clear hl hown hup
      go_wp2_with (first | (go_at_call 64; refine (ret_as (isNameI_any _ _ hs2) h2).mono ?_; rintro e w' ⟨rfl, rfl⟩) | ((with_reducible refine wp_region_up (by kernel_rfl) (by kernel_rfl) ?_); (repeat (go_big_quiet_step (first | (go_at_call 64; first | exact upq_tr_same (ret_as (isNameI_any _ _ hs2) h2) | exact upq_same (ret_as (isNameI_any _ _ hs2) h2))))); refine wpQuiet_nil ?_; intro _ hw'; obtain ⟨nq, hw''⟩ := hw'; subst hw''))
      go_ret2
      exact ⟨by rw [hf.out] <;> rfl, HU.out.tr (by repeat (first | exact Below.refl _ _ | refine bl_tr ?_ _ | refine bl_al ?_ _ | refine bl_dr ?_ | refine bl_up ?_ _ | refine Below.drew ?_ | refine bl_alloc ?_ _ | refine Below.setCell ?_ (by first | (simp; done) | (simp; omega)) _))⟩
    cases h3 : btw f 0 100000
    · have hf := Lib.hid (suR_2 (f := f) (t := t) h1 (show suB what f t = false by rw [suB, h3]; simp))
      go_enter Tryd.func28, Tryd.ntmps28
      go_wp2_with fail
      refine (wholeI_ok s _ (HT.out.below (by repeat (first | exact Below.refl _ _ | refine bl_tr ?_ _ | refine bl_al ?_ _ | refine bl_dr ?_ | refine bl_up ?_ _ | refine Below.drew ?_ | refine bl_alloc ?_ _ | refine Below.setCell ?_ (by first | (simp; done) | (simp; omega)) _))) h1).mono ?_
      rintro e V ⟨rb, rfl, hl, hup⟩
      obtain ⟨A, c, hc, hrb, hown⟩ := hl.list
      have HO := Lib.hid (Rds.of_own hown)
      have HU := Lib.hid hup
      clear hl hown hup
      go_wp2_with (first | (go_at_call 64; refine (ret_as (isNameI_any _ _ hs2) h2).mono ?_; rintro e w' ⟨rfl, rfl⟩) | (go_at_call 54; refine (ret_as (between_any _ _ _ _) h3).mono ?_; rintro e w' ⟨rfl, rfl⟩) | ((with_reducible refine wp_region_up (by kernel_rfl) (by kernel_rfl) ?_); (repeat (go_big_quiet_step (first | (go_at_call 64; first | exact upq_tr_same (ret_as (isNameI_any _ _ hs2) h2) | exact upq_same (ret_as (isNameI_any _ _ hs2) h2)) | (go_at_call 54; first | exact upq_tr_same (ret_as (between_any _ _ _ _) h3) | exact upq_same (ret_as (between_any _ _ _ _) h3))))); refine wpQuiet_nil ?_; intro _ hw'; obtain ⟨nq, hw''⟩ := hw'; subst hw''))
      go_ret2
      exact ⟨by rw [hf.out] <;> rfl, HU.out.tr (by repeat (first | exact Below.refl _ _ | refine bl_tr ?_ _ | refine bl_al ?_ _ | refine bl_dr ?_ | refine bl_up ?_ _ | refine Below.drew ?_ | refine bl_alloc ?_ _ | refine Below.setCell ?_ (by first | (simp; done) | (simp; omega)) _))⟩
    cases h4 : btw t 0 100000
    · have hf := Lib.hid (suR_2 (f := f) (t := t) h1 (show suB what f t = false by rw [suB, h4]; simp))
      go_enter Tryd.func28, Tryd.ntmps28
      go_wp2_with fail
      refine (wholeI_ok s _ (HT.out.below (by repeat (first | exact Below.refl _ _ | refine bl_tr ?_ _ | refine bl_al ?_ _ | refine bl_dr ?_ | refine bl_up ?_ _ | refine Below.drew ?_ | refine bl_alloc ?_ _ | refine Below.setCell ?_ (by first | (simp; done) | (simp; omega)) _))) h1).mono ?_
      rintro e V ⟨rb, rfl, hl, hup⟩
      obtain ⟨A, c, hc, hrb, hown⟩ := hl.list
      have HO := Lib.hid (Rds.of_own hown)
      have HU := Lib.hid hup
      clear hl hown hup
      go_wp2_with (first | (go_at_call 64; refine (ret_as (isNameI_any _ _ hs2) h2).mono ?_; rintro e w' ⟨rfl, rfl⟩) | (go_at_call 54; refine (between_any _ _ _ _).mono ?_; rintro e w' ⟨rfl, rfl⟩) | ((with_reducible refine wp_region_up (by kernel_rfl) (by kernel_rfl) ?_); (repeat (go_big_quiet_step (first | (go_at_call 64; first | exact upq_tr_same (ret_as (isNameI_any _ _ hs2) h2) | exact upq_same (ret_as (isNameI_any _ _ hs2) h2)) | (go_at_call 54; first | exact upq_tr_same (between_any _ _ _ _) | exact upq_same (between_any _ _ _ _))))); refine wpQuiet_nil ?_; intro _ hw'; obtain ⟨nq, hw''⟩ := hw'; subst hw''))
      go_ret2
      exact ⟨by rw [hf.out] <;> rfl, HU.out.tr (by repeat (first | exact Below.refl _ _ | refine bl_tr ?_ _ | refine bl_al ?_ _ | refine bl_dr ?_ | refine bl_up ?_ _ | refine Below.drew ?_ | refine bl_alloc ?_ _ | refine Below.setCell ?_ (by first | (simp; done) | (simp; omega)) _))⟩
    · have hf := Lib.hid (suR_0 (f := f) (t := t) h1 (show suB what f t = true by rw [suB, h2, h3, h4]; rfl))
      go_enter Tryd.func28, Tryd.ntmps28
      go_wp2_with fail
      refine (wholeI_ok s _ (HT.out.below (by repeat (first | exact Below.refl _ _ | refine bl_tr ?_ _ | refine bl_al ?_ _ | refine bl_dr ?_ | refine bl_up ?_ _ | refine Below.drew ?_ | refine bl_alloc ?_ _ | refine Below.setCell ?_ (by first | (simp; done) | (simp; omega)) _))) h1).mono ?_
      rintro e V ⟨rb, rfl, hl, hup⟩
      obtain ⟨A, c, hc, hrb, hown⟩ := hl.list
      have HO := Lib.hid (Rds.of_own hown)
      have HU := Lib.hid hup
      clear hl hown hup
      go_wp2_with (first | (go_at_call 64; refine (ret_as (isNameI_any _ _ hs2) h2).mono ?_; rintro e w' ⟨rfl, rfl⟩) | (go_at_call 54; refine (between_any _ _ _ _).mono ?_; rintro e w' ⟨rfl, rfl⟩) | ((with_reducible refine wp_region_up (by kernel_rfl) (by kernel_rfl) ?_); (repeat (go_big_quiet_step (first | (go_at_call 64; first | exact upq_tr_same (ret_as (isNameI_any _ _ hs2) h2) | exact upq_same (ret_as (isNameI_any _ _ hs2) h2)) | (go_at_call 54; first | exact upq_tr_same (between_any _ _ _ _) | exact upq_same (between_any _ _ _ _))))); refine wpQuiet_nil ?_; intro _ hw'; obtain ⟨nq, hw''⟩ := hw'; subst hw''))
      have hl4 := entsL_len h1
      have hval := Lib.hid (entsL_ok s)
      generalize entsL s = l at *
      go_loopw [12, 41] (fun o i wr => ∃ (k : Nat) (v : Int), k ≤ l.length ∧ i = i64 k ∧ o = i64 v ∧ Hid (sumW what f t (l.take k) = v) ∧ ∃ g : Up V, wr = up V g) (fun _ i _ => l.length - (intOf i).toNat)
      case atStart => exact ⟨0, 0, by omega, rfl, rfl, rfl, ex_up (by repeat (first | exact Below.refl _ _ | refine bl_tr ?_ _ | refine bl_al ?_ _ | refine bl_dr ?_ | refine bl_up ?_ _ | refine Below.drew ?_ | refine bl_alloc ?_ _ | refine Below.setCell ?_ (by first | (simp; done) | (simp; omega)) _))⟩
      case round =>
        obtain ⟨k, v, hk, rfl, rfl, hv, g, rfl⟩ := hrel
        have hvb := sumW_bd what f t (l.take k) (fun x hx => hval.out x (List.mem_of_mem_take hx))
        rw [hv.out, List.length_take, Nat.min_eq_left hk] at hvb
        by_cases hlt : k < l.length
        · obtain ⟨b, off, rfl, hb, x0, x1, x2⟩ := en_at HO.out hlt
          obtain ⟨_, _, _, y1, y2⟩ := vEntry_inv (hval.out l[k] (List.getElem_mem hlt))
          have hN := Lib.hid (sumW_take (what := what) (f := f) (t := t) hlt)
          by_cases q : l[k].what = what
          · have qe := tl_teq q
            cases qb : btw l[k].day f t
            · have hN2 := Lib.hid (show sumW what f t (l.take (k + 1)) = v by rw [hN.out, hv.out, if_neg (by rw [qb]; simp)]; omega)
              clear q hN
              go_wp2_with (first | (go_at_call 54; refine (ret_as (between_any _ _ _ _) qb).mono ?_; rintro e w' ⟨rfl, rfl⟩) | ((with_reducible refine wp_region_up (by kernel_rfl) (by kernel_rfl) ?_); (repeat (go_big_quiet_step (first | (go_at_call 54; first | exact upq_tr_same (ret_as (between_any _ _ _ _) qb) | exact upq_same (ret_as (between_any _ _ _ _) qb))))); refine wpQuiet_nil ?_; intro _ hw'; obtain ⟨nq, hw''⟩ := hw'; subst hw''))
              go_roundw
              case rel => exact ⟨k + 1, v, by omega, by go_num, rfl, hN2, ex_up (by repeat (first | exact Below.refl _ _ | refine bl_tr ?_ _ | refine bl_al ?_ _ | refine bl_dr ?_ | refine bl_up ?_ _ | refine Below.drew ?_ | refine bl_alloc ?_ _ | refine Below.setCell ?_ (by first | (simp; done) | (simp; omega)) _))⟩
              case measure => (simp [intOf]; try omega)
            · have hN2 := Lib.hid (show sumW what f t (l.take (k + 1)) = v + l[k].value by rw [hN.out, hv.out, if_pos ⟨q, qb⟩])
              clear q hN
              go_wp2_with (first | (go_at_call 54; refine (ret_as (between_any _ _ _ _) qb).mono ?_; rintro e w' ⟨rfl, rfl⟩) | ((with_reducible refine wp_region_up (by kernel_rfl) (by kernel_rfl) ?_); (repeat (go_big_quiet_step (first | (go_at_call 54; first | exact upq_tr_same (ret_as (between_any _ _ _ _) qb) | exact upq_same (ret_as (between_any _ _ _ _) qb))))); refine wpQuiet_nil ?_; intro _ hw'; obtain ⟨nq, hw''⟩ := hw'; subst hw''))
              go_roundw
              case rel => exact ⟨k + 1, v + l[k].value, by omega, by go_num, rfl, hN2, ex_up (by repeat (first | exact Below.refl _ _ | refine bl_tr ?_ _ | refine bl_al ?_ _ | refine bl_dr ?_ | refine bl_up ?_ _ | refine Below.drew ?_ | refine bl_alloc ?_ _ | refine Below.setCell ?_ (by first | (simp; done) | (simp; omega)) _))⟩
              case measure => (simp [intOf]; try omega)
          · have qe := tl_tne q
            have hN2 := Lib.hid (show sumW what f t (l.take (k + 1)) = v by rw [hN.out, hv.out, if_neg (fun h => q h.1)]; omega)
            clear q hN
            go_wp2_with (first | ((with_reducible refine wp_region_up (by kernel_rfl) (by kernel_rfl) ?_); (repeat (go_big_quiet_step (fail))); refine wpQuiet_nil ?_; intro _ hw'; obtain ⟨nq, hw''⟩ := hw'; subst hw''))
            go_roundw
            case rel => exact ⟨k + 1, v, by omega, by go_num, rfl, hN2, ex_up (by repeat (first | exact Below.refl _ _ | refine bl_tr ?_ _ | refine bl_al ?_ _ | refine bl_dr ?_ | refine bl_up ?_ _ | refine Below.drew ?_ | refine bl_alloc ?_ _ | refine Below.setCell ?_ (by first | (simp; done) | (simp; omega)) _))⟩
            case measure => (simp [intOf]; try omega)
        · obtain rfl : k = l.length := by omega
          have hv2 := hv.out
          rw [List.take_of_length_le (Nat.le_refl _)] at hv2
          have hf2 := Lib.hid hv2
          clear hv2 hv
          go_wp2_with (first | ((with_reducible refine wp_region_up (by kernel_rfl) (by kernel_rfl) ?_); (repeat (go_big_quiet_step (fail))); refine wpQuiet_nil ?_; intro _ hw'; obtain ⟨nq, hw''⟩ := hw'; subst hw''))
          go_ret2
          exact ⟨by rw [hf.out, hf2.out] <;> rfl, HU.out.tr (by repeat (first | exact Below.refl _ _ | refine bl_tr ?_ _ | refine bl_al ?_ _ | refine bl_dr ?_ | refine bl_up ?_ _ | refine Below.drew ?_ | refine bl_alloc ?_ _ | refine Below.setCell ?_ (by first | (simp; done) | (simp; omega)) _))⟩
  · have hf := Lib.hid (suR_1 (what := what) (f := f) (t := t) h1)
    have z := code_ne h1
    go_enter Tryd.func28, Tryd.ntmps28
    go_wp2_with (first | (go_at_call 63; refine (wholeI_no s _ hs (HT.out.below (by repeat (first | exact Below.refl _ _ | refine bl_tr ?_ _ | refine bl_al ?_ _ | refine bl_dr ?_ | refine bl_up ?_ _ | refine Below.drew ?_ | refine bl_alloc ?_ _ | refine Below.setCell ?_ (by first | (simp; done) | (simp; omega)) _))) h1).mono ?_; rintro e w' ⟨rfl, g, rfl⟩) | ((with_reducible refine wp_region_up (by kernel_rfl) (by kernel_rfl) ?_); (repeat (go_big_quiet_step (first | (go_at_call 63; first | exact upq_tr (wholeI_no s _ hs (HT.out.below (by repeat (first | exact Below.refl _ _ | refine bl_tr ?_ _ | refine bl_al ?_ _ | refine bl_dr ?_ | refine bl_up ?_ _ | refine Below.drew ?_ | refine bl_alloc ?_ _ | refine Below.setCell ?_ (by first | (simp; done) | (simp; omega)) _))) h1) | exact upq (wholeI_no s _ hs (HT.out.below (by repeat (first | exact Below.refl _ _ | refine bl_tr ?_ _ | refine bl_al ?_ _ | refine bl_dr ?_ | refine bl_up ?_ _ | refine Below.drew ?_ | refine bl_alloc ?_ _ | refine Below.setCell ?_ (by first | (simp; done) | (simp; omega)) _))) h1))))); refine wpQuiet_nil ?_; intro _ hw'; obtain ⟨nq, hw''⟩ := hw'; subst hw''))
    go_ret2
    exact ⟨by rw [hf.out] <;> rfl, UpOf.of (by repeat (first | exact Below.refl _ _ | refine bl_tr ?_ _ | refine bl_al ?_ _ | refine bl_dr ?_ | refine bl_up ?_ _ | refine Below.drew ?_ | refine bl_alloc ?_ _ | refine Below.setCell ?_ (by first | (simp; done) | (simp; omega)) _))⟩
set_option maxRecDepth 10000 in
set_option maxHeartbeats 1000000 in
theorem sumOfS_any (s what : ByteArray) (f t : Int) (w : World) (hs : s.size ≤ 1048576) (hs2 : what.size ≤ 9223372036854775807) :
    Calls Tryd.prog 27 #[.string s, .string what, i64 f, i64 t] w fun e w' => e = .returned (.tuple #[i64 (suR s what f t).1, i64 (suR s what f t).2]) ∧ UpOf w w' := by
  by_cases h : codeL s = 0 ∧ nameB what = true
  · obtain ⟨h1, h2⟩ := h
    cases h3 : btw f 0 100000
    · have hf := Lib.hid (suR_2 (f := f) (t := t) h1 (show suB what f t = false by rw [suB, h3]; simp))
      go_enter Tryd.func27, Tryd.ntmps27
      go_wp2_with fail
      refine (whatS_ok s what _ hs2 h1 h2).mono ?_
      rintro e V ⟨rb, rfl, hl, hup⟩
      obtain ⟨A, c, hc, hrb, hown⟩ := hl.list
      have HO := Lib.hid (Rds.of_own hown)
      have HU := Lib.hid hup
      clear hl hown hup
      go_wp2_with (first | (go_at_call 62; refine (ret_as (l27Day_any _ _) h3).mono ?_; rintro e w' ⟨rfl, rfl⟩) | ((with_reducible refine wp_region_up (by kernel_rfl) (by kernel_rfl) ?_); (repeat (go_big_quiet_step (first | (go_at_call 62; first | exact upq_tr_same (ret_as (l27Day_any _ _) h3) | exact upq_same (ret_as (l27Day_any _ _) h3))))); refine wpQuiet_nil ?_; intro _ hw'; obtain ⟨nq, hw''⟩ := hw'; subst hw''))
      go_ret2
      exact ⟨by rw [hf.out] <;> rfl, HU.out.tr (by repeat (first | exact Below.refl _ _ | refine bl_tr ?_ _ | refine bl_al ?_ _ | refine bl_dr ?_ | refine bl_up ?_ _ | refine Below.drew ?_ | refine bl_alloc ?_ _ | refine Below.setCell ?_ (by first | (simp; done) | (simp; omega)) _))⟩
    cases h4 : btw t 0 100000
    · have hf := Lib.hid (suR_2 (f := f) (t := t) h1 (show suB what f t = false by rw [suB, h4]; simp))
      go_enter Tryd.func27, Tryd.ntmps27
      go_wp2_with fail
      refine (whatS_ok s what _ hs2 h1 h2).mono ?_
      rintro e V ⟨rb, rfl, hl, hup⟩
      obtain ⟨A, c, hc, hrb, hown⟩ := hl.list
      have HO := Lib.hid (Rds.of_own hown)
      have HU := Lib.hid hup
      clear hl hown hup
      go_wp2_with (first | (go_at_call 62; refine (l27Day_any _ _).mono ?_; rintro e w' ⟨rfl, rfl⟩) | ((with_reducible refine wp_region_up (by kernel_rfl) (by kernel_rfl) ?_); (repeat (go_big_quiet_step (first | (go_at_call 62; first | exact upq_tr_same (l27Day_any _ _) | exact upq_same (l27Day_any _ _))))); refine wpQuiet_nil ?_; intro _ hw'; obtain ⟨nq, hw''⟩ := hw'; subst hw''))
      go_ret2
      exact ⟨by rw [hf.out] <;> rfl, HU.out.tr (by repeat (first | exact Below.refl _ _ | refine bl_tr ?_ _ | refine bl_al ?_ _ | refine bl_dr ?_ | refine bl_up ?_ _ | refine Below.drew ?_ | refine bl_alloc ?_ _ | refine Below.setCell ?_ (by first | (simp; done) | (simp; omega)) _))⟩
    · have hf := Lib.hid (suR_0 (f := f) (t := t) h1 (show suB what f t = true by rw [suB, h2, h3, h4]; rfl))
      go_enter Tryd.func27, Tryd.ntmps27
      go_wp2_with fail
      refine (whatS_ok s what _ hs2 h1 h2).mono ?_
      rintro e V ⟨rb, rfl, hl, hup⟩
      obtain ⟨A, c, hc, hrb, hown⟩ := hl.list
      have HO := Lib.hid (Rds.of_own hown)
      have HU := Lib.hid hup
      clear hl hown hup
      go_wp2_with (first | (go_at_call 62; refine (l27Day_any _ _).mono ?_; rintro e w' ⟨rfl, rfl⟩) | ((with_reducible refine wp_region_up (by kernel_rfl) (by kernel_rfl) ?_); (repeat (go_big_quiet_step (first | (go_at_call 62; first | exact upq_tr_same (l27Day_any _ _) | exact upq_same (l27Day_any _ _))))); refine wpQuiet_nil ?_; intro _ hw'; obtain ⟨nq, hw''⟩ := hw'; subst hw''))
      have hl4 := entsL_len h1
      have hval := Lib.hid (entsL_ok s)
      generalize entsL s = l at *
      go_loopw [12, 13] (fun o i wr => ∃ (k : Nat) (v : Int), k ≤ l.length ∧ i = i64 k ∧ o = i64 v ∧ Hid (sumW what f t (l.take k) = v) ∧ ∃ g : Up V, wr = up V g) (fun _ i _ => l.length - (intOf i).toNat)
      case atStart => exact ⟨0, 0, by omega, rfl, rfl, rfl, ex_up (by repeat (first | exact Below.refl _ _ | refine bl_tr ?_ _ | refine bl_al ?_ _ | refine bl_dr ?_ | refine bl_up ?_ _ | refine Below.drew ?_ | refine bl_alloc ?_ _ | refine Below.setCell ?_ (by first | (simp; done) | (simp; omega)) _))⟩
      case round =>
        obtain ⟨k, v, hk, rfl, rfl, hv, g, rfl⟩ := hrel
        have hvb := sumW_bd what f t (l.take k) (fun x hx => hval.out x (List.mem_of_mem_take hx))
        rw [hv.out, List.length_take, Nat.min_eq_left hk] at hvb
        by_cases hlt : k < l.length
        · obtain ⟨b, off, rfl, hb, x0, x1, x2⟩ := en_at HO.out hlt
          obtain ⟨_, _, _, y1, y2⟩ := vEntry_inv (hval.out l[k] (List.getElem_mem hlt))
          have hN := Lib.hid (sumW_take (what := what) (f := f) (t := t) hlt)
          by_cases q : l[k].what = what
          · have qe := tl_teq q
            cases qb : btw l[k].day f t
            · have hN2 := Lib.hid (show sumW what f t (l.take (k + 1)) = v by rw [hN.out, hv.out, if_neg (by rw [qb]; simp)]; omega)
              clear q hN
              go_wp2_with (first | (go_at_call 50; refine (ret_as (in_any _ _ _ _) qb).mono ?_; rintro e w' ⟨rfl, rfl⟩) | ((with_reducible refine wp_region_up (by kernel_rfl) (by kernel_rfl) ?_); (repeat (go_big_quiet_step (first | (go_at_call 50; first | exact upq_tr_same (ret_as (in_any _ _ _ _) qb) | exact upq_same (ret_as (in_any _ _ _ _) qb))))); refine wpQuiet_nil ?_; intro _ hw'; obtain ⟨nq, hw''⟩ := hw'; subst hw''))
              go_roundw
              case rel => exact ⟨k + 1, v, by omega, by go_num, rfl, hN2, ex_up (by repeat (first | exact Below.refl _ _ | refine bl_tr ?_ _ | refine bl_al ?_ _ | refine bl_dr ?_ | refine bl_up ?_ _ | refine Below.drew ?_ | refine bl_alloc ?_ _ | refine Below.setCell ?_ (by first | (simp; done) | (simp; omega)) _))⟩
              case measure => (simp [intOf]; try omega)
            · have hN2 := Lib.hid (show sumW what f t (l.take (k + 1)) = v + l[k].value by rw [hN.out, hv.out, if_pos ⟨q, qb⟩])
              clear q hN
              go_wp2_with (first | (go_at_call 50; refine (ret_as (in_any _ _ _ _) qb).mono ?_; rintro e w' ⟨rfl, rfl⟩) | ((with_reducible refine wp_region_up (by kernel_rfl) (by kernel_rfl) ?_); (repeat (go_big_quiet_step (first | (go_at_call 50; first | exact upq_tr_same (ret_as (in_any _ _ _ _) qb) | exact upq_same (ret_as (in_any _ _ _ _) qb))))); refine wpQuiet_nil ?_; intro _ hw'; obtain ⟨nq, hw''⟩ := hw'; subst hw''))
              go_roundw
              case rel => exact ⟨k + 1, v + l[k].value, by omega, by go_num, rfl, hN2, ex_up (by repeat (first | exact Below.refl _ _ | refine bl_tr ?_ _ | refine bl_al ?_ _ | refine bl_dr ?_ | refine bl_up ?_ _ | refine Below.drew ?_ | refine bl_alloc ?_ _ | refine Below.setCell ?_ (by first | (simp; done) | (simp; omega)) _))⟩
              case measure => (simp [intOf]; try omega)
          · have qe := tl_tne q
            have hN2 := Lib.hid (show sumW what f t (l.take (k + 1)) = v by rw [hN.out, hv.out, if_neg (fun h => q h.1)]; omega)
            clear q hN
            go_wp2_with (first | ((with_reducible refine wp_region_up (by kernel_rfl) (by kernel_rfl) ?_); (repeat (go_big_quiet_step (fail))); refine wpQuiet_nil ?_; intro _ hw'; obtain ⟨nq, hw''⟩ := hw'; subst hw''))
            go_roundw
            case rel => exact ⟨k + 1, v, by omega, by go_num, rfl, hN2, ex_up (by repeat (first | exact Below.refl _ _ | refine bl_tr ?_ _ | refine bl_al ?_ _ | refine bl_dr ?_ | refine bl_up ?_ _ | refine Below.drew ?_ | refine bl_alloc ?_ _ | refine Below.setCell ?_ (by first | (simp; done) | (simp; omega)) _))⟩
            case measure => (simp [intOf]; try omega)
        · obtain rfl : k = l.length := by omega
          have hv2 := hv.out
          rw [List.take_of_length_le (Nat.le_refl _)] at hv2
          have hf2 := Lib.hid hv2
          clear hv2 hv
          go_wp2_with (first | ((with_reducible refine wp_region_up (by kernel_rfl) (by kernel_rfl) ?_); (repeat (go_big_quiet_step (fail))); refine wpQuiet_nil ?_; intro _ hw'; obtain ⟨nq, hw''⟩ := hw'; subst hw''))
          go_ret2
          exact ⟨by rw [hf.out, hf2.out] <;> rfl, HU.out.tr (by repeat (first | exact Below.refl _ _ | refine bl_tr ?_ _ | refine bl_al ?_ _ | refine bl_dr ?_ | refine bl_up ?_ _ | refine Below.drew ?_ | refine bl_alloc ?_ _ | refine Below.setCell ?_ (by first | (simp; done) | (simp; omega)) _))⟩
  · have hz := show whC s what ≠ 0 by
      by_cases h1 : codeL s = 0
      · rw [whC_2 h1 (by rw [← Bool.not_eq_true]; exact fun h2 => h ⟨h1, h2⟩)]; decide
      · rw [whC_1 h1]; exact h1
    have hf := Lib.hid (show suR s what f t = (0, whC s what) by
      by_cases h1 : codeL s = 0
      · have h2 : nameB what = false := by rw [← Bool.not_eq_true]; exact fun h2 => h ⟨h1, h2⟩
        rw [suR_2 h1 (by rw [suB, h2]; rfl), whC_2 h1 h2]
      · rw [suR_1 h1, whC_1 h1])
    have z : ((whC s what) != 0) = true := by rw [bne_iff_ne]; exact hz
    have z0 : ((whC s what) == 0) = false := by rw [beq_eq_false_iff_ne]; exact hz
    have h' : ¬ codeL s = 0 ∨ nameB what = false := by
      by_cases h1 : codeL s = 0
      · exact .inr (by rw [← Bool.not_eq_true]; exact fun h2 => h ⟨h1, h2⟩)
      · exact .inl h1
    clear h hz
    go_enter Tryd.func27, Tryd.ntmps27
    go_wp2_with fail
    refine (whatS_no s what _ hs hs2 h').mono ?_
    rintro e V ⟨p, rfl, hup⟩
    have HU := Lib.hid hup
    clear hup
    go_wp2_with (first | ((with_reducible refine wp_region_up (by kernel_rfl) (by kernel_rfl) ?_); (repeat (go_big_quiet_step (fail))); refine wpQuiet_nil ?_; intro _ hw'; obtain ⟨nq, hw''⟩ := hw'; subst hw''))
    go_ret2
    exact ⟨by rw [hf.out] <;> rfl, HU.out.tr (by repeat (first | exact Below.refl _ _ | refine bl_tr ?_ _ | refine bl_al ?_ _ | refine bl_dr ?_ | refine bl_up ?_ _ | refine Below.drew ?_ | refine bl_alloc ?_ _ | refine Below.setCell ?_ (by first | (simp; done) | (simp; omega)) _))⟩
end Go.Proofs.YtkjomkiajdjhpaaDoor

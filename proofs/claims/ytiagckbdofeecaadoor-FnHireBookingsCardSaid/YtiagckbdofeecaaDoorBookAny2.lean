/-
  BookAny of the program.
-/
import Derived.Test.YtiagckbdofeecaaDoorBookAny
namespace Go.Proofs.YtiagckbdofeecaaDoor
open Go.RowKit
theorem stp_yes {l : List Hire} {f m : Int} {s : Int × Int} (h : s.2 < bk l m f) : stp l f s m = (m, bk l m f) := by rw [stp, if_pos h]
theorem stp_no {l : List Hire} {f m : Int} {s : Int × Int} (h : ¬ s.2 < bk l m f) : stp l f s m = s := by rw [stp, if_neg h]
set_option maxRecDepth 10000 in
set_option maxHeartbeats 2000000 in
theorem anyI_any (b off c : Nat) (l : List Hire) (n f t : Int) (w : World) (h : Rds w 3 (some ⟨b, off, none⟩) l.length (hcs l)) (hn : l.length ≤ 100000000) (hcap : l.length ≤ c) :
    Calls Tryd.prog 14 #[.slice (some ⟨b, off, none⟩) l.length c, i64 n, i64 f, i64 t] w fun e w' => ∃ A' c', e = .returned (.tuple #[.slice A' (anyR l n f t).1.length c', i64 (anyR l n f t).2.1, i64 (anyR l n f t).2.2]) ∧ w'.ownsRow w.heap.size 25 3 (.slice A' (anyR l n f t).1.length c') (anyR l n f t).1.length (hcs (anyR l n f t).1) ∧ UpOf w w' := by
  obtain ⟨L, cd, hL⟩ : ∃ L cd, fmR l n f t = (L, cd) := ⟨_, _, rfl⟩
  have hLn := fmR_len hL
  have HL := Lib.hid hL
  go_enter Tryd.func14, Tryd.ntmps14
  go_wp2_with fail
  refine (freeMachI' hL _ _ _ h hn hcap).mono ?_
  rintro e w' ⟨A1, c1, rfl, o, g0, rfl⟩
  have hA := h.up g0
  have hLr := Rds.of_own o
  have hB := up_below w g0
  clear h o hL
  revert hA hLr hB
  generalize up w g0 = W
  intro hA hLr hB
  have HB := Lib.hid hB
  clear hB
  cases h1 : vHires l n
  · have hR := Lib.hid (show anyR l n f t = ([], 0, 1) by rw [anyR, if_neg (by simp [h1])])
    obtain ⟨rfl, rfl⟩ : [] = L ∧ 1 = cd := by have := HL.out; rw [fmR, if_neg (by simp [h1])] at this; simpa using this
    go_wp2_with fail
    go_ret3
    rw [hR.out]
    exact ⟨none, 0, rfl, ⟨rfl, .inl ⟨rfl, rfl⟩⟩, UpOf.of HB.out⟩
  cases b1 : days f t
  · have hR := Lib.hid (show anyR l n f t = ([], 0, 2) by rw [anyR, if_pos h1, if_neg (by simp [b1])])
    obtain ⟨rfl, rfl⟩ : [] = L ∧ 2 = cd := by have := HL.out; rw [fmR, if_pos h1, if_neg (by simp [b1])] at this; simpa using this
    go_wp2_with fail
    go_ret3
    rw [hR.out]
    exact ⟨none, 0, rfl, ⟨rfl, .inl ⟨rfl, rfl⟩⟩, UpOf.of HB.out⟩
  obtain ⟨n1, n2⟩ := vHires_nn h1
  obtain ⟨N, rfl⟩ : ∃ N : Nat, n = N := ⟨n.toNat, by omega⟩
  have hf := Lib.hid (show 0 ≤ f ∧ f < t ∧ t ≤ 3650 by simpa [days] using b1)
  obtain ⟨f1, f2, f3⟩ := hf.out
  have hl60 := vHires_len60 h1
  have HV := Lib.hid h1
  have HS := Lib.hid (fun i j => vHires_sort (i := i) (j := j) h1)
  have HR := Lib.hid (show anyR l N f t = if bst l f t N < 0 then ([], 0, 3) else if l.length < 60 then (insAt l (insN l (anyX l N f t)) (anyX l N f t), bst l f t N, 0) else ([], 0, 5) by rw [anyR, if_pos h1, if_pos b1]; rfl)
  have hE : fL l f t N = L ∧ 0 = cd := by have := HL.out; rw [fmR, if_pos h1, if_pos b1] at this; simpa using this
  obtain ⟨hE, rfl⟩ := hE
  have HST := Lib.hid (bst_st h1 f t N)
  have HM := Lib.hid (fL_bd l f t N)
  have hbb := Lib.hid (bst_bd l f t N)
  rw [hE] at HST HM
  clear h1 b1 HL hE
  by_cases hz : L.length = 0
  · obtain rfl := List.eq_nil_of_length_eq_zero hz
    have hR := Lib.hid (show anyR l N f t = ([], 0, 3) by
      rw [HR.out, if_pos]
      rcases HST.out with h | h
      · omega
      · exact absurd rfl h.1)
    clear hz
    go_wp2_with fail
    go_ret3
    rw [hR.out]
    exact ⟨none, 0, rfl, ⟨rfl, .inl ⟨rfl, rfl⟩⟩, UpOf.of HB.out⟩
  have hz1 : ((L.length : Int) == 0) = false := by simp; exact fun h => hz (by simp [h])
  have hne := Lib.hid (show bst l f t N < 0 → False from fun h => by
    rcases HST.out with h' | h'
    · exact hz (by simp [h'.1])
    · omega)
  have hs := Lib.hid (show stL l f L = (bst l f t N, bk l (bst l f t N) f) by
    rcases HST.out with h' | h'
    · exact absurd (by simp [h'.1]) hz
    · exact h'.2.2)
  clear hz HST
  by_cases q4 : l.length < 60
  · have q5 : ((l.length : Int) == 60) = false := by simp; omega
    have hR := Lib.hid (show anyR l N f t = (insAt l (insN l (anyX l N f t)) (anyX l N f t), bst l f t N, 0) by rw [HR.out, if_neg hne.out, if_pos q4])
    have hk := Lib.hid (show insN l (anyX l N f t) ≤ l.length from (List.takeWhile_prefix _).length_le)
    go_wp2_with fail
    go_loopw [13, 14, 39] (fun b lt i wr => ∃ j : Nat, j ≤ L.length ∧ i = i64 j ∧ b = i64 (stL l f (L.take j)).1 ∧ lt = i64 (stL l f (L.take j)).2 ∧ ∃ g : Up W, wr = up W g) (fun _ _ i _ => L.length - (intOf i).toNat)
    case atStart => exact ⟨0, by omega, rfl, rfl, rfl, ex_up (by repeat (first | exact Below.refl _ _ | refine bl_tr ?_ _ | refine bl_al ?_ _ | refine bl_dr ?_ | refine bl_up ?_ _ | refine Below.drew ?_ | refine bl_alloc ?_ _ | refine Below.setCell ?_ (by first | (simp; done) | (simp; omega)) _))⟩
    case round =>
      obtain ⟨j, hj, rfl, rfl, rfl, g, rfl⟩ := hrel
      obtain ⟨⟨s1, s2⟩, s3, s4⟩ := stL_bd HV.out f (L.take j) (fun m hm => by have := HM.out m (List.mem_of_mem_take hm); omega)
      by_cases hlt : j < L.length
      · obtain ⟨b1, off1, rfl, hb1, d0⟩ := int_at hLr rfl hlt
        have hm := HM.out L[j] (List.getElem_mem hlt)
        have hstep := Lib.hid (stL_step (l := l) (f := f) hlt)
        have hbk := bkN_bd HV.out L[j] f l.length (Nat.le_refl _)
        change 0 ≤ bk l L[j] f ∧ bk l L[j] f ≤ 3650 at hbk
        generalize L[j] = m at *
        generalize stL l f (L.take j) = st at *
        go_wp2_with fail
        go_loopw [17, 45] (fun b i wr => ∃ k : Nat, k ≤ l.length ∧ i = i64 k ∧ b = i64 (bkN l m f k) ∧ ∃ g : Up W, wr = up W g) (fun _ i _ => l.length - (intOf i).toNat)
        case atStart => exact ⟨0, by omega, rfl, rfl, ex_up (by repeat (first | exact Below.refl _ _ | refine bl_tr ?_ _ | refine bl_al ?_ _ | refine bl_dr ?_ | refine bl_up ?_ _ | refine Below.drew ?_ | refine bl_alloc ?_ _ | refine Below.setCell ?_ (by first | (simp; done) | (simp; omega)) _))⟩
        case round =>
          obtain ⟨k, hk, rfl, rfl, g', rfl⟩ := hrel
          have hc := bkN_bd HV.out m f k hk
          by_cases hlt2 : k < l.length
          · obtain ⟨b2, off2, e2, hb2, ha⟩ := hire_at' hA hlt2
            injection e2 with e2
            injection e2 with e3 e4
            subst e3 e4
            obtain ⟨_, c0, c1, c2⟩ := ha k hlt2
            by_cases q1 : (hat l k).m = m
            · have q1' : ((hat l k).m == m) = true := by simpa using q1
              by_cases q2 : (hat l k).t ≤ f
              · have hN := Lib.hid (bkN_yes q1 q2)
                clear q1
                go_wp2_with (first | ((with_reducible refine wp_region_up (by kernel_rfl) (by kernel_rfl) ?_); (repeat (go_big_quiet_step (fail))); refine wpQuiet_nil ?_; intro _ hw'; obtain ⟨nq, hw''⟩ := hw'; subst hw''))
                go_roundw
                case rel => exact ⟨k + 1, by omega, by go_num, by rw [hN.out]; exact ret_v (by split <;> omega), ex_up (by repeat (first | exact Below.refl _ _ | refine bl_tr ?_ _ | refine bl_al ?_ _ | refine bl_dr ?_ | refine bl_up ?_ _ | refine Below.drew ?_ | refine bl_alloc ?_ _ | refine Below.setCell ?_ (by first | (simp; done) | (simp; omega)) _))⟩
                case measure => (simp [intOf]; try omega)
              · have hN := Lib.hid (bkN_no2 (m := m) (show f < (hat l k).t by omega))
                clear q1
                go_wp2_with (first | ((with_reducible refine wp_region_up (by kernel_rfl) (by kernel_rfl) ?_); (repeat (go_big_quiet_step (fail))); refine wpQuiet_nil ?_; intro _ hw'; obtain ⟨nq, hw''⟩ := hw'; subst hw''))
                go_roundw
                case rel => exact ⟨k + 1, by omega, by go_num, by rw [hN.out], ex_up (by repeat (first | exact Below.refl _ _ | refine bl_tr ?_ _ | refine bl_al ?_ _ | refine bl_dr ?_ | refine bl_up ?_ _ | refine Below.drew ?_ | refine bl_alloc ?_ _ | refine Below.setCell ?_ (by first | (simp; done) | (simp; omega)) _))⟩
                case measure => (simp [intOf]; try omega)
            · have q1' : ((hat l k).m == m) = false := by simpa using q1
              have hN := Lib.hid (bkN_no1 (d := f) q1)
              clear q1
              go_wp2_with (first | ((with_reducible refine wp_region_up (by kernel_rfl) (by kernel_rfl) ?_); (repeat (go_big_quiet_step (fail))); refine wpQuiet_nil ?_; intro _ hw'; obtain ⟨nq, hw''⟩ := hw'; subst hw''))
              go_roundw
              case rel => exact ⟨k + 1, by omega, by go_num, by rw [hN.out], ex_up (by repeat (first | exact Below.refl _ _ | refine bl_tr ?_ _ | refine bl_al ?_ _ | refine bl_dr ?_ | refine bl_up ?_ _ | refine Below.drew ?_ | refine bl_alloc ?_ _ | refine Below.setCell ?_ (by first | (simp; done) | (simp; omega)) _))⟩
              case measure => (simp [intOf]; try omega)
          · obtain rfl : k = l.length := by omega
            by_cases q3 : st.2 < bkN l m f l.length
            · have hN := Lib.hid (stp_yes (l := l) (f := f) (m := m) (s := st) q3)
              go_wp2_with (first | ((with_reducible refine wp_region_up (by kernel_rfl) (by kernel_rfl) ?_); (repeat (go_big_quiet_step (fail))); refine wpQuiet_nil ?_; intro _ hw'; obtain ⟨nq, hw''⟩ := hw'; subst hw''))
              go_roundw
              case rel => exact ⟨j + 1, by omega, by go_num, by rw [hstep.out, hN.out], by rw [hstep.out, hN.out]; rfl, ex_up (by repeat (first | exact Below.refl _ _ | refine bl_tr ?_ _ | refine bl_al ?_ _ | refine bl_dr ?_ | refine bl_up ?_ _ | refine Below.drew ?_ | refine bl_alloc ?_ _ | refine Below.setCell ?_ (by first | (simp; done) | (simp; omega)) _))⟩
              case measure => (simp [intOf]; try omega)
            · have hN := Lib.hid (stp_no (l := l) (f := f) (m := m) (s := st) q3)
              have q3' : bkN l m f l.length ≤ st.2 := by omega
              go_wp2_with (first | ((with_reducible refine wp_region_up (by kernel_rfl) (by kernel_rfl) ?_); (repeat (go_big_quiet_step (fail))); refine wpQuiet_nil ?_; intro _ hw'; obtain ⟨nq, hw''⟩ := hw'; subst hw''))
              go_roundw
              case rel => exact ⟨j + 1, by omega, by go_num, by rw [hstep.out, hN.out], by rw [hstep.out, hN.out], ex_up (by repeat (first | exact Below.refl _ _ | refine bl_tr ?_ _ | refine bl_al ?_ _ | refine bl_dr ?_ | refine bl_up ?_ _ | refine Below.drew ?_ | refine bl_alloc ?_ _ | refine Below.setCell ?_ (by first | (simp; done) | (simp; omega)) _))⟩
              case measure => (simp [intOf]; try omega)
      · obtain rfl : j = L.length := by omega
        have hs1 : (stL l f (L.take L.length)).1 = bst l f t N := by rw [List.take_length, hs.out]
        clear s1 s2 s3 s4
        generalize (stL l f (L.take L.length)).1 = qb at hs1 ⊢
        subst hs1
        go_wp2_with (first | ((with_reducible refine wp_region_up (by kernel_rfl) (by kernel_rfl) ?_); (repeat (go_big_quiet_step (fail))); refine wpQuiet_nil ?_; intro _ hw'; obtain ⟨nq, hw''⟩ := hw'; subst hw''))
        refine (withHire_any _ _ _ _ (anyX l N f t) _ (hA.below (by repeat (first | exact Below.refl _ _ | refine bl_tr ?_ _ | refine bl_al ?_ _ | refine bl_dr ?_ | refine bl_up ?_ _ | refine Below.drew ?_ | refine bl_alloc ?_ _ | refine Below.setCell ?_ (by first | (simp; done) | (simp; omega)) _))) hn hcap).mono ?_
        rintro e w' ⟨A', c', rfl, o, g9, rfl⟩
        go_wp2_with fail
        go_ret3
        rw [hR.out]
        exact ⟨_, _, by rw [insAt_len _ _ _ hk.out]; rfl, by rw [insAt_len _ _ _ hk.out]; exact own_mono o (Nat.le_trans HB.out.size (up_below _ _).size), UpOf.of (HB.out.trans ((up_below W _).mono HB.out.size))⟩
  · have hR := Lib.hid (show anyR l N f t = ([], 0, 5) by rw [HR.out, if_neg hne.out, if_neg q4])
    have q5 : ((l.length : Int) == 60) = true := by simp; omega
    clear q4
    go_wp2_with fail
    go_ret3
    rw [hR.out]
    exact ⟨none, 0, rfl, ⟨rfl, .inl ⟨rfl, rfl⟩⟩, UpOf.of HB.out⟩
end Go.Proofs.YtiagckbdofeecaaDoor

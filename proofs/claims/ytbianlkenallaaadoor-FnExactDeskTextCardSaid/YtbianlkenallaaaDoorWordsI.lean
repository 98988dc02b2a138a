/-
  The program's SplitWords answers the parts of a text without blanks. The bounds stand at it.
-/
import Derived.Test.YtbianlkenallaaaDoorSplitP
import Derived.Test.YtbianlkenallaaaDoorStrs0
import Derived.Test.YtbianlkenallaaaDoorSplitS
import Derived.Deep.DeepMust
namespace Go.Proofs.YtbianlkenallaaaDoor
open Go.RowKit
def curW (L : List UInt8) (k : Nat) : Option Nat → List UInt8
  | none => []
  | some f => (L.drop f).take (k - f)
def stW : Option Nat → Value
  | none => i64 (-1)
  | some f => i64 f
set_option maxRecDepth 10000 in
set_option maxHeartbeats 1000000 in
theorem splitWords_any (s : ByteArray) (w : World) (hs : s.size ≤ 1000000000) :
    Calls Tryd.prog 68 #[.string s] w fun e w' => ∃ A c, e = .returned (.slice A (wordsA [] s.data.toList).length c) ∧ w'.ownsRow w.heap.size 9 1 (.slice A (wordsA [] s.data.toList).length c) (wordsA [] s.data.toList).length (strs (wordsA [] s.data.toList)) ∧ UpOf w w' := by
  have hOwn := Lib.hid (World.ownsRow_lit (base := w.heap.size) (e := 9) (size := 1) w #[] 0 (Nat.le_refl _) (by unfold maxLen; omega) rfl)
  obtain ⟨L, hL⟩ : ∃ L, s.data.toList = L := ⟨_, rfl⟩
  have hLn := Lib.hid (show L.length = s.size by rw [← hL]; rfl)
  have HL := Lib.hid hL
  rw [hL]
  clear hL
  obtain ⟨R, hR⟩ : ∃ R, wordsA [] L = R := ⟨_, rfl⟩
  have HR := Lib.hid hR
  rw [hR]
  clear hR
  go_enter Tryd.func68, Tryd.ntmps68
  go_wp2_with (first | ((with_reducible refine wp_region_up (by kernel_rfl) (by kernel_rfl) ?_); (repeat (go_big_quiet_step (fail))); refine wpQuiet_nil ?_; intro _ hw'; obtain ⟨nq, hw''⟩ := hw'; subst hw''))
  go_loopw [3, 4, 9] (fun o f i wr => ∃ (k : Nat) (st : Option Nat) (ws : List ByteArray) (A : Option Addr) (c : Nat), k ≤ s.size ∧ Hid (∀ f, st = some f → f < k) ∧ ws.length ≤ k ∧ i = i64 k ∧ f = stW st ∧ o = .slice A ws.length c ∧ Hid (wordsA [] L = ws ++ wordsA (curW L k st) (L.drop k)) ∧ wr.ownsRow w.heap.size 9 1 (.slice A ws.length c) ws.length (strs ws) ∧ ∃ g : Up w, wr = up w g) (fun _ _ i _ => s.size - (intOf i).toNat)
  case atStart => exact ⟨0, none, [], _, _, by omega, (by intro f hf; cases hf), Nat.le_refl _, rfl, rfl, rfl, by show _ = _; simp [curW], hOwn.out, ex_up (by repeat (first | exact Below.refl _ _ | refine bl_tr ?_ _ | refine bl_al ?_ _ | refine bl_dr ?_ | refine bl_up ?_ _ | refine Below.drew ?_ | refine bl_alloc ?_ _ | refine Below.setCell ?_ (by first | (simp; done) | (simp; omega)) _))⟩
  case round =>
    obtain ⟨k, st, ws, A, c, hk, hst, hwl, rfl, rfl, rfl, hsp, hown, g, rfl⟩ := hrel
    by_cases hlt : k < s.size
    · have hbt := Lib.hid (show s[k] = L.getD k 0 by rw [byteAt_eq hlt, byteAt, HL.out])
      have hkl : k < L.length := by rw [hLn.out]; exact hlt
      have hdr := Lib.hid (drop_at hkl)
      by_cases q : (s[k].toNat : Int) = 32
      · have qe : ((s[k].toNat : Int) == 32) = true := by rw [beq_iff_eq]; exact q
        have hcb : s[k] = 32 := by
          have : s[k].toNat = (32 : UInt8).toNat := by simp; omega
          exact UInt8.toNat_inj.1 this
        cases st with
        | none =>
          have hsp2 := Lib.hid (show wordsA [] L = ws ++ wordsA (curW L (k + 1) none) (L.drop (k + 1)) by
            rw [hsp.out, hdr.out, ← hbt.out, hcb]; simp [curW, wordsA])
          clear q hcb hkl
          unfold stW
          go_wp2_with (first | ((with_reducible refine wp_region_up (by kernel_rfl) (by kernel_rfl) ?_); (repeat (go_big_quiet_step (fail))); refine wpQuiet_nil ?_; intro _ hw'; obtain ⟨nq, hw''⟩ := hw'; subst hw''))
          go_roundw
          case rel => exact ⟨k + 1, none, ws, A, c, by omega, (by intro f hf; cases hf), by omega, by go_num, rfl, rfl, hsp2, hown, ex_up (by repeat (first | exact Below.refl _ _ | refine bl_tr ?_ _ | refine bl_al ?_ _ | refine bl_dr ?_ | refine bl_up ?_ _ | refine Below.drew ?_ | refine bl_alloc ?_ _ | refine Below.setCell ?_ (by first | (simp; done) | (simp; omega)) _))⟩
          case measure => (simp [intOf]; try omega)
        | some fr =>
          have hfr := hst.out fr rfl
          have hfr' := Nat.le_of_lt hfr
          have hcne : curW L k (some fr) ≠ [] := by
            intro he
            have := congrArg List.length he
            simp [curW] at this
            omega
          have hsp2 := Lib.hid (show wordsA [] L = (ws ++ [s.extract fr k]) ++ wordsA (curW L (k + 1) none) (L.drop (k + 1)) by
            rw [hsp.out, hdr.out, ← hbt.out, hcb, wordsA, if_pos rfl, if_neg hcne, bs_extract, HL.out]; simp [curW])
          clear q hcb hkl hcne
          unfold stW
          go_wp2_with (first | (at_builtin; go_must (refine wpl_appU rfl _ _ 97 rfl w w.heap.size 9 _ 1 16 el_str (.slice A ws.length c) ws.length (strs ws) rfl (own_below hown (by repeat (first | exact Below.refl _ _ | refine bl_tr ?_ _ | refine bl_al ?_ _ | refine bl_dr ?_ | refine bl_up ?_ _ | refine Below.drew ?_ | refine bl_alloc ?_ _ | refine Below.setCell ?_ (by first | (simp; done) | (simp; omega)) _))) _ 1 1 [.string (s.extract fr k)] rfl (rds_new _ _ _ 1 1 rfl) (fun u hu => by simp at hu; subst hu; rfl) (by unfold maxLen; omega) (by omega) (up_below w _).size (by repeat (first | exact Below.refl _ _ | refine bl_tr ?_ _ | refine bl_al ?_ _ | refine bl_dr ?_ | refine bl_up ?_ _ | refine Below.drew ?_ | refine bl_alloc ?_ _ | refine Below.setCell ?_ (by first | (simp; done) | (simp; omega)) _)) (Nat.le_refl _) ?_; intro A2 c2 g2 o2)) | ((with_reducible refine wp_region_up (by kernel_rfl) (by kernel_rfl) ?_); (repeat (go_big_quiet_step (fail))); refine wpQuiet_nil ?_; intro _ hw'; obtain ⟨nq, hw''⟩ := hw'; subst hw''))
          go_roundw
          case rel => exact ⟨k + 1, none, ws ++ [s.extract fr k], A2, c2, by omega, (by intro f hf; cases hf), by simp; omega, by go_num, rfl, by simp, hsp2, by rw [List.length_append, strs_app]; exact o2, _, rfl⟩
          case measure => (simp [intOf]; try omega)
      · have qe : ((s[k].toNat : Int) == 32) = false := by rw [beq_eq_false_iff_ne]; exact q
        have qn : ((s[k].toNat : Int) != 32) = true := by rw [bne_iff_ne]; exact q
        have hne : ¬ s[k] = 32 := fun he => q (by rw [he]; rfl)
        cases st with
        | none =>
          have hsp2 := Lib.hid (show wordsA [] L = ws ++ wordsA (curW L (k + 1) (some k)) (L.drop (k + 1)) by
            have e2 := cur_snoc hkl (Nat.le_refl k)
            rw [hsp.out, hdr.out, wordsA, if_neg (by rw [← hbt.out]; exact hne)]
            show ws ++ wordsA ([] ++ [L.getD k 0]) _ = ws ++ wordsA ((L.drop k).take (k + 1 - k)) _
            rw [e2]; simp)
          clear q hne hkl
          unfold stW
          go_wp2_with (first | ((with_reducible refine wp_region_up (by kernel_rfl) (by kernel_rfl) ?_); (repeat (go_big_quiet_step (fail))); refine wpQuiet_nil ?_; intro _ hw'; obtain ⟨nq, hw''⟩ := hw'; subst hw''))
          go_roundw
          case rel => exact ⟨k + 1, some k, ws, A, c, by omega, (by intro f hf; injection hf; omega), by omega, by go_num, rfl, rfl, hsp2, hown, ex_up (by repeat (first | exact Below.refl _ _ | refine bl_tr ?_ _ | refine bl_al ?_ _ | refine bl_dr ?_ | refine bl_up ?_ _ | refine Below.drew ?_ | refine bl_alloc ?_ _ | refine Below.setCell ?_ (by first | (simp; done) | (simp; omega)) _))⟩
          case measure => (simp [intOf]; try omega)
        | some fr =>
          have hfr := hst.out fr rfl
          have hfr' := Nat.le_of_lt hfr
          have hsp2 := Lib.hid (show wordsA [] L = ws ++ wordsA (curW L (k + 1) (some fr)) (L.drop (k + 1)) by
            have e2 := cur_snoc hkl (Nat.le_of_lt hfr)
            rw [hsp.out, hdr.out, wordsA, if_neg (by rw [← hbt.out]; exact hne)]
            show ws ++ wordsA ((L.drop fr).take (k - fr) ++ [L.getD k 0]) _ = ws ++ wordsA ((L.drop fr).take (k + 1 - fr)) _
            rw [e2])
          clear q hne hkl
          unfold stW
          go_wp2_with (first | ((with_reducible refine wp_region_up (by kernel_rfl) (by kernel_rfl) ?_); (repeat (go_big_quiet_step (fail))); refine wpQuiet_nil ?_; intro _ hw'; obtain ⟨nq, hw''⟩ := hw'; subst hw''))
          go_roundw
          case rel => exact ⟨k + 1, some fr, ws, A, c, by omega, (by intro f hf; injection hf; omega), by omega, by go_num, rfl, rfl, hsp2, hown, ex_up (by repeat (first | exact Below.refl _ _ | refine bl_tr ?_ _ | refine bl_al ?_ _ | refine bl_dr ?_ | refine bl_up ?_ _ | refine Below.drew ?_ | refine bl_alloc ?_ _ | refine Below.setCell ?_ (by first | (simp; done) | (simp; omega)) _))⟩
          case measure => (simp [intOf]; try omega)
    · obtain rfl : k = s.size := by omega
      have e0 : L.drop s.size = [] := List.drop_eq_nil_of_le (by rw [hLn.out]; exact Nat.le_refl _)
      cases st with
      | none =>
        have hsp2 := Lib.hid (show R = ws by rw [← HR.out, hsp.out, e0]; simp [curW, wordsA])
        clear e0
        unfold stW
        go_wp2_with (first | ((with_reducible refine wp_region_up (by kernel_rfl) (by kernel_rfl) ?_); (repeat (go_big_quiet_step (fail))); refine wpQuiet_nil ?_; intro _ hw'; obtain ⟨nq, hw''⟩ := hw'; subst hw''))
        go_ret
        rw [hsp2.out]
        exact ⟨A, c, rfl, own_below hown (by repeat (first | exact Below.refl _ _ | refine bl_tr ?_ _ | refine bl_al ?_ _ | refine bl_dr ?_ | refine bl_up ?_ _ | refine Below.drew ?_ | refine bl_alloc ?_ _ | refine Below.setCell ?_ (by first | (simp; done) | (simp; omega)) _)), UpOf.of (by repeat (first | exact Below.refl _ _ | refine bl_tr ?_ _ | refine bl_al ?_ _ | refine bl_dr ?_ | refine bl_up ?_ _ | refine Below.drew ?_ | refine bl_alloc ?_ _ | refine Below.setCell ?_ (by first | (simp; done) | (simp; omega)) _))⟩
      | some fr =>
        have hfr := hst.out fr rfl
        have hfr' := Nat.le_of_lt hfr
        have hcne : curW L s.size (some fr) ≠ [] := by
          intro he
          have := congrArg List.length he
          simp [curW, hLn.out] at this
          omega
        have hsp2 := Lib.hid (show R = ws ++ [s.extract fr s.size] by
          rw [← HR.out, hsp.out, e0, wordsA, if_neg hcne, bs_extract, HL.out]; rfl)
        clear e0 hcne
        unfold stW
        go_wp2_with (first | (at_builtin; go_must (refine wpl_appU rfl _ _ 97 rfl w w.heap.size 9 _ 1 16 el_str (.slice A ws.length c) ws.length (strs ws) rfl (own_below hown (by repeat (first | exact Below.refl _ _ | refine bl_tr ?_ _ | refine bl_al ?_ _ | refine bl_dr ?_ | refine bl_up ?_ _ | refine Below.drew ?_ | refine bl_alloc ?_ _ | refine Below.setCell ?_ (by first | (simp; done) | (simp; omega)) _))) _ 1 1 [.string (s.extract fr s.size)] rfl (rds_new _ _ _ 1 1 rfl) (fun u hu => by simp at hu; subst hu; rfl) (by unfold maxLen; omega) (by omega) (up_below w _).size (by repeat (first | exact Below.refl _ _ | refine bl_tr ?_ _ | refine bl_al ?_ _ | refine bl_dr ?_ | refine bl_up ?_ _ | refine Below.drew ?_ | refine bl_alloc ?_ _ | refine Below.setCell ?_ (by first | (simp; done) | (simp; omega)) _)) (Nat.le_refl _) ?_; intro A2 c2 g2 o2)) | ((with_reducible refine wp_region_up (by kernel_rfl) (by kernel_rfl) ?_); (repeat (go_big_quiet_step (fail))); refine wpQuiet_nil ?_; intro _ hw'; obtain ⟨nq, hw''⟩ := hw'; subst hw''))
        go_ret
        rw [hsp2.out, List.length_append, strs_app]
        exact ⟨A2, c2, rfl, o2, UpOf.of (by repeat (first | exact Below.refl _ _ | refine bl_tr ?_ _ | refine bl_al ?_ _ | refine bl_dr ?_ | refine bl_up ?_ _ | refine Below.drew ?_ | refine bl_alloc ?_ _ | refine Below.setCell ?_ (by first | (simp; done) | (simp; omega)) _))⟩
end Go.Proofs.YtbianlkenallaaaDoor

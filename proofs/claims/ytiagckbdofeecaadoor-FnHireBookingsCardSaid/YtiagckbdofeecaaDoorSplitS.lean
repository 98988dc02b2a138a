/-
  The reference's l01Split answers the parts of a text between bytes. The bounds stand at it.
-/
import Derived.Test.YtiagckbdofeecaaDoorSplitP
import Derived.Test.YtiagckbdofeecaaDoorStrs0
import Derived.Deep.DeepMust
namespace Go.Proofs.YtiagckbdofeecaaDoor
open Go.RowKit
theorem drop_at {l : List UInt8} {k : Nat} (h : k < l.length) : l.drop k = l.getD k 0 :: l.drop (k + 1) := by
  rw [List.drop_eq_getElem_cons h]
  simp [h]
theorem cur_snoc {l : List UInt8} {f k : Nat} (h : k < l.length) (hf : f ≤ k) : (l.drop f).take (k + 1 - f) = (l.drop f).take (k - f) ++ [l.getD k 0] := by
  rw [show k + 1 - f = (k - f) + 1 by omega, List.take_add_one, List.getElem?_drop, show f + (k - f) = k by omega, List.getElem?_eq_getElem h]
  simp [h]
theorem cur_all {l : List UInt8} {f k : Nat} (h : k = l.length) : (l.drop f).take (k - f) = l.drop f := List.take_of_length_le (by rw [List.length_drop]; omega)
set_option maxRecDepth 10000 in
set_option maxHeartbeats 1000000 in
theorem l01Split_any (s : ByteArray) (b : UInt8) (x : Int) (hx : (b.toNat : Int) = x) (w : World) (hs : s.size ≤ 1000000000) :
    Calls Tryd.prog 37 #[.string s, .int .u8 x] w fun e w' => ∃ A c, e = .returned (.slice A (splitA b [] s.data.toList).length c) ∧ w'.ownsRow w.heap.size 9 1 (.slice A (splitA b [] s.data.toList).length c) (splitA b [] s.data.toList).length (strs (splitA b [] s.data.toList)) ∧ UpOf w w' := by
  have hOwn := Lib.hid (World.ownsRow_lit (base := w.heap.size) (e := 9) (size := 1) w #[] 0 (Nat.le_refl _) (by unfold maxLen; omega) rfl)
  obtain ⟨L, hL⟩ : ∃ L, s.data.toList = L := ⟨_, rfl⟩
  have hLn := Lib.hid (show L.length = s.size by rw [← hL]; rfl)
  have HL := Lib.hid hL
  rw [hL]
  clear hL
  obtain ⟨R, hR⟩ : ∃ R, splitA b [] L = R := ⟨_, rfl⟩
  have HR := Lib.hid hR
  rw [hR]
  clear hR
  go_enter Tryd.func37, Tryd.ntmps37
  go_wp2_with (first | ((with_reducible refine wp_region_up (by kernel_rfl) (by kernel_rfl) ?_); (repeat (go_big_quiet_step (fail))); refine wpQuiet_nil ?_; intro _ hw'; obtain ⟨nq, hw''⟩ := hw'; subst hw''))
  go_loopw [5, 6, 7] (fun o f i wr => ∃ (k fr : Nat) (ws : List ByteArray) (A : Option Addr) (c : Nat), k ≤ s.size ∧ fr ≤ k ∧ ws.length ≤ k ∧ i = i64 k ∧ f = i64 fr ∧ o = .slice A ws.length c ∧ Hid (splitA b [] L = ws ++ splitA b ((L.drop fr).take (k - fr)) (L.drop k)) ∧ wr.ownsRow w.heap.size 9 1 (.slice A ws.length c) ws.length (strs ws) ∧ ∃ g : Up w, wr = up w g) (fun _ _ i _ => s.size - (intOf i).toNat)
  case atStart => exact ⟨0, 0, [], _, _, by omega, by omega, Nat.le_refl _, rfl, rfl, rfl, by show _ = _; simp, hOwn.out, ex_up (by repeat (first | exact Below.refl _ _ | refine bl_tr ?_ _ | refine bl_al ?_ _ | refine bl_dr ?_ | refine bl_up ?_ _ | refine Below.drew ?_ | refine bl_alloc ?_ _ | refine Below.setCell ?_ (by first | (simp; done) | (simp; omega)) _))⟩
  case round =>
    obtain ⟨k, fr, ws, A, c, hk, hfr, hwl, rfl, rfl, rfl, hsp, hown, g, rfl⟩ := hrel
    by_cases hlt : k < s.size
    · have hbt := Lib.hid (show s[k] = L.getD k 0 by rw [byteAt_eq hlt, byteAt, HL.out])
      have hkl : k < L.length := by rw [hLn.out]; exact hlt
      have hdr := Lib.hid (drop_at hkl)
      by_cases q : (s[k].toNat : Int) = x
      · have qe : ((s[k].toNat : Int) == x) = true := by rw [beq_iff_eq]; exact q
        have hcb : s[k] = b := by
          have : s[k].toNat = b.toNat := by omega
          exact UInt8.toNat_inj.1 this
        have hsp2 := Lib.hid (show splitA b [] L = (ws ++ [s.extract fr k]) ++ splitA b ((L.drop (k + 1)).take (k + 1 - (k + 1))) (L.drop (k + 1)) by
          rw [hsp.out, hdr.out, ← hbt.out, hcb, splitA_hit, bs_extract, HL.out]; simp)
        clear q hcb hkl
        go_wp2_with (first | (at_builtin; go_must (refine wpl_appU rfl _ _ 60 rfl w w.heap.size 9 _ 1 16 el_str (.slice A ws.length c) ws.length (strs ws) rfl (own_below hown (by repeat (first | exact Below.refl _ _ | refine bl_tr ?_ _ | refine bl_al ?_ _ | refine bl_dr ?_ | refine bl_up ?_ _ | refine Below.drew ?_ | refine bl_alloc ?_ _ | refine Below.setCell ?_ (by first | (simp; done) | (simp; omega)) _))) _ 1 1 [.string (s.extract fr k)] rfl (rds_new _ _ _ 1 1 rfl) (fun u hu => by simp at hu; subst hu; rfl) (by unfold maxLen; omega) (by omega) (up_below w _).size (by repeat (first | exact Below.refl _ _ | refine bl_tr ?_ _ | refine bl_al ?_ _ | refine bl_dr ?_ | refine bl_up ?_ _ | refine Below.drew ?_ | refine bl_alloc ?_ _ | refine Below.setCell ?_ (by first | (simp; done) | (simp; omega)) _)) (Nat.le_refl _) ?_; intro A2 c2 g2 o2)) | ((with_reducible refine wp_region_up (by kernel_rfl) (by kernel_rfl) ?_); (repeat (go_big_quiet_step (fail))); refine wpQuiet_nil ?_; intro _ hw'; obtain ⟨nq, hw''⟩ := hw'; subst hw''))
        go_roundw
        case rel => exact ⟨k + 1, k + 1, ws ++ [s.extract fr k], A2, c2, by omega, by omega, by simp; omega, by go_num, by go_num, by simp, hsp2, by rw [List.length_append, strs_app]; exact o2, _, rfl⟩
        case measure => (simp [intOf]; try omega)
      · have qe : ((s[k].toNat : Int) == x) = false := by rw [beq_eq_false_iff_ne]; exact q
        have hsp2 := Lib.hid (show splitA b [] L = ws ++ splitA b ((L.drop fr).take (k + 1 - fr)) (L.drop (k + 1)) by
          rw [hsp.out, hdr.out, cur_snoc hkl hfr, splitA, if_neg (by rw [← hbt.out]; intro he; exact q (by rw [he]; exact hx))])
        clear q hkl
        go_wp2_with (first | ((with_reducible refine wp_region_up (by kernel_rfl) (by kernel_rfl) ?_); (repeat (go_big_quiet_step (fail))); refine wpQuiet_nil ?_; intro _ hw'; obtain ⟨nq, hw''⟩ := hw'; subst hw''))
        go_roundw
        case rel => exact ⟨k + 1, fr, ws, A, c, by omega, by omega, by omega, by go_num, rfl, rfl, hsp2, hown, ex_up (by repeat (first | exact Below.refl _ _ | refine bl_tr ?_ _ | refine bl_al ?_ _ | refine bl_dr ?_ | refine bl_up ?_ _ | refine Below.drew ?_ | refine bl_alloc ?_ _ | refine Below.setCell ?_ (by first | (simp; done) | (simp; omega)) _))⟩
        case measure => (simp [intOf]; try omega)
    · obtain rfl : k = s.size := by omega
      have e0 : L.drop s.size = [] := List.drop_eq_nil_of_le (by rw [hLn.out]; exact Nat.le_refl _)
      have hsp2 := Lib.hid (show R = ws ++ [s.extract fr s.size] by
        rw [← HR.out, hsp.out, e0, splitA, bs_extract, HL.out])
      clear e0
      go_wp2_with (first | (at_builtin; go_must (refine wpl_appU rfl _ _ 60 rfl w w.heap.size 9 _ 1 16 el_str (.slice A ws.length c) ws.length (strs ws) rfl (own_below hown (by repeat (first | exact Below.refl _ _ | refine bl_tr ?_ _ | refine bl_al ?_ _ | refine bl_dr ?_ | refine bl_up ?_ _ | refine Below.drew ?_ | refine bl_alloc ?_ _ | refine Below.setCell ?_ (by first | (simp; done) | (simp; omega)) _))) _ 1 1 [.string (s.extract fr s.size)] rfl (rds_new _ _ _ 1 1 rfl) (fun u hu => by simp at hu; subst hu; rfl) (by unfold maxLen; omega) (by omega) (up_below w _).size (by repeat (first | exact Below.refl _ _ | refine bl_tr ?_ _ | refine bl_al ?_ _ | refine bl_dr ?_ | refine bl_up ?_ _ | refine Below.drew ?_ | refine bl_alloc ?_ _ | refine Below.setCell ?_ (by first | (simp; done) | (simp; omega)) _)) (Nat.le_refl _) ?_; intro A2 c2 g2 o2)) | ((with_reducible refine wp_region_up (by kernel_rfl) (by kernel_rfl) ?_); (repeat (go_big_quiet_step (fail))); refine wpQuiet_nil ?_; intro _ hw'; obtain ⟨nq, hw''⟩ := hw'; subst hw''))
      go_ret
      rw [hsp2.out, List.length_append, strs_app]
      exact ⟨A2, c2, rfl, o2, UpOf.of (by repeat (first | exact Below.refl _ _ | refine bl_tr ?_ _ | refine bl_al ?_ _ | refine bl_dr ?_ | refine bl_up ?_ _ | refine Below.drew ?_ | refine bl_alloc ?_ _ | refine Below.setCell ?_ (by first | (simp; done) | (simp; omega)) _))⟩
end Go.Proofs.YtiagckbdofeecaaDoor

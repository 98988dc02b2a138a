/-
  Decimal forms: the reference's l01Dec writes what strconv writes. The bounds stand at it.
-/
import Derived.Test.YtiagckbdofeecaaDoorDecP
import Derived.Test.YtiagckbdofeecaaDoorStrApp
import Derived.Deep.DeepMust
namespace Go.Proofs.YtiagckbdofeecaaDoor
open Go.RowKit
theorem dig_val (u : Nat) : [Value.int .u8 (48 + (u : Int) % 10)] = Lib.byteCells [UInt8.ofNat (48 + u % 10)] := by
  simp [Lib.byteCells]
  omega
theorem dig_val0 {u : Nat} (h : (u : Int) % 10 = 0) : [Value.int .u8 48] = Lib.byteCells [UInt8.ofNat (48 + u % 10)] := by
  have : u % 10 = 0 := by omega
  rw [this]
  rfl
theorem byteCells_snoc (a b : List UInt8) : Lib.byteCells a ++ Lib.byteCells b = Lib.byteCells (a ++ b) := by simp [Lib.byteCells]
set_option maxRecDepth 10000 in
set_option maxHeartbeats 2000000 in
theorem l01Dec_any (n : Int) (w : World) (h0 : -9223372036854775808 ≤ n) (h1 : n ≤ 9223372036854775807) :
    Calls Tryd.prog 64 #[i64 n] w fun e w' => e = .returned (.string (dec n)) ∧ UpOf w w' := by
  have hOwn := Lib.hid (World.ownsRow_lit (base := w.heap.size) (e := 5) (size := 1) w #[] 0 (Nat.le_refl _) (by unfold maxLen; omega) rfl)
  rcases Int.lt_or_le n 0 with hn | hn
  · obtain ⟨N, rfl⟩ : ∃ N : Nat, n = -(N : Int) := ⟨n.natAbs, by omega⟩
    have hN0 : 0 < N := by omega
    have hD := Lib.hid (dec_neg hN0)
    go_enter Tryd.func64, Tryd.ntmps64
    go_wp2_with (first | ((with_reducible refine wp_region_up (by kernel_rfl) (by kernel_rfl) ?_); (repeat (go_big_quiet_step (fail))); refine wpQuiet_nil ?_; intro _ hw'; obtain ⟨nq, hw''⟩ := hw'; subst hw''))
    go_loopw [3, 4] (fun out k wr => ∃ (u : Nat) (l : List UInt8) (A : Option Addr) (c : Nat), k = i64 (-(u : Int)) ∧ out = .slice A l.length c ∧ u ≤ N ∧ Hid (decGo N = decGo u ++ l) ∧ wr.ownsRow w.heap.size 5 1 (.slice A l.length c) l.length (Lib.byteCells l) ∧ ∃ g : Up w, wr = up w g) (fun _ k _ => (intOf k).natAbs)
    case atStart => exact ⟨N, [], _, _, rfl, rfl, Nat.le_refl _, by show decGo N = decGo N ++ []; simp, hOwn.out, ex_up (by repeat (first | exact Below.refl _ _ | refine bl_tr ?_ _ | refine bl_al ?_ _ | refine bl_dr ?_ | refine bl_up ?_ _ | refine Below.drew ?_ | refine bl_alloc ?_ _ | refine Below.setCell ?_ (by first | (simp; done) | (simp; omega)) _))⟩
    case round =>
      obtain ⟨u, l, A, c, rfl, rfl, huN, HN, hown, g, rfl⟩ := hrel
      by_cases hu : 0 < u
      · have hne : ((-(u : Int)) != 0) = true := by simp; omega
        have hm10 : (-(u : Int)).tmod 10 = -((u : Int) % 10) := by rw [Int.neg_tmod, Int.tmod_eq_emod_of_nonneg (by omega)]
        have hd10 : (-(u : Int)).tdiv 10 = -((u : Int) / 10) := by rw [Int.neg_tdiv, Int.tdiv_eq_ediv_of_nonneg (by omega)]
        by_cases r0 : (u : Int) % 10 = 0
        · have hl20 : l.length + 1 ≤ 20 := by
            have h1 := decGo_len (u := N) (by omega)
            rw [HN.out, decGo_step hu] at h1
            simp only [List.length_append, List.length_singleton] at h1
            omega
          have HN2 := Lib.hid (show decGo N = decGo (u / 10) ++ (UInt8.ofNat (48 + u % 10) :: l) by rw [HN.out, decGo_step hu]; simp)
          have HO := Lib.hid hown
          clear hown
          have hnew : (up w (g.al (.cells #[.int .u8 (48)] 5))).ownsRow w.heap.size 5 1 (.slice (some ⟨(up w g).heap.size, 0, none⟩) 1 1) 1 [.int .u8 (48)] := World.ownsRow_lit (up w g) #[.int .u8 (48)] 1 (up_below w g).size (by unfold maxLen; omega) rfl
          have HNEW := Lib.hid hnew
          clear hnew
          go_wp2_with (first | (at_builtin; go_must (refine wpl_appU rfl _ _ 32 rfl w w.heap.size 5 _ 1 1 el_byte (.slice (some ⟨(up w g).heap.size, 0, none⟩) 1 1) 1 [.int .u8 (48)] rfl HNEW.out A l.length c (Lib.byteCells l) rfl ((Rds.of_own HO.out).below (by repeat (first | exact Below.refl _ _ | refine bl_tr ?_ _ | refine bl_al ?_ _ | refine bl_dr ?_ | refine bl_up ?_ _ | refine Below.drew ?_ | refine bl_alloc ?_ _ | refine Below.setCell ?_ (by first | (simp; done) | (simp; omega)) _))) (byteCells_one _) (by unfold maxLen; omega) (by omega) (up_below w _).size (by repeat (first | exact Below.refl _ _ | refine bl_tr ?_ _ | refine bl_al ?_ _ | refine bl_dr ?_ | refine bl_up ?_ _ | refine Below.drew ?_ | refine bl_alloc ?_ _ | refine Below.setCell ?_ (by first | (simp; done) | (simp; omega)) _)) (Nat.le_refl _) ?_; intro A2 c2 g2 o2)) | ((with_reducible refine wp_region_up (by kernel_rfl) (by kernel_rfl) ?_); (repeat (go_big_quiet_step (fail))); refine wpQuiet_nil ?_; intro _ hw'; obtain ⟨nq, hw''⟩ := hw'; subst hw''))
          all_goals go_roundw
          case rel =>
            refine ⟨u / 10, UInt8.ofNat (48 + u % 10) :: l, A2, c2, by go_num, congrArg (fun n => Value.slice A2 n c2) (by simp; omega), by omega, HN2.out, ?_, _, rfl⟩
            rw [dig_val0 r0, byteCells_snoc, show 1 + l.length = (UInt8.ofNat (48 + u % 10) :: l).length by simp; omega] at o2
            exact o2
          case measure => (simp [intOf]; omega)
        · have r1 : -((u : Int) % 10) < 0 := by omega
          have hl20 : l.length + 1 ≤ 20 := by
            have h1 := decGo_len (u := N) (by omega)
            rw [HN.out, decGo_step hu] at h1
            simp only [List.length_append, List.length_singleton] at h1
            omega
          have HN2 := Lib.hid (show decGo N = decGo (u / 10) ++ (UInt8.ofNat (48 + u % 10) :: l) by rw [HN.out, decGo_step hu]; simp)
          have HO := Lib.hid hown
          clear hown
          have hnew : (up w (g.al (.cells #[.int .u8 (48 + (u : Int) % 10)] 5))).ownsRow w.heap.size 5 1 (.slice (some ⟨(up w g).heap.size, 0, none⟩) 1 1) 1 [.int .u8 (48 + (u : Int) % 10)] := World.ownsRow_lit (up w g) #[.int .u8 (48 + (u : Int) % 10)] 1 (up_below w g).size (by unfold maxLen; omega) rfl
          have HNEW := Lib.hid hnew
          clear hnew
          go_wp2_with (first | (at_builtin; go_must (refine wpl_appU rfl _ _ 32 rfl w w.heap.size 5 _ 1 1 el_byte (.slice (some ⟨(up w g).heap.size, 0, none⟩) 1 1) 1 [.int .u8 (48 + (u : Int) % 10)] rfl HNEW.out A l.length c (Lib.byteCells l) rfl ((Rds.of_own HO.out).below (by repeat (first | exact Below.refl _ _ | refine bl_tr ?_ _ | refine bl_al ?_ _ | refine bl_dr ?_ | refine bl_up ?_ _ | refine Below.drew ?_ | refine bl_alloc ?_ _ | refine Below.setCell ?_ (by first | (simp; done) | (simp; omega)) _))) (byteCells_one _) (by unfold maxLen; omega) (by omega) (up_below w _).size (by repeat (first | exact Below.refl _ _ | refine bl_tr ?_ _ | refine bl_al ?_ _ | refine bl_dr ?_ | refine bl_up ?_ _ | refine Below.drew ?_ | refine bl_alloc ?_ _ | refine Below.setCell ?_ (by first | (simp; done) | (simp; omega)) _)) (Nat.le_refl _) ?_; intro A2 c2 g2 o2)) | ((with_reducible refine wp_region_up (by kernel_rfl) (by kernel_rfl) ?_); (repeat (go_big_quiet_step (fail))); refine wpQuiet_nil ?_; intro _ hw'; obtain ⟨nq, hw''⟩ := hw'; subst hw''))
          all_goals go_roundw
          case rel =>
            refine ⟨u / 10, UInt8.ofNat (48 + u % 10) :: l, A2, c2, by go_num, congrArg (fun n => Value.slice A2 n c2) (by simp; omega), by omega, HN2.out, ?_, _, rfl⟩
            rw [dig_val, byteCells_snoc, show 1 + l.length = (UInt8.ofNat (48 + u % 10) :: l).length by simp; omega] at o2
            exact o2
          case measure => (simp [intOf]; omega)
      · obtain rfl : u = 0 := by omega
        have hl : l.length ≠ 0 := by
          intro h0
          have h1 := HN.out
          rw [List.eq_nil_of_length_eq_zero h0, decGo_zero, decGo_step hN0] at h1
          simp at h1
        have hl2 : ((l.length : Int) == 0) = false := by rw [beq_eq_false_iff_ne]; omega
        have hcv := conv_own hown rfl (Below.refl _ _)
        have hN2 := Lib.hid (show decGo N = l by rw [HN.out]; rfl)
        have hl20 : l.length ≤ 20 := by rw [← hN2.out]; exact decGo_len (by omega)
        go_wp2_with (first | ((with_reducible refine wp_region_up (by kernel_rfl) (by kernel_rfl) ?_); (repeat (go_big_quiet_step (fail))); refine wpQuiet_nil ?_; intro _ hw'; obtain ⟨nq, hw''⟩ := hw'; subst hw''))
        go_ret
        rw [hD.out, hN2.out]
        exact ⟨rfl, UpOf.of (by repeat (first | exact Below.refl _ _ | refine bl_tr ?_ _ | refine bl_al ?_ _ | refine bl_dr ?_ | refine bl_up ?_ _ | refine Below.drew ?_ | refine bl_alloc ?_ _ | refine Below.setCell ?_ (by first | (simp; done) | (simp; omega)) _))⟩
  · obtain ⟨N, rfl⟩ : ∃ N : Nat, n = (N : Int) := ⟨n.toNat, by omega⟩
    go_enter Tryd.func64, Tryd.ntmps64
    go_wp2_with (first | ((with_reducible refine wp_region_up (by kernel_rfl) (by kernel_rfl) ?_); (repeat (go_big_quiet_step (fail))); refine wpQuiet_nil ?_; intro _ hw'; obtain ⟨nq, hw''⟩ := hw'; subst hw''))
    go_loopw [3, 4] (fun out k wr => ∃ (u : Nat) (l : List UInt8) (A : Option Addr) (c : Nat), k = i64 u ∧ out = .slice A l.length c ∧ u ≤ N ∧ Hid (decGo N = decGo u ++ l) ∧ wr.ownsRow w.heap.size 5 1 (.slice A l.length c) l.length (Lib.byteCells l) ∧ ∃ g : Up w, wr = up w g) (fun _ k _ => (intOf k).toNat)
    case atStart => exact ⟨N, [], _, _, rfl, rfl, Nat.le_refl _, by show decGo N = decGo N ++ []; simp, hOwn.out, ex_up (by repeat (first | exact Below.refl _ _ | refine bl_tr ?_ _ | refine bl_al ?_ _ | refine bl_dr ?_ | refine bl_up ?_ _ | refine Below.drew ?_ | refine bl_alloc ?_ _ | refine Below.setCell ?_ (by first | (simp; done) | (simp; omega)) _))⟩
    case round =>
      obtain ⟨u, l, A, c, rfl, rfl, huN, HN, hown, g, rfl⟩ := hrel
      by_cases hu : 0 < u
      · have hne : ((u : Int) != 0) = true := by simp; omega
        have hl20 : l.length + 1 ≤ 20 := by
          have h1 := decGo_len (u := N) (by omega)
          rw [HN.out, decGo_step hu] at h1
          simp only [List.length_append, List.length_singleton] at h1
          omega
        have HN2 := Lib.hid (show decGo N = decGo (u / 10) ++ (UInt8.ofNat (48 + u % 10) :: l) by rw [HN.out, decGo_step hu]; simp)
        have HO := Lib.hid hown
        clear hown
        have hnew : (up w (g.al (.cells #[.int .u8 (48 + (u : Int) % 10)] 5))).ownsRow w.heap.size 5 1 (.slice (some ⟨(up w g).heap.size, 0, none⟩) 1 1) 1 [.int .u8 (48 + (u : Int) % 10)] := World.ownsRow_lit (up w g) #[.int .u8 (48 + (u : Int) % 10)] 1 (up_below w g).size (by unfold maxLen; omega) rfl
        have HNEW := Lib.hid hnew
        clear hnew
        go_wp2_with (first | (at_builtin; go_must (refine wpl_appU rfl _ _ 32 rfl w w.heap.size 5 _ 1 1 el_byte (.slice (some ⟨(up w g).heap.size, 0, none⟩) 1 1) 1 [.int .u8 (48 + (u : Int) % 10)] rfl HNEW.out A l.length c (Lib.byteCells l) rfl ((Rds.of_own HO.out).below (by repeat (first | exact Below.refl _ _ | refine bl_tr ?_ _ | refine bl_al ?_ _ | refine bl_dr ?_ | refine bl_up ?_ _ | refine Below.drew ?_ | refine bl_alloc ?_ _ | refine Below.setCell ?_ (by first | (simp; done) | (simp; omega)) _))) (byteCells_one _) (by unfold maxLen; omega) (by omega) (up_below w _).size (by repeat (first | exact Below.refl _ _ | refine bl_tr ?_ _ | refine bl_al ?_ _ | refine bl_dr ?_ | refine bl_up ?_ _ | refine Below.drew ?_ | refine bl_alloc ?_ _ | refine Below.setCell ?_ (by first | (simp; done) | (simp; omega)) _)) (Nat.le_refl _) ?_; intro A2 c2 g2 o2)) | ((with_reducible refine wp_region_up (by kernel_rfl) (by kernel_rfl) ?_); (repeat (go_big_quiet_step (fail))); refine wpQuiet_nil ?_; intro _ hw'; obtain ⟨nq, hw''⟩ := hw'; subst hw''))
        all_goals go_roundw
        case rel =>
          refine ⟨u / 10, UInt8.ofNat (48 + u % 10) :: l, A2, c2, by go_num, congrArg (fun n => Value.slice A2 n c2) (by simp; omega), by omega, HN2.out, ?_, _, rfl⟩
          rw [dig_val, byteCells_snoc, show 1 + l.length = (UInt8.ofNat (48 + u % 10) :: l).length by simp; omega] at o2
          exact o2
        case measure => (simp [intOf]; omega)
      · obtain rfl : u = 0 := by omega
        have hN2 := Lib.hid (show decGo N = l by rw [HN.out]; rfl)
        by_cases h0 : N = 0
        · subst h0
          have hl : l = [] := by rw [← hN2.out]; rfl
          subst hl
          have hD := Lib.hid dec_zero
          go_wp2_with (first | ((with_reducible refine wp_region_up (by kernel_rfl) (by kernel_rfl) ?_); (repeat (go_big_quiet_step (fail))); refine wpQuiet_nil ?_; intro _ hw'; obtain ⟨nq, hw''⟩ := hw'; subst hw''))
          go_ret
          exact ⟨congrArg (fun x => Ending.returned (.string x)) hD.out.symm, UpOf.of (by repeat (first | exact Below.refl _ _ | refine bl_tr ?_ _ | refine bl_al ?_ _ | refine bl_dr ?_ | refine bl_up ?_ _ | refine Below.drew ?_ | refine bl_alloc ?_ _ | refine Below.setCell ?_ (by first | (simp; done) | (simp; omega)) _))⟩
        · have hl : l.length ≠ 0 := by
            intro h1
            have h2 := hN2.out
            rw [List.eq_nil_of_length_eq_zero h1, decGo_step (by omega)] at h2
            simp at h2
          have hl2 : ((l.length : Int) == 0) = false := by rw [beq_eq_false_iff_ne]; omega
          have hcv := conv_own hown rfl (Below.refl _ _)
          have hD := Lib.hid (dec_pos (u := N) (by omega))
          go_wp2_with (first | ((with_reducible refine wp_region_up (by kernel_rfl) (by kernel_rfl) ?_); (repeat (go_big_quiet_step (fail))); refine wpQuiet_nil ?_; intro _ hw'; obtain ⟨nq, hw''⟩ := hw'; subst hw''))
          go_ret
          rw [hD.out, hN2.out]
          exact ⟨rfl, UpOf.of (by repeat (first | exact Below.refl _ _ | refine bl_tr ?_ _ | refine bl_al ?_ _ | refine bl_dr ?_ | refine bl_up ?_ _ | refine Below.drew ?_ | refine bl_alloc ?_ _ | refine Below.setCell ?_ (by first | (simp; done) | (simp; omega)) _))⟩
end Go.Proofs.YtiagckbdofeecaaDoor

/-
  AlignTexts and MarkOf: the program's. The bounds stand at each.
-/
import Derived.Test.YtbianlkenallaaaGreatDoorAlign3
set_option linter.all false
namespace Go.Proofs.YtbianlkenallaaaGreatDoor
open Go.RowKit
theorem typed_len {s : ByteArray} (h : typed s = true) : s.size ≤ 60 := (txtB_inv h).1
set_option maxRecDepth 10000 in
set_option maxHeartbeats 2000000 in
theorem alignTexts_any (a b : ByteArray) (w : World) (ha : a.size ≤ 9223372036854775807) (hb : b.size ≤ 9223372036854775807) :
    Calls Tryz.prog 34 #[.string a, .string b] w fun e w' => e = .returned (.tuple #[.string (alnR a b).1, i64 (alnR a b).2]) ∧ UpOf w w' := by
  cases h1 : typed a with
  | false =>
    have hr := Lib.hid (show alnR a b = (⟨#[]⟩, 2) by unfold alnR; rw [h1]; rfl)
    go_enter Tryz.func34, Tryz.ntmps34
    go_wp2_with (first | (go_at_call 81; refine (ret_as (isTyped_any a _ ha) h1).mono ?_; rintro e w' ⟨rfl, rfl⟩) | ((with_reducible refine wp_region_up (by kernel_rfl) (by kernel_rfl) ?_); (repeat (go_big_quiet_step (first | (go_at_call 81; first | exact upq_tr_same (ret_as (isTyped_any a _ ha) h1) | exact upq_same (ret_as (isTyped_any a _ ha) h1))))); refine wpQuiet_nil ?_; intro _ hw'; obtain ⟨nq, hw''⟩ := hw'; subst hw''))
    go_ret2
    rw [hr.out]
    exact ⟨rfl, UpOf.of (BL.o (by repeat constructor))⟩
  | true =>
    cases h2 : typed b with
    | false =>
      have hr := Lib.hid (show alnR a b = (⟨#[]⟩, 2) by unfold alnR; rw [h1, h2]; rfl)
      go_enter Tryz.func34, Tryz.ntmps34
      go_wp2_with fail
      refine (ret_as (isTyped_any a _ ha) h1).mono ?_
      rintro e w' ⟨rfl, rfl⟩
      go_wp2_with fail
      refine (ret_as (isTyped_any b _ hb) h2).mono ?_
      rintro e w' ⟨rfl, rfl⟩
      go_wp2_with fail
      go_ret2
      rw [hr.out]
      exact ⟨rfl, UpOf.of (BL.o (by repeat constructor))⟩
    | true =>
      have hr := Lib.hid (show alnR a b = (bs (alnA a b 0 0), 0) by unfold alnR; rw [h1, h2]; rfl)
      go_enter Tryz.func34, Tryz.ntmps34
      go_wp2_with fail
      refine (ret_as (isTyped_any a _ ha) h1).mono ?_
      rintro e w' ⟨rfl, rfl⟩
      go_wp2_with fail
      refine (ret_as (isTyped_any b _ hb) h2).mono ?_
      rintro e w' ⟨rfl, rfl⟩
      go_wp2_with fail
      refine (alignment_any a b _ (typed_len h1) (typed_len h2)).mono ?_
      rintro e w' ⟨rfl, g, rfl⟩
      go_wp2_with fail
      go_ret2
      rw [hr.out]
      exact ⟨rfl, UpOf.of (BL.o (by repeat constructor))⟩
theorem pow5 {f : Nat} (h : f < 5) : 2 ^ (5 - (f + 1)) * 2 = 2 ^ (5 - f) := by
  rw [← Nat.pow_succ]; congr 1; omega
theorem pow5_le (f : Nat) : 2 ^ (5 - f) ≤ 32 := Nat.pow_le_pow_right (n := 2) (by omega) (show 5 - f ≤ 5 by omega)
set_option maxRecDepth 10000 in
set_option maxHeartbeats 2000000 in
theorem markOf_any (a b : ByteArray) (w : World) (ha : a.size ≤ 9223372036854775807) (hb : b.size ≤ 9223372036854775807) :
    Calls Tryz.prog 36 #[.string a, .string b] w fun e w' => e = .returned (.tuple #[i64 (mrkR a b).1, i64 (mrkR a b).2]) ∧ UpOf w w' := by
  cases h1 : typed a with
  | false =>
    have hr := Lib.hid (show mrkR a b = (0, 2) by unfold mrkR; rw [h1]; rfl)
    go_enter Tryz.func36, Tryz.ntmps36
    go_wp2_with (first | (go_at_call 81; refine (ret_as (isTyped_any a _ ha) h1).mono ?_; rintro e w' ⟨rfl, rfl⟩) | ((with_reducible refine wp_region_up (by kernel_rfl) (by kernel_rfl) ?_); (repeat (go_big_quiet_step (first | (go_at_call 81; first | exact upq_tr_same (ret_as (isTyped_any a _ ha) h1) | exact upq_same (ret_as (isTyped_any a _ ha) h1))))); refine wpQuiet_nil ?_; intro _ hw'; obtain ⟨nq, hw''⟩ := hw'; subst hw''))
    go_ret2
    rw [hr.out]
    exact ⟨rfl, UpOf.of (BL.o (by repeat constructor))⟩
  | true =>
    cases h2 : typed b with
    | false =>
      have hr := Lib.hid (show mrkR a b = (0, 2) by unfold mrkR; rw [h1, h2]; rfl)
      go_enter Tryz.func36, Tryz.ntmps36
      go_wp2_with fail
      refine (ret_as (isTyped_any a _ ha) h1).mono ?_
      rintro e w' ⟨rfl, rfl⟩
      go_wp2_with fail
      refine (ret_as (isTyped_any b _ hb) h2).mono ?_
      rintro e w' ⟨rfl, rfl⟩
      go_wp2_with fail
      go_ret2
      rw [hr.out]
      exact ⟨rfl, UpOf.of (BL.o (by repeat constructor))⟩
    | true =>
      by_cases h0 : a.size = 0
      · have hz := isEmpty_yes h0
        have hr := Lib.hid (show mrkR a b = (0, 3) by unfold mrkR; rw [h1, h2, if_pos (show (true && true) = true from rfl), if_pos h0])
        clear h0
        go_enter Tryz.func36, Tryz.ntmps36
        go_wp2_with fail
        refine (ret_as (isTyped_any a _ ha) h1).mono ?_
        rintro e w' ⟨rfl, rfl⟩
        go_wp2_with fail
        refine (ret_as (isTyped_any b _ hb) h2).mono ?_
        rintro e w' ⟨rfl, rfl⟩
        go_wp2_with fail
        go_ret2
        rw [hr.out]
        exact ⟨rfl, UpOf.of (BL.o (by repeat constructor))⟩
      · have hz := isEmpty_no (s := a) (by omega)
        have hr := Lib.hid (show mrkR a b = (markL (cst a b 0 0) a.size 5 1 1, 0) by unfold mrkR; rw [h1, h2, if_pos (show (true && true) = true from rfl), if_neg h0]; rfl)
        obtain ⟨n, hn⟩ : ∃ n, a.size = n := ⟨_, rfl⟩
        have HN := Lib.hid hn
        have hn60 : n ≤ 60 := by rw [← hn]; exact typed_len h1
        have hn1 : 0 < n := by omega
        go_enter Tryz.func36, Tryz.ntmps36
        go_wp2_with fail
        refine (ret_as (isTyped_any a _ ha) h1).mono ?_
        rintro e w' ⟨rfl, rfl⟩
        go_wp2_with fail
        refine (ret_as (isTyped_any b _ hb) h2).mono ?_
        rintro e w' ⟨rfl, rfl⟩
        go_wp2_with fail
        refine (leastFrom_any a b _ (typed_len h1) (typed_len h2)).mono ?_
        rintro e w' ⟨B, Q, rfl, HT⟩
        unfold Tb at HT
        have HU := Lib.hid HT.u
        have r0 := HT.row (i := 0) (by omega) (by omega)
        have r1 := HT.cell (i := 0) (j := 0) (by omega) (by omega)
        have r2 := HT.o.lt
        have r3 := (HT.r 0 (by omega)).lt
        obtain ⟨e0, he0⟩ : ∃ e, cst a b 0 0 = e := ⟨_, rfl⟩
        have he1 : 0 ≤ e0 := by rw [← he0]; exact cst_nn _ _ _ _
        have he2 : e0 ≤ 120 := by
          have := cst_bd a b _ 0 0 rfl
          have := typed_len h2
          omega
        have HR := Lib.hid (show mrkR a b = (markL e0 n 5 1 1, 0) from by rw [hr.out, he0, HN.out])
        rw [he0] at r1
        clear hr he0 HT h0
        clear h1 h2
        go_wp2_with fail
        go_loopw [7, 8] (fun t7 t8 wr => ∃ (f T : Nat) (mk : Int), f ≤ 5 ∧ T = 2 ^ (5 - f) ∧ mk = 6 - (f : Int) ∧ t7 = .int .i64 mk ∧ t8 = i64 T ∧ Hid (markL e0 n 5 1 1 = markL e0 n f T mk) ∧ wr = w') (fun t7 _ _ => (6 - intOf t7).toNat)
        case atStart => exact ⟨5, 1, 1, by omega, rfl, by omega, rfl, rfl, Lib.hid rfl, rfl⟩
        case round =>
          obtain ⟨f, T, mk, hf, hT, hmk, rfl, rfl, HK, rfl⟩ := hrel
          have hT32 : T ≤ 32 := by rw [hT]; exact pow5_le f
          cases f with
          | zero =>
            have hfin := Lib.hid (show markL e0 n 5 1 1 = mk from by rw [HK.out]; rfl)
            have hm6 : ¬ mk < 6 := by omega
            have hm7 : decide (mk < 6) = false := decide_eq_false hm6
            clear hmk hT HK
            go_wp2_with fail
            go_ret2
            rw [HR.out, hfin.out]
            exact ⟨rfl, HU.out⟩
          | succ f =>
            have hT2 := pow5 (f := f) (by omega)
            rw [← hT] at hT2
            have HT2 := Lib.hid hT2
            have HMK := Lib.hid hmk
            have hm7 : decide (mk < 6) = true := decide_eq_true (by omega)
            have hm8 : mk < 6 := by omega
            have hm9 : 1 ≤ mk := by omega
            have hTn : (T : Int) * (n : Int) ≤ 1920 := by
              have : T * n ≤ 32 * 60 := Nat.mul_le_mul hT32 hn60
              exact_mod_cast this
            have hTn0 : (0 : Int) ≤ (T : Int) * (n : Int) := Int.mul_nonneg (by omega) (by omega)
            by_cases hlt : (T : Int) * (n : Int) < 100 * e0
            · have ht : decide ((T : Int) * (n : Int) < 100 * e0) = true := decide_eq_true hlt
              have HK2 := Lib.hid (show markL e0 n 5 1 1 = markL e0 n f ((T * 2 : Nat) : Int) (mk + 1) from by
                rw [HK.out, markL, if_pos hlt]; push_cast; rfl)
              clear hT HK hlt hT2 hmk
              go_wp2_with fail
              refine ⟨⟨f, T * 2, mk + 1, by omega, HT2.out, by have := HMK.out; omega, rfl, by go_num, HK2, by first | rfl | trivial⟩, by simp [intOf]; try omega⟩
            · have ht : decide ((T : Int) * (n : Int) < 100 * e0) = false := decide_eq_false hlt
              have hfin := Lib.hid (show markL e0 n 5 1 1 = mk from by rw [HK.out, markL, if_neg hlt])
              clear hT HK hlt hT2 hmk
              go_wp2_with fail
              go_ret2
              rw [HR.out, hfin.out]
              exact ⟨rfl, HU.out⟩
end Go.Proofs.YtbianlkenallaaaGreatDoor

/-
  A justified line: the program's. The bounds stand at each.
-/
import Derived.Test.YtbianlkenallaaaGreatDoorSetL2
set_option linter.all false
namespace Go.Proofs.YtbianlkenallaaaGreatDoor
open Go.RowKit
theorem longL_one {ws : List ByteArray} (h : ws.length = 1) : longL ws = (wd ws 0).size := by
  have e : sizes ws 1 = (wd ws 0).size := by rw [sizes, sizes]; omega
  rw [longL, h, e]
  split <;> omega
theorem longL_nn (ws : List ByteArray) : 0 ≤ longL ws := by rw [longL]; split <;> omega
set_option maxRecDepth 10000 in
set_option maxHeartbeats 2000000 in
theorem setLine_any (n : Int) (A : Option Addr) (c : Nat) (ws : List ByteArray) (w : World) (h : Rds w 1 A ws.length (strs ws)) (hc : ws.length ≤ c) (h1 : 1 ≤ ws.length) (hv : vText ws n = true) (hl : longL ws ≤ n) :
    Calls Tryz.prog 133 #[.slice A ws.length c, i64 n] w fun e w' => e = .returned (.string (bs (setA ws n))) ∧ UpOf w w' := by
  obtain ⟨⟨hn1, hn2⟩, h40, hws⟩ := vText_inv hv
  have HW := Lib.hid hws
  have HR := Lib.hid h
  have hWB : Hid (WBd ws) := Lib.hid fun i hi => by have := (hws i hi).2; omega
  obtain ⟨b, off, rfl, hb, c0⟩ := wd_at h (i := 0) (by omega)
  have HC0 := Lib.hid c0
  have hw0 := (hws 0 (by omega)).2
  clear hws hv h
  have k0 := HC0.out 0 (by omega)
  rw [Nat.add_zero] at k0
  by_cases he : ws.length = 1
  · have hz1 : ((ws.length : Int) == 1) = true := by rw [beq_iff_eq]; omega
    have hln := longL_one he
    have hres : Hid (setA ws n = (wd ws 0).data.toList ++ List.replicate (n - ((wd ws 0).size : Int)).toNat 32) := Lib.hid (by rw [setA, if_pos he, hln])
    have hs0 : (wd ws 0).size ≤ 80 := by omega
    have hrep : Hid (∀ V : World, Calls Tryz.prog 136 #[.string (bs [32]), i64 (n - ((wd ws 0).size : Int))] V fun e w' => e = .returned (.string (bs (List.replicate (n - ((wd ws 0).size : Int)).toNat 32))) ∧ UpOf V w') := Lib.hid fun V => repeat_any 32 _ V (by omega) (by omega)
    have hsz : (bs (List.replicate (n - ((wd ws 0).size : Int)).toNat 32)).size ≤ 80 := by rw [bs_size, List.length_replicate]; omega
    obtain ⟨R, hR⟩ : ∃ R, bs (List.replicate (n - ((wd ws 0).size : Int)).toNat 32) = R := ⟨_, rfl⟩
    have HRd := Lib.hid hR
    rw [hR] at hsz hrep
    clear hln hR
    go_enter Tryz.func133, Tryz.ntmps133
    go_wp2_with (first | (go_at_call 136; refine (hrep.out _).mono ?_; rintro e w' ⟨rfl, g, rfl⟩) | ((with_reducible refine wp_region_up (by kernel_rfl) (by kernel_rfl) ?_); (repeat (go_big_quiet_step (first | (go_at_call 136; first | exact upq_tr (hrep.out _) | exact upq (hrep.out _))))); refine wpQuiet_nil ?_; intro _ hw'; obtain ⟨nq, hw''⟩ := hw'; subst hw''))
    go_ret
    refine ⟨?_, UpOf.of (BL.o (by repeat constructor))⟩
    show Ending.returned (.string _) = _
    rw [hres.out, ← HRd.out]
    congr 2
  · have hz1 : ((ws.length : Int) == 1) = false := by rw [beq_eq_false_iff_ne]; omega
    obtain ⟨G, hG⟩ : ∃ G, ws.length = G + 1 := ⟨ws.length - 1, by omega⟩
    obtain ⟨LL, hLL⟩ : ∃ l, longL ws = l := ⟨_, rfl⟩
    have hl0 : 0 ≤ LL := by rw [← hLL]; exact longL_nn ws
    have HLL : Hid (∀ V, Below w.heap.size w V → Calls Tryz.prog 132 #[.slice (some ⟨b, off, none⟩) (G + 1) c] V fun e w' => e = .returned (i64 LL) ∧ V = w') := Lib.hid fun V hV => by
      have := lineLength_any _ c _ V (HR.out.below hV) (by omega) hWB.out
      rw [hLL, hG] at this
      exact this
    have hres : Hid (setA ws n = setU ws (n - LL) G G) := Lib.hid (by
      rw [setA, if_neg he, hLL, hG]; congr 1; omega)
    have hcc : ¬ c = 1 := by omega
    have hG0 : 0 < G := by omega
    have hG40 : G ≤ 39 := by omega
    rw [hLL] at hl
    rw [hG] at hz1 hc
    have HG := Lib.hid hG
    clear hLL he h40 h1
    go_enter Tryz.func133, Tryz.ntmps133
    go_wp2_with (first | (go_at_call 132; refine (HLL.out _ (BL.o (by repeat constructor))).mono ?_; rintro e w' ⟨rfl, rfl⟩) | ((with_reducible refine wp_region_up (by kernel_rfl) (by kernel_rfl) ?_); (repeat (go_big_quiet_step (first | (go_at_call 132; first | exact upq_tr_same (HLL.out _ (BL.o (by repeat constructor))) | exact upq_same (HLL.out _ (BL.o (by repeat constructor))))))); refine wpQuiet_nil ?_; intro _ hw'; obtain ⟨nq, hw''⟩ := hw'; subst hw''))
    obtain ⟨own, hown⟩ : ∃ o, (n - LL + (G : Int)) / (G : Int) = o := ⟨_, rfl⟩
    obtain ⟨rm, hrm⟩ : ∃ o, (n - LL + (G : Int)) % (G : Int) = o := ⟨_, rfl⟩
    have hG1 : (G : Int) ≠ 0 := by omega
    have ho1 : own = (n - LL) / (G : Int) + 1 := by
      rw [← hown]
      have := Int.add_mul_ediv_right (n - LL) 1 hG1
      rwa [Int.one_mul] at this
    have ho2 : 1 ≤ own ∧ own ≤ 81 := by
      have h1 := Int.ediv_nonneg (a := n - LL) (b := (G : Int)) (by omega) (by omega)
      have h2 := Int.ediv_le_self (a := n - LL) (G : Int) (by omega)
      omega
    have hr1 : rm = (n - LL) % (G : Int) := by
      rw [← hrm]
      have := Int.add_mul_emod_self_right (n - LL) 1 (G : Int)
      rwa [Int.one_mul] at this
    have hgap : Hid (∀ k : Nat, gapN (n - LL) G (k + 1) = if (k : Int) < rm then own + 1 else own) := Lib.hid fun k => by
      rw [gapN, ← hr1, ho1]
      by_cases q : (k : Int) < rm
      · rw [if_pos q, if_pos (by omega)]; omega
      · rw [if_neg q, if_neg (by omega)]; omega
    obtain ⟨ho2, ho3⟩ := ho2
    clear ho1 hr1 hG1 hG
    go_loopw [5, 36] (fun t5 t36 wr => ∃ (k : Nat) (T : List UInt8), k ≤ G ∧ t36 = i64 k ∧ t5 = .string (bs T) ∧ Hid (T = setU ws (n - LL) G k) ∧ Hid (T.length ≤ 80 + 300 * k) ∧ ∃ g : Up w, wr = up w g) (fun _ t36 _ => G - (intOf t36).toNat)
    case atStart => exact ⟨0, (wd ws 0).data.toList, by omega, rfl, by rw [bs_of], Lib.hid rfl, Lib.hid (by show (wd ws 0).size ≤ _; omega), ex_up (BL.o (by repeat constructor))⟩
    case round =>
      obtain ⟨k, T, hk, rfl, rfl, HT, HTl, g, rfl⟩ := hrel
      by_cases hlt : k < G
      · have hlt' : (k : Int) < (G : Int) := by omega
        have k1 := HC0.out (k + 1) (by rw [HG.out]; omega)
        rw [show off + (k + 1) = off + 1 + k by omega] at k1
        have hsz : (wd ws (k + 1)).size ≤ 80 := by have := (HW.out (k + 1) (by rw [HG.out]; omega)).2; omega
        have hTl : T.length ≤ 80 + 300 * k := HTl.out
        by_cases hq : (k : Int) < rm
        · obtain ⟨R, hR⟩ : ∃ R, bs (List.replicate (own + 1).toNat 32) = R := ⟨_, rfl⟩
          have hRz : R.size ≤ 100 := by rw [← hR, bs_size, List.length_replicate]; omega
          have hrep : Hid (∀ V : World, Calls Tryz.prog 136 #[.string (bs [32]), i64 (own + 1)] V fun e w' => e = .returned (.string R) ∧ UpOf V w') := Lib.hid fun V => by
            rw [← hR]; exact repeat_any 32 _ V (by omega) (by omega)
          have HT2 : Hid (T ++ (R.data.toList ++ (wd ws (k + 1)).data.toList) = setU ws (n - LL) G (k + 1)) := Lib.hid (by
            rw [setU, hgap.out, if_pos hq, HT.out, ← hR, bs_list])
          have HTl2 : Hid ((T ++ (R.data.toList ++ (wd ws (k + 1)).data.toList)).length ≤ 80 + 300 * (k + 1)) := Lib.hid (by
            rw [List.length_append, List.length_append, bsz, bsz]; omega)
          clear hR HT
          go_wp2_with (first | (go_at_call 136; refine (hrep.out _).mono ?_; rintro e w' ⟨rfl, g, rfl⟩) | ((with_reducible refine wp_region_up (by kernel_rfl) (by kernel_rfl) ?_); (repeat (go_big_quiet_step (first | (go_at_call 136; first | exact upq_tr (hrep.out _) | exact upq (hrep.out _))))); refine wpQuiet_nil ?_; intro _ hw'; obtain ⟨nq, hw''⟩ := hw'; subst hw''))
          go_roundw
          case rel => exact ⟨k + 1, _, by omega, by go_num, congrArg Value.string (by apply ByteArray.ext; apply Array.ext'; simp), HT2, HTl2, ex_up (BL.o (by repeat constructor))⟩
          case measure => simp [intOf]; try omega
        · obtain ⟨R, hR⟩ : ∃ R, bs (List.replicate own.toNat 32) = R := ⟨_, rfl⟩
          have hRz : R.size ≤ 100 := by rw [← hR, bs_size, List.length_replicate]; omega
          have hrep : Hid (∀ V : World, Calls Tryz.prog 136 #[.string (bs [32]), i64 own] V fun e w' => e = .returned (.string R) ∧ UpOf V w') := Lib.hid fun V => by
            rw [← hR]; exact repeat_any 32 _ V (by omega) (by omega)
          have HT2 : Hid (T ++ (R.data.toList ++ (wd ws (k + 1)).data.toList) = setU ws (n - LL) G (k + 1)) := Lib.hid (by
            rw [setU, hgap.out, if_neg hq, HT.out, ← hR, bs_list])
          have HTl2 : Hid ((T ++ (R.data.toList ++ (wd ws (k + 1)).data.toList)).length ≤ 80 + 300 * (k + 1)) := Lib.hid (by
            rw [List.length_append, List.length_append, bsz, bsz]; omega)
          clear hR HT
          go_wp2_with (first | (go_at_call 136; refine (hrep.out _).mono ?_; rintro e w' ⟨rfl, g, rfl⟩) | ((with_reducible refine wp_region_up (by kernel_rfl) (by kernel_rfl) ?_); (repeat (go_big_quiet_step (first | (go_at_call 136; first | exact upq_tr (hrep.out _) | exact upq (hrep.out _))))); refine wpQuiet_nil ?_; intro _ hw'; obtain ⟨nq, hw''⟩ := hw'; subst hw''))
          go_roundw
          case rel => exact ⟨k + 1, _, by omega, by go_num, congrArg Value.string (by apply ByteArray.ext; apply Array.ext'; simp), HT2, HTl2, ex_up (BL.o (by repeat constructor))⟩
          case measure => simp [intOf]; try omega
      · obtain rfl : k = G := by omega
        have hfin := Lib.hid (show setA ws n = T by rw [hres.out, HT.out])
        clear HT
        go_wp2_with (first | ((with_reducible refine wp_region_up (by kernel_rfl) (by kernel_rfl) ?_); (repeat (go_big_quiet_step (fail))); refine wpQuiet_nil ?_; intro _ hw'; obtain ⟨nq, hw''⟩ := hw'; subst hw''))
        go_ret
        rw [hfin.out]
        exact ⟨rfl, UpOf.of (BL.o (by repeat constructor))⟩
/-- a justified line, or why there is none -/
theorem setLineR_any (n : Int) (A : Option Addr) (c : Nat) (ws : List ByteArray) (w : World) (h : Rds w 1 A ws.length (strs ws)) (hc : ws.length ≤ c) (hn : ws.length ≤ 100000000) (hf : WBd ws) :
    Calls Tryz.prog 80 #[.slice A ws.length c, i64 n] w fun e w' => e = .returned (.tuple #[.string (setR ws n).1, i64 (setR ws n).2]) ∧ UpOf w w' := by
  have HR := Lib.hid h
  have HF := Lib.hid hf
  clear h hf
  cases hv : vText ws n with
  | false =>
    have hr := Lib.hid (show setR ws n = (⟨#[]⟩, 1) by rw [setR, hv]; rfl)
    go_enter Tryz.func80, Tryz.ntmps80
    go_wp2_with (first | (go_at_call 131; refine (ret_as (validText_any n A c ws _ (HR.out.below (BL.o (by repeat constructor))) hn HF.out) hv).mono ?_; rintro e w' ⟨rfl, g, rfl⟩) | ((with_reducible refine wp_region_up (by kernel_rfl) (by kernel_rfl) ?_); (repeat (go_big_quiet_step (first | (go_at_call 131; first | exact upq_tr (ret_as (validText_any n A c ws _ (HR.out.below (BL.o (by repeat constructor))) hn HF.out) hv) | exact upq (ret_as (validText_any n A c ws _ (HR.out.below (BL.o (by repeat constructor))) hn HF.out) hv))))); refine wpQuiet_nil ?_; intro _ hw'; obtain ⟨nq, hw''⟩ := hw'; subst hw''))
    go_ret2
    rw [hr.out]
    exact ⟨rfl, UpOf.of (BL.o (by repeat constructor))⟩
  | true =>
    obtain ⟨LL, hLL⟩ : ∃ l, longL ws = l := ⟨_, rfl⟩
    have HLL : Hid (∀ V, Below w.heap.size w V → Calls Tryz.prog 132 #[.slice A ws.length c] V fun e w' => e = .returned (i64 LL) ∧ V = w') := Lib.hid fun V hV => by
      have := lineLength_any _ c _ V (HR.out.below hV) (by omega) HF.out
      rw [hLL] at this
      exact this
    by_cases hl : n < LL
    · have hr := Lib.hid (show setR ws n = (⟨#[]⟩, 5) by rw [setR, hv, if_pos rfl, hLL, if_pos hl])
      clear hLL
      go_enter Tryz.func80, Tryz.ntmps80
      go_wp2_with (first | (go_at_call 131; refine (ret_as (validText_any n A c ws _ (HR.out.below (BL.o (by repeat constructor))) hn HF.out) hv).mono ?_; rintro e w' ⟨rfl, g, rfl⟩) | (go_at_call 132; refine (HLL.out _ (BL.o (by repeat constructor))).mono ?_; rintro e w' ⟨rfl, rfl⟩) | ((with_reducible refine wp_region_up (by kernel_rfl) (by kernel_rfl) ?_); (repeat (go_big_quiet_step (first | (go_at_call 131; first | exact upq_tr (ret_as (validText_any n A c ws _ (HR.out.below (BL.o (by repeat constructor))) hn HF.out) hv) | exact upq (ret_as (validText_any n A c ws _ (HR.out.below (BL.o (by repeat constructor))) hn HF.out) hv)) | (go_at_call 132; first | exact upq_tr_same (HLL.out _ (BL.o (by repeat constructor))) | exact upq_same (HLL.out _ (BL.o (by repeat constructor))))))); refine wpQuiet_nil ?_; intro _ hw'; obtain ⟨nq, hw''⟩ := hw'; subst hw''))
      go_ret2
      rw [hr.out]
      exact ⟨rfl, UpOf.of (BL.o (by repeat constructor))⟩
    · by_cases h0 : ws.length = 0
      · have h0' : ((ws.length : Int) == 0) = true := by rw [beq_iff_eq]; omega
        have hr := Lib.hid (show setR ws n = (⟨#[]⟩, 3) by rw [setR, hv, if_pos rfl, hLL, if_neg hl, if_pos h0])
        clear hLL h0
        go_enter Tryz.func80, Tryz.ntmps80
        go_wp2_with (first | (go_at_call 131; refine (ret_as (validText_any n A c ws _ (HR.out.below (BL.o (by repeat constructor))) hn HF.out) hv).mono ?_; rintro e w' ⟨rfl, g, rfl⟩) | (go_at_call 132; refine (HLL.out _ (BL.o (by repeat constructor))).mono ?_; rintro e w' ⟨rfl, rfl⟩) | ((with_reducible refine wp_region_up (by kernel_rfl) (by kernel_rfl) ?_); (repeat (go_big_quiet_step (first | (go_at_call 131; first | exact upq_tr (ret_as (validText_any n A c ws _ (HR.out.below (BL.o (by repeat constructor))) hn HF.out) hv) | exact upq (ret_as (validText_any n A c ws _ (HR.out.below (BL.o (by repeat constructor))) hn HF.out) hv)) | (go_at_call 132; first | exact upq_tr_same (HLL.out _ (BL.o (by repeat constructor))) | exact upq_same (HLL.out _ (BL.o (by repeat constructor))))))); refine wpQuiet_nil ?_; intro _ hw'; obtain ⟨nq, hw''⟩ := hw'; subst hw''))
        go_ret2
        rw [hr.out]
        exact ⟨rfl, UpOf.of (BL.o (by repeat constructor))⟩
      · have h0' : ((ws.length : Int) == 0) = false := by rw [beq_eq_false_iff_ne]; omega
        have hr := Lib.hid (show setR ws n = (bs (setA ws n), 0) by rw [setR, hv, if_pos rfl, hLL, if_neg hl, if_neg h0])
        have HL2 := Lib.hid (show longL ws ≤ n by omega)
        clear hLL
        go_enter Tryz.func80, Tryz.ntmps80
        go_wp2_with (first | (go_at_call 131; refine (ret_as (validText_any n A c ws _ (HR.out.below (BL.o (by repeat constructor))) hn HF.out) hv).mono ?_; rintro e w' ⟨rfl, g, rfl⟩) | (go_at_call 132; refine (HLL.out _ (BL.o (by repeat constructor))).mono ?_; rintro e w' ⟨rfl, rfl⟩) | (go_at_call 133; refine (setLine_any n A c ws _ (HR.out.below (BL.o (by repeat constructor))) hc (by omega) hv HL2.out).mono ?_; rintro e w' ⟨rfl, g, rfl⟩) | ((with_reducible refine wp_region_up (by kernel_rfl) (by kernel_rfl) ?_); (repeat (go_big_quiet_step (first | (go_at_call 131; first | exact upq_tr (ret_as (validText_any n A c ws _ (HR.out.below (BL.o (by repeat constructor))) hn HF.out) hv) | exact upq (ret_as (validText_any n A c ws _ (HR.out.below (BL.o (by repeat constructor))) hn HF.out) hv)) | (go_at_call 132; first | exact upq_tr_same (HLL.out _ (BL.o (by repeat constructor))) | exact upq_same (HLL.out _ (BL.o (by repeat constructor)))) | (go_at_call 133; first | exact upq_tr (setLine_any n A c ws _ (HR.out.below (BL.o (by repeat constructor))) hc (by omega) hv HL2.out) | exact upq (setLine_any n A c ws _ (HR.out.below (BL.o (by repeat constructor))) hc (by omega) hv HL2.out))))); refine wpQuiet_nil ?_; intro _ hw'; obtain ⟨nq, hw''⟩ := hw'; subst hw''))
        go_ret2
        rw [hr.out]
        exact ⟨rfl, UpOf.of (BL.o (by repeat constructor))⟩
end Go.Proofs.YtbianlkenallaaaGreatDoor

/-
  AlignTexts and MarkOf: the reference's. The bounds stand at each.
-/
import Derived.Test.YtbianlkenallaaaGreatDoorAlignR5
import Derived.Test.YtbianlkenallaaaGreatDoorMgE
set_option linter.all false
set_option maxHeartbeats 2000000
set_option maxRecDepth 10000
namespace Go.Proofs.YtbianlkenallaaaGreatDoor
open Go.RowKit
theorem alignTextsS_any (a b : ByteArray) (w : World) (ha : a.size ≤ 9223372036854775807) (hb : b.size ≤ 9223372036854775807) :
  Calls Tryz.prog 147 #[.string a, .string b] w fun e w' => e = .returned (.tuple #[.string (alnR a b).1, i64 (alnR a b).2]) ∧ UpOf w w' := by
 have HT := hd_ (fun V => l19Two_any a b V ha hb)
 cases h1 : (typed a && typed b) with
 | false =>
  have hr := hd_ (show alnR a b = (⟨#[]⟩, 2) by unfold alnR; rw [h1]; rfl)
  have hc : (if (typed a && typed b) = true then (0 : Int) else 2) = 2 := by rw [h1]; rfl
  rw [hc] at HT
  go_enter Tryz.func147, Tryz.ntmps147
  go_wp2_with fail
  refine (HT.out _).mono ?_
  rintro e w' ⟨rfl, rfl⟩
  go_wp2_with fail
  go_ret2
  rw [hr.out]
  exact ⟨rfl, uw_⟩
 | true =>
  have hr := hd_ (show alnR a b = (bs (alnA a b 0 0), 0) by unfold alnR; rw [h1]; rfl)
  have hc : (if (typed a && typed b) = true then (0 : Int) else 2) = 0 := by rw [h1]; rfl
  rw [hc] at HT
  rw [Bool.and_eq_true] at h1
  have l1 := typed_len h1.1
  have l2 := typed_len h1.2
  clear h1 hc
  go_enter Tryz.func147, Tryz.ntmps147
  go_wp2_with fail
  refine (HT.out _).mono ?_
  rintro e w' ⟨rfl, rfl⟩
  go_wp2_with fail
  refine (l19Align_any a b _ l1 l2).mono ?_
  rintro e w' ⟨rfl, g, rfl⟩
  go_wp2_with fail
  go_ret2
  rw [hr.out]
  exact ⟨rfl, uw_⟩
def someC (a b : ByteArray) : Int := if typed a && typed b then (if a.size = 0 then 3 else 0) else 2
theorem l19Some_any (a b : ByteArray) (w : World) (ha : a.size ≤ 9223372036854775807) (hb : b.size ≤ 9223372036854775807) :
  Calls Tryz.prog 196 #[.string a, .string b] w fun e w' => e = .returned (i64 (someC a b)) ∧ w = w' := by
 have HT := hd_ (fun V => l19Two_any a b V ha hb)
 cases h1 : (typed a && typed b) with
 | false =>
  have hr := hd_ (show someC a b = 2 by unfold someC; rw [h1]; rfl)
  have hc : (if (typed a && typed b) = true then (0 : Int) else 2) = 2 := by rw [h1]; rfl
  rw [hc] at HT
  go_enter Tryz.func196, Tryz.ntmps196
  go_wp2_with fail
  refine (HT.out _).mono ?_
  rintro e w' ⟨rfl, rfl⟩
  go_wp2_with fail
  go_ret
  rw [hr.out]
  exact ⟨rfl, rfl⟩
 | true =>
  have hc : (if (typed a && typed b) = true then (0 : Int) else 2) = 0 := by rw [h1]; rfl
  rw [hc] at HT
  by_cases h0 : a.size = 0
  ·have hz := isEmpty_yes h0
   have hr := hd_ (show someC a b = 3 by unfold someC; rw [h1, if_pos rfl, if_pos h0])
   clear h1 hc h0
   go_enter Tryz.func196, Tryz.ntmps196
   go_wp2_with fail
   refine (HT.out _).mono ?_
   rintro e w' ⟨rfl, rfl⟩
   go_wp2_with fail
   go_ret
   rw [hr.out]
   exact ⟨rfl, rfl⟩
  ·have hz := isEmpty_no (s := a) (by omega)
   have hr := hd_ (show someC a b = 0 by unfold someC; rw [h1, if_pos rfl, if_neg h0])
   clear h1 hc h0
   go_enter Tryz.func196, Tryz.ntmps196
   go_wp2_with fail
   refine (HT.out _).mono ?_
   rintro e w' ⟨rfl, rfl⟩
   go_wp2_with fail
   go_ret
   rw [hr.out]
   exact ⟨rfl, rfl⟩
theorem someC_0 {a b : ByteArray} (h : someC a b = 0) : typed a = true ∧ typed b = true ∧ ¬ a.size = 0 ∧ mrkR a b = (markL (cst a b 0 0) a.size 5 1 1, 0) := by
 unfold someC at h
 cases h1 : typed a
 ·rw [h1] at h; simp at h
 ·cases h2 : typed b
  ·rw [h1, h2] at h; simp at h
  ·rw [h1, h2, if_pos (by rfl)] at h
   by_cases h3 : a.size = 0
   ·rw [if_pos h3] at h; cases h
   ·exact ⟨rfl, rfl, h3, by unfold mrkR; rw [h1, h2, if_pos (show (true && true) = true from rfl), if_neg h3]; rfl⟩
theorem someC_n {a b : ByteArray} (h : ¬ someC a b = 0) : mrkR a b = (0, someC a b) := by
 unfold someC mrkR at *
 split at h
 ·split at h
  ·rename_i h1 h2
   rw [if_pos h1, if_pos h2, if_pos h1, if_pos h2]
  ·exact absurd rfl h
 ·rename_i h1
  rw [if_neg h1, if_neg h1]
theorem markOfS_any (a b : ByteArray) (w : World) (ha : a.size ≤ 9223372036854775807) (hb : b.size ≤ 9223372036854775807) :
  Calls Tryz.prog 162 #[.string a, .string b] w fun e w' => e = .returned (.tuple #[i64 (mrkR a b).1, i64 (mrkR a b).2]) ∧ UpOf w w' := by
 have HS := hd_ (fun V => l19Some_any a b V ha hb)
 obtain ⟨cd, hcd⟩ : ∃ c, someC a b = c := ⟨_, rfl⟩
 rw [hcd] at HS
 by_cases h0 : cd = 0
 ·subst h0
  obtain ⟨h1, h2, h3, hr⟩ := someC_0 hcd
  have HRR := hd_ hr
  clear hr
  obtain ⟨n, hn⟩ : ∃ n, a.size = n := ⟨_, rfl⟩
  have HN := hd_ hn
  have hn60 : n ≤ 60 := by rw [← hn]; exact typed_len h1
  have hn1 : 0 < n := by omega
  have HTY := hd_ (show typed a = true ∧ typed b = true from ⟨h1, h2⟩)
  clear h1 h2 h3 hcd
  go_enter Tryz.func162, Tryz.ntmps162
  go_wp2_with fail
  refine (HS.out _).mono ?_
  rintro e w' ⟨rfl, rfl⟩
  go_wp2_with fail
  refine (l19Costs_any a b _ (typed_len HTY.out.1) (typed_len HTY.out.2)).mono ?_
  rintro e w' ⟨B, Q, rfl, HT⟩
  have HU := hd_ HT.u
  have r0 := HT.row (i := 0) (by omega) (by omega)
  have r1 := HT.cell (i := 0) (j := 0) (by omega) (by omega) (by omega)
  have r2 := HT.o.lt
  have r3 := (HT.r 0 (by omega) (by omega)).lt
  obtain ⟨e0, he0⟩ : ∃ e, cst a b 0 0 = e := ⟨_, rfl⟩
  have he1 : 0 ≤ e0 := by rw [← he0]; exact cst_nn _ _ _ _
  have he2 : e0 ≤ 120 := by
   have := cst_bd a b _ 0 0 rfl
   have := typed_len HTY.out.2
   omega
  have HR := hd_ (show mrkR a b = (markL e0 n 5 1 1, 0) from by rw [HRR.out, he0, HN.out])
  rw [he0] at r1
  clear HRR he0 HT HS
  go_wp2_with fail
  go_loopw [8, 9] (fun t8 t9 wr => ∃ (f T : Nat) (P mk : Int), f ≤ 5 ∧ T = 2 ^ (5 - f) ∧ Hid (P = (T : Int) * (n : Int)) ∧ mk = 6 - (f : Int) ∧ t8 = .int .i64 P ∧ t9 = .int .i64 mk ∧ Hid (markL e0 n 5 1 1 = markL e0 n f T mk) ∧ wr = w') (fun _ t9 _ => (6 - intOf t9).toNat)
  case atStart => exact ⟨5, 1, n, 1, by omega, rfl, hd_ (by simp), by omega, rfl, rfl, hd_ rfl, rfl⟩
  case round =>
   obtain ⟨f, T, P, mk, hf, hT, HP, hmk, rfl, rfl, HK, rfl⟩ := hrel
   have hT32 : T ≤ 32 := by rw [hT]; exact pow5_le f
   have hTn : P ≤ 1920 := by
    have h9 : T * n ≤ 32 * 60 := Nat.mul_le_mul hT32 hn60
    rw [HP.out]
    exact_mod_cast h9
   have hTn0 : 0 ≤ P := by rw [HP.out]; exact Int.mul_nonneg (by omega) (by omega)
   cases f with
   | zero =>
    have hfin := hd_ (show markL e0 n 5 1 1 = 6 from by rw [HK.out, show mk = 6 by omega]; rfl)
    have hm6 : ¬ mk ≤ 5 := by omega
    have hm7 : decide (mk ≤ 5) = false := decide_eq_false hm6
    clear hmk hT HK
    go_wp2_with fail
    go_ret2
    rw [HR.out, hfin.out]
    exact ⟨rfl, HU.out⟩
   | succ f =>
    have hT2 := pow5 (f := f) (by omega)
    rw [← hT] at hT2
    have HT2 := hd_ hT2
    have HMK := hd_ hmk
    have hm7 : decide (mk ≤ 5) = true := decide_eq_true (by omega)
    have hm8 : mk ≤ 5 := by omega
    have hm9 : 1 ≤ mk := by omega
    by_cases hlt : 100 * e0 ≤ P
    ·have ht : decide (100 * e0 ≤ P) = true := decide_eq_true hlt
     have hfin := hd_ (show markL e0 n 5 1 1 = mk from by rw [HK.out, markL, if_neg (by rw [← HP.out]; omega)])
     clear hT HK hlt hT2 hmk
     go_wp2_with fail
     go_ret2
     rw [HR.out, hfin.out]
     exact ⟨rfl, HU.out⟩
    ·have ht : decide (100 * e0 ≤ P) = false := decide_eq_false hlt
     have HK2 := hd_ (show markL e0 n 5 1 1 = markL e0 n f ((T * 2 : Nat) : Int) (mk + 1) from by
      rw [HK.out, markL, if_pos (by rw [← HP.out]; omega)]; push_cast; rfl)
     have HP2 := hd_ (show P * 2 = ((T * 2 : Nat) : Int) * (n : Int) from by
      rw [HP.out]; push_cast; rw [Int.mul_right_comm])
     clear hT HK hlt hT2 hmk
     go_wp2_with fail
     refine ⟨⟨f, T * 2, P * 2, mk + 1, by omega, HT2.out, HP2, by have := HMK.out; omega, rfl, rfl, HK2, by first | rfl | trivial⟩, by simp [intOf]; try omega⟩
 ·have hr := hd_ (show mrkR a b = (0, cd) by rw [someC_n (by rw [hcd]; exact h0), hcd])
  have hq : (cd != 0) = true := by rw [bne_iff_ne]; exact h0
  clear hcd
  go_enter Tryz.func162, Tryz.ntmps162
  go_wp2_with fail
  refine (HS.out _).mono ?_
  rintro e w' ⟨rfl, rfl⟩
  go_wp2_with fail
  go_ret2
  rw [hr.out]
  exact ⟨rfl, uw_⟩
end Go.Proofs.YtbianlkenallaaaGreatDoor

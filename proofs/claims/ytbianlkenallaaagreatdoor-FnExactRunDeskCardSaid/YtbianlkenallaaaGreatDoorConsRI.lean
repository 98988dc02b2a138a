/-
  RunDesk of the reference: what it answers. The bounds stand at it; the methods align and mark: as premises.
-/
import Derived.Test.YtbianlkenallaaaGreatDoorConsRH
import Derived.Test.YtbianlkenallaaaGreatDoorConsY
import Derived.Test.YtbianlkenallaaaGreatDoorMgF
import Derived.Test.YtbianlkenallaaaGreatDoorConsR8
import Derived.Test.YtbianlkenallaaaGreatDoorMgA
set_option linter.all false
set_option maxHeartbeats 8000000
set_option maxRecDepth 10000
namespace Go.Proofs.YtbianlkenallaaaGreatDoor
open Go.RowKit
theorem UpX.rds {w V : World} {sb b sz n : Nat} {xs : List Value} (h : UpX w sb V) (hr : Rds w sz (some ⟨b, 0, none⟩) n xs) (hne : b ≠ sb) : Rds V sz (some ⟨b, 0, none⟩) n xs := by
 refine ⟨hr.1, fun hp => ?_⟩
 obtain ⟨b9, o9, e9, hb, hc⟩ := hr.2 hp
 injection e9 with e9
 injection e9 with e91 e92
 subst e91 e92
 refine ⟨b, 0, rfl, Nat.lt_of_lt_of_le hb h.below.size, fun j u hj => ?_⟩
 rw [← hc j u hj]
 simp only [World.cell?, h.block b hb hne]
theorem UpX.past {w V1 V : World} {sb : Nat} (hu : UpOf w V1) (h : UpX V1 sb V) (hs : w.heap.size ≤ sb) : UpOf w V :=
 UpOf.of ⟨h.os.trans hu.below.os, h.tape.trans hu.below.tape, h.output.trans hu.below.output, Nat.le_trans hu.below.size h.below.size, fun k hk => (h.block k (Nat.lt_of_lt_of_le hk hu.below.size) (by omega)).trans (hu.below.block k hk)⟩
theorem runDeskS_any {two : List ByteArray → ByteArray × Int} (h2 : TwoOk two) (hal : KOk two 0 100) (hmk : KOk two 9 109) (s : ByteArray) (w : World) (hs : s.size ≤ 1048576) :
  Calls Tryz.prog 13 #[.string s] w fun e w' => e = .returned (.string (runR two s)) ∧ UpOf w w' := by
 obtain ⟨P, hP⟩ : ∃ P, splitA 10 [] s.data.toList = P := ⟨_, rfl⟩
 have HSP := hd_ (fun V => l01Split_any s 10 10 rfl V (by omega))
 rw [hP] at HSP
 have hP1 : 0 < P.length := by rw [← hP]; exact List.length_pos_iff.2 (splitA_ne 10 _ _)
 have hPl : P.length ≤ 1048577 := by
  have := split_len 10 s.data.toList []
  rw [hP, bsz] at this
  omega
 obtain ⟨FIN, hFIN⟩ : ∃ F, runL two 60 dk0 (linesOf s) = F := ⟨_, rfl⟩
 have hRR : runR two s = ⟨FIN.toArray⟩ := by rw [runR, hFIN]
 rw [hRR]
 have HFIN0 := hd_ hFIN
 clear hRR hFIN
 go_enter Tryz.func13, Tryz.ntmps13
 go_wp2_with fail
 refine (l28New_any _).mono ?_
 rintro r w' ⟨rfl, g0, rfl⟩
 go_upto_region 2 with (fail)
 have hb0 : Blk ((up w g0).alloc (.cells #[i64 44, i64 3, i64 2, i64 2, i64 3, .slice none 0 0, .slice none 0 0, .string ⟨#[]⟩, .slice none 0 0, .slice none 0 0, .slice none 0 0] 77)) (up w g0).heap.size 77 #[i64 44, i64 3, i64 2, i64 2, i64 3, .slice none 0 0, .slice none 0 0, .string ⟨#[]⟩, .slice none 0 0, .slice none 0 0, .slice none 0 0] := Blk.new _ _ _
 go_wp2_with fail
 refine (HSP.out _).mono ?_
 rintro r w' ⟨AP, cP, rfl, op, g1, rfl⟩
 obtain ⟨bP, rfl⟩ := own_someT op hP1
 have hb1 := hb0.up g1
 have HL1 := hd_ (show LE _ _ (up w g0).heap.size dk0 none none 0 0 none 0 [] (.slice none 0 0) (.slice none 0 0) from ⟨hb1, ⟨⟨rfl, .inl ⟨rfl, rfl⟩⟩, ⟨rfl, .inl ⟨rfl, rfl⟩⟩⟩, ⟨rfl, .inl ⟨rfl, rfl⟩⟩, UpX.of (Below.refl _ _), trivial⟩)
 have HP1 := hd_ (Rds.of_own op)
 have hne : bP ≠ (up w g0).heap.size := fun e9 => by
  have := (op.lt bP rfl).1
  rw [e9] at this
  change ((up w g0).alloc (.cells _ _)).heap.size ≤ _ at this
  rw [World.size_alloc] at this
  omega
 have hsbw : w.heap.size ≤ (up w g0).heap.size := (up_below w g0).size
 go_upto_region 3 with (fail)
 refine wpg (R := fun V => Hid (LE V V (up w g0).heap.size dk0 none none 0 0 none 0 [] (.slice none 0 0) (.slice none 0 0)) ∧ Hid (Rds V 1 (some ⟨bP, 0, none⟩) P.length (strs P)) ∧ Hid (UpOf w V)) ⟨HL1, HP1, hd_ uw_⟩ (fun V1 z => ?_)
 obtain ⟨HL2, HP2, HU2⟩ := z
 have hPc := own_capD op
 clear hb0 hb1 HL1 HP1 op HSP
 generalize (up w g0).heap.size = sb at *
 clear g1 g0
 obtain ⟨m, hm⟩ : ∃ m, P.length - 1 = m := ⟨_, rfl⟩
 have hm1 : (P.length : Int) - 1 = (m : Int) := by omega
 have hmP : m < P.length := by omega
 obtain ⟨hbP, cL⟩ := ws_at HP2.out hmP
 rw [Nat.zero_add] at cL
 have hmc : (m : Int) ≤ (cP : Int) := by omega
 have hm0 : (0 : Int) ≤ (m : Int) := by omega
 have hmP' : (m : Int) < (P.length : Int) := by omega
 obtain ⟨Ls, hLs⟩ : ∃ Ls, linesOf s = Ls := ⟨_, rfl⟩
 rw [hLs] at HFIN0
 have HSZ : Hid (∀ i, i < P.length → (wd P i).size ≤ 1048576) := hd_ fun i hi => by
  have h9 : i < (splitA 10 [] s.data.toList).length := by rw [hP]; exact hi
  have := split_size 10 s.data.toList [] (wd P i) (by rw [← hP, ← wd_eq h9]; exact List.getElem_mem h9)
  rw [bsz] at this
  simp at this
  omega
 have hgl : P.getLast? = some (wd P m) := by rw [List.getLast?_eq_getElem?, hm, List.getElem?_eq_getElem hmP, wd_eq hmP]
 rw [linesOf, hP, hgl] at hLs
 have HCS : Hid (∃ N : Nat, Ls.length = N ∧ (∀ i, i < N → wd Ls i = wd P i) ∧ N ≤ P.length ∧ (((wd P m).size = 0 ∧ N = m) ∨ (¬ (wd P m).size = 0 ∧ N = P.length))) := hd_ (by
  by_cases hz : (wd P m).size = 0
  ·have hPm : wd P m = ⟨#[]⟩ := ba_ext (by
    have : (wd P m).data.toList = [] := List.eq_nil_of_length_eq_zero (by rw [bsz]; exact hz)
    rw [this])
   rw [if_pos (by rw [hPm])] at hLs
   refine ⟨m, by rw [← hLs, List.length_dropLast, hm], fun i hi => ?_, by omega, .inl ⟨hz, rfl⟩⟩
   have h8 : i < P.dropLast.length := by rw [List.length_dropLast]; omega
   have h9 : i < P.length := by omega
   rw [← hLs, ← wd_eq h8, ← wd_eq h9, List.getElem_dropLast]
  ·rw [if_neg (fun e9 => hz (by injection e9 with e9; rw [e9]; rfl))] at hLs
   exact ⟨P.length, by rw [← hLs], fun i hi => by rw [← hLs], Nat.le_refl _, .inr ⟨hz, rfl⟩⟩)
 clear hLs hgl hP
 obtain ⟨N, hLN, hLI, hNP, hNc⟩ := HCS.out
 have HLN := hd_ hLN
 have HLI := hd_ hLI
 have HNc := hd_ hNc
 clear HCS hLN hLI hNc
 go_upto_if 17 with (fail)
 go_cut [4] (fun x V => x = .slice (some ⟨bP, 0, none⟩) N cP ∧ V1 = V)
 case first =>
  rcases HNc.out with ⟨hz, h9⟩ | ⟨hz, h9⟩
  ·have he := isEmpty_yes hz
   have HE9 := hd_ h9
   clear hz h9 HNc
   simp only [he]
   go_wp2_with fail
   go_meet
   exact ⟨by rw [HE9.out], rfl⟩
  ·have he := isEmpty_no (s := wd P m) (by omega)
   have HE9 := hd_ h9
   clear hz h9 HNc
   simp only [he]
   go_wp2_with fail
   go_meet
   exact ⟨by rw [HE9.out], rfl⟩
 case rest =>
  obtain ⟨rfl, rfl⟩ := hcut
  clear cL hmc hm0 hmP' hmP hm1 hm HNc
  go_wp2_with fail
  go_loopw [5] (fun t5 wr => ∃ (i : Nat) (D : DeskD) (A B : Option Addr) (c e : Nat) (O : Option Addr) (oc : Nat) (L : List ByteArray) (x y : Value), i ≤ 60 ∧ i ≤ N ∧ t5 = i64 i ∧ Hid (FIN = outB L ++ runL two (60 - i) D (Ls.drop i)) ∧ Hid (vDesk D = true) ∧ Hid (L.length ≤ 4001 * i) ∧ Hid ((outB L).length ≤ 500000 * i) ∧ Hid (LE V1 wr sb D A B c e O oc L x y)) (fun t5 _ => N - (intOf t5).toNat)
  case atStart => exact ⟨0, dk0, none, none, 0, 0, none, 0, [], _, _, by omega, by omega, rfl, hd_ (by rw [← HFIN0.out]; rfl), hd_ dk0_ok, hd_ (by simp), hd_ (by simp [outB]), HL2⟩
  case round =>
   clear HL2 HFIN0
   obtain ⟨i, D, A, B, c, e, O, oc, L, x, y, hi60, hiN, rfl, HF, HV, HLL, HOL, HL⟩ := hrel
   by_cases hlt : i < N
   ·have hlt' : (i : Int) < (N : Int) := by omega
    have HDR := hd_ (show Ls.drop i = wd P i :: Ls.drop (i + 1) by
     have h9 : i < Ls.length := by rw [HLN.out]; exact hlt
     rw [List.drop_eq_getElem_cons h9, wd_eq h9, HLI.out i hlt])
    have hL1 : L.length ≤ 800000 := by have := HLL.out; omega
    by_cases h60 : i = 60
    ·have h60' : (60 : Int) ≤ (i : Int) := by omega
     have HFE := hd_ (show FIN = outB (L ++ [errL 5]) by
      rw [HF.out, HDR.out, show 60 - i = 0 by omega, runL]; simp [outB])
     have ho9 : (outB (L ++ [errL 5])).length ≤ 50000000 := by
      have h1 := HOL.out
      have h2 := errL_size 5
      rw [outB_snoc, List.length_append, List.length_append, bsz, List.length_singleton]
      omega
     have hl9 : (L ++ [errL 5]).length ≤ 10000000 := by rw [List.length_append, List.length_singleton]; omega
     obtain ⟨L2, hL2⟩ : ∃ l, L ++ [errL 5] = l := ⟨_, rfl⟩
     rw [hL2] at HFE ho9 hl9
     have HLL2 := hd_ hL2
     clear h60 hL2
     go_wp2_with fail
     refine (reportR_any V1 sb D A B c e O oc L x y 5 _ (HL.out.below bw_) (by omega) (by decide)).mono ?_
     rintro r w' ⟨rfl, A2, B2, c2, e2, O2, oc2, hle⟩
     rw [HLL2.out] at hle
     have HLE := hd_ hle
     clear hle HL
     obtain ⟨hsb9, -, k8, -, -⟩ := HLE.out.cel
     go_wp2_with fail
     refine (l28Lines_any _ _ (L2) _ ((Rds.of_own HLE.out.ow).below bw_) hl9 ho9).mono ?_
     rintro r w' ⟨rfl, g9, rfl⟩
     go_wp2_with fail
     go_ret
     rw [HFE.out]
     exact ⟨rfl, (UpX.past HU2.out HLE.out.up hsbw).tr bw_⟩
    ·have h60' : ¬ (60 : Int) ≤ (i : Int) := by omega
     have HDO := hd_ (DoH.of (L := L) (s := wd P i) HV.out hL1 (HSZ.out i (by omega)))
     have HPr := hd_ (HL.out.up.rds HP2.out hne)
     obtain ⟨hbP', cI⟩ := ws_at HPr.out (i := i) (by omega)
     rw [Nat.zero_add] at cI
     have HCALL := hd_ (fun (V : World) (hV : LE V1 V sb D A B c e O oc L x y) => do_any h2 hal hmk V1 sb D A B c e O oc L x y (wd P i) V hV (HSZ.out i (by omega)) HDO.out)
     obtain ⟨RS, hRS⟩ : ∃ RS, doL two D (wd P i) = RS := ⟨_, rfl⟩
     have HRS := hd_ hRS
     rw [hRS] at HCALL
     clear hRS
     cases RS with
     | none =>
      have HF2 := hd_ (show FIN = outB (L ++ [⟨#[63]⟩]) ++ runL two (60 - (i + 1)) D (Ls.drop (i + 1)) by
       rw [HF.out, HDR.out, show 60 - i = 59 - i + 1 by omega, runL_none HRS.out, show 60 - (i + 1) = 59 - i by omega, outB_snoc]
       simp)
      clear HDR HDO HRS HF
      go_wp2_with fail
      refine (HCALL.out _ (HL.out.below bw_)).mono ?_
      rintro r w' ⟨rfl, x1, y1, A1, B1, c1, e1, O1, oc1, hle⟩
      have HLE := hd_ hle
      clear hle HL HCALL
      go_wp2_with fail
      refine (say_any V1 sb D _ _ _ _ _ _ L _ _ _ _ (HLE.out.below bw_) (by omega)).mono ?_
      rintro r w' ⟨rfl, A2, B2, c2, e2, O2, oc2, hle⟩
      have HLE2 := hd_ hle
      clear hle HLE
      go_wp2_with fail
      go_roundw
      case rel => exact ⟨i + 1, D, A2, B2, c2, e2, O2, oc2, L ++ [⟨#[63]⟩], x1, y1, by omega, by omega, by go_num, HF2, HV, hd_ (by have := HLL.out; rw [List.length_append, List.length_singleton]; omega), hd_ (by
       have h1 := HOL.out
       rw [outB_snoc, List.length_append]
       simp
       omega), HLE2⟩
      case measure => (simp [intOf]; try omega)
     | some RP =>
      obtain ⟨D2, M⟩ := RP
      have HF2 := hd_ (show FIN = outB (L ++ M) ++ runL two (60 - (i + 1)) D2 (Ls.drop (i + 1)) by
       rw [HF.out, HDR.out, show 60 - i = 59 - i + 1 by omega, runL_some HRS.out, show 60 - (i + 1) = 59 - i by omega]
       simp [outB])
      have HV2 := hd_ (doL_ok two HV.out HRS.out).1
      have HM1 := hd_ (show M.length ≤ 4001 by
       have h9 := HRS.out
       unfold doL at h9
       split at h9
       ·injection h9 with h9
        have h8 := doK_lines (two := two) HV.out (splitA 32 [] (wd P i).data.toList) (kindOf (wd (splitA 32 [] (wd P i).data.toList) 0))
        rw [h9] at h8
        exact h8
       ·cases h9)
      have HM2 := hd_ (doL_size h2 HV.out HRS.out)
      clear HDR HDO HRS HF
      go_wp2_with fail
      refine (HCALL.out _ (HL.out.below bw_)).mono ?_
      rintro r w' ⟨rfl, x1, y1, A1, B1, c1, e1, O1, oc1, hle⟩
      have HLE := hd_ hle
      clear hle HL HCALL
      go_wp2_with fail
      go_roundw
      case rel => exact ⟨i + 1, D2, A1, B1, c1, e1, O1, oc1, L ++ M, x1, y1, by omega, by omega, by go_num, HF2, HV2, hd_ (by have := HLL.out; have := HM1.out; rw [List.length_append]; omega), hd_ (by
       have h1 := HOL.out
       have h2 := HM2.out
       simp only [szB] at h2
       have h3 : outB (L ++ M) = outB L ++ outB M := by simp [outB]
       rw [h3, List.length_append]
       omega), HLE⟩
      case measure => (simp [intOf]; try omega)
   ·have hlt' : ¬ (i : Int) < (N : Int) := by omega
    have HFE := hd_ (show FIN = outB L by
     rw [HF.out, List.drop_eq_nil_of_le (by rw [HLN.out]; omega)]
     unfold runL
     simp)
    have ho9 : (outB L).length ≤ 50000000 := by have h1 := HOL.out; omega
    have hl9 : L.length ≤ 10000000 := by have := HLL.out; omega
    have HLE := HL
    clear HL
    obtain ⟨hsb9, -, k8, -, -⟩ := HLE.out.cel
    go_wp2_with fail
    refine (l28Lines_any _ _ (L) _ ((Rds.of_own HLE.out.ow).below bw_) hl9 ho9).mono ?_
    rintro r w' ⟨rfl, g9, rfl⟩
    go_wp2_with fail
    go_ret
    rw [HFE.out]
    exact ⟨rfl, (UpX.past HU2.out HLE.out.up hsbw).tr bw_⟩
end Go.Proofs.YtbianlkenallaaaGreatDoor

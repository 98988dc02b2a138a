/-
  The reference's console: its methods set and line. The bounds stand at each.
-/
import Derived.Test.YtbianlkenallaaaGreatDoorConsR9
import Derived.Test.YtbianlkenallaaaGreatDoorConsR6
import Derived.Test.YtbianlkenallaaaGreatDoorMgE
set_option linter.all false
set_option maxHeartbeats 2000000
set_option maxRecDepth 10000
namespace Go.Proofs.YtbianlkenallaaaGreatDoor
open Go.RowKit
theorem setM_any (w0 : World) (sb : Nat) (D : DeskD) (A B : Option Addr) (c e : Nat) (O : Option Addr) (oc : Nat) (L : List ByteArray) (NA : Option Addr) (nc : Nat) (ns : List Int) (TA : Option Addr) (tc : Nat) (ts : List ByteArray) (w : World) (h : ME w0 w sb D A B c e O oc L NA nc ns TA tc ts)
  (hl : ns.length = 1) (ht : ts.length = 1) (hs : (wd ts 0).size ≤ 1048576) (hn : L.length ≤ 1000000) :
  Calls Tryz.prog 111 #[.pointer (some ⟨sb, 0, none⟩)] w fun r w' => mePost w0 sb D (L ++ sent (setR (wordsA [] (wd ts 0).data.toList) (num ns 0))) r w' := by
 obtain ⟨tb, rfl, htb, hc⟩ := h.txt0 (by omega)
 have c0 := hc 0 (by omega)
 obtain ⟨nb, rfl, hnb, hc'⟩ := h.num0 (by omega)
 have d0 := hc' 0 (by omega)
 have HM := hd_ h
 obtain ⟨hsb, ⟨x0, x1, x2, x3, x4, x5, x6, x7⟩, -, k9, k10⟩ := h.le.cel
 obtain ⟨s, hs9⟩ : ∃ s, wd ts 0 = s := ⟨_, rfl⟩
 rw [hs9] at c0 hs ⊢
 obtain ⟨N, hN9⟩ : ∃ N, num ns 0 = N := ⟨_, rfl⟩
 rw [hN9] at d0 ⊢
 obtain ⟨R, hR⟩ : ∃ R, wordsA [] s.data.toList = R := ⟨_, rfl⟩
 have HRl : Hid (R.length ≤ 100000000 ∧ WBd R) := hd_ (by
  refine ⟨?_, fun i hi => ?_⟩
  ·have := words_len s.data.toList []
   rw [hR, bsz] at this
   omega
  ·have := words_size s.data.toList [] (wd R i) (by rw [hR, ← wd_eq hi]; exact List.getElem_mem hi)
   rw [bsz] at this
   simp at this
   omega)
 have HSW : Hid (∀ V, Calls Tryz.prog 150 #[.string s] V fun e w' => txPost R V e w') := hd_ fun V => by
  rw [← hR]; exact splitWordsS_any s V hs
 rw [hR]
 obtain ⟨T, hT⟩ : ∃ T, (setR R N).1 = T := ⟨_, rfl⟩
 obtain ⟨cd, hcd⟩ : ∃ cd, (setR R N).2 = cd := ⟨_, rfl⟩
 have HC : Hid (∀ V A1 c1, Rds V 1 A1 R.length (strs R) → Calls Tryz.prog 164 #[.slice A1 R.length c1, i64 N] V fun e w' => e = .returned (.tuple #[.string T, i64 cd]) ∧ UpOf V w') := hd_ fun V A1 c1 ho => by
  have := setLineS_any N A1 c1 R V ho HRl.out.1 HRl.out.2
  rw [hT, hcd] at this
  exact this
 rw [show setR R N = (T, cd) from by rw [← hT, ← hcd]]
 obtain ⟨ls, hls⟩ : ∃ ls, sent (T, cd) = ls := ⟨_, rfl⟩
 rw [hls]
 have HLS := hd_ hls
 clear hls
 rw [ht] at k10
 rw [hl] at k9
 clear hT hcd hs9 hc h hR hN9 hc'
 go_enter Tryz.func111, Tryz.ntmps111
 go_upto_region 0 with (fail)
 go_region_held3 (fun w' => (w).heap.size ≤ w'.heap.size ∧ ∀ b o, b < (w).heap.size → w'.cell? ⟨b, o, none⟩ = (w).cell? ⟨b, o, none⟩) (exact sm_of bw_) (first | (go_at_call 150; refine (HSW.out _).mono ?_; rintro e w' ⟨A1, c1, rfl, o1, g1, rfl⟩) | (go_at_call 164; refine (HC.out _ A1 c1 ((Rds.of_own o1).below bw_)).mono ?_; rintro e w' ⟨rfl, g2, rfl⟩))
 clear o1
 by_cases h0 : cd = 0
 ·subst h0
  have hr : ls = [T] := HLS.out.symm
  subst hr
  go_wp2_with fail
  refine (reportR0_any _ _).mono ?_
  rintro r w' ⟨rfl, rfl⟩
  go_wp2_with fail
  refine (say_any w0 sb D _ _ _ _ _ _ L _ _ T _ (HM.out.le.below bw_) hn).mono ?_
  rintro r w' ⟨rfl, hp⟩
  go_wp2_with fail
  go_end0
  exact ⟨rfl, _, _, hp⟩
 ·have hr : ls = [errL cd] := by rw [← HLS.out, sent, if_neg h0]
  subst hr
  go_wp2_with fail
  refine (reportR_any w0 sb D A B c e O oc L _ _ cd _ (HM.out.le.below bw_) hn h0).mono ?_
  rintro r w' ⟨rfl, hp⟩
  go_wp2_with fail
  go_end0
  exact ⟨rfl, _, _, hp⟩
theorem lineM_any (w0 : World) (sb : Nat) (D : DeskD) (A B : Option Addr) (c e : Nat) (O : Option Addr) (oc : Nat) (L : List ByteArray) (NA : Option Addr) (nc : Nat) (ns : List Int) (TA : Option Addr) (tc : Nat) (ts : List ByteArray) (w : World) (h : ME w0 w sb D A B c e O oc L NA nc ns TA tc ts)
  (hl : ns.length = 1) (ht : ts.length = 1) (hs : (wd ts 0).size ≤ 1048576) (hn : L.length ≤ 1000000) (hd : D.drills.length ≤ 100000000) (hf : DBd D.drills) :
  Calls Tryz.prog 107 #[.pointer (some ⟨sb, 0, none⟩)] w fun r w' => mePost w0 sb D (L ++ (match findD D.drills (wd ts 0) with | none => [errL 3] | some x => sent (dlR x (num ns 0)))) r w' := by
 obtain ⟨tb, rfl, htb, hc⟩ := h.txt0 (by omega)
 have c0 := hc 0 (by omega)
 obtain ⟨nb, rfl, hnb, hc'⟩ := h.num0 (by omega)
 have d0 := hc' 0 (by omega)
 have HM := hd_ h
 obtain ⟨hsb, ⟨x0, x1, x2, x3, x4, x5, x6, x7⟩, -, k9, k10⟩ := h.le.cel
 obtain ⟨s, hs9⟩ : ∃ s, wd ts 0 = s := ⟨_, rfl⟩
 rw [hs9] at c0 hs ⊢
 obtain ⟨N, hN9⟩ : ∃ N, num ns 0 = N := ⟨_, rfl⟩
 rw [hN9] at d0 ⊢
 rw [ht] at k10
 rw [hl] at k9
 have HRD := hd_ (Rds.of_own h.le.dw.2)
 clear hs9 hc h hN9 hc'
 rcases idxD_some D.drills D.drills.length s with ⟨e1, e2⟩ | ⟨k, hk, e1, e2, e3⟩
 ·have HFD : Hid (∀ V, Below w.heap.size w V → Calls Tryz.prog 144 #[.slice B D.drills.length e, .string s] V fun e w' => e = .returned (i64 (-1)) ∧ V = w') := hd_ fun V hV => by
   have := l21Find_any B D.drills.length e D.drills s V (HRD.out.below hV) (Nat.le_refl _) hd
   rw [e1] at this
   exact this
  rw [findD_no e2]
  clear e1 e2
  go_enter Tryz.func107, Tryz.ntmps107
  go_wp2_with (first | ((with_reducible refine wru ?_); (repeat (go_big_quiet_step (first | (go_at_call 144; exact uqs_ (HFD.out _ bw_))))); refine wqn fun nq => ?_))
  refine (reportR_any w0 sb D A B c e O oc L _ _ 3 _ (HM.out.le.below bw_) hn (by decide)).mono ?_
  rintro r w' ⟨rfl, hp⟩
  go_wp2_with fail
  go_end0
  exact ⟨rfl, _, _, hp⟩
 ·have HFD : Hid (∀ V, Below w.heap.size w V → Calls Tryz.prog 144 #[.slice B D.drills.length e, .string s] V fun e w' => e = .returned (i64 (k : Int)) ∧ V = w') := hd_ fun V hV => by
   have := l21Find_any B D.drills.length e D.drills s V (HRD.out.below hV) (Nat.le_refl _) hd
   rw [e1] at this
   exact this
  rw [findD_at hk e2 e3]
  obtain ⟨b, off, rfl, hb, y0, y1, y2⟩ := drl_at HRD.out hk
  have f1 := hf k hk
  have hki : (k : Int) < (D.drills.length : Int) := by omega
  obtain ⟨X, hX⟩ : ∃ X, drl D.drills k = X := ⟨_, rfl⟩
  rw [hX] at y0 y1 y2 f1
  show Calls _ _ _ _ fun r w' => mePost w0 sb D (L ++ (sent (dlR (drl D.drills k) N))) r w'
  rw [hX]
  obtain ⟨T, hT⟩ : ∃ T, (dlR X N).1 = T := ⟨_, rfl⟩
  obtain ⟨cd, hcd⟩ : ∃ cd, (dlR X N).2 = cd := ⟨_, rfl⟩
  have HC : Hid (∀ V, Calls Tryz.prog 160 #[drv X, i64 N] V fun e w' => e = .returned (.tuple #[.string T, i64 cd]) ∧ UpOf V w') := hd_ fun V => by
   have := drillLineS_any X N V (by omega) (by omega)
   rw [hT, hcd] at this
   exact this
  rw [show dlR X N = (T, cd) from by rw [← hT, ← hcd]]
  clear e1 e2 e3 hX hT hcd f1
  by_cases h0 : cd = 0
  ·subst h0
   have hr : sent (T, 0) = [T] := rfl
   rw [hr]
   clear hr
   go_enter Tryz.func107, Tryz.ntmps107
   go_wp2_with (first | ((with_reducible refine wru ?_); (repeat (go_big_quiet_step (first | (go_at_call 144; exact uqs_ (HFD.out _ bw_)) | (go_at_call 160; exact uq_ (HC.out _))))); refine wqn fun nq => ?_))
   refine (reportR0_any _ _).mono ?_
   rintro r w' ⟨rfl, rfl⟩
   go_wp2_with fail
   refine (say_any w0 sb D _ _ _ _ _ _ L _ _ T _ (HM.out.le.below bw_) hn).mono ?_
   rintro r w' ⟨rfl, hp⟩
   go_wp2_with fail
   go_end0
   exact ⟨rfl, _, _, hp⟩
  ·have hr : sent (T, cd) = [errL cd] := by rw [sent, if_neg h0]
   rw [hr]
   clear hr
   go_enter Tryz.func107, Tryz.ntmps107
   go_wp2_with (first | ((with_reducible refine wru ?_); (repeat (go_big_quiet_step (first | (go_at_call 144; exact uqs_ (HFD.out _ bw_)) | (go_at_call 160; exact uq_ (HC.out _))))); refine wqn fun nq => ?_))
   refine (reportR_any w0 sb D _ _ _ _ _ _ L _ _ cd _ (HM.out.le.below bw_) hn h0).mono ?_
   rintro r w' ⟨rfl, hp⟩
   go_wp2_with fail
   go_end0
   exact ⟨rfl, _, _, hp⟩
end Go.Proofs.YtbianlkenallaaaGreatDoor

/-
  The reference's console: its methods align and mark. The bounds stand at each.
-/
import Derived.Test.YtbianlkenallaaaGreatDoorConsRH
import Derived.Test.YtbianlkenallaaaGreatDoorMgF
import Derived.Test.YtbianlkenallaaaGreatDoorAlignR4
set_option linter.all false
set_option maxHeartbeats 2000000
set_option maxRecDepth 10000
namespace Go.Proofs.YtbianlkenallaaaGreatDoor
open Go.RowKit
theorem alignM_any (w0 : World) (sb : Nat) (D : DeskD) (A B : Option Addr) (c e : Nat) (O : Option Addr) (oc : Nat) (L : List ByteArray) (NA : Option Addr) (nc : Nat) (ns : List Int) (TA : Option Addr) (tc : Nat) (ts : List ByteArray) (w : World) (h : ME w0 w sb D A B c e O oc L NA nc ns TA tc ts)
  (ht : ts.length = 2) (hs0 : (wd ts 0).size ≤ 1048576) (hs1 : (wd ts 1).size ≤ 1048576) (hn : L.length ≤ 1000000) :
  Calls Tryz.prog 100 #[.pointer (some ⟨sb, 0, none⟩)] w fun r w' => mePost w0 sb D (L ++ sent (alnR (wd ts 0) (wd ts 1))) r w' := by
 obtain ⟨tb, rfl, htb, hc⟩ := h.txt0 (by omega)
 have c0 := hc 0 (by omega)
 have c1 := hc 1 (by omega)
 have HM := hd_ h
 obtain ⟨hsb, ⟨x0, x1, x2, x3, x4, x5, x6, x7⟩, -, k9, k10⟩ := h.le.cel
 obtain ⟨s, hs9⟩ : ∃ s, wd ts 0 = s := ⟨_, rfl⟩
 obtain ⟨t, ht9⟩ : ∃ t, wd ts 1 = t := ⟨_, rfl⟩
 rw [hs9] at c0 hs0 ⊢
 rw [ht9] at c1 hs1 ⊢
 obtain ⟨T, hT⟩ : ∃ T, (alnR s t).1 = T := ⟨_, rfl⟩
 obtain ⟨cd, hcd⟩ : ∃ cd, (alnR s t).2 = cd := ⟨_, rfl⟩
 have HC : Hid (∀ V, Calls Tryz.prog 147 #[.string s, .string t] V fun e w' => e = .returned (.tuple #[.string T, i64 cd]) ∧ UpOf V w') := hd_ fun V => by
  have := alignTextsS_any s t V (by omega) (by omega)
  rw [hT, hcd] at this
  exact this
 rw [show alnR s t = (T, cd) from by rw [← hT, ← hcd]]
 rw [ht] at k10
 clear hT hcd hs9 ht9 hc h
 by_cases h0 : cd = 0
 ·subst h0
  have hr : sent (T, 0) = [T] := rfl
  rw [hr]
  clear hr
  go_enter Tryz.func100, Tryz.ntmps100
  go_wp2_with (first | ((with_reducible refine wru ?_); (repeat (go_big_quiet_step (first | (go_at_call 147; exact uq_ (HC.out _))))); refine wqn fun nq => ?_))
  refine (reportR0_any _ _).mono ?_
  rintro r w' ⟨rfl, rfl⟩
  go_wp2_with fail
  refine (say_any w0 sb D _ _ _ _ _ _ L _ _ T _ (HM.out.le.below bw_) hn).mono ?_
  rintro r w' ⟨rfl, hp⟩
  go_wp2_with fail
  go_end0
  exact ⟨rfl, _, _, hp⟩
 ·have hr : sent (T, cd) = [errL cd] := by rw [sent, if_neg h0]
  rw [hr]
  clear hr
  go_enter Tryz.func100, Tryz.ntmps100
  go_wp2_with (first | ((with_reducible refine wru ?_); (repeat (go_big_quiet_step (first | (go_at_call 147; exact uq_ (HC.out _))))); refine wqn fun nq => ?_))
  refine (reportR_any w0 sb D _ _ _ _ _ _ L _ _ cd _ (HM.out.le.below bw_) hn h0).mono ?_
  rintro r w' ⟨rfl, hp⟩
  go_wp2_with fail
  go_end0
  exact ⟨rfl, _, _, hp⟩
theorem markM_any (w0 : World) (sb : Nat) (D : DeskD) (A B : Option Addr) (c e : Nat) (O : Option Addr) (oc : Nat) (L : List ByteArray) (NA : Option Addr) (nc : Nat) (ns : List Int) (TA : Option Addr) (tc : Nat) (ts : List ByteArray) (w : World) (h : ME w0 w sb D A B c e O oc L NA nc ns TA tc ts)
  (ht : ts.length = 2) (hs0 : (wd ts 0).size ≤ 1048576) (hs1 : (wd ts 1).size ≤ 1048576) (hn : L.length ≤ 1000000) :
  Calls Tryz.prog 109 #[.pointer (some ⟨sb, 0, none⟩)] w fun r w' => mePost w0 sb D (L ++ nmb (mrkR (wd ts 0) (wd ts 1))) r w' := by
 obtain ⟨tb, rfl, htb, hc⟩ := h.txt0 (by omega)
 have c0 := hc 0 (by omega)
 have c1 := hc 1 (by omega)
 have HM := hd_ h
 obtain ⟨hsb, ⟨x0, x1, x2, x3, x4, x5, x6, x7⟩, -, k9, k10⟩ := h.le.cel
 obtain ⟨s, hs9⟩ : ∃ s, wd ts 0 = s := ⟨_, rfl⟩
 obtain ⟨t, ht9⟩ : ∃ t, wd ts 1 = t := ⟨_, rfl⟩
 rw [hs9] at c0 hs0 ⊢
 rw [ht9] at c1 hs1 ⊢
 obtain ⟨T, hT⟩ : ∃ T, (mrkR s t).1 = T := ⟨_, rfl⟩
 obtain ⟨cd, hcd⟩ : ∃ cd, (mrkR s t).2 = cd := ⟨_, rfl⟩
 have hbd := mrkR_bd2 s t
 have HC : Hid (∀ V, Calls Tryz.prog 162 #[.string s, .string t] V fun e w' => e = .returned (.tuple #[i64 T, i64 cd]) ∧ UpOf V w') := hd_ fun V => by
  have := markOfS_any s t V (by omega) (by omega)
  rw [hT, hcd] at this
  exact this
 rw [show mrkR s t = (T, cd) from by rw [← hT, ← hcd]]
 rw [hT] at hbd
 rw [ht] at k10
 clear hT hcd hs9 ht9 hc h
 by_cases h0 : cd = 0
 ·subst h0
  have hr : nmb (T, 0) = [dec T] := rfl
  rw [hr]
  clear hr
  go_enter Tryz.func109, Tryz.ntmps109
  go_wp2_with (first | ((with_reducible refine wru ?_); (repeat (go_big_quiet_step (first | (go_at_call 162; exact uq_ (HC.out _))))); refine wqn fun nq => ?_))
  refine (reportR0_any _ _).mono ?_
  rintro r w' ⟨rfl, rfl⟩
  go_wp2_with fail
  refine (l01Dec_any T _ (by omega) (by omega)).mono ?_
  rintro r w' ⟨rfl, g9, rfl⟩
  go_wp2_with fail
  refine (say_any w0 sb D _ _ _ _ _ _ L _ _ (dec T) _ (HM.out.le.below bw_) hn).mono ?_
  rintro r w' ⟨rfl, hp⟩
  go_wp2_with fail
  go_end0
  exact ⟨rfl, _, _, hp⟩
 ·have hr : nmb (T, cd) = [errL cd] := by rw [nmb, if_neg h0]
  rw [hr]
  clear hr
  go_enter Tryz.func109, Tryz.ntmps109
  go_wp2_with (first | ((with_reducible refine wru ?_); (repeat (go_big_quiet_step (first | (go_at_call 162; exact uq_ (HC.out _))))); refine wqn fun nq => ?_))
  refine (reportR_any w0 sb D _ _ _ _ _ _ L _ _ cd _ (HM.out.le.below bw_) hn h0).mono ?_
  rintro r w' ⟨rfl, hp⟩
  go_wp2_with fail
  go_end0
  exact ⟨rfl, _, _, hp⟩
theorem k0 (two : List ByteArray → ByteArray × Int) : KOk two 0 100 := by
 intro w0 sb D A B c e O oc L NA nc ns TA tc ts w W h hd hf hw
 have h3 : W.length = 3 := by simpa [fitK] using hf
 rw [wF_0 (.inl rfl) h3] at hw
 injection hw with hw
 injection hw with e1 e2
 subst e1 e2
 exact alignM_any w0 sb D A B c e O oc L NA nc [] TA tc [wd W 1, wd W 2] w h rfl (hd.ws 1 (by omega)) (hd.ws 2 (by omega)) (by have := hd.n; omega)
theorem k9 (two : List ByteArray → ByteArray × Int) : KOk two 9 109 := by
 intro w0 sb D A B c e O oc L NA nc ns TA tc ts w W h hd hf hw
 have h3 : W.length = 3 := by simpa [fitK] using hf
 rw [wF_0 (.inr rfl) h3] at hw
 injection hw with hw
 injection hw with e1 e2
 subst e1 e2
 exact markM_any w0 sb D A B c e O oc L NA nc [] TA tc [wd W 1, wd W 2] w h rfl (hd.ws 1 (by omega)) (hd.ws 2 (by omega)) (by have := hd.n; omega)
end Go.Proofs.YtbianlkenallaaaGreatDoor

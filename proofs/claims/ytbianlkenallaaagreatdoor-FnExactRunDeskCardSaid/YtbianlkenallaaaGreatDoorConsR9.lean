/-
  The reference's console: its methods row, fast, wait, set, code. The bounds stand at each.
-/
import Derived.Test.YtbianlkenallaaaGreatDoorConsR1
import Derived.Test.YtbianlkenallaaaGreatDoorConsR2
import Derived.Test.YtbianlkenallaaaGreatDoorConsR3
import Derived.Test.YtbianlkenallaaaGreatDoorConsR7
import Derived.Test.YtbianlkenallaaaGreatDoorCodeT5
import Derived.Test.YtbianlkenallaaaGreatDoorSetR
import Derived.Test.YtbianlkenallaaaGreatDoorMgC
import Derived.Test.YtbianlkenallaaaGreatDoorMgA
set_option linter.all false
set_option maxHeartbeats 2000000
set_option maxRecDepth 10000
namespace Go.Proofs.YtbianlkenallaaaGreatDoor
open Go.RowKit
structure ME (w0 V : World) (sb : Nat) (D : DeskD) (A B : Option Addr) (c e : Nat) (O : Option Addr) (oc : Nat) (L : List ByteArray) (NA : Option Addr) (nc : Nat) (ns : List Int) (TA : Option Addr) (tc : Nat) (ts : List ByteArray) : Prop where
 le : LE w0 V sb D A B c e O oc L (.slice NA ns.length nc) (.slice TA ts.length tc)
 nr : V.ownsRow w0.heap.size 2 1 (.slice NA ns.length nc) ns.length (ics ns)
 tr : V.ownsRow w0.heap.size 9 1 (.slice TA ts.length tc) ts.length (strs ts)
def mePost (w0 : World) (sb : Nat) (D : DeskD) (L : List ByteArray) (r : Ending) (w' : World) : Prop := r = .returned (.tuple #[]) ∧ ∃ x y, lePost w0 sb D L x y w'
section
variable {w0 V : World} {sb : Nat} {D : DeskD} {A B O NA TA : Option Addr} {c e oc nc tc : Nat} {L ts : List ByteArray} {ns : List Int}
theorem ME.num0 (h : ME w0 V sb D A B c e O oc L NA nc ns TA tc ts) (hn : 0 < ns.length) : ∃ nb, NA = some ⟨nb, 0, none⟩ ∧ nb < V.heap.size ∧ ∀ i, i < ns.length → V.cell? ⟨nb, i, none⟩ = some (i64 (num ns i)) := by
 obtain ⟨nb, rfl⟩ := own_someT h.nr hn
 refine ⟨nb, rfl, (h.nr.lt nb rfl).2, fun i hi => ?_⟩
 obtain ⟨b, off, e9, hb, c0⟩ := num_at (Rds.of_own h.nr) hi
 injection e9 with e9
 injection e9 with e91 e92
 subst e91 e92
 rwa [Nat.zero_add] at c0
theorem ME.txt0 (h : ME w0 V sb D A B c e O oc L NA nc ns TA tc ts) (hn : 0 < ts.length) : ∃ tb, TA = some ⟨tb, 0, none⟩ ∧ tb < V.heap.size ∧ ∀ i, i < ts.length → V.cell? ⟨tb, i, none⟩ = some (.string (wd ts i)) := by
 obtain ⟨tb, rfl⟩ := own_someT h.tr hn
 refine ⟨tb, rfl, (h.tr.lt tb rfl).2, fun i hi => ?_⟩
 have := (ws_at (Rds.of_own h.tr) hi).2
 rwa [Nat.zero_add] at this
end
theorem rowM_any (w0 : World) (sb : Nat) (D : DeskD) (A B : Option Addr) (c e : Nat) (O : Option Addr) (oc : Nat) (L : List ByteArray) (NA : Option Addr) (nc : Nat) (ns : List Int) (TA : Option Addr) (tc : Nat) (ts : List ByteArray) (w : World) (h : ME w0 w sb D A B c e O oc L NA nc ns TA tc ts)
  (ht : ts.length = 1) (hs : (wd ts 0).size ≤ 9223372036854775807) (hn : L.length ≤ 1000000) (hd : D.stops.length ≤ 100000000) :
  Calls Tryz.prog 110 #[.pointer (some ⟨sb, 0, none⟩)] w fun r w' => mePost w0 sb D (L ++ sent (rowR D.stops (wd ts 0))) r w' := by
 obtain ⟨tb, rfl, htb, hc⟩ := h.txt0 (by omega)
 have c0 := hc 0 (by omega)
 have HM := hd_ h
 obtain ⟨hsb, ⟨x0, x1, x2, x3, x4, x5, x6, x7⟩, -, k9, k10⟩ := h.le.cel
 obtain ⟨s, hs9⟩ : ∃ s, wd ts 0 = s := ⟨_, rfl⟩
 rw [hs9] at c0 hs ⊢
 obtain ⟨T, hT⟩ : ∃ T, (rowR D.stops s).1 = T := ⟨_, rfl⟩
 obtain ⟨cd, hcd⟩ : ∃ cd, (rowR D.stops s).2 = cd := ⟨_, rfl⟩
 have HC : Hid (∀ V, Below w.heap.size w V → Calls Tryz.prog 163 #[.slice A D.stops.length c, .string s] V fun e w' => e = .returned (.tuple #[.string T, i64 cd]) ∧ UpOf V w') := hd_ fun V hV => by
  have := rowPlanS_any s A c D.stops V hs ((Rds.of_own HM.out.le.dw.1).below hV) hd
  rw [hT, hcd] at this
  exact this
 rw [show rowR D.stops s = (T, cd) from by rw [← hT, ← hcd]]
 rw [ht] at k10
 clear hT hcd hs9 hc h
 by_cases h0 : cd = 0
 ·subst h0
  have hr : sent (T, 0) = [T] := rfl
  rw [hr]
  clear hr
  go_enter Tryz.func110, Tryz.ntmps110
  go_wp2_with (first | ((with_reducible refine wru ?_); (repeat (go_big_quiet_step (first | (go_at_call 163; exact uq_ (HC.out _ bw_))))); refine wqn fun nq => ?_))
  refine (reportR0_any _ _).mono ?_
  rintro r w' ⟨rfl, rfl⟩
  go_wp2_with fail
  refine (say_any w0 sb D _ _ _ _ _ _ L _ _ T _ (HM.out.le.below bw_) hn).mono ?_
  rintro r w' ⟨rfl, hp⟩
  go_wp2_with fail
  go_end0
  exact ⟨rfl, _, _, hp⟩
 ·have hr : sent (T, cd) = [errL cd] := by rw [sent, if_neg h0]
  rw [hr]
  clear hr
  go_enter Tryz.func110, Tryz.ntmps110
  go_wp2_with (first | ((with_reducible refine wru ?_); (repeat (go_big_quiet_step (first | (go_at_call 163; exact uq_ (HC.out _ bw_))))); refine wqn fun nq => ?_))
  refine (reportR_any w0 sb D _ _ _ _ _ _ L _ _ cd _ (HM.out.le.below bw_) hn h0).mono ?_
  rintro r w' ⟨rfl, hp⟩
  go_wp2_with fail
  go_end0
  exact ⟨rfl, _, _, hp⟩
theorem fastM_any (w0 : World) (sb : Nat) (D : DeskD) (A B : Option Addr) (c e : Nat) (O : Option Addr) (oc : Nat) (L : List ByteArray) (NA : Option Addr) (nc : Nat) (ns : List Int) (TA : Option Addr) (tc : Nat) (ts : List ByteArray) (w : World) (h : ME w0 w sb D A B c e O oc L NA nc ns TA tc ts)
  (hl : ns.length ≤ 100000000) (hn : L.length ≤ 1000000) :
  Calls Tryz.prog 106 #[.pointer (some ⟨sb, 0, none⟩)] w fun r w' => mePost w0 sb D (L ++ nmb (tfR D.b ns)) r w' := by
 have hbd := tfR_bd D.b ns
 have HM := hd_ h
 obtain ⟨hsb, ⟨x0, x1, x2, x3, x4, x5, x6, x7⟩, -, k9, k10⟩ := h.le.cel
 obtain ⟨N, hN⟩ : ∃ N, (tfR D.b ns).1 = N := ⟨_, rfl⟩
 obtain ⟨cd, hcd⟩ : ∃ cd, (tfR D.b ns).2 = cd := ⟨_, rfl⟩
 have HC : Hid (∀ V, Below w.heap.size w V → Calls Tryz.prog 159 #[bsv D.b, .slice NA ns.length nc] V fun e w' => e = .returned (.tuple #[i64 N, i64 cd]) ∧ UpOf V w') := hd_ fun V hV => by
  have := ticksForS_any D.b NA nc ns V ((Rds.of_own HM.out.nr).below hV) hl
  rw [hN, hcd] at this
  exact this
 rw [show tfR D.b ns = (N, cd) from by rw [← hN, ← hcd]]
 rw [hN] at hbd
 clear hN hcd h
 by_cases h0 : cd = 0
 ·subst h0
  have hr : nmb (N, 0) = [dec N] := rfl
  rw [hr]
  clear hr
  go_enter Tryz.func106, Tryz.ntmps106
  go_wp2_with (first | ((with_reducible refine wru ?_); (repeat (go_big_quiet_step (first | (go_at_call 159; exact uq_ (HC.out _ bw_))))); refine wqn fun nq => ?_))
  refine (reportR0_any _ _).mono ?_
  rintro r w' ⟨rfl, rfl⟩
  go_wp2_with fail
  refine (l01Dec_any N _ (by omega) (by omega)).mono ?_
  rintro r w' ⟨rfl, g9, rfl⟩
  go_wp2_with fail
  refine (say_any w0 sb D _ _ _ _ _ _ L _ _ (dec N) _ (HM.out.le.below bw_) hn).mono ?_
  rintro r w' ⟨rfl, hp⟩
  go_wp2_with fail
  go_end0
  exact ⟨rfl, _, _, hp⟩
 ·have hr : nmb (N, cd) = [errL cd] := by rw [nmb, if_neg h0]
  rw [hr]
  clear hr
  go_enter Tryz.func106, Tryz.ntmps106
  go_wp2_with (first | ((with_reducible refine wru ?_); (repeat (go_big_quiet_step (first | (go_at_call 159; exact uq_ (HC.out _ bw_))))); refine wqn fun nq => ?_))
  refine (reportR_any w0 sb D _ _ _ _ _ _ L _ _ cd _ (HM.out.le.below bw_) hn h0).mono ?_
  rintro r w' ⟨rfl, hp⟩
  go_wp2_with fail
  go_end0
  exact ⟨rfl, _, _, hp⟩
theorem waitM_any (w0 : World) (sb : Nat) (D : DeskD) (A B : Option Addr) (c e : Nat) (O : Option Addr) (oc : Nat) (L : List ByteArray) (NA : Option Addr) (nc : Nat) (ns : List Int) (TA : Option Addr) (tc : Nat) (ts : List ByteArray) (w : World) (h : ME w0 w sb D A B c e O oc L NA nc ns TA tc ts)
  (hl : ns.length = 2) (hn : L.length ≤ 1000000) :
  Calls Tryz.prog 113 #[.pointer (some ⟨sb, 0, none⟩)] w fun r w' => mePost w0 sb D (L ++ nmb (mwR D.b (num ns 0) (num ns 1))) r w' := by
 have hbd := mwR_bd D.b (num ns 0) (num ns 1)
 obtain ⟨nb, rfl, hnb, hc⟩ := h.num0 (by omega)
 have c0 := hc 0 (by omega)
 have c1 := hc 1 (by omega)
 have HM := hd_ h
 obtain ⟨hsb, ⟨x0, x1, x2, x3, x4, x5, x6, x7⟩, -, k9, k10⟩ := h.le.cel
 obtain ⟨a0, ha0⟩ : ∃ a, num ns 0 = a := ⟨_, rfl⟩
 obtain ⟨a1, ha1⟩ : ∃ a, num ns 1 = a := ⟨_, rfl⟩
 rw [ha0] at c0 hbd ⊢
 rw [ha1] at c1 hbd ⊢
 obtain ⟨N, hN⟩ : ∃ N, (mwR D.b a0 a1).1 = N := ⟨_, rfl⟩
 obtain ⟨cd, hcd⟩ : ∃ cd, (mwR D.b a0 a1).2 = cd := ⟨_, rfl⟩
 have HC : Hid (∀ V, Calls Tryz.prog 165 #[bsv D.b, i64 a0, i64 a1] V fun e w' => e = .returned (.tuple #[i64 N, i64 cd]) ∧ UpOf V w') := hd_ fun V => by
  have := mustWaitS_any D.b a0 a1 V
  rw [hN, hcd] at this
  exact this
 rw [show mwR D.b a0 a1 = (N, cd) from by rw [← hN, ← hcd]]
 rw [hN] at hbd
 rw [hl] at k9
 clear hN hcd ha0 ha1 hc h
 by_cases h0 : cd = 0
 ·subst h0
  have hr : nmb (N, 0) = [dec N] := rfl
  rw [hr]
  clear hr
  go_enter Tryz.func113, Tryz.ntmps113
  go_wp2_with (first | ((with_reducible refine wru ?_); (repeat (go_big_quiet_step (first | (go_at_call 165; exact uq_ (HC.out _))))); refine wqn fun nq => ?_))
  refine (reportR0_any _ _).mono ?_
  rintro r w' ⟨rfl, rfl⟩
  go_wp2_with fail
  refine (l01Dec_any N _ (by omega) (by omega)).mono ?_
  rintro r w' ⟨rfl, g9, rfl⟩
  go_wp2_with fail
  refine (say_any w0 sb D _ _ _ _ _ _ L _ _ (dec N) _ (HM.out.le.below bw_) hn).mono ?_
  rintro r w' ⟨rfl, hp⟩
  go_wp2_with fail
  go_end0
  exact ⟨rfl, _, _, hp⟩
 ·have hr : nmb (N, cd) = [errL cd] := by rw [nmb, if_neg h0]
  rw [hr]
  clear hr
  go_enter Tryz.func113, Tryz.ntmps113
  go_wp2_with (first | ((with_reducible refine wru ?_); (repeat (go_big_quiet_step (first | (go_at_call 165; exact uq_ (HC.out _))))); refine wqn fun nq => ?_))
  refine (reportR_any w0 sb D _ _ _ _ _ _ L _ _ cd _ (HM.out.le.below bw_) hn h0).mono ?_
  rintro r w' ⟨rfl, hp⟩
  go_wp2_with fail
  go_end0
  exact ⟨rfl, _, _, hp⟩
theorem codeM_any {two : List ByteArray → ByteArray × Int} (h2 : TwoOk two) (w0 : World) (sb : Nat) (D : DeskD) (A B : Option Addr) (c e : Nat) (O : Option Addr) (oc : Nat) (L : List ByteArray) (NA : Option Addr) (nc : Nat) (ns : List Int) (TA : Option Addr) (tc : Nat) (ts : List ByteArray) (w : World) (h : ME w0 w sb D A B c e O oc L NA nc ns TA tc ts)
  (ht : ts.length = 1) (hs : (wd ts 0).size ≤ 1048576) (hn : L.length ≤ 1000000) :
  Calls Tryz.prog 102 #[.pointer (some ⟨sb, 0, none⟩)] w fun r w' => mePost w0 sb D (L ++ codeOut (two (wordsA [] (wd ts 0).data.toList))) r w' := by
 obtain ⟨tb, rfl, htb, hc⟩ := h.txt0 (by omega)
 have c0 := hc 0 (by omega)
 have HM := hd_ h
 obtain ⟨hsb, ⟨x0, x1, x2, x3, x4, x5, x6, x7⟩, -, k9, k10⟩ := h.le.cel
 obtain ⟨s, hs9⟩ : ∃ s, wd ts 0 = s := ⟨_, rfl⟩
 rw [hs9] at c0 hs ⊢
 obtain ⟨R, hR⟩ : ∃ R, wordsA [] s.data.toList = R := ⟨_, rfl⟩
 have HRl : Hid (R.length ≤ 100000000 ∧ ∀ i, i < R.length → (wd R i).size ≤ 100000000) := hd_ (by
  refine ⟨?_, fun i hi => ?_⟩
  ·have := words_len s.data.toList []
   rw [hR, bsz] at this
   omega
  ·have := words_size s.data.toList [] (wd R i) (by rw [hR, ← wd_eq hi]; exact List.getElem_mem hi)
   rw [bsz] at this
   simp at this
   omega)
 have HSW : Hid (∀ V, Calls Tryz.prog 150 #[.string s] V fun e w' => txPost R V e w') := hd_ fun V => by
  rw [← hR]; exact splitWordsS_any s V hs
 rw [hR]
 obtain ⟨T, hT⟩ : ∃ T, (two R).1 = T := ⟨_, rfl⟩
 obtain ⟨cd, hcd⟩ : ∃ cd, (two R).2 = cd := ⟨_, rfl⟩
 have HC : Hid (∀ V A1 c1, V.ownsRow w.heap.size 9 1 (.slice A1 R.length c1) R.length (strs R) → Calls Tryz.prog 149 #[.slice A1 R.length c1] V fun e w' => e = .returned (.tuple #[.string T, i64 cd]) ∧ UpOf V w') := hd_ fun V A1 c1 ho => by
  have := twoReadingsS_any h2 A1 c1 R V (Rds.of_own ho) (own_capD ho) HRl.out.1 HRl.out.2
  rw [hT, hcd] at this
  exact this
 rw [show two R = (T, cd) from by rw [← hT, ← hcd]]
 rw [ht] at k10
 clear hT hcd hs9 hc h hR h2
 obtain ⟨ls, hls⟩ : ∃ ls, codeOut (T, cd) = ls := ⟨_, rfl⟩
 rw [hls]
 have HLS := hd_ hls
 clear hls
 by_cases h3 : cd = 3
 ·subst h3
  have hr := hd_ (show ls = [⟨#[117, 110, 105, 113, 117, 101]⟩] from by rw [← HLS.out]; rfl)
  rw [hr.out]
  go_enter Tryz.func102, Tryz.ntmps102
  go_wp2_with fail
  refine (HSW.out _).mono ?_
  rintro e w' ⟨A1, c1, rfl, o1, g1, rfl⟩
  go_wp2_with fail
  refine (HC.out _ A1 c1 o1).mono ?_
  rintro e w' ⟨rfl, g2, rfl⟩
  clear o1
  go_wp2_with fail
  refine (say_any w0 sb D _ _ _ _ _ _ L _ _ ⟨#[117, 110, 105, 113, 117, 101]⟩ _ (HM.out.le.below bw_) hn).mono ?_
  rintro r w' ⟨rfl, hp⟩
  go_wp2_with fail
  go_end0
  exact ⟨rfl, _, _, hp⟩
 ·have h3' : (cd == 3) = false := by rw [beq_eq_false_iff_ne]; exact h3
  have hr := hd_ (show ls = sent (T, cd) from by rw [← HLS.out, codeOut, if_neg h3])
  rw [hr.out]
  clear h3
  by_cases h0 : cd = 0
  ·subst h0
   have hr : sent (T, 0) = [T] := rfl
   rw [hr]
   clear hr
   go_enter Tryz.func102, Tryz.ntmps102
   go_wp2_with fail
   refine (HSW.out _).mono ?_
   rintro e w' ⟨A1, c1, rfl, o1, g1, rfl⟩
   go_wp2_with fail
   refine (HC.out _ A1 c1 o1).mono ?_
   rintro e w' ⟨rfl, g2, rfl⟩
   clear o1
   go_wp2_with fail
   refine (reportR0_any _ _).mono ?_
   rintro r w' ⟨rfl, rfl⟩
   go_wp2_with fail
   refine (say_any w0 sb D _ _ _ _ _ _ L _ _ T _ (HM.out.le.below bw_) hn).mono ?_
   rintro r w' ⟨rfl, hp⟩
   go_wp2_with fail
   go_end0
   exact ⟨rfl, _, _, hp⟩
  ·have hr : sent (T, cd) = [errL cd] := by rw [sent, if_neg h0]
   rw [hr]
   clear hr
   go_enter Tryz.func102, Tryz.ntmps102
   go_wp2_with fail
   refine (HSW.out _).mono ?_
   rintro e w' ⟨A1, c1, rfl, o1, g1, rfl⟩
   go_wp2_with fail
   refine (HC.out _ A1 c1 o1).mono ?_
   rintro e w' ⟨rfl, g2, rfl⟩
   clear o1
   go_wp2_with fail
   refine (reportR_any w0 sb D A B c e O oc L _ _ cd _ (HM.out.le.below bw_) hn h0).mono ?_
   rintro r w' ⟨rfl, hp⟩
   go_wp2_with fail
   go_end0
   exact ⟨rfl, _, _, hp⟩
end Go.Proofs.YtbianlkenallaaaGreatDoor

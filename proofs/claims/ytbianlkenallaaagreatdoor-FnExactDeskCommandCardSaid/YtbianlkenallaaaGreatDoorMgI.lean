/-
  Common parts, put together: ConsR9, Dk5, Dk6, ConsRB.
-/
import Derived.Test.YtbianlkenallaaaGreatDoorConsR1
import Derived.Test.YtbianlkenallaaaGreatDoorMgG
import Derived.Test.YtbianlkenallaaaGreatDoorMgD
import Derived.Test.YtbianlkenallaaaGreatDoorMgC
import Derived.Test.YtbianlkenallaaaGreatDoorDk4
import Derived.Test.YtbianlkenallaaaGreatDoorMgA
set_option linter.all false
set_option maxHeartbeats 8000000
set_option maxRecDepth 10000
namespace Go.Proofs.YtbianlkenallaaaGreatDoor
open Go.RowKit
structure ME (w0 V : World) (sb : Nat) (D : DeskD) (A B : Option Addr) (c e : Nat) (O : Option Addr) (oc : Nat) (L : List ByteArray) (NA : Option Addr) (nc : Nat) (ns : List Int) (TA : Option Addr) (tc : Nat) (ts : List ByteArray) : Prop where
 le : LE w0 V sb D A B c e O oc L (.slice NA ns.length nc) (.slice TA ts.length tc)
 nr : V.ownsRow w0.heap.size 2 1 (.slice NA ns.length nc) ns.length (ics ns)
 tr : V.ownsRow w0.heap.size 9 1 (.slice TA ts.length tc) ts.length (strs ts)
def mePost (w0 : World) (sb : Nat) (D : DeskD) (L : List ByteArray) (r : Ending) (w' : World) : Prop := r = .returned (.tuple #[]) ∧ ∃ x y, lePost w0 sb D L x y w'
section
variable {w0 V : World} {sb : Nat} {D : DeskD} {A B O NA TA : Option Addr} {c e oc nc tc : Nat} {L ts : List ByteArray} {ns : List Int}
theorem ME.num0 (h : ME w0 V sb D A B c e O oc L NA nc ns TA tc ts) (hn : 0 < ns.length) : ∃ nb, NA = some ⟨nb, 0, none⟩ ∧ nb < V.heap.size ∧ ∀ i, i < ns.length → V.cell? ⟨nb, i, none⟩ = some (i64 (num ns i)) := by
 obtain ⟨nb, rfl⟩ := own_someT h.nr hn
 refine ⟨nb, rfl, (h.nr.lt nb rfl).2, fun i hi => ?_⟩
 obtain ⟨b, off, e9, hb, c0⟩ := num_at (Rds.of_own h.nr) hi
 injection e9 with e9
 injection e9 with e91 e92
 subst e91 e92
 rwa [Nat.zero_add] at c0
theorem ME.txt0 (h : ME w0 V sb D A B c e O oc L NA nc ns TA tc ts) (hn : 0 < ts.length) : ∃ tb, TA = some ⟨tb, 0, none⟩ ∧ tb < V.heap.size ∧ ∀ i, i < ts.length → V.cell? ⟨tb, i, none⟩ = some (.string (wd ts i)) := by
 obtain ⟨tb, rfl⟩ := own_someT h.tr hn
 refine ⟨tb, rfl, (h.tr.lt tb rfl).2, fun i hi => ?_⟩
 have := (ws_at (Rds.of_own h.tr) hi).2
 rwa [Nat.zero_add] at this
end
section
variable (w0 : World) (sb : Nat) (D : DeskD) (A B : Option Addr) (c e : Nat) (O : Option Addr) (oc : Nat) (L : List ByteArray) (NA : Option Addr) (nc : Nat) (ns : List Int) (TA : Option Addr) (tc : Nat) (ts : List ByteArray) (w : World)
theorem rowM_any (h : ME w0 w sb D A B c e O oc L NA nc ns TA tc ts)
 (ht : ts.length = 1) (hs : (wd ts 0).size ≤ 9223372036854775807) (hn : L.length ≤ 1000000) (hd : D.stops.length ≤ 100000000) :
 Calls Tryz.prog 110 #[.pointer (some ⟨sb, 0, none⟩)] w fun r w' => mePost w0 sb D (L ++ sent (rowR D.stops (wd ts 0))) r w' := by
 obtain ⟨tb, rfl, htb, hc⟩ := h.txt0 (by omega)
 have c0 := hc 0 (by omega)
 have HM := hd_ h
 obtain ⟨hsb, ⟨x0, x1, x2, x3, x4, x5, x6, x7⟩, -, k9, k10⟩ := h.le.cel
 obtain ⟨s, hs9⟩ := nm_ (wd ts 0)
 rw [hs9] at c0 hs ⊢
 obtain ⟨T, hT⟩ := nm_ ((rowR D.stops s).1)
 obtain ⟨cd, hcd⟩ := nm_ ((rowR D.stops s).2)
 have HC : Hid (∀ V, Below w.heap.size w V → Calls Tryz.prog 163 #[.slice A D.stops.length c, .string s] V fun e w' => e = .returned (.tuple #[.string T, i64 cd]) ∧ UpOf V w') := hd_ fun V hV => by
  have := rowPlanS_any s A c D.stops V hs ((Rds.of_own HM.out.le.dw.1).below hV) hd
  rw [hT, hcd] at this
  exact this
 rw [show rowR D.stops s = (T, cd) from by rw [← hT, ← hcd]]
 rw [ht] at k10
 clear hT hcd hs9 hc h
 by_cases h0 : cd = 0
 ·subst h0
  have hr : sent (T, 0) = [T] := rfl
  rw [hr]
  clear hr
  go_enter Tryz.func110, Tryz.ntmps110
  go_wp2_with (first | ((with_reducible refine wru ?_); (repeat (go_big_quiet_step (first | (go_at_call 163; exact uq_ (HC.out _ bw_))))); refine wqn fun nq => ?_))
  refine cs_ (reportR0_any _ _) ?_
  go_wp2_with fail
  refine (say_any w0 sb D _ _ _ _ _ _ L _ _ T _ (HM.out.le.below bw_) hn).mono ?_
  rintro r w' ⟨rfl, hp⟩
  go_wp2_with fail
  go_end0
  exact ⟨rfl, _, _, hp⟩
 ·have hr : sent (T, cd) = [errL cd] := by rw [sent, if_neg h0]
  rw [hr]
  clear hr
  go_enter Tryz.func110, Tryz.ntmps110
  go_wp2_with (first | ((with_reducible refine wru ?_); (repeat (go_big_quiet_step (first | (go_at_call 163; exact uq_ (HC.out _ bw_))))); refine wqn fun nq => ?_))
  refine (reportR_any w0 sb D _ _ _ _ _ _ L _ _ cd _ (HM.out.le.below bw_) hn h0).mono ?_
  rintro r w' ⟨rfl, hp⟩
  go_wp2_with fail
  go_end0
  exact ⟨rfl, _, _, hp⟩
theorem fastM_any (h : ME w0 w sb D A B c e O oc L NA nc ns TA tc ts)
 (hl : ns.length ≤ 100000000) (hn : L.length ≤ 1000000) :
 Calls Tryz.prog 106 #[.pointer (some ⟨sb, 0, none⟩)] w fun r w' => mePost w0 sb D (L ++ nmb (tfR D.b ns)) r w' := by
 have hbd := tfR_bd D.b ns
 have HM := hd_ h
 obtain ⟨hsb, ⟨x0, x1, x2, x3, x4, x5, x6, x7⟩, -, k9, k10⟩ := h.le.cel
 obtain ⟨N, hN⟩ := nm_ ((tfR D.b ns).1)
 obtain ⟨cd, hcd⟩ := nm_ ((tfR D.b ns).2)
 have HC : Hid (∀ V, Below w.heap.size w V → Calls Tryz.prog 159 #[bsv D.b, .slice NA ns.length nc] V fun e w' => e = .returned (.tuple #[i64 N, i64 cd]) ∧ UpOf V w') := hd_ fun V hV => by
  have := ticksForS_any D.b NA nc ns V ((Rds.of_own HM.out.nr).below hV) hl
  rw [hN, hcd] at this
  exact this
 rw [show tfR D.b ns = (N, cd) from by rw [← hN, ← hcd]]
 rw [hN] at hbd
 clear hN hcd h
 by_cases h0 : cd = 0
 ·subst h0
  have hr : nmb (N, 0) = [dec N] := rfl
  rw [hr]
  clear hr
  go_enter Tryz.func106, Tryz.ntmps106
  go_wp2_with (first | ((with_reducible refine wru ?_); (repeat (go_big_quiet_step (first | (go_at_call 159; exact uq_ (HC.out _ bw_))))); refine wqn fun nq => ?_))
  refine cs_ (reportR0_any _ _) ?_
  go_wp2_with fail
  refine cu_ (l01Dec_any N _ (by omega) (by omega)) fun g9 => ?_
  go_wp2_with fail
  refine (say_any w0 sb D _ _ _ _ _ _ L _ _ (dec N) _ (HM.out.le.below bw_) hn).mono ?_
  rintro r w' ⟨rfl, hp⟩
  go_wp2_with fail
  go_end0
  exact ⟨rfl, _, _, hp⟩
 ·have hr : nmb (N, cd) = [errL cd] := by rw [nmb, if_neg h0]
  rw [hr]
  clear hr
  go_enter Tryz.func106, Tryz.ntmps106
  go_wp2_with (first | ((with_reducible refine wru ?_); (repeat (go_big_quiet_step (first | (go_at_call 159; exact uq_ (HC.out _ bw_))))); refine wqn fun nq => ?_))
  refine (reportR_any w0 sb D _ _ _ _ _ _ L _ _ cd _ (HM.out.le.below bw_) hn h0).mono ?_
  rintro r w' ⟨rfl, hp⟩
  go_wp2_with fail
  go_end0
  exact ⟨rfl, _, _, hp⟩
theorem waitM_any (h : ME w0 w sb D A B c e O oc L NA nc ns TA tc ts)
 (hl : ns.length = 2) (hn : L.length ≤ 1000000) :
 Calls Tryz.prog 113 #[.pointer (some ⟨sb, 0, none⟩)] w fun r w' => mePost w0 sb D (L ++ nmb (mwR D.b (num ns 0) (num ns 1))) r w' := by
 have hbd := mwR_bd D.b (num ns 0) (num ns 1)
 obtain ⟨nb, rfl, hnb, hc⟩ := h.num0 (by omega)
 have c0 := hc 0 (by omega)
 have c1 := hc 1 (by omega)
 have HM := hd_ h
 obtain ⟨hsb, ⟨x0, x1, x2, x3, x4, x5, x6, x7⟩, -, k9, k10⟩ := h.le.cel
 obtain ⟨a0, ha0⟩ := nm_ (num ns 0)
 obtain ⟨a1, ha1⟩ := nm_ (num ns 1)
 rw [ha0] at c0 hbd ⊢
 rw [ha1] at c1 hbd ⊢
 obtain ⟨N, hN⟩ := nm_ ((mwR D.b a0 a1).1)
 obtain ⟨cd, hcd⟩ := nm_ ((mwR D.b a0 a1).2)
 have HC : Hid (∀ V, Calls Tryz.prog 165 #[bsv D.b, i64 a0, i64 a1] V fun e w' => e = .returned (.tuple #[i64 N, i64 cd]) ∧ UpOf V w') := hd_ fun V => by
  have := mustWaitS_any D.b a0 a1 V
  rw [hN, hcd] at this
  exact this
 rw [show mwR D.b a0 a1 = (N, cd) from by rw [← hN, ← hcd]]
 rw [hN] at hbd
 rw [hl] at k9
 clear hN hcd ha0 ha1 hc h
 by_cases h0 : cd = 0
 ·subst h0
  have hr : nmb (N, 0) = [dec N] := rfl
  rw [hr]
  clear hr
  go_enter Tryz.func113, Tryz.ntmps113
  go_wp2_with (first | ((with_reducible refine wru ?_); (repeat (go_big_quiet_step (first | (go_at_call 165; exact uq_ (HC.out _))))); refine wqn fun nq => ?_))
  refine cs_ (reportR0_any _ _) ?_
  go_wp2_with fail
  refine cu_ (l01Dec_any N _ (by omega) (by omega)) fun g9 => ?_
  go_wp2_with fail
  refine (say_any w0 sb D _ _ _ _ _ _ L _ _ (dec N) _ (HM.out.le.below bw_) hn).mono ?_
  rintro r w' ⟨rfl, hp⟩
  go_wp2_with fail
  go_end0
  exact ⟨rfl, _, _, hp⟩
 ·have hr : nmb (N, cd) = [errL cd] := by rw [nmb, if_neg h0]
  rw [hr]
  clear hr
  go_enter Tryz.func113, Tryz.ntmps113
  go_wp2_with (first | ((with_reducible refine wru ?_); (repeat (go_big_quiet_step (first | (go_at_call 165; exact uq_ (HC.out _))))); refine wqn fun nq => ?_))
  refine (reportR_any w0 sb D _ _ _ _ _ _ L _ _ cd _ (HM.out.le.below bw_) hn h0).mono ?_
  rintro r w' ⟨rfl, hp⟩
  go_wp2_with fail
  go_end0
  exact ⟨rfl, _, _, hp⟩
end
theorem codeM_any {two : List ByteArray → ByteArray × Int} (h2 : TwoOk two) (w0 : World) (sb : Nat) (D : DeskD) (A B : Option Addr) (c e : Nat) (O : Option Addr) (oc : Nat) (L : List ByteArray) (NA : Option Addr) (nc : Nat) (ns : List Int) (TA : Option Addr) (tc : Nat) (ts : List ByteArray) (w : World) (h : ME w0 w sb D A B c e O oc L NA nc ns TA tc ts)
 (ht : ts.length = 1) (hs : (wd ts 0).size ≤ 1048576) (hn : L.length ≤ 1000000) :
 Calls Tryz.prog 102 #[.pointer (some ⟨sb, 0, none⟩)] w fun r w' => mePost w0 sb D (L ++ codeOut (two (wordsA [] (wd ts 0).data.toList))) r w' := by
 obtain ⟨tb, rfl, htb, hc⟩ := h.txt0 (by omega)
 have c0 := hc 0 (by omega)
 have HM := hd_ h
 obtain ⟨hsb, ⟨x0, x1, x2, x3, x4, x5, x6, x7⟩, -, k9, k10⟩ := h.le.cel
 obtain ⟨s, hs9⟩ := nm_ (wd ts 0)
 rw [hs9] at c0 hs ⊢
 obtain ⟨R, hR⟩ := nm_ (wordsA [] s.data.toList)
 have HRl : Hid (R.length ≤ 100000000 ∧ ∀ i, i < R.length → (wd R i).size ≤ 100000000) := hd_ (by
  refine ⟨?_, fun i hi => ?_⟩
  ·have := words_len s.data.toList []
   rw [hR, bsz] at this
   omega
  ·have := words_size s.data.toList [] (wd R i) (by rw [hR, ← wd_eq hi]; exact List.getElem_mem hi)
   rw [bsz] at this
   simp at this
   omega)
 have HSW : Hid (∀ V, Calls Tryz.prog 150 #[.string s] V fun e w' => txPost R V e w') := hd_ fun V => by
  rw [← hR]; exact splitWordsS_any s V hs
 rw [hR]
 obtain ⟨T, hT⟩ := nm_ ((two R).1)
 obtain ⟨cd, hcd⟩ := nm_ ((two R).2)
 have HC : Hid (∀ V A1 c1, V.ownsRow w.heap.size 9 1 (.slice A1 R.length c1) R.length (strs R) → Calls Tryz.prog 149 #[.slice A1 R.length c1] V fun e w' => e = .returned (.tuple #[.string T, i64 cd]) ∧ UpOf V w') := hd_ fun V A1 c1 ho => by
  have := twoReadingsS_any h2 A1 c1 R V (Rds.of_own ho) (own_capD ho) HRl.out.1 HRl.out.2
  rw [hT, hcd] at this
  exact this
 rw [show two R = (T, cd) from by rw [← hT, ← hcd]]
 rw [ht] at k10
 clear hT hcd hs9 hc h hR h2
 obtain ⟨ls, hls⟩ := nm_ (codeOut (T, cd))
 rw [hls]
 have HLS := hd_ hls
 clear hls
 by_cases h3 : cd = 3
 ·subst h3
  have hr := hd_ (show ls = [⟨#[117, 110, 105, 113, 117, 101]⟩] from by rw [← HLS.out]; rfl)
  rw [hr.out]
  go_enter Tryz.func102, Tryz.ntmps102
  go_wp2_with fail
  refine (HSW.out _).mono ?_
  rintro e w' ⟨A1, c1, rfl, o1, g1, rfl⟩
  go_wp2_with fail
  refine cu_ (HC.out _ A1 c1 o1) fun g2 => ?_
  clear o1
  go_wp2_with fail
  refine (say_any w0 sb D _ _ _ _ _ _ L _ _ ⟨#[117, 110, 105, 113, 117, 101]⟩ _ (HM.out.le.below bw_) hn).mono ?_
  rintro r w' ⟨rfl, hp⟩
  go_wp2_with fail
  go_end0
  exact ⟨rfl, _, _, hp⟩
 ·have h3' : (cd == 3) = false := by rw [beq_eq_false_iff_ne]; exact h3
  have hr := hd_ (show ls = sent (T, cd) from by rw [← HLS.out, codeOut, if_neg h3])
  rw [hr.out]
  clear h3
  by_cases h0 : cd = 0
  ·subst h0
   have hr : sent (T, 0) = [T] := rfl
   rw [hr]
   clear hr
   go_enter Tryz.func102, Tryz.ntmps102
   go_wp2_with fail
   refine (HSW.out _).mono ?_
   rintro e w' ⟨A1, c1, rfl, o1, g1, rfl⟩
   go_wp2_with fail
   refine cu_ (HC.out _ A1 c1 o1) fun g2 => ?_
   clear o1
   go_wp2_with fail
   refine cs_ (reportR0_any _ _) ?_
   go_wp2_with fail
   refine (say_any w0 sb D _ _ _ _ _ _ L _ _ T _ (HM.out.le.below bw_) hn).mono ?_
   rintro r w' ⟨rfl, hp⟩
   go_wp2_with fail
   go_end0
   exact ⟨rfl, _, _, hp⟩
  ·have hr : sent (T, cd) = [errL cd] := by rw [sent, if_neg h0]
   rw [hr]
   clear hr
   go_enter Tryz.func102, Tryz.ntmps102
   go_wp2_with fail
   refine (HSW.out _).mono ?_
   rintro e w' ⟨A1, c1, rfl, o1, g1, rfl⟩
   go_wp2_with fail
   refine cu_ (HC.out _ A1 c1 o1) fun g2 => ?_
   clear o1
   go_wp2_with fail
   refine (reportR_any w0 sb D A B c e O oc L _ _ cd _ (HM.out.le.below bw_) hn h0).mono ?_
   rintro r w' ⟨rfl, hp⟩
   go_wp2_with fail
   go_end0
   exact ⟨rfl, _, _, hp⟩
section
variable (d : DeskD) (A B : Option Addr) (c e : Nat) (ws : List ByteArray) (W : Option Addr) (wc : Nat) (s : ByteArray) (l : List Int) (w : World)
theorem bnBask_any (h : Rds w 1 W ws.length (strs ws)) (hn : ws.length ≤ 10000000) (hf : ∀ i, i < ws.length → (wd ws i).size ≤ 100000000) (ht : Tab w) (hno : numsOf ws = some l) (hl : l.length = 5) (hk : kindOf s = 1)
 (hS : DSee w d A B) (hz : DkSz d e) (hv : vDesk d = true) :
 Calls Tryz.prog 30 #[dkv d A B c e, .string s, .slice W ws.length wc] w fun r w' =>
  mdPost (if vBsk (bskOf l) then { d with b := bskOf l } else d) (if vBsk (bskOf l) then [dkText { d with b := bskOf l }] else [errL 1]) A B c e w r w' := by
 have HR := hd_ h
 have HF := hd_ hf
 have HT := hd_ ht
 have q6 : (s.toList == [102, 97, 115, 116]) = false := by
  have := kind_test2 s (i := 6) (by omega)
  rw [hk] at this
  exact this
 have q13 : (s.toList == [119, 97, 105, 116]) = false := by
  have := kind_test2 s (i := 13) (by omega)
  rw [hk] at this
  exact this
 have HS := hd_ hS
 have HZ := hd_ hz
 have HV := hd_ hv
 have HK := hd_ hk
 have H5 := hd_ hl
 clear h hf ht hk hS hz hv hl
 cases q1 : vBsk (bskOf l) with
 | false =>
   show Calls _ _ _ _ fun r w' => mdPost d [errL 1] A B c e w r w'
   go_enter Tryz.func30, Tryz.ntmps30
   go_upto_region 1 with (fail)
   refine wpg (R := fun V => Hid (MD w V w.heap.size (w.heap.size + 1) (dkcs d A B c e))) (hd_ (MD.new _ _)) (fun V z => ?_)
   generalize hp9 : w.heap.size = p at z ⊢
   generalize hq9 : p + 1 = q at z ⊢
   clear hp9 hq9
   go_wp2_with fail
   refine (readNumbers_any W wc ws _ (HR.out.below z.out.up.below) hn HF.out (HT.out.below z.out.up.below)).mono ?_
   rintro r w' hr
   unfold rnPost at hr
   rw [hno] at hr
   obtain ⟨AN, cn, rfl, on, g1, rfl⟩ := hr
   have z1 := hd_ (z.out.below (ub_ V g1))
   have ON := hd_ on
   have HNQ := hd_ (show q < V.heap.size from z.out.rs.lt)
   clear on
   go_upto_region 9 with (fail)
   refine wpg (R := fun U => Hid (MD w U p q (dkcs d A B c e)) ∧ Hid (Rds U 1 AN l.length (ics l))) ⟨z1, hd_ (Rds.of_own ON.out)⟩ (fun U y => ?_)
   obtain ⟨z, HL⟩ := y
   clear z1 ON
   obtain ⟨hpU, x0, x1, x2, x3, x4, x5, x6, x7⟩ := z.out.bx.eight
   go_wp2_with fail
   refine (settingB_any d A B c e l AN cn s U (HS.out.below z.out.up.below) HZ.out (HT.out.below z.out.up.below) HV.out HL.out H5.out HK.out).mono ?_
   rintro r w' hs
   rw [q1] at hs
   replace hs : mdPost d [errL 1] A B c e U r w' := hs
   obtain ⟨X, n, rfl, ox, g2, rfl⟩ := hs
   have z2 := hd_ (z.out.below (V' := up U g2) (ub_ U g2))
   have OX := hd_ ox
   have hqW0 := z.out.rs.lt
   have HLE0 := hd_ z.out.up.below.size
   obtain ⟨hqT, r0, r1, r2, r3, r4, r5, r6, r7⟩ := z2.out.rs.eight
   obtain ⟨f0, f1, f2, f3, f4, f5, f6, f7⟩ := z2.out.rs.open8
   clear ox x0 x1 x2 x3 x4 x5 x6 x7 hpU
   go_wp2_with fail
   refine post_gen (R := fun W => Blk W q 31 (dkcs (d) A B c e) ∧ W.ownsRow w.heap.size 9 1 (.slice X 1 n) 1 (strs ([errL 1])) ∧ UpOf w W) ⟨blk_put8 z2.out.rs _ _ _ _ _ _ _ _, om_ (oa_ OX.out hqW0 _ _ _ _ _ _ _ _) HLE0.out, put8_up z2.out.up z2.out.hq _ _ _ _ _ _ _ _⟩ (fun W st => ?_)
   obtain ⟨s1, s2, s3⟩ := st
   obtain ⟨hqW, w0, w1, w2, w3, w4, w5, w6, w7⟩ := s1.eight
   clear s1 r0 r1 r2 r3 r4 r5 r6 r7 f0 f1 f2 f3 f4 f5 f6 f7
   refine bodyPost_ret (v := .tuple #[dkv (d) A B c e, .slice X 1 n]) (by simp [results, Tryz.results30, go_sem, hqW, w0, w1, w2, w3, w4, w5, w6, w7]) rfl ?_
   exact ⟨_, _, rfl, s2, s3⟩
 | true =>
   obtain ⟨D, hD⟩ : ∃ D : DeskD, { d with b := bskOf l } = D := ⟨_, rfl⟩
   have HD := hd_ hD
   rw [hD]
   clear hD
   show Calls _ _ _ _ fun r w' => mdPost D [dkText D] A B c e w r w'
   go_enter Tryz.func30, Tryz.ntmps30
   go_upto_region 1 with (fail)
   refine wpg (R := fun V => Hid (MD w V w.heap.size (w.heap.size + 1) (dkcs d A B c e))) (hd_ (MD.new _ _)) (fun V z => ?_)
   generalize hp9 : w.heap.size = p at z ⊢
   generalize hq9 : p + 1 = q at z ⊢
   clear hp9 hq9
   go_wp2_with fail
   refine (readNumbers_any W wc ws _ (HR.out.below z.out.up.below) hn HF.out (HT.out.below z.out.up.below)).mono ?_
   rintro r w' hr
   unfold rnPost at hr
   rw [hno] at hr
   obtain ⟨AN, cn, rfl, on, g1, rfl⟩ := hr
   have z1 := hd_ (z.out.below (ub_ V g1))
   have ON := hd_ on
   have HNQ := hd_ (show q < V.heap.size from z.out.rs.lt)
   clear on
   go_upto_region 9 with (fail)
   refine wpg (R := fun U => Hid (MD w U p q (dkcs d A B c e)) ∧ Hid (Rds U 1 AN l.length (ics l))) ⟨z1, hd_ (Rds.of_own ON.out)⟩ (fun U y => ?_)
   obtain ⟨z, HL⟩ := y
   clear z1 ON
   obtain ⟨hpU, x0, x1, x2, x3, x4, x5, x6, x7⟩ := z.out.bx.eight
   go_wp2_with fail
   refine (settingB_any d A B c e l AN cn s U (HS.out.below z.out.up.below) HZ.out (HT.out.below z.out.up.below) HV.out HL.out H5.out HK.out).mono ?_
   rintro r w' hs
   rw [q1, HD.out] at hs
   replace hs : mdPost D [dkText D] A B c e U r w' := hs
   obtain ⟨X, n, rfl, ox, g2, rfl⟩ := hs
   have z2 := hd_ (z.out.below (V' := up U g2) (ub_ U g2))
   have OX := hd_ ox
   have hqW0 := z.out.rs.lt
   have HLE0 := hd_ z.out.up.below.size
   obtain ⟨hqT, r0, r1, r2, r3, r4, r5, r6, r7⟩ := z2.out.rs.eight
   obtain ⟨f0, f1, f2, f3, f4, f5, f6, f7⟩ := z2.out.rs.open8
   clear ox x0 x1 x2 x3 x4 x5 x6 x7 hpU
   go_wp2_with fail
   refine post_gen (R := fun W => Blk W q 31 (dkcs (D) A B c e) ∧ W.ownsRow w.heap.size 9 1 (.slice X 1 n) 1 (strs ([dkText D])) ∧ UpOf w W) ⟨blk_put8 z2.out.rs _ _ _ _ _ _ _ _, om_ (oa_ OX.out hqW0 _ _ _ _ _ _ _ _) HLE0.out, put8_up z2.out.up z2.out.hq _ _ _ _ _ _ _ _⟩ (fun W st => ?_)
   obtain ⟨s1, s2, s3⟩ := st
   obtain ⟨hqW, w0, w1, w2, w3, w4, w5, w6, w7⟩ := s1.eight
   clear s1 r0 r1 r2 r3 r4 r5 r6 r7 f0 f1 f2 f3 f4 f5 f6 f7
   refine bodyPost_ret (v := .tuple #[dkv (D) A B c e, .slice X 1 n]) (by simp [results, Tryz.results30, go_sem, hqW, w0, w1, w2, w3, w4, w5, w6, w7]) rfl ?_
   exact ⟨_, _, rfl, s2, s3⟩
def stPost (d : DeskD) (l : List Int) (A B : Option Addr) (c e : Nat) (w : World) (r : Ending) (w' : World) : Prop :=
 if vStops l then ∃ N nc, w'.ownsRow w.heap.size 2 1 (.slice N l.length nc) l.length (ics l) ∧ mdPost { d with stops := l } [dkText { d with stops := l }] N B nc e w r w' else mdPost d [errL 1] A B c e w r w'
theorem bnStop_any (h : Rds w 1 W ws.length (strs ws)) (hn : ws.length ≤ 10000000) (hf : ∀ i, i < ws.length → (wd ws i).size ≤ 100000000) (ht : Tab w) (hno : numsOf ws = some l) (hl : l.length ≤ 10000000) (hk : kindOf s = 12)
 (hS : DSee w d A B) (hz : DkSz d e) (hv : vDesk d = true) :
 Calls Tryz.prog 30 #[dkv d A B c e, .string s, .slice W ws.length wc] w fun r w' => stPost d l A B c e w r w' := by
 have HR := hd_ h
 have HF := hd_ hf
 have HT := hd_ ht
 have q6 : (s.toList == [102, 97, 115, 116]) = false := by
  have := kind_test2 s (i := 6) (by omega)
  rw [hk] at this
  exact this
 have q13 : (s.toList == [119, 97, 105, 116]) = false := by
  have := kind_test2 s (i := 13) (by omega)
  rw [hk] at this
  exact this
 have HS := hd_ hS
 have HZ := hd_ hz
 have HV := hd_ hv
 have HK := hd_ hk
 clear h hf ht hk hS hz hv
 unfold stPost
 cases q1 : vStops l with
 | false =>
   show Calls _ _ _ _ fun r w' => mdPost d [errL 1] A B c e w r w'
   go_enter Tryz.func30, Tryz.ntmps30
   go_upto_region 1 with (fail)
   refine wpg (R := fun V => Hid (MD w V w.heap.size (w.heap.size + 1) (dkcs d A B c e))) (hd_ (MD.new _ _)) (fun V z => ?_)
   generalize hp9 : w.heap.size = p at z ⊢
   generalize hq9 : p + 1 = q at z ⊢
   clear hp9 hq9
   go_wp2_with fail
   refine (readNumbers_any W wc ws _ (HR.out.below z.out.up.below) hn HF.out (HT.out.below z.out.up.below)).mono ?_
   rintro r w' hr
   unfold rnPost at hr
   rw [hno] at hr
   obtain ⟨AN, cn, rfl, on, g1, rfl⟩ := hr
   have z1 := hd_ (z.out.below (ub_ V g1))
   have ON := hd_ on
   have HNQ := hd_ (show q < V.heap.size from z.out.rs.lt)
   clear on
   go_upto_region 9 with (fail)
   refine wpg (R := fun U => Hid (MD w U p q (dkcs d A B c e)) ∧ Hid (Rds U 1 AN l.length (ics l))) ⟨z1, hd_ (Rds.of_own ON.out)⟩ (fun U y => ?_)
   obtain ⟨z, HL⟩ := y
   clear z1 ON
   obtain ⟨hpU, x0, x1, x2, x3, x4, x5, x6, x7⟩ := z.out.bx.eight
   go_wp2_with fail
   refine (settingS_any d A B c e l AN cn s U (HS.out.below z.out.up.below) HZ.out (HT.out.below z.out.up.below) HV.out HL.out (by omega) HK.out).mono ?_
   rintro r w' hs
   rw [q1] at hs
   replace hs : mdPost d [errL 1] A B c e U r w' := hs
   obtain ⟨X, n, rfl, ox, g2, rfl⟩ := hs
   have z2 := hd_ (z.out.below (V' := up U g2) (ub_ U g2))
   have OX := hd_ ox
   have hqW0 := z.out.rs.lt
   have HLE0 := hd_ z.out.up.below.size
   obtain ⟨hqT, r0, r1, r2, r3, r4, r5, r6, r7⟩ := z2.out.rs.eight
   obtain ⟨f0, f1, f2, f3, f4, f5, f6, f7⟩ := z2.out.rs.open8
   clear ox x0 x1 x2 x3 x4 x5 x6 x7 hpU
   go_wp2_with fail
   refine post_gen (R := fun W => Blk W q 31 (dkcs (d) A B c e) ∧ W.ownsRow w.heap.size 9 1 (.slice X 1 n) 1 (strs ([errL 1])) ∧ UpOf w W) ⟨blk_put8 z2.out.rs _ _ _ _ _ _ _ _, om_ (oa_ OX.out hqW0 _ _ _ _ _ _ _ _) HLE0.out, put8_up z2.out.up z2.out.hq _ _ _ _ _ _ _ _⟩ (fun W st => ?_)
   obtain ⟨s1, s2, s3⟩ := st
   obtain ⟨hqW, w0, w1, w2, w3, w4, w5, w6, w7⟩ := s1.eight
   clear s1 r0 r1 r2 r3 r4 r5 r6 r7 f0 f1 f2 f3 f4 f5 f6 f7
   refine bodyPost_ret (v := .tuple #[dkv (d) A B c e, .slice X 1 n]) (by simp [results, Tryz.results30, go_sem, hqW, w0, w1, w2, w3, w4, w5, w6, w7]) rfl ?_
   exact ⟨_, _, rfl, s2, s3⟩
 | true =>
   obtain ⟨D, hD⟩ : ∃ D : DeskD, { d with stops := l } = D := ⟨_, rfl⟩
   have HD := hd_ hD
   rw [hD]
   have HDs := hd_ (show D.stops.length = l.length by rw [← hD])
   clear hD
   show Calls _ _ _ _ fun r w' => ∃ N nc, w'.ownsRow w.heap.size 2 1 (.slice N l.length nc) l.length (ics l) ∧ mdPost D [dkText D] N B nc e w r w'
   go_enter Tryz.func30, Tryz.ntmps30
   go_upto_region 1 with (fail)
   refine wpg (R := fun V => Hid (MD w V w.heap.size (w.heap.size + 1) (dkcs d A B c e))) (hd_ (MD.new _ _)) (fun V z => ?_)
   generalize hp9 : w.heap.size = p at z ⊢
   generalize hq9 : p + 1 = q at z ⊢
   clear hp9 hq9
   go_wp2_with fail
   refine (readNumbers_any W wc ws _ (HR.out.below z.out.up.below) hn HF.out (HT.out.below z.out.up.below)).mono ?_
   rintro r w' hr
   unfold rnPost at hr
   rw [hno] at hr
   obtain ⟨AN, cn, rfl, on, g1, rfl⟩ := hr
   have z1 := hd_ (z.out.below (ub_ V g1))
   have ON := hd_ on
   have HNQ := hd_ (show q < V.heap.size from z.out.rs.lt)
   clear on
   go_upto_region 9 with (fail)
   refine wpg (R := fun U => Hid (MD w U p q (dkcs d A B c e)) ∧ Hid (U.ownsRow V.heap.size 2 1 (.slice AN l.length cn) l.length (ics l)) ∧ Hid (w.heap.size ≤ V.heap.size)) ⟨z1, ON, hd_ z.out.up.below.size⟩ (fun U y => ?_)
   obtain ⟨z, HL, HVw⟩ := y
   clear z1 ON
   obtain ⟨hpU, x0, x1, x2, x3, x4, x5, x6, x7⟩ := z.out.bx.eight
   go_wp2_with fail
   refine (settingS_any d A B c e l AN cn s U (HS.out.below z.out.up.below) HZ.out (HT.out.below z.out.up.below) HV.out (Rds.of_own HL.out) (by omega) HK.out).mono ?_
   rintro r w' hs
   rw [q1, HD.out] at hs
   replace hs : mdPost D [dkText D] AN B cn e U r w' := hs
   obtain ⟨X, n, rfl, ox, g2, rfl⟩ := hs
   have z2 := hd_ (z.out.below (V' := up U g2) (ub_ U g2))
   have OX := hd_ ox
   have ON2 := hd_ (ob_ HL.out (ub_ U g2))
   have hqW0 := z.out.rs.lt
   have HLE0 := hd_ z.out.up.below.size
   obtain ⟨hqT, r0, r1, r2, r3, r4, r5, r6, r7⟩ := z2.out.rs.eight
   obtain ⟨f0, f1, f2, f3, f4, f5, f6, f7⟩ := z2.out.rs.open8
   clear ox x0 x1 x2 x3 x4 x5 x6 x7 hpU
   go_wp2_with fail
   refine post_gen (R := fun W => Blk W q 31 (dkcs D AN B cn e) ∧ W.ownsRow w.heap.size 9 1 (.slice X 1 n) 1 (strs [dkText D]) ∧ W.ownsRow w.heap.size 2 1 (.slice AN l.length cn) l.length (ics l) ∧ UpOf w W) ⟨blk_put8 z2.out.rs _ _ _ _ _ _ _ _, om_ (oa_ OX.out hqW0 _ _ _ _ _ _ _ _) HLE0.out, om_ (oa_ ON2.out HNQ.out _ _ _ _ _ _ _ _) HVw.out, put8_up z2.out.up z2.out.hq _ _ _ _ _ _ _ _⟩ (fun W st => ?_)
   obtain ⟨s1, s2, s4, s3⟩ := st
   obtain ⟨hqW, w0, w1, w2, w3, w4, w5, w6, w7⟩ := s1.eight
   clear s1 r0 r1 r2 r3 r4 r5 r6 r7 f0 f1 f2 f3 f4 f5 f6 f7
   refine bodyPost_ret (v := .tuple #[dkv D AN B cn e, .slice X 1 n]) (by simp [results, Tryz.results30, go_sem, hqW, w0, w1, w2, w3, w4, w5, w6, w7]) rfl ?_
   exact ⟨AN, cn, s4, _, _, rfl, s2, s3⟩
end
theorem setLineOf_any (d : DeskD) (A B : Option Addr) (c e : Nat) (s t : ByteArray) (w : World) (hs : s.size ≤ 1048576) (hts : t.size ≤ 1048576) (ht : Tab w) :
 Calls Tryz.prog 32 #[dkv d A B c e, .string s, .string t] w fun r w' => txPost (if numB s then sent (setR (wordsA [] t.data.toList) (sval s)) else [errL 7]) w r w' := by
 have HT := hd_ ht
 clear ht
 cases hv : numB s with
 | false =>
   have HC : Hid (∀ V, Tab V → Calls Tryz.prog 79 #[.string s] V fun e w' => e = .returned (.tuple #[i64 0, .bool false]) ∧ UpOf V w') := hd_ fun V hV => by
    have := readDecimal_any s V (by omega) hV
    rw [rdR_no hv] at this
    exact this
   show Calls _ _ _ _ fun r w' => txPost [errL 7] w r w'
   clear hv
   go_enter Tryz.func32, Tryz.ntmps32
   go_wp2_with fail
   refine cu_ (HC.out _ (HT.out.below bw_)) fun g1 => ?_
   go_wp2_with fail
   refine (report_any 7 _).mono ?_
   rintro r w' ⟨X, n, rfl, ox, g2, rfl⟩
   go_wp2_with fail
   go_ret
   exact ⟨X, n, rfl, om_ ox (show Below w.heap.size w _ from bw_).size, uw_⟩
 | true =>
   obtain ⟨N, hN⟩ := nm_ (sval s)
   have HC : Hid (∀ V, Tab V → Calls Tryz.prog 79 #[.string s] V fun e w' => e = .returned (.tuple #[i64 N, .bool true]) ∧ UpOf V w') := hd_ fun V hV => by
    have := readDecimal_any s V (by omega) hV
    rw [rdR_ok hv, hN] at this
    exact this
   obtain ⟨W, hW⟩ := nm_ (wordsA [] t.data.toList)
   have HW : Hid (∀ V, Calls Tryz.prog 76 #[.string t] V fun e w' => ∃ A c, e = .returned (.slice A W.length c) ∧ w'.ownsRow V.heap.size 9 1 (.slice A W.length c) W.length (strs W) ∧ UpOf V w') := hd_ fun V => by
    rw [← hW]; exact splitWords_any t V (by omega)
   have hWl : W.length ≤ 2000000 := by
    have := words_len t.data.toList []
    rw [hW, bsz] at this
    omega
   have HWB : Hid (WBd W) := hd_ fun i hi => by
    have := words_size t.data.toList [] (wd W i) (by rw [hW, ← wd_eq hi]; exact List.getElem_mem hi)
    rw [bsz] at this
    simp at this
    omega
   obtain ⟨R1, hR1⟩ := nm_ ((setR W N).1)
   obtain ⟨R2, hR2⟩ := nm_ ((setR W N).2)
   have HSL : Hid (∀ V A1 c1, Rds V 1 A1 W.length (strs W) → W.length ≤ c1 → Calls Tryz.prog 80 #[.slice A1 W.length c1, i64 N] V fun e w' => e = .returned (.tuple #[.string R1, i64 R2]) ∧ UpOf V w') := hd_ fun V A1 c1 hr hc => by
    have := setLineR_any N A1 c1 W V hr hc (by omega) HWB.out
    rw [hR1, hR2] at this
    exact this
   have hfin : (if (true : Bool) = true then sent (setR (wordsA [] t.data.toList) (sval s)) else [errL 7]) = sent (R1, R2) := by
    rw [if_pos rfl, hW, hN, ← hR1, ← hR2]
   rw [hfin]
   clear hfin hv hN hW hR1 hR2
   go_enter Tryz.func32, Tryz.ntmps32
   go_wp2_with fail
   refine cu_ (HC.out _ (HT.out.below bw_)) fun g1 => ?_
   go_wp2_with fail
   refine (HW.out _).mono ?_
   rintro r w' ⟨A1, c1, rfl, o1, g2, rfl⟩
   have hcap := own_capD o1
   go_wp2_with fail
   refine cu_ (HSL.out _ A1 c1 (Rds.of_own o1) hcap) fun g3 => ?_
   go_wp2_with fail
   refine (sentence_any R1 R2 _).mono ?_
   rintro r w' ⟨X, n, rfl, ox, g4, rfl⟩
   go_wp2_with fail
   go_ret
   exact ⟨X, n, rfl, om_ ox (show Below w.heap.size w _ from bw_).size, uw_⟩
def lineR (l : List Drill) (nm s : ByteArray) : List ByteArray := if numB s then (match findD l nm with | none => [errL 3] | some x => sent (dlR x (sval s))) else [errL 7]
theorem findD_at {l : List Drill} {nm : ByteArray} {k : Nat} (hk : k < l.length) (h : (drl l k).name = nm) (hn : ∀ j, j < k → (drl l j).name ≠ nm) : findD l nm = some (drl l k) := by
 induction l generalizing k with
 | nil => simp at hk
 | cons a l ih =>
   cases k with
   | zero =>
     have e : drl (a :: l) 0 = a := rfl
     rw [e] at h ⊢
     simp [findD, h]
   | succ k =>
     have h0 := hn 0 (by omega)
     have e0 : drl (a :: l) 0 = a := rfl
     have ek : ∀ j, drl (a :: l) (j + 1) = drl l j := fun j => rfl
     rw [e0] at h0
     rw [ek] at h ⊢
     have := ih (k := k) (by simpa using hk) h (fun j hj => by have := hn (j + 1) (by omega); rwa [ek] at this)
     rw [findD] at this ⊢
     rw [List.find?_cons_of_neg (by simpa using h0)]
     exact this
theorem findD_no {l : List Drill} {nm : ByteArray} (hn : ∀ j, j < l.length → (drl l j).name ≠ nm) : findD l nm = none := by
 rw [findD, List.find?_eq_none]
 intro x hx
 obtain ⟨i, hi, rfl⟩ := List.getElem_of_mem hx
 have := hn i hi
 rw [drl, List.getD_eq_getElem?_getD, List.getElem?_eq_getElem hi] at this
 simpa using this
theorem drillLineC_any (d : DeskD) (A B : Option Addr) (c e : Nat) (nm s : ByteArray) (w : World) (h : DSee w d A B) (hz : DkSz d e) (hs : s.size ≤ 1048576) (ht : Tab w) :
 Calls Tryz.prog 37 #[dkv d A B c e, .string nm, .string s] w fun r w' => txPost (lineR d.drills nm s) w r w' := by
 have HT := hd_ ht
 have HS := hd_ h
 have HZ := hd_ hz
 clear ht h hz
 cases hv : numB s with
 | false =>
   have HC : Hid (∀ V, Tab V → Calls Tryz.prog 79 #[.string s] V fun e w' => e = .returned (.tuple #[i64 0, .bool false]) ∧ UpOf V w') := hd_ fun V hV => by
    have := readDecimal_any s V (by omega) hV
    rw [rdR_no hv] at this
    exact this
   have hfin : lineR d.drills nm s = [errL 7] := by rw [lineR, hv]; rfl
   rw [hfin]
   clear hfin hv
   go_enter Tryz.func37, Tryz.ntmps37
   go_wp2_with fail
   refine cu_ (HC.out _ (HT.out.below bw_)) fun g1 => ?_
   go_wp2_with fail
   refine (report_any 7 _).mono ?_
   rintro r w' ⟨X, n, rfl, ox, g2, rfl⟩
   go_wp2_with fail
   go_ret
   exact ⟨X, n, rfl, om_ ox (show Below w.heap.size w _ from bw_).size, uw_⟩
 | true =>
   obtain ⟨N, hN⟩ := nm_ (sval s)
   have HC : Hid (∀ V, Tab V → Calls Tryz.prog 79 #[.string s] V fun e w' => e = .returned (.tuple #[i64 N, .bool true]) ∧ UpOf V w') := hd_ fun V hV => by
    have := readDecimal_any s V (by omega) hV
    rw [rdR_ok hv, hN] at this
    exact this
   obtain ⟨R, hR⟩ := nm_ (lineR d.drills nm s)
   have HR := hd_ (show R = (match findD d.drills nm with | none => [errL 3] | some x => sent (dlR x N)) by rw [← hR, lineR, hv, if_pos rfl, hN])
   rw [hR]
   clear hv hN hR
   go_enter Tryz.func37, Tryz.ntmps37
   go_upto_region 1 with (fail)
   refine wpg (R := fun V => Box V w.heap.size (dkcs d A B c e) ∧ UpOf w V) ⟨Box.new _ _ _, uw_⟩ (fun V z => ?_)
   obtain ⟨hb, hB⟩ := z
   have HU := hd_ hB
   have HX := hd_ hb
   clear hb hB
   generalize w.heap.size = p at *
   go_wp2_with fail
   refine cu_ (HC.out _ (HT.out.below HU.out.below)) fun g1 => ?_
   have x6 : (up V g1).cell? ⟨p, 6, none⟩ = some (.slice B d.drills.length e) := (HX.out.below (ub_ V g1)).2 6 _ rfl
   have hp6 := (HX.out.below (ub_ V g1)).1
   go_wp2_with fail
   clear x6 hp6
   go_loopw [22] (fun t22 wr => ∃ k : Nat, k ≤ d.drills.length ∧ t22 = i64 k ∧ Hid (∀ i, i < k → (drl d.drills i).name ≠ nm) ∧ ∃ g : Up V, wr = up V g) (fun t22 _ => d.drills.length - (intOf t22).toNat)
   case atStart => exact ⟨0, by omega, rfl, hd_ (fun i hi => by omega), ex_up bw_⟩
   case round =>
    obtain ⟨k, hk, rfl, HK, g, rfl⟩ := hrel
    have hdn := HZ.out.n
    by_cases hlt : k < d.drills.length
    ·obtain ⟨b, off, rfl, hb, x0, x1, x2⟩ := drl_at ((HS.out.2.below HU.out.below).below (ub_ V g)) hlt
     obtain ⟨f1, f2⟩ := HZ.out.b k hlt
     by_cases he : (drl d.drills k).name = nm
     ·have ht := tl_teq he
      have hr := hd_ (show R = sent (dlR (drl d.drills k) N) by rw [HR.out, findD_at hlt he HK.out])
      have HDL : Hid (∀ V, Calls Tryz.prog 84 #[.agg #[.string (drl d.drills k).name, .string (drl d.drills k).letters, i64 (drl d.drills k).minutes], i64 N] V fun e w' => e = .returned (.tuple #[.string (dlR (drl d.drills k) N).1, i64 (dlR (drl d.drills k) N).2]) ∧ UpOf V w') := hd_ fun V => drillLine_any (drl d.drills k) N V (by omega) (by omega)
      obtain ⟨R1, hR1⟩ := nm_ ((dlR (drl d.drills k) N).1)
      obtain ⟨R2, hR2⟩ := nm_ ((dlR (drl d.drills k) N).2)
      have hr2 := hd_ (show R = sent (R1, R2) by rw [hr.out, ← hR1, ← hR2])
      rw [hR1, hR2] at HDL
      have HE := hd_ he
      clear he hR1 hR2 hr
      go_wp2_with fail
      refine cu_ (HDL.out _) fun g3 => ?_
      go_wp2_with fail
      refine (sentence_any R1 R2 _).mono ?_
      rintro r w' ⟨X, n, rfl, ox, g4, rfl⟩
      go_wp2_with fail
      go_ret
      rw [hr2.out]
      exact ⟨X, n, rfl, om_ ox (Nat.le_trans HU.out.below.size (show Below V.heap.size V _ from bw_).size), HU.out.tr bw_⟩
     ·have ht := tl_tne he
      have HK2 := hd_ (lt_ext (P := fun j => (drl d.drills j).name ≠ nm) HK.out he)
      clear he
      go_wp2_with fail
      go_roundw
      case rel => exact ⟨k + 1, by omega, by go_num, HK2, ex_up bw_⟩
      case measure => simp [intOf]; try omega
    ·obtain rfl : k = d.drills.length := by omega
     have hr := hd_ (show R = [errL 3] by rw [HR.out, findD_no HK.out])
     go_wp2_with fail
     refine (report_any 3 _).mono ?_
     rintro r w' ⟨X, n, rfl, ox, g4, rfl⟩
     go_wp2_with fail
     go_ret
     rw [hr.out]
     exact ⟨X, n, rfl, om_ ox (Nat.le_trans HU.out.below.size (show Below V.heap.size V _ from bw_).size), HU.out.tr bw_⟩
section
variable (w0 : World) (sb : Nat) (D : DeskD) (A B : Option Addr) (c e : Nat) (O : Option Addr) (oc : Nat) (L : List ByteArray) (NA : Option Addr) (nc : Nat) (ns : List Int) (TA : Option Addr) (tc : Nat) (ts : List ByteArray) (w : World)
theorem setM_any (h : ME w0 w sb D A B c e O oc L NA nc ns TA tc ts)
 (hl : ns.length = 1) (ht : ts.length = 1) (hs : (wd ts 0).size ≤ 1048576) (hn : L.length ≤ 1000000) :
 Calls Tryz.prog 111 #[.pointer (some ⟨sb, 0, none⟩)] w fun r w' => mePost w0 sb D (L ++ sent (setR (wordsA [] (wd ts 0).data.toList) (num ns 0))) r w' := by
 obtain ⟨tb, rfl, htb, hc⟩ := h.txt0 (by omega)
 have c0 := hc 0 (by omega)
 obtain ⟨nb, rfl, hnb, hc'⟩ := h.num0 (by omega)
 have d0 := hc' 0 (by omega)
 have HM := hd_ h
 obtain ⟨hsb, ⟨x0, x1, x2, x3, x4, x5, x6, x7⟩, -, k9, k10⟩ := h.le.cel
 obtain ⟨s, hs9⟩ := nm_ (wd ts 0)
 rw [hs9] at c0 hs ⊢
 obtain ⟨N, hN9⟩ := nm_ (num ns 0)
 rw [hN9] at d0 ⊢
 obtain ⟨R, hR⟩ := nm_ (wordsA [] s.data.toList)
 have HRl : Hid (R.length ≤ 100000000 ∧ WBd R) := hd_ (by
  refine ⟨?_, fun i hi => ?_⟩
  ·have := words_len s.data.toList []
   rw [hR, bsz] at this
   omega
  ·have := words_size s.data.toList [] (wd R i) (by rw [hR, ← wd_eq hi]; exact List.getElem_mem hi)
   rw [bsz] at this
   simp at this
   omega)
 have HSW : Hid (∀ V, Calls Tryz.prog 150 #[.string s] V fun e w' => txPost R V e w') := hd_ fun V => by
  rw [← hR]; exact splitWordsS_any s V hs
 rw [hR]
 obtain ⟨T, hT⟩ := nm_ ((setR R N).1)
 obtain ⟨cd, hcd⟩ := nm_ ((setR R N).2)
 have HC : Hid (∀ V A1 c1, Rds V 1 A1 R.length (strs R) → Calls Tryz.prog 164 #[.slice A1 R.length c1, i64 N] V fun e w' => e = .returned (.tuple #[.string T, i64 cd]) ∧ UpOf V w') := hd_ fun V A1 c1 ho => by
  have := setLineS_any N A1 c1 R V ho HRl.out.1 HRl.out.2
  rw [hT, hcd] at this
  exact this
 rw [show setR R N = (T, cd) from by rw [← hT, ← hcd]]
 obtain ⟨ls, hls⟩ := nm_ (sent (T, cd))
 rw [hls]
 have HLS := hd_ hls
 clear hls
 rw [ht] at k10
 rw [hl] at k9
 clear hT hcd hs9 hc h hR hN9 hc'
 go_enter Tryz.func111, Tryz.ntmps111
 go_upto_region 0 with (fail)
 go_region_held3 (fun w' => (w).heap.size ≤ w'.heap.size ∧ ∀ b o, b < (w).heap.size → w'.cell? ⟨b, o, none⟩ = (w).cell? ⟨b, o, none⟩) (exact sm_of bw_) (first | (go_at_call 150; refine (HSW.out _).mono ?_; rintro e w' ⟨A1, c1, rfl, o1, g1, rfl⟩) | (go_at_call 164; refine cu_ (HC.out _ A1 c1 ((Rds.of_own o1).below bw_)) fun g2 => ?_))
 clear o1
 by_cases h0 : cd = 0
 ·subst h0
  have hr : ls = [T] := HLS.out.symm
  subst hr
  go_wp2_with fail
  refine cs_ (reportR0_any _ _) ?_
  go_wp2_with fail
  refine (say_any w0 sb D _ _ _ _ _ _ L _ _ T _ (HM.out.le.below bw_) hn).mono ?_
  rintro r w' ⟨rfl, hp⟩
  go_wp2_with fail
  go_end0
  exact ⟨rfl, _, _, hp⟩
 ·have hr : ls = [errL cd] := by rw [← HLS.out, sent, if_neg h0]
  subst hr
  go_wp2_with fail
  refine (reportR_any w0 sb D A B c e O oc L _ _ cd _ (HM.out.le.below bw_) hn h0).mono ?_
  rintro r w' ⟨rfl, hp⟩
  go_wp2_with fail
  go_end0
  exact ⟨rfl, _, _, hp⟩
theorem lineM_any (h : ME w0 w sb D A B c e O oc L NA nc ns TA tc ts)
 (hl : ns.length = 1) (ht : ts.length = 1) (hs : (wd ts 0).size ≤ 1048576) (hn : L.length ≤ 1000000) (hd : D.drills.length ≤ 100000000) (hf : DBd D.drills) :
 Calls Tryz.prog 107 #[.pointer (some ⟨sb, 0, none⟩)] w fun r w' => mePost w0 sb D (L ++ (match findD D.drills (wd ts 0) with | none => [errL 3] | some x => sent (dlR x (num ns 0)))) r w' := by
 obtain ⟨tb, rfl, htb, hc⟩ := h.txt0 (by omega)
 have c0 := hc 0 (by omega)
 obtain ⟨nb, rfl, hnb, hc'⟩ := h.num0 (by omega)
 have d0 := hc' 0 (by omega)
 have HM := hd_ h
 obtain ⟨hsb, ⟨x0, x1, x2, x3, x4, x5, x6, x7⟩, -, k9, k10⟩ := h.le.cel
 obtain ⟨s, hs9⟩ := nm_ (wd ts 0)
 rw [hs9] at c0 hs ⊢
 obtain ⟨N, hN9⟩ := nm_ (num ns 0)
 rw [hN9] at d0 ⊢
 rw [ht] at k10
 rw [hl] at k9
 have HRD := hd_ (Rds.of_own h.le.dw.2)
 clear hs9 hc h hN9 hc'
 rcases idxD_some D.drills D.drills.length s with ⟨e1, e2⟩ | ⟨k, hk, e1, e2, e3⟩
 ·have HFD : Hid (∀ V, Below w.heap.size w V → Calls Tryz.prog 144 #[.slice B D.drills.length e, .string s] V fun e w' => e = .returned (i64 (-1)) ∧ V = w') := hd_ fun V hV => by
   have := l21Find_any B D.drills.length e D.drills s V (HRD.out.below hV) (Nat.le_refl _) hd
   rw [e1] at this
   exact this
  rw [findD_no e2]
  clear e1 e2
  go_enter Tryz.func107, Tryz.ntmps107
  go_wp2_with (first | ((with_reducible refine wru ?_); (repeat (go_big_quiet_step (first | (go_at_call 144; exact uqs_ (HFD.out _ bw_))))); refine wqn fun nq => ?_))
  refine (reportR_any w0 sb D A B c e O oc L _ _ 3 _ (HM.out.le.below bw_) hn (by decide)).mono ?_
  rintro r w' ⟨rfl, hp⟩
  go_wp2_with fail
  go_end0
  exact ⟨rfl, _, _, hp⟩
 ·have HFD : Hid (∀ V, Below w.heap.size w V → Calls Tryz.prog 144 #[.slice B D.drills.length e, .string s] V fun e w' => e = .returned (i64 (k : Int)) ∧ V = w') := hd_ fun V hV => by
   have := l21Find_any B D.drills.length e D.drills s V (HRD.out.below hV) (Nat.le_refl _) hd
   rw [e1] at this
   exact this
  rw [findD_at hk e2 e3]
  obtain ⟨b, off, rfl, hb, y0, y1, y2⟩ := drl_at HRD.out hk
  have f1 := hf k hk
  have hki : (k : Int) < (D.drills.length : Int) := by omega
  obtain ⟨X, hX⟩ := nm_ (drl D.drills k)
  rw [hX] at y0 y1 y2 f1
  show Calls _ _ _ _ fun r w' => mePost w0 sb D (L ++ (sent (dlR (drl D.drills k) N))) r w'
  rw [hX]
  obtain ⟨T, hT⟩ := nm_ ((dlR X N).1)
  obtain ⟨cd, hcd⟩ := nm_ ((dlR X N).2)
  have HC : Hid (∀ V, Calls Tryz.prog 160 #[drv X, i64 N] V fun e w' => e = .returned (.tuple #[.string T, i64 cd]) ∧ UpOf V w') := hd_ fun V => by
   have := drillLineS_any X N V (by omega) (by omega)
   rw [hT, hcd] at this
   exact this
  rw [show dlR X N = (T, cd) from by rw [← hT, ← hcd]]
  clear e1 e2 e3 hX hT hcd f1
  by_cases h0 : cd = 0
  ·subst h0
   have hr : sent (T, 0) = [T] := rfl
   rw [hr]
   clear hr
   go_enter Tryz.func107, Tryz.ntmps107
   go_wp2_with (first | ((with_reducible refine wru ?_); (repeat (go_big_quiet_step (first | (go_at_call 144; exact uqs_ (HFD.out _ bw_)) | (go_at_call 160; exact uq_ (HC.out _))))); refine wqn fun nq => ?_))
   refine cs_ (reportR0_any _ _) ?_
   go_wp2_with fail
   refine (say_any w0 sb D _ _ _ _ _ _ L _ _ T _ (HM.out.le.below bw_) hn).mono ?_
   rintro r w' ⟨rfl, hp⟩
   go_wp2_with fail
   go_end0
   exact ⟨rfl, _, _, hp⟩
  ·have hr : sent (T, cd) = [errL cd] := by rw [sent, if_neg h0]
   rw [hr]
   clear hr
   go_enter Tryz.func107, Tryz.ntmps107
   go_wp2_with (first | ((with_reducible refine wru ?_); (repeat (go_big_quiet_step (first | (go_at_call 144; exact uqs_ (HFD.out _ bw_)) | (go_at_call 160; exact uq_ (HC.out _))))); refine wqn fun nq => ?_))
   refine (reportR_any w0 sb D _ _ _ _ _ _ L _ _ cd _ (HM.out.le.below bw_) hn h0).mono ?_
   rintro r w' ⟨rfl, hp⟩
   go_wp2_with fail
   go_end0
   exact ⟨rfl, _, _, hp⟩
end
end Go.Proofs.YtbianlkenallaaaGreatDoor

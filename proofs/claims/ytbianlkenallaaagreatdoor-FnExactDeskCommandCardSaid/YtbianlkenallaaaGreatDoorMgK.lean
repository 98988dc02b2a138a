/-
  Common parts, put together: ConsRD, ConsRG, ConsRH, Dk10, Dc1, Dc2, Dc3, DcNP, DcSp, ConsY, ConsZ, ConsRI, ConsRK, Dc5, Dc6, DcK7.
-/
import Derived.Test.YtbianlkenallaaaGreatDoorConsRA
import Derived.Test.YtbianlkenallaaaGreatDoorMgF
import Derived.Test.YtbianlkenallaaaGreatDoorDk9
import Derived.Test.YtbianlkenallaaaGreatDoorMgH
import Derived.Test.YtbianlkenallaaaGreatDoorMgI
import Derived.Test.YtbianlkenallaaaGreatDoorMgJ
import Derived.Test.YtbianlkenallaaaGreatDoorMgB
import Derived.Test.YtbianlkenallaaaGreatDoorMgG
import Derived.Deep.DeepCutAuto
import Derived.Test.YtbianlkenallaaaGreatDoorDk2
import Derived.Test.YtbianlkenallaaaGreatDoorDk3
import Derived.Test.YtbianlkenallaaaGreatDoorDk4
import Derived.Test.YtbianlkenallaaaGreatDoorDk7
import Derived.Test.YtbianlkenallaaaGreatDoorDk8
import Derived.Test.YtbianlkenallaaaGreatDoorMgD
import Derived.Test.YtbianlkenallaaaGreatDoorMgA
set_option linter.all false
set_option maxHeartbeats 16000000
set_option maxRecDepth 10000
namespace Go.Proofs.YtbianlkenallaaaGreatDoor
open Go.RowKit
theorem adR_ok {s : ByteArray} {x : Entry} (h : (adR s x).2 = 0) : nameB x.what = true ∧ (adR s x).1.size ≤ 4000 := by
 by_cases h1 : codeL s = 0
 ·cases h2 : vEntry x with
  | false => rw [adR_7 h1 h2] at h; cases h
  | true =>
    refine ⟨(vEntry_inv h2).2.2.1, ?_⟩
    by_cases h3 : x.day < dayL (entsL s)
    ·rw [adR_6 h1 h2 h3] at h; cases h
    ·by_cases h4 : (s ++ newLine (stL s) x).size ≤ 4000
     ·rw [adR_0 h1 h2 h3 h4]; exact h4
     ·rw [adR_5 h1 h2 h3 h4] at h; cases h
 ·rw [adR_1 h1] at h
  exact absurd h h1
theorem enterM_any (w0 : World) (sb : Nat) (D : DeskD) (A B : Option Addr) (c e : Nat) (O : Option Addr) (oc : Nat) (L : List ByteArray) (NA : Option Addr) (nc : Nat) (ns : List Int) (TA : Option Addr) (tc : Nat) (ts : List ByteArray) (w : World) (h : ME w0 w sb D A B c e O oc L NA nc ns TA tc ts)
 (hl : ns.length = 2) (ht : ts.length = 1) (hs : (wd ts 0).size ≤ 1048576) (hn : L.length ≤ 1000000) (hlg : D.log.size ≤ 1048576) (D9 : DeskD) (L9 : List ByteArray) (n0 n1 : Int) (e0 : num ns 0 = n0) (e1 : num ns 1 = n1)
 (h9 : (if (adR D.log ⟨n0, wd ts 0, n1⟩).2 = 0 then ({ D with log := (adR D.log ⟨n0, wd ts 0, n1⟩).1 }, nmb (sumI (vaR (adR D.log ⟨n0, wd ts 0, n1⟩).1 (wd ts 0)).1, (vaR (adR D.log ⟨n0, wd ts 0, n1⟩).1 (wd ts 0)).2)) else (D, [errL (adR D.log ⟨n0, wd ts 0, n1⟩).2])) = (D9, L9)) :
 Calls Tryz.prog 105 #[.pointer (some ⟨sb, 0, none⟩)] w fun r w' => mePost w0 sb D9 (L ++ L9) r w' := by
 obtain ⟨tb, rfl, htb, hc⟩ := h.txt0 (by omega)
 have c0 := hc 0 (by omega)
 obtain ⟨nb, rfl, hnb, hc'⟩ := h.num0 (by omega)
 have d0 := hc' 0 (by omega)
 have d1 := hc' 1 (by omega)
 rw [e0] at d0
 rw [e1] at d1
 have HM := hd_ h
 obtain ⟨hsb, ⟨x0, x1, x2, x3, x4, x5, x6, x7⟩, -, k9, k10⟩ := h.le.cel
 obtain ⟨s, hs9⟩ := nm_ (wd ts 0)
 rw [hs9] at c0 hs h9
 have HS9 := hd_ hs9
 clear hs9
 rw [ht] at k10
 rw [hl] at k9
 clear hc h e0 e1 hc'
 have HOK := hd_ (@adR_ok D.log ⟨n0, s, n1⟩)
 have HVD := hd_ (@adR_valid D.log ⟨n0, s, n1⟩)
 obtain ⟨R, hR⟩ := nm_ (adR D.log ⟨n0, s, n1⟩)
 have HC : Hid (∀ V, Calls Tryz.prog 155 #[.string D.log, .agg #[i64 n0, .string s, i64 n1]] V fun e w' => e = .returned (.tuple #[.string R.1, i64 R.2]) ∧ UpOf V w') := hd_ fun V => by
  have := addEntryS_any D.log ⟨n0, s, n1⟩ V hlg (by show s.size ≤ _; omega)
  rw [hR] at this
  exact this
 rw [hR] at h9 HOK HVD
 obtain ⟨LG, cd⟩ := R
 have HR9 := hd_ h9
 clear hR h9
 go_enter Tryz.func105, Tryz.ntmps105
 by_cases h0 : cd = 0
 ·subst h0
  have hnm := (HOK.out rfl).1
  have hsz : LG.size ≤ 4000 := (HOK.out rfl).2
  have hva : vaR LG s = (vals s (entsL LG), 0) := vaR_0 (HVD.out rfl) hnm
  have h9 := HR9.out
  rw [if_pos rfl, hva] at h9
  have hvb0 := vaR_bd LG s
  obtain ⟨VL, hVL⟩ := nm_ (vals s (entsL LG))
  rw [hva, hVL] at hvb0
  have hvb : VL.length ≤ 4000 ∧ ∀ i, i < VL.length → -1000000000 ≤ num VL i ∧ num VL i ≤ 1000000000 := hvb0
  clear hvb0
  rw [hVL] at h9 hva
  have hsum : -4000000000000 ≤ sumI VL ∧ sumI VL ≤ 4000000000000 := by
   have := sumI'_bd (l := VL) (B := 1000000000) (by omega) hvb.2 VL.length (Nat.le_refl _)
   rw [sumI', List.take_length] at this
   have := hvb.1
   omega
  have HVB := hd_ hvb
  obtain ⟨SV, hSV⟩ := nm_ (sumI VL)
  have HSO : Hid (∀ V A1 c1, Rds V 1 A1 VL.length (ics VL) → Calls Tryz.prog 158 #[.slice A1 VL.length c1] V fun e w' => e = .returned (i64 SV) ∧ V = w') := hd_ fun V A1 c1 hr => by
   have := l00Sum_any A1 c1 VL V hr (by have := HVB.out.1; omega) HVB.out.2
   rw [hSV] at this
   exact this
  have HVO : Hid (∀ V, Calls Tryz.prog 156 #[.string LG, .string s] V fun e w' => ∃ A' c', e = .returned (.tuple #[.slice A' VL.length c', i64 0]) ∧ w'.ownsRow V.heap.size 2 1 (.slice A' VL.length c') VL.length (ics VL) ∧ UpOf V w') := hd_ fun V => by
   have := valuesOfS_any LG s V (by omega) (by omega)
   rw [hva] at this
   exact this
  simp only [] at h9
  rw [hSV] at h9 hsum
  injection h9 with h91 h92
  subst h91 h92
  have hrr : nmb (SV, 0) = [dec SV] := rfl
  rw [hrr]
  clear hva hVL hvb hSV hnm hrr HR9 HOK HVD
  go_wp2_with (first | ((with_reducible refine wru ?_); (repeat (go_big_quiet_step (first | (go_at_call 155; exact uq_ (HC.out _))))); refine wqn fun nq => ?_))
  refine cs_ (reportR0_any _ _) ?_
  have HL7 := hd_ (HM.out.le.below (V' := up w nq) bw_)
  have HT7 := hd_ (ob_ HM.out.tr (show Below w.heap.size w (up w nq) from bw_))
  have f7 := HM.out.le.bk.free 7
  go_upto_region 3 with (fail)
  have HL8 := hd_ (HL7.out.putL LG)
  have HT8 := hd_ (own_set1 HT7.out HL7.out.bk (by decide) 7 (.string LG))
  refine wpg (R := fun V => Hid (LE w0 V sb { D with log := LG } A B c e O oc L (.slice (some ⟨nb, 0, none⟩) ns.length nc) (.slice (some ⟨tb, 0, none⟩) ts.length tc)) ∧ Hid (V.ownsRow w0.heap.size 9 1 (.slice (some ⟨tb, 0, none⟩) ts.length tc) ts.length (strs ts))) ⟨HL8, HT8⟩ (fun V z => ?_)
  obtain ⟨HL9, HT9⟩ := z
  clear HL8 HT8 HL7 HT7 f7 hsb x0 x1 x2 x3 x4 x5 x6 x7 k9 k10 c0 d0 d1 htb hnb HC
  obtain ⟨hsb, -, -, -, k10⟩ := HL9.out.cel
  have c0 := (ws_at (Rds.of_own HT9.out) (i := 0) (by omega)).2
  rw [Nat.zero_add, HS9.out] at c0
  rw [ht] at k10
  go_wp2_with fail
  refine (HVO.out _).mono ?_
  rintro r w' ⟨A', c', rfl, o1, g1, rfl⟩
  go_wp2_with fail
  refine cs_ (HSO.out _ A' c' (Rds.of_own o1)) ?_
  clear o1
  go_wp2_with fail
  refine cu_ (l01Dec_any SV _ (by omega) (by omega)) fun g9 => ?_
  go_wp2_with fail
  refine (say_any w0 sb { D with log := LG } _ _ _ _ _ _ L _ _ (dec SV) _ (HL9.out.below bw_) hn).mono ?_
  rintro r w' ⟨rfl, hp⟩
  go_wp2_with fail
  go_end0
  exact ⟨rfl, _, _, hp⟩
 ·have h9 := HR9.out
  rw [if_neg h0] at h9
  injection h9 with h91 h92
  subst h92
  have HE9 := hd_ h91
  clear h91 HR9 HOK HVD
  go_wp2_with (first | ((with_reducible refine wru ?_); (repeat (go_big_quiet_step (first | (go_at_call 155; exact uq_ (HC.out _))))); refine wqn fun nq => ?_))
  refine (reportR_any w0 sb D _ _ _ _ _ _ L _ _ cd _ (HM.out.le.below bw_) hn h0).mono ?_
  rintro r w' ⟨rfl, hp⟩
  go_wp2_with fail
  go_end0
  rw [← HE9.out]
  exact ⟨rfl, _, _, hp⟩
structure DoH (D : DeskD) (L W : List ByteArray) : Prop where
 v : vDesk D = true
 n : L.length ≤ 800000
 wl : W.length ≤ 2000000
 ws : ∀ i, i < W.length → (wd W i).size ≤ 1048576
 rs : ∀ i, i < W.length → (restW W i).size ≤ 1048576
 st : D.stops.length ≤ 1000
 dr : D.drills.length ≤ 10
 db : DBd D.drills
 lg : D.log.size ≤ 1048576
theorem numsOf_len {ws : List ByteArray} {l : List Int} (h : numsOf ws = some l) : l.length = ws.length := by
 unfold numsOf at h
 split at h
 ·injection h with h; rw [← h, List.length_map]
 ·cases h
def KOk (two : List ByteArray → ByteArray × Int) (k f : Nat) : Prop := ∀ (w0 : World) (sb : Nat) (D : DeskD) (A B : Option Addr) (c e : Nat) (O : Option Addr) (oc : Nat) (L : List ByteArray) (NA : Option Addr) (nc : Nat) (ns : List Int) (TA : Option Addr) (tc : Nat) (ts : List ByteArray) (w : World) (W : List ByteArray), ME w0 w sb D A B c e O oc L NA nc ns TA tc ts → DoH D L W → fitK k W.length = true →
 wF W (formK k).data.toList 0 [] [] = some (ns, ts) → Calls Tryz.prog f #[.pointer (some ⟨sb, 0, none⟩)] w fun r w' => mePost w0 sb (doK two D W k).1 (L ++ (doK two D W k).2) r w'
section
variable {two : List ByteArray → ByteArray × Int}
theorem k10 (h2 : TwoOk two) : KOk two 10 110 := by
 intro w0 sb D A B c e O oc L NA nc ns TA tc ts w W h hd hf hw
 have h3 : 2 ≤ W.length := by simpa [fitK] using hf
 rw [wF_2 (.inr (.inr rfl))] at hw
 injection hw with hw
 injection hw with e1 e2
 subst e1 e2
 have hz := hd.rs 1 (by omega)
 exact rowM_any w0 sb D A B c e O oc L NA nc [] TA tc [restW W 1] w h rfl (by show (restW W 1).size ≤ _; omega) (by have := hd.n; omega) (by have := hd.st; omega)
theorem k2 (h2 : TwoOk two) : KOk two 2 102 := by
 intro w0 sb D A B c e O oc L NA nc ns TA tc ts w W h hd hf hw
 have h3 : 2 ≤ W.length := by simpa [fitK] using hf
 rw [wF_2 (.inl rfl)] at hw
 injection hw with hw
 injection hw with e1 e2
 subst e1 e2
 exact codeM_any h2 w0 sb D A B c e O oc L NA nc [] TA tc [restW W 1] w h rfl (hd.rs 1 (by omega)) (by have := hd.n; omega)
theorem k6 (h2 : TwoOk two) : KOk two 6 106 := by
 intro w0 sb D A B c e O oc L NA nc ns TA tc ts w W h hd hf hw
 rw [wF_6 (.inl rfl)] at hw
 cases hq : numsOf (W.drop 1) with
 | none => rw [hq] at hw; cases hw
 | some l =>
   rw [hq] at hw
   injection hw with hw
   injection hw with e1 e2
   subst e1 e2
   have hll := numsOf_len hq
   rw [List.length_drop] at hll
   have hwl := hd.wl
   have hr : doK two D W 6 = (D, nmb (tfR D.b l)) := by simp only [doK, hq]
   rw [hr]
   exact fastM_any w0 sb D A B c e O oc L NA nc l TA tc [] w h (by omega) (by have := hd.n; omega)
theorem k13 (h2 : TwoOk two) : KOk two 13 113 := by
 intro w0 sb D A B c e O oc L NA nc ns TA tc ts w W h hd hf hw
 have h3 : W.length = 3 := by simpa [fitK] using hf
 rw [wF_13 h3] at hw
 cases hq : numsOf (W.drop 1) with
 | none => rw [hq] at hw; cases hw
 | some l =>
   rw [hq] at hw
   injection hw with hw
   injection hw with e1 e2
   subst e1 e2
   have hll := numsOf_len hq
   rw [List.length_drop] at hll
   have hr : doK two D W 13 = (D, nmb (mwR D.b (num l 0) (num l 1))) := by simp only [doK, hq]
   rw [hr]
   exact waitM_any w0 sb D A B c e O oc L NA nc l TA tc [] w h (by omega) (by have := hd.n; omega)
theorem k12 (h2 : TwoOk two) : KOk two 12 112 := by
 intro w0 sb D A B c e O oc L NA nc ns TA tc ts w W h hd hf hw
 rw [wF_6 (.inr rfl)] at hw
 cases hq : numsOf (W.drop 1) with
 | none => rw [hq] at hw; cases hw
 | some l =>
   rw [hq] at hw
   injection hw with hw
   injection hw with e1 e2
   subst e1 e2
   have hll := numsOf_len hq
   rw [List.length_drop] at hll
   have hwl := hd.wl
   have hr : doK two D W 12 = (if vStops l then { D with stops := l } else D, if vStops l then [dkText { D with stops := l }] else [errL 1]) := by
    simp only [doK, hq]
    split <;> rfl
   rw [hr]
   exact stopsM_any w0 sb D A B c e O oc L NA nc l TA tc [] w h (by omega) hd.v (by have := hd.dr; omega) (by have := hd.n; omega)
theorem k11 (h2 : TwoOk two) : KOk two 11 111 := by
 intro w0 sb D A B c e O oc L NA nc ns TA tc ts w W h hd hf hw
 have h3 : 3 ≤ W.length := by simpa [fitK] using hf
 rw [wF_11 h3] at hw
 cases hb : numB (wd W 1) with
 | false => rw [hb] at hw; simp at hw
 | true =>
   rw [hb, if_pos rfl] at hw
   injection hw with hw
   injection hw with e1 e2
   subst e1 e2
   have hr : doK two D W 11 = (D, sent (setR (wordsA [] (restW W 2).data.toList) (sval (wd W 1)))) := by simp [doK, hb]
   rw [hr]
   exact setM_any w0 sb D A B c e O oc L NA nc [sval (wd W 1)] TA tc [restW W 2] w h rfl rfl (hd.rs 2 (by omega)) (by have := hd.n; omega)
theorem k7 (h2 : TwoOk two) : KOk two 7 107 := by
 intro w0 sb D A B c e O oc L NA nc ns TA tc ts w W h hd hf hw
 have h3 : W.length = 3 := by simpa [fitK] using hf
 rw [wF_7 h3] at hw
 cases hb : numB (wd W 2) with
 | false => rw [hb] at hw; simp at hw
 | true =>
   rw [hb, if_pos rfl] at hw
   injection hw with hw
   injection hw with e1 e2
   subst e1 e2
   have hr : doK two D W 7 = (D, match findD D.drills (wd W 1) with | none => [errL 3] | some x => sent (dlR x (sval (wd W 2)))) := by
    simp only [doK, hb, if_pos rfl]
    cases findD D.drills (wd W 1) <;> rfl
   rw [hr]
   exact lineM_any w0 sb D A B c e O oc L NA nc [sval (wd W 2)] TA tc [wd W 1] w h rfl rfl (hd.ws 1 (by omega)) (by have := hd.n; omega) (by have := hd.dr; omega) hd.db
theorem k1 (h2 : TwoOk two) : KOk two 1 101 := by
 intro w0 sb D A B c e O oc L NA nc ns TA tc ts w W h hd hf hw
 have h3 : W.length = 6 := by simpa [fitK] using hf
 rw [wF_1 h3] at hw
 cases hq : numsOf (W.drop 1) with
 | none => rw [hq] at hw; cases hw
 | some l =>
   rw [hq] at hw
   injection hw with hw
   injection hw with e1 e2
   subst e1 e2
   have hll := numsOf_len hq
   rw [List.length_drop] at hll
   have hr : doK two D W 1 = (if vBsk ⟨num l 0, num l 1, num l 2, num l 3, num l 4⟩ then { D with b := ⟨num l 0, num l 1, num l 2, num l 3, num l 4⟩ } else D, if vBsk ⟨num l 0, num l 1, num l 2, num l 3, num l 4⟩ then [dkText { D with b := ⟨num l 0, num l 1, num l 2, num l 3, num l 4⟩ }] else [errL 1]) := by
    simp only [doK, hq]
    split <;> rfl
   rw [hr]
   exact basketM_any w0 sb D A B c e O oc L NA nc l TA tc [] w h (by omega) hd.v (by have := hd.st; omega) (by have := hd.dr; omega) (by have := hd.n; omega) _ _ _ _ _ rfl rfl rfl rfl rfl
theorem k3 (h2 : TwoOk two) : KOk two 3 103 := by
 intro w0 sb D A B c e O oc L NA nc ns TA tc ts w W h hd hf hw
 have h3 : 2 ≤ W.length := by simpa [fitK] using hf
 rw [wF_2 (.inr (.inl rfl))] at hw
 injection hw with hw
 injection hw with e1 e2
 subst e1 e2
 exact drillM_any w0 sb D A B c e O oc L NA nc [] TA tc [restW W 1] w h rfl (hd.rs 1 (by omega)) (by have := hd.n; omega) hd.v (by have := hd.st; omega) hd.dr hd.db _ _ (by
  show _ = (doK two D W 3)
  simp only [doK]
  rfl)
theorem k5 (h2 : TwoOk two) : KOk two 5 105 := by
 intro w0 sb D A B c e O oc L NA nc ns TA tc ts w W h hd hf hw
 have h3 : W.length = 4 := by simpa [fitK] using hf
 rw [wF_5 h3] at hw
 cases hq : numsOf [wd W 1, wd W 3] with
 | none => rw [hq] at hw; cases hw
 | some l =>
   rw [hq] at hw
   injection hw with hw
   injection hw with e1 e2
   subst e1 e2
   have hll := numsOf_len hq
   exact enterM_any w0 sb D A B c e O oc L NA nc l TA tc [wd W 2] w h hll rfl (hd.ws 2 (by omega)) (by have := hd.n; omega) hd.lg _ _ _ _ rfl rfl (by
    show _ = (doK two D W 5)
    simp only [doK, hq]
    rfl)
theorem k4 (h2 : TwoOk two) : KOk two 4 104 := by
 intro w0 sb D A B c e O oc L NA nc ns TA tc ts w W h hd hf hw
 exact drillsM_any w0 sb D A B c e O oc L _ _ w h.le hd.n hd.v
theorem k8 (h2 : TwoOk two) : KOk two 8 108 := by
 intro w0 sb D A B c e O oc L NA nc ns TA tc ts w W h hd hf hw
 exact logM_any w0 sb D A B c e O oc L _ _ w h.le hd.n hd.v
end
theorem formK_ok {k n : Nat} (hk : k < 14) (h : fitK k n = true) : (formK k).size + 1 ≤ n ∧ (formK k).size ≤ 10 ∧ (∀ b ∈ (formK k).data.toList, b = 110 ∨ b = 108 ∨ b = 114 ∨ b = 120) ∧ ((formK k).toList == [45]) = false := by
 have h14 : k = 0 ∨ k = 1 ∨ k = 2 ∨ k = 3 ∨ k = 4 ∨ k = 5 ∨ k = 6 ∨ k = 7 ∨ k = 8 ∨ k = 9 ∨ k = 10 ∨ k = 11 ∨ k = 12 ∨ k = 13 := by omega
 clear hk
 rcases h14 with rfl | rfl | rfl | rfl | rfl | rfl | rfl | rfl | rfl | rfl | rfl | rfl | rfl | rfl
 all_goals
  simp [fitK] at h
  refine ⟨?_, by decide, by decide, by rw [ByteArray.toList_eq]; decide⟩
  simp [formK, ByteArray.size]
  omega
theorem formK_min {k : Nat} (hk : k < 14) : ((formK k).toList == [45]) = false := by
 have h14 : k = 0 ∨ k = 1 ∨ k = 2 ∨ k = 3 ∨ k = 4 ∨ k = 5 ∨ k = 6 ∨ k = 7 ∨ k = 8 ∨ k = 9 ∨ k = 10 ∨ k = 11 ∨ k = 12 ∨ k = 13 := by omega
 clear hk
 rcases h14 with rfl | rfl | rfl | rfl | rfl | rfl | rfl | rfl | rfl | rfl | rfl | rfl | rfl | rfl
 all_goals (rw [ByteArray.toList_eq]; decide)
theorem WS.me {w0 w V : World} {sb : Nat} {D : DeskD} {A B O X NA TA : Option Addr} {c e oc xc nc tc : Nat} {L W ts : List ByteArray} {ns : List Int} (h : WS w0 w V sb D A B c e O oc L X xc W NA nc ns TA tc ts) : ME w0 V sb D A B c e O oc L NA nc ns TA tc ts :=
 ⟨h.le, om_ h.nw h.lt, om_ h.tw h.lt⟩
def doPost (two : List ByteArray → ByteArray × Int) (w0 : World) (sb : Nat) (D : DeskD) (L : List ByteArray) (o : Option (DeskD × List ByteArray)) (r : Ending) (w' : World) : Prop := match o with
 | none => r = .returned (.bool false) ∧ ∃ x y, lePost w0 sb D L x y w'
 | some p => r = .returned (.bool true) ∧ ∃ x y, lePost w0 sb p.1 (L ++ p.2) x y w'
theorem do_any {two : List ByteArray → ByteArray × Int} (h2 : TwoOk two) (hal : KOk two 0 100) (hmk : KOk two 9 109) (w0 : World) (sb : Nat) (D : DeskD) (A B : Option Addr) (c e : Nat) (O : Option Addr) (oc : Nat) (L : List ByteArray) (x y : Value) (s : ByteArray) (w : World) (h : LE w0 w sb D A B c e O oc L x y) (hs : s.size ≤ 1048576) (hd : DoH D L (splitA 32 [] s.data.toList)) :
 Calls Tryz.prog 46 #[.pointer (some ⟨sb, 0, none⟩), .string s] w fun r w' => doPost two w0 sb D L (doL two D s) r w' := by
 have HE := hd_ h
 have HD := hd_ hd
 obtain ⟨W, hW⟩ := nm_ (splitA 32 [] s.data.toList)
 obtain ⟨RS, hRS⟩ := nm_ (doL two D s)
 have HRS : Hid (RS = if fitK (kindOf (wd W 0)) W.length then some (doK two D W (kindOf (wd W 0))) else none) := hd_ (by rw [← hRS, doL, hW])
 have hW1 : 0 < W.length := by rw [← hW]; exact List.length_pos_iff.2 (splitA_ne 32 _ _)
 have HSP := hd_ (fun V => l01Split_any s 32 32 rfl V (by omega))
 rw [hW] at HSP HD
 rw [hRS]
 clear h hd hRS hW
 have hWl := HD.out.wl
 obtain ⟨q0, q1, q2, q3, q4, q5, q6, q7, q8, q9, q10, q11, q12, q13⟩ := kts (s := wd W 0) rfl
 have hk := kind_le (wd W 0)
 have HFM := hd_ (fun V => l28Form_any (wd W 0) V)
 obtain ⟨Z, hZ⟩ := nm_ (wd W 0)
 have HZ := hd_ hZ
 rw [hZ] at q0 q1 q2 q3 q4 q5 q6 q7 q8 q9 q10 q11 q12 q13 hk HFM HRS
 obtain ⟨k, hkk⟩ := nm_ (kindOf Z)
 rw [hkk] at q0 q1 q2 q3 q4 q5 q6 q7 q8 q9 q10 q11 q12 q13 hk HFM HRS
 clear hkk hZ
 obtain ⟨m, hm⟩ : ∃ m, W.length = m + 1 := ⟨W.length - 1, by omega⟩
 have hm1 : (W.length : Int) - 1 = (m : Int) := by omega
 have hW1' : (0 : Int) < (W.length : Int) := by omega
 have HM := hd_ hm
 clear hm
 go_enter Tryz.func46, Tryz.ntmps46
 go_wp2_with fail
 refine (HSP.out _).mono ?_
 rintro r w' ⟨AW, cW, rfl, ow, g1, rfl⟩
 obtain ⟨bW, rfl⟩ := own_someT ow hW1
 have HE1 := hd_ (HE.out.below (V' := up w g1) bw_)
 have HO1 := hd_ (om_ ow HE.out.up.below.size)
 obtain ⟨V, hV⟩ := nm_ (up w g1)
 rw [hV] at HE1 HO1 ⊢
 clear hV ow HE g1 HSP
 obtain ⟨hbW, n0⟩ := ws_at (Rds.of_own HO1.out) hW1
 rw [Nat.zero_add, HZ.out] at n0
 go_wp2_with fail
 refine cs_ (HFM.out _) ?_
 obtain ⟨F, hF⟩ := nm_ (formK k)
 rw [hF]
 have HF := hd_ hF
 clear hF
 by_cases hk14 : k = 14
 ·have ht : (F.toList == [45]) = true := by rw [← HF.out, hk14, ByteArray.toList_eq]; decide
  have hr : RS = none := by rw [HRS.out, hk14, if_neg (by simp [fitK])]
  subst hr
  clear q0 q1 q2 q3 q4 q5 q6 q7 q8 q9 q10 q11 q12 q13 hk14 hk
  go_wp2_with fail
  go_ret
  exact ⟨rfl, x, y, A, B, c, e, O, oc, HE1.out⟩
 ·have hk9 : k < 14 := by omega
  have ht : (F.toList == [45]) = false := by rw [← HF.out]; exact formK_min hk9
  have HFT : Hid (∀ V, Calls Tryz.prog 98 #[.string F, i64 (m : Int)] V fun e w' => e = .returned (.bool (fitK k W.length)) ∧ V = w') := hd_ fun V => by
   have := l28Fits_any k m hk9 (by have := HM.out; omega) V
   rw [HF.out, ← HM.out] at this
   exact this
  clear hk14 hk
  cases hf : fitK k W.length with
  | false =>
    rw [hf] at HFT
    have hr : RS = none := by rw [HRS.out, hf]; rfl
    subst hr
    clear q0 q1 q2 q3 q4 q5 q6 q7 q8 q9 q10 q11 q12 q13
    go_wp2_with fail
    refine cs_ (HFT.out _) ?_
    go_wp2_with fail
    go_ret
    exact ⟨rfl, x, y, A, B, c, e, O, oc, HE1.out⟩
  | true =>
    rw [hf] at HFT
    have HRR := hd_ (show RS = some (doK two D W k) by rw [HRS.out, hf]; rfl)
    obtain ⟨z1, z2, z3, -⟩ := formK_ok hk9 hf
    rw [HF.out] at z1 z2 z3
    have HWD := hd_ (wordsR_any w0 sb D A B c e O oc L x y (some ⟨bW, 0, none⟩) cW W F V HE1.out HO1.out z1 z3 z2 HD.out.wl HD.out.ws)
    clear z1 z2 z3 HRS
    go_wp2_with fail
    refine cs_ (HFT.out _) ?_
    go_wp2_with fail
    cases ho : wF W F.data.toList 0 [] [] with
    | none =>
      rw [ho] at HWD
      have HDK := hd_ (show RS = some (D, [errL 7]) by rw [HRR.out, doK_none hk9 hf (by rw [HF.out]; exact ho)])
      clear q0 q1 q2 q3 q4 q5 q6 q7 q8 q9 q10 q11 q12 q13 ho hf HRR
      refine (HWD.out).mono ?_
      rintro r w' ⟨rfl, x1, y1, hle⟩
      have HL := hd_ hle
      clear hle
      go_wp2_with fail
      refine (reportR_any w0 sb D _ _ _ _ _ _ L _ _ 7 _ (HL.out.below bw_) (by have := HD.out.n; omega) (by decide)).mono ?_
      rintro r w' ⟨rfl, hp⟩
      go_wp2_with fail
      go_ret
      rw [HDK.out]
      exact ⟨rfl, _, _, hp⟩
    | some p =>
      obtain ⟨ns, ts⟩ := p
      rw [ho] at HWD
      have HWF : Hid (wF W (formK k).data.toList 0 [] [] = some (ns, ts)) := hd_ (by rw [HF.out]; exact ho)
      have HFK := hd_ hf
      clear ho hf
      refine (HWD.out).mono ?_
      rintro r w' ⟨rfl, NA, nc, TA, tc, hws⟩
      have HWS := hd_ hws
      clear hws HWD hbW n0
      obtain ⟨hbW, n0⟩ := ws_at (Rds.of_own HWS.out.xw) hW1
      rw [Nat.zero_add, HZ.out] at n0
      have HKM : Hid (∀ f, KOk two k f → Calls Tryz.prog f #[.pointer (some ⟨sb, 0, none⟩)] w' fun r w' => mePost w0 sb (doK two D W k).1 (L ++ (doK two D W k).2) r w') := hd_ fun f hf => hf w0 sb D A B c e O oc L NA nc ns TA tc ts w' W HWS.out.me HD.out HFK.out HWF.out
      have HAL := hd_ hal
      have HMK := hd_ hmk
      obtain ⟨DR, hDR⟩ := nm_ (doK two D W k)
      rw [hDR] at HKM
      have HR2 := hd_ (show RS = some DR by rw [HRR.out, hDR])
      clear HRR hDR hal hmk HWF HFK HFT ht
      have h14 : k = 0 ∨ k = 1 ∨ k = 2 ∨ k = 3 ∨ k = 4 ∨ k = 5 ∨ k = 6 ∨ k = 7 ∨ k = 8 ∨ k = 9 ∨ k = 10 ∨ k = 11 ∨ k = 12 ∨ k = 13 := by omega
      clear hk9
      rcases h14 with rfl | rfl | rfl | rfl | rfl | rfl | rfl | rfl | rfl | rfl | rfl | rfl | rfl | rfl
      ·simp only [Nat.reduceEqDiff, eq_self, decide_true, decide_false] at q0 q1 q2 q3 q4 q5 q6 q7 q8 q9 q10 q11 q12 q13
       go_wp2_with fail
       refine (HKM.out 100 HAL.out).mono ?_
       rintro r w' ⟨rfl, xx, yy, hp⟩
       go_wp2_with fail
       go_ret
       rw [HR2.out]
       exact ⟨rfl, xx, yy, hp⟩
      ·simp only [Nat.reduceEqDiff, eq_self, decide_true, decide_false] at q0 q1 q2 q3 q4 q5 q6 q7 q8 q9 q10 q11 q12 q13
       go_wp2_with fail
       refine (HKM.out 101 (k1 h2)).mono ?_
       rintro r w' ⟨rfl, xx, yy, hp⟩
       go_wp2_with fail
       go_ret
       rw [HR2.out]
       exact ⟨rfl, xx, yy, hp⟩
      ·simp only [Nat.reduceEqDiff, eq_self, decide_true, decide_false] at q0 q1 q2 q3 q4 q5 q6 q7 q8 q9 q10 q11 q12 q13
       go_wp2_with fail
       refine (HKM.out 102 (k2 h2)).mono ?_
       rintro r w' ⟨rfl, xx, yy, hp⟩
       go_wp2_with fail
       go_ret
       rw [HR2.out]
       exact ⟨rfl, xx, yy, hp⟩
      ·simp only [Nat.reduceEqDiff, eq_self, decide_true, decide_false] at q0 q1 q2 q3 q4 q5 q6 q7 q8 q9 q10 q11 q12 q13
       go_wp2_with fail
       refine (HKM.out 103 (k3 h2)).mono ?_
       rintro r w' ⟨rfl, xx, yy, hp⟩
       go_wp2_with fail
       go_ret
       rw [HR2.out]
       exact ⟨rfl, xx, yy, hp⟩
      ·simp only [Nat.reduceEqDiff, eq_self, decide_true, decide_false] at q0 q1 q2 q3 q4 q5 q6 q7 q8 q9 q10 q11 q12 q13
       go_wp2_with fail
       refine (HKM.out 104 (k4 h2)).mono ?_
       rintro r w' ⟨rfl, xx, yy, hp⟩
       go_wp2_with fail
       go_ret
       rw [HR2.out]
       exact ⟨rfl, xx, yy, hp⟩
      ·simp only [Nat.reduceEqDiff, eq_self, decide_true, decide_false] at q0 q1 q2 q3 q4 q5 q6 q7 q8 q9 q10 q11 q12 q13
       go_wp2_with fail
       refine (HKM.out 105 (k5 h2)).mono ?_
       rintro r w' ⟨rfl, xx, yy, hp⟩
       go_wp2_with fail
       go_ret
       rw [HR2.out]
       exact ⟨rfl, xx, yy, hp⟩
      ·simp only [Nat.reduceEqDiff, eq_self, decide_true, decide_false] at q0 q1 q2 q3 q4 q5 q6 q7 q8 q9 q10 q11 q12 q13
       go_wp2_with fail
       refine (HKM.out 106 (k6 h2)).mono ?_
       rintro r w' ⟨rfl, xx, yy, hp⟩
       go_wp2_with fail
       go_ret
       rw [HR2.out]
       exact ⟨rfl, xx, yy, hp⟩
      ·simp only [Nat.reduceEqDiff, eq_self, decide_true, decide_false] at q0 q1 q2 q3 q4 q5 q6 q7 q8 q9 q10 q11 q12 q13
       go_wp2_with fail
       refine (HKM.out 107 (k7 h2)).mono ?_
       rintro r w' ⟨rfl, xx, yy, hp⟩
       go_wp2_with fail
       go_ret
       rw [HR2.out]
       exact ⟨rfl, xx, yy, hp⟩
      ·simp only [Nat.reduceEqDiff, eq_self, decide_true, decide_false] at q0 q1 q2 q3 q4 q5 q6 q7 q8 q9 q10 q11 q12 q13
       go_wp2_with fail
       refine (HKM.out 108 (k8 h2)).mono ?_
       rintro r w' ⟨rfl, xx, yy, hp⟩
       go_wp2_with fail
       go_ret
       rw [HR2.out]
       exact ⟨rfl, xx, yy, hp⟩
      ·simp only [Nat.reduceEqDiff, eq_self, decide_true, decide_false] at q0 q1 q2 q3 q4 q5 q6 q7 q8 q9 q10 q11 q12 q13
       go_wp2_with fail
       refine (HKM.out 109 HMK.out).mono ?_
       rintro r w' ⟨rfl, xx, yy, hp⟩
       go_wp2_with fail
       go_ret
       rw [HR2.out]
       exact ⟨rfl, xx, yy, hp⟩
      ·simp only [Nat.reduceEqDiff, eq_self, decide_true, decide_false] at q0 q1 q2 q3 q4 q5 q6 q7 q8 q9 q10 q11 q12 q13
       go_wp2_with fail
       refine (HKM.out 110 (k10 h2)).mono ?_
       rintro r w' ⟨rfl, xx, yy, hp⟩
       go_wp2_with fail
       go_ret
       rw [HR2.out]
       exact ⟨rfl, xx, yy, hp⟩
      ·simp only [Nat.reduceEqDiff, eq_self, decide_true, decide_false] at q0 q1 q2 q3 q4 q5 q6 q7 q8 q9 q10 q11 q12 q13
       go_wp2_with fail
       refine (HKM.out 111 (k11 h2)).mono ?_
       rintro r w' ⟨rfl, xx, yy, hp⟩
       go_wp2_with fail
       go_ret
       rw [HR2.out]
       exact ⟨rfl, xx, yy, hp⟩
      ·simp only [Nat.reduceEqDiff, eq_self, decide_true, decide_false] at q0 q1 q2 q3 q4 q5 q6 q7 q8 q9 q10 q11 q12 q13
       go_wp2_with fail
       refine (HKM.out 112 (k12 h2)).mono ?_
       rintro r w' ⟨rfl, xx, yy, hp⟩
       go_wp2_with fail
       go_ret
       rw [HR2.out]
       exact ⟨rfl, xx, yy, hp⟩
      ·simp only [Nat.reduceEqDiff, eq_self, decide_true, decide_false] at q0 q1 q2 q3 q4 q5 q6 q7 q8 q9 q10 q11 q12 q13
       go_wp2_with fail
       refine (HKM.out 113 (k13 h2)).mono ?_
       rintro r w' ⟨rfl, xx, yy, hp⟩
       go_wp2_with fail
       go_ret
       rw [HR2.out]
       exact ⟨rfl, xx, yy, hp⟩
theorem rds_grown {w w' : World} {sz n : Nat} {A : Option Addr} {xs : List Value} {row : Option Nat} (h : Rds w sz A n xs) (hg : w.grownBy w' row) (hne : ∀ b off, A = some ⟨b, off, none⟩ → some b ≠ row) : Rds w' sz A n xs :=
 ⟨h.1, fun h0 => by
  obtain ⟨b, off, e, hb, hc⟩ := h.2 h0
  exact ⟨b, off, e, Nat.lt_of_lt_of_le hb hg.size, fun j u hu => hg.cell (hc j u hu) (hne b off e)⟩⟩
theorem listDrills_any (d : DeskD) (A B : Option Addr) (c e : Nat) (s : ByteArray) (w : World) (hS : DSee w d A B) (hz : DkSz d e) (hk : kindOf s = 4) (ht : Tab w) :
 Calls Tryz.prog 39 #[dkv d A B c e, .string s] w fun r w' => txPost (d.drills.map drText ++ [okLine d.drills.length]) w r w' := by
 have HS := hd_ hS
 have HZ := hd_ hz
 have HT := hd_ ht
 have q4 : (s.toList == [100, 114, 105, 108, 108, 115]) = true := by
  have := kind_test2 s (i := 4) (by omega)
  rw [hk] at this
  exact this
 obtain ⟨R, hR⟩ := nm_ (d.drills.map drText ++ [okLine d.drills.length])
 have HR := hd_ hR
 rw [hR]
 clear hS hz hk ht hR
 go_enter Tryz.func39, Tryz.ntmps39
 go_upto_region 1 with (fail)
 refine wpg (R := fun V => Box V w.heap.size (dkcs d A B c e) ∧ UpOf w V) ⟨Box.new _ _ _, uw_⟩ (fun V z => ?_)
 obtain ⟨hb, hB⟩ := z
 have HU := hd_ hB
 obtain ⟨hpV, x0, x1, x2, x3, x4, x5, x6, x7⟩ := hb.eight
 clear hb hB
 generalize w.heap.size = p at *
 have hOwn := hd_ (World.ownsRow_lit (base := V.heap.size) (e := 9) (size := 1) V #[] 0 (Nat.le_refl _) (by unfold maxLen; omega) rfl)
 go_wp2_with fail
 have hdn := HZ.out.n
 clear x0 x1 x2 x3 x4 x5 x6 x7 hpV
 go_loopw [5, 18] (fun t5 t18 wr => ∃ (k : Nat) (L : List ByteArray) (A1 : Option Addr) (c1 : Nat), k ≤ d.drills.length ∧ t18 = i64 k ∧ t5 = .slice A1 L.length c1 ∧ Hid (L = (d.drills.take k).map drText) ∧ Hid (wr.ownsRow V.heap.size 9 1 (.slice A1 L.length c1) L.length (strs L)) ∧ ∃ g : Up V, wr = up V g) (fun _ t18 _ => d.drills.length - (intOf t18).toNat)
 case atStart => exact ⟨0, [], _, _, by omega, rfl, rfl, hd_ rfl, hd_ hOwn.out, ex_up bw_⟩
 case round =>
  obtain ⟨k, L, A1, c1, hk, rfl, rfl, HE, HO, g, rfl⟩ := hrel
  clear hOwn
  have hLl : L.length ≤ 100000000 := by rw [HE.out, List.length_map, List.length_take]; omega
  by_cases hlt : k < d.drills.length
  ·obtain ⟨b, off, rfl, hb, x0, x1, x2⟩ := drl_at ((HS.out.2.below HU.out.below).below (ub_ V g)) hlt
   obtain ⟨f1, f2⟩ := HZ.out.b k hlt
   obtain ⟨T, hT⟩ := nm_ (drText (drl d.drills k))
   have HDT : Hid (∀ V, Tab V → Calls Tryz.prog 88 #[.agg #[.string (drl d.drills k).name, .string (drl d.drills k).letters, i64 (drl d.drills k).minutes]] V fun e w' => e = .returned (.string T) ∧ UpOf V w') := hd_ fun V hV => by
    rw [← hT]; exact drillText_any (drl d.drills k) V (by omega) (by omega) hV
   have HE2 := hd_ (show L ++ [T] = (d.drills.take (k + 1)).map drText by
    rw [List.take_succ, List.map_append, ← HE.out, List.getElem?_eq_getElem hlt, drl_eq hlt, ← hT]; rfl)
   clear hT HE
   go_wp2_with (first | (go_at_call 88; refine cu_ (HDT.out _ (HT.out.below (HU.out.tr bw_).below)) fun g => ?_) | (at_builtin; go_must (refine wpl_appU rfl _ _ 24 rfl V V.heap.size 9 _ 1 16 el_str (.slice A1 L.length c1) L.length (strs L) rfl (ob_ HO.out bw_) _ 1 1 [.string T] rfl (rds_new _ _ _ 1 1 rfl) (fun u hu => by simp at hu; subst hu; rfl) (by unfold maxLen; omega) (by omega) (show Below V.heap.size V _ from bw_).size bw_ (Nat.le_refl _) ?_; intro A2 c2 g2 o2)))
   go_roundw
   case rel => exact ⟨k + 1, L ++ [T], A2, c2, by omega, by go_num, congrArg (fun n => Value.slice A2 n c2) (by simp), HE2, hd_ (by rw [List.length_append, strs_app]; exact o2), ex_up bw_⟩
   case measure => simp [intOf]; try omega
  ·obtain rfl : k = d.drills.length := by omega
   have HF := hd_ (show R = L ++ [okLine L.length] by rw [← HR.out, HE.out, List.take_length, List.length_map])
   clear HE
   go_wp2_with fail
   refine (listed_any V.heap.size A1 c1 L (up V g) (ub_ V g).size HO.out (by omega) (HT.out.below (HU.out.tr (ub_ V g)).below) V (ub_ V g) (Nat.le_refl _)).mono ?_
   rintro r w' ⟨A2, c2, rfl, o2, g2, rfl⟩
   go_wp2_with fail
   go_ret
   refine ⟨A2, c2, ?_, ?_, HU.out.tr bw_⟩
   ·rw [HF.out, List.length_append]; rfl
   ·rw [HF.out, List.length_append]; exact om_ o2 HU.out.below.size
theorem listLog_any (d : DeskD) (A B : Option Addr) (c e : Nat) (s : ByteArray) (w : World) (hz : DkSz d e) (hk : kindOf s = 8) (hv : vDesk d = true) (ht : Tab w) :
 Calls Tryz.prog 39 #[dkv d A B c e, .string s] w fun r w' => txPost ((entsL d.log).map ewords ++ [okLine (entsL d.log).length]) w r w' := by
 have HZ := hd_ hz
 have HT := hd_ ht
 have q4 : (s.toList == [100, 114, 105, 108, 108, 115]) = false := by
  have := kind_test2 s (i := 4) (by omega)
  rw [hk] at this
  exact this
 have hcl := (vDesk_inv hv).2.2.2
 obtain ⟨E, hE⟩ := nm_ (entsL d.log)
 have hEl : E.length ≤ 4000 := by rw [← hE]; exact entsL_len hcl
 have HEV : Hid (∀ i (h : i < E.length), vEntry E[i] = true) := hd_ fun i h => by
  have := entsL_ok d.log E[i] (by rw [hE]; exact List.getElem_mem h)
  exact this
 have HEO : Hid (∀ V, Tab V → Calls Tryz.prog 68 #[.string d.log] V fun e w' => ∃ A' c', e = .returned (.tuple #[.slice A' E.length c', i64 0]) ∧ w'.ownsRow V.heap.size 127 3 (.slice A' E.length c') E.length (encs E) ∧ UpOf V w') := hd_ fun V hV => by
  have := entriesOfI_any d.log V HZ.out.l hV
  rw [enR, if_pos hcl, hE] at this
  exact this
 rw [hE]
 obtain ⟨R, hR⟩ := nm_ (E.map ewords ++ [okLine E.length])
 have HR := hd_ hR
 rw [hR]
 clear hz hk ht hR hv hcl hE
 go_enter Tryz.func39, Tryz.ntmps39
 go_upto_region 1 with (fail)
 refine wpg (R := fun V => Box V w.heap.size (dkcs d A B c e) ∧ UpOf w V) ⟨Box.new _ _ _, uw_⟩ (fun V z => ?_)
 obtain ⟨hb, hB⟩ := z
 have HU := hd_ hB
 obtain ⟨hpV, x0, x1, x2, x3, x4, x5, x6, x7⟩ := hb.eight
 clear hb hB
 generalize w.heap.size = p at *
 have hOwn := hd_ (World.ownsRow_lit (base := V.heap.size) (e := 9) (size := 1) V #[] 0 (Nat.le_refl _) (by unfold maxLen; omega) rfl)
 go_wp2_with fail
 refine (HEO.out _ (HT.out.below (HU.out.tr bw_).below)).mono ?_
 rintro r w' ⟨AE, cE, rfl, oe, g0, rfl⟩
 have HNE : Hid (∀ b off, AE = some ⟨b, off, none⟩ → b ≠ V.heap.size) := hd_ fun b off hb => by
  subst hb
  have := (oe.lt b rfl).1
  rw [World.size_alloc] at this
  omega
 have HRE := hd_ (Rds.of_own oe)
 have hup : Hid (Below V.heap.size V (up (V.alloc (.cells #[] 9)) g0)) := hd_ bw_
 have HO0 := hd_ (ob_ hOwn.out (ub_ _ g0))
 clear oe hOwn x0 x1 x2 x3 x4 x5 x6 x7 hpV
 go_wp2_with fail
 generalize up (V.alloc (.cells #[] 9)) g0 = V2 at *
 go_loopw [5, 38] (fun t5 t38 wr => ∃ (k : Nat) (L : List ByteArray) (ga c1 : Nat), k ≤ E.length ∧ t38 = i64 k ∧ t5 = .slice (some ⟨ga, 0, none⟩) L.length c1 ∧ Hid (L = (E.take k).map ewords) ∧ Hid (wr.ownsRow V.heap.size 9 1 (.slice (some ⟨ga, 0, none⟩) L.length c1) L.length (strs L)) ∧ Hid (Rds wr 3 AE E.length (encs E) ∧ ∀ b off, AE = some ⟨b, off, none⟩ → b ≠ ga) ∧ Hid (Below V.heap.size V wr)) (fun _ t38 _ => E.length - (intOf t38).toNat)
 case atStart => exact ⟨0, [], _, _, by omega, rfl, rfl, hd_ rfl, HO0, hd_ ⟨HRE.out, HNE.out⟩, hup⟩
 case round =>
  obtain ⟨k, L, ga, c1, hk, rfl, rfl, HE, HO, HRr, HBv⟩ := hrel
  clear HRE hup HO0 HNE
  have hLl : L.length ≤ 4000 := by rw [HE.out, List.length_map, List.length_take]; omega
  by_cases hlt : k < E.length
  ·obtain ⟨b, off, rfl, hb, x0, x1, x2⟩ := en_at HRr.out.1 hlt
   have hbne := HRr.out.2 b off rfl
   obtain ⟨X, hX⟩ := nm_ (E[k])
   have hvX : vEntry X = true := by rw [← hX]; exact HEV.out k hlt
   rw [hX] at x0 x1 x2
   obtain ⟨T, hT⟩ := nm_ (ewords X)
   have HDT : Hid (∀ V, Tab V → Calls Tryz.prog 90 #[.agg #[i64 X.day, .string X.what, i64 X.value]] V fun e w' => e = .returned (.string T) ∧ UpOf V w') := hd_ fun V hV => by
    rw [← hT]; exact words_any X hvX V hV
   have HE2 := hd_ (show L ++ [T] = (E.take (k + 1)).map ewords by
    rw [List.take_succ, List.map_append, ← HE.out, List.getElem?_eq_getElem hlt, hX, ← hT]; rfl)
   have HTw := hd_ (HT.out.below (HU.out.tr HBv.out).below)
   have HGA := hd_ (HO.out.lt ga rfl).1
   clear hT HE hX hvX
   go_wp2_with (first | (go_at_call 90; refine cu_ (HDT.out _ (HTw.out.below bw_)) fun g => ?_) | (at_builtin; go_must (refine wpl_appAt rfl _ _ 24 rfl V.heap.size 9 _ 1 16 el_str (.slice (some ⟨ga, 0, none⟩) L.length c1) L.length (strs L) rfl (ob_ HO.out bw_) _ 1 1 [.string T] rfl (rds_new _ _ _ 1 1 rfl) (fun u hu => by simp at hu; subst hu; rfl) (by omega) (by unfold maxLen; omega) (by omega) (Nat.le_trans HBv.out.size (show Below wr.heap.size wr _ from bw_).size) ?_; intro g9 c9 w9 o9 hg9 hat9; have HG9 := hd_ hg9; have O9 := hd_ o9; have HAT := hd_ hat9; clear hg9 o9 hat9)))
   go_roundw
   case rel => exact ⟨k + 1, L ++ [T], g9, c9, by omega, by go_num, congrArg (fun n => Value.slice (some ⟨g9, 0, none⟩) n c9) (by simp), HE2, hd_ (by rw [List.length_append, strs_app]; exact O9.out),
    hd_ ⟨rds_grown (HRr.out.1.below bw_) HG9.out (fun b' off' e9 e8 => by
     injection e9 with e9
     injection e9 with e9
     injection e8 with e8
     exact hbne (by rw [e9]; exact e8)), fun b' off' e9 e8 => by
     injection e9 with e9
     injection e9 with e9
     rcases HAT.out with h | h
     ·injection h with h
      have h' : ga = g9 := h
      exact hbne (by rw [e9, e8, ← h'])
     ·have hlt9 : b < g9 := by
       rw [h]
       exact Nat.lt_of_lt_of_le hb (show Below wr.heap.size wr _ from bw_).size
      omega⟩,
    hd_ ((HBv.out.trans (Below.mono bw_ HBv.out.size)).grown HG9.out (Nat.le_trans HBv.out.size (show Below wr.heap.size wr _ from bw_).size) (fun k hk => by injection hk with hk; rw [← hk]; exact HGA.out))⟩
   case measure => simp [intOf]; try omega
  ·obtain rfl : k = E.length := by omega
   have HF := hd_ (show R = L ++ [okLine L.length] by rw [← HR.out, HE.out, List.take_length, List.length_map])
   clear HE
   go_wp2_with fail
   refine (listed_any V.heap.size (some ⟨ga, 0, none⟩) c1 L wr HBv.out.size HO.out (by omega) (HT.out.below (HU.out.tr HBv.out).below) V HBv.out (Nat.le_refl _)).mono ?_
   rintro r w' ⟨A2, c2, rfl, o2, g2, rfl⟩
   go_wp2_with fail
   go_ret
   refine ⟨A2, c2, ?_, ?_, HU.out.tr bw_⟩
   ·rw [HF.out, List.length_append]; rfl
   ·rw [HF.out, List.length_append]; exact om_ o2 HU.out.below.size
theorem fit_no {k n : Nat} (hk : k ≤ 14) (h : fitK k n = false) : (wcR k).1 = 0 ∨ (n : Int) < (wcR k).1 ∨ ((wcR k).1 < (n : Int) ∧ (wcR k).2 = false) := by
 have h15 : k = 0 ∨ k = 1 ∨ k = 2 ∨ k = 3 ∨ k = 4 ∨ k = 5 ∨ k = 6 ∨ k = 7 ∨ k = 8 ∨ k = 9 ∨ k = 10 ∨ k = 11 ∨ k = 12 ∨ k = 13 ∨ k = 14 := by omega
 rcases h15 with rfl | rfl | rfl | rfl | rfl | rfl | rfl | rfl | rfl | rfl | rfl | rfl | rfl | rfl | rfl <;> simp [fitK, wcR] at h ⊢ <;> omega
theorem fit_yes {k n : Nat} (hk : k ≤ 14) (h : fitK k n = true) : 1 ≤ (wcR k).1 ∧ (wcR k).1 ≤ (n : Int) ∧ ((wcR k).1 = (n : Int) ∨ (wcR k).2 = true) := by
 have h15 : k = 0 ∨ k = 1 ∨ k = 2 ∨ k = 3 ∨ k = 4 ∨ k = 5 ∨ k = 6 ∨ k = 7 ∨ k = 8 ∨ k = 9 ∨ k = 10 ∨ k = 11 ∨ k = 12 ∨ k = 13 ∨ k = 14 := by omega
 rcases h15 with rfl | rfl | rfl | rfl | rfl | rfl | rfl | rfl | rfl | rfl | rfl | rfl | rfl | rfl | rfl <;> simp [fitK, wcR] at h ⊢ <;> omega
theorem spl_all (s : ByteArray) : spl (s.size + 1) s.data.toList = splitA 32 [] s.data.toList := by
 rw [spl_split, if_neg]
 have := split_len 32 s.data.toList []
 rw [bsz] at this
 omega
def dcNo (w : World) (r : Ending) (w' : World) : Prop := r = .returned (.tuple #[.agg zc, .slice none 0 0, i64 7]) ∧ UpOf w w'
def dcYes (D : DeskD) (l : List ByteArray) (w : World) (r : Ending) (w' : World) : Prop :=
 ∃ A B c e X n, r = .returned (.tuple #[dkv D A B c e, .slice X l.length n, i64 0]) ∧ DOwn w.heap.size w' D A B c e ∧ w'.ownsRow w.heap.size 9 1 (.slice X l.length n) l.length (strs l) ∧ UpOf w w'
theorem dcNo_any (d : DeskD) (A B : Option Addr) (c e : Nat) (s : ByteArray) (w : World) (hs : s.size ≤ 1048576) (hS : DSee w d A B) (hz : DkSz d e) (hv : vDesk d = true) (ht : Tab w)
 (hf : fitK (kindOf (wd (splitA 32 [] s.data.toList) 0)) (splitA 32 [] s.data.toList).length = false) :
 Calls Tryz.prog 9 #[dkv d A B c e, .string s] w fun r w' => dcNo w r w' := by
 have HS := hd_ hS
 have HZ := hd_ hz
 have HV := hd_ hv
 have HT := hd_ ht
 obtain ⟨W, hW⟩ := nm_ (splitA 32 [] s.data.toList)
 have HSP : Hid (∀ V, Calls Tryz.prog 27 #[.string s, .int .i64 ((s.size : Int) + 2)] V fun e w' => txPost W V e w') := hd_ fun V => by
  have := splitAt_any s (s.size + 1) V (by omega) (by omega)
  rw [spl_all, hW, show (((s.size + 1 : Nat) : Int) + 1) = (s.size : Int) + 2 by omega] at this
  exact this
 have hW1 : 0 < W.length := by rw [← hW]; exact List.length_pos_iff.2 (splitA_ne 32 _ _)
 have hWl : W.length ≤ 2000000 := by
  have := split_len 32 s.data.toList []
  rw [hW, bsz] at this
  omega
 rw [hW] at hf
 have hno := fit_no (kind_le _) hf
 obtain ⟨L, hL⟩ := nm_ ((wcR (kindOf (wd W 0))).1)
 obtain ⟨M, hM⟩ := nm_ ((wcR (kindOf (wd W 0))).2)
 have HWC : Hid (∀ V, Calls Tryz.prog 28 #[.string (wd W 0)] V fun e w' => e = .returned (.tuple #[i64 L, .bool M]) ∧ V = w') := hd_ fun V => by
  have := wordCounts_any (wd W 0) V
  rw [hL, hM] at this
  exact this
 rw [hL, hM] at hno
 clear hS hz hv ht hW hf hL hM
 go_enter Tryz.func9, Tryz.ntmps9
 go_upto_region 1 with (fail)
 refine wpg (R := fun V => Hid (MD w V w.heap.size (w.heap.size + 1) (dkcs d A B c e))) (hd_ (MD.new _ _)) (fun V z => ?_)
 generalize hp9 : w.heap.size = p at z ⊢
 generalize hq9 : p + 1 = q at z ⊢
 clear hp9 hq9
 obtain ⟨hpV, x0, x1, x2, x3, x4, x5, x6, x7⟩ := z.out.bx.eight
 go_wp2_with fail
 refine cu_ (ra_ (validDeskI_any d A B c e _ (HS.out.below z.out.up.below) HZ.out (HT.out.below z.out.up.below)) HV.out) fun g1 => ?_
 go_wp2_with fail
 refine (HSP.out _).mono ?_
 rintro r w' ⟨AW, cW, rfl, ow, g2, rfl⟩
 have z2 := hd_ (z.out.below (V' := up V (g1.tr g2)) (ub_ V _))
 have OW : Hid ((up V (g1.tr g2)).ownsRow (up V g1).heap.size 9 1 (.slice AW W.length cW) W.length (strs W)) := hd_ ow
 have HBV := hd_ (show p < (up V g1).heap.size ∧ q < (up V g1).heap.size ∧ w.heap.size ≤ (up V g1).heap.size from ⟨Nat.lt_of_lt_of_le z.out.bx.lt (ub_ V g1).size, Nat.lt_of_lt_of_le z.out.rs.lt (ub_ V g1).size, Nat.le_trans z.out.up.below.size (ub_ V g1).size⟩)
 generalize (up V g1).heap.size = base at OW HBV
 obtain ⟨bW, oW, eW, hbW, cw⟩ := wd_at (Rds.of_own OW.out) (i := 0) hW1
 subst eW
 have cw0 := cw 0 hW1
 rw [Nat.add_zero] at cw0
 clear ow cw x0 x1 x2 x3 x4 x5 x6 x7 hpV z
 go_upto_region 6 with (go_at_call 28; refine cs_ (HWC.out _) ?_)
 have hqb := z2.out.rs.lt
 obtain ⟨hqT, r0, r1, r2, r3, r4, r5, r6, r7⟩ := z2.out.rs.eight
 obtain ⟨f0, f1, f2, f3, f4, f5, f6, f7⟩ := z2.out.rs.open8
 have HNO := hd_ hno
 by_cases t1 : L = 0
 ·have t1' : (L == 0) = true := by rw [beq_iff_eq]; exact t1
  clear hno t1
  go_wp2_with fail
  refine post_gen (R := fun W => Blk W q 31 zc ∧ UpOf w W) ⟨blk_put8 z2.out.rs _ _ _ _ _ _ _ _, put8_up z2.out.up z2.out.hq _ _ _ _ _ _ _ _⟩ (fun W st => ?_)
  obtain ⟨s1, s3⟩ := st
  obtain ⟨hqW, w0, w1, w2, w3, w4, w5, w6, w7⟩ := s1.eight
  exact bodyPost_ret (v := .tuple #[.agg zc, .slice none 0 0, i64 7]) (by simp [results, Tryz.results9, go_sem, hqW, w0, w1, w2, w3, w4, w5, w6, w7]) rfl ⟨rfl, s3⟩
 ·have t1' : (L == 0) = false := by rw [beq_eq_false_iff_ne]; exact t1
  by_cases t2 : (W.length : Int) < L
  ·have t2' : decide ((W.length : Int) < L) = true := decide_eq_true t2
   clear hno t1
   go_wp2_with fail
   refine post_gen (R := fun W => Blk W q 31 zc ∧ UpOf w W) ⟨blk_put8 z2.out.rs _ _ _ _ _ _ _ _, put8_up z2.out.up z2.out.hq _ _ _ _ _ _ _ _⟩ (fun W st => ?_)
   obtain ⟨s1, s3⟩ := st
   obtain ⟨hqW, w0, w1, w2, w3, w4, w5, w6, w7⟩ := s1.eight
   exact bodyPost_ret (v := .tuple #[.agg zc, .slice none 0 0, i64 7]) (by simp [results, Tryz.results9, go_sem, hqW, w0, w1, w2, w3, w4, w5, w6, w7]) rfl ⟨rfl, s3⟩
  ·have t2' : decide ((W.length : Int) < L) = false := decide_eq_false t2
   have t3 : L < (W.length : Int) ∧ M = false := by
    rcases hno with h | h | h
    ·exact absurd h t1
    ·exact absurd h t2
    ·exact h
   obtain ⟨t3, rfl⟩ := t3
   have t3' : decide (L < (W.length : Int)) = true := decide_eq_true t3
   clear hno t1
   go_wp2_with fail
   refine post_gen (R := fun W => Blk W q 31 zc ∧ UpOf w W) ⟨blk_put8 z2.out.rs _ _ _ _ _ _ _ _, put8_up z2.out.up z2.out.hq _ _ _ _ _ _ _ _⟩ (fun W st => ?_)
   obtain ⟨s1, s3⟩ := st
   obtain ⟨hqW, w0, w1, w2, w3, w4, w5, w6, w7⟩ := s1.eight
   exact bodyPost_ret (v := .tuple #[.agg zc, .slice none 0 0, i64 7]) (by simp [results, Tryz.results9, go_sem, hqW, w0, w1, w2, w3, w4, w5, w6, w7]) rfl ⟨rfl, s3⟩
theorem MD.put8 {w V : World} {p q : Nat} {x0 x1 x2 x3 x4 x5 x6 x7 : Value} (h : MD w V p q #[x0, x1, x2, x3, x4, x5, x6, x7]) (u0 u1 u2 u3 u4 u5 u6 u7 : Value) : MD w ((((((((V.setCell ⟨p, 0, none⟩ u0).setCell ⟨p, 1, none⟩ u1).setCell ⟨p, 2, none⟩ u2).setCell ⟨p, 3, none⟩ u3).setCell ⟨p, 4, none⟩ u4).setCell ⟨p, 5, none⟩ u5).setCell ⟨p, 6, none⟩ u6).setCell ⟨p, 7, none⟩ u7) p q #[u0, u1, u2, u3, u4, u5, u6, u7] := by
 have h0 : MD w _ p q #[u0, x1, x2, x3, x4, x5, x6, x7] := h.put 0 u0
 have h1 : MD w _ p q #[u0, u1, x2, x3, x4, x5, x6, x7] := h0.put 1 u1
 have h2 : MD w _ p q #[u0, u1, u2, x3, x4, x5, x6, x7] := h1.put 2 u2
 have h3 : MD w _ p q #[u0, u1, u2, u3, x4, x5, x6, x7] := h2.put 3 u3
 have h4 : MD w _ p q #[u0, u1, u2, u3, u4, x5, x6, x7] := h3.put 4 u4
 have h5 : MD w _ p q #[u0, u1, u2, u3, u4, u5, x6, x7] := h4.put 5 u5
 have h6 : MD w _ p q #[u0, u1, u2, u3, u4, u5, u6, x7] := h5.put 6 u6
 have h7 : MD w _ p q #[u0, u1, u2, u3, u4, u5, u6, u7] := h6.put 7 u7
 exact h7
structure DC (w U : World) (p q : Nat) (d : DeskD) (A B : Option Addr) (c e base : Nat) (W : List ByteArray) (bW cW : Nat) : Prop where
 m : MD w U p q (dkcs d A B c e)
 o : DOwn base U d A B c e
 wo : U.ownsRow base 9 1 (.slice (some ⟨bW, 0, none⟩) W.length cW) W.length (strs W)
 hb : p < base ∧ q < base ∧ w.heap.size ≤ base
theorem DC.below {w U V : World} {p q : Nat} {d : DeskD} {A B : Option Addr} {c e base : Nat} {W : List ByteArray} {bW cW : Nat} (h : DC w U p q d A B c e base W bW cW) (hb : Below U.heap.size U V) : DC w V p q d A B c e base W bW cW :=
 ⟨h.m.below hb, ⟨ob_ h.o.1 hb, ob_ h.o.2 hb⟩, ob_ h.wo hb, h.hb⟩
theorem dcList_any (d : DeskD) (A B : Option Addr) (c e : Nat) (s : ByteArray) (w : World) (W : List ByteArray) (hs : s.size ≤ 1048576) (hS : DSee w d A B) (hz : DkSz d e) (hv : vDesk d = true) (ht : Tab w) (hW : splitA 32 [] s.data.toList = W)
 (hf : fitK (kindOf (wd W 0)) W.length = true) (k : Nat) (hk4 : k = 4 ∨ k = 8) (hk : kindOf (wd W 0) = k) (RL : List ByteArray)
 (hL : ∀ (A1 B1 : Option Addr) (c1 e1 : Nat) (V : World), DSee V d A1 B1 → DkSz d e1 → Tab V → Calls Tryz.prog 39 #[dkv d A1 B1 c1 e1, .string (wd W 0)] V fun r w' => txPost RL V r w') :
 Calls Tryz.prog 9 #[dkv d A B c e, .string s] w fun r w' => dcYes d RL w r w' := by
 have HK := hd_ hk
 have HL := hd_ hL
 clear hk hL
 have HS := hd_ hS
 have HZ := hd_ hz
 have HV := hd_ hv
 have HT := hd_ ht
 have HSP : Hid (∀ V, Calls Tryz.prog 27 #[.string s, .int .i64 ((s.size : Int) + 2)] V fun e w' => txPost W V e w') := hd_ fun V => by
  have := splitAt_any s (s.size + 1) V (by omega) (by omega)
  rw [spl_all, hW, show (((s.size + 1 : Nat) : Int) + 1) = (s.size : Int) + 2 by omega] at this
  exact this
 have hW1 : 0 < W.length := by rw [← hW]; exact List.length_pos_iff.2 (splitA_ne 32 _ _)
 have hWl : W.length ≤ 2000000 := by
  have := split_len 32 s.data.toList []
  rw [hW, bsz] at this
  omega
 have hno := fit_yes (kind_le _) hf
 obtain ⟨L, hL⟩ := nm_ ((wcR (kindOf (wd W 0))).1)
 obtain ⟨M, hM⟩ := nm_ ((wcR (kindOf (wd W 0))).2)
 have HWC : Hid (∀ V, Calls Tryz.prog 28 #[.string (wd W 0)] V fun e w' => e = .returned (.tuple #[i64 L, .bool M]) ∧ V = w') := hd_ fun V => by
  have := wordCounts_any (wd W 0) V
  rw [hL, hM] at this
  exact this
 rw [hL, hM] at hno
 clear hS hz hv ht hW hf hL hM
 go_enter Tryz.func9, Tryz.ntmps9
 go_upto_region 1 with (fail)
 refine wpg (R := fun V => Hid (MD w V w.heap.size (w.heap.size + 1) (dkcs d A B c e))) (hd_ (MD.new _ _)) (fun V z => ?_)
 generalize hp9 : w.heap.size = p at z ⊢
 generalize hq9 : p + 1 = q at z ⊢
 clear hp9 hq9
 obtain ⟨hpV, x0, x1, x2, x3, x4, x5, x6, x7⟩ := z.out.bx.eight
 go_wp2_with fail
 refine cu_ (ra_ (validDeskI_any d A B c e _ (HS.out.below z.out.up.below) HZ.out (HT.out.below z.out.up.below)) HV.out) fun g1 => ?_
 go_wp2_with fail
 refine (HSP.out _).mono ?_
 rintro r w' ⟨AW, cW, rfl, ow, g2, rfl⟩
 have z2 := hd_ (z.out.below (V' := up V (g1.tr g2)) (ub_ V _))
 have OW : Hid ((up V (g1.tr g2)).ownsRow (up V g1).heap.size 9 1 (.slice AW W.length cW) W.length (strs W)) := hd_ ow
 have HBV := hd_ (show p < (up V g1).heap.size ∧ q < (up V g1).heap.size ∧ w.heap.size ≤ (up V g1).heap.size from ⟨Nat.lt_of_lt_of_le z.out.bx.lt (ub_ V g1).size, Nat.lt_of_lt_of_le z.out.rs.lt (ub_ V g1).size, Nat.le_trans z.out.up.below.size (ub_ V g1).size⟩)
 generalize (up V g1).heap.size = base at OW HBV
 obtain ⟨bW, oW, eW, hbW, cw⟩ := wd_at (Rds.of_own OW.out) (i := 0) hW1
 subst eW
 have cw0 := cw 0 hW1
 rw [Nat.add_zero] at cw0
 clear ow cw x0 x1 x2 x3 x4 x5 x6 x7 hpV z
 go_upto_region 6 with (go_at_call 28; refine cs_ (HWC.out _) ?_)
 have HNO := hd_ hno
 have t1' : (L == 0) = false := by rw [beq_eq_false_iff_ne]; omega
 have t2' : decide ((W.length : Int) < L) = false := decide_eq_false (by omega)
 go_cut [46] (fun x U => x = .bool false ∧ Hid (MD w U p q (dkcs d A B c e)) ∧ Hid (U.ownsRow base 9 1 (.slice (some ⟨bW, oW, none⟩) W.length cW) W.length (strs W)))
 case first =>
  by_cases t3 : L < (W.length : Int)
  ·have t3' : decide (L < (W.length : Int)) = true := decide_eq_true t3
   have hM : M = true := hno.2.2.resolve_left (by omega)
   subst hM
   clear hno t3
   go_wp2_with fail
   go_meet
   exact ⟨rfl, z2, OW⟩
  ·have t3' : decide (L < (W.length : Int)) = false := decide_eq_false t3
   clear hno t3
   go_wp2_with fail
   go_meet
   exact ⟨rfl, z2, OW⟩
 case rest =>
  obtain ⟨rfl, z, OW⟩ := hcut
  clear z2 hno t1' t2' cw0
  obtain ⟨hpV, x0, x1, x2, x3, x4, x5, x6, x7⟩ := z.out.bx.eight
  obtain ⟨f0, f1, f2, f3, f4, f5, f6, f7⟩ := z.out.bx.open8
  go_wp2_with fail
  refine (copied_any d A B c e _ (HS.out.below z.out.up.below) HZ.out.s HZ.out.n).mono ?_
  rintro r w' ⟨A1, B1, c1, e1, rfl, hdo, g3, rfl⟩
  have z3 := hd_ (z.out.below (ub_ wc g3))
  have HDO := hd_ hdo
  have OW3 := hd_ (ob_ OW.out (ub_ wc g3))
  have HWS := hd_ (show base ≤ wc.heap.size from by
   have := OW.out.lt bW rfl
   omega)
  clear hdo x0 x1 x2 x3 x4 x5 x6 x7 f0 f1 f2 f3 f4 f5 f6 f7 hpV OW
  obtain ⟨hpV, x0, x1, x2, x3, x4, x5, x6, x7⟩ := z3.out.bx.eight
  obtain ⟨f0, f1, f2, f3, f4, f5, f6, f7⟩ := z3.out.bx.open8
  go_upto_region 10 with (fail)
  obtain ⟨g9, e9⟩ := own_some OW3.out hW1
  injection e9 with e9
  injection e9 with e9a e9 e9b
  clear e9a e9b
  subst e9
  have hpw : p < wc.heap.size := z.out.bx.lt
  have m8 := hd_ (z3.out.put8 (i64 d.b.bars) (i64 d.b.rise) (i64 d.b.fall) (i64 d.b.clr) (i64 d.b.near) (.slice A1 d.stops.length c1) (.slice B1 d.drills.length e1) (.string d.log))
  have o81 := hd_ (om_ (oa_ HDO.out.1 hpw (i64 d.b.bars) (i64 d.b.rise) (i64 d.b.fall) (i64 d.b.clr) (i64 d.b.near) (.slice A1 d.stops.length c1) (.slice B1 d.drills.length e1) (.string d.log)) HWS.out)
  have o82 := hd_ (om_ (oa_ HDO.out.2 hpw (i64 d.b.bars) (i64 d.b.rise) (i64 d.b.fall) (i64 d.b.clr) (i64 d.b.near) (.slice A1 d.stops.length c1) (.slice B1 d.drills.length e1) (.string d.log)) HWS.out)
  have o83 := hd_ (oa_ OW3.out HBV.out.1 (i64 d.b.bars) (i64 d.b.rise) (i64 d.b.fall) (i64 d.b.clr) (i64 d.b.near) (.slice A1 d.stops.length c1) (.slice B1 d.drills.length e1) (.string d.log))
  refine wpg (R := fun U => Hid (DC w U p q d A1 B1 c1 e1 base W bW cW)) (hd_ ⟨m8.out.below ((Below.refl _ _).alloc (Nat.le_refl _) _), ⟨o81.out.alloc _, o82.out.alloc _⟩, o83.out.alloc _, HBV.out⟩) (fun U C => ?_)
  clear x0 x1 x2 x3 x4 x5 x6 x7 f0 f1 f2 f3 f4 f5 f6 f7 hpV z3 HDO OW3 z HWS m8 o81 o82 o83
  have hd9 : ∀ i, ¬ (i = 4 ∨ i = 8) → decide (k = i) = false := fun i hi => decide_eq_false (fun e9 => hi (e9 ▸ hk4))
  obtain ⟨q0, q1, q2, q3, -, q5, q6, q7, -, q9, q10, q11, q12, q13⟩ := kts HK.out
  rw [hd9 _ (by decide)] at q0 q1 q2 q3 q5 q6 q7 q9 q10 q11 q12 q13
  clear hd9 hk4
  obtain ⟨hpV, x0, x1, x2, x3, x4, x5, x6, x7⟩ := C.out.m.bx.eight
  go_wp2_with fail
  refine (HL.out A1 B1 c1 e1 _ (DOwn.see C.out.o) ⟨HZ.out.s, HZ.out.n, HZ.out.b, HZ.out.l, own_capD C.out.o.2⟩ (HT.out.below C.out.m.up.below)).mono ?_
  rintro r w' ⟨X, n, rfl, ox, gx, rfl⟩
  have C2 := hd_ (C.out.below (ub_ U gx))
  have hbU : base ≤ U.heap.size := by have := C.out.wo.lt bW rfl; omega
  have z := hd_ C2.out.m
  have DO := hd_ C2.out.o
  have OX := hd_ (om_ ox hbU)
  clear ox x0 x1 x2 x3 x4 x5 x6 x7 hpV C
  obtain ⟨hpV, x0, x1, x2, x3, x4, x5, x6, x7⟩ := z.out.bx.eight
  obtain ⟨hqT, r0, r1, r2, r3, r4, r5, r6, r7⟩ := z.out.rs.eight
  obtain ⟨f0, f1, f2, f3, f4, f5, f6, f7⟩ := z.out.rs.open8
  go_wp2_with fail
  refine post_gen (R := fun W => Blk W q 31 (dkcs (d) A1 B1 c1 e1) ∧ DOwn w.heap.size W (d) A1 B1 c1 e1 ∧ W.ownsRow w.heap.size 9 1 (.slice X RL.length n) RL.length (strs (RL)) ∧ UpOf w W) ⟨blk_put8 z.out.rs _ _ _ _ _ _ _ _, ⟨om_ (oa_ DO.out.1 HBV.out.2.1 _ _ _ _ _ _ _ _) HBV.out.2.2, om_ (oa_ DO.out.2 HBV.out.2.1 _ _ _ _ _ _ _ _) HBV.out.2.2⟩, om_ (oa_ OX.out HBV.out.2.1 _ _ _ _ _ _ _ _) HBV.out.2.2, put8_up z.out.up z.out.hq _ _ _ _ _ _ _ _⟩ (fun W st => ?_)
  obtain ⟨s1, s4, s2, s3⟩ := st
  obtain ⟨hqW, w0, w1, w2, w3, w4, w5, w6, w7⟩ := s1.eight
  clear s1 r0 r1 r2 r3 r4 r5 r6 r7 f0 f1 f2 f3 f4 f5 f6 f7 x0 x1 x2 x3 x4 x5 x6 x7
  exact bodyPost_ret (v := .tuple #[dkv (d) A1 B1 c1 e1, .slice X RL.length n, i64 0]) (by simp [results, Tryz.results9, go_sem, hqW, w0, w1, w2, w3, w4, w5, w6, w7]) rfl ⟨_, _, _, _, _, _, rfl, s4, s2, s3⟩
def NP (base : Nat) (D : DeskD) (l : List ByteArray) (V : World) (r : Ending) (w' : World) : Prop :=
 ∃ A B c e X n, r = .returned (.tuple #[dkv D A B c e, .slice X l.length n]) ∧ DOwn base w' D A B c e ∧ w'.ownsRow base 9 1 (.slice X l.length n) l.length (strs l) ∧ UpOf V w'
theorem np_md {base : Nat} {D : DeskD} {l : List ByteArray} {A B : Option Addr} {c e : Nat} {V : World} {r : Ending} {w' : World} (h : mdPost D l A B c e V r w') (ho : DOwn base V D A B c e) (hb : base ≤ V.heap.size) : NP base D l V r w' := by
 obtain ⟨X, n, rfl, ox, g, rfl⟩ := h
 exact ⟨A, B, c, e, X, n, rfl, ⟨ob_ ho.1 (ub_ V g), ob_ ho.2 (ub_ V g)⟩, om_ ox hb, g, rfl⟩
theorem np_md2 {base : Nat} {D : DeskD} {l : List ByteArray} {A B : Option Addr} {c e : Nat} {V : World} {r : Ending} {w' : World} (h : mdPost D l A B c e V r w') (ho : DOwn base w' D A B c e) (hb : base ≤ V.heap.size) : NP base D l V r w' := by
 obtain ⟨X, n, rfl, ox, g, rfl⟩ := h
 exact ⟨A, B, c, e, X, n, rfl, ho, om_ ox hb, g, rfl⟩
theorem wd_drop (W : List ByteArray) (k i : Nat) : wd (W.drop k) i = wd W (k + i) := by
 rw [wd, wd, List.getD_eq_getElem?_getD, List.getD_eq_getElem?_getD, List.getElem?_drop]
section
variable (two : List ByteArray → ByteArray × Int) (base : Nat) (d : DeskD) (A B : Option Addr) (c e : Nat) (W : List ByteArray)
theorem bn_np (WA : Option Addr) (wc : Nat) (V : World) (h : Rds V 1 WA (W.drop 1).length (strs (W.drop 1))) (hn : W.length ≤ 2000001) (hf : ∀ i, i < W.length → (wd W i).size ≤ 1048576) (ht : Tab V)
 (hfit : fitK (kindOf (wd W 0)) W.length = true) (hk : kindOf (wd W 0) = 1 ∨ kindOf (wd W 0) = 6 ∨ kindOf (wd W 0) = 12 ∨ kindOf (wd W 0) = 13) (hS : DSee V d A B) (hz : DkSz d e) (hv : vDesk d = true) (ho : DOwn base V d A B c e) (hb : base ≤ V.heap.size) :
 Calls Tryz.prog 30 #[dkv d A B c e, .string (wd W 0), .slice WA (W.drop 1).length wc] V fun r w' => NP base (doK two d W (kindOf (wd W 0))).1 (doK two d W (kindOf (wd W 0))).2 V r w' := by
 have hn' : (W.drop 1).length ≤ 10000000 := by rw [List.length_drop]; omega
 have hf' : ∀ i, i < (W.drop 1).length → (wd (W.drop 1) i).size ≤ 100000000 := fun i hi => by
  rw [List.length_drop] at hi
  rw [wd_drop]
  have := hf (1 + i) (by omega)
  omega
 cases hno : numsOf (W.drop 1) with
 | none =>
   refine (bnNo_any d A B c e (W.drop 1) WA wc (wd W 0) V h hn' hf' ht hno).mono ?_
   intro r w' hr
   have e0 : doK two d W (kindOf (wd W 0)) = (d, [errL 7]) := by rcases hk with h | h | h | h <;> rw [h] <;> simp only [doK, hno]
   rw [e0]
   exact np_md hr ho hb
 | some l =>
   have hl := numsOf_len hno
   rw [List.length_drop] at hl
   rcases hk with hk | hk | hk | hk <;> rw [hk] at hfit
   ·have h6 : W.length = 6 := by simpa [fitK] using hfit
    have h5 : l.length = 5 := by omega
    refine (bnBask_any d A B c e (W.drop 1) WA wc (wd W 0) l V h hn' hf' ht hno h5 hk hS hz hv).mono ?_
    intro r w' hr
    rw [hk]
    simp only [doK, hno]
    rw [show bskOf l = (⟨num l 0, num l 1, num l 2, num l 3, num l 4⟩ : Bsk) from rfl] at hr
    split at hr
    ·rename_i hb9
     rw [if_pos hb9]
     exact np_md hr ho hb
    ·rename_i hb9
     rw [if_neg hb9]
     exact np_md hr ho hb
   ·refine (bnFast_any d A B c e (W.drop 1) WA wc (wd W 0) l V h hn' hf' ht hno (by omega) hk).mono ?_
    intro r w' hr
    rw [hk]
    simp only [doK, hno]
    exact np_md hr ho hb
   ·refine (bnStop_any d A B c e (W.drop 1) WA wc (wd W 0) l V h hn' hf' ht hno (by omega) hk hS hz hv).mono ?_
    intro r w' hr
    rw [hk]
    simp only [doK, hno]
    unfold stPost at hr
    split at hr
    ·rename_i hb9
     rw [if_pos hb9]
     obtain ⟨N, nc, on, hr⟩ := hr
     have hr0 := hr
     obtain ⟨X, n, _, _, g, e2⟩ := hr0
     exact np_md2 hr ⟨om_ on hb, by rw [e2]; exact ob_ ho.2 (ub_ V g)⟩ hb
    ·rename_i hb9
     rw [if_neg hb9]
     exact np_md hr ho hb
   ·have h3 : W.length = 3 := by simpa [fitK] using hfit
    refine (bnWait_any d A B c e (W.drop 1) WA wc (wd W 0) l V h hn' hf' ht hno (by omega) hk).mono ?_
    intro r w' hr
    rw [hk]
    simp only [doK, hno]
    exact np_md hr ho hb
theorem bt_np {two : List ByteArray → ByteArray × Int} (h2 : TwoOk two) (base : Nat) (d : DeskD) (A B : Option Addr) (c e : Nat) (W : List ByteArray) (V : World) (hts : (restW W 1).size ≤ 1048576) (ht : Tab V)
 (hk : kindOf (wd W 0) = 2 ∨ kindOf (wd W 0) = 3 ∨ kindOf (wd W 0) = 10) (hS : DSee V d A B) (hz : DkSz d e) (hz1 : d.drills.length ≤ 10000000) (ho : DOwn base V d A B c e) (hb : base ≤ V.heap.size) :
 Calls Tryz.prog 31 #[dkv d A B c e, .string (wd W 0), .string (restW W 1)] V fun r w' => NP base (doK two d W (kindOf (wd W 0))).1 (doK two d W (kindOf (wd W 0))).2 V r w' := by
 rcases hk with hk | hk | hk
 ·refine (btCode_any h2 d A B c e (wd W 0) (restW W 1) V hts hk).mono ?_
  intro r w' hr
  rw [hk]
  exact np_md hr ho hb
 ·refine (btDrill_any d A B c e (wd W 0) (restW W 1) V hts hk hS hz hz1 ht).mono ?_
  intro r w' hr
  rw [hk]
  simp only [doK]
  unfold btDrPost at hr
  split at hr
  ·rename_i h9
   rw [h9]
   exact np_md hr ho hb
  ·rename_i x h9
   rw [h9]
   simp only
   split at hr
   ·rename_i hb9
    rw [if_pos hb9]
    obtain ⟨B', e', on, hr⟩ := hr
    have hr0 := hr
    obtain ⟨X, n, _, _, g, e2⟩ := hr0
    exact np_md2 hr ⟨by rw [e2]; exact ob_ ho.1 (ub_ V g), om_ on hb⟩ hb
   ·rename_i hb9
    rw [if_neg hb9]
    exact np_md hr ho hb
 ·refine (btRow_any d A B c e (wd W 0) (restW W 1) V hts hk hS hz).mono ?_
  intro r w' hr
  rw [hk]
  exact np_md hr ho hb
theorem en_np (V : World) (h1 : (wd W 1).size ≤ 1048576) (h2 : (wd W 2).size ≤ 1048576) (h3 : (wd W 3).size ≤ 1048576) (ht : Tab V) (hz : DkSz d e) (ho : DOwn base V d A B c e) (hb : base ≤ V.heap.size) :
 Calls Tryz.prog 38 #[dkv d A B c e, .string (wd W 1), .string (wd W 2), .string (wd W 3)] V fun r w' => NP base (doK two d W 5).1 (doK two d W 5).2 V r w' := by
 refine (enter_any d A B c e (wd W 1) (wd W 2) (wd W 3) V h1 h2 h3 hz ht).mono ?_
 intro r w' hr
 simp only [doK]
 unfold entPost at hr
 split at hr
 ·rename_i h9
  rw [h9]
  exact np_md hr ho hb
 ·rename_i l h9
  rw [h9]
  simp only
  split at hr
  ·rename_i hb9
   rw [if_pos hb9]
   exact np_md hr ho hb
  ·rename_i hb9
   rw [if_neg hb9]
   exact np_md hr ho hb
end
theorem spl_rest {W : List ByteArray} {l : List UInt8} {m : Nat} (hW : splitA 32 [] l = W) (hm : m < W.length) : spl m l = W.take m ++ [restW W m] := by
 rw [spl_split, hW, if_pos hm]; rfl
theorem restW_size {W : List ByteArray} {l : List UInt8} {m : Nat} (hW : splitA 32 [] l = W) (hm : m < W.length) : (restW W m).size ≤ l.length := by
 refine spl_size m l _ ?_
 rw [spl_rest hW hm]
 exact List.mem_append_right _ (List.mem_singleton.2 rfl)
theorem vDesk_n {d : DeskD} (h : vDesk d = true) : d.drills.length ≤ 10 := by
 have := (vDesk_inv h).2.2.1
 rw [vDrills, Bool.and_eq_true, decide_eq_true_eq] at this
 exact this.1
theorem splRest_any {s : ByteArray} {W : List ByteArray} {m : Nat} (hs : s.size ≤ 1048576) (hW : splitA 32 [] s.data.toList = W) (hm : m < W.length) (hm2 : m ≤ 1000) (V : World) :
 Calls Tryz.prog 27 #[.string s, .int .i64 ((m : Int) + 1)] V fun e w' => ∃ b n, e = .returned (.slice (some ⟨b, 0, none⟩) (m + 1) n) ∧ w'.cell? ⟨b, m, none⟩ = some (.string (restW W m)) ∧ UpOf V w' := by
 refine (splitAt_any s m V (by omega) (by omega)).mono ?_
 rintro e w' ⟨A, c, rfl, ow, g, rfl⟩
 have hl : (W.take m).length = m := by rw [List.length_take]; omega
 rw [spl_rest hW hm] at ow ⊢
 have hL : (W.take m ++ [restW W m]).length = m + 1 := by rw [List.length_append, hl]; rfl
 obtain ⟨b, rfl⟩ := own_some ow (by rw [hL]; omega)
 obtain ⟨b9, o9, e9, _, hc9⟩ := wd_at (Rds.of_own ow) (i := m) (by rw [hL]; omega)
 injection e9 with e9
 injection e9 with e91 e92 e93
 subst e91 e92
 have h9 := hc9 m (by rw [hL]; omega)
 rw [Nat.zero_add, wd, List.getD_eq_getElem?_getD, List.getElem?_append_right (by omega), hl, Nat.sub_self] at h9
 exact ⟨b, c, by rw [hL], h9, g, rfl⟩
theorem sent_one (r : ByteArray × Int) : (sent r).length = 1 := by unfold sent; split <;> rfl
theorem nmb_one (r : Int × Int) : (nmb r).length = 1 := by unfold nmb; split <;> rfl
theorem code_one (r : ByteArray × Int) : (codeOut r).length = 1 := by
 unfold codeOut
 split
 ·rfl
 ·exact sent_one r
theorem doK_lines {two : List ByteArray → ByteArray × Int} {D : DeskD} (hv : vDesk D = true) (W : List ByteArray) (k : Nat) : (doK two D W k).2.length ≤ 4001 := by
 have hd := (vDrills_inv (vDesk_inv hv).2.2.1).1
 have he := entsL_len (vDesk_inv hv).2.2.2
 unfold doK
 split
 all_goals (repeat' split)
 all_goals first
  | (simp only [List.length_singleton]; omega)
  | (simp only [sent_one, nmb_one, code_one]; omega)
  | (simp only [List.length_append, List.length_map, List.length_singleton]; omega)
theorem DoH.of {D : DeskD} {L : List ByteArray} {s : ByteArray} (hv : vDesk D = true) (hn : L.length ≤ 800000) (hs : s.size ≤ 1048576) : DoH D L (splitA 32 [] s.data.toList) := by
 have z := dkSz_of (e := D.drills.length) hv (Nat.le_refl _)
 have h1 := (vStops_inv (vDesk_inv hv).2.1).1
 have h2 := (vDrills_inv (vDesk_inv hv).2.2.1).1
 refine ⟨hv, hn, ?_, fun i hi => ?_, fun i hi => ?_, by omega, h2, z.b, z.l⟩
 ·have := split_len 32 s.data.toList []
  rw [bsz] at this
  omega
 ·have := split_size 32 s.data.toList [] (wd (splitA 32 [] s.data.toList) i) (by rw [← wd_eq hi]; exact List.getElem_mem hi)
  rw [bsz] at this
  simp at this
  omega
 ·have := restW_size (m := i) rfl hi
  rw [bsz] at this
  omega
theorem mrkR_bd2 (a b : ByteArray) : 0 ≤ (mrkR a b).1 ∧ (mrkR a b).1 ≤ 10 := by
 have key : ∀ (e n : Int) (f : Nat) (t m : Int), m ≤ markL e n f t m ∧ markL e n f t m ≤ m + f := fun e n f => by
  induction f with
  | zero => intro t m; exact ⟨Int.le_refl _, by simp [markL]⟩
  | succ f ih => intro t m; have := ih (t * 2) (m + 1); rw [markL]; split <;> omega
 have h := key (cst a b 0 0) a.size 5 1 1
 have e : mrk a b = markL (cst a b 0 0) a.size 5 1 1 := rfl
 unfold mrkR
 (repeat' split) <;> (try rw [e]) <;> (first | decide | omega)
theorem UpX.past {w V1 V : World} {sb : Nat} (hu : UpOf w V1) (h : UpX V1 sb V) (hs : w.heap.size ≤ sb) : UpOf w V :=
 UpOf.of ⟨h.os.trans hu.below.os, h.tape.trans hu.below.tape, h.output.trans hu.below.output, Nat.le_trans hu.below.size h.below.size, fun k hk => (h.block k (Nat.lt_of_lt_of_le hk hu.below.size) (by omega)).trans (hu.below.block k hk)⟩
section
variable (w0 : World) (sb : Nat) (D : DeskD) (A B : Option Addr) (c e : Nat) (O : Option Addr) (oc : Nat) (L : List ByteArray) (NA : Option Addr) (nc : Nat) (ns : List Int) (TA : Option Addr) (tc : Nat) (ts : List ByteArray) (w : World)
theorem alignM_any (h : ME w0 w sb D A B c e O oc L NA nc ns TA tc ts)
 (ht : ts.length = 2) (hs0 : (wd ts 0).size ≤ 1048576) (hs1 : (wd ts 1).size ≤ 1048576) (hn : L.length ≤ 1000000) :
 Calls Tryz.prog 100 #[.pointer (some ⟨sb, 0, none⟩)] w fun r w' => mePost w0 sb D (L ++ sent (alnR (wd ts 0) (wd ts 1))) r w' := by
 obtain ⟨tb, rfl, htb, hc⟩ := h.txt0 (by omega)
 have c0 := hc 0 (by omega)
 have c1 := hc 1 (by omega)
 have HM := hd_ h
 obtain ⟨hsb, ⟨x0, x1, x2, x3, x4, x5, x6, x7⟩, -, k9, k10⟩ := h.le.cel
 obtain ⟨s, hs9⟩ := nm_ (wd ts 0)
 obtain ⟨t, ht9⟩ := nm_ (wd ts 1)
 rw [hs9] at c0 hs0 ⊢
 rw [ht9] at c1 hs1 ⊢
 obtain ⟨T, hT⟩ := nm_ ((alnR s t).1)
 obtain ⟨cd, hcd⟩ := nm_ ((alnR s t).2)
 have HC : Hid (∀ V, Calls Tryz.prog 147 #[.string s, .string t] V fun e w' => e = .returned (.tuple #[.string T, i64 cd]) ∧ UpOf V w') := hd_ fun V => by
  have := alignTextsS_any s t V (by omega) (by omega)
  rw [hT, hcd] at this
  exact this
 rw [show alnR s t = (T, cd) from by rw [← hT, ← hcd]]
 rw [ht] at k10
 clear hT hcd hs9 ht9 hc h
 by_cases h0 : cd = 0
 ·subst h0
  have hr : sent (T, 0) = [T] := rfl
  rw [hr]
  clear hr
  go_enter Tryz.func100, Tryz.ntmps100
  go_wp2_with (first | ((with_reducible refine wru ?_); (repeat (go_big_quiet_step (first | (go_at_call 147; exact uq_ (HC.out _))))); refine wqn fun nq => ?_))
  refine cs_ (reportR0_any _ _) ?_
  go_wp2_with fail
  refine (say_any w0 sb D _ _ _ _ _ _ L _ _ T _ (HM.out.le.below bw_) hn).mono ?_
  rintro r w' ⟨rfl, hp⟩
  go_wp2_with fail
  go_end0
  exact ⟨rfl, _, _, hp⟩
 ·have hr : sent (T, cd) = [errL cd] := by rw [sent, if_neg h0]
  rw [hr]
  clear hr
  go_enter Tryz.func100, Tryz.ntmps100
  go_wp2_with (first | ((with_reducible refine wru ?_); (repeat (go_big_quiet_step (first | (go_at_call 147; exact uq_ (HC.out _))))); refine wqn fun nq => ?_))
  refine (reportR_any w0 sb D _ _ _ _ _ _ L _ _ cd _ (HM.out.le.below bw_) hn h0).mono ?_
  rintro r w' ⟨rfl, hp⟩
  go_wp2_with fail
  go_end0
  exact ⟨rfl, _, _, hp⟩
theorem markM_any (h : ME w0 w sb D A B c e O oc L NA nc ns TA tc ts)
 (ht : ts.length = 2) (hs0 : (wd ts 0).size ≤ 1048576) (hs1 : (wd ts 1).size ≤ 1048576) (hn : L.length ≤ 1000000) :
 Calls Tryz.prog 109 #[.pointer (some ⟨sb, 0, none⟩)] w fun r w' => mePost w0 sb D (L ++ nmb (mrkR (wd ts 0) (wd ts 1))) r w' := by
 obtain ⟨tb, rfl, htb, hc⟩ := h.txt0 (by omega)
 have c0 := hc 0 (by omega)
 have c1 := hc 1 (by omega)
 have HM := hd_ h
 obtain ⟨hsb, ⟨x0, x1, x2, x3, x4, x5, x6, x7⟩, -, k9, k10⟩ := h.le.cel
 obtain ⟨s, hs9⟩ := nm_ (wd ts 0)
 obtain ⟨t, ht9⟩ := nm_ (wd ts 1)
 rw [hs9] at c0 hs0 ⊢
 rw [ht9] at c1 hs1 ⊢
 obtain ⟨T, hT⟩ := nm_ ((mrkR s t).1)
 obtain ⟨cd, hcd⟩ := nm_ ((mrkR s t).2)
 have hbd := mrkR_bd2 s t
 have HC : Hid (∀ V, Calls Tryz.prog 162 #[.string s, .string t] V fun e w' => e = .returned (.tuple #[i64 T, i64 cd]) ∧ UpOf V w') := hd_ fun V => by
  have := markOfS_any s t V (by omega) (by omega)
  rw [hT, hcd] at this
  exact this
 rw [show mrkR s t = (T, cd) from by rw [← hT, ← hcd]]
 rw [hT] at hbd
 rw [ht] at k10
 clear hT hcd hs9 ht9 hc h
 by_cases h0 : cd = 0
 ·subst h0
  have hr : nmb (T, 0) = [dec T] := rfl
  rw [hr]
  clear hr
  go_enter Tryz.func109, Tryz.ntmps109
  go_wp2_with (first | ((with_reducible refine wru ?_); (repeat (go_big_quiet_step (first | (go_at_call 162; exact uq_ (HC.out _))))); refine wqn fun nq => ?_))
  refine cs_ (reportR0_any _ _) ?_
  go_wp2_with fail
  refine cu_ (l01Dec_any T _ (by omega) (by omega)) fun g9 => ?_
  go_wp2_with fail
  refine (say_any w0 sb D _ _ _ _ _ _ L _ _ (dec T) _ (HM.out.le.below bw_) hn).mono ?_
  rintro r w' ⟨rfl, hp⟩
  go_wp2_with fail
  go_end0
  exact ⟨rfl, _, _, hp⟩
 ·have hr : nmb (T, cd) = [errL cd] := by rw [nmb, if_neg h0]
  rw [hr]
  clear hr
  go_enter Tryz.func109, Tryz.ntmps109
  go_wp2_with (first | ((with_reducible refine wru ?_); (repeat (go_big_quiet_step (first | (go_at_call 162; exact uq_ (HC.out _))))); refine wqn fun nq => ?_))
  refine (reportR_any w0 sb D _ _ _ _ _ _ L _ _ cd _ (HM.out.le.below bw_) hn h0).mono ?_
  rintro r w' ⟨rfl, hp⟩
  go_wp2_with fail
  go_end0
  exact ⟨rfl, _, _, hp⟩
end
theorem k0 (two : List ByteArray → ByteArray × Int) : KOk two 0 100 := by
 intro w0 sb D A B c e O oc L NA nc ns TA tc ts w W h hd hf hw
 have h3 : W.length = 3 := by simpa [fitK] using hf
 rw [wF_0 (.inl rfl) h3] at hw
 injection hw with hw
 injection hw with e1 e2
 subst e1 e2
 exact alignM_any w0 sb D A B c e O oc L NA nc [] TA tc [wd W 1, wd W 2] w h rfl (hd.ws 1 (by omega)) (hd.ws 2 (by omega)) (by have := hd.n; omega)
theorem k9 (two : List ByteArray → ByteArray × Int) : KOk two 9 109 := by
 intro w0 sb D A B c e O oc L NA nc ns TA tc ts w W h hd hf hw
 have h3 : W.length = 3 := by simpa [fitK] using hf
 rw [wF_0 (.inr rfl) h3] at hw
 injection hw with hw
 injection hw with e1 e2
 subst e1 e2
 exact markM_any w0 sb D A B c e O oc L NA nc [] TA tc [wd W 1, wd W 2] w h rfl (hd.ws 1 (by omega)) (hd.ws 2 (by omega)) (by have := hd.n; omega)
theorem dcAlign_any (d : DeskD) (A B : Option Addr) (c e : Nat) (s : ByteArray) (w : World) (W : List ByteArray) (hs : s.size ≤ 1048576) (hS : DSee w d A B) (hz : DkSz d e) (hv : vDesk d = true) (ht : Tab w) (hW : splitA 32 [] s.data.toList = W)
 (hf : fitK (kindOf (wd W 0)) W.length = true) (hk : kindOf (wd W 0) = 0) :
 Calls Tryz.prog 9 #[dkv d A B c e, .string s] w fun r w' => dcYes d (sent (alnR (wd W 1) (wd W 2))) w r w' := by
 have HK := hd_ hk
 have HLEN := hd_ (show W.length = 3 by rw [hk] at hf; simpa [fitK] using hf)
 have HWS9 := hd_ (show ∀ i, i < W.length → (wd W i).size ≤ 1048576 from fun i hi => by
  have := split_size 32 s.data.toList [] (wd W i) (by rw [hW, ← wd_eq hi]; exact List.getElem_mem hi)
  rw [bsz] at this
  simp at this
  omega)
 obtain ⟨R1, hR1⟩ := nm_ ((alnR (wd W 1) (wd W 2)).1)
 obtain ⟨R2, hR2⟩ := nm_ ((alnR (wd W 1) (wd W 2)).2)
 have hRR : alnR (wd W 1) (wd W 2) = (R1, R2) := by rw [← hR1, ← hR2]
 have HAT : Hid (∀ V, Calls Tryz.prog 34 #[.string (wd W 1), .string (wd W 2)] V fun e w' => e = .returned (.tuple #[.string R1, i64 R2]) ∧ UpOf V w') := hd_ fun V => by
  have := alignTexts_any (wd W 1) (wd W 2) V (by have := HWS9.out 1 (by have := HLEN.out; omega); omega) (by have := HWS9.out 2 (by have := HLEN.out; omega); omega)
  rw [hR1, hR2] at this
  exact this
 obtain ⟨X1, hX1⟩ := nm_ (wd W 1)
 obtain ⟨X2, hX2⟩ := nm_ (wd W 2)
 rw [hRR]
 clear hR1 hR2 hRR
 clear hk
 have HS := hd_ hS
 have HZ := hd_ hz
 have HV := hd_ hv
 have HT := hd_ ht
 have HSP : Hid (∀ V, Calls Tryz.prog 27 #[.string s, .int .i64 ((s.size : Int) + 2)] V fun e w' => txPost W V e w') := hd_ fun V => by
  have := splitAt_any s (s.size + 1) V (by omega) (by omega)
  rw [spl_all, hW, show (((s.size + 1 : Nat) : Int) + 1) = (s.size : Int) + 2 by omega] at this
  exact this
 have hW1 : 0 < W.length := by rw [← hW]; exact List.length_pos_iff.2 (splitA_ne 32 _ _)
 have hWl : W.length ≤ 2000000 := by
  have := split_len 32 s.data.toList []
  rw [hW, bsz] at this
  omega
 have hno := fit_yes (kind_le _) hf
 obtain ⟨L, hL⟩ := nm_ ((wcR (kindOf (wd W 0))).1)
 obtain ⟨M, hM⟩ := nm_ ((wcR (kindOf (wd W 0))).2)
 have HWC : Hid (∀ V, Calls Tryz.prog 28 #[.string (wd W 0)] V fun e w' => e = .returned (.tuple #[i64 L, .bool M]) ∧ V = w') := hd_ fun V => by
  have := wordCounts_any (wd W 0) V
  rw [hL, hM] at this
  exact this
 rw [hL, hM] at hno
 clear hS hz hv ht hW hf hL hM
 go_enter Tryz.func9, Tryz.ntmps9
 go_upto_region 1 with (fail)
 refine wpg (R := fun V => Hid (MD w V w.heap.size (w.heap.size + 1) (dkcs d A B c e))) (hd_ (MD.new _ _)) (fun V z => ?_)
 generalize hp9 : w.heap.size = p at z ⊢
 generalize hq9 : p + 1 = q at z ⊢
 clear hp9 hq9
 obtain ⟨hpV, x0, x1, x2, x3, x4, x5, x6, x7⟩ := z.out.bx.eight
 go_wp2_with fail
 refine cu_ (ra_ (validDeskI_any d A B c e _ (HS.out.below z.out.up.below) HZ.out (HT.out.below z.out.up.below)) HV.out) fun g1 => ?_
 go_wp2_with fail
 refine (HSP.out _).mono ?_
 rintro r w' ⟨AW, cW, rfl, ow, g2, rfl⟩
 have z2 := hd_ (z.out.below (V' := up V (g1.tr g2)) (ub_ V _))
 have OW : Hid ((up V (g1.tr g2)).ownsRow (up V g1).heap.size 9 1 (.slice AW W.length cW) W.length (strs W)) := hd_ ow
 have HBV := hd_ (show p < (up V g1).heap.size ∧ q < (up V g1).heap.size ∧ w.heap.size ≤ (up V g1).heap.size from ⟨Nat.lt_of_lt_of_le z.out.bx.lt (ub_ V g1).size, Nat.lt_of_lt_of_le z.out.rs.lt (ub_ V g1).size, Nat.le_trans z.out.up.below.size (ub_ V g1).size⟩)
 generalize (up V g1).heap.size = base at OW HBV
 obtain ⟨bW, oW, eW, hbW, cw⟩ := wd_at (Rds.of_own OW.out) (i := 0) hW1
 subst eW
 have cw0 := cw 0 hW1
 rw [Nat.add_zero] at cw0
 clear ow cw x0 x1 x2 x3 x4 x5 x6 x7 hpV z
 go_upto_region 6 with (go_at_call 28; refine cs_ (HWC.out _) ?_)
 have HNO := hd_ hno
 have t1' : (L == 0) = false := by rw [beq_eq_false_iff_ne]; omega
 have t2' : decide ((W.length : Int) < L) = false := decide_eq_false (by omega)
 go_cut [46] (fun x U => x = .bool false ∧ Hid (MD w U p q (dkcs d A B c e)) ∧ Hid (U.ownsRow base 9 1 (.slice (some ⟨bW, oW, none⟩) W.length cW) W.length (strs W)))
 case first =>
  by_cases t3 : L < (W.length : Int)
  ·have t3' : decide (L < (W.length : Int)) = true := decide_eq_true t3
   have hM : M = true := hno.2.2.resolve_left (by omega)
   subst hM
   clear hno t3
   go_wp2_with fail
   go_meet
   exact ⟨rfl, z2, OW⟩
  ·have t3' : decide (L < (W.length : Int)) = false := decide_eq_false t3
   clear hno t3
   go_wp2_with fail
   go_meet
   exact ⟨rfl, z2, OW⟩
 case rest =>
  obtain ⟨rfl, z, OW⟩ := hcut
  clear z2 hno t1' t2' cw0
  obtain ⟨hpV, x0, x1, x2, x3, x4, x5, x6, x7⟩ := z.out.bx.eight
  obtain ⟨f0, f1, f2, f3, f4, f5, f6, f7⟩ := z.out.bx.open8
  go_wp2_with fail
  refine (copied_any d A B c e _ (HS.out.below z.out.up.below) HZ.out.s HZ.out.n).mono ?_
  rintro r w' ⟨A1, B1, c1, e1, rfl, hdo, g3, rfl⟩
  have z3 := hd_ (z.out.below (ub_ wc g3))
  have HDO := hd_ hdo
  have OW3 := hd_ (ob_ OW.out (ub_ wc g3))
  have HWS := hd_ (show base ≤ wc.heap.size from by
   have := OW.out.lt bW rfl
   omega)
  clear hdo x0 x1 x2 x3 x4 x5 x6 x7 f0 f1 f2 f3 f4 f5 f6 f7 hpV OW
  obtain ⟨hpV, x0, x1, x2, x3, x4, x5, x6, x7⟩ := z3.out.bx.eight
  obtain ⟨f0, f1, f2, f3, f4, f5, f6, f7⟩ := z3.out.bx.open8
  go_upto_region 10 with (fail)
  obtain ⟨g9, e9⟩ := own_some OW3.out hW1
  injection e9 with e9
  injection e9 with e9a e9 e9b
  clear e9a e9b
  subst e9
  have hpw : p < wc.heap.size := z.out.bx.lt
  have m8 := hd_ (z3.out.put8 (i64 d.b.bars) (i64 d.b.rise) (i64 d.b.fall) (i64 d.b.clr) (i64 d.b.near) (.slice A1 d.stops.length c1) (.slice B1 d.drills.length e1) (.string d.log))
  have o81 := hd_ (om_ (oa_ HDO.out.1 hpw (i64 d.b.bars) (i64 d.b.rise) (i64 d.b.fall) (i64 d.b.clr) (i64 d.b.near) (.slice A1 d.stops.length c1) (.slice B1 d.drills.length e1) (.string d.log)) HWS.out)
  have o82 := hd_ (om_ (oa_ HDO.out.2 hpw (i64 d.b.bars) (i64 d.b.rise) (i64 d.b.fall) (i64 d.b.clr) (i64 d.b.near) (.slice A1 d.stops.length c1) (.slice B1 d.drills.length e1) (.string d.log)) HWS.out)
  have o83 := hd_ (oa_ OW3.out HBV.out.1 (i64 d.b.bars) (i64 d.b.rise) (i64 d.b.fall) (i64 d.b.clr) (i64 d.b.near) (.slice A1 d.stops.length c1) (.slice B1 d.drills.length e1) (.string d.log))
  refine wpg (R := fun U => Hid (DC w U p q d A1 B1 c1 e1 base W bW cW)) (hd_ ⟨m8.out.below ((Below.refl _ _).alloc (Nat.le_refl _) _), ⟨o81.out.alloc _, o82.out.alloc _⟩, o83.out.alloc _, HBV.out⟩) (fun U C => ?_)
  clear x0 x1 x2 x3 x4 x5 x6 x7 f0 f1 f2 f3 f4 f5 f6 f7 hpV z3 HDO OW3 z HWS m8 o81 o82 o83
  obtain ⟨q0, q1, q2, q3, q4, q5, q6, q7, q8, q9, q10, q11, q12, q13⟩ := kts HK.out
  simp only [Nat.reduceEqDiff, eq_self, decide_true, decide_false] at q0 q1 q2 q3 q4 q5 q6 q7 q8 q9 q10 q11 q12 q13
  have hcw : ∀ i, i < W.length → U.cell? ⟨bW, i, none⟩ = some (.string (wd W i)) := fun i hi => by
   obtain ⟨b9, o9, e9, _, hc9⟩ := wd_at (Rds.of_own C.out.wo) hi
   injection e9 with e9
   injection e9 with e91 e92
   subst e91 e92
   have := hc9 i hi
   rwa [Nat.zero_add] at this
  have n1 := hcw 1 (by have := HLEN.out; omega)
  have n2 := hcw 2 (by have := HLEN.out; omega)
  have hl1 : (1 : Int) < (W.length : Int) := by have := HLEN.out; omega
  have hl2 : (2 : Int) < (W.length : Int) := by have := HLEN.out; omega
  have hbW : bW < U.heap.size := (C.out.wo.lt bW rfl).2
  have hbU : base ≤ U.heap.size := by have := C.out.wo.lt bW rfl; omega
  clear hcw
  go_upto_region 24 with (fail)
  rw [hX1] at n1 HAT
  rw [hX2] at n2 HAT
  clear hl1 hl2
  rw [HLEN.out]
  have HLX := HLEN
  clear HLEN
  go_region_held3 (fun w' => (U).heap.size ≤ w'.heap.size ∧ ∀ b o, b < (U).heap.size → w'.cell? ⟨b, o, none⟩ = (U).cell? ⟨b, o, none⟩) (exact sm_of bw_) (first | (go_at_call 33; refine (sentence_any R1 R2 _).mono ?_; rintro r w' ⟨X, n, rfl, ox, gx, rfl⟩) | (go_at_call 34; refine cu_ (HAT.out _) fun gf => ?_))
  have C2 := hd_ (C.out.below (V := up U.drew (gf.tr gx)) bw_)
  have hbU3 : base ≤ ((up U.drew gf)).heap.size := Nat.le_trans hbU (show Below U.heap.size U ((up U.drew gf)) from bw_).size
  have OX : Hid ((up U.drew (gf.tr gx)).ownsRow base 9 1 (.slice X ((sent (R1, R2))).length n) ((sent (R1, R2))).length (strs (sent (R1, R2)))) := hd_ (om_ ox hbU3)
  refine exit_genD (R := fun U1 => Hid (DC w U1 p q d A1 B1 c1 e1 base W bW cW) ∧ Hid (U1.ownsRow base 9 1 (.slice X ((sent (R1, R2))).length n) ((sent (R1, R2))).length (strs (sent (R1, R2))))) ⟨C2, OX⟩ (fun U1 y => ?_)
  obtain ⟨C3, OX1⟩ := y
  have z := hd_ C3.out.m
  have DO := hd_ C3.out.o
  clear ox C C2 n1 n2 OX hbU3
  have OX := OX1
  obtain ⟨hpV, x0, x1, x2, x3, x4, x5, x6, x7⟩ := z.out.bx.eight
  obtain ⟨hqT, r0, r1, r2, r3, r4, r5, r6, r7⟩ := z.out.rs.eight
  obtain ⟨f0, f1, f2, f3, f4, f5, f6, f7⟩ := z.out.rs.open8
  go_wp2_with fail
  refine post_gen (R := fun W => Blk W q 31 (dkcs (d) A1 B1 c1 e1) ∧ DOwn w.heap.size W (d) A1 B1 c1 e1 ∧ W.ownsRow w.heap.size 9 1 (.slice X (sent (R1, R2)).length n) (sent (R1, R2)).length (strs (sent (R1, R2))) ∧ UpOf w W) ⟨blk_put8 z.out.rs _ _ _ _ _ _ _ _, ⟨om_ (oa_ DO.out.1 HBV.out.2.1 _ _ _ _ _ _ _ _) HBV.out.2.2, om_ (oa_ DO.out.2 HBV.out.2.1 _ _ _ _ _ _ _ _) HBV.out.2.2⟩, om_ (oa_ OX.out HBV.out.2.1 _ _ _ _ _ _ _ _) HBV.out.2.2, put8_up z.out.up z.out.hq _ _ _ _ _ _ _ _⟩ (fun W st => ?_)
  obtain ⟨s1, s4, s2, s3⟩ := st
  obtain ⟨hqW, w0, w1, w2, w3, w4, w5, w6, w7⟩ := s1.eight
  clear s1 r0 r1 r2 r3 r4 r5 r6 r7 f0 f1 f2 f3 f4 f5 f6 f7 x0 x1 x2 x3 x4 x5 x6 x7
  exact bodyPost_ret (v := .tuple #[dkv (d) A1 B1 c1 e1, .slice X (sent (R1, R2)).length n, i64 0]) (by simp [results, Tryz.results9, go_sem, hqW, w0, w1, w2, w3, w4, w5, w6, w7]) rfl ⟨_, _, _, _, _, _, rfl, s4, s2, s3⟩
theorem markL_bd (e n : Int) : ∀ (f : Nat) (t m : Int), m ≤ markL e n f t m ∧ markL e n f t m ≤ m + f
 | 0, _, _ => ⟨Int.le_refl _, by simp [markL]⟩
 | f + 1, t, m => by
   have := markL_bd e n f (t * 2) (m + 1)
   rw [markL]
   split <;> omega
theorem mrkR_bd (a b : ByteArray) : 0 ≤ (mrkR a b).1 ∧ (mrkR a b).1 ≤ 10 := by
 have h := markL_bd (cst a b 0 0) a.size 5 1 1
 have e : mrk a b = markL (cst a b 0 0) a.size 5 1 1 := rfl
 unfold mrkR
 (repeat' split) <;> (try rw [e]) <;> (first | decide | omega)
theorem dcMark_any (d : DeskD) (A B : Option Addr) (c e : Nat) (s : ByteArray) (w : World) (W : List ByteArray) (hs : s.size ≤ 1048576) (hS : DSee w d A B) (hz : DkSz d e) (hv : vDesk d = true) (ht : Tab w) (hW : splitA 32 [] s.data.toList = W)
 (hf : fitK (kindOf (wd W 0)) W.length = true) (hk : kindOf (wd W 0) = 9) :
 Calls Tryz.prog 9 #[dkv d A B c e, .string s] w fun r w' => dcYes d (nmb (mrkR (wd W 1) (wd W 2))) w r w' := by
 have HK := hd_ hk
 have HLEN := hd_ (show W.length = 3 by rw [hk] at hf; simpa [fitK] using hf)
 have HWS9 := hd_ (show ∀ i, i < W.length → (wd W i).size ≤ 1048576 from fun i hi => by
  have := split_size 32 s.data.toList [] (wd W i) (by rw [hW, ← wd_eq hi]; exact List.getElem_mem hi)
  rw [bsz] at this
  simp at this
  omega)
 have hmb := mrkR_bd (wd W 1) (wd W 2)
 obtain ⟨R1, hR1⟩ := nm_ ((mrkR (wd W 1) (wd W 2)).1)
 obtain ⟨R2, hR2⟩ := nm_ ((mrkR (wd W 1) (wd W 2)).2)
 have hRR : mrkR (wd W 1) (wd W 2) = (R1, R2) := by rw [← hR1, ← hR2]
 rw [hR1] at hmb
 have HAT : Hid (∀ V, Calls Tryz.prog 36 #[.string (wd W 1), .string (wd W 2)] V fun e w' => e = .returned (.tuple #[i64 R1, i64 R2]) ∧ UpOf V w') := hd_ fun V => by
  have := markOf_any (wd W 1) (wd W 2) V (by have := HWS9.out 1 (by have := HLEN.out; omega); omega) (by have := HWS9.out 2 (by have := HLEN.out; omega); omega)
  rw [hR1, hR2] at this
  exact this
 obtain ⟨X1, hX1⟩ := nm_ (wd W 1)
 obtain ⟨X2, hX2⟩ := nm_ (wd W 2)
 rw [hRR]
 clear hR1 hR2 hRR
 clear hk
 have HS := hd_ hS
 have HZ := hd_ hz
 have HV := hd_ hv
 have HT := hd_ ht
 have HSP : Hid (∀ V, Calls Tryz.prog 27 #[.string s, .int .i64 ((s.size : Int) + 2)] V fun e w' => txPost W V e w') := hd_ fun V => by
  have := splitAt_any s (s.size + 1) V (by omega) (by omega)
  rw [spl_all, hW, show (((s.size + 1 : Nat) : Int) + 1) = (s.size : Int) + 2 by omega] at this
  exact this
 have hW1 : 0 < W.length := by rw [← hW]; exact List.length_pos_iff.2 (splitA_ne 32 _ _)
 have hWl : W.length ≤ 2000000 := by
  have := split_len 32 s.data.toList []
  rw [hW, bsz] at this
  omega
 have hno := fit_yes (kind_le _) hf
 obtain ⟨L, hL⟩ := nm_ ((wcR (kindOf (wd W 0))).1)
 obtain ⟨M, hM⟩ := nm_ ((wcR (kindOf (wd W 0))).2)
 have HWC : Hid (∀ V, Calls Tryz.prog 28 #[.string (wd W 0)] V fun e w' => e = .returned (.tuple #[i64 L, .bool M]) ∧ V = w') := hd_ fun V => by
  have := wordCounts_any (wd W 0) V
  rw [hL, hM] at this
  exact this
 rw [hL, hM] at hno
 clear hS hz hv ht hW hf hL hM
 go_enter Tryz.func9, Tryz.ntmps9
 go_upto_region 1 with (fail)
 refine wpg (R := fun V => Hid (MD w V w.heap.size (w.heap.size + 1) (dkcs d A B c e))) (hd_ (MD.new _ _)) (fun V z => ?_)
 generalize hp9 : w.heap.size = p at z ⊢
 generalize hq9 : p + 1 = q at z ⊢
 clear hp9 hq9
 obtain ⟨hpV, x0, x1, x2, x3, x4, x5, x6, x7⟩ := z.out.bx.eight
 go_wp2_with fail
 refine cu_ (ra_ (validDeskI_any d A B c e _ (HS.out.below z.out.up.below) HZ.out (HT.out.below z.out.up.below)) HV.out) fun g1 => ?_
 go_wp2_with fail
 refine (HSP.out _).mono ?_
 rintro r w' ⟨AW, cW, rfl, ow, g2, rfl⟩
 have z2 := hd_ (z.out.below (V' := up V (g1.tr g2)) (ub_ V _))
 have OW : Hid ((up V (g1.tr g2)).ownsRow (up V g1).heap.size 9 1 (.slice AW W.length cW) W.length (strs W)) := hd_ ow
 have HBV := hd_ (show p < (up V g1).heap.size ∧ q < (up V g1).heap.size ∧ w.heap.size ≤ (up V g1).heap.size from ⟨Nat.lt_of_lt_of_le z.out.bx.lt (ub_ V g1).size, Nat.lt_of_lt_of_le z.out.rs.lt (ub_ V g1).size, Nat.le_trans z.out.up.below.size (ub_ V g1).size⟩)
 generalize (up V g1).heap.size = base at OW HBV
 obtain ⟨bW, oW, eW, hbW, cw⟩ := wd_at (Rds.of_own OW.out) (i := 0) hW1
 subst eW
 have cw0 := cw 0 hW1
 rw [Nat.add_zero] at cw0
 clear ow cw x0 x1 x2 x3 x4 x5 x6 x7 hpV z
 go_upto_region 6 with (go_at_call 28; refine cs_ (HWC.out _) ?_)
 have HNO := hd_ hno
 have t1' : (L == 0) = false := by rw [beq_eq_false_iff_ne]; omega
 have t2' : decide ((W.length : Int) < L) = false := decide_eq_false (by omega)
 go_cut [46] (fun x U => x = .bool false ∧ Hid (MD w U p q (dkcs d A B c e)) ∧ Hid (U.ownsRow base 9 1 (.slice (some ⟨bW, oW, none⟩) W.length cW) W.length (strs W)))
 case first =>
  by_cases t3 : L < (W.length : Int)
  ·have t3' : decide (L < (W.length : Int)) = true := decide_eq_true t3
   have hM : M = true := hno.2.2.resolve_left (by omega)
   subst hM
   clear hno t3
   go_wp2_with fail
   go_meet
   exact ⟨rfl, z2, OW⟩
  ·have t3' : decide (L < (W.length : Int)) = false := decide_eq_false t3
   clear hno t3
   go_wp2_with fail
   go_meet
   exact ⟨rfl, z2, OW⟩
 case rest =>
  obtain ⟨rfl, z, OW⟩ := hcut
  clear z2 hno t1' t2' cw0
  obtain ⟨hpV, x0, x1, x2, x3, x4, x5, x6, x7⟩ := z.out.bx.eight
  obtain ⟨f0, f1, f2, f3, f4, f5, f6, f7⟩ := z.out.bx.open8
  go_wp2_with fail
  refine (copied_any d A B c e _ (HS.out.below z.out.up.below) HZ.out.s HZ.out.n).mono ?_
  rintro r w' ⟨A1, B1, c1, e1, rfl, hdo, g3, rfl⟩
  have z3 := hd_ (z.out.below (ub_ wc g3))
  have HDO := hd_ hdo
  have OW3 := hd_ (ob_ OW.out (ub_ wc g3))
  have HWS := hd_ (show base ≤ wc.heap.size from by
   have := OW.out.lt bW rfl
   omega)
  clear hdo x0 x1 x2 x3 x4 x5 x6 x7 f0 f1 f2 f3 f4 f5 f6 f7 hpV OW
  obtain ⟨hpV, x0, x1, x2, x3, x4, x5, x6, x7⟩ := z3.out.bx.eight
  obtain ⟨f0, f1, f2, f3, f4, f5, f6, f7⟩ := z3.out.bx.open8
  go_upto_region 10 with (fail)
  obtain ⟨g9, e9⟩ := own_some OW3.out hW1
  injection e9 with e9
  injection e9 with e9a e9 e9b
  clear e9a e9b
  subst e9
  have hpw : p < wc.heap.size := z.out.bx.lt
  have m8 := hd_ (z3.out.put8 (i64 d.b.bars) (i64 d.b.rise) (i64 d.b.fall) (i64 d.b.clr) (i64 d.b.near) (.slice A1 d.stops.length c1) (.slice B1 d.drills.length e1) (.string d.log))
  have o81 := hd_ (om_ (oa_ HDO.out.1 hpw (i64 d.b.bars) (i64 d.b.rise) (i64 d.b.fall) (i64 d.b.clr) (i64 d.b.near) (.slice A1 d.stops.length c1) (.slice B1 d.drills.length e1) (.string d.log)) HWS.out)
  have o82 := hd_ (om_ (oa_ HDO.out.2 hpw (i64 d.b.bars) (i64 d.b.rise) (i64 d.b.fall) (i64 d.b.clr) (i64 d.b.near) (.slice A1 d.stops.length c1) (.slice B1 d.drills.length e1) (.string d.log)) HWS.out)
  have o83 := hd_ (oa_ OW3.out HBV.out.1 (i64 d.b.bars) (i64 d.b.rise) (i64 d.b.fall) (i64 d.b.clr) (i64 d.b.near) (.slice A1 d.stops.length c1) (.slice B1 d.drills.length e1) (.string d.log))
  refine wpg (R := fun U => Hid (DC w U p q d A1 B1 c1 e1 base W bW cW)) (hd_ ⟨m8.out.below ((Below.refl _ _).alloc (Nat.le_refl _) _), ⟨o81.out.alloc _, o82.out.alloc _⟩, o83.out.alloc _, HBV.out⟩) (fun U C => ?_)
  clear x0 x1 x2 x3 x4 x5 x6 x7 f0 f1 f2 f3 f4 f5 f6 f7 hpV z3 HDO OW3 z HWS m8 o81 o82 o83
  obtain ⟨q0, q1, q2, q3, q4, q5, q6, q7, q8, q9, q10, q11, q12, q13⟩ := kts HK.out
  simp only [Nat.reduceEqDiff, eq_self, decide_true, decide_false] at q0 q1 q2 q3 q4 q5 q6 q7 q8 q9 q10 q11 q12 q13
  have hcw : ∀ i, i < W.length → U.cell? ⟨bW, i, none⟩ = some (.string (wd W i)) := fun i hi => by
   obtain ⟨b9, o9, e9, _, hc9⟩ := wd_at (Rds.of_own C.out.wo) hi
   injection e9 with e9
   injection e9 with e91 e92
   subst e91 e92
   have := hc9 i hi
   rwa [Nat.zero_add] at this
  have n1 := hcw 1 (by have := HLEN.out; omega)
  have n2 := hcw 2 (by have := HLEN.out; omega)
  have hl1 : (1 : Int) < (W.length : Int) := by have := HLEN.out; omega
  have hl2 : (2 : Int) < (W.length : Int) := by have := HLEN.out; omega
  have hbW : bW < U.heap.size := (C.out.wo.lt bW rfl).2
  have hbU : base ≤ U.heap.size := by have := C.out.wo.lt bW rfl; omega
  clear hcw
  go_upto_region 26 with (fail)
  rw [hX1] at n1 HAT
  rw [hX2] at n2 HAT
  clear hl1 hl2
  rw [HLEN.out]
  have HLX := HLEN
  clear HLEN
  have HTU : Hid (∀ V, Below U.heap.size U V → Tab V) := hd_ fun V hV => (HT.out.below C.out.m.up.below).below hV
  go_region_held3 (fun w' => (U).heap.size ≤ w'.heap.size ∧ ∀ b o, b < (U).heap.size → w'.cell? ⟨b, o, none⟩ = (U).cell? ⟨b, o, none⟩) (exact sm_of bw_) (first | (go_at_call 35; refine (number_any R1 R2 _ (by omega) (by omega) (HTU.out _ bw_)).mono ?_; rintro r w' ⟨X, n, rfl, ox, gx, rfl⟩) | (go_at_call 36; refine cu_ (HAT.out _) fun gf => ?_))
  have C2 := hd_ (C.out.below (V := up U.drew (gf.tr gx)) bw_)
  have hbU3 : base ≤ ((up U.drew gf)).heap.size := Nat.le_trans hbU (show Below U.heap.size U ((up U.drew gf)) from bw_).size
  have OX : Hid ((up U.drew (gf.tr gx)).ownsRow base 9 1 (.slice X ((nmb (R1, R2))).length n) ((nmb (R1, R2))).length (strs (nmb (R1, R2)))) := hd_ (om_ ox hbU3)
  refine exit_genD (R := fun U1 => Hid (DC w U1 p q d A1 B1 c1 e1 base W bW cW) ∧ Hid (U1.ownsRow base 9 1 (.slice X ((nmb (R1, R2))).length n) ((nmb (R1, R2))).length (strs (nmb (R1, R2))))) ⟨C2, OX⟩ (fun U1 y => ?_)
  obtain ⟨C3, OX1⟩ := y
  have z := hd_ C3.out.m
  have DO := hd_ C3.out.o
  clear ox C C2 n1 n2 OX hbU3
  have OX := OX1
  obtain ⟨hpV, x0, x1, x2, x3, x4, x5, x6, x7⟩ := z.out.bx.eight
  obtain ⟨hqT, r0, r1, r2, r3, r4, r5, r6, r7⟩ := z.out.rs.eight
  obtain ⟨f0, f1, f2, f3, f4, f5, f6, f7⟩ := z.out.rs.open8
  go_wp2_with fail
  refine post_gen (R := fun W => Blk W q 31 (dkcs (d) A1 B1 c1 e1) ∧ DOwn w.heap.size W (d) A1 B1 c1 e1 ∧ W.ownsRow w.heap.size 9 1 (.slice X (nmb (R1, R2)).length n) (nmb (R1, R2)).length (strs (nmb (R1, R2))) ∧ UpOf w W) ⟨blk_put8 z.out.rs _ _ _ _ _ _ _ _, ⟨om_ (oa_ DO.out.1 HBV.out.2.1 _ _ _ _ _ _ _ _) HBV.out.2.2, om_ (oa_ DO.out.2 HBV.out.2.1 _ _ _ _ _ _ _ _) HBV.out.2.2⟩, om_ (oa_ OX.out HBV.out.2.1 _ _ _ _ _ _ _ _) HBV.out.2.2, put8_up z.out.up z.out.hq _ _ _ _ _ _ _ _⟩ (fun W st => ?_)
  obtain ⟨s1, s4, s2, s3⟩ := st
  obtain ⟨hqW, w0, w1, w2, w3, w4, w5, w6, w7⟩ := s1.eight
  clear s1 r0 r1 r2 r3 r4 r5 r6 r7 f0 f1 f2 f3 f4 f5 f6 f7 x0 x1 x2 x3 x4 x5 x6 x7
  exact bodyPost_ret (v := .tuple #[dkv (d) A1 B1 c1 e1, .slice X (nmb (R1, R2)).length n, i64 0]) (by simp [results, Tryz.results9, go_sem, hqW, w0, w1, w2, w3, w4, w5, w6, w7]) rfl ⟨_, _, _, _, _, _, rfl, s4, s2, s3⟩
theorem dcK7_any {two : List ByteArray → ByteArray × Int} (h2 : TwoOk two) (d : DeskD) (A B : Option Addr) (c e : Nat) (s : ByteArray) (w : World) (W : List ByteArray) (hs : s.size ≤ 1048576) (hS : DSee w d A B) (hz : DkSz d e) (hv : vDesk d = true) (ht : Tab w) (hW : splitA 32 [] s.data.toList = W)
 (hf : fitK (kindOf (wd W 0)) W.length = true) (hk : kindOf (wd W 0) = 7) :
 Calls Tryz.prog 9 #[dkv d A B c e, .string s] w fun r w' => dcYes d (lineR d.drills (wd W 1) (wd W 2)) w r w' := by
 have HK := hd_ hk
 have HLEN := hd_ (show W.length = 3 by rw [hk] at hf; simpa [fitK] using hf)
 have HWS9 := hd_ (show ∀ i, i < W.length → (wd W i).size ≤ 1048576 from fun i hi => by
  have := split_size 32 s.data.toList [] (wd W i) (by rw [hW, ← wd_eq hi]; exact List.getElem_mem hi)
  rw [bsz] at this
  simp at this
  omega)
 obtain ⟨R, hR⟩ := nm_ (lineR d.drills (wd W 1) (wd W 2))
 obtain ⟨X1, hX1⟩ := nm_ (wd W 1)
 obtain ⟨X2, hX2⟩ := nm_ (wd W 2)
 have HAT : Hid (∀ (A1 B1 : Option Addr) (c1 e1 : Nat) (V : World), DSee V d A1 B1 → DkSz d e1 → Tab V → Calls Tryz.prog 37 #[dkv d A1 B1 c1 e1, .string X1, .string X2] V fun r w' => txPost R V r w') := hd_ fun A1 B1 c1 e1 V h1 h2 h3 => by
  have := drillLineC_any d A1 B1 c1 e1 (wd W 1) (wd W 2) V h1 h2 (HWS9.out 2 (by have := HLEN.out; omega)) h3
  rw [hR, hX1, hX2] at this
  exact this
 rw [hR]
 clear hR
 clear hk
 have HS := hd_ hS
 have HZ := hd_ hz
 have HV := hd_ hv
 have HT := hd_ ht
 have HSP : Hid (∀ V, Calls Tryz.prog 27 #[.string s, .int .i64 ((s.size : Int) + 2)] V fun e w' => txPost W V e w') := hd_ fun V => by
  have := splitAt_any s (s.size + 1) V (by omega) (by omega)
  rw [spl_all, hW, show (((s.size + 1 : Nat) : Int) + 1) = (s.size : Int) + 2 by omega] at this
  exact this
 have hW1 : 0 < W.length := by rw [← hW]; exact List.length_pos_iff.2 (splitA_ne 32 _ _)
 have hWl : W.length ≤ 2000000 := by
  have := split_len 32 s.data.toList []
  rw [hW, bsz] at this
  omega
 have hno := fit_yes (kind_le _) hf
 obtain ⟨L, hL⟩ := nm_ ((wcR (kindOf (wd W 0))).1)
 obtain ⟨M, hM⟩ := nm_ ((wcR (kindOf (wd W 0))).2)
 have HWC : Hid (∀ V, Calls Tryz.prog 28 #[.string (wd W 0)] V fun e w' => e = .returned (.tuple #[i64 L, .bool M]) ∧ V = w') := hd_ fun V => by
  have := wordCounts_any (wd W 0) V
  rw [hL, hM] at this
  exact this
 rw [hL, hM] at hno
 clear hS hz hv ht hW hf hL hM
 go_enter Tryz.func9, Tryz.ntmps9
 go_upto_region 1 with (fail)
 refine wpg (R := fun V => Hid (MD w V w.heap.size (w.heap.size + 1) (dkcs d A B c e))) (hd_ (MD.new _ _)) (fun V z => ?_)
 generalize hp9 : w.heap.size = p at z ⊢
 generalize hq9 : p + 1 = q at z ⊢
 clear hp9 hq9
 obtain ⟨hpV, x0, x1, x2, x3, x4, x5, x6, x7⟩ := z.out.bx.eight
 go_wp2_with fail
 refine cu_ (ra_ (validDeskI_any d A B c e _ (HS.out.below z.out.up.below) HZ.out (HT.out.below z.out.up.below)) HV.out) fun g1 => ?_
 go_wp2_with fail
 refine (HSP.out _).mono ?_
 rintro r w' ⟨AW, cW, rfl, ow, g2, rfl⟩
 have z2 := hd_ (z.out.below (V' := up V (g1.tr g2)) (ub_ V _))
 have OW : Hid ((up V (g1.tr g2)).ownsRow (up V g1).heap.size 9 1 (.slice AW W.length cW) W.length (strs W)) := hd_ ow
 have HBV := hd_ (show p < (up V g1).heap.size ∧ q < (up V g1).heap.size ∧ w.heap.size ≤ (up V g1).heap.size from ⟨Nat.lt_of_lt_of_le z.out.bx.lt (ub_ V g1).size, Nat.lt_of_lt_of_le z.out.rs.lt (ub_ V g1).size, Nat.le_trans z.out.up.below.size (ub_ V g1).size⟩)
 generalize (up V g1).heap.size = base at OW HBV
 obtain ⟨bW, oW, eW, hbW, cw⟩ := wd_at (Rds.of_own OW.out) (i := 0) hW1
 subst eW
 have cw0 := cw 0 hW1
 rw [Nat.add_zero] at cw0
 clear ow cw x0 x1 x2 x3 x4 x5 x6 x7 hpV z
 go_upto_region 6 with (go_at_call 28; refine cs_ (HWC.out _) ?_)
 have HNO := hd_ hno
 have t1' : (L == 0) = false := by rw [beq_eq_false_iff_ne]; omega
 have t2' : decide ((W.length : Int) < L) = false := decide_eq_false (by omega)
 go_cut [46] (fun x U => x = .bool false ∧ Hid (MD w U p q (dkcs d A B c e)) ∧ Hid (U.ownsRow base 9 1 (.slice (some ⟨bW, oW, none⟩) W.length cW) W.length (strs W)))
 case first =>
  by_cases t3 : L < (W.length : Int)
  ·have t3' : decide (L < (W.length : Int)) = true := decide_eq_true t3
   have hM : M = true := hno.2.2.resolve_left (by omega)
   subst hM
   clear hno t3
   go_wp2_with fail
   go_meet
   exact ⟨rfl, z2, OW⟩
  ·have t3' : decide (L < (W.length : Int)) = false := decide_eq_false t3
   clear hno t3
   go_wp2_with fail
   go_meet
   exact ⟨rfl, z2, OW⟩
 case rest =>
  obtain ⟨rfl, z, OW⟩ := hcut
  clear z2 hno t1' t2' cw0
  obtain ⟨hpV, x0, x1, x2, x3, x4, x5, x6, x7⟩ := z.out.bx.eight
  obtain ⟨f0, f1, f2, f3, f4, f5, f6, f7⟩ := z.out.bx.open8
  go_wp2_with fail
  refine (copied_any d A B c e _ (HS.out.below z.out.up.below) HZ.out.s HZ.out.n).mono ?_
  rintro r w' ⟨A1, B1, c1, e1, rfl, hdo, g3, rfl⟩
  have z3 := hd_ (z.out.below (ub_ wc g3))
  have HDO := hd_ hdo
  have OW3 := hd_ (ob_ OW.out (ub_ wc g3))
  have HWS := hd_ (show base ≤ wc.heap.size from by
   have := OW.out.lt bW rfl
   omega)
  clear hdo x0 x1 x2 x3 x4 x5 x6 x7 f0 f1 f2 f3 f4 f5 f6 f7 hpV OW
  obtain ⟨hpV, x0, x1, x2, x3, x4, x5, x6, x7⟩ := z3.out.bx.eight
  obtain ⟨f0, f1, f2, f3, f4, f5, f6, f7⟩ := z3.out.bx.open8
  go_upto_region 10 with (fail)
  obtain ⟨g9, e9⟩ := own_some OW3.out hW1
  injection e9 with e9
  injection e9 with e9a e9 e9b
  clear e9a e9b
  subst e9
  have hpw : p < wc.heap.size := z.out.bx.lt
  have m8 := hd_ (z3.out.put8 (i64 d.b.bars) (i64 d.b.rise) (i64 d.b.fall) (i64 d.b.clr) (i64 d.b.near) (.slice A1 d.stops.length c1) (.slice B1 d.drills.length e1) (.string d.log))
  have o81 := hd_ (om_ (oa_ HDO.out.1 hpw (i64 d.b.bars) (i64 d.b.rise) (i64 d.b.fall) (i64 d.b.clr) (i64 d.b.near) (.slice A1 d.stops.length c1) (.slice B1 d.drills.length e1) (.string d.log)) HWS.out)
  have o82 := hd_ (om_ (oa_ HDO.out.2 hpw (i64 d.b.bars) (i64 d.b.rise) (i64 d.b.fall) (i64 d.b.clr) (i64 d.b.near) (.slice A1 d.stops.length c1) (.slice B1 d.drills.length e1) (.string d.log)) HWS.out)
  have o83 := hd_ (oa_ OW3.out HBV.out.1 (i64 d.b.bars) (i64 d.b.rise) (i64 d.b.fall) (i64 d.b.clr) (i64 d.b.near) (.slice A1 d.stops.length c1) (.slice B1 d.drills.length e1) (.string d.log))
  refine wpg (R := fun U => Hid (DC w U p q d A1 B1 c1 e1 base W bW cW)) (hd_ ⟨m8.out.below ((Below.refl _ _).alloc (Nat.le_refl _) _), ⟨o81.out.alloc _, o82.out.alloc _⟩, o83.out.alloc _, HBV.out⟩) (fun U C => ?_)
  clear x0 x1 x2 x3 x4 x5 x6 x7 f0 f1 f2 f3 f4 f5 f6 f7 hpV z3 HDO OW3 z HWS m8 o81 o82 o83
  obtain ⟨q0, q1, q2, q3, q4, q5, q6, q7, q8, q9, q10, q11, q12, q13⟩ := kts HK.out
  simp only [Nat.reduceEqDiff, eq_self, decide_true, decide_false] at q0 q1 q2 q3 q4 q5 q6 q7 q8 q9 q10 q11 q12 q13
  have HTU : Hid (∀ V, Below U.heap.size U V → Tab V) := hd_ fun V hV => (HT.out.below C.out.m.up.below).below hV
  have hbU : base ≤ U.heap.size := by have := C.out.wo.lt bW rfl; omega
  have HPB : Hid (p < base ∧ base ≤ U.heap.size) := hd_ ⟨C.out.hb.1, hbU⟩
  have hbW : bW < U.heap.size := (C.out.wo.lt bW rfl).2
  have hcw : ∀ i, i < W.length → U.cell? ⟨bW, i, none⟩ = some (.string (wd W i)) := fun i hi => by
   obtain ⟨b9, o9, e9, _, hc9⟩ := wd_at (Rds.of_own C.out.wo) hi
   injection e9 with e9
   injection e9 with e91 e92
   subst e91 e92
   have := hc9 i hi
   rwa [Nat.zero_add] at this
  have n1 := hcw 1 (by have := HLEN.out; omega)
  have n2 := hcw 2 (by have := HLEN.out; omega)
  rw [hX1] at n1
  rw [hX2] at n2
  clear hcw
  go_upto_region 28 with (fail)
  rw [HLEN.out]
  have HLX := HLEN
  clear HLEN
  have hpU : p < U.heap.size := by have := HPB.out; omega
  obtain ⟨hpV, x0, x1, x2, x3, x4, x5, x6, x7⟩ := C.out.m.bx.eight
  have HZ1 : Hid (DkSz d e1) := hd_ ⟨HZ.out.s, HZ.out.n, HZ.out.b, HZ.out.l, own_capD C.out.o.2⟩
  have HS1 : Hid (∀ V, Below U.heap.size U V → DSee V d A1 B1) := hd_ fun V hV => (DOwn.see C.out.o).below hV
  go_region_held3 (fun w' => (U).heap.size ≤ w'.heap.size ∧ ∀ b o, b < (U).heap.size → w'.cell? ⟨b, o, none⟩ = (U).cell? ⟨b, o, none⟩) (exact sm_of bw_) (first | (go_at_call 37; refine (HAT.out A1 B1 c1 e1 _ (HS1.out _ bw_) HZ1.out (HTU.out _ bw_)).mono ?_; rintro r w' ⟨X, n, rfl, ox, gx, rfl⟩))
  clear x0 x1 x2 x3 x4 x5 x6 x7
  have C2 := hd_ (C.out.below (V := up U.drew (gx)) bw_)
  have hbU3 : base ≤ (U.drew).heap.size := Nat.le_trans hbU (show Below U.heap.size U (U.drew) from bw_).size
  have OX : Hid ((up U.drew (gx)).ownsRow base 9 1 (.slice X (R).length n) (R).length (strs R)) := hd_ (om_ ox hbU3)
  refine exit_genD (R := fun U1 => Hid (DC w U1 p q d A1 B1 c1 e1 base W bW cW) ∧ Hid (U1.ownsRow base 9 1 (.slice X (R).length n) (R).length (strs R))) ⟨C2, OX⟩ (fun U1 y => ?_)
  obtain ⟨C3, OX1⟩ := y
  have z := hd_ C3.out.m
  have DO := hd_ C3.out.o
  clear ox C C2 n1 n2 OX hbU3
  have OX := OX1
  obtain ⟨hpV, x0, x1, x2, x3, x4, x5, x6, x7⟩ := z.out.bx.eight
  obtain ⟨hqT, r0, r1, r2, r3, r4, r5, r6, r7⟩ := z.out.rs.eight
  obtain ⟨f0, f1, f2, f3, f4, f5, f6, f7⟩ := z.out.rs.open8
  go_wp2_with fail
  refine post_gen (R := fun W => Blk W q 31 (dkcs (d) A1 B1 c1 e1) ∧ DOwn w.heap.size W (d) A1 B1 c1 e1 ∧ W.ownsRow w.heap.size 9 1 (.slice X R.length n) R.length (strs (R)) ∧ UpOf w W) ⟨blk_put8 z.out.rs _ _ _ _ _ _ _ _, ⟨om_ (oa_ DO.out.1 HBV.out.2.1 _ _ _ _ _ _ _ _) HBV.out.2.2, om_ (oa_ DO.out.2 HBV.out.2.1 _ _ _ _ _ _ _ _) HBV.out.2.2⟩, om_ (oa_ OX.out HBV.out.2.1 _ _ _ _ _ _ _ _) HBV.out.2.2, put8_up z.out.up z.out.hq _ _ _ _ _ _ _ _⟩ (fun W st => ?_)
  obtain ⟨s1, s4, s2, s3⟩ := st
  obtain ⟨hqW, w0, w1, w2, w3, w4, w5, w6, w7⟩ := s1.eight
  clear s1 r0 r1 r2 r3 r4 r5 r6 r7 f0 f1 f2 f3 f4 f5 f6 f7 x0 x1 x2 x3 x4 x5 x6 x7
  exact bodyPost_ret (v := .tuple #[dkv (d) A1 B1 c1 e1, .slice X R.length n, i64 0]) (by simp [results, Tryz.results9, go_sem, hqW, w0, w1, w2, w3, w4, w5, w6, w7]) rfl ⟨_, _, _, _, _, _, rfl, s4, s2, s3⟩
end Go.Proofs.YtbianlkenallaaaGreatDoor

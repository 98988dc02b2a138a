/-
  The reference's console: its method enter. The bounds stand at it.
-/
import Derived.Test.YtbianlkenallaaaGreatDoorConsRA
import Derived.Test.YtbianlkenallaaaGreatDoorMgB
import Derived.Test.YtbianlkenallaaaGreatDoorMgD
set_option linter.all false
set_option maxHeartbeats 4000000
set_option maxRecDepth 10000
namespace Go.Proofs.YtbianlkenallaaaGreatDoor
open Go.RowKit
theorem adR_ok {s : ByteArray} {x : Entry} (h : (adR s x).2 = 0) : nameB x.what = true ∧ (adR s x).1.size ≤ 4000 := by
 by_cases h1 : codeL s = 0
 ·cases h2 : vEntry x with
  | false => rw [adR_7 h1 h2] at h; cases h
  | true =>
   refine ⟨(vEntry_inv h2).2.2.1, ?_⟩
   by_cases h3 : x.day < dayL (entsL s)
   ·rw [adR_6 h1 h2 h3] at h; cases h
   ·by_cases h4 : (s ++ newLine (stL s) x).size ≤ 4000
    ·rw [adR_0 h1 h2 h3 h4]; exact h4
    ·rw [adR_5 h1 h2 h3 h4] at h; cases h
 ·rw [adR_1 h1] at h
  exact absurd h h1
theorem enterM_any (w0 : World) (sb : Nat) (D : DeskD) (A B : Option Addr) (c e : Nat) (O : Option Addr) (oc : Nat) (L : List ByteArray) (NA : Option Addr) (nc : Nat) (ns : List Int) (TA : Option Addr) (tc : Nat) (ts : List ByteArray) (w : World) (h : ME w0 w sb D A B c e O oc L NA nc ns TA tc ts)
  (hl : ns.length = 2) (ht : ts.length = 1) (hs : (wd ts 0).size ≤ 1048576) (hn : L.length ≤ 1000000) (hlg : D.log.size ≤ 1048576) (D9 : DeskD) (L9 : List ByteArray) (n0 n1 : Int) (e0 : num ns 0 = n0) (e1 : num ns 1 = n1)
  (h9 : (if (adR D.log ⟨n0, wd ts 0, n1⟩).2 = 0 then ({ D with log := (adR D.log ⟨n0, wd ts 0, n1⟩).1 }, nmb (sumI (vaR (adR D.log ⟨n0, wd ts 0, n1⟩).1 (wd ts 0)).1, (vaR (adR D.log ⟨n0, wd ts 0, n1⟩).1 (wd ts 0)).2)) else (D, [errL (adR D.log ⟨n0, wd ts 0, n1⟩).2])) = (D9, L9)) :
  Calls Tryz.prog 105 #[.pointer (some ⟨sb, 0, none⟩)] w fun r w' => mePost w0 sb D9 (L ++ L9) r w' := by
 obtain ⟨tb, rfl, htb, hc⟩ := h.txt0 (by omega)
 have c0 := hc 0 (by omega)
 obtain ⟨nb, rfl, hnb, hc'⟩ := h.num0 (by omega)
 have d0 := hc' 0 (by omega)
 have d1 := hc' 1 (by omega)
 rw [e0] at d0
 rw [e1] at d1
 have HM := hd_ h
 obtain ⟨hsb, ⟨x0, x1, x2, x3, x4, x5, x6, x7⟩, -, k9, k10⟩ := h.le.cel
 obtain ⟨s, hs9⟩ : ∃ s, wd ts 0 = s := ⟨_, rfl⟩
 rw [hs9] at c0 hs h9
 have HS9 := hd_ hs9
 clear hs9
 rw [ht] at k10
 rw [hl] at k9
 clear hc h e0 e1 hc'
 have HOK := hd_ (@adR_ok D.log ⟨n0, s, n1⟩)
 have HVD := hd_ (@adR_valid D.log ⟨n0, s, n1⟩)
 obtain ⟨R, hR⟩ : ∃ R, adR D.log ⟨n0, s, n1⟩ = R := ⟨_, rfl⟩
 have HC : Hid (∀ V, Calls Tryz.prog 155 #[.string D.log, .agg #[i64 n0, .string s, i64 n1]] V fun e w' => e = .returned (.tuple #[.string R.1, i64 R.2]) ∧ UpOf V w') := hd_ fun V => by
  have := addEntryS_any D.log ⟨n0, s, n1⟩ V hlg (by show s.size ≤ _; omega)
  rw [hR] at this
  exact this
 rw [hR] at h9 HOK HVD
 obtain ⟨LG, cd⟩ := R
 have HR9 := hd_ h9
 clear hR h9
 go_enter Tryz.func105, Tryz.ntmps105
 by_cases h0 : cd = 0
 ·subst h0
  have hnm := (HOK.out rfl).1
  have hsz : LG.size ≤ 4000 := (HOK.out rfl).2
  have hva : vaR LG s = (vals s (entsL LG), 0) := vaR_0 (HVD.out rfl) hnm
  have h9 := HR9.out
  rw [if_pos rfl, hva] at h9
  have hvb0 := vaR_bd LG s
  obtain ⟨VL, hVL⟩ : ∃ VL, vals s (entsL LG) = VL := ⟨_, rfl⟩
  rw [hva, hVL] at hvb0
  have hvb : VL.length ≤ 4000 ∧ ∀ i, i < VL.length → -1000000000 ≤ num VL i ∧ num VL i ≤ 1000000000 := hvb0
  clear hvb0
  rw [hVL] at h9 hva
  have hsum : -4000000000000 ≤ sumI VL ∧ sumI VL ≤ 4000000000000 := by
   have := sumI'_bd (l := VL) (B := 1000000000) (by omega) hvb.2 VL.length (Nat.le_refl _)
   rw [sumI', List.take_length] at this
   have := hvb.1
   omega
  have HVB := hd_ hvb
  obtain ⟨SV, hSV⟩ : ∃ SV, sumI VL = SV := ⟨_, rfl⟩
  have HSO : Hid (∀ V A1 c1, Rds V 1 A1 VL.length (ics VL) → Calls Tryz.prog 158 #[.slice A1 VL.length c1] V fun e w' => e = .returned (i64 SV) ∧ V = w') := hd_ fun V A1 c1 hr => by
   have := l00Sum_any A1 c1 VL V hr (by have := HVB.out.1; omega) HVB.out.2
   rw [hSV] at this
   exact this
  have HVO : Hid (∀ V, Calls Tryz.prog 156 #[.string LG, .string s] V fun e w' => ∃ A' c', e = .returned (.tuple #[.slice A' VL.length c', i64 0]) ∧ w'.ownsRow V.heap.size 2 1 (.slice A' VL.length c') VL.length (ics VL) ∧ UpOf V w') := hd_ fun V => by
   have := valuesOfS_any LG s V (by omega) (by omega)
   rw [hva] at this
   exact this
  simp only [] at h9
  rw [hSV] at h9 hsum
  injection h9 with h91 h92
  subst h91 h92
  have hrr : nmb (SV, 0) = [dec SV] := rfl
  rw [hrr]
  clear hva hVL hvb hSV hnm hrr HR9 HOK HVD
  go_wp2_with (first | ((with_reducible refine wru ?_); (repeat (go_big_quiet_step (first | (go_at_call 155; exact uq_ (HC.out _))))); refine wqn fun nq => ?_))
  refine (reportR0_any _ _).mono ?_
  rintro r w' ⟨rfl, rfl⟩
  have HL7 := hd_ (HM.out.le.below (V' := up w nq) bw_)
  have HT7 := hd_ (own_below HM.out.tr (show Below w.heap.size w (up w nq) from bw_))
  have f7 := HM.out.le.bk.free 7
  go_upto_region 3 with (fail)
  have HL8 := hd_ (HL7.out.putL LG)
  have HT8 := hd_ (own_set1 HT7.out HL7.out.bk (by decide) 7 (.string LG))
  refine wpg (R := fun V => Hid (LE w0 V sb { D with log := LG } A B c e O oc L (.slice (some ⟨nb, 0, none⟩) ns.length nc) (.slice (some ⟨tb, 0, none⟩) ts.length tc)) ∧ Hid (V.ownsRow w0.heap.size 9 1 (.slice (some ⟨tb, 0, none⟩) ts.length tc) ts.length (strs ts))) ⟨HL8, HT8⟩ (fun V z => ?_)
  obtain ⟨HL9, HT9⟩ := z
  clear HL8 HT8 HL7 HT7 f7 hsb x0 x1 x2 x3 x4 x5 x6 x7 k9 k10 c0 d0 d1 htb hnb HC
  obtain ⟨hsb, -, -, -, k10⟩ := HL9.out.cel
  have c0 := (ws_at (Rds.of_own HT9.out) (i := 0) (by omega)).2
  rw [Nat.zero_add, HS9.out] at c0
  rw [ht] at k10
  go_wp2_with fail
  refine (HVO.out _).mono ?_
  rintro r w' ⟨A', c', rfl, o1, g1, rfl⟩
  go_wp2_with fail
  refine (HSO.out _ A' c' (Rds.of_own o1)).mono ?_
  rintro r w' ⟨rfl, rfl⟩
  clear o1
  go_wp2_with fail
  refine (l01Dec_any SV _ (by omega) (by omega)).mono ?_
  rintro r w' ⟨rfl, g9, rfl⟩
  go_wp2_with fail
  refine (say_any w0 sb { D with log := LG } _ _ _ _ _ _ L _ _ (dec SV) _ (HL9.out.below bw_) hn).mono ?_
  rintro r w' ⟨rfl, hp⟩
  go_wp2_with fail
  go_end0
  exact ⟨rfl, _, _, hp⟩
 ·have h9 := HR9.out
  rw [if_neg h0] at h9
  injection h9 with h91 h92
  subst h92
  have HE9 := hd_ h91
  clear h91 HR9 HOK HVD
  go_wp2_with (first | ((with_reducible refine wru ?_); (repeat (go_big_quiet_step (first | (go_at_call 155; exact uq_ (HC.out _))))); refine wqn fun nq => ?_))
  refine (reportR_any w0 sb D _ _ _ _ _ _ L _ _ cd _ (HM.out.le.below bw_) hn h0).mono ?_
  rintro r w' ⟨rfl, hp⟩
  go_wp2_with fail
  go_end0
  rw [← HE9.out]
  exact ⟨rfl, _, _, hp⟩
end Go.Proofs.YtbianlkenallaaaGreatDoor

/-
  Common parts, put together: DcAll, RunDesk.
-/
import Derived.Test.YtbianlkenallaaaGreatDoorMgK
import Derived.Test.YtbianlkenallaaaGreatDoorDcKN
import Derived.Test.YtbianlkenallaaaGreatDoorDcKT
import Derived.Test.YtbianlkenallaaaGreatDoorDcK5
import Derived.Test.YtbianlkenallaaaGreatDoorDcK11
import Derived.Test.YtbianlkenallaaaGreatDoorMgG
import Derived.Deep.DeepCutAuto
set_option linter.all false
set_option maxHeartbeats 8000000
set_option maxRecDepth 10000
namespace Go.Proofs.YtbianlkenallaaaGreatDoor
open Go.RowKit
def dcPost (o : Option (DeskD × List ByteArray)) (w : World) (r : Ending) (w' : World) : Prop := match o with
 | none => dcNo w r w'
 | some x => dcYes x.1 x.2 w r w'
theorem deskCmd_any {two : List ByteArray → ByteArray × Int} (h2 : TwoOk two) (d : DeskD) (A B : Option Addr) (c e : Nat) (s : ByteArray) (w : World) (hs : s.size ≤ 1048576) (hS : DSee w d A B) (hz : DkSz d e) (hv : vDesk d = true) (ht : Tab w) :
 Calls Tryz.prog 9 #[dkv d A B c e, .string s] w fun r w' => dcPost (doL two d s) w r w' := by
 cases hf : fitK (kindOf (wd (splitA 32 [] s.data.toList) 0)) (splitA 32 [] s.data.toList).length with
 | false =>
   have hd : doL two d s = none := by rw [doL, hf]; rfl
   rw [hd]
   exact dcNo_any d A B c e s w hs hS hz hv ht hf
 | true =>
   have hd : doL two d s = some (doK two d (splitA 32 [] s.data.toList) (kindOf (wd (splitA 32 [] s.data.toList) 0))) := by rw [doL, hf]; rfl
   rw [hd]
   show Calls Tryz.prog 9 #[dkv d A B c e, .string s] w fun r w' => dcYes (doK two d (splitA 32 [] s.data.toList) (kindOf (wd (splitA 32 [] s.data.toList) 0))).1 (doK two d (splitA 32 [] s.data.toList) (kindOf (wd (splitA 32 [] s.data.toList) 0))).2 w r w'
   obtain ⟨W, hW⟩ : ∃ W, splitA 32 [] s.data.toList = W := ⟨_, rfl⟩
   rw [hW] at hf ⊢
   obtain ⟨k, hk⟩ : ∃ k, kindOf (wd W 0) = k := ⟨_, rfl⟩
   have hle := kind_le (wd W 0)
   rw [hk] at hle ⊢
   have h15 : k = 0 ∨ k = 1 ∨ k = 2 ∨ k = 3 ∨ k = 4 ∨ k = 5 ∨ k = 6 ∨ k = 7 ∨ k = 8 ∨ k = 9 ∨ k = 10 ∨ k = 11 ∨ k = 12 ∨ k = 13 ∨ k = 14 := by omega
   rcases h15 with rfl | rfl | rfl | rfl | rfl | rfl | rfl | rfl | rfl | rfl | rfl | rfl | rfl | rfl | rfl
   ·exact dcAlign_any d A B c e s w W hs hS hz hv ht hW hf hk
   ·exact dcKN_any h2 d A B c e s w W hs hS hz hv ht hW hf 1 (by omega) hk
   ·exact dcKT_any h2 d A B c e s w W hs hS hz hv ht hW hf 2 (by omega) hk
   ·exact dcKT_any h2 d A B c e s w W hs hS hz hv ht hW hf 3 (by omega) hk
   ·exact dcList_any d A B c e s w W hs hS hz hv ht hW hf 4 (.inl rfl) hk _ fun A1 B1 c1 e1 V h1 h2 h3 => listDrills_any d A1 B1 c1 e1 _ V h1 h2 hk h3
   ·exact dcK5_any h2 d A B c e s w W hs hS hz hv ht hW hf hk
   ·exact dcKN_any h2 d A B c e s w W hs hS hz hv ht hW hf 6 (by omega) hk
   ·have e7 : doK two d W 7 = (d, lineR d.drills (wd W 1) (wd W 2)) := by
     simp only [doK, lineR]
     cases numB (wd W 2) with
     | false => rfl
     | true => cases findD d.drills (wd W 1) <;> rfl
    rw [e7]
    exact dcK7_any h2 d A B c e s w W hs hS hz hv ht hW hf hk
   ·exact dcList_any d A B c e s w W hs hS hz hv ht hW hf 8 (.inr rfl) hk _ fun A1 B1 c1 e1 V h1 h2 h3 => listLog_any d A1 B1 c1 e1 _ V h2 hk hv h3
   ·exact dcMark_any d A B c e s w W hs hS hz hv ht hW hf hk
   ·exact dcKT_any h2 d A B c e s w W hs hS hz hv ht hW hf 10 (by omega) hk
   ·have e11 : doK two d W 11 = (d, if numB (wd W 1) then sent (setR (wordsA [] (restW W 2).data.toList) (sval (wd W 1))) else [errL 7]) := by
     simp only [doK]
     cases numB (wd W 1) <;> rfl
    rw [e11]
    exact dcK11_any h2 d A B c e s w W hs hS hz hv ht hW hf hk
   ·exact dcKN_any h2 d A B c e s w W hs hS hz hv ht hW hf 12 (by omega) hk
   ·exact dcKN_any h2 d A B c e s w W hs hS hz hv ht hW hf 13 (by omega) hk
   ·rw [hk] at hf
    simp [fitK] at hf
structure RK (w V : World) (p : Nat) (D : DeskD) (A1 B1 : Option Addr) (c1 e1 : Nat) (A : Option Addr) (c : Nat) (O : List UInt8) : Prop where
 bx : Blk V p 31 (dkcs D A1 B1 c1 e1)
 dw : DOwn w.heap.size V D A1 B1 c1 e1
 ow : V.ownsRow w.heap.size 5 1 (.slice A O.length c) O.length (Lib.byteCells O)
 up : UpOf w V
 hp : w.heap.size ≤ p
section
variable {w V V' : World} {p : Nat} {D : DeskD} {A1 B1 : Option Addr} {c1 e1 : Nat} {A : Option Addr} {c : Nat} {O : List UInt8}
theorem RK.below (h : RK w V p D A1 B1 c1 e1 A c O) (hb : Below V.heap.size V V') : RK w V' p D A1 B1 c1 e1 A c O :=
 ⟨h.bx.up ⟨V', hb⟩, ⟨own_below h.dw.1 hb, own_below h.dw.2 hb⟩, own_below h.ow hb, h.up.tr hb, h.hp⟩
theorem RK.app {A' : Option Addr} {c' : Nat} {O' : List UInt8} (h : RK w V p D A1 B1 c1 e1 A c O) (hg : V.grownBy V' (Value.slice A O.length c).ownBlock)
 (ho : V'.ownsRow w.heap.size 5 1 (.slice A' O'.length c') O'.length (Lib.byteCells O')) : RK w V' p D A1 B1 c1 e1 A' c' O' :=
 ⟨h.bx.grown hg (blk_tne h.bx h.ow (by decide)), ⟨h.dw.1.kept hg (own_tne h.dw.1 h.ow (by decide)), h.dw.2.kept hg (own_tne h.dw.2 h.ow (by decide))⟩, ho,
  up_of_grown h.up.below hg fun k hk => (h.ow.lt k hk).1, h.hp⟩
theorem RK.put {D' : DeskD} {A' B' : Option Addr} {c' e' : Nat} (h : RK w V p D A1 B1 c1 e1 A c O) (hd : DOwn w.heap.size V D' A' B' c' e') :
 RK w (put8 V p (i64 D'.b.bars) (i64 D'.b.rise) (i64 D'.b.fall) (i64 D'.b.clr) (i64 D'.b.near) (.slice A' D'.stops.length c') (.slice B' D'.drills.length e') (.string D'.log)) p D' A' B' c' e' A c O :=
 ⟨blk_all8 h.bx _ _ _ _ _ _ _ _, ⟨own_put8 hd.1 h.bx (by decide) _ _ _ _ _ _ _ _, own_put8 hd.2 h.bx (by decide) _ _ _ _ _ _ _ _⟩, own_put8 h.ow h.bx (by decide) _ _ _ _ _ _ _ _, put8_up h.up h.hp _ _ _ _ _ _ _ _, h.hp⟩
theorem RK.rows {X : Option Addr} {n : Nat} {L : List ByteArray} (h : RK w V p D A1 B1 c1 e1 A c O) (hg : V.grownBy V' (Value.slice A O.length c).ownBlock)
 (hx : V.ownsRow w.heap.size 9 1 (.slice X L.length n) L.length (strs L)) : V'.ownsRow w.heap.size 9 1 (.slice X L.length n) L.length (strs L) := hx.kept hg (own_tne hx h.ow (by decide))
end
theorem outB_drop {L : List ByteArray} {j : Nat} (h : j < L.length) : outB (L.drop j) = (wd L j).data.toList ++ [10] ++ outB (L.drop (j + 1)) := by
 rw [List.drop_eq_getElem_cons h, outB_cons, wd_eq h]
theorem outB_ge : ∀ l : List ByteArray, l.length ≤ (outB l).length
 | [] => by simp
 | x :: l => by
   have := outB_ge l
   rw [outB_cons, List.length_append, List.length_append, List.length_cons, List.length_singleton]
   omega
theorem runDesk_any {two : List ByteArray → ByteArray × Int} (h2 : TwoOk two) (s : ByteArray) (w : World) (hs : s.size ≤ 1048576) (ht : Tab w) :
 Calls Tryz.prog 12 #[.string s] w fun e w' => e = .returned (.string (runR two s)) ∧ UpOf w w' := by
 have HT := hd_ ht
 obtain ⟨FIN, hFIN⟩ : ∃ F, runL two 60 dk0 (linesOf s) = F := ⟨_, rfl⟩
 have hRR : runR two s = ⟨FIN.toArray⟩ := by rw [runR, hFIN]
 rw [hRR]
 have HFIN0 := hd_ hFIN
 clear hRR hFIN ht
 go_enter Tryz.func12, Tryz.ntmps12
 go_upto_region 2 with (go_at_call 8; refine (newDeskI_any _).mono ?_; rintro r w' ⟨rfl, g0, rfl⟩; have hB9 : Blk (up w ((g0.al (.cells #[] 5)).al (.cells zc 31))) ((up w g0).heap.size + 1) 31 zc := blk_new1' _ _ _ _; obtain ⟨hp9, x0, x1, x2, x3, x4, x5, x6, x7⟩ := hB9.eight; obtain ⟨f0, f1, f2, f3, f4, f5, f6, f7⟩ := hB9.open8)
 obtain ⟨p, hp⟩ : ∃ p, (up w g0).heap.size + 1 = p := ⟨_, rfl⟩
 have hb0 : Blk ((((up w g0).alloc (.cells #[] 5)).alloc (.cells zc 31))) p 31 zc := by
  rw [← hp]; exact blk_new1' _ _ _ _
 have ho0 : ((((up w g0).alloc (.cells #[] 5)).alloc (.cells zc 31))).ownsRow w.heap.size 5 1 (.slice (some ⟨(up w g0).heap.size, 0, none⟩) 0 0) 0 [] := own_below (World.ownsRow_lit (base := w.heap.size) (e := 5) (size := 1) (up w g0) #[] 0 (up_below w g0).size (by unfold maxLen; omega) rfl) (bl_alloc (Below.refl _ _) _)
 have hpw : w.heap.size ≤ p := by have := (up_below w g0).size; omega
 have hu0 : UpOf w ((((up w g0).alloc (.cells #[] 5)).alloc (.cells zc 31))) := uw_
 have RK0 := hd_ (show RK w (put8 ((((up w g0).alloc (.cells #[] 5)).alloc (.cells zc 31))) p (i64 dk0.b.bars) (i64 dk0.b.rise) (i64 dk0.b.fall) (i64 dk0.b.clr) (i64 dk0.b.near) (.slice none dk0.stops.length 0) (.slice none dk0.drills.length 0) (.string dk0.log)) p dk0 none none 0 0 (some ⟨(up w g0).heap.size, 0, none⟩) 0 [] from
  ⟨blk_all8 hb0 _ _ _ _ _ _ _ _, ⟨own_put8 ⟨rfl, .inl ⟨rfl, rfl⟩⟩ hb0 (by decide) _ _ _ _ _ _ _ _, own_put8 ⟨rfl, .inl ⟨rfl, rfl⟩⟩ hb0 (by decide) _ _ _ _ _ _ _ _⟩, own_put8 ho0 hb0 (by decide) _ _ _ _ _ _ _ _, put8_up hu0 hpw _ _ _ _ _ _ _ _, hpw⟩)
 refine wpg (R := fun U => Hid (RK w U p dk0 none none 0 0 (some ⟨(up w g0).heap.size, 0, none⟩) 0 [])) (by rw [hp]; exact RK0) (fun U HK0 => ?_)
 generalize (some (⟨(up w g0).heap.size, 0, none⟩ : Addr)) = A0 at HK0 ⊢
 rw [hp]
 clear RK0 hu0 hpw ho0 hb0 hp hB9 hp9 x0 x1 x2 x3 x4 x5 x6 x7 f0 f1 f2 f3 f4 f5 f6 f7 g0
 go_wp2_with fail
 go_loopw [0, 4, 5] (fun tx o k wr => ∃ (T : ByteArray) (A : Option Addr) (c : Nat) (O : List UInt8) (n : Nat) (D : DeskD) (A1 B1 : Option Addr) (c1 e1 : Nat), tx = .string T ∧ o = .slice A O.length c ∧ k = i64 n ∧ n ≤ 60 ∧ T.size ≤ 1048576 ∧ Hid (O.length ≤ 500000 * n) ∧ Hid (vDesk D = true) ∧ Hid (FIN = O ++ runL two (60 - n) D (linesOf T)) ∧ Hid (RK w wr p D A1 B1 c1 e1 A c O)) (fun _ _ k _ => 61 - (intOf k).toNat)
 case atStart => exact ⟨s, A0, 0, [], 0, dk0, none, none, 0, 0, rfl, rfl, rfl, by omega, hs, hd_ (by simp), hd_ dk0_ok, hd_ (by rw [HFIN0.out]; rfl), HK0⟩
 case round =>
  obtain ⟨T, A, c, O, n, D, A1, B1, c1, e1, rfl, rfl, rfl, hn, hT, HOS, HV, HFIN, HK⟩ := hrel
  clear HK0 HFIN0
  by_cases hT0 : T.size = 0
  ·have he := isEmpty_yes hT0
   have hT1 : T = ⟨#[]⟩ := ba_ext (by
    have : T.data.toList = [] := List.eq_nil_of_length_eq_zero (by rw [bsz]; exact hT0)
    rw [this])
   have hF : Hid (FIN = O) := hd_ (by
    have := HFIN.out
    rw [hT1, linesOf_nil] at this
    rw [this]
    unfold runL
    simp)
   have cv := conv_own (w := wr) (w1 := wr) HK.out.ow rfl (Below.refl _ _)
   clear hT1
   go_wp2_with fail
   go_ret
   rw [hF.out]
   exact ⟨rfl, HK.out.up⟩
  ·have he := isEmpty_no (s := T) (by omega)
   by_cases hn60 : n = 60
   ·subst hn60
    have hF : Hid (FIN = O ++ outB [errL 5]) := hd_ (by
     rw [HFIN.out]
     refine congrArg _ ?_
     cases hl : linesOf T with
     | nil =>
       exfalso
       cases hc : (cutA 10 [] T.data.toList).2.2 with
       | true => rw [linesOf_cut hc] at hl; cases hl
       | false => rw [linesOf_last hc (fun e => hT0 (by rw [← bsz, e]; rfl))] at hl; cases hl
     | cons x l => rfl)
    have cv := conv_own (w := wr) (w1 := wr) HK.out.ow rfl (Below.refl _ _)
    have hOl := HOS.out
    have es : ∀ V, (Op.stringOp .add (⟨O.toArray⟩ : ByteArray) ⟨#[101, 114, 114, 111, 114, 32, 102, 117, 108, 108, 10]⟩).run Tryz.prog V = .ok (.string ((⟨O.toArray⟩ : ByteArray) ++ ⟨#[101, 114, 114, 111, 114, 32, 102, 117, 108, 108, 10]⟩)) V := fun V => run_string_add_sum V _ _ (by rw [bs_sz]; have : (⟨#[101, 114, 114, 111, 114, 32, 102, 117, 108, 108, 10]⟩ : ByteArray).size = 11 := rfl; omega)
    clear hOl
    go_wp2_with fail
    go_ret
    refine ⟨?_, HK.out.up⟩
    rw [hF.out]
    refine congrArg Ending.returned (congrArg Value.string (ba_ext ?_))
    simp [ByteArray.data_append]
    rfl
   ·have hn59 : n < 60 := by omega
    have hnb : ((n : Int) == 60) = false := by rw [beq_eq_false_iff_ne]; omega
    have HN60 := hd_ hn59
    obtain ⟨X0, hX0⟩ : ∃ X, (cutA 10 [] T.data.toList).1 = X := ⟨_, rfl⟩
    obtain ⟨T2, hT2⟩ : ∃ X, (cutA 10 [] T.data.toList).2.1 = X := ⟨_, rfl⟩
    obtain ⟨F, hF⟩ : ∃ X, (cutA 10 [] T.data.toList).2.2 = X := ⟨_, rfl⟩
    have HCUT : Hid (∀ V, Calls Tryz.prog 42 #[.string T, .string ⟨#[10]⟩] V fun e w' => e = .returned (.tuple #[.string X0, .string T2, .bool F]) ∧ UpOf V w') := hd_ fun V => by
     have := cut_any T ⟨#[10]⟩ 10 rfl V (by omega)
     rw [hX0, hT2, hF] at this
     exact this
    have hsz := cutA_size 10 T.data.toList []
    rw [hX0, hT2, bsz] at hsz
    simp only [List.length_nil, Nat.zero_add] at hsz
    obtain ⟨hX0s, hT2s⟩ := hsz
    have HL : Hid (linesOf T = X0 :: linesOf T2) := hd_ (by
     cases F with
     | true => rw [linesOf_cut hF, hX0, hT2]
     | false =>
       have h9 := cutA_none _ (cutA_no 10 _ _ hF)
       rw [h9] at hX0 hT2
       rw [linesOf_last hF (fun e => hT0 (by rw [← bsz, e]; rfl)), ← hX0, ← hT2, bs_of]
       rfl)
    have HXT : Hid ((F = true ∧ ¬ X0 = T) ∨ (F = false ∧ X0 = T ∧ T2 = ⟨#[]⟩)) := hd_ (by
     cases F with
     | true =>
       refine .inl ⟨rfl, fun e => ?_⟩
       have h9 := congrArg List.length (cut_split hF).1
       rw [List.length_append, List.length_cons, hX0, e] at h9
       omega
     | false =>
       have h9 := cutA_none _ (cutA_no 10 _ _ hF)
       rw [h9] at hX0 hT2
       exact .inr ⟨rfl, by rw [← hX0, bs_of], hT2.symm⟩)
    clear hX0 hT2 hF
    go_upto_if 33 with (go_at_call 42; refine (HCUT.out _).mono ?_; rintro r w' ⟨rfl, g1, rfl⟩)
    have HK1 := hd_ (HK.out.below (up_below wr g1))
    go_cut [7] (fun z V => z = .string T2 ∧ Hid (RK w V p D A1 B1 c1 e1 A c O))
    case first =>
     rcases HXT.out with ⟨hF9, hne⟩ | ⟨hF9, he2, hT9⟩
     ·have hq := tl_tne hne
      clear hF9 hne
      rw [hq]
      go_wp2_with fail
      go_meet
      exact ⟨rfl, HK1⟩
     ·have hq := tl_teq he2
      have HT9 := hd_ hT9
      clear hF9 he2 hT9
      rw [hq]
      go_wp2_with fail
      go_meet
      exact ⟨by rw [HT9.out], HK1⟩
    case rest =>
     obtain ⟨rfl, HK2⟩ := hcut
     clear HK HK1 HCUT HXT he hT0
     obtain ⟨hpV, x0, x1, x2, x3, x4, x5, x6, x7⟩ := HK2.out.bx.eight
     have HDC := hd_ (deskCmd_any h2 D A1 B1 c1 e1 X0 wc (by omega) (DOwn.see HK2.out.dw) (dkSz_of HV.out (own_capD HK2.out.dw.2)) HV.out (HT.out.below HK2.out.up.below))
     have HEQ0 : Hid (runL two (60 - n) D (linesOf T) = runL two (59 - n + 1) D (X0 :: linesOf T2)) := hd_ (by rw [HL.out, show 60 - n = 59 - n + 1 by omega])
     clear HL
     cases hdo : doL two D X0 with
     | none =>
       obtain ⟨L2, hL2⟩ : ∃ L : List ByteArray, L = [⟨#[63]⟩] := ⟨_, rfl⟩
       have HEQ : Hid (runL two (60 - n) D (linesOf T) = outB L2 ++ runL two (60 - (n + 1)) D (linesOf T2)) := hd_ (by
        rw [HEQ0.out, hL2, show 60 - (n + 1) = 59 - n by omega, runL, hdo])
       have HSZ : Hid (szB L2) := hd_ (by rw [hL2]; exact szB_one (by decide))
       have HV2 := HV
       clear HEQ0
       go_wp2_with fail
       refine HDC.out.mono ?_
       rintro r w' hr
       rw [hdo] at hr
       obtain ⟨rfl, g2, rfl⟩ := hr
       go_upto_if 43 with (fail)
       refine wpg (R := fun U => Hid (RK w U p D A1 B1 c1 e1 A c O)) (hd_ (HK2.out.below bw_)) (fun U HK3 => ?_)
       generalize (up wc g2).heap.size = q9
       clear HDC HK2 x0 x1 x2 x3 x4 x5 x6 x7 hpV g2
       go_cut [10] (fun z V => ∃ X nX, z = .slice X L2.length nX ∧ Hid (RK w V p D A1 B1 c1 e1 A c O) ∧ Hid (V.ownsRow w.heap.size 9 1 (.slice X L2.length nX) L2.length (strs L2)))
       case first =>
        go_wp2_with fail
        go_meet
        exact ⟨some ⟨U.heap.size, 0, none⟩, 1, by rw [hL2]; rfl, hd_ (HK3.out.below bw_), hd_ (by rw [hL2]; exact World.ownsRow_lit (base := w.heap.size) (e := 9) (size := 1) U #[.string ⟨#[63]⟩] 1 HK3.out.up.below.size (by unfold maxLen; omega) rfl)⟩
       case rest =>
        clear HK3 hL2
        obtain ⟨X, nX, rfl, HK, HX⟩ := hcut
        have hL2n : L2.length ≤ 500000 := Nat.le_trans (outB_ge L2) HSZ.out
        go_wp2_with fail
        go_loopw [4, 48] (fun o k wr => ∃ (j : Nat) (A' : Option Addr) (c' : Nat) (O' : List UInt8), j ≤ L2.length ∧ k = i64 j ∧ o = .slice A' O'.length c' ∧ Hid (O' ++ outB (L2.drop j) = O ++ outB L2) ∧ Hid (RK w wr p (D) A1 B1 c1 e1 A' c' O') ∧ Hid (wr.ownsRow w.heap.size 9 1 (.slice X L2.length nX) L2.length (strs L2))) (fun _ k _ => L2.length - (intOf k).toNat)
        case atStart => exact ⟨0, A, c, O, by omega, rfl, rfl, hd_ rfl, HK, HX⟩
        case round =>
         obtain ⟨j, A', c', O', hj, rfl, rfl, HE, HKr, HXr⟩ := hrel
         clear HK HX
         by_cases hlt : j < L2.length
         ·have hlt' : (j : Int) < (L2.length : Int) := by omega
          obtain ⟨bX, oX, rfl, hbX, hcX⟩ := wd_at (Rds.of_own HXr.out) hlt
          have hc0 := hcX j hlt
          have hE2 := HE.out
          rw [outB_drop hlt, ← List.append_assoc, ← List.append_assoc] at hE2
          have HEN := hd_ hE2
          have hsz : O'.length + (wd L2 j).size + 1 ≤ 100000000 := by
           have h1 := congrArg List.length hE2
           simp only [List.length_append, List.length_singleton, bsz] at h1
           have h2 := HSZ.out
           simp only [szB] at h2
           have h3 := HOS.out
           have h4 := HN60.out
           omega
          clear hE2 hcX
          obtain ⟨S, hS⟩ : ∃ S, wd L2 j = S := ⟨_, rfl⟩
          rw [hS] at hc0 hsz HEN
          clear hS
          go_wp2_with (first | (at_builtin; (refine wpl_appG rfl _ _ 22 9 rfl w.heap.size 5 el_byte Tryz.underlying9 A' c' O' rfl HKr.out.ow S rfl (by omega) HKr.out.up.below.size ?_); intro A3 c3 O3 W3 HO3 o3 g3; have HK3 := hd_ (HKr.out.app g3 o3); have HX3 := hd_ (HKr.out.rows g3 HXr.out); clear o3 g3 hc0) | (at_builtin; go_must (refine wpl_app rfl _ _ 22 rfl w.heap.size 5 (.int .u8 0) 1 1 el_byte (.slice A3 O3.length c3) O3.length (Lib.byteCells O3) rfl ((HK3.out.below (bl_alloc (Below.refl _ _) _)).ow) (some ⟨W3.heap.size, 0, none⟩) 1 1 [.int .u8 10] rfl (rds_new _ #[.int .u8 10] _ 1 1 rfl) (fun u hu => by simp at hu; subst hu; rfl) (by unfold maxLen; have h9 := congrArg List.length HO3.out; rw [List.length_append, bsz] at h9; omega) (by have h9 := congrArg List.length HO3.out; rw [List.length_append, bsz] at h9; omega) ((HK3.out.below (bl_alloc (Below.refl _ _) _)).up.below.size) ?_); intro A4 c4 W4 o4 g4))
          have HK4 := hd_ (show RK w W4 p (D) A1 B1 c1 e1 A4 c4 (O3 ++ [10]) from (HK3.out.below (bl_alloc (Below.refl _ _) _)).app g4 (by simpa [Lib.byteCells] using o4))
          have HX4 := hd_ ((HK3.out.below (bl_alloc (Below.refl _ _) _)).rows g4 (own_below HX3.out (bl_alloc (Below.refl _ _) _)))
          go_roundw
          case rel => exact ⟨j + 1, A4, c4, O3 ++ [10], by omega, by go_num, by rw [List.length_append]; rfl, hd_ (by rw [HO3.out]; exact HEN.out), HK4, HX4⟩
          case measure => (simp [intOf]; try omega)
         ·obtain rfl : j = L2.length := by omega
          have hE2 := HE.out
          rw [List.drop_length] at hE2
          have hE3 : O' = O ++ outB L2 := by rw [← hE2]; simp [outB]
          have HO' := hd_ hE3
          clear hE2 hE3
          go_wp2_with fail
          go_roundw
          case rel => exact ⟨T2, A', c', O', n + 1, D, A1, B1, c1, e1, rfl, rfl, by go_num, by omega, by omega, hd_ (by
           rw [HO'.out, List.length_append]
           have h2 := HSZ.out
           simp only [szB] at h2
           have h3 := HOS.out
           omega), HV2, hd_ (by rw [HFIN.out, HO'.out, List.append_assoc]; exact congrArg _ HEQ.out), HKr⟩
          case measure => (simp [intOf]; try omega)
     | some R =>
       obtain ⟨D2, L2⟩ := R
       have HEQ : Hid (runL two (60 - n) D (linesOf T) = outB L2 ++ runL two (60 - (n + 1)) D2 (linesOf T2)) := hd_ (by
        rw [HEQ0.out, show 60 - (n + 1) = 59 - n by omega, runL, hdo])
       have HSZ : Hid (szB L2) := hd_ (doL_size h2 HV.out hdo)
       have HV2 : Hid (vDesk D2 = true) := hd_ (doL_ok two HV.out hdo).1
       clear HEQ0
       go_wp2_with fail
       refine HDC.out.mono ?_
       rintro r w' hr
       rw [hdo] at hr
       obtain ⟨A2, B2, c2, e2, X2, nX2, rfl, do2, ox, g2, rfl⟩ := hr
       have hle := HK2.out.up.below.size
       have HDO := hd_ (show DOwn w.heap.size (up wc g2) D2 A2 B2 c2 e2 from ⟨own_mono do2.1 hle, own_mono do2.2 hle⟩)
       have HOX := hd_ (own_mono ox hle)
       obtain ⟨q, hq⟩ : ∃ q, (up wc g2).heap.size = q := ⟨_, rfl⟩
       have hbq : Blk ((up wc g2).alloc (.cells (dkcs D2 A2 B2 c2 e2) 31)) q 31 (dkcs D2 A2 B2 c2 e2) := by rw [← hq]; exact Blk.new _ _ _
       have HBQ := hd_ hbq
       have HQ := hd_ hq
       clear do2 ox hbq hle hq
       go_upto_if 43 with (fail)
       refine wpg (R := fun U => Hid (RK w U p D A1 B1 c1 e1 A c O) ∧ Hid (Blk U q 31 (dkcs D2 A2 B2 c2 e2)) ∧ Hid (DOwn w.heap.size U D2 A2 B2 c2 e2) ∧ Hid (U.ownsRow w.heap.size 9 1 (.slice X2 L2.length nX2) L2.length (strs L2))) ⟨hd_ (HK2.out.below bw_), HBQ, hd_ ⟨own_below HDO.out.1 bw_, own_below HDO.out.2 bw_⟩, hd_ (own_below HOX.out bw_)⟩ (fun U y => ?_)
       rw [HQ.out]
       obtain ⟨HK3, HBQ3, HD3, HX3⟩ := y
       clear HDC HK2 x0 x1 x2 x3 x4 x5 x6 x7 hpV HDO HOX HBQ HQ g2
       go_cut [10] (fun z V => ∃ X nX, z = .slice X L2.length nX ∧ Hid (RK w V p D2 A2 B2 c2 e2 A c O) ∧ Hid (V.ownsRow w.heap.size 9 1 (.slice X L2.length nX) L2.length (strs L2)))
       case first =>
        obtain ⟨hpV, x0, x1, x2, x3, x4, x5, x6, x7⟩ := HK3.out.bx.eight
        obtain ⟨f0, f1, f2, f3, f4, f5, f6, f7⟩ := HK3.out.bx.open8
        obtain ⟨hqV, y0, y1, y2, y3, y4, y5, y6, y7⟩ := HBQ3.out.eight
        go_wp2_with fail
        go_meet
        exact ⟨X2, nX2, rfl, hd_ (HK3.out.put HD3.out), hd_ (own_put8 HX3.out HK3.out.bx (by decide) _ _ _ _ _ _ _ _)⟩
       case rest =>
        clear HK3 HBQ3 HD3 HX3
        obtain ⟨X, nX, rfl, HK, HX⟩ := hcut
        have hL2n : L2.length ≤ 500000 := Nat.le_trans (outB_ge L2) HSZ.out
        go_wp2_with fail
        go_loopw [4, 48] (fun o k wr => ∃ (j : Nat) (A' : Option Addr) (c' : Nat) (O' : List UInt8), j ≤ L2.length ∧ k = i64 j ∧ o = .slice A' O'.length c' ∧ Hid (O' ++ outB (L2.drop j) = O ++ outB L2) ∧ Hid (RK w wr p (D2) A2 B2 c2 e2 A' c' O') ∧ Hid (wr.ownsRow w.heap.size 9 1 (.slice X L2.length nX) L2.length (strs L2))) (fun _ k _ => L2.length - (intOf k).toNat)
        case atStart => exact ⟨0, A, c, O, by omega, rfl, rfl, hd_ rfl, HK, HX⟩
        case round =>
         obtain ⟨j, A', c', O', hj, rfl, rfl, HE, HKr, HXr⟩ := hrel
         clear HK HX
         by_cases hlt : j < L2.length
         ·have hlt' : (j : Int) < (L2.length : Int) := by omega
          obtain ⟨bX, oX, rfl, hbX, hcX⟩ := wd_at (Rds.of_own HXr.out) hlt
          have hc0 := hcX j hlt
          have hE2 := HE.out
          rw [outB_drop hlt, ← List.append_assoc, ← List.append_assoc] at hE2
          have HEN := hd_ hE2
          have hsz : O'.length + (wd L2 j).size + 1 ≤ 100000000 := by
           have h1 := congrArg List.length hE2
           simp only [List.length_append, List.length_singleton, bsz] at h1
           have h2 := HSZ.out
           simp only [szB] at h2
           have h3 := HOS.out
           have h4 := HN60.out
           omega
          clear hE2 hcX
          obtain ⟨S, hS⟩ : ∃ S, wd L2 j = S := ⟨_, rfl⟩
          rw [hS] at hc0 hsz HEN
          clear hS
          go_wp2_with (first | (at_builtin; (refine wpl_appG rfl _ _ 22 9 rfl w.heap.size 5 el_byte Tryz.underlying9 A' c' O' rfl HKr.out.ow S rfl (by omega) HKr.out.up.below.size ?_); intro A3 c3 O3 W3 HO3 o3 g3; have HK3 := hd_ (HKr.out.app g3 o3); have HX3 := hd_ (HKr.out.rows g3 HXr.out); clear o3 g3 hc0) | (at_builtin; go_must (refine wpl_app rfl _ _ 22 rfl w.heap.size 5 (.int .u8 0) 1 1 el_byte (.slice A3 O3.length c3) O3.length (Lib.byteCells O3) rfl ((HK3.out.below (bl_alloc (Below.refl _ _) _)).ow) (some ⟨W3.heap.size, 0, none⟩) 1 1 [.int .u8 10] rfl (rds_new _ #[.int .u8 10] _ 1 1 rfl) (fun u hu => by simp at hu; subst hu; rfl) (by unfold maxLen; have h9 := congrArg List.length HO3.out; rw [List.length_append, bsz] at h9; omega) (by have h9 := congrArg List.length HO3.out; rw [List.length_append, bsz] at h9; omega) ((HK3.out.below (bl_alloc (Below.refl _ _) _)).up.below.size) ?_); intro A4 c4 W4 o4 g4))
          have HK4 := hd_ (show RK w W4 p (D2) A2 B2 c2 e2 A4 c4 (O3 ++ [10]) from (HK3.out.below (bl_alloc (Below.refl _ _) _)).app g4 (by simpa [Lib.byteCells] using o4))
          have HX4 := hd_ ((HK3.out.below (bl_alloc (Below.refl _ _) _)).rows g4 (own_below HX3.out (bl_alloc (Below.refl _ _) _)))
          go_roundw
          case rel => exact ⟨j + 1, A4, c4, O3 ++ [10], by omega, by go_num, by rw [List.length_append]; rfl, hd_ (by rw [HO3.out]; exact HEN.out), HK4, HX4⟩
          case measure => (simp [intOf]; try omega)
         ·obtain rfl : j = L2.length := by omega
          have hE2 := HE.out
          rw [List.drop_length] at hE2
          have hE3 : O' = O ++ outB L2 := by rw [← hE2]; simp [outB]
          have HO' := hd_ hE3
          clear hE2 hE3
          go_wp2_with fail
          go_roundw
          case rel => exact ⟨T2, A', c', O', n + 1, D2, A2, B2, c2, e2, rfl, rfl, by go_num, by omega, by omega, hd_ (by
           rw [HO'.out, List.length_append]
           have h2 := HSZ.out
           simp only [szB] at h2
           have h3 := HOS.out
           omega), HV2, hd_ (by rw [HFIN.out, HO'.out, List.append_assoc]; exact congrArg _ HEQ.out), HKr⟩
          case measure => (simp [intOf]; try omega)
end Go.Proofs.YtbianlkenallaaaGreatDoor

/-
  The reference's console: the words of a command. The bounds stand at each.
-/
import Derived.Test.YtbianlkenallaaaGreatDoorMgG
import Derived.Test.YtbianlkenallaaaGreatDoorMgB
import Derived.Test.YtbianlkenallaaaGreatDoorCodeT4
set_option linter.all false
set_option maxHeartbeats 8000000
set_option maxRecDepth 10000
namespace Go.Proofs.YtbianlkenallaaaGreatDoor
open Go.RowKit
section
variable {w0 w V V' : World} {sb : Nat} {D : DeskD} {A B O : Option Addr} {c e oc : Nat} {L : List ByteArray} {x y : Value}
theorem LE.kept {row : Option Nat} (h : LE w0 V sb D A B c e O oc L x y) (hg : V.grownBy V' row) (hr : ∀ k, row = some k → w0.heap.size ≤ k) (h1 : some sb ≠ row) (h2 : (Value.slice A D.stops.length c).ownBlock = none ∨ (Value.slice A D.stops.length c).ownBlock ≠ row)
 (h3 : (Value.slice B D.drills.length e).ownBlock = none ∨ (Value.slice B D.drills.length e).ownBlock ≠ row) (h4 : (Value.slice O L.length oc).ownBlock = none ∨ (Value.slice O L.length oc).ownBlock ≠ row) : LE w0 V' sb D A B c e O oc L x y :=
 ⟨h.bk.grown hg h1, ⟨h.dw.1.kept hg h2, h.dw.2.kept hg h3⟩, h.ow.kept hg h4, h.up.grown hg hr, h.lo⟩
theorem LE.put9 (h : LE w0 V sb D A B c e O oc L x y) (u : Value) : LE w0 (V.setCell ⟨sb, 9, none⟩ u) sb D A B c e O oc L u y :=
 ⟨h.bk.put 9 u, ⟨own_set1 h.dw.1 h.bk (by decide) 9 u, own_set1 h.dw.2 h.bk (by decide) 9 u⟩, own_set1 h.ow h.bk (by decide) 9 u, h.up.set 9 u, h.lo⟩
theorem LE.put10 (h : LE w0 V sb D A B c e O oc L x y) (u : Value) : LE w0 (V.setCell ⟨sb, 10, none⟩ u) sb D A B c e O oc L x u :=
 ⟨h.bk.put 10 u, ⟨own_set1 h.dw.1 h.bk (by decide) 10 u, own_set1 h.dw.2 h.bk (by decide) 10 u⟩, own_set1 h.ow h.bk (by decide) 10 u, h.up.set 10 u, h.lo⟩
end
theorem far_ne {w V : World} {B e size n : Nat} {v : Value} {xs : List Value} {row : Option Nat} (h : V.ownsRow B e size v n xs) (hv : ∀ k, v.ownBlock = some k → k < w.heap.size) (hr : ∀ k, row = some k → w.heap.size ≤ k) : v.ownBlock = none ∨ v.ownBlock ≠ row := by
 cases hb : v.ownBlock with
 | none => exact .inl rfl
 | some k =>
   refine .inr fun e => ?_
   have h1 := hv k hb
   have h2 := hr k e.symm
   omega
structure WS (w0 w V : World) (sb : Nat) (D : DeskD) (A B : Option Addr) (c e : Nat) (O : Option Addr) (oc : Nat) (L : List ByteArray) (X : Option Addr) (xc : Nat) (W : List ByteArray) (NA : Option Addr) (nc : Nat) (ns : List Int) (TA : Option Addr) (tc : Nat) (ts : List ByteArray) : Prop where
 le : LE w0 V sb D A B c e O oc L (.slice NA ns.length nc) (.slice TA ts.length tc)
 nw : V.ownsRow w.heap.size 2 1 (.slice NA ns.length nc) ns.length (ics ns)
 tw : V.ownsRow w.heap.size 9 1 (.slice TA ts.length tc) ts.length (strs ts)
 xw : V.ownsRow w0.heap.size 9 1 (.slice X W.length xc) W.length (strs W)
 oA : ∀ k, (Value.slice A D.stops.length c).ownBlock = some k → k < w.heap.size
 oO : ∀ k, (Value.slice O L.length oc).ownBlock = some k → k < w.heap.size
 oX : ∀ k, (Value.slice X W.length xc).ownBlock = some k → k < w.heap.size
 lt : w0.heap.size ≤ w.heap.size
 big : w.heap.size ≤ V.heap.size
section
variable {w0 w V V' : World} {sb : Nat} {D : DeskD} {A B O X NA TA : Option Addr} {c e oc xc nc tc : Nat} {L W ts : List ByteArray} {ns : List Int}
theorem WS.below (h : WS w0 w V sb D A B c e O oc L X xc W NA nc ns TA tc ts) (hb : Below V.heap.size V V') : WS w0 w V' sb D A B c e O oc L X xc W NA nc ns TA tc ts :=
 ⟨h.le.below hb, ob_ h.nw hb, ob_ h.tw hb, ob_ h.xw hb, h.oA, h.oO, h.oX, h.lt, Nat.le_trans h.big hb.size⟩
theorem WS.sz (h : WS w0 w V sb D A B c e O oc L X xc W NA nc ns TA tc ts) : w.heap.size ≤ V.heap.size := h.big
theorem WS.num {NA' : Option Addr} {nc' : Nat} {ns' : List Int} (h : WS w0 w V sb D A B c e O oc L X xc W NA nc ns TA tc ts) (hg : V.grownBy V' (Value.slice NA ns.length nc).ownBlock)
 (ho : V'.ownsRow w.heap.size 2 1 (.slice NA' ns'.length nc') ns'.length (ics ns')) : WS w0 w (V'.setCell ⟨sb, 9, none⟩ (.slice NA' ns'.length nc')) sb D A B c e O oc L X xc W NA' nc' ns' TA tc ts := by
 have hr : ∀ k, (Value.slice NA ns.length nc).ownBlock = some k → w.heap.size ≤ k := fun k hk => (h.nw.lt k hk).1
 have hl := h.le.kept hg (fun k hk => Nat.le_trans h.lt (hr k hk)) (blk_tne h.le.bk h.nw (by decide)) (far_ne h.le.dw.1 h.oA hr) (own_tne h.le.dw.2 h.nw (by decide)) (own_tne h.le.ow h.nw (by decide))
 exact ⟨hl.put9 _, own_set1 ho hl.bk (by decide) 9 _, own_set1 (h.tw.kept hg (own_tne h.tw h.nw (by decide))) hl.bk (by decide) 9 _, own_set1 (h.xw.kept hg (own_tne h.xw h.nw (by decide))) hl.bk (by decide) 9 _, h.oA, h.oO, h.oX, h.lt, by simpa using Nat.le_trans h.big hg.size⟩
theorem WS.txt {TA' : Option Addr} {tc' : Nat} {ts' : List ByteArray} (h : WS w0 w V sb D A B c e O oc L X xc W NA nc ns TA tc ts) (hg : V.grownBy V' (Value.slice TA ts.length tc).ownBlock)
 (ho : V'.ownsRow w.heap.size 9 1 (.slice TA' ts'.length tc') ts'.length (strs ts')) : WS w0 w (V'.setCell ⟨sb, 10, none⟩ (.slice TA' ts'.length tc')) sb D A B c e O oc L X xc W NA nc ns TA' tc' ts' := by
 have hr : ∀ k, (Value.slice TA ts.length tc).ownBlock = some k → w.heap.size ≤ k := fun k hk => (h.tw.lt k hk).1
 have hl := h.le.kept hg (fun k hk => Nat.le_trans h.lt (hr k hk)) (blk_tne h.le.bk h.tw (by decide)) (own_tne h.le.dw.1 h.tw (by decide)) (own_tne h.le.dw.2 h.tw (by decide)) (far_ne h.le.ow h.oO hr)
 exact ⟨hl.put10 _, own_set1 (h.nw.kept hg (own_tne h.nw h.tw (by decide))) hl.bk (by decide) 10 _, own_set1 ho hl.bk (by decide) 10 _, own_set1 (h.xw.kept hg (far_ne h.xw h.oX hr)) hl.bk (by decide) 10 _, h.oA, h.oO, h.oX, h.lt, by simpa using Nat.le_trans h.big hg.size⟩
end
theorem wpl_appN {w : World} {ops : Array Oper} {rest : List Oper} {o : Oper} {a : Act} {Q : Exit → Act → World → Prop} (hgd : o.guard = none) (sl x : Operand)
 (ho : o.op = .call { callee := .builtin .append, args := #[sl, x], argTypes := #[28, 28] })
 (base : Nat) (A : Option Addr) (c : Nat) (l : List Int) (hs : a.eval sl = .slice A l.length c) (hown : w.ownsRow base 2 1 (.slice A l.length c) l.length (ics l)) (n : Int) (p : Nat) (hx : a.eval x = .slice (some ⟨p, 0, none⟩) 1 1)
 (hp : w.cell? ⟨p, 0, none⟩ = some (i64 n)) (hp2 : p < w.heap.size) (h63 : l.length ≤ 100000000) (hbase : base ≤ w.heap.size)
 (h : ∀ A' c' l' w', Hid (l' = l ++ [n]) → w'.ownsRow base 2 1 (.slice A' l'.length c') l'.length (ics l') → w.grownBy w' (Value.slice A l.length c).ownBlock → wpList Tryz.prog ops Q rest (a.put o.dst (.slice A' l'.length c')) w') : wpList Tryz.prog ops Q (o :: rest) a w := by
 refine wpl_app hgd sl x 28 ho base 2 _ 1 8 el_int64 (.slice A l.length c) l.length (ics l) hs hown _ 1 1 [i64 n] hx ⟨rfl, fun _ => ⟨p, 0, rfl, hp2, fun j u hj => ?_⟩⟩ (fun u hu => by simp at hu; subst hu; rfl) (by unfold maxLen; omega) (by omega) hbase fun A' c' w' h2 h3 => ?_
 ·cases j with
  | zero => simp at hj; subst hj; exact hp
  | succ j => simp at hj
 ·have e1 : l.length + 1 = (l ++ [n]).length := by simp
  have e2 : ics l ++ [i64 n] = ics (l ++ [n]) := by simp [ics]
  rw [e1, e2] at h2
  rw [e1]
  exact h A' c' _ w' (hd_ rfl) h2 h3
def wdPost (w0 w : World) (sb : Nat) (D : DeskD) (A B : Option Addr) (c e : Nat) (O : Option Addr) (oc : Nat) (L : List ByteArray) (X : Option Addr) (xc : Nat) (W : List ByteArray) (o : Option (List Int × List ByteArray)) (r : Ending) (w' : World) : Prop := match o with
 | none => r = .returned (.bool false) ∧ ∃ x y, LE w0 w' sb D A B c e O oc L x y
 | some p => r = .returned (.bool true) ∧ ∃ NA nc TA tc, WS w0 w w' sb D A B c e O oc L X xc W NA nc p.1 TA tc p.2
theorem toList_drop {f : ByteArray} {i : Nat} (h : i < f.size) : f.data.toList.drop i = byteAt f i :: f.data.toList.drop (i + 1) := by
 have h2 : i < f.data.toList.length := h
 rw [List.drop_eq_getElem_cons h2, show byteAt f i = f.data.toList[i] from by rw [← byteAt_eq h]; rfl]
theorem byteAt_mem {f : ByteArray} {i : Nat} (h : i < f.size) : byteAt f i ∈ f.data.toList := by
 have h2 : i < f.data.toList.length := h
 rw [show byteAt f i = f.data.toList[i] from by rw [← byteAt_eq h]; rfl]
 exact List.getElem_mem h2
section
variable {W : List ByteArray} {c : UInt8} {f : List UInt8} {i : Nat}
theorem wF_num {ns l : List Int} {ts : List ByteArray} (hc : c = 110 ∨ c = 108) (h : numsOf (partF c i W) = some l) : wF W (c :: f) i ns ts = wF W f (i + 1) (ns ++ l) ts := by
 rw [wF, if_pos hc, h]
theorem wF_no {ns : List Int} {ts : List ByteArray} (hc : c = 110 ∨ c = 108) (h : numsOf (partF c i W) = none) : wF W (c :: f) i ns ts = none := by
 rw [wF, if_pos hc, h]
theorem wF_txt {ns : List Int} {ts : List ByteArray} {T : ByteArray} (hc : ¬ (c = 110 ∨ c = 108)) (h : T.data.toList = joinL 32 (partF c i W)) : wF W (c :: f) i ns ts = wF W f (i + 1) ns (ts ++ [T]) := by
 rw [wF, if_neg hc, ← h]
end
theorem wordsR_any (w0 : World) (sb : Nat) (D : DeskD) (A B : Option Addr) (c e : Nat) (O : Option Addr) (oc : Nat) (L : List ByteArray) (x y : Value) (X : Option Addr) (xc : Nat) (W : List ByteArray) (f : ByteArray) (w : World) (h : LE w0 w sb D A B c e O oc L x y)
 (hx : w.ownsRow w0.heap.size 9 1 (.slice X W.length xc) W.length (strs W)) (hf : f.size + 1 ≤ W.length) (hfl : ∀ b ∈ f.data.toList, b = 110 ∨ b = 108 ∨ b = 114 ∨ b = 120) (hf9 : f.size ≤ 10) (hn : W.length ≤ 2000000) (hs : ∀ i, i < W.length → (wd W i).size ≤ 1048576) :
 Calls Tryz.prog 99 #[.pointer (some ⟨sb, 0, none⟩), .slice X W.length xc, .string f] w fun r w' => wdPost w0 w sb D A B c e O oc L X xc W (wF W f.data.toList 0 [] []) r w' := by
 obtain ⟨XB, rfl⟩ := own_someT hx (by omega)
 have HE := hd_ h
 have HX := hd_ hx
 have HS := hd_ hs
 have HFL := hd_ hfl
 obtain ⟨hsb, _, _, k9, k10⟩ := h.cel
 have f9 := h.bk.free 9
 obtain ⟨FIN, hFIN⟩ := nm_ (wF W f.data.toList 0 [] [])
 have HF0 := hd_ hFIN
 rw [hFIN]
 clear h hx hs hfl hFIN
 go_enter Tryz.func99, Tryz.ntmps99
 go_upto_region 2 with (fail)
 have hrn := hd_ (World.ownsRow_lit (base := w.heap.size) (e := 2) (size := 1) w #[] 0 (Nat.le_refl _) (by unfold maxLen; omega) rfl)
 have hB1 := HE.out.below (bl_alloc (Below.refl _ _) (.cells #[] 2))
 have HE1 := hd_ (hB1.put9 (.slice (some ⟨w.heap.size, 0, none⟩) 0 0))
 have HN1 := hd_ (own_set1 hrn.out hB1.bk (by decide) 9 (.slice (some ⟨w.heap.size, 0, none⟩) 0 0))
 have HX1 := hd_ (own_set1 (ob_ HX.out (bl_alloc (Below.refl _ _) (.cells #[] 2))) hB1.bk (by decide) 9 (.slice (some ⟨w.heap.size, 0, none⟩) 0 0))
 have hz1 : w.heap.size ≤ ((w.alloc (.cells #[] 2)).setCell ⟨sb, 9, none⟩ (.slice (some ⟨w.heap.size, 0, none⟩) 0 0)).heap.size := by simp
 rw [World.setCell_alloc_past _ _ _ _ hsb] at HE1 HN1 HX1 hz1
 refine wpg (R := fun V => Hid (LE w0 V sb D A B c e O oc L (.slice (some ⟨w.heap.size, 0, none⟩) 0 0) y) ∧ Hid (V.ownsRow w.heap.size 2 1 (.slice (some ⟨w.heap.size, 0, none⟩) 0 0) 0 []) ∧ Hid (V.ownsRow w0.heap.size 9 1 (.slice (some ⟨XB, 0, none⟩) W.length xc) W.length (strs W)) ∧ w.heap.size ≤ V.heap.size) ⟨HE1, HN1, HX1, hz1⟩ (fun V1 st => ?_)
 clear HE1 HN1 HX1 hB1 hrn hz1 hsb k9 k10 f9
 obtain ⟨HE1, HN1, HX1, hz1⟩ := st
 obtain ⟨hsb, -, -, -, k10⟩ := HE1.out.cel
 have f10 := HE1.out.bk.free 10
 go_upto_region 3 with (fail)
 have hrt := hd_ (World.ownsRow_lit (base := w.heap.size) (e := 9) (size := 1) V1 #[] 0 hz1 (by unfold maxLen; omega) rfl)
 have HBa := bl_alloc (Below.refl V1.heap.size V1) (.cells #[] 9)
 have hB2 := HE1.out.below HBa
 have HW1 : Hid (WS w0 w ((V1.alloc (.cells #[] 9)).setCell ⟨sb, 10, none⟩ (.slice (some ⟨V1.heap.size, 0, none⟩) 0 0)) sb D A B c e O oc L (some ⟨XB, 0, none⟩) xc W (some ⟨w.heap.size, 0, none⟩) 0 [] (some ⟨V1.heap.size, 0, none⟩) 0 []) := hd_
  ⟨hB2.put10 _, own_set1 (ob_ HN1.out HBa) hB2.bk (by decide) 10 _, own_set1 hrt.out hB2.bk (by decide) 10 _, own_set1 (ob_ HX1.out HBa) hB2.bk (by decide) 10 _, fun k hk => (HE.out.dw.1.lt k hk).2, fun k hk => (HE.out.ow.lt k hk).2, fun k hk => (HX.out.lt k hk).2, HE.out.up.below.size, by simpa using Nat.le_succ_of_le hz1⟩
 rw [World.setCell_alloc_past _ _ _ _ hsb] at HW1
 refine wpg (R := fun V => Hid (WS w0 w V sb D A B c e O oc L (some ⟨XB, 0, none⟩) xc W (some ⟨w.heap.size, 0, none⟩) 0 [] (some ⟨V1.heap.size, 0, none⟩) 0 [])) HW1 (fun V2 HW => ?_)
 obtain ⟨TB, hTB⟩ := nm_ (V1.heap.size)
 rw [hTB] at HW
 clear hTB HW1 hB2 HBa hrt hz1 hsb k10 f10 HE1 HN1 HX1 HE HX
 go_wp2_with fail
 go_loopw [7] (fun t7 wr => ∃ (i : Nat) (ns : List Int) (ts : List ByteArray) (NA : Option Addr) (nc : Nat) (TA : Option Addr) (tc : Nat), i ≤ f.size ∧ t7 = i64 i ∧ Hid (wF W (f.data.toList.drop i) i ns ts = FIN) ∧ Hid (ns.length ≤ i * 2000000) ∧ Hid (ts.length ≤ i) ∧ Hid (WS w0 w wr sb D A B c e O oc L (some ⟨XB, 0, none⟩) xc W NA nc ns TA tc ts)) (fun t7 _ => f.size - (intOf t7).toNat)
 case atStart => exact ⟨0, [], [], _, 0, _, 0, by omega, rfl, hd_ HF0.out, hd_ (by simp), hd_ (by simp), HW⟩
 case round =>
  clear HW
  obtain ⟨i, ns, ts, NA, nc, TA, tc, hi, rfl, HF, HNL, HTL, HW⟩ := hrel
  by_cases hlt : i < f.size
  ·have hlt' : (i : Int) < (f.size : Int) := by omega
   have hbe := byteAt_eq hlt
   obtain ⟨ch, hch⟩ := nm_ (byteAt f i)
   have HF1 : Hid (wF W (ch :: f.data.toList.drop (i + 1)) i ns ts = FIN) := hd_ (by rw [← hch, ← toList_drop hlt]; exact HF.out)
   have hchs := HFL.out (byteAt f i) (byteAt_mem hlt)
   rw [hch] at hchs hbe
   clear hch
   rcases hchs with rfl | rfl | rfl | rfl
   ·have HN1 : Hid (i + 1 ≤ i + 2 ∧ i + 2 ≤ W.length) := hd_ (by omega)
    have HNE : Hid (lastF 110 i W.length = i + 2) := hd_ (by simp [lastF])
    have HP0 : Hid (numsOf ((W.take (i + 1)).drop (i + 1)) = some []) := hd_ (by rw [part_nil]; rfl)
    have HL0 : Hid (ns.length ≤ i * 2000000 + (i + 1)) := hd_ (Nat.le_trans HNL.out (Nat.le_add_right _ _))
    go_wp2_with fail
    go_loopw [9] (fun t9 wr2 => ∃ (k : Nat) (l ns2 : List Int) (NA2 : Option Addr) (nc2 : Nat), i + 1 ≤ k ∧ k ≤ i + 2 ∧ t9 = i64 k ∧ Hid (numsOf ((W.take k).drop (i + 1)) = some l) ∧ Hid (ns2 = ns ++ l) ∧ Hid (ns2.length ≤ i * 2000000 + k) ∧ Hid (WS w0 w wr2 sb D A B c e O oc L (some ⟨XB, 0, none⟩) xc W NA2 nc2 ns2 TA tc ts)) (fun t9 _ => i + 2 - (intOf t9).toNat)
    case atStart => exact ⟨i + 1, [], ns, NA, nc, Nat.le_refl _, HN1.out.1, by go_num, HP0, hd_ (by simp), HL0, HW⟩
    case round =>
     clear HW HF
     obtain ⟨k, l, ns2, NA2, nc2, hk1, hk, rfl, HL, HE2, HL2, HW⟩ := hrel
     by_cases hkl : k < i + 2
     ·have hkW : k < W.length := by have := HN1.out.2; omega
      have hkl' : (k : Int) < ((i + 2 : Nat) : Int) := by omega
      have hkl2 : (k : Int) < (W.length : Int) := by omega
      (try simp only [Int.natCast_add, Int.cast_ofNat_Int] at hkl')
      obtain ⟨hxb, cK⟩ := ws_at (Rds.of_own HW.out.xw) hkW
      rw [Nat.zero_add] at cK
      have hKs := HS.out k hkW
      obtain ⟨KW, hKW⟩ := nm_ (wd W k)
      rw [hKW] at cK hKs
      have HKW := hd_ hKW
      clear hKW
      cases hnb : numB KW with
      | false =>
        have HFN : Hid (FIN = none) := hd_ (by
         rw [← HF1.out]
         refine wF_no (by decide) ?_
         rw [partF, HNE.out, part_split hk1 hkl HN1.out.2, HKW.out]
         exact numsOf_bad hnb)
        have HC9 := hd_ (fun V => l01Number_any KW V (by omega))
        rw [rdR_no hnb] at HC9
        clear hnb HF1 HF0
        go_wp2_with fail
        refine cu_ (HC9.out _) fun g => ?_
        go_wp2_with fail
        go_ret
        rw [HFN.out]
        exact ⟨rfl, _, _, HW.out.le.below bw_⟩
      | true =>
        obtain ⟨v, hv⟩ := nm_ (sval KW)
        have HN2 : Hid (numsOf ((W.take (k + 1)).drop (i + 1)) = some (l ++ [v])) := hd_ (by
         rw [part_snoc hk1 hkW, HKW.out, ← hv]
         exact numsOf_snoc HL.out hnb)
        have HC9 := hd_ (fun V => l01Number_any KW V (by omega))
        rw [rdR_ok hnb, hv] at HC9
        clear hnb hv
        go_wp2_with fail
        refine cu_ (HC9.out _) fun g => ?_
        have HW2 := hd_ (HW.out.below (V' := up wr g) bw_)
        obtain ⟨V9, hV9⟩ := nm_ (up wr g)
        rw [hV9] at HW2 ⊢
        clear HW cK hxb hV9 g
        obtain ⟨hsb, -, -, k9, -⟩ := HW2.out.le.cel
        have HB := hd_ (HW2.out.below (bl_alloc (Below.refl _ _) (.cells #[i64 v] 2)))
        have hb2 := HL2.out
        go_wp2_with (at_builtin; go_must (refine wpl_appN rfl _ _ rfl w.heap.size NA2 nc2 ns2 rfl HB.out.nw v V9.heap.size rfl (by simp) (by simp) (by omega) (HB.out.sz) ?_); intro NA3 nc3 ns3 W3 hns3 o3 g3; have hrb3 : sb < W3.heap.size := Nat.lt_of_lt_of_le HB.out.le.bk.lt g3.size; have hf0 : W3.frozen? ⟨sb, 9, none⟩ = false := (HB.out.le.bk.grown g3 (blk_tne HB.out.le.bk HB.out.nw (by decide))).free 9; have hc0 : W3.cell? ⟨sb, 9, none⟩ = some (.slice NA2 ns2.length nc2) := (HB.out.le.bk.grown g3 (blk_tne HB.out.le.bk HB.out.nw (by decide))).cell 9)
        go_roundw
        case rel => exact ⟨k + 1, l ++ [v], ns3, NA3, nc3, by omega, by omega, by go_num, HN2, hd_ (by rw [hns3.out, HE2.out, List.append_assoc]), hd_ (by rw [hns3.out, List.length_append]; simp; omega), hd_ (HB.out.num g3 o3)⟩
        case measure => (simp [intOf]; try omega)
     ·obtain rfl : k = i + 2 := by omega
      have HF2 : Hid (wF W (f.data.toList.drop (i + 1)) (i + 1) ns2 ts = FIN) := hd_ (by
       rw [← HF1.out, wF_num (by decide) (by rw [partF, HNE.out]; exact HL.out), HE2.out])
      clear HF1 HL HE2
      have hb2 := HL2.out
      have hNW := HN1.out.2
      go_wp2_with fail
      go_roundw
      case rel => exact ⟨i + 1, ns2, ts, NA2, nc2, TA, tc, by omega, by go_num, HF2, hd_ (by omega), hd_ (by have := HTL.out; omega), HW⟩
      case measure => (simp [intOf]; try omega)
   ·have HN1 : Hid (i + 1 ≤ W.length ∧ W.length ≤ W.length) := hd_ (by omega)
    have HNE : Hid (lastF 108 i W.length = W.length) := hd_ (by simp [lastF])
    have HP0 : Hid (numsOf ((W.take (i + 1)).drop (i + 1)) = some []) := hd_ (by rw [part_nil]; rfl)
    have HL0 : Hid (ns.length ≤ i * 2000000 + (i + 1)) := hd_ (Nat.le_trans HNL.out (Nat.le_add_right _ _))
    go_wp2_with fail
    go_loopw [9] (fun t9 wr2 => ∃ (k : Nat) (l ns2 : List Int) (NA2 : Option Addr) (nc2 : Nat), i + 1 ≤ k ∧ k ≤ W.length ∧ t9 = i64 k ∧ Hid (numsOf ((W.take k).drop (i + 1)) = some l) ∧ Hid (ns2 = ns ++ l) ∧ Hid (ns2.length ≤ i * 2000000 + k) ∧ Hid (WS w0 w wr2 sb D A B c e O oc L (some ⟨XB, 0, none⟩) xc W NA2 nc2 ns2 TA tc ts)) (fun t9 _ => W.length - (intOf t9).toNat)
    case atStart => exact ⟨i + 1, [], ns, NA, nc, Nat.le_refl _, HN1.out.1, by go_num, HP0, hd_ (by simp), HL0, HW⟩
    case round =>
     clear HW HF
     obtain ⟨k, l, ns2, NA2, nc2, hk1, hk, rfl, HL, HE2, HL2, HW⟩ := hrel
     by_cases hkl : k < W.length
     ·have hkW : k < W.length := by have := HN1.out.2; omega
      have hkl' : (k : Int) < ((W.length : Nat) : Int) := by omega
      have hkl2 : (k : Int) < (W.length : Int) := by omega
      (try simp only [Int.natCast_add, Int.cast_ofNat_Int] at hkl')
      obtain ⟨hxb, cK⟩ := ws_at (Rds.of_own HW.out.xw) hkW
      rw [Nat.zero_add] at cK
      have hKs := HS.out k hkW
      obtain ⟨KW, hKW⟩ := nm_ (wd W k)
      rw [hKW] at cK hKs
      have HKW := hd_ hKW
      clear hKW
      cases hnb : numB KW with
      | false =>
        have HFN : Hid (FIN = none) := hd_ (by
         rw [← HF1.out]
         refine wF_no (by decide) ?_
         rw [partF, HNE.out, part_split hk1 hkl HN1.out.2, HKW.out]
         exact numsOf_bad hnb)
        have HC9 := hd_ (fun V => l01Number_any KW V (by omega))
        rw [rdR_no hnb] at HC9
        clear hnb HF1 HF0
        go_wp2_with fail
        refine cu_ (HC9.out _) fun g => ?_
        go_wp2_with fail
        go_ret
        rw [HFN.out]
        exact ⟨rfl, _, _, HW.out.le.below bw_⟩
      | true =>
        obtain ⟨v, hv⟩ := nm_ (sval KW)
        have HN2 : Hid (numsOf ((W.take (k + 1)).drop (i + 1)) = some (l ++ [v])) := hd_ (by
         rw [part_snoc hk1 hkW, HKW.out, ← hv]
         exact numsOf_snoc HL.out hnb)
        have HC9 := hd_ (fun V => l01Number_any KW V (by omega))
        rw [rdR_ok hnb, hv] at HC9
        clear hnb hv
        go_wp2_with fail
        refine cu_ (HC9.out _) fun g => ?_
        have HW2 := hd_ (HW.out.below (V' := up wr g) bw_)
        obtain ⟨V9, hV9⟩ := nm_ (up wr g)
        rw [hV9] at HW2 ⊢
        clear HW cK hxb hV9 g
        obtain ⟨hsb, -, -, k9, -⟩ := HW2.out.le.cel
        have HB := hd_ (HW2.out.below (bl_alloc (Below.refl _ _) (.cells #[i64 v] 2)))
        have hb2 := HL2.out
        go_wp2_with (at_builtin; go_must (refine wpl_appN rfl _ _ rfl w.heap.size NA2 nc2 ns2 rfl HB.out.nw v V9.heap.size rfl (by simp) (by simp) (by omega) (HB.out.sz) ?_); intro NA3 nc3 ns3 W3 hns3 o3 g3; have hrb3 : sb < W3.heap.size := Nat.lt_of_lt_of_le HB.out.le.bk.lt g3.size; have hf0 : W3.frozen? ⟨sb, 9, none⟩ = false := (HB.out.le.bk.grown g3 (blk_tne HB.out.le.bk HB.out.nw (by decide))).free 9; have hc0 : W3.cell? ⟨sb, 9, none⟩ = some (.slice NA2 ns2.length nc2) := (HB.out.le.bk.grown g3 (blk_tne HB.out.le.bk HB.out.nw (by decide))).cell 9)
        go_roundw
        case rel => exact ⟨k + 1, l ++ [v], ns3, NA3, nc3, by omega, by omega, by go_num, HN2, hd_ (by rw [hns3.out, HE2.out, List.append_assoc]), hd_ (by rw [hns3.out, List.length_append]; simp; omega), hd_ (HB.out.num g3 o3)⟩
        case measure => (simp [intOf]; try omega)
     ·obtain rfl : k = W.length := by omega
      have HF2 : Hid (wF W (f.data.toList.drop (i + 1)) (i + 1) ns2 ts = FIN) := hd_ (by
       rw [← HF1.out, wF_num (by decide) (by rw [partF, HNE.out]; exact HL.out), HE2.out])
      clear HF1 HL HE2
      have hb2 := HL2.out
      have hNW := HN1.out.2
      go_wp2_with fail
      go_roundw
      case rel => exact ⟨i + 1, ns2, ts, NA2, nc2, TA, tc, by omega, by go_num, HF2, hd_ (by omega), hd_ (by have := HTL.out; omega), HW⟩
      case measure => (simp [intOf]; try omega)
   ·have HN1 : Hid (i + 2 ≤ W.length ∧ W.length ≤ W.length) := hd_ (by omega)
    have HNE : Hid (lastF 114 i W.length = W.length) := hd_ (by simp [lastF])
    have hkW : i + 1 < W.length := by omega
    have hkl2 : (i : Int) + 1 < (W.length : Int) := by omega
    have hki : ((i : Int) + 1).toNat = i + 1 := by omega
    obtain ⟨hxb, cK⟩ := ws_at (Rds.of_own HW.out.xw) hkW
    rw [Nat.zero_add] at cK
    have HT0 : Hid ((wd W (i + 1)).data.toList = joinL 32 ((W.take (i + 2)).drop (i + 1))) := hd_ (by
     rw [part_snoc (Nat.le_refl _) hkW, part_nil]; rfl)
    have HS0 : Hid ((wd W (i + 1)).size ≤ (i + 2) * 1048577) := hd_ (by have := HS.out (i + 1) hkW; omega)
    obtain ⟨T0, hT0⟩ := nm_ (wd W (i + 1))
    rw [hT0] at cK HT0 HS0
    clear hT0
    go_wp2_with fail
    go_loopw [12, 13] (fun t12 t13 wr2 => ∃ (k : Nat) (T : ByteArray), i + 2 ≤ k ∧ k ≤ W.length ∧ t13 = i64 k ∧ t12 = .string T ∧ Hid (T.data.toList = joinL 32 ((W.take k).drop (i + 1))) ∧ Hid (T.size ≤ k * 1048577) ∧ wr2 = wr) (fun _ t13 _ => W.length - (intOf t13).toNat)
    case atStart => exact ⟨i + 2, T0, Nat.le_refl _, HN1.out.1, by go_num, rfl, HT0, HS0, rfl⟩
    case round =>
     clear HT0 HS0 cK hki hkW hkl2
     obtain ⟨k, T, hk1, hk, rfl, rfl, HT, HTS, rfl⟩ := hrel
     by_cases hkl : k < W.length
     ·have hkW : k < W.length := by have := HN1.out.2; omega
      have hkl' : (k : Int) < ((W.length : Nat) : Int) := by omega
      have hkl2 : (k : Int) < (W.length : Int) := by omega
      (try simp only [Int.natCast_add, Int.cast_ofNat_Int] at hkl')
      obtain ⟨-, cK⟩ := ws_at (Rds.of_own HW.out.xw) hkW
      rw [Nat.zero_add] at cK
      have hKs := HS.out k hkW
      have hTs := HTS.out
      obtain ⟨KW, hKW⟩ := nm_ (wd W k)
      rw [hKW] at cK hKs
      have e1 : ∀ V, (Op.stringOp .add (⟨#[32]⟩ : ByteArray) KW).run Tryz.prog V = .ok (.string (⟨#[32]⟩ ++ KW)) V := fun V => run_string_add_sum V _ _ (by
       have e : (⟨#[32]⟩ : ByteArray).size = 1 := rfl
       omega)
      have e2 : ∀ V, (Op.stringOp .add T (⟨#[32]⟩ ++ KW)).run Tryz.prog V = .ok (.string (T ++ (⟨#[32]⟩ ++ KW))) V := fun V => run_string_add_sum V _ _ (by
       have e : (⟨#[32]⟩ : ByteArray).size = 1 := rfl
       rw [ByteArray.size_append, e]
       omega)
      have HT2 : Hid ((T ++ (⟨#[32]⟩ ++ KW)).data.toList = joinL 32 ((W.take (k + 1)).drop (i + 1))) := hd_ (by
       rw [part_snoc (by omega) hkW, joinL_snoc, ← HT.out, hKW]
       ·simp
       ·intro e
        have := congrArg List.length e
        rw [List.length_drop, List.length_take, List.length_nil] at this
        omega)
      have HS2 : Hid ((T ++ (⟨#[32]⟩ ++ KW)).size ≤ (k + 1) * 1048577) := hd_ (by
       have e : (⟨#[32]⟩ : ByteArray).size = 1 := rfl
       rw [ByteArray.size_append, ByteArray.size_append, e]
       omega)
      obtain ⟨T2, hT2⟩ := nm_ (T ++ (⟨#[32]⟩ ++ KW))
      rw [hT2] at e2 HT2 HS2
      clear hT2 hTs hKs hKW
      go_wp2_with fail
      go_roundw
      case rel => exact ⟨k + 1, T2, by omega, by omega, by go_num, rfl, HT2, HS2, (by first | trivial | rfl)⟩
      case measure => (simp [intOf]; try omega)
     ·obtain rfl : k = W.length := by omega
      have HF2 : Hid (wF W (f.data.toList.drop (i + 1)) (i + 1) ns (ts ++ [T]) = FIN) := hd_ (by
       rw [← HF1.out, wF_txt (T := T) (by decide) (by rw [partF, HNE.out]; exact HT.out)])
      clear HF1
      have hNW := HN1.out.2
      obtain ⟨hsb, -, -, -, k10⟩ := HW.out.le.cel
      have HB := hd_ (HW.out.below (bl_alloc (Below.refl _ _) (.cells #[.string T] 9)))
      have hb2 := HTL.out
      go_wp2_with (at_builtin; go_must (refine wpl_appW rfl _ _ rfl w.heap.size TA tc ts rfl HB.out.tw T _ rfl (by simp) (by omega) (HB.out.sz) _ rfl ?_); intro TA3 tc3 ts3 W3 hts3 o3 g3 _ _; have hrb3 : sb < W3.heap.size := Nat.lt_of_lt_of_le HB.out.le.bk.lt g3.size; have hf0 : W3.frozen? ⟨sb, 10, none⟩ = false := (HB.out.le.bk.grown g3 (blk_tne HB.out.le.bk HB.out.tw (by decide))).free 10; have hc0 : W3.cell? ⟨sb, 10, none⟩ = some (.slice TA ts.length tc) := (HB.out.le.bk.grown g3 (blk_tne HB.out.le.bk HB.out.tw (by decide))).cell 10)
      go_roundw
      case rel => exact ⟨i + 1, ns, ts3, NA, nc, _, tc3, by omega, by go_num, hd_ (by rw [hts3.out]; exact HF2.out), hd_ (Nat.le_trans HNL.out (by omega)), hd_ (by rw [hts3.out, List.length_append]; simp; omega), hd_ (HB.out.txt g3 o3)⟩
      case measure => (simp [intOf]; try omega)
   ·have HN1 : Hid (i + 2 ≤ i + 2 ∧ i + 2 ≤ W.length) := hd_ (by omega)
    have HNE : Hid (lastF 120 i W.length = i + 2) := hd_ (by simp [lastF])
    have hkW : i + 1 < W.length := by omega
    have hkl2 : (i : Int) + 1 < (W.length : Int) := by omega
    have hki : ((i : Int) + 1).toNat = i + 1 := by omega
    obtain ⟨hxb, cK⟩ := ws_at (Rds.of_own HW.out.xw) hkW
    rw [Nat.zero_add] at cK
    have HT0 : Hid ((wd W (i + 1)).data.toList = joinL 32 ((W.take (i + 2)).drop (i + 1))) := hd_ (by
     rw [part_snoc (Nat.le_refl _) hkW, part_nil]; rfl)
    have HS0 : Hid ((wd W (i + 1)).size ≤ (i + 2) * 1048577) := hd_ (by have := HS.out (i + 1) hkW; omega)
    obtain ⟨T0, hT0⟩ := nm_ (wd W (i + 1))
    rw [hT0] at cK HT0 HS0
    clear hT0
    go_wp2_with fail
    go_loopw [12, 13] (fun t12 t13 wr2 => ∃ (k : Nat) (T : ByteArray), i + 2 ≤ k ∧ k ≤ i + 2 ∧ t13 = i64 k ∧ t12 = .string T ∧ Hid (T.data.toList = joinL 32 ((W.take k).drop (i + 1))) ∧ Hid (T.size ≤ k * 1048577) ∧ wr2 = wr) (fun _ t13 _ => i + 2 - (intOf t13).toNat)
    case atStart => exact ⟨i + 2, T0, Nat.le_refl _, HN1.out.1, by go_num, rfl, HT0, HS0, rfl⟩
    case round =>
     clear HT0 HS0 cK hki hkW hkl2
     obtain ⟨k, T, hk1, hk, rfl, rfl, HT, HTS, rfl⟩ := hrel
     by_cases hkl : k < i + 2
     ·have hkW : k < W.length := by have := HN1.out.2; omega
      have hkl' : (k : Int) < ((i + 2 : Nat) : Int) := by omega
      have hkl2 : (k : Int) < (W.length : Int) := by omega
      (try simp only [Int.natCast_add, Int.cast_ofNat_Int] at hkl')
      obtain ⟨-, cK⟩ := ws_at (Rds.of_own HW.out.xw) hkW
      rw [Nat.zero_add] at cK
      have hKs := HS.out k hkW
      have hTs := HTS.out
      obtain ⟨KW, hKW⟩ := nm_ (wd W k)
      rw [hKW] at cK hKs
      have e1 : ∀ V, (Op.stringOp .add (⟨#[32]⟩ : ByteArray) KW).run Tryz.prog V = .ok (.string (⟨#[32]⟩ ++ KW)) V := fun V => run_string_add_sum V _ _ (by
       have e : (⟨#[32]⟩ : ByteArray).size = 1 := rfl
       omega)
      have e2 : ∀ V, (Op.stringOp .add T (⟨#[32]⟩ ++ KW)).run Tryz.prog V = .ok (.string (T ++ (⟨#[32]⟩ ++ KW))) V := fun V => run_string_add_sum V _ _ (by
       have e : (⟨#[32]⟩ : ByteArray).size = 1 := rfl
       rw [ByteArray.size_append, e]
       omega)
      have HT2 : Hid ((T ++ (⟨#[32]⟩ ++ KW)).data.toList = joinL 32 ((W.take (k + 1)).drop (i + 1))) := hd_ (by
       rw [part_snoc (by omega) hkW, joinL_snoc, ← HT.out, hKW]
       ·simp
       ·intro e
        have := congrArg List.length e
        rw [List.length_drop, List.length_take, List.length_nil] at this
        omega)
      have HS2 : Hid ((T ++ (⟨#[32]⟩ ++ KW)).size ≤ (k + 1) * 1048577) := hd_ (by
       have e : (⟨#[32]⟩ : ByteArray).size = 1 := rfl
       rw [ByteArray.size_append, ByteArray.size_append, e]
       omega)
      obtain ⟨T2, hT2⟩ := nm_ (T ++ (⟨#[32]⟩ ++ KW))
      rw [hT2] at e2 HT2 HS2
      clear hT2 hTs hKs hKW
      go_wp2_with fail
      go_roundw
      case rel => exact ⟨k + 1, T2, by omega, by omega, by go_num, rfl, HT2, HS2, (by first | trivial | rfl)⟩
      case measure => (simp [intOf]; try omega)
     ·obtain rfl : k = i + 2 := by omega
      have HF2 : Hid (wF W (f.data.toList.drop (i + 1)) (i + 1) ns (ts ++ [T]) = FIN) := hd_ (by
       rw [← HF1.out, wF_txt (T := T) (by decide) (by rw [partF, HNE.out]; exact HT.out)])
      clear HF1
      have hNW := HN1.out.2
      obtain ⟨hsb, -, -, -, k10⟩ := HW.out.le.cel
      have HB := hd_ (HW.out.below (bl_alloc (Below.refl _ _) (.cells #[.string T] 9)))
      have hb2 := HTL.out
      go_wp2_with (at_builtin; go_must (refine wpl_appW rfl _ _ rfl w.heap.size TA tc ts rfl HB.out.tw T _ rfl (by simp) (by omega) (HB.out.sz) _ rfl ?_); intro TA3 tc3 ts3 W3 hts3 o3 g3 _ _; have hrb3 : sb < W3.heap.size := Nat.lt_of_lt_of_le HB.out.le.bk.lt g3.size; have hf0 : W3.frozen? ⟨sb, 10, none⟩ = false := (HB.out.le.bk.grown g3 (blk_tne HB.out.le.bk HB.out.tw (by decide))).free 10; have hc0 : W3.cell? ⟨sb, 10, none⟩ = some (.slice TA ts.length tc) := (HB.out.le.bk.grown g3 (blk_tne HB.out.le.bk HB.out.tw (by decide))).cell 10)
      go_roundw
      case rel => exact ⟨i + 1, ns, ts3, NA, nc, _, tc3, by omega, by go_num, hd_ (by rw [hts3.out]; exact HF2.out), hd_ (Nat.le_trans HNL.out (by omega)), hd_ (by rw [hts3.out, List.length_append]; simp; omega), hd_ (HB.out.txt g3 o3)⟩
      case measure => (simp [intOf]; try omega)
  ·obtain rfl : i = f.size := by omega
   have hF1 := HF.out
   rw [List.drop_eq_nil_of_le (by rw [bsz]; exact Nat.le_refl _)] at hF1
   have HF1 := hd_ hF1
   clear hF1 HF HF0
   go_wp2_with fail
   go_ret
   rw [← HF1.out]
   exact ⟨rfl, NA, nc, TA, tc, HW.out⟩
end Go.Proofs.YtbianlkenallaaaGreatDoor

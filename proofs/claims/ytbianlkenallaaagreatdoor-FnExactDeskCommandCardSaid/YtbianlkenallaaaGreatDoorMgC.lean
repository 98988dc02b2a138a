/-
  Common parts, put together: ReadI, DrillV, SetL1, Move1, Move2, Move3, SetL2, SetL3, Wait, Fast, Fast2, SetR, Fast3, CodeW1, CodeW2, CodeS, AlignM, InDesk.
-/
import Derived.Test.YtbianlkenallaaaGreatDoorTakeI
import Derived.Test.YtbianlkenallaaaGreatDoorMgB
import Derived.Test.YtbianlkenallaaaGreatDoorDeskV
import Derived.Test.YtbianlkenallaaaGreatDoorMgA
import Derived.Deep.WholeRow
import Derived.Great.BuildSlice
import Derived.Laws.CopyOwn
import Derived.Lib.SlBytesConst
import Derived.Deep.DeepMust
import Derived.Test.YtbianlkenallaaaGreatDoorShelf
import Derived.StillTail
import Derived.StillTailTactics
import Derived.Test.YtbianlkenallaaaGreatDoorLawSameDesk
set_option linter.all false
set_option maxHeartbeats 4000000
set_option maxRecDepth 10000
namespace Go.Proofs.YtbianlkenallaaaGreatDoor
open Go.RowKit
theorem LI.new (w : World) : LI w.heap.size ((w.alloc (.cells #[] 127)).alloc (.cells #[.slice (some ⟨w.heap.size, 0, none⟩) 0 0, i64 0, i64 0] 152)) (w.heap.size + 1) [] 0 0 := by
 have h1 : (w.alloc (.cells #[] 127)).heap.size = w.heap.size + 1 := by simp
 refine ⟨some ⟨w.heap.size, 0, none⟩, 0, ?_, by omega, ?_, .inr (fun e => by injection e with e; exact absurd e (Nat.ne_of_lt (Nat.lt_succ_self _)))⟩
 ·have := Blk.new (w.alloc (.cells #[] 127)) 152 #[.slice (some ⟨w.heap.size, 0, none⟩) 0 0, i64 0, i64 0]
  rw [h1] at this
  exact this
 ·have := World.ownsRow_lit (base := w.heap.size) (e := 127) (size := 3) w #[] 0 (Nat.le_refl _) (by unfold maxLen; omega) rfl
  exact ob_ this (Below.alloc (Below.refl _ _) (Nat.le_refl _) _)
theorem LI.cells {base rb sz : Nat} {w : World} {l : List Entry} {st : Int} (h : LI base w rb l st sz) : w.cell? ⟨rb, 2, none⟩ = some (i64 sz) := by
 obtain ⟨A, c, h1, _⟩ := h
 exact h1.cell 2
theorem readLogI_any (s : ByteArray) (w : World) (ht : Tab w) (hs : s.size ≤ 4000) :
 Calls Tryz.prog 166 #[.string s] w fun e w' => ∃ rb, e = .returned (.pointer (some ⟨rb, 0, none⟩)) ∧ LI w.heap.size w' rb (logR s).1 (logR s).2.1 (logR s).2.2 ∧ UpOf w w' := by
 have HT := hd_ ht
 have HN := hd_ (LI.new w)
 have hinv := logR_inv s
 clear ht
 obtain ⟨L, hL⟩ := nm_ (s.data.toList)
 have hLn := hd_ (show L.length = s.size by rw [← hL]; rfl)
 have HL := hd_ hL
 obtain ⟨R, hR⟩ := nm_ (logR s)
 rw [hR]
 have HR := hd_ (show logF (s.size + 1) [] 0 0 L = R by rw [← hR, logR, hL])
 clear hR hL hinv
 go_enter Tryz.func166, Tryz.ntmps166
 go_wp2_with fail
 refine wpg (R := fun V => LI w.heap.size V (w.heap.size + 1) [] 0 0 ∧ UpOf w V) ⟨HN.out, uw_⟩ (fun V st => ?_)
 have ST := hd_ st
 clear st HN
 generalize hp : w.heap.size + 1 = rb
 rw [hp] at ST
 have hrb : w.heap.size ≤ rb := by omega
 clear hp
 go_loopw [4] (fun u wr => ∃ (l : List Entry) (st : Int) (sz k : Nat), LI w.heap.size wr rb l st sz ∧ sz ≤ s.size ∧ l.length ≤ sz ∧ 0 ≤ st ∧ st < 65519 ∧ Hid (logF k l st sz (L.drop sz) = R) ∧ s.size - sz < k ∧ UpOf w wr) (fun _ wr => s.size - (intOf ((wr.cell? ⟨rb, 2, none⟩).getD undef)).toNat)
 case atStart => exact ⟨[], 0, 0, s.size + 1, ST.out.1, by omega, by simp, by omega, by omega, by rw [List.drop_zero]; exact HR, by omega, ST.out.2⟩
 case round =>
  obtain ⟨l, st, sz, k, hl, hsz, hll, s0, s1, hf, hk, hup⟩ := hrel
  have hc2 := hl.cells
  have hrl := hl.lt.2
  obtain ⟨C, hC⟩ := nm_ (cutA 10 [] (L.drop sz))
  obtain ⟨line, post, ok⟩ := C
  have hls : line.size ≤ 4000 := by
   have := (cutA_size 10 (L.drop sz) []).1
   rw [hC] at this
   simp [hLn.out] at this
   omega
  have cw : ∀ V, Calls Tryz.prog 42 #[.string (s.extract sz s.size), .string ⟨#[10]⟩] V fun e w' => e = .returned (.tuple #[.string line, .string post, .bool ok]) ∧ UpOf V w' := fun V => by
   have := cut_any (s.extract sz s.size) ⟨#[10]⟩ 10 rfl V (by rw [ByteArray.size_extract]; omega)
   rw [show (s.extract sz s.size).data.toList = L.drop sz by rw [bs_extract, bs_list, HL.out, List.take_of_length_le (by rw [List.length_drop, hLn.out]; exact Nat.le_refl _)], hC] at this
   exact this
  have CW := hd_ cw
  have HC := hd_ hC
  have HLI := hd_ hl
  have HTB := hd_ (HT.out.below hup.below)
  have HUP := hd_ hup
  clear cw hC hl hup
  cases ok with
  | false =>
    have hR2 := hd_ (show R = (l, st, sz) by rw [← hf.out, logF_end (by rw [HC.out])])
    go_wp2_with (first | (go_at_call 42; refine cu_ (CW.out _) fun g => ?_))
    go_ret
    exact ⟨rb, rfl, by rw [hR2.out]; exact HLI.out.below bw_, HUP.out.tr bw_⟩
  | true =>
    obtain ⟨cd1, cd2⟩ := cut_drop (L := L) (sz := sz) (by rw [hLn.out]; exact hsz) (by rw [HC.out])
    rw [HC.out] at cd1 cd2
    have CD1 : sz + line.size + 1 ≤ s.size := by rw [← hLn.out]; exact cd1
    have CD2 := hd_ (show post.data.toList = L.drop (sz + line.size + 1) from cd2)
    clear cd1 cd2
    cases htk : takeB (dayL l) st line (wordsA [] line.data.toList)
    ·have hR2 := hd_ (show R = (l, st, sz) by rw [← hf.out, logF_bad (by rw [HC.out]; exact takeOf_none htk)])
     go_wp2_with (first | (go_at_call 42; refine cu_ (CW.out _) fun g => ?_) | (go_at_call 205; refine cu_ (takeI_no _ _ _ l st line _ (HLI.out.below bw_) (HTB.out.below bw_) (by omega) (by omega) s0 s1 htk) fun g => ?_))
     go_ret
     exact ⟨rb, rfl, by rw [hR2.out]; exact HLI.out.below bw_, HUP.out.tr bw_⟩
    ·obtain ⟨k', rfl⟩ : ∃ k', k = k' + 1 := ⟨k - 1, by omega⟩
     have hgo := hd_ (show logF k' (l ++ [eOf (wordsA [] line.data.toList)]) (stampP st (eOf (wordsA [] line.data.toList))) (sz + line.size + 1) (L.drop (sz + line.size + 1)) = R by
      rw [← hf.out, logF_go (x := eOf (wordsA [] line.data.toList)) (st' := stampP st (eOf (wordsA [] line.data.toList))) (by rw [HC.out]) (by rw [HC.out]; exact takeOf_some htk), HC.out, CD2.out])
     have hsb := hd_ (stampP_bd st (eOf (wordsA [] line.data.toList)))
     go_wp2_with fail
     refine cu_ (CW.out _) fun g1 => ?_
     go_wp2_with fail
     refine (takeI_ok _ _ _ l st line _ (HLI.out.below bw_) (HTB.out.below bw_) (by omega) (by omega) s0 s1 (by omega) htk).mono ?_
     rintro e w2 ⟨rfl, hl2, hb2⟩
     have HL2 := hd_ hl2
     have hB2 := hd_ (show UpOf w w2 from .of ((HUP.out.tr (V' := up wr g1) bw_).below.trans hb2))
     have hc3 := hl2.cells
     clear hl2 hb2
     go_wp2_with fail
     refine ⟨⟨_, _, _, _, HL2.out, CD1, by rw [List.length_append, List.length_singleton]; omega, hsb.out.1, hsb.out.2, hgo, by omega, hB2.out⟩, ?_⟩
     rw [hc3, hc2]
     simp [intOf]
     omega
theorem isText_any (s : ByteArray) (lo most : Nat) (w : World) (hlo : lo ≤ 255) (hm : most ≤ 1000000) (hs : s.size ≤ 9223372036854775807) :
 Calls Tryz.prog 134 #[.string s, .int .u8 lo, i64 most] w fun e w' => e = .returned (.bool (txtB lo most s)) ∧ w = w' := by
 by_cases h1 : s.size ≤ most
 ·have h1' : (s.size : Int) ≤ (most : Int) := by omega
  go_enter Tryz.func134, Tryz.ntmps134
  go_wp2_with fail
  go_loop [14] (fun i => ∃ k : Nat, k ≤ s.size ∧ i = i64 k ∧ Hid (∀ j, j < k → txtC lo (byteAt s j) = true)) (fun i => s.size - (intOf i).toNat)
  case atStart => exact ⟨0, by omega, rfl, fun i hi => by omega⟩
  case round =>
   obtain ⟨k, hk, rfl, hok⟩ := hrel
   by_cases hlt : k < s.size
   ·have e := byteAt_eq hlt
    by_cases p1 : (byteAt s k).toNat < lo
    ·have hf := hd_ (txtB_at (lo := lo) (most := most) hlt (decide_eq_false (by omega)))
     have p1' : ((byteAt s k).toNat : Int) < (lo : Int) := by omega
     rw [← e] at p1'
     go_wp2_with fail
     go_ret
     exact ⟨rb_ hf.out.symm, rfl⟩
    by_cases p2 : 126 < (byteAt s k).toNat
    ·have hf := hd_ (txtB_at (lo := lo) (most := most) hlt (decide_eq_false (by omega)))
     have p1' : (lo : Int) ≤ ((byteAt s k).toNat : Int) := by omega
     have p2' : 126 < ((byteAt s k).toNat : Int) := by omega
     rw [← e] at p1' p2'
     go_wp2_with fail
     go_ret
     exact ⟨rb_ hf.out.symm, rfl⟩
    have hq := hd_ (show txtC lo (byteAt s k) = true from decide_eq_true (by omega))
    have p1' : (lo : Int) ≤ ((byteAt s k).toNat : Int) := by omega
    have p2' : ((byteAt s k).toNat : Int) ≤ 126 := by omega
    rw [← e] at p1' p2'
    go_wp2_with fail
    go_round
    case rel => have hx := lt_ext (P := fun j => txtC lo (byteAt s j) = true) hok.out hq.out; exact ⟨k + 1, by omega, by go_num, hx⟩
    case measure => (simp [intOf]; try omega)
   ·have hf := hd_ (txtB_true (lo := lo) h1 (fun i hi => hok.out i (by omega)))
    go_wp2_with fail
    go_ret
    exact ⟨rb_ hf.out.symm, rfl⟩
 ·have hf := hd_ (txtB_len (lo := lo) h1)
  have h1' : (most : Int) < (s.size : Int) := by omega
  go_enter Tryz.func134, Tryz.ntmps134
  go_wp2_with fail
  go_ret
  exact ⟨rb_ hf.out.symm, rfl⟩
def WBd (ws : List ByteArray) : Prop := ∀ i, i < ws.length → (wd ws i).size ≤ 100000000
theorem sizes_bd {ws : List ByteArray} (h : WBd ws) : ∀ n, n ≤ ws.length → 0 ≤ sizes ws n ∧ sizes ws n ≤ 100000000 * (n : Int)
 | 0, _ => ⟨Int.le_refl _, Int.le_refl _⟩
 | n + 1, hn => by
   have h1 := sizes_bd h n (by omega)
   have h2 := h n (by omega)
   rw [sizes]
   constructor <;> (push_cast; omega)
theorem lineLength_any (A : Option Addr) (c : Nat) (ws : List ByteArray) (w : World) (h : Rds w 1 A ws.length (strs ws)) (hn : ws.length ≤ 100000000) (hf : WBd ws) :
 Calls Tryz.prog 132 #[.slice A ws.length c] w fun e w' => e = .returned (i64 (longL ws)) ∧ w = w' := by
 have HF := hd_ hf
 clear hf
 go_enter Tryz.func132, Tryz.ntmps132
 go_wp2_with fail
 go_loopw [3, 11] (fun t3 t11 wr => ∃ (k : Nat) (z : Int), k ≤ ws.length ∧ t11 = i64 k ∧ t3 = .int .i64 z ∧ Hid (z = (ws.length : Int) - 1 + sizes ws k) ∧ wr = w) (fun _ t11 _ => ws.length - (intOf t11).toNat)
 case atStart => exact ⟨0, _, by omega, rfl, rfl, hd_ (by rw [sizes]; omega), rfl⟩
 case round =>
  obtain ⟨k, z, hk, rfl, rfl, HZ, rfl⟩ := hrel
  have hsz := sizes_bd HF.out k hk
  have hz1 : -1 ≤ z := by rw [HZ.out]; omega
  have hz2 : z ≤ 20000000000000000 := by rw [HZ.out]; omega
  by_cases hlt : k < ws.length
  ·obtain ⟨b, off, rfl, hb, c0⟩ := wd_at h hlt
   have c0 := c0 k hlt
   have f1 := HF.out k hlt
   have HZ2 := hd_ (show z + ((wd ws k).size : Int) = (ws.length : Int) - 1 + sizes ws (k + 1) from by rw [HZ.out, sizes]; omega)
   clear HZ hsz h
   go_wp2_with fail
   refine ⟨⟨k + 1, _, by omega, by go_num, rfl, HZ2, by first | rfl | trivial⟩, by simp [intOf]; try omega⟩
  ·obtain rfl : k = ws.length := by omega
   obtain ⟨v, hv⟩ := nm_ ((if z < 0 then 0 else z))
   have hv2 : max z 0 = v := by rw [← hv]; split <;> omega
   have HL : Hid (longL ws = v) := hd_ (by rw [longL, ← HZ.out, ← hv]; (repeat' split) <;> omega)
   clear HZ hsz h
   go_wp2_with fail
   go_ret
   rw [HL.out]
   exact ⟨rfl, rfl⟩
theorem repeat_any (b : UInt8) (n : Int) (w : World) (hn : n ≤ 100000) (h0 : -1000000000 ≤ n) :
 Calls Tryz.prog 136 #[.string (bs [b]), i64 n] w fun e w' => e = .returned (.string (bs (List.replicate n.toNat b))) ∧ UpOf w w' := by
 have hOwn := hd_ (World.ownsRow_lit (base := w.heap.size) (e := 5) (size := 1) w #[] 0 (Nat.le_refl _) (by unfold maxLen; omega) rfl)
 obtain ⟨s, hs⟩ := nm_ (bs [b])
 have HS : Hid (s.data.toList = [b]) := hd_ (by rw [← hs, bs_list])
 have hs1 : s.size = 1 := by rw [← hs]; rfl
 rw [hs]
 clear hs
 obtain ⟨N, hN⟩ : ∃ N : Nat, n.toNat = N := ⟨_, rfl⟩
 have hmx : (if n < 0 then 0 else n) = (N : Int) := by split <;> omega
 have hN1 : N ≤ 100000 := by omega
 rw [hN]
 clear hN
 go_enter Tryz.func136, Tryz.ntmps136
 go_wp2_with fail
 go_loopw [5, 9] (fun t5 t9 wr => ∃ (k : Nat) (L : List UInt8) (A1 : Option Addr) (c1 : Nat), k ≤ N ∧ t9 = i64 k ∧ t5 = .slice A1 L.length c1 ∧ Hid (L = List.replicate k b) ∧ Hid (wr.ownsRow w.heap.size 5 1 (.slice A1 L.length c1) L.length (Lib.byteCells L)) ∧ ∃ g : Up w, wr = up w g) (fun _ t9 _ => N - (intOf t9).toNat)
 case atStart => exact ⟨0, [], _, _, by omega, rfl, rfl, hd_ rfl, hd_ hOwn.out, ex_up bw_⟩
 case round =>
  obtain ⟨k, L, A1, c1, hk, rfl, rfl, HE, HO, g, rfl⟩ := hrel
  clear hOwn
  by_cases hlt : k < N
  ·have hL : L.length ≤ 100000 := by rw [HE.out, List.length_replicate]; omega
   go_wp2_with (first | (at_builtin; go_must (refine wpl_appS rfl _ _ 22 9 rfl w w.heap.size 5 el_byte Tryz.underlying9 A1 c1 L rfl (ob_ HO.out bw_) s rfl (by omega) (ub_ w _).size bw_ (Nat.le_refl _) ?_; intro A2 c2 g2 o2)))
   refine ⟨⟨k + 1, L ++ s.data.toList, A2, c2, by omega, by go_num, congrArg (fun n => Value.slice A2 n c2) (by rw [List.length_append, HS.out]; rfl), hd_ (by rw [HE.out, HS.out, List.replicate_succ']), hd_ o2, ex_up bw_⟩, by simp [intOf]; try omega⟩
  ·obtain rfl : k = N := by omega
   have hcv := conv_own HO.out rfl (Below.refl _ _)
   have hfin := hd_ HE.out
   clear HE
   go_wp2_with fail
   go_ret
   rw [← hfin.out]
   exact ⟨rfl, uw_⟩
def mvX (l : List Int) (k c : Nat) : Int := if k = 0 then (l.find? fun s => decide ((c : Int) < s)).getD 0 else if k = 1 then (c : Int) - 1 else (c : Int) + 1
theorem mvX_eq {l : List Int} {k c d : Nat} (hv : vStops l = true) (h : mvTo l k c = some d) : mvX l k c = d := by
 unfold mvTo at h
 unfold mvX
 by_cases h0 : k = 0
 ·rw [if_pos h0] at h ⊢
  simp only [tabOf, Option.map_eq_some_iff] at h
  obtain ⟨s, hs, rfl⟩ := h
  have := stop_bd hv s (List.mem_of_find?_eq_some hs)
  rw [hs]
  show s = _
  omega
 ·rw [if_neg h0] at h ⊢
  by_cases h1 : k = 1
  ·rw [if_pos h1] at h ⊢
   split at h
   ·injection h with h; omega
   ·cases h
  ·rw [if_neg h1] at h ⊢
   split at h
   ·injection h with h; omega
   ·cases h
theorem find_num {l : List Int} {c k : Nat} (hk : k < l.length) (h : (c : Int) < num l k) (hn : ∀ j, j < k → ¬ (c : Int) < num l j) : l.find? (fun s => decide ((c : Int) < s)) = some (num l k) := by
 rw [List.find?_eq_some_iff_getElem]
 refine ⟨decide_eq_true h, k, hk, num_eq hk, fun j hj => ?_⟩
 have := hn j hj
 rw [← num_eq (by omega)] at this
 simp [this]
theorem find_none {l : List Int} {c : Nat} (hn : ∀ j, j < l.length → ¬ (c : Int) < num l j) : l.find? (fun s => decide ((c : Int) < s)) = none := by
 rw [List.find?_eq_none]
 intro s hs
 obtain ⟨j, hj, rfl⟩ := List.getElem_of_mem hs
 rw [num_eq hj]
 simpa using hn j hj
theorem moved_any (k c : Nat) (A : Option Addr) (cap : Nat) (l : List Int) (w : World) (hk : k < 3) (hc : c ≤ 30) (h : Rds w 1 A l.length (ics l)) (hn : l.length ≤ 100000000) (x : Int) (hx : ((mvB k).toNat : Int) = x) :
 Calls Tryz.prog 207 #[.slice A l.length cap, i64 c, .int .u8 x] w fun e w' => e = .returned (.tuple #[i64 (mvX l k c), .bool (mvTo l k c).isSome]) ∧ UpOf w w' := by
 have h3 : k = 2 ∨ k = 1 ∨ k = 0 := by omega
 rcases h3 with rfl | rfl | rfl
 ·obtain rfl : x = 62 := hx.symm
  have hf : Hid (mvX l 2 c = (c : Int) + 1 ∧ (mvTo l 2 c).isSome = decide ((c : Int) < 30)) := by
   refine ⟨rfl, ?_⟩
   by_cases q : c < 30
   ·rw [decide_eq_true (by omega), mvTo, if_neg (by omega), if_neg (by omega), if_pos q]; rfl
   ·rw [decide_eq_false (by omega), mvTo, if_neg (by omega), if_neg (by omega), if_neg q]; rfl
  go_enter Tryz.func207, Tryz.ntmps207
  go_wp2_with fail
  all_goals go_ret2
  all_goals exact ⟨by rw [hf.out.1, hf.out.2] <;> rfl, uw_⟩
 ·obtain rfl : x = 60 := hx.symm
  have hf : Hid (mvX l 1 c = (c : Int) - 1 ∧ (mvTo l 1 c).isSome = decide (0 < c)) := by
   refine ⟨rfl, ?_⟩
   by_cases q : 0 < c
   ·rw [decide_eq_true (by omega), mvTo, if_neg (by omega), if_pos rfl, if_pos q]; rfl
   ·rw [decide_eq_false (by omega), mvTo, if_neg (by omega), if_pos rfl, if_neg q]; rfl
  go_enter Tryz.func207, Tryz.ntmps207
  go_wp2_with fail
  all_goals go_ret2
  all_goals exact ⟨by rw [hf.out.1, hf.out.2] <;> rfl, uw_⟩
 ·obtain rfl : x = 35 := hx.symm
  go_enter Tryz.func207, Tryz.ntmps207
  go_wp2_with fail
  go_loopw [25] (fun i wr => ∃ k : Nat, k ≤ l.length ∧ i = i64 k ∧ Hid (∀ j, j < k → ¬ (c : Int) < num l j) ∧ ∃ g : Up w, wr = up w g) (fun i _ => l.length - (intOf i).toNat)
  case atStart => exact ⟨0, by omega, rfl, fun i hi => by omega, ex_up bw_⟩
  case round =>
   obtain ⟨k, hk, rfl, hok, g, rfl⟩ := hrel
   by_cases hlt : k < l.length
   ·obtain ⟨b, off, rfl, hb, c0⟩ := num_at h hlt
    by_cases q : (c : Int) < num l k
    ·have hf : Hid (mvX l 0 c = num l k ∧ (mvTo l 0 c).isSome = true) := by
      have := find_num hlt q hok.out
      exact ⟨by rw [mvX, if_pos rfl, this]; rfl, by rw [mvTo, if_pos rfl, tabOf, this]; rfl⟩
     go_wp2_with fail
     go_ret2
     exact ⟨by rw [hf.out.1, hf.out.2] <;> rfl, uw_⟩
    ·have hq := hd_ q
     go_wp2_with fail
     go_roundw
     case rel => exact ⟨k + 1, by omega, by go_num, lt_extD (P := fun j => ¬ (c : Int) < num l j) hok.out hq.out, ex_up bw_⟩
     case measure => (simp [intOf]; try omega)
   ·have hf : Hid (mvX l 0 c = 0 ∧ (mvTo l 0 c).isSome = false) := by
     have := find_none (l := l) (c := c) (fun i hi => hok.out i (by omega))
     exact ⟨by rw [mvX, if_pos rfl, this]; rfl, by rw [mvTo, if_pos rfl, tabOf, this]; rfl⟩
    go_wp2_with fail
    go_ret2
    exact ⟨by rw [hf.out.1, hf.out.2] <;> rfl, uw_⟩
theorem l11Tab_any (c : Nat) (A : Option Addr) (cap : Nat) (l : List Int) (w : World) (h : Rds w 1 A l.length (ics l)) (hn : l.length ≤ 100000000) :
 Calls Tryz.prog 232 #[.slice A l.length cap, i64 c] w fun e w' => e = .returned (i64 ((l.find? fun s => decide ((c : Int) < s)).getD (-1))) ∧ UpOf w w' := by
 go_enter Tryz.func232, Tryz.ntmps232
 go_wp2_with fail
 go_loopw [5] (fun i wr => ∃ k : Nat, k ≤ l.length ∧ i = i64 k ∧ Hid (∀ j, j < k → ¬ (c : Int) < num l j) ∧ ∃ g : Up w, wr = up w g) (fun i _ => l.length - (intOf i).toNat)
 case atStart => exact ⟨0, by omega, rfl, fun i hi => by omega, ex_up bw_⟩
 case round =>
  obtain ⟨k, hk, rfl, hok, g, rfl⟩ := hrel
  by_cases hlt : k < l.length
  ·obtain ⟨b, off, rfl, hb, c0⟩ := num_at h hlt
   by_cases q : (c : Int) < num l k
   ·have hf := hd_ (find_num hlt q hok.out)
    go_wp2_with fail
    go_ret
    exact ⟨by rw [hf.out] <;> rfl, uw_⟩
   ·have hq := hd_ q
    go_wp2_with fail
    go_roundw
    case rel => exact ⟨k + 1, by omega, by go_num, lt_extD (P := fun j => ¬ (c : Int) < num l j) hok.out hq.out, ex_up bw_⟩
    case measure => (simp [intOf]; try omega)
  ·have hf := hd_ (find_none (l := l) (c := c) (fun i hi => hok.out i (by omega)))
   go_wp2_with fail
   go_ret
   exact ⟨by rw [hf.out] <;> rfl, uw_⟩
theorem l11Column_any (n : Int) (w : World) : Calls Tryz.prog 233 #[i64 n] w fun e w' => e = .returned (.bool (btw n 0 30)) ∧ UpOf w w' := by
 go_enter Tryz.func233, Tryz.ntmps233
 go_wp2_with (first | (go_at_call 141; refine cs_ (in_any _ _ _ _) ?_))
 go_ret
 exact ⟨rfl, uw_⟩
def nxX (l : List Int) (k c : Nat) : Int := match mvTo l k c with | some d => (d : Int) | none => -1
theorem nxX_some {l : List Int} {k c d : Nat} (h : mvTo l k c = some d) : nxX l k c = d := by rw [nxX, h]
theorem nxX_none {l : List Int} {k c : Nat} (h : mvTo l k c = none) : nxX l k c = -1 := by rw [nxX, h]
theorem l11Next_any (k c : Nat) (A : Option Addr) (cap : Nat) (l : List Int) (w : World) (hk : k < 3) (hc : c ≤ 30) (hv : vStops l = true) (h : Rds w 1 A l.length (ics l)) (hn : l.length ≤ 100000000) (x : Int) (hx : ((mvB k).toNat : Int) = x) :
 Calls Tryz.prog 231 #[.slice A l.length cap, i64 c, .int .u8 x] w fun e w' => e = .returned (i64 (nxX l k c)) ∧ UpOf w w' := by
 have h3 : k = 2 ∨ k = 1 ∨ k = 0 := by omega
 rcases h3 with rfl | rfl | rfl
 ·obtain rfl : x = 62 := hx.symm
  by_cases q : c < 30
  ·have hf := hd_ (nxX_some (l := l) (k := 2) (c := c) (d := c + 1) (by rw [mvTo, if_neg (by omega), if_neg (by omega), if_pos q]))
   have hb : btw ((c : Int) + 1) 0 30 = true := decide_eq_true (by omega)
   go_enter Tryz.func231, Tryz.ntmps231
   go_wp2_with (first | (go_at_call 233; refine cu_ (ra_ (l11Column_any _ _) hb) fun g => ?_))
   go_ret
   exact ⟨by rw [hf.out] <;> rfl, uw_⟩
  ·have hf := hd_ (nxX_none (l := l) (k := 2) (c := c) (by rw [mvTo, if_neg (by omega), if_neg (by omega), if_neg q]))
   have hb : btw ((c : Int) + 1) 0 30 = false := decide_eq_false (by omega)
   go_enter Tryz.func231, Tryz.ntmps231
   go_wp2_with (first | (go_at_call 233; refine cu_ (ra_ (l11Column_any _ _) hb) fun g => ?_))
   go_ret
   exact ⟨by rw [hf.out] <;> rfl, uw_⟩
 ·obtain rfl : x = 60 := hx.symm
  by_cases q : 0 < c
  ·have hf := hd_ (nxX_some (l := l) (k := 1) (c := c) (d := c - 1) (by rw [mvTo, if_neg (by omega), if_pos rfl, if_pos q]))
   have hb : btw ((c : Int) - 1) 0 30 = true := decide_eq_true (by omega)
   have he : Hid (((c - 1 : Nat) : Int) = (c : Int) - 1) := by show _ = _; omega
   go_enter Tryz.func231, Tryz.ntmps231
   go_wp2_with (first | (go_at_call 233; refine cu_ (ra_ (l11Column_any _ _) hb) fun g => ?_))
   go_ret
   exact ⟨by rw [hf.out, he.out] <;> rfl, uw_⟩
  ·have hf := hd_ (nxX_none (l := l) (k := 1) (c := c) (by rw [mvTo, if_neg (by omega), if_pos rfl, if_neg q]))
   have hb : btw ((c : Int) - 1) 0 30 = false := decide_eq_false (by omega)
   go_enter Tryz.func231, Tryz.ntmps231
   go_wp2_with (first | (go_at_call 233; refine cu_ (ra_ (l11Column_any _ _) hb) fun g => ?_))
   go_ret
   exact ⟨by rw [hf.out] <;> rfl, uw_⟩
 ·obtain rfl : x = 35 := hx.symm
  cases q : l.find? (fun s => decide ((c : Int) < s)) with
  | none =>
    have hf := hd_ (nxX_none (l := l) (k := 0) (c := c) (by rw [mvTo, if_pos rfl, tabOf, q]; rfl))
    have hcl := hd_ (fun (W : World) hW => show Calls Tryz.prog 232 #[.slice A l.length cap, i64 c] W fun e w' => e = .returned (i64 (-1)) ∧ UpOf W w' from by have := l11Tab_any c A cap l W (h.below hW) hn; rwa [q] at this)
    have hb : btw (-1) 0 30 = false := rfl
    clear q
    go_enter Tryz.func231, Tryz.ntmps231
    go_wp2_with (first | (go_at_call 232; refine cu_ (hcl.out _ bw_) fun g => ?_) | (go_at_call 233; refine cu_ (ra_ (l11Column_any _ _) hb) fun g => ?_))
    go_ret
    exact ⟨by rw [hf.out] <;> rfl, uw_⟩
  | some s =>
    have hs := stop_bd hv s (List.mem_of_find?_eq_some q)
    have hf := hd_ (nxX_some (l := l) (k := 0) (c := c) (d := s.toNat) (by rw [mvTo, if_pos rfl, tabOf, q]; rfl))
    have he : Hid (((s.toNat : Nat) : Int) = s) := by show _ = _; omega
    have hcl := hd_ (fun (W : World) hW => show Calls Tryz.prog 232 #[.slice A l.length cap, i64 c] W fun e w' => e = .returned (i64 s) ∧ UpOf W w' from by have := l11Tab_any c A cap l W (h.below hW) hn; rwa [q] at this)
    have hb : btw s 0 30 = true := decide_eq_true (by omega)
    clear q
    go_enter Tryz.func231, Tryz.ntmps231
    go_wp2_with (first | (go_at_call 232; refine cu_ (hcl.out _ bw_) fun g => ?_) | (go_at_call 233; refine cu_ (ra_ (l11Column_any _ _) hb) fun g => ?_))
    go_ret
    exact ⟨by rw [hf.out, he.out] <;> rfl, uw_⟩
def arrD (f : Nat → Int) : Array Value := ((List.range 31).map fun i => i64 (f i)).toArray
theorem arrD_size (f : Nat → Int) : (arrD f).size = 31 := by simp [arrD]
theorem arrD_get (f : Nat → Int) {i : Nat} (h : i < 31) : (arrD f)[i]? = some (i64 (f i)) := by
 simp [arrD, h]
theorem arrD_set (f : Nat → Int) (i : Nat) (v : Int) : (arrD f).setIfInBounds i (i64 v) = arrD fun j => if j = i then v else f j := by
 apply Array.ext_getElem?
 intro j
 by_cases hj : j < 31
 ·rw [arrD_get _ hj, Array.getElem?_setIfInBounds]
  by_cases e : i = j
  ·subst e
   rw [if_pos rfl, if_pos (by rw [arrD_size]; exact hj), if_pos rfl]
  ·rw [if_neg e, arrD_get _ hj, if_neg (fun h => e h.symm)]
 ·rw [Array.getElem?_eq_none (by rw [Array.size_setIfInBounds, arrD_size]; omega), Array.getElem?_eq_none (by rw [arrD_size]; omega)]
theorem arrD_one (f : Nat → Int) : (arrD f).all (·.oneCell') = true := by
 rw [Array.all_eq_true]
 intro i hi
 rw [arrD_size] at hi
 have := arrD_get f hi
 rw [Array.getElem?_eq_getElem (by rw [arrD_size]; exact hi)] at this
 injection this with this
 rw [this]; rfl
theorem arrD_zero : arrD (fun _ => 0) = #[i64 0, i64 0, i64 0, i64 0, i64 0, i64 0, i64 0, i64 0, i64 0, i64 0, i64 0, i64 0, i64 0, i64 0, i64 0, i64 0, i64 0, i64 0, i64 0, i64 0, i64 0, i64 0, i64 0, i64 0, i64 0, i64 0, i64 0, i64 0, i64 0, i64 0, i64 0] := rfl
theorem arrD_congr {f g : Nat → Int} (h : ∀ i, i < 31 → f i = g i) : arrD f = arrD g := by
 unfold arrD
 congr 1
 exact List.map_congr_left fun i hi => by rw [h i (List.mem_range.1 hi)]
def lvl (l : List Int) (tg m c : Nat) : Int := if dst l tg c ≤ m then (dst l tg c : Int) else -1
def midD (l : List Int) (tg m c i : Nat) : Int := if i < c then lvl l tg (m + 1) i else lvl l tg m i
theorem mvTo_ne {l : List Int} {k c d : Nat} (hv : vStops l = true) (h : mvTo l k c = some d) : d ≠ c := by
 unfold mvTo at h
 split at h
 ·have := (tabOf_bd hv h).2; omega
 ·split at h
  ·split at h
   ·injection h with h; omega
   ·cases h
  ·split at h
   ·injection h with h; omega
   ·cases h
theorem Blk.row {w : World} {p : Nat} {t : TypeId} {c c' : Array Value} (h : Blk w p t c) : Blk (w.setRow p c') p t c' := setRow_heap w p c c' t _ h
structure DS (w wr : World) (p q : Nat) (f : Nat → Int) : Prop where
 z : Blk wr p 215 (arrD fun _ => 0)
 a : Blk wr q 215 (arrD f)
 u : UpOf w wr
 hp : w.heap.size ≤ p
 hq : w.heap.size ≤ q
 ne : p ≠ q
section
variable {w wr wr' : World} {p q : Nat} {f g : Nat → Int}
theorem DS.congr (h : DS w wr p q f) (e : ∀ i, i < 31 → f i = g i) : DS w wr p q g := ⟨h.z, arrD_congr e ▸ h.a, h.u, h.hp, h.hq, h.ne⟩
theorem DS.below (h : DS w wr p q f) (hb : Below wr.heap.size wr wr') : DS w wr' p q f :=
 ⟨h.z.up ⟨wr', hb⟩, h.a.up ⟨wr', hb⟩, h.u.tr hb, h.hp, h.hq, h.ne⟩
theorem DS.put (h : DS w wr p q f) (i : Nat) (v : Int) : DS w (wr.setCell ⟨q, i, none⟩ (i64 v)) p q (fun j => if j = i then v else f j) :=
 ⟨h.z.far (p := ⟨q, i, none⟩) h.ne _, by rw [← arrD_set]; exact h.a.put i _, UpOf.of (h.u.below.setCell (p := ⟨q, i, none⟩) h.hq _), h.hp, h.hq, h.ne⟩
theorem DS.cell (h : DS w wr p q f) {i : Nat} (hi : i < 31) : wr.cell? ⟨q, i, none⟩ = some (i64 (f i)) := by rw [h.a.cell, arrD_get _ hi]
end
def hitM (l : List Int) (tg m c j : Nat) : Bool := (List.range j).any fun k => match mvTo l k c with | some d => decide (dst l tg d = m) | none => false
theorem hitM_step (l : List Int) (tg m c j : Nat) : hitM l tg m c (j + 1) = (hitM l tg m c j || match mvTo l j c with | some d => decide (dst l tg d = m) | none => false) := by
 simp only [hitM, List.range_succ, List.any_append, List.any_cons, List.any_nil, Bool.or_false]
theorem hitM_all {l : List Int} {tg m c : Nat} (hv : vStops l = true) (ht : tg ≤ 30) (hc : c ≤ 30) (hd : m < dst l tg c) : hitM l tg m c 3 = decide (dst l tg c = m + 1) := by
 rw [Bool.eq_iff_iff, decide_eq_true_eq]
 simp only [hitM, List.any_eq_true, List.mem_range]
 constructor
 ·rintro ⟨k, hk, h⟩
  cases hm : mvTo l k c with
  | none => rw [hm] at h; cases h
  | some d =>
    rw [hm] at h
    have h := of_decide_eq_true h
    have := dst_le (tg := tg) hv ht hc hk hm
    omega
 ·intro h
  have hne : c ≠ tg := fun e => by subst e; rw [dst_self l ht] at hd; omega
  obtain ⟨k, d, hk, hm, he⟩ := dst_ex hv ht hc hne
  exact ⟨k, hk, by rw [hm]; exact decide_eq_true (by omega)⟩
def anyL (l : List Int) (tg m c : Nat) : Bool := (List.range c).any fun i => decide (dst l tg i = m)
theorem anyL_step (l : List Int) (tg m c : Nat) : anyL l tg m (c + 1) = (anyL l tg m c || decide (dst l tg c = m)) := by
 simp only [anyL, List.range_succ, List.any_append, List.any_cons, List.any_nil, Bool.or_false]
theorem anyL_true {l : List Int} {tg m : Nat} (ht : tg ≤ 30) (h : anyL l tg m 31 = true) : m ≤ 30 := by
 simp only [anyL, List.any_eq_true, List.mem_range, decide_eq_true_eq] at h
 obtain ⟨i, hi, e⟩ := h
 have := (dst_spec l ht (show i ≤ 30 by omega)).1
 omega
theorem anyL_false {l : List Int} {tg m : Nat} (h : anyL l tg m 31 = false) : ∀ c, c ≤ 30 → dst l tg c ≠ m := by
 intro c hc e
 rw [← Bool.not_eq_true] at h
 refine h ?_
 simp only [anyL, List.any_eq_true, List.mem_range, decide_eq_true_eq]
 exact ⟨c, by omega, e⟩
theorem midD_skip {l : List Int} {tg m k : Nat} (hd : dst l tg k ≤ m) (i : Nat) : midD l tg m k i = midD l tg m (k + 1) i := by
 by_cases e : i = k
 ·subst e
  unfold midD lvl
  (repeat' split) <;> omega
 ·unfold midD lvl
  (repeat' split) <;> omega
theorem midD_step {l : List Int} {tg m k : Nat} (hv : vStops l = true) (ht : tg ≤ 30) (hk : k ≤ 30) (hd : m < dst l tg k) (i : Nat) :
 (if i = k then (if hitM l tg m k 3 then ((m : Int) + 1) else -1) else midD l tg m k i) = midD l tg m (k + 1) i := by
 by_cases e : i = k
 ·subst e
  rw [if_pos rfl, hitM_all hv ht hk hd]
  simp only [decide_eq_true_eq]
  unfold midD lvl
  (repeat' split) <;> omega
 ·rw [if_neg e]
  unfold midD lvl
  (repeat' split) <;> omega
theorem midD_val (l : List Int) (tg m k d : Nat) : (midD l tg m k d == (m : Int)) = decide (dst l tg d = m) := by
 rw [Bool.eq_iff_iff, beq_iff_eq, decide_eq_true_eq]
 unfold midD lvl
 split <;> split <;> omega
def Lit3 (w : World) (b : Nat) : Prop := w.heap[b]? = some (.cells #[.int .u8 35, .int .u8 60, .int .u8 62] 5 (3, 4))
theorem Lit3.cell {w : World} {b j : Nat} (h : Lit3 w b) (hj : j < 3) : w.cell? ⟨b, j, none⟩ = some (.int .u8 ((mvB j).toNat : Int)) := by
 unfold Lit3 at h
 have h3 : j = 0 ∨ j = 1 ∨ j = 2 := by omega
 rcases h3 with rfl | rfl | rfl <;> (simp [World.cell?, h]; rfl)
theorem Lit3.lt {w : World} {b : Nat} (h : Lit3 w b) : b < w.heap.size := (Array.getElem?_eq_some_iff.1 h).1
theorem Lit3.far {w : World} {b : Nat} (h : Lit3 w b) {p : Addr} (hp : b ≠ p.block) (u : Value) : Lit3 (w.setCell p u) b := (Below.heap_setCell w p u b hp).trans h
theorem Lit3.below {w w' : World} {b : Nat} (h : Lit3 w b) (hb : Below w.heap.size w w') : Lit3 w' b := (hb.block b h.lt).trans h
theorem distances_any (tg : Nat) (A : Option Addr) (cap : Nat) (l : List Int) (w : World) (ht : tg ≤ 30) (hv : vStops l = true) (h : Rds w 1 A l.length (ics l)) (hn : l.length ≤ 100000000) :
 Calls Tryz.prog 206 #[.slice A l.length cap, i64 tg] w fun e w' => e = .returned (.agg (arrD fun c => dst l tg c)) ∧ UpOf w w' := by
 have HR := hd_ h
 have HV := hd_ hv
 clear h hv
 go_enter Tryz.func206, Tryz.ntmps206
 go_upto_region 1 with (fail)
 refine wpg (R := fun U => Hid (Blk U w.heap.size 215 (arrD fun _ => 0)) ∧ Hid (UpOf w U)) ⟨hd_ (by rw [arrD_zero]; exact Blk.new _ _ _), hd_ uw_⟩ (fun V0 z => ?_)
 obtain ⟨z1, z2⟩ := z
 have hst : (storeCells ⟨V0.heap.size, 0, none⟩ (arrD fun _ => 0).toList 0).run Tryz.prog (V0.alloc (.cells #[Value.int .i64 0, Value.int .i64 0, Value.int .i64 0, Value.int .i64 0, Value.int .i64 0, Value.int .i64 0, Value.int .i64 0, Value.int .i64 0, Value.int .i64 0, Value.int .i64 0, Value.int .i64 0, Value.int .i64 0, Value.int .i64 0, Value.int .i64 0, Value.int .i64 0, Value.int .i64 0, Value.int .i64 0, Value.int .i64 0, Value.int .i64 0, Value.int .i64 0, Value.int .i64 0, Value.int .i64 0, Value.int .i64 0, Value.int .i64 0, Value.int .i64 0, Value.int .i64 0, Value.int .i64 0, Value.int .i64 0, Value.int .i64 0, Value.int .i64 0, Value.int .i64 0] 215)) = .ok () (V0.alloc (.cells (arrD fun _ => 0) 215)) := run_storeCells_new (P := Tryz.prog) V0 215 #[Value.int .i64 0, Value.int .i64 0, Value.int .i64 0, Value.int .i64 0, Value.int .i64 0, Value.int .i64 0, Value.int .i64 0, Value.int .i64 0, Value.int .i64 0, Value.int .i64 0, Value.int .i64 0, Value.int .i64 0, Value.int .i64 0, Value.int .i64 0, Value.int .i64 0, Value.int .i64 0, Value.int .i64 0, Value.int .i64 0, Value.int .i64 0, Value.int .i64 0, Value.int .i64 0, Value.int .i64 0, Value.int .i64 0, Value.int .i64 0, Value.int .i64 0, Value.int .i64 0, Value.int .i64 0, Value.int .i64 0, Value.int .i64 0, Value.int .i64 0, Value.int .i64 0] (arrD fun _ => 0) (by kernel_rfl) rfl (by kernel_rfl)
 go_upto_region 2 with (refine wpList_buildTo rfl 215 _ rfl (some 14) rfl (arrD fun _ => 0) (by kernel_rfl) ?_)
 refine wpg (R := fun U => Hid (DS w U w.heap.size V0.heap.size (fun _ => 0))) (hd_ ⟨z1.out.alloc _, Blk.new _ _ _, z2.out.tr bw_, Nat.le_refl _, z2.out.below.size, Nat.ne_of_lt z1.out.lt⟩) (fun V z => ?_)
 clear z1 z2 hst
 obtain ⟨p, hp⟩ := nm_ (w.heap.size)
 rw [hp] at z
 rw [hp]
 clear hp
 generalize V0.heap.size = q at *
 go_wp2_with fail
 go_loopw [15] (fun i wr => ∃ k : Nat, k ≤ 31 ∧ i = i64 k ∧ Hid (DS w wr p q (fun i => if i < k then -1 else 0))) (fun i _ => 31 - (intOf i).toNat)
 case atStart => exact ⟨0, by omega, rfl, hd_ (z.out.congr fun i hi => by rw [if_neg (by omega)])⟩
 case round =>
  obtain ⟨k, hk, rfl, D⟩ := hrel
  clear z
  by_cases hlt : k < 31
  ·have hlt' : (k : Int) < 31 := by omega
   have d0 := D.out.a.lt
   have d1 := D.out.cell hlt
   have d2 := D.out.a.free k
   go_wp2_with fail
   go_roundw
   case rel => exact ⟨k + 1, by omega, by go_num, hd_ ((D.out.put k (-1)).congr fun i hi => by
    by_cases e : i = k
    ·rw [if_pos e, if_pos (by omega)]
    ·rw [if_neg e]; by_cases e2 : i < k
     ·rw [if_pos e2, if_pos (by omega)]
     ·rw [if_neg e2, if_neg (by omega)])⟩
   case measure => (simp [intOf]; try omega)
  ·have hge : ¬ (k : Int) < 31 := by omega
   have D0 := hd_ (D.out.congr (g := fun _ => -1) fun i hi => by rw [if_pos (by omega)])
   clear D hlt
   clear hk
   have d0 := D0.out.a.lt
   have d1 := D0.out.cell (show tg < 31 by omega)
   have d2 := D0.out.a.free tg
   have ht' : (tg : Int) < 31 := by omega
   go_wp2_with fail
   have D1 := hd_ ((D0.out.put tg 0).congr (g := lvl l tg 0) fun i hi => by
    show (if i = tg then (0 : Int) else -1) = if dst l tg i ≤ 0 then (dst l tg i : Int) else -1
    by_cases e : i = tg
    ·rw [if_pos e, e, dst_self l ht, if_pos (Nat.le_refl _)]; rfl
    ·rw [if_neg e, if_neg (fun h => e (dst_zero (c := i) ht (by omega) (Nat.le_zero.1 h)))])
   refine wpg (R := fun U => Hid (DS w U p q (lvl l tg 0))) D1 (fun V1 D2 => ?_)
   clear D0 D1 d0 d1 d2
   go_loopw [7, 8] (fun ch fr wr => ∃ (b : Bool) (m : Nat), ch = .bool b ∧ fr = i64 m ∧ m ≤ 31 ∧ (b = true → m ≤ 30) ∧ Hid (b = false → ∀ c, c ≤ 30 → dst l tg c ≤ m) ∧ Hid (DS w wr p q (lvl l tg m))) (fun _ fr _ => 32 - (intOf fr).toNat)
   case atStart => exact ⟨true, 0, rfl, rfl, by omega, fun _ => by omega, hd_ (fun h => by cases h), D2⟩
   case round =>
    obtain ⟨b, m, rfl, rfl, hm, hbm, hb0, D⟩ := hrel
    clear D2
    cases b with
    | false =>
      have hall := hb0.out rfl
      have D3 := hd_ (D.out.congr (g := fun c => (dst l tg c : Int)) fun i hi => by
       unfold lvl
       rw [if_pos (hall i (by omega))])
      clear D hall hb0 hbm
      go_upto_region 25 with (fail)
      go_step
      (refine wpList_load_row rfl 215 _ rfl q rfl 215 (arrD fun c => dst l tg c) (0, 0) (.array 31 2) D3.out.a (by kernel_rfl) rfl (by rw [arrD_size]; kernel_rfl) ?_; refine wpList_store_row rfl 215 _ _ rfl p (arrD fun c => dst l tg c) rfl rfl 215 (arrD fun _ => 0) D3.out.z (by rw [arrD_size]; kernel_rfl) (by rw [arrD_size, arrD_size]) (arrD_one _) ?_)
      have hz : Hid (UpOf w (wr.setRow p (arrD fun c => (dst l tg c : Int))) ∧ (wr.setRow p (arrD fun c => (dst l tg c : Int))).heap[p]? = some (.cells (arrD fun c => (dst l tg c : Int)) 215 (0, 0))) := by
       exact hd_ ⟨UpOf.of (below_setRow D3.out.u.below D3.out.hp _), Blk.row D3.out.z⟩
      generalize wr.setRow p (arrD fun c => (dst l tg c : Int)) = W at hz ⊢
      go_wp2_with fail
      exact bodyPost_ret (v := .agg (arrD fun c => (dst l tg c : Int))) (results_cell_row (p := 4) (ty := 215) rfl _ _ p 215 _ (0, 0) (.array 31 2) rfl hz.out.2 (by kernel_rfl) rfl (by rw [arrD_size]; kernel_rfl)) rfl ⟨rfl, hz.out.1⟩
    | true =>
      have hm30 := hbm rfl
      clear hbm hb0
      go_wp2_with fail
      go_loopw [7, 26] (fun ch c wr => ∃ k : Nat, k ≤ 31 ∧ ch = .bool (anyL l tg (m + 1) k) ∧ c = i64 k ∧ Hid (DS w wr p q (midD l tg m k))) (fun _ c _ => 31 - (intOf c).toNat)
      case atStart => exact ⟨0, by omega, rfl, rfl, hd_ (D.out.congr fun i hi => by unfold midD; rw [if_neg (by omega)])⟩
      case round =>
       obtain ⟨k, hk, rfl, rfl, E⟩ := hrel
       clear D
       by_cases hlt : k < 31
       ·have hlt' : (k : Int) < 31 := by omega
        have e0 := E.out.a.lt
        have e1 := E.out.cell hlt
        by_cases hd : dst l tg k ≤ m
        ·have hmk : midD l tg m k k = (dst l tg k : Int) := by unfold midD lvl; rw [if_neg (by omega), if_pos hd]
         have hpos : (0 : Int) ≤ (dst l tg k : Int) := by omega
         rw [hmk] at e1
         go_wp2_with fail
         refine ⟨⟨k + 1, by omega, ?_, by go_num, hd_ (E.out.congr fun i _ => midD_skip hd i)⟩, by simp [intOf]; try omega⟩
         rw [anyL_step, decide_eq_false (by omega), Bool.or_false]
        ·have hmk : midD l tg m k k = -1 := by unfold midD lvl; rw [if_neg (by omega), if_neg hd]
         rw [hmk] at e1
         obtain ⟨b, hb⟩ := nm_ (wr.heap.size)
         have hcv : (convert 22 22 (.slice (some ⟨b, 0, none⟩) 3 3)).run Tryz.prog (wr.alloc (.cells #[.int .u8 35, .int .u8 60, .int .u8 62] 5)) = .ok (.slice (some ⟨b, 0, none⟩) 3 3) (wr.alloc (.cells #[.int .u8 35, .int .u8 60, .int .u8 62] 5 (3, 4))) := by
          subst hb
          exact Lib.run_convert_bytes_const wr 22 5 #[.int .u8 35, .int .u8 60, .int .u8 62] 3 3 Tryz.underlying22 Tryz.underlying5
         have hl3 : Hid (Lit3 (wr.alloc (.cells #[.int .u8 35, .int .u8 60, .int .u8 62] 5 (3, 4))) b) := by
          subst hb
          exact hd_ (by show (wr.heap.push _)[wr.heap.size]? = _; simp)
         go_wp2_with fail
         go_loopw [36] (fun jj wr => ∃ j : Nat, j ≤ 3 ∧ jj = i64 j ∧ Hid (DS w wr p q (fun i => if i = k then (if hitM l tg m k j then ((m : Int) + 1) else -1) else midD l tg m k i) ∧ Lit3 wr b ∧ b ≠ q)) (fun jj _ => 3 - (intOf jj).toNat)
         case atStart => exact ⟨0, by omega, rfl, hd_ ⟨(E.out.below bw_).congr fun i hi => by
          by_cases e : i = k
          ·rw [if_pos e, e, hmk]; rfl
          ·rw [if_neg e], hl3.out, by have := E.out.a.lt; omega⟩⟩
         case round =>
          obtain ⟨j, hj, rfl, F⟩ := hrel
          clear E hl3 hcv e0 e1
          by_cases hj3 : j < 3
          ·have hj' : (j : Int) < 3 := by omega
           have f1 := F.out.2.1.cell hj3
           have f2 : ∀ V, Below wr.heap.size wr V → Rds V 1 A l.length (ics l) := fun V hV => HR.out.below (F.out.1.u.tr hV).below
           have F2 := hd_ f2
           clear f2
           have hk30 : k ≤ 30 := by omega
           cases hm : mvTo l j k with
           | none =>
             obtain ⟨v, hv⟩ : ∃ v : Int, mvX l j k = v := ⟨_, rfl⟩
             have hc : ∀ V, Below wr.heap.size wr V → Calls Tryz.prog 207 #[.slice A l.length cap, i64 k, .int .u8 ((mvB j).toNat : Int)] V fun e w' => e = .returned (.tuple #[i64 v, .bool false]) ∧ UpOf V w' := fun V hV => by
              have := moved_any j k A cap l V hj3 hk30 (F2.out V hV) hn _ rfl
              rwa [hv, hm] at this
             have HC := hd_ hc
             clear hc hv
             have hh : hitM l tg m k (j + 1) = hitM l tg m k j := by rw [hitM_step, hm, Bool.or_false]
             clear F2
             go_wp2_with (first | (go_at_call 207; refine cu_ (HC.out _ bw_) fun g => ?_))
             go_roundw
             case rel => exact ⟨j + 1, by omega, by go_num, hd_ ⟨(F.out.1.below bw_).congr fun i _ => by rw [hh], F.out.2.1.below bw_, F.out.2.2⟩⟩
             case measure => simp [intOf]; try omega
           | some d =>
             have hne := mvTo_ne HV.out hm
             have hd30 := mvTo_bd HV.out hk30 hm
             have hc : ∀ V, Below wr.heap.size wr V → Calls Tryz.prog 207 #[.slice A l.length cap, i64 k, .int .u8 ((mvB j).toNat : Int)] V fun e w' => e = .returned (.tuple #[i64 d, .bool true]) ∧ UpOf V w' := fun V hV => by
              have := moved_any j k A cap l V hj3 hk30 (F2.out V hV) hn _ rfl
              rwa [mvX_eq HV.out hm, hm] at this
             have HC := hd_ hc
             clear hc F2
             have hdn : (d : Int) < 31 := by omega
             have hh : hitM l tg m k (j + 1) = (hitM l tg m k j || decide (dst l tg d = m)) := by rw [hitM_step, hm]
             have hcell : ∀ g : Up wr, (up wr g).cell? ⟨q, d, none⟩ = some (i64 (midD l tg m k d)) := fun g => by
              have := (F.out.1.below g.below).cell (i := d) (by omega)
              rw [if_neg hne] at this
              exact this
             have hval := midD_val l tg m k d
             have hfr : ∀ g : Up wr, (up wr g).frozen? ⟨q, k, none⟩ = false := fun g => (F.out.1.below g.below).a.free k
             obtain ⟨o, hex⟩ : ∃ o, ∀ g : Up wr, (up wr g).cell? ⟨q, k, none⟩ = some (i64 o) := ⟨_, fun g => (F.out.1.below g.below).cell (i := k) (by omega)⟩
             generalize midD l tg m k d = v at hcell hval
             by_cases e : dst l tg d = m
             ·rw [decide_eq_true e] at hval
              go_wp2_with (first | (go_at_call 207; refine cu_ (HC.out _ bw_) fun g => ?_))
              go_roundw
              case rel => exact ⟨j + 1, by omega, by go_num, hd_ ⟨((F.out.1.below bw_).put k ((m : Int) + 1)).congr fun i _ => by
               rw [hh, decide_eq_true e, Bool.or_true, if_pos rfl]
               by_cases q : i = k
               ·rw [if_pos q, if_pos q]
               ·rw [if_neg q, if_neg q, if_neg q], (F.out.2.1.below bw_).far F.out.2.2 _, F.out.2.2⟩⟩
              case measure => simp [intOf]; try omega
             ·rw [decide_eq_false e] at hval
              go_wp2_with (first | (go_at_call 207; refine cu_ (HC.out _ bw_) fun g => ?_))
              go_roundw
              case rel => exact ⟨j + 1, by omega, by go_num, hd_ ⟨(F.out.1.below bw_).congr fun i _ => by rw [hh, decide_eq_false e, Bool.or_false], F.out.2.1.below bw_, F.out.2.2⟩⟩
              case measure => simp [intOf]; try omega
          ·obtain rfl : j = 3 := by omega
           have G := hd_ (F.out.1.congr fun i _ => midD_step HV.out ht (by omega) (Nat.lt_of_not_le hd) i)
           have g1 := G.out.cell hlt
           have g0 := G.out.a.lt
           clear F
           have hmv : midD l tg m (k + 1) k = if dst l tg k = m + 1 then (m : Int) + 1 else -1 := by
            unfold midD lvl
            (repeat' split) <;> omega
           rw [hmv] at g1
           have hst := anyL_step l tg (m + 1) k
           cases ha : anyL l tg (m + 1) k with
           | true =>
             rw [ha, Bool.true_or] at hst
             go_wp2_with fail
             refine ⟨⟨k + 1, by omega, by rw [hst], by go_num, G⟩, by simp [intOf]; try omega⟩
           | false =>
             rw [ha, Bool.false_or] at hst
             by_cases e : dst l tg k = m + 1
             ·rw [if_pos e] at g1
              rw [decide_eq_true e] at hst
              have hp : (0 : Int) ≤ (m : Int) + 1 := by omega
              go_wp2_with fail
              refine ⟨⟨k + 1, by omega, by rw [hst], by go_num, G⟩, by simp [intOf]; try omega⟩
             ·rw [if_neg e] at g1
              rw [decide_eq_false e] at hst
              go_wp2_with fail
              refine ⟨⟨k + 1, by omega, by rw [hst], by go_num, G⟩, by simp [intOf]; try omega⟩
       ·obtain rfl : k = 31 := by omega
        clear hlt
        go_wp2_with fail
        refine ⟨⟨anyL l tg (m + 1) 31, m + 1, rfl, by go_num, by omega, fun h => anyL_true ht h, hd_ (fun h c hc => Nat.le_succ_of_le (dst_gap (m := m) HV.out ht (anyL_false h) c hc)), hd_ (E.out.congr fun i hi => by unfold midD; rw [if_pos (show i < 31 from hi)])⟩, by simp [intOf]; try omega⟩
theorem planBetween_any (c0 tg : Nat) (A : Option Addr) (cap : Nat) (l : List Int) (w : World) (hc0 : c0 ≤ 30) (ht : tg ≤ 30) (hv : vStops l = true) (h : Rds w 1 A l.length (ics l)) (hn : l.length ≤ 100000000) :
 Calls Tryz.prog 168 #[.slice A l.length cap, i64 c0, i64 tg] w fun e w' => e = .returned (.string ⟨(planL l tg c0).toArray⟩) ∧ UpOf w w' := by
 have HR := hd_ h
 have HV := hd_ hv
 have HC : Hid (∀ V, Below w.heap.size w V → Calls Tryz.prog 206 #[.slice A l.length cap, i64 tg] V fun e w' => e = .returned (.agg (arrD fun c => dst l tg c)) ∧ UpOf V w') := hd_ fun V hV => distances_any tg A cap l V ht hv (h.below hV) hn
 clear h hv
 have hst : ∀ g : Up w, (storeCells ⟨(up w g).heap.size, 0, none⟩ (arrD fun c => dst l tg c).toList 0).run Tryz.prog (up w (g.al (.cells #[Value.int .i64 0, Value.int .i64 0, Value.int .i64 0, Value.int .i64 0, Value.int .i64 0, Value.int .i64 0, Value.int .i64 0, Value.int .i64 0, Value.int .i64 0, Value.int .i64 0, Value.int .i64 0, Value.int .i64 0, Value.int .i64 0, Value.int .i64 0, Value.int .i64 0, Value.int .i64 0, Value.int .i64 0, Value.int .i64 0, Value.int .i64 0, Value.int .i64 0, Value.int .i64 0, Value.int .i64 0, Value.int .i64 0, Value.int .i64 0, Value.int .i64 0, Value.int .i64 0, Value.int .i64 0, Value.int .i64 0, Value.int .i64 0, Value.int .i64 0, Value.int .i64 0] 215))) = .ok () (up w (g.al (.cells (arrD fun c => dst l tg c) 215))) := fun g => run_storeCells_new (P := Tryz.prog) (up w g) 215 _ (arrD fun c => dst l tg c) (by rw [arrD_size]; kernel_rfl) (by rw [arrD_size]; rfl) (arrD_one _)
 go_enter Tryz.func168, Tryz.ntmps168
 go_wp2_with (first | (go_at_call 206; refine cu_ (HC.out _ bw_) fun g => ?_) | ((with_reducible refine wru ?_); refine wrz fun _ => ?_))
 obtain ⟨V, hV⟩ := nm_ (up w (g.al (.cells (arrD fun c => dst l tg c) 215)))
 have hs : V.heap.size = (up w g).heap.size + 1 := by rw [← hV]; exact size_al _
 have HA : Hid (Blk V (up w g).heap.size 215 (arrD fun c => dst l tg c)) := hd_ (by rw [← hV]; exact Blk.new_al _ _)
 have HU : Hid (UpOf w V) := hd_ (by rw [← hV]; exact uw_)
 have HO : Hid ((V.alloc (.cells #[] 5)).ownsRow V.heap.size 5 1 (.slice (some ⟨(up w g).heap.size + 1, 0, none⟩) 0 0) 0 (Lib.byteCells [])) := hd_ (by
  have := World.ownsRow_lit (base := V.heap.size) (e := 5) (size := 1) V #[] 0 (Nat.le_refl _) (by unfold maxLen; omega) rfl
  rw [← hs]
  exact this)
 refine wpg (R := fun U => ∃ gq : Up V, U = up V gq ∧ Hid (U.ownsRow V.heap.size 5 1 (.slice (some ⟨(up w g).heap.size + 1, 0, none⟩) 0 0) 0 (Lib.byteCells []))) ⟨⟨V.alloc (.cells #[] 5), bw_⟩, by subst hV; rfl, hd_ (by subst hV; exact HO.out)⟩ (fun U z => ?_)
 obtain ⟨gV, rfl, HOV⟩ := z
 clear hV hs HO hst HC
 generalize (up w g).heap.size = p at *
 go_loopw [1, 8] (fun cur out wr => ∃ (c : Nat) (L : List UInt8) (A1 : Option Addr) (c1 : Nat), c ≤ 30 ∧ cur = i64 c ∧ out = .slice A1 L.length c1 ∧ Hid (planL l tg c0 = L ++ planL l tg c) ∧ Hid (wr.ownsRow V.heap.size 5 1 (.slice A1 L.length c1) L.length (Lib.byteCells L)) ∧ ∃ g : Up V, wr = up V g) (fun cur _ _ => dst l tg (intOf cur).toNat)
 case atStart => exact ⟨c0, [], _, _, hc0, rfl, rfl, hd_ rfl, HOV, _, rfl⟩
 case round =>
  obtain ⟨c, L, A1, c1, hc, rfl, rfl, HP, HO, g1, rfl⟩ := hrel
  clear HOV
  by_cases he : c = tg
  ·have hne : ((c : Int) != (tg : Int)) = false := by rw [he]; simp
   have hcv := conv_own HO.out rfl (Below.refl _ _)
   go_wp2_with ((with_reducible refine wru ?_); refine wrz fun _ => ?_)
   go_ret
   refine ⟨?_, HU.out.tr bw_⟩
   show Ending.returned (.string ⟨L.toArray⟩) = _
   rw [HP.out, he, planL_self l ht, List.append_nil]
  ·have hne : ((c : Int) != (tg : Int)) = true := by simp; omega
   obtain ⟨b, hb⟩ := nm_ ((up V g1).heap.size)
   have hcv : (convert 22 22 (.slice (some ⟨b, 0, none⟩) 3 3)).run Tryz.prog (up V (g1.al (.cells #[.int .u8 35, .int .u8 60, .int .u8 62] 5))) = .ok (.slice (some ⟨b, 0, none⟩) 3 3) (up V (g1.al (.cells #[.int .u8 35, .int .u8 60, .int .u8 62] 5 (3, 4)))) := by
    subst hb
    exact Lib.run_convert_bytes_const (up V g1) 22 5 #[.int .u8 35, .int .u8 60, .int .u8 62] 3 3 Tryz.underlying22 Tryz.underlying5
   have hl3 : Hid (Lit3 (up V (g1.al (.cells #[.int .u8 35, .int .u8 60, .int .u8 62] 5 (3, 4)))) b) := by
    subst hb
    exact hd_ (by show ((up V g1).heap.push _)[(up V g1).heap.size]? = _; simp)
   go_wp2_with ((with_reducible refine wru ?_); refine wrz fun _ => ?_)
   go_loopw [1, 8, 23] (fun cur out jj wr => ∃ j : Nat, j ≤ 3 ∧ cur = i64 c ∧ out = .slice A1 L.length c1 ∧ jj = i64 j ∧ Hid (∀ i, i < j → goodMv l tg c i = none) ∧ Hid (Lit3 wr b) ∧ Hid (wr.ownsRow V.heap.size 5 1 (.slice A1 L.length c1) L.length (Lib.byteCells L)) ∧ ∃ g : Up V, wr = up V g) (fun _ _ jj _ => 3 - (intOf jj).toNat)
   case atStart => exact ⟨0, by omega, rfl, rfl, rfl, hd_ (fun i hi => by omega), hl3, hd_ (ob_ HO.out bw_), _, rfl⟩
   case round =>
    obtain ⟨j, hj, rfl, rfl, rfl, HG, HL, HQ, g2, rfl⟩ := hrel
    clear HO hl3 hcv
    by_cases hj3 : j < 3
    ·have hj' : (j : Int) < 3 := by omega
     have f1 := HL.out.cell hj3
     have hL30 : L.length ≤ 30 := by
      have := planL_len l ht hc0
      rw [HP.out, List.length_append] at this
      omega
     cases hm : mvTo l j c with
     | none =>
       obtain ⟨v, hv⟩ : ∃ v : Int, mvX l j c = v := ⟨_, rfl⟩
       have HC : Hid (∀ W, Below V.heap.size V W → Calls Tryz.prog 207 #[.slice A l.length cap, i64 c, .int .u8 ((mvB j).toNat : Int)] W fun e w' => e = .returned (.tuple #[i64 v, .bool false]) ∧ UpOf W w') := hd_ fun W hW => by
        have := moved_any j c A cap l W hj3 hc (HR.out.below (HU.out.tr hW).below) hn _ rfl
        rwa [hv, hm] at this
       clear hv
       have hg : ∀ i, i < j + 1 → goodMv l tg c i = none := fun i hi => by
        by_cases q : i = j
        ·subst q; unfold goodMv; rw [hm]
        ·exact HG.out i (by omega)
       go_wp2_with (first | (go_at_call 207; refine cu_ (HC.out _ bw_) fun g => ?_) | ((with_reducible refine wru ?_); refine wrz fun _ => ?_))
       go_roundw
       case rel => exact ⟨j + 1, by omega, rfl, rfl, by go_num, hd_ hg, hd_ (HL.out.below bw_), hd_ (ob_ HQ.out bw_), _, rfl⟩
       case measure => simp [intOf]; try omega
     | some d =>
       have hd30 := mvTo_bd HV.out hc hm
       have hdn : (d : Int) < 31 := by omega
       have hcn : (c : Int) < 31 := by omega
       have HC : Hid (∀ W, Below V.heap.size V W → Calls Tryz.prog 207 #[.slice A l.length cap, i64 c, .int .u8 ((mvB j).toNat : Int)] W fun e w' => e = .returned (.tuple #[i64 d, .bool true]) ∧ UpOf W w') := hd_ fun W hW => by
        have := moved_any j c A cap l W hj3 hc (HR.out.below (HU.out.tr hW).below) hn _ rfl
        rwa [mvX_eq HV.out hm, hm] at this
       have hc1 : ∀ g : Up V, (up V g).cell? ⟨p, d, none⟩ = some (i64 (dst l tg d)) := fun g => by rw [(HA.out.up g).cell, arrD_get _ (by omega)]
       have hc2 : ∀ g : Up V, (up V g).cell? ⟨p, c, none⟩ = some (i64 (dst l tg c)) := fun g => by rw [(HA.out.up g).cell, arrD_get _ (by omega)]
       have hx1 : (dst l tg d : Int) ≤ 30 := by have := (dst_spec l ht hd30).1; omega
       have hx2 : (dst l tg c : Int) ≤ 30 := by have := (dst_spec l ht hc).1; omega
       have hx3 : (0 : Int) ≤ (dst l tg c : Int) := by omega
       by_cases e : dst l tg d + 1 = dst l tg c
       ·have ht1 : ((dst l tg d : Int) == (dst l tg c : Int) - 1) = true := by rw [beq_iff_eq]; omega
        have hgj : goodMv l tg c j = some d := by unfold goodMv; rw [hm]; exact if_pos e
        have hps := hd_ (planL_step hj3 HG.out hgj)
        have hlt : dst l tg d < dst l tg c := by omega
        go_wp2_with (first | (go_at_call 207; refine cu_ (HC.out _ bw_) fun g => ?_) | (at_builtin; go_must (refine wpl_appU rfl _ _ 22 rfl V V.heap.size 5 _ 1 1 el_byte (.slice A1 L.length c1) L.length (Lib.byteCells L) rfl (ob_ HQ.out bw_) _ 1 1 [.int .u8 ((mvB j).toNat : Int)] rfl (rds_new _ _ _ 1 1 rfl) (fun u hu => by simp at hu; subst hu; rfl) (by unfold maxLen; omega) (by omega) (ub_ V _).size bw_ (Nat.le_refl _) ?_; intro A2 c2 g2 o2)) | ((with_reducible refine wru ?_); refine wrz fun _ => ?_))
        refine ⟨⟨d, L ++ [mvB j], A2, c2, hd30, rfl, congrArg (fun n => Value.slice A2 n c2) (by simp), hd_ (by rw [HP.out, hps.out, List.append_assoc]; rfl), hd_ ?_, _, rfl⟩, by simpa [intOf] using hlt⟩
        rw [show [Value.int .u8 ((mvB j).toNat : Int)] = Lib.byteCells [mvB j] from rfl, byteCells_snoc, show L.length + 1 = (L ++ [mvB j]).length by simp] at o2
        exact o2
       ·have ht1 : ((dst l tg d : Int) == (dst l tg c : Int) - 1) = false := by rw [beq_eq_false_iff_ne]; omega
        have hg : ∀ i, i < j + 1 → goodMv l tg c i = none := fun i hi => by
         by_cases q : i = j
         ·subst q; unfold goodMv; rw [hm]; exact if_neg e
         ·exact HG.out i (by omega)
        go_wp2_with (first | (go_at_call 207; refine cu_ (HC.out _ bw_) fun g => ?_) | ((with_reducible refine wru ?_); refine wrz fun _ => ?_))
        go_roundw
        case rel => exact ⟨j + 1, by omega, rfl, rfl, by go_num, hd_ hg, hd_ (HL.out.below bw_), hd_ (ob_ HQ.out bw_), _, rfl⟩
        case measure => simp [intOf]; try omega
    ·obtain rfl : j = 3 := by omega
     exact (goodMv_ex HV.out ht hc he HG.out).elim
theorem wordB_txt (n : Int) (s : ByteArray) (h : 0 ≤ n) : wordB n s = (decide (1 ≤ s.size) && txtB 33 n.toNat s) := by
 rw [wordB, txtB, Bool.and_assoc]
 congr 2
 rw [decide_eq_decide]; omega
section
variable {ws : List ByteArray} {n : Int}
theorem vText_1 (h : btw n 1 80 = false) : vText ws n = false := by rw [vText, h]; rfl
theorem vText_2 (h : ¬ ws.length ≤ 40) : vText ws n = false := by rw [vText, decide_eq_false h, Bool.and_false, Bool.false_and]
theorem vText_3 {i : Nat} (hi : i < ws.length) (h : wordB n (wd ws i) = false) : vText ws n = false := by rw [vText, rall_at hi h, Bool.and_false]
theorem vText_0 (h1 : btw n 1 80 = true) (h2 : ws.length ≤ 40) (h : ∀ i, i < ws.length → wordB n (wd ws i) = true) : vText ws n = true := by
 rw [vText, h1, decide_eq_true h2, rall_true h]; rfl
theorem vText_inv (h : vText ws n = true) : (1 ≤ n ∧ n ≤ 80) ∧ ws.length ≤ 40 ∧ ∀ i, i < ws.length → 0 < (wd ws i).size ∧ ((wd ws i).size : Int) ≤ n := by
 simp only [vText, Bool.and_eq_true, decide_eq_true_eq, List.all_eq_true, List.mem_range, wordB] at h
 exact ⟨btw_true h.1.1, h.1.2, fun i hi => ⟨(h.2 i hi).1.1, (h.2 i hi).1.2⟩⟩
end
theorem validText_any (n : Int) (A : Option Addr) (c : Nat) (ws : List ByteArray) (w : World) (h : Rds w 1 A ws.length (strs ws)) (hn : ws.length ≤ 100000000) (hf : WBd ws) :
 Calls Tryz.prog 131 #[.slice A ws.length c, i64 n] w fun e w' => e = .returned (.bool (vText ws n)) ∧ UpOf w w' := by
 have HF := hd_ hf
 have HR := hd_ h
 clear hf h
 cases b1 : btw n 1 80 with
 | false =>
   have hr := hd_ (vText_1 (ws := ws) b1)
   go_enter Tryz.func131, Tryz.ntmps131
   go_wp2_with (first | (go_at_call 118; refine cs_ (ra_ (between_any n 1 80 _) b1) ?_))
   go_ret
   exact ⟨rb_ hr.out.symm, uw_⟩
 | true =>
   have hb := btw_true b1
   by_cases h40 : ws.length ≤ 40
   ·have h40' : ¬ (40 : Int) < ws.length := by omega
    go_enter Tryz.func131, Tryz.ntmps131
    go_wp2_with (first | (go_at_call 118; refine cs_ (ra_ (between_any n 1 80 _) b1) ?_))
    go_loopw [17] (fun t17 wr => ∃ k : Nat, k ≤ ws.length ∧ t17 = i64 k ∧ Hid (∀ j, j < k → wordB n (wd ws j) = true) ∧ ∃ g : Up w, wr = up w g) (fun t17 _ => ws.length - (intOf t17).toNat)
    case atStart => exact ⟨0, by omega, rfl, hd_ (fun j hj => by omega), ex_up bw_⟩
    case round =>
     obtain ⟨k, hk, rfl, HK, g, rfl⟩ := hrel
     by_cases hlt : k < ws.length
     ·obtain ⟨b, off, rfl, hb', c0⟩ := wd_at HR.out hlt
      have c0 := c0 k hlt
      have f1 := HF.out k hlt
      by_cases z : (wd ws k).size = 0
      ·have z' : ((wd ws k).size : Int) = 0 := by omega
       have hf := hd_ (vText_3 (n := n) hlt (by rw [wordB, decide_eq_false (by omega)]; rfl))
       go_wp2_with fail
       go_ret
       exact ⟨rb_ hf.out.symm, uw_⟩
      ·have z' : ¬ ((wd ws k).size : Int) = 0 := by omega
       have z2 : (((wd ws k).size : Int) == 0) = false := beq_eq_false_iff_ne.2 z'
       have hit : ∀ V, Calls Tryz.prog 134 #[.string (wd ws k), .int .u8 33, i64 n] V fun e w' => e = .returned (.bool (wordB n (wd ws k))) ∧ V = w' := fun V => by
        have := isText_any (wd ws k) 33 n.toNat V (by omega) (by omega) (by omega)
        rw [show ((n.toNat : Nat) : Int) = n by omega] at this
        rw [wordB_txt n _ (by omega), decide_eq_true (by omega), Bool.true_and]
        exact this
       cases b2 : wordB n (wd ws k) with
       | false =>
         rw [b2] at hit
         have HI := hd_ hit
         have hf := hd_ (vText_3 (n := n) hlt b2)
         clear hit b2 z
         go_wp2_with (first | (go_at_call 134; refine cs_ (HI.out _) ?_))
         go_ret
         exact ⟨rb_ hf.out.symm, uw_⟩
       | true =>
         rw [b2] at hit
         have HI := hd_ hit
         have HK2 := hd_ (lt_ext (P := fun j => wordB n (wd ws j) = true) HK.out b2)
         clear hit b2 z
         go_wp2_with (first | (go_at_call 134; refine cs_ (HI.out _) ?_))
         go_roundw
         case rel => exact ⟨k + 1, by omega, by go_num, HK2, ex_up bw_⟩
         case measure => simp [intOf]; try omega
     ·obtain rfl : k = ws.length := by omega
      have hf := hd_ (vText_0 b1 h40 HK.out)
      go_wp2_with fail
      go_ret
      exact ⟨rb_ hf.out.symm, uw_⟩
   ·have h40' : (40 : Int) < ws.length := by omega
    have hr := hd_ (vText_2 (n := n) h40)
    go_enter Tryz.func131, Tryz.ntmps131
    go_wp2_with (first | (go_at_call 118; refine cs_ (ra_ (between_any n 1 80 _) b1) ?_))
    go_ret
    exact ⟨rb_ hr.out.symm, uw_⟩
theorem longL_one {ws : List ByteArray} (h : ws.length = 1) : longL ws = (wd ws 0).size := by
 have e : sizes ws 1 = (wd ws 0).size := by rw [sizes, sizes]; omega
 rw [longL, h, e]
 split <;> omega
theorem longL_nn (ws : List ByteArray) : 0 ≤ longL ws := by rw [longL]; split <;> omega
theorem setLine_any (n : Int) (A : Option Addr) (c : Nat) (ws : List ByteArray) (w : World) (h : Rds w 1 A ws.length (strs ws)) (hc : ws.length ≤ c) (h1 : 1 ≤ ws.length) (hv : vText ws n = true) (hl : longL ws ≤ n) :
 Calls Tryz.prog 133 #[.slice A ws.length c, i64 n] w fun e w' => e = .returned (.string (bs (setA ws n))) ∧ UpOf w w' := by
 obtain ⟨⟨hn1, hn2⟩, h40, hws⟩ := vText_inv hv
 have HW := hd_ hws
 have HR := hd_ h
 have hWB : Hid (WBd ws) := hd_ fun i hi => by have := (hws i hi).2; omega
 obtain ⟨b, off, rfl, hb, c0⟩ := wd_at h (i := 0) (by omega)
 have HC0 := hd_ c0
 have hw0 := (hws 0 (by omega)).2
 clear hws hv h
 have k0 := HC0.out 0 (by omega)
 rw [Nat.add_zero] at k0
 by_cases he : ws.length = 1
 ·have hz1 : ((ws.length : Int) == 1) = true := by rw [beq_iff_eq]; omega
  have hln := longL_one he
  have hres : Hid (setA ws n = (wd ws 0).data.toList ++ List.replicate (n - ((wd ws 0).size : Int)).toNat 32) := hd_ (by rw [setA, if_pos he, hln])
  have hs0 : (wd ws 0).size ≤ 80 := by omega
  have hrep : Hid (∀ V : World, Calls Tryz.prog 136 #[.string (bs [32]), i64 (n - ((wd ws 0).size : Int))] V fun e w' => e = .returned (.string (bs (List.replicate (n - ((wd ws 0).size : Int)).toNat 32))) ∧ UpOf V w') := hd_ fun V => repeat_any 32 _ V (by omega) (by omega)
  have hsz : (bs (List.replicate (n - ((wd ws 0).size : Int)).toNat 32)).size ≤ 80 := by rw [bs_size, List.length_replicate]; omega
  obtain ⟨R, hR⟩ := nm_ (bs (List.replicate (n - ((wd ws 0).size : Int)).toNat 32))
  have HRd := hd_ hR
  rw [hR] at hsz hrep
  clear hln hR
  go_enter Tryz.func133, Tryz.ntmps133
  go_wp2_with (first | (go_at_call 136; refine cu_ (hrep.out _) fun g => ?_))
  go_ret
  refine ⟨?_, uw_⟩
  show Ending.returned (.string _) = _
  rw [hres.out, ← HRd.out]
  congr 2
 ·have hz1 : ((ws.length : Int) == 1) = false := by rw [beq_eq_false_iff_ne]; omega
  obtain ⟨G, hG⟩ : ∃ G, ws.length = G + 1 := ⟨ws.length - 1, by omega⟩
  obtain ⟨LL, hLL⟩ := nm_ (longL ws)
  have hl0 : 0 ≤ LL := by rw [← hLL]; exact longL_nn ws
  have HLL : Hid (∀ V, Below w.heap.size w V → Calls Tryz.prog 132 #[.slice (some ⟨b, off, none⟩) (G + 1) c] V fun e w' => e = .returned (i64 LL) ∧ V = w') := hd_ fun V hV => by
   have := lineLength_any _ c _ V (HR.out.below hV) (by omega) hWB.out
   rw [hLL, hG] at this
   exact this
  have hres : Hid (setA ws n = setU ws (n - LL) G G) := hd_ (by
   rw [setA, if_neg he, hLL, hG]; congr 1; omega)
  have hcc : ¬ c = 1 := by omega
  have hG0 : 0 < G := by omega
  have hG40 : G ≤ 39 := by omega
  rw [hLL] at hl
  rw [hG] at hz1 hc
  have HG := hd_ hG
  clear hLL he h40 h1
  go_enter Tryz.func133, Tryz.ntmps133
  go_wp2_with (first | (go_at_call 132; refine cs_ (HLL.out _ bw_) ?_))
  obtain ⟨own, hown⟩ := nm_ ((n - LL + (G : Int)) / (G : Int))
  obtain ⟨rm, hrm⟩ := nm_ ((n - LL + (G : Int)) % (G : Int))
  have hG1 : (G : Int) ≠ 0 := by omega
  have ho1 : own = (n - LL) / (G : Int) + 1 := by
   rw [← hown]
   have := Int.add_mul_ediv_right (n - LL) 1 hG1
   rwa [Int.one_mul] at this
  have ho2 : 1 ≤ own ∧ own ≤ 81 := by
   have h1 := Int.ediv_nonneg (a := n - LL) (b := (G : Int)) (by omega) (by omega)
   have h2 := Int.ediv_le_self (a := n - LL) (G : Int) (by omega)
   omega
  have hr1 : rm = (n - LL) % (G : Int) := by
   rw [← hrm]
   have := Int.add_mul_emod_self_right (n - LL) 1 (G : Int)
   rwa [Int.one_mul] at this
  have hgap : Hid (∀ k : Nat, gapN (n - LL) G (k + 1) = if (k : Int) < rm then own + 1 else own) := hd_ fun k => by
   rw [gapN, ← hr1, ho1]
   by_cases q : (k : Int) < rm
   ·rw [if_pos q, if_pos (by omega)]; omega
   ·rw [if_neg q, if_neg (by omega)]; omega
  obtain ⟨ho2, ho3⟩ := ho2
  clear ho1 hr1 hG1 hG
  go_loopw [5, 36] (fun t5 t36 wr => ∃ (k : Nat) (T : List UInt8), k ≤ G ∧ t36 = i64 k ∧ t5 = .string (bs T) ∧ Hid (T = setU ws (n - LL) G k) ∧ Hid (T.length ≤ 80 + 300 * k) ∧ ∃ g : Up w, wr = up w g) (fun _ t36 _ => G - (intOf t36).toNat)
  case atStart => exact ⟨0, (wd ws 0).data.toList, by omega, rfl, by rw [bs_of], hd_ rfl, hd_ (by show (wd ws 0).size ≤ _; omega), ex_up bw_⟩
  case round =>
   obtain ⟨k, T, hk, rfl, rfl, HT, HTl, g, rfl⟩ := hrel
   by_cases hlt : k < G
   ·have hlt' : (k : Int) < (G : Int) := by omega
    have k1 := HC0.out (k + 1) (by rw [HG.out]; omega)
    rw [show off + (k + 1) = off + 1 + k by omega] at k1
    have hsz : (wd ws (k + 1)).size ≤ 80 := by have := (HW.out (k + 1) (by rw [HG.out]; omega)).2; omega
    have hTl : T.length ≤ 80 + 300 * k := HTl.out
    by_cases hq : (k : Int) < rm
    ·obtain ⟨R, hR⟩ := nm_ (bs (List.replicate (own + 1).toNat 32))
     have hRz : R.size ≤ 100 := by rw [← hR, bs_size, List.length_replicate]; omega
     have hrep : Hid (∀ V : World, Calls Tryz.prog 136 #[.string (bs [32]), i64 (own + 1)] V fun e w' => e = .returned (.string R) ∧ UpOf V w') := hd_ fun V => by
      rw [← hR]; exact repeat_any 32 _ V (by omega) (by omega)
     have HT2 : Hid (T ++ (R.data.toList ++ (wd ws (k + 1)).data.toList) = setU ws (n - LL) G (k + 1)) := hd_ (by
      rw [setU, hgap.out, if_pos hq, HT.out, ← hR, bs_list])
     have HTl2 : Hid ((T ++ (R.data.toList ++ (wd ws (k + 1)).data.toList)).length ≤ 80 + 300 * (k + 1)) := hd_ (by
      rw [List.length_append, List.length_append, bsz, bsz]; omega)
     clear hR HT
     go_wp2_with (first | (go_at_call 136; refine cu_ (hrep.out _) fun g => ?_))
     go_roundw
     case rel => exact ⟨k + 1, _, by omega, by go_num, congrArg Value.string (by apply ByteArray.ext; apply Array.ext'; simp), HT2, HTl2, ex_up bw_⟩
     case measure => simp [intOf]; try omega
    ·obtain ⟨R, hR⟩ := nm_ (bs (List.replicate own.toNat 32))
     have hRz : R.size ≤ 100 := by rw [← hR, bs_size, List.length_replicate]; omega
     have hrep : Hid (∀ V : World, Calls Tryz.prog 136 #[.string (bs [32]), i64 own] V fun e w' => e = .returned (.string R) ∧ UpOf V w') := hd_ fun V => by
      rw [← hR]; exact repeat_any 32 _ V (by omega) (by omega)
     have HT2 : Hid (T ++ (R.data.toList ++ (wd ws (k + 1)).data.toList) = setU ws (n - LL) G (k + 1)) := hd_ (by
      rw [setU, hgap.out, if_neg hq, HT.out, ← hR, bs_list])
     have HTl2 : Hid ((T ++ (R.data.toList ++ (wd ws (k + 1)).data.toList)).length ≤ 80 + 300 * (k + 1)) := hd_ (by
      rw [List.length_append, List.length_append, bsz, bsz]; omega)
     clear hR HT
     go_wp2_with (first | (go_at_call 136; refine cu_ (hrep.out _) fun g => ?_))
     go_roundw
     case rel => exact ⟨k + 1, _, by omega, by go_num, congrArg Value.string (by apply ByteArray.ext; apply Array.ext'; simp), HT2, HTl2, ex_up bw_⟩
     case measure => simp [intOf]; try omega
   ·obtain rfl : k = G := by omega
    have hfin := hd_ (show setA ws n = T by rw [hres.out, HT.out])
    clear HT
    go_wp2_with fail
    go_ret
    rw [hfin.out]
    exact ⟨rfl, uw_⟩
theorem setLineR_any (n : Int) (A : Option Addr) (c : Nat) (ws : List ByteArray) (w : World) (h : Rds w 1 A ws.length (strs ws)) (hc : ws.length ≤ c) (hn : ws.length ≤ 100000000) (hf : WBd ws) :
 Calls Tryz.prog 80 #[.slice A ws.length c, i64 n] w fun e w' => e = .returned (.tuple #[.string (setR ws n).1, i64 (setR ws n).2]) ∧ UpOf w w' := by
 have HR := hd_ h
 have HF := hd_ hf
 clear h hf
 cases hv : vText ws n with
 | false =>
   have hr := hd_ (show setR ws n = (⟨#[]⟩, 1) by rw [setR, hv]; rfl)
   go_enter Tryz.func80, Tryz.ntmps80
   go_wp2_with (first | (go_at_call 131; refine cu_ (ra_ (validText_any n A c ws _ (HR.out.below bw_) hn HF.out) hv) fun g => ?_))
   go_ret2
   rw [hr.out]
   exact ⟨rfl, uw_⟩
 | true =>
   obtain ⟨LL, hLL⟩ := nm_ (longL ws)
   have HLL : Hid (∀ V, Below w.heap.size w V → Calls Tryz.prog 132 #[.slice A ws.length c] V fun e w' => e = .returned (i64 LL) ∧ V = w') := hd_ fun V hV => by
    have := lineLength_any _ c _ V (HR.out.below hV) (by omega) HF.out
    rw [hLL] at this
    exact this
   by_cases hl : n < LL
   ·have hr := hd_ (show setR ws n = (⟨#[]⟩, 5) by rw [setR, hv, if_pos rfl, hLL, if_pos hl])
    clear hLL
    go_enter Tryz.func80, Tryz.ntmps80
    go_wp2_with (first | (go_at_call 131; refine cu_ (ra_ (validText_any n A c ws _ (HR.out.below bw_) hn HF.out) hv) fun g => ?_) | (go_at_call 132; refine cs_ (HLL.out _ bw_) ?_))
    go_ret2
    rw [hr.out]
    exact ⟨rfl, uw_⟩
   ·by_cases h0 : ws.length = 0
    ·have h0' : ((ws.length : Int) == 0) = true := by rw [beq_iff_eq]; omega
     have hr := hd_ (show setR ws n = (⟨#[]⟩, 3) by rw [setR, hv, if_pos rfl, hLL, if_neg hl, if_pos h0])
     clear hLL h0
     go_enter Tryz.func80, Tryz.ntmps80
     go_wp2_with (first | (go_at_call 131; refine cu_ (ra_ (validText_any n A c ws _ (HR.out.below bw_) hn HF.out) hv) fun g => ?_) | (go_at_call 132; refine cs_ (HLL.out _ bw_) ?_))
     go_ret2
     rw [hr.out]
     exact ⟨rfl, uw_⟩
    ·have h0' : ((ws.length : Int) == 0) = false := by rw [beq_eq_false_iff_ne]; omega
     have hr := hd_ (show setR ws n = (bs (setA ws n), 0) by rw [setR, hv, if_pos rfl, hLL, if_neg hl, if_neg h0])
     have HL2 := hd_ (show longL ws ≤ n by omega)
     clear hLL
     go_enter Tryz.func80, Tryz.ntmps80
     go_wp2_with (first | (go_at_call 131; refine cu_ (ra_ (validText_any n A c ws _ (HR.out.below bw_) hn HF.out) hv) fun g => ?_) | (go_at_call 132; refine cs_ (HLL.out _ bw_) ?_) | (go_at_call 133; refine cu_ (setLine_any n A c ws _ (HR.out.below bw_) hc (by omega) hv HL2.out) fun g => ?_))
     go_ret2
     rw [hr.out]
     exact ⟨rfl, uw_⟩
theorem absolute_any (n : Int) (w : World) (h : -1000000000 ≤ n ∧ n ≤ 1000000000) : Calls Tryz.prog 167 #[i64 n] w fun e w' => e = .returned (i64 (absN n)) ∧ UpOf w w' := by
 by_cases h1 : n < 0
 ·have hf := hd_ (show absN n = -n from if_pos h1)
  go_enter Tryz.func167, Tryz.ntmps167
  go_wp2_with fail
  go_ret
  exact ⟨by rw [hf.out] <;> first | rfl | (simp; done) | go_num, uw_⟩
 ·have hf := hd_ (show absN n = n from if_neg h1)
  go_enter Tryz.func167, Tryz.ntmps167
  go_wp2_with fail
  go_ret
  exact ⟨by rw [hf.out] <;> rfl, uw_⟩
theorem l00Size_any (n : Int) (w : World) (h : -1000000000 ≤ n ∧ n ≤ 1000000000) : Calls Tryz.prog 227 #[i64 n] w fun e w' => e = .returned (i64 (absN n)) ∧ UpOf w w' := by
 by_cases h1 : n < 0
 ·have hf := hd_ (show absN n = -n from if_pos h1)
  go_enter Tryz.func227, Tryz.ntmps227
  go_wp2_with fail
  go_ret
  exact ⟨by rw [hf.out] <;> first | rfl | (simp; done) | go_num, uw_⟩
 ·have hf := hd_ (show absN n = n from if_neg h1)
  go_enter Tryz.func227, Tryz.ntmps227
  go_wp2_with fail
  go_ret
  exact ⟨by rw [hf.out] <;> rfl, uw_⟩
theorem l00MaxD_any (a b : Int) (w : World) : Calls Tryz.prog 219 #[i64 a, i64 b] w fun e w' => e = .returned (i64 (if a > b then a else b)) ∧ w = w' := by
 by_cases h : a > b
 ·rw [if_pos h]
  go_enter Tryz.func219, Tryz.ntmps219
  go_wp2_with fail
  go_ret
  exact ⟨rfl, rfl⟩
 ·rw [if_neg h]
  go_enter Tryz.func219, Tryz.ntmps219
  go_wp2_with fail
  go_ret
  exact ⟨rfl, rfl⟩
theorem absN_bd {f s : Int} (hf : 0 ≤ f ∧ f ≤ 1000) (hs : 0 ≤ s ∧ s ≤ 1000) : 0 ≤ absN (f - s) ∧ absN (f - s) ≤ 1000 := by
 unfold absN; split <;> omega
section
variable (b : Bsk) (f s : Int) (w : World)
theorem waitsI_any (hb : vBsk b = true) (hf : 0 ≤ f ∧ f ≤ 1000) (hs : 0 ≤ s ∧ s ≤ 1000) :
 Calls Tryz.prog 123 #[bsv b, i64 f, i64 s] w fun e w' => e = .returned (i64 (waitN b f s)) ∧ UpOf w w' := by
 obtain ⟨_, h2, h3, h4, h5⟩ := vBsk_inv hb
 clear hb
 by_cases q : f = s
 ·have hF := hd_ (show waitN b f s = b.rise + b.fall from if_pos q)
  have q' : (f == s) = true := by rw [beq_iff_eq]; exact q
  clear q
  go_enter Tryz.func123, Tryz.ntmps123
  go_wp2_with ((with_reducible refine wru ?_); refine wrz fun _ => ?_)
  go_ret
  exact ⟨by rw [hF.out] <;> first | rfl | (simp; done) | go_num, uw_⟩
 ·have q' : (f == s) = false := by rw [beq_eq_false_iff_ne]; exact q
  have hF := hd_ (show waitN b f s = b.clr + (if b.near - absN (f - s) > 0 then b.near - absN (f - s) else 0) from if_neg q)
  have hw : IntKind.i64.wrap (f - s) = f - s := by rw [IntKind.wrap_i64]; omega
  obtain ⟨a1, a2⟩ := absN_bd hf hs
  have ha := hd_ (absolute_any (f - s) · ⟨by omega, by omega⟩)
  generalize absN (f - s) = a at *
  have hw2 : IntKind.i64.wrap (b.near - a) = b.near - a := by rw [IntKind.wrap_i64]; omega
  clear q
  by_cases p : 0 < b.near - a
  ·rw [if_pos p] at hF
   go_enter Tryz.func123, Tryz.ntmps123
   go_wp2_with (first | ((with_reducible refine wru ?_); (repeat (go_big_quiet_step (first | (go_at_call 167; exact uq_ (ha.out _))))); refine wqn fun nq => ?_))
   all_goals go_ret
   all_goals exact ⟨by rw [hF.out] <;> first | rfl | (simp; done) | go_num, uw_⟩
  ·rw [if_neg p] at hF
   go_enter Tryz.func123, Tryz.ntmps123
   go_wp2_with (first | ((with_reducible refine wru ?_); (repeat (go_big_quiet_step (first | (go_at_call 167; exact uq_ (ha.out _))))); refine wqn fun nq => ?_))
   all_goals go_ret
   all_goals exact ⟨by rw [hF.out] <;> first | rfl | (simp; done) | go_num, uw_⟩
theorem l03Wait_any (hb : vBsk b = true) (hf : 0 ≤ f ∧ f ≤ 1000) (hs : 0 ≤ s ∧ s ≤ 1000) :
 Calls Tryz.prog 204 #[bsv b, i64 f, i64 s] w fun e w' => e = .returned (i64 (waitN b f s)) ∧ UpOf w w' := by
 obtain ⟨_, h2, h3, h4, h5⟩ := vBsk_inv hb
 clear hb
 by_cases q : f = s
 ·have hF := hd_ (show waitN b f s = b.rise + b.fall from if_pos q)
  have q' : (f == s) = true := by rw [beq_iff_eq]; exact q
  clear q
  go_enter Tryz.func204, Tryz.ntmps204
  go_wp2_with ((with_reducible refine wru ?_); refine wrz fun _ => ?_)
  go_ret
  exact ⟨by rw [hF.out] <;> first | rfl | (simp; done) | go_num, uw_⟩
 ·have q' : (f == s) = false := by rw [beq_eq_false_iff_ne]; exact q
  have hF := hd_ (show waitN b f s = b.clr + (if b.near - absN (f - s) > 0 then b.near - absN (f - s) else 0) from if_neg q)
  have hw : IntKind.i64.wrap (f - s) = f - s := by rw [IntKind.wrap_i64]; omega
  obtain ⟨a1, a2⟩ := absN_bd hf hs
  have ha := hd_ (l00Size_any (f - s) · ⟨by omega, by omega⟩)
  generalize absN (f - s) = a at *
  have hw2 : IntKind.i64.wrap (b.near - a) = b.near - a := by rw [IntKind.wrap_i64]; omega
  have hm : Hid ((if (0 : Int) > b.near - a then (0 : Int) else b.near - a) = (if b.near - a > 0 then b.near - a else 0)) := by show _ = _; split <;> split <;> omega
  clear q
  go_enter Tryz.func204, Tryz.ntmps204
  go_wp2_with (first | ((with_reducible refine wru ?_); (repeat (go_big_quiet_step (first | (go_at_call 227; exact uq_ (ha.out _)) | (go_at_call 219; exact uqs_ (l00MaxD_any _ _ _))))); refine wqn fun nq => ?_))
  all_goals go_ret
  all_goals exact ⟨by rw [hF.out, ← hm.out] <;> first | rfl | (simp; done) | go_num, uw_⟩
theorem hasBar_any (b : Bsk) (n : Int) (w : World) (hb : 2 ≤ b.bars ∧ b.bars ≤ 60) : Calls Tryz.prog 122 #[bsv b, i64 n] w fun e w' => e = .returned (.bool (barB b n)) ∧ UpOf w w' := by
 have hw : IntKind.i64.wrap (b.bars - 1) = b.bars - 1 := by rw [IntKind.wrap_i64]; omega
 go_enter Tryz.func122, Tryz.ntmps122
 go_wp2_with (first | (go_at_call 118; refine cs_ (between_any _ _ _ _) ?_))
 go_ret
 exact ⟨rfl, uw_⟩
theorem l03Bar_any (b : Bsk) (n : Int) (w : World) (hb : 2 ≤ b.bars ∧ b.bars ≤ 60) : Calls Tryz.prog 203 #[bsv b, i64 n] w fun e w' => e = .returned (.bool (barB b n)) ∧ UpOf w w' := by
 have hw : IntKind.i64.wrap (b.bars - 1) = b.bars - 1 := by rw [IntKind.wrap_i64]; omega
 go_enter Tryz.func203, Tryz.ntmps203
 go_wp2_with (first | (go_at_call 141; refine cs_ (in_any _ _ _ _) ?_))
 go_ret
 exact ⟨rfl, uw_⟩
theorem barB_bd {b : Bsk} {n : Int} (hb : 2 ≤ b.bars ∧ b.bars ≤ 60) (h : barB b n = true) : 0 ≤ n ∧ n ≤ 1000 := by have := btw_true h; omega
theorem mustWaitI_any : Calls Tryz.prog 71 #[bsv b, i64 f, i64 s] w fun e w' => e = .returned (.tuple #[i64 (mwR b f s).1, i64 (mwR b f s).2]) ∧ UpOf w w' := by
 cases hv : vBsk b
 ·have hF := hd_ (mwR_1 (f := f) (s := s) hv)
  go_enter Tryz.func71, Tryz.ntmps71
  go_wp2_with (first | (go_at_call 65; refine cu_ (ra_ (validBasket_any b _) hv) fun g => ?_))
  go_ret2
  exact ⟨by rw [hF.out] <;> rfl, uw_⟩
 have HV := hd_ hv
 have hb := (vBsk_inv hv).1
 cases h1 : barB b f
 ·have hF := hd_ (mwR_2 (f := f) (s := s) hv (by rw [h1]; rfl))
  go_enter Tryz.func71, Tryz.ntmps71
  go_wp2_with (first | (go_at_call 65; refine cu_ (ra_ (validBasket_any b _) hv) fun g => ?_) | (go_at_call 122; refine cu_ (ra_ (hasBar_any b f _ hb) h1) fun g => ?_))
  go_ret2
  exact ⟨by rw [hF.out] <;> rfl, uw_⟩
 cases h2 : barB b s
 ·have hF := hd_ (mwR_2 (f := f) (s := s) hv (by rw [h1, h2]; rfl))
  go_enter Tryz.func71, Tryz.ntmps71
  go_wp2_with (first | (go_at_call 65; refine cu_ (ra_ (validBasket_any b _) hv) fun g => ?_) | (go_at_call 122; refine cu_ (hasBar_any b _ _ hb) fun g => ?_))
  go_ret2
  exact ⟨by rw [hF.out] <;> rfl, uw_⟩
 ·have hF := hd_ (mwR_0 hv h1 h2)
  have k1 := barB_bd hb h1
  have k2 := barB_bd hb h2
  go_enter Tryz.func71, Tryz.ntmps71
  go_wp2_with (first | (go_at_call 65; refine cu_ (ra_ (validBasket_any b _) hv) fun g => ?_) | (go_at_call 122; refine cu_ (hasBar_any b _ _ hb) fun g => ?_) | (go_at_call 123; refine cu_ (waitsI_any b f s _ HV.out k1 k2) fun g => ?_))
  go_ret2
  exact ⟨by rw [hF.out] <;> rfl, uw_⟩
theorem mustWaitS_any : Calls Tryz.prog 165 #[bsv b, i64 f, i64 s] w fun e w' => e = .returned (.tuple #[i64 (mwR b f s).1, i64 (mwR b f s).2]) ∧ UpOf w w' := by
 cases hv : vBsk b
 ·have hF := hd_ (mwR_1 (f := f) (s := s) hv)
  go_enter Tryz.func165, Tryz.ntmps165
  go_wp2_with (first | (go_at_call 92; refine cu_ (ra_ (l03Ok_any b _) hv) fun g => ?_))
  go_ret2
  exact ⟨by rw [hF.out] <;> rfl, uw_⟩
 have HV := hd_ hv
 have hb := (vBsk_inv hv).1
 cases h1 : barB b f
 ·have hF := hd_ (mwR_2 (f := f) (s := s) hv (by rw [h1]; rfl))
  go_enter Tryz.func165, Tryz.ntmps165
  go_wp2_with (first | (go_at_call 92; refine cu_ (ra_ (l03Ok_any b _) hv) fun g => ?_) | (go_at_call 203; refine cu_ (ra_ (l03Bar_any b f _ hb) h1) fun g => ?_))
  go_ret2
  exact ⟨by rw [hF.out] <;> rfl, uw_⟩
 cases h2 : barB b s
 ·have hF := hd_ (mwR_2 (f := f) (s := s) hv (by rw [h1, h2]; rfl))
  go_enter Tryz.func165, Tryz.ntmps165
  go_wp2_with (first | (go_at_call 92; refine cu_ (ra_ (l03Ok_any b _) hv) fun g => ?_) | (go_at_call 203; refine cu_ (l03Bar_any b _ _ hb) fun g => ?_))
  go_ret2
  exact ⟨by rw [hF.out] <;> rfl, uw_⟩
 ·have hF := hd_ (mwR_0 hv h1 h2)
  have k1 := barB_bd hb h1
  have k2 := barB_bd hb h2
  go_enter Tryz.func165, Tryz.ntmps165
  go_wp2_with (first | (go_at_call 92; refine cu_ (ra_ (l03Ok_any b _) hv) fun g => ?_) | (go_at_call 203; refine cu_ (l03Bar_any b _ _ hb) fun g => ?_) | (go_at_call 204; refine cu_ (l03Wait_any b f s _ HV.out k1 k2) fun g => ?_))
  go_ret2
  exact ⟨by rw [hF.out] <;> rfl, uw_⟩
end
def stk (p : Int × Int) : List Value := [i64 p.1, i64 p.2]
def skcs (l : List (Int × Int)) : List Value := l.flatMap stk
theorem stk_len (p : Int × Int) : (stk p).length = 2 := rfl
theorem skcs_app (a b : List (Int × Int)) : skcs (a ++ b) = skcs a ++ skcs b := by simp [skcs]
theorem stk_at {w : World} {A : Option Addr} {l : List (Int × Int)} (h : Rds w 2 A l.length (skcs l)) {k : Nat} (hk : k < l.length) :
 ∃ b off, A = some ⟨b, off, none⟩ ∧ b < w.heap.size ∧ w.cell? ⟨b, off + k * 2, none⟩ = some (i64 (l.getD k (0, 0)).1) ∧ w.cell? ⟨b, off + k * 2 + 1, none⟩ = some (i64 (l.getD k (0, 0)).2) := by
 obtain ⟨b, off, e, hb, hc⟩ := rds_elem stk_len h hk (by omega)
 have e9 : l.getD k (0, 0) = l[k] := by simp [hk]
 rw [e9]
 exact ⟨b, off, e, hb, hc 0 _ rfl, hc 1 _ rfl⟩
theorem el_stk : ElemOf Tryz.prog 154 157 (.agg #[i64 0, i64 0]) 2 16 := elem_of Tryz.underlying154 (by kernel_rfl) rfl (by omega)
theorem fstK_bar (b : Bsk) (l : List Int) : ∀ n i, i < n → ((fstK b l n).1.getD i (0, 0)).1 = num l i
 | 0, i, h => by omega
 | n + 1, i, h => by
   have hl := fstK_len b l n
   rw [fstK, List.getD_eq_getElem?_getD]
   by_cases e : i < n
   ·rw [List.getElem?_append_left (by omega), ← List.getD_eq_getElem?_getD]
    exact fstK_bar b l n i e
   ·have : i = n := by omega
    subst this
    rw [List.getElem?_append_right (by omega), show i - (fstK b l i).1.length = 0 by omega]
    rfl
theorem Box.five {w : World} {b : Nat} {x0 x1 x2 x3 x4 : Value} (h : Box w b #[x0, x1, x2, x3, x4]) : b < w.heap.size ∧ w.cell? ⟨b, 0, none⟩ = some x0 ∧ w.cell? ⟨b, 1, none⟩ = some x1 ∧ w.cell? ⟨b, 2, none⟩ = some x2 ∧ w.cell? ⟨b, 3, none⟩ = some x3 ∧ w.cell? ⟨b, 4, none⟩ = some x4 :=
 ⟨h.1, h.2 0 _ rfl, h.2 1 _ rfl, h.2 2 _ rfl, h.2 3 _ rfl, h.2 4 _ rfl⟩
theorem barsB_at {b : Bsk} {l : List Int} {k : Nat} (hk : k < l.length) (h : barB b (num l k) = false) : barsB b l = false := rall_at hk h
theorem barsB_true {b : Bsk} {l : List Int} (h : ∀ k, k < l.length → barB b (num l k) = true) : barsB b l = true := rall_true h
theorem barsB_inv {b : Bsk} {l : List Int} (h : barsB b l = true) : ∀ k, k < l.length → barB b (num l k) = true := by
 simpa only [barsB, List.all_eq_true, List.mem_range] using h
theorem areBars_any (b : Bsk) (A : Option Addr) (c : Nat) (l : List Int) (w : World) (hb : 2 ≤ b.bars ∧ b.bars ≤ 60) (h : Rds w 1 A l.length (ics l)) (hn : l.length ≤ 100000000) :
 Calls Tryz.prog 124 #[bsv b, .slice A l.length c] w fun e w' => e = .returned (.bool (barsB b l && decide (l.length ≤ 60))) ∧ UpOf w w' := by
 go_enter Tryz.func124, Tryz.ntmps124
 go_upto_region 1 with (fail)
 refine wpg (R := fun V => Box V w.heap.size #[i64 b.bars, i64 b.rise, i64 b.fall, i64 b.clr, i64 b.near] ∧ UpOf w V) ⟨Box.new _ _ _, uw_⟩ (fun V z => ?_)
 obtain ⟨hb9, hB⟩ := z
 obtain ⟨hq, x0, x1, x2, x3, x4⟩ := hb9.five
 have HB := hd_ hB
 have HLV := hd_ (h.below hB.below)
 clear hb9 hB h
 generalize w.heap.size = q at *
 go_wp2_with fail
 go_loopw [9] (fun i wr => ∃ k : Nat, k ≤ l.length ∧ i = i64 k ∧ Hid (∀ j, j < k → barB b (num l j) = true) ∧ ∃ g : Up V, wr = up V g) (fun i _ => l.length - (intOf i).toNat)
 case atStart => exact ⟨0, by omega, rfl, fun i hi => by omega, ex_up bw_⟩
 case round =>
  obtain ⟨k, hk, rfl, hok, g, rfl⟩ := hrel
  by_cases hlt : k < l.length
  ·obtain ⟨b1, o1, rfl, hb1, c0⟩ := num_at HLV.out hlt
   cases p1 : barB b (num l k)
   ·have hf := hd_ (show (barsB b l && decide (l.length ≤ 60)) = false by rw [barsB_at hlt p1]; rfl)
    go_wp2_with (first | (go_at_call 122; refine cu_ (ra_ (hasBar_any b _ _ hb) p1) fun g => ?_))
    go_ret
    exact ⟨rb_ hf.out.symm, HB.out.tr bw_⟩
   ·have hq := hd_ p1
    go_wp2_with (first | (go_at_call 122; refine cu_ (ra_ (hasBar_any b _ _ hb) p1) fun g => ?_))
    go_roundw
    case rel => exact ⟨k + 1, by omega, by go_num, lt_extD (P := fun j => barB b (num l j) = true) hok.out hq.out, ex_up bw_⟩
    case measure => (simp [intOf]; try omega)
  ·have hf := hd_ (show (barsB b l && decide (l.length ≤ 60)) = decide (l.length ≤ 60) by rw [barsB_true (fun i hi => hok.out i (by omega))]; rfl)
   go_wp2_with fail
   go_ret
   exact ⟨rb_ (by rw [hf.out, decide_eq_decide] <;> omega), HB.out.tr bw_⟩
theorem l03Code_any (b : Bsk) (A : Option Addr) (c : Nat) (l : List Int) (w : World) (h : Rds w 1 A l.length (ics l)) (hn : l.length ≤ 100000000) :
 Calls Tryz.prog 194 #[bsv b, .slice A l.length c] w fun e w' => e = .returned (i64 (tfR b l).2) ∧ UpOf w w' := by
 go_enter Tryz.func194, Tryz.ntmps194
 go_upto_region 1 with (fail)
 refine wpg (R := fun V => Box V w.heap.size #[i64 b.bars, i64 b.rise, i64 b.fall, i64 b.clr, i64 b.near] ∧ UpOf w V) ⟨Box.new _ _ _, uw_⟩ (fun V z => ?_)
 obtain ⟨hb9, hB⟩ := z
 obtain ⟨hq, x0, x1, x2, x3, x4⟩ := hb9.five
 have HB := hd_ hB
 have HLV := hd_ (h.below hB.below)
 clear hb9 hB h
 generalize w.heap.size = q at *
 cases hv : vBsk b
 ·have hf := hd_ (tfR_1 (l := l) hv)
  go_wp2_with (first | (go_at_call 92; refine cu_ (ra_ (l03Ok_any b _) hv) fun g => ?_) | ((with_reducible refine wru ?_); refine wrz fun _ => ?_))
  go_ret
  exact ⟨by rw [hf.out] <;> rfl, HB.out.tr bw_⟩
 have HV := hd_ hv
 have hb := (vBsk_inv hv).1
 go_wp2_with (first | (go_at_call 92; refine cu_ (ra_ (l03Ok_any b _) hv) fun g => ?_) | ((with_reducible refine wru ?_); refine wrz fun _ => ?_))
 clear hv
 go_loopw [5] (fun i wr => ∃ k : Nat, k ≤ l.length ∧ i = i64 k ∧ Hid (∀ j, j < k → barB b (num l j) = true) ∧ ∃ g : Up V, wr = up V g) (fun i _ => l.length - (intOf i).toNat)
 case atStart => exact ⟨0, by omega, rfl, fun i hi => by omega, ex_up bw_⟩
 case round =>
  obtain ⟨k, hk, rfl, hok, g, rfl⟩ := hrel
  by_cases hlt : k < l.length
  ·obtain ⟨b1, o1, rfl, hb1, c0⟩ := num_at HLV.out hlt
   cases p1 : barB b (num l k)
   ·have hf := hd_ (tfR_2 (l := l) HV.out (by rw [barsB_at hlt p1]; rfl))
    go_wp2_with (first | ((with_reducible refine wru ?_); (repeat (go_big_quiet_step (first | (go_at_call 203; exact uq_ (ra_ (l03Bar_any b _ _ hb) p1))))); refine wqn fun nq => ?_))
    go_ret
    exact ⟨by rw [hf.out] <;> rfl, HB.out.tr bw_⟩
   ·have hq := hd_ p1
    go_wp2_with (first | ((with_reducible refine wru ?_); (repeat (go_big_quiet_step (first | (go_at_call 203; exact uq_ (ra_ (l03Bar_any b _ _ hb) p1))))); refine wqn fun nq => ?_))
    go_roundw
    case rel => exact ⟨k + 1, by omega, by go_num, lt_extD (P := fun j => barB b (num l j) = true) hok.out hq.out, ex_up bw_⟩
    case measure => (simp [intOf]; try omega)
  ·have ha := barsB_true (b := b) (l := l) (fun i hi => hok.out i (by omega))
   by_cases h6 : l.length ≤ 60
   ·have hf := hd_ (show (tfR b l).2 = 0 by
     by_cases e : l.length = 0
     ·rw [tfR_e HV.out (by rw [ha, decide_eq_true h6]; rfl) e]
     ·rw [tfR_0 HV.out (by rw [ha, decide_eq_true h6]; rfl) e])
    clear ha
    have h6' : ¬ (60 : Int) < (l.length : Int) := by omega
    clear h6
    go_wp2_with ((with_reducible refine wru ?_); refine wrz fun _ => ?_)
    go_ret
    exact ⟨by rw [hf.out] <;> rfl, HB.out.tr bw_⟩
   ·have hf := hd_ (tfR_2 (l := l) HV.out (by rw [ha, decide_eq_false h6]; rfl))
    clear ha
    have h6' : (60 : Int) < (l.length : Int) := by omega
    clear h6
    go_wp2_with ((with_reducible refine wru ?_); refine wrz fun _ => ?_)
    go_ret
    exact ⟨by rw [hf.out] <;> rfl, HB.out.tr bw_⟩
theorem fstK_step (b : Bsk) (l : List Int) (k : Nat) : fstK b l (k + 1) = ((fstK b l k).1 ++ [(num l k, tkM b (num l k) (fstK b l k).1 k (fstK b l k).2)], tkM b (num l k) (fstK b l k).1 k (fstK b l k).2) := by
 rw [fstK, fstK_len]
theorem tkM_gt {b : Bsk} {bar : Int} {T : List (Int × Int)} {k : Nat} {t : Int} (h : tkM b bar T k t < (T.getD k (0, 0)).2 + waitN b (T.getD k (0, 0)).1 bar) : tkM b bar T (k + 1) t = (T.getD k (0, 0)).2 + waitN b (T.getD k (0, 0)).1 bar := by rw [tkM, if_pos h]
theorem tkM_le {b : Bsk} {bar : Int} {T : List (Int × Int)} {k : Nat} {t : Int} (h : ¬ tkM b bar T k t < (T.getD k (0, 0)).2 + waitN b (T.getD k (0, 0)).1 bar) : tkM b bar T (k + 1) t = tkM b bar T k t := by rw [tkM, if_neg h]
theorem fastest_any (b : Bsk) (A : Option Addr) (c : Nat) (l : List Int) (w : World) (hv : vBsk b = true) (hbs : barsB b l = true) (h : Rds w 1 A l.length (ics l)) (hn : l.length ≤ 60) :
 Calls Tryz.prog 125 #[bsv b, .slice A l.length c] w fun e w' => ∃ A' c', e = .returned (.slice A' l.length c') ∧ w'.ownsRow w.heap.size 157 2 (.slice A' l.length c') l.length (skcs (fstK b l l.length).1) ∧ UpOf w w' := by
 have HV := hd_ hv
 have BO := hd_ (fun j (hj : j < l.length) => barB_bd (vBsk_inv hv).1 (barsB_inv hbs j hj))
 clear hv hbs
 go_enter Tryz.func125, Tryz.ntmps125
 go_upto_region 1 with (fail)
 refine wpg (R := fun V => Box V w.heap.size #[i64 b.bars, i64 b.rise, i64 b.fall, i64 b.clr, i64 b.near] ∧ UpOf w V) ⟨Box.new _ _ _, uw_⟩ (fun V z => ?_)
 obtain ⟨hb9, hB⟩ := z
 obtain ⟨hq, x0, x1, x2, x3, x4⟩ := hb9.five
 have HB := hd_ hB
 have HLV := hd_ (h.below hB.below)
 clear hb9 hB h
 generalize w.heap.size = q at *
 have hOwn := hd_ (World.ownsRow_lit (base := V.heap.size) (e := 157) (size := 2) V #[] 0 (Nat.le_refl _) (by unfold maxLen; omega) rfl)
 go_wp2_with ((with_reducible refine wru ?_); refine wrz fun _ => ?_)
 go_loopw [5, 6, 14] (fun o t i wr => ∃ (k : Nat) (A1 : Option Addr) (c1 : Nat), k ≤ l.length ∧ i = i64 k ∧ t = i64 (fstK b l k).2 ∧ o = .slice A1 k c1 ∧ wr.ownsRow V.heap.size 157 2 (.slice A1 k c1) k (skcs (fstK b l k).1) ∧ ∃ g : Up V, wr = up V g) (fun _ _ i _ => l.length - (intOf i).toNat)
 case atStart => exact ⟨0, _, _, by omega, rfl, rfl, rfl, hOwn.out, ex_up bw_⟩
 case round =>
  obtain ⟨k, A1, c1, hk, rfl, rfl, rfl, hown, g, rfl⟩ := hrel
  have HOW := hd_ hown
  have hlenT := fstK_len b l k
  have hT0 := (fstK_bd HV.out l k).1
  have hTB := hd_ (fstK_bd HV.out l k).2
  clear hown
  have hlenT := hd_ hlenT
  have hT0 := hd_ hT0
  by_cases hlt : k < l.length
  ·have hlt' : (k : Int) < (l.length : Int) := by omega
   obtain ⟨b1, o1, rfl, hb1, c0⟩ := num_at HLV.out hlt
   have HB2 := hd_ (BO.out k hlt)
   go_wp2_with ((with_reducible refine wru ?_); refine wrz fun _ => ?_)
   go_loopw [6, 20] (fun t jj wr => ∃ (j : Nat), j ≤ k ∧ jj = i64 j ∧ t = i64 (tkM b (num l k) (fstK b l k).1 j (fstK b l k).2) ∧ ∃ g3 : Up (up V g), wr = up V (g.tr g3)) (fun _ jj _ => k - (intOf jj).toNat)
   case atStart => exact ⟨0, by omega, rfl, by rw [tkM], ex_tr bw_⟩
   case round =>
    obtain ⟨j, hj, rfl, rfl, g3, rfl⟩ := hrel
    by_cases hjt : j < k
    ·have hjt' : (j : Int) < (k : Int) := by omega
     obtain ⟨b2, o2, rfl, hb2, s0, s1⟩ := stk_at (l := (fstK b l k).1) (by rw [hlenT.out]; exact Rds.of_own HOW.out) (k := j) (by rw [hlenT.out]; exact hjt)
     have hbj := (fstK_bar b l k j hjt)
     rw [hbj] at s0
     have hB1 := BO.out j (by omega)
     have hwt := waitN_bd HV.out (num l j) (num l k)
     have ht := hTB.out j hjt
     have hM := tkM_bd HV.out (num l k) (fstK b l k).1 (M := 200 * (k : Int)) (fun i hi => hTB.out i (by rw [hlenT.out] at hi; exact hi)) j (fstK b l k).2 (by rw [hlenT.out]; omega) hT0.out.1 hT0.out.2
     have hgt := hd_ (tkM_gt (b := b) (bar := num l k) (T := (fstK b l k).1) (k := j) (t := (fstK b l k).2))
     have hle := hd_ (tkM_le (b := b) (bar := num l k) (T := (fstK b l k).1) (k := j) (t := (fstK b l k).2))
     rw [hbj] at hgt hle
     have hcl := hd_ (fun (U : World) => waitsI_any b (num l j) (num l k) U HV.out hB1 HB2.out)
     clear hbj hB1
     generalize waitN b (num l j) (num l k) = wt at *
     generalize ((fstK b l k).1.getD j (0, 0)).2 = tk at *
     obtain ⟨M, hMe⟩ := nm_ (tkM b (num l k) (fstK b l k).1 j (fstK b l k).2)
     rw [hMe] at hM hgt hle
     rw [hMe]
     clear hMe
     by_cases hc : M < tk + wt
     ·have hv2 := hd_ (hgt.out hc)
      have hc2 : ¬ tk + wt < M := by omega
      have hc3 : M ≤ tk + wt := by omega
      go_wp2_with (first | ((with_reducible refine wru ?_); (repeat (go_big_quiet_step (first | (go_at_call 123; exact uq_ (hcl.out _))))); refine wqn fun nq => ?_))
      go_roundw
      case rel => exact ⟨j + 1, by omega, by go_num, by rw [hv2.out] <;> go_num, ex_tr bw_⟩
      case measure => (simp [intOf]; try omega)
     ·have hv2 := hd_ (hle.out hc)
      have hc2 : tk + wt ≤ M := by omega
      go_wp2_with (first | ((with_reducible refine wru ?_); (repeat (go_big_quiet_step (first | (go_at_call 123; exact uq_ (hcl.out _))))); refine wqn fun nq => ?_))
      go_roundw
      case rel => exact ⟨j + 1, by omega, by go_num, by rw [hv2.out] <;> go_num, ex_tr bw_⟩
      case measure => (simp [intOf]; try omega)
    ·obtain rfl : k = j := by omega
     have hstep := fstK_step b l k
     obtain ⟨M, hMe⟩ := nm_ (tkM b (num l k) (fstK b l k).1 k (fstK b l k).2)
     rw [hMe] at hstep
     rw [hMe]
     have HST := hd_ hstep
     clear hMe hstep
     go_wp2_with (first | (at_builtin; go_must (refine wpl_appU rfl _ _ 154 rfl V V.heap.size 157 _ 2 16 el_stk (.slice A1 k c1) k (skcs (fstK b l k).1) rfl (ob_ HOW.out bw_) _ 1 1 [i64 (num l k), i64 M] rfl (rds_new _ #[i64 (num l k), i64 M] _ 2 1 rfl) (fun u hu => by simp at hu; rcases hu with rfl | rfl <;> rfl) (by unfold maxLen; omega) (by omega) (ub_ V _).size bw_ (Nat.le_refl _) ?_; intro A2 c2 g2 o2)) | ((with_reducible refine wru ?_); refine wrz fun _ => ?_))
     go_roundw
     case rel => exact ⟨k + 1, A2, c2, by omega, by go_num, by rw [HST.out], rfl, by rw [HST.out, skcs_app]; exact o2, ex_up bw_⟩
     case measure => (simp [intOf]; try omega)
  ·obtain rfl : k = l.length := by omega
   go_wp2_with ((with_reducible refine wru ?_); refine wrz fun _ => ?_)
   go_ret
   exact ⟨A1, c1, rfl, om_ (ob_ HOW.out bw_) HB.out.below.size, HB.out.tr bw_⟩
theorem l03Fast_any (b : Bsk) (A : Option Addr) (c : Nat) (l : List Int) (w : World) (hv : vBsk b = true) (hbs : barsB b l = true) (h : Rds w 1 A l.length (ics l)) (hn : l.length ≤ 60) :
 Calls Tryz.prog 195 #[bsv b, .slice A l.length c] w fun e w' => ∃ A' c', e = .returned (.slice A' l.length c') ∧ w'.ownsRow w.heap.size 157 2 (.slice A' l.length c') l.length (skcs (fstK b l l.length).1) ∧ UpOf w w' := by
 have HV := hd_ hv
 have BO := hd_ (fun j (hj : j < l.length) => barB_bd (vBsk_inv hv).1 (barsB_inv hbs j hj))
 clear hv hbs
 go_enter Tryz.func195, Tryz.ntmps195
 go_upto_region 1 with (fail)
 refine wpg (R := fun V => Box V w.heap.size #[i64 b.bars, i64 b.rise, i64 b.fall, i64 b.clr, i64 b.near] ∧ UpOf w V) ⟨Box.new _ _ _, uw_⟩ (fun V z => ?_)
 obtain ⟨hb9, hB⟩ := z
 obtain ⟨hq, x0, x1, x2, x3, x4⟩ := hb9.five
 have HB := hd_ hB
 have HLV := hd_ (h.below hB.below)
 clear hb9 hB h
 generalize w.heap.size = q at *
 have hOwn := hd_ (World.ownsRow_lit (base := V.heap.size) (e := 157) (size := 2) V #[] 0 (Nat.le_refl _) (by unfold maxLen; omega) rfl)
 go_wp2_with ((with_reducible refine wru ?_); refine wrz fun _ => ?_)
 go_loopw [5, 6, 7] (fun o t i wr => ∃ (k : Nat) (A1 : Option Addr) (c1 : Nat), k ≤ l.length ∧ i = i64 k ∧ t = i64 (fstK b l k).2 ∧ o = .slice A1 k c1 ∧ wr.ownsRow V.heap.size 157 2 (.slice A1 k c1) k (skcs (fstK b l k).1) ∧ ∃ g : Up V, wr = up V g) (fun _ _ i _ => l.length - (intOf i).toNat)
 case atStart => exact ⟨0, _, _, by omega, rfl, rfl, rfl, hOwn.out, ex_up bw_⟩
 case round =>
  obtain ⟨k, A1, c1, hk, rfl, rfl, rfl, hown, g, rfl⟩ := hrel
  have HOW := hd_ hown
  have hlenT := fstK_len b l k
  have hT0 := (fstK_bd HV.out l k).1
  have hTB := hd_ (fstK_bd HV.out l k).2
  clear hown
  have hlenT := hd_ hlenT
  have hT0 := hd_ hT0
  by_cases hlt : k < l.length
  ·have hlt' : (k : Int) < (l.length : Int) := by omega
   obtain ⟨b1, o1, rfl, hb1, c0⟩ := num_at HLV.out hlt
   have HB2 := hd_ (BO.out k hlt)
   go_wp2_with ((with_reducible refine wru ?_); refine wrz fun _ => ?_)
   go_loopw [6, 8] (fun t jj wr => ∃ (j : Nat), j ≤ k ∧ jj = i64 j ∧ t = i64 (tkM b (num l k) (fstK b l k).1 j (fstK b l k).2) ∧ ∃ g3 : Up (up V g), wr = up V (g.tr g3)) (fun _ jj _ => k - (intOf jj).toNat)
   case atStart => exact ⟨0, by omega, rfl, by rw [tkM], ex_tr bw_⟩
   case round =>
    obtain ⟨j, hj, rfl, rfl, g3, rfl⟩ := hrel
    by_cases hjt : j < k
    ·have hjt' : (j : Int) < (k : Int) := by omega
     obtain ⟨b2, o2, rfl, hb2, s0, s1⟩ := stk_at (l := (fstK b l k).1) (by rw [hlenT.out]; exact Rds.of_own HOW.out) (k := j) (by rw [hlenT.out]; exact hjt)
     have hbj := (fstK_bar b l k j hjt)
     rw [hbj] at s0
     have hB1 := BO.out j (by omega)
     have hwt := waitN_bd HV.out (num l j) (num l k)
     have ht := hTB.out j hjt
     have hM := tkM_bd HV.out (num l k) (fstK b l k).1 (M := 200 * (k : Int)) (fun i hi => hTB.out i (by rw [hlenT.out] at hi; exact hi)) j (fstK b l k).2 (by rw [hlenT.out]; omega) hT0.out.1 hT0.out.2
     have hgt := hd_ (tkM_gt (b := b) (bar := num l k) (T := (fstK b l k).1) (k := j) (t := (fstK b l k).2))
     have hle := hd_ (tkM_le (b := b) (bar := num l k) (T := (fstK b l k).1) (k := j) (t := (fstK b l k).2))
     rw [hbj] at hgt hle
     have hcl := hd_ (fun (U : World) => l03Wait_any b (num l j) (num l k) U HV.out hB1 HB2.out)
     clear hbj hB1
     generalize waitN b (num l j) (num l k) = wt at *
     generalize ((fstK b l k).1.getD j (0, 0)).2 = tk at *
     obtain ⟨M, hMe⟩ := nm_ (tkM b (num l k) (fstK b l k).1 j (fstK b l k).2)
     rw [hMe] at hM hgt hle
     rw [hMe]
     clear hMe
     have hmx := hd_ (fun (U : World) => l00MaxD_any M (tk + wt) U)
     by_cases hc : M < tk + wt
     ·have hv2 := hd_ (hgt.out hc)
      rw [if_neg (by omega)] at hmx
      go_wp2_with (first | ((with_reducible refine wru ?_); (repeat (go_big_quiet_step (first | (go_at_call 204; exact uq_ (hcl.out _)) | (go_at_call 219; exact uqs_ (hmx.out _))))); refine wqn fun nq => ?_))
      go_roundw
      case rel => exact ⟨j + 1, by omega, by go_num, by rw [hv2.out] <;> go_num, ex_tr bw_⟩
      case measure => (simp [intOf]; try omega)
     ·have hv2 := hd_ (hle.out hc)
      have hmy : Hid (∀ U : World, Calls Tryz.prog 219 #[i64 M, i64 (tk + wt)] U fun e w' => e = .returned (i64 M) ∧ U = w') := by
       intro U
       have := hmx.out U
       by_cases h9 : M > tk + wt
       ·rwa [if_pos h9] at this
       ·rw [if_neg h9] at this
        have e9 : tk + wt = M := by omega
        rw [e9] at this ⊢
        exact this
      clear hmx
      go_wp2_with (first | ((with_reducible refine wru ?_); (repeat (go_big_quiet_step (first | (go_at_call 204; exact uq_ (hcl.out _)) | (go_at_call 219; exact uqs_ (hmy.out _))))); refine wqn fun nq => ?_))
      go_roundw
      case rel => exact ⟨j + 1, by omega, by go_num, by rw [hv2.out] <;> go_num, ex_tr bw_⟩
      case measure => (simp [intOf]; try omega)
    ·obtain rfl : k = j := by omega
     have hstep := fstK_step b l k
     obtain ⟨M, hMe⟩ := nm_ (tkM b (num l k) (fstK b l k).1 k (fstK b l k).2)
     rw [hMe] at hstep
     rw [hMe]
     have HST := hd_ hstep
     clear hMe hstep
     go_wp2_with (first | (at_builtin; go_must (refine wpl_appU rfl _ _ 154 rfl V V.heap.size 157 _ 2 16 el_stk (.slice A1 k c1) k (skcs (fstK b l k).1) rfl (ob_ HOW.out bw_) _ 1 1 [i64 (num l k), i64 M] rfl (rds_new _ #[i64 (num l k), i64 M] _ 2 1 rfl) (fun u hu => by simp at hu; rcases hu with rfl | rfl <;> rfl) (by unfold maxLen; omega) (by omega) (ub_ V _).size bw_ (Nat.le_refl _) ?_; intro A2 c2 g2 o2)) | ((with_reducible refine wru ?_); refine wrz fun _ => ?_))
     go_roundw
     case rel => exact ⟨k + 1, A2, c2, by omega, by go_num, by rw [HST.out], rfl, by rw [HST.out, skcs_app]; exact o2, ex_up bw_⟩
     case measure => (simp [intOf]; try omega)
  ·obtain rfl : k = l.length := by omega
   go_wp2_with ((with_reducible refine wru ?_); refine wrz fun _ => ?_)
   go_ret
   exact ⟨A1, c1, rfl, om_ (ob_ HOW.out bw_) HB.out.below.size, HB.out.tr bw_⟩
theorem wordB_at {n : Int} {s : ByteArray} {i : Nat} (hi : i < s.size) (h : txtC 33 (byteAt s i) = false) : wordB n s = false := by
 rw [wordB, rall_at hi h, Bool.and_false]
theorem wordB_in {n : Int} {s : ByteArray} (h : ∀ i, i < s.size → txtC 33 (byteAt s i) = true) : wordB n s = btw (s.size : Int) 1 n := by
 rw [wordB, rall_true h, Bool.and_true]
 unfold btw
 rw [← Bool.decide_and, decide_eq_decide]
 omega
theorem l09Word_any (s : ByteArray) (n : Int) (w : World) (hs : s.size ≤ 9223372036854775807) :
 Calls Tryz.prog 225 #[.string s, i64 n] w fun e w' => e = .returned (.bool (wordB n s)) ∧ w = w' := by
 go_enter Tryz.func225, Tryz.ntmps225
 go_wp2_with fail
 go_loop [5] (fun i => ∃ k : Nat, k ≤ s.size ∧ i = i64 k ∧ Hid (∀ j, j < k → txtC 33 (byteAt s j) = true)) (fun i => s.size - (intOf i).toNat)
 case atStart => exact ⟨0, by omega, rfl, fun i hi => by omega⟩
 case round =>
  obtain ⟨k, hk, rfl, hok⟩ := hrel
  by_cases hlt : k < s.size
  ·have e := byteAt_eq hlt
   by_cases p1 : (byteAt s k).toNat < 33
   ·have hf := hd_ (wordB_at (n := n) hlt (decide_eq_false (by omega)))
    have p1' : ((byteAt s k).toNat : Int) < 33 := by omega
    rw [← e] at p1'
    go_wp2_with fail
    go_ret
    exact ⟨rb_ hf.out.symm, rfl⟩
   by_cases p2 : 126 < (byteAt s k).toNat
   ·have hf := hd_ (wordB_at (n := n) hlt (decide_eq_false (by omega)))
    have p1' : 33 ≤ ((byteAt s k).toNat : Int) := by omega
    have p2' : 126 < ((byteAt s k).toNat : Int) := by omega
    rw [← e] at p1' p2'
    go_wp2_with fail
    go_ret
    exact ⟨rb_ hf.out.symm, rfl⟩
   have hq := hd_ (show txtC 33 (byteAt s k) = true from decide_eq_true (by omega))
   have p1' : 33 ≤ ((byteAt s k).toNat : Int) := by omega
   have p2' : ((byteAt s k).toNat : Int) ≤ 126 := by omega
   rw [← e] at p1' p2'
   go_wp2_with fail
   go_round
   case rel => have hx := lt_ext (P := fun j => txtC 33 (byteAt s j) = true) hok.out hq.out; exact ⟨k + 1, by omega, by go_num, hx⟩
   case measure => (simp [intOf]; try omega)
  ·have hf := hd_ (wordB_in (n := n) (s := s) fun i hi => hok.out i (by omega))
   go_wp2_with fail
   refine cs_ (in_any (s.size : Int) 1 n w) ?_
   go_wp2_with fail
   go_ret
   exact ⟨by rw [hf.out] <;> rfl, rfl⟩
section
variable (n : Int) (A : Option Addr) (c : Nat) (ws : List ByteArray) (w : World)
theorem l09Ok_any (h : Rds w 1 A ws.length (strs ws)) (hn : ws.length ≤ 100000000) (hf : WBd ws) :
 Calls Tryz.prog 200 #[.slice A ws.length c, i64 n] w fun e w' => e = .returned (.bool (vText ws n)) ∧ w = w' := by
 have HF := hd_ hf
 clear hf
 go_enter Tryz.func200, Tryz.ntmps200
 go_wp2_with fail
 go_loopw [5] (fun t5 wr => ∃ k : Nat, k ≤ ws.length ∧ t5 = i64 k ∧ Hid (∀ j, j < k → wordB n (wd ws j) = true) ∧ wr = w) (fun t5 _ => ws.length - (intOf t5).toNat)
 case atStart => exact ⟨0, by omega, rfl, hd_ fun j hj => absurd hj (by omega), rfl⟩
 case round =>
  obtain ⟨k, hk, rfl, HN, hw⟩ := hrel
  subst hw
  by_cases hlt : k < ws.length
  ·have hlt' : (k : Int) < (ws.length : Int) := by omega
   obtain ⟨b, off, rfl, hb, hc⟩ := wd_at h hlt
   have c0 := hc k hlt
   have hz := HF.out k hlt
   clear hc
   cases q : wordB n (wd ws k) with
   | false =>
     have hres := hd_ (vText_3 hlt q)
     go_wp2_with fail
     refine cs_ (ra_ (l09Word_any (wd ws k) n _ (by omega)) q) ?_
     go_wp2_with fail
     go_ret
     exact ⟨rb_ hres.out.symm, rfl⟩
   | true =>
     have hq := hd_ q
     go_wp2_with fail
     refine cs_ (ra_ (l09Word_any (wd ws k) n _ (by omega)) q) ?_
     go_wp2_with fail
     go_roundw
     case rel => exact ⟨k + 1, by omega, by go_num, hd_ (lt_ext (P := fun j => wordB n (wd ws j) = true) HN.out hq.out), by first | rfl | trivial⟩
     case measure => (simp [intOf]; try omega)
  ·obtain rfl : k = ws.length := by omega
   by_cases h40 : ws.length ≤ 40
   ·have h40' : (ws.length : Int) ≤ 40 := by omega
    cases q : btw n 1 80 with
    | false =>
      have hres := hd_ (vText_1 (ws := ws) q)
      go_wp2_with fail
      refine cs_ (ra_ (in_any n 1 80 _) q) ?_
      go_wp2_with fail
      go_ret
      exact ⟨rb_ hres.out.symm, rfl⟩
    | true =>
      have hres := hd_ (vText_0 q h40 HN.out)
      go_wp2_with fail
      refine cs_ (ra_ (in_any n 1 80 _) q) ?_
      go_wp2_with fail
      go_ret
      exact ⟨rb_ hres.out.symm, rfl⟩
   ·have h40' : ¬ (ws.length : Int) ≤ 40 := by omega
    have hres := hd_ (vText_2 (n := n) h40)
    go_wp2_with fail
    go_ret
    exact ⟨rb_ hres.out.symm, rfl⟩
theorem maxR_any (a b : Int) (w : World) :
 Calls Tryz.prog 219 #[i64 a, i64 b] w fun e w' => e = .returned (i64 (if a > b then a else b)) ∧ w = w' := by
 go_enter Tryz.func219, Tryz.ntmps219
 go_wp2
 all_goals go_ret
 all_goals exact ⟨ret_int (by first | rfl | omega), rfl⟩
theorem l09Long_any (A : Option Addr) (c : Nat) (ws : List ByteArray) (w : World) (h : Rds w 1 A ws.length (strs ws)) (hn : ws.length ≤ 100000000) (hf : WBd ws) :
 Calls Tryz.prog 201 #[.slice A ws.length c] w fun e w' => e = .returned (i64 (longL ws)) ∧ w = w' := by
 have HF := hd_ hf
 clear hf
 go_enter Tryz.func201, Tryz.ntmps201
 go_wp2_with fail
 go_loopw [3, 4] (fun t3 t4 wr => ∃ (k : Nat) (z : Int), k ≤ ws.length ∧ t4 = i64 k ∧ t3 = .int .i64 z ∧ Hid (z = (ws.length : Int) - 1 + sizes ws k) ∧ wr = w) (fun _ t4 _ => ws.length - (intOf t4).toNat)
 case atStart => exact ⟨0, _, by omega, rfl, rfl, hd_ (by rw [sizes]; omega), rfl⟩
 case round =>
  obtain ⟨k, z, hk, rfl, rfl, HZ, hw⟩ := hrel
  subst hw
  have hsz := sizes_bd HF.out k hk
  have hz1 : -1 ≤ z := by rw [HZ.out]; omega
  have hz2 : z ≤ 20000000000000000 := by rw [HZ.out]; omega
  by_cases hlt : k < ws.length
  ·have hlt' : (k : Int) < (ws.length : Int) := by omega
   obtain ⟨b, off, rfl, hb, c0⟩ := wd_at h hlt
   have c0 := c0 k hlt
   have f1 := HF.out k hlt
   have HZ2 := hd_ (show z + ((wd ws k).size : Int) = (ws.length : Int) - 1 + sizes ws (k + 1) from by rw [HZ.out, sizes]; omega)
   clear HZ hsz
   go_wp2_with fail
   go_roundw
   case rel => exact ⟨k + 1, _, by omega, by go_num, rfl, HZ2, by first | rfl | trivial⟩
   case measure => (simp [intOf]; try omega)
  ·obtain rfl : k = ws.length := by omega
   obtain ⟨v, hv⟩ := nm_ ((if (0 : Int) > z then 0 else z))
   have HL : Hid (longL ws = v) := hd_ (by rw [longL, ← HZ.out, ← hv]; (repeat' split) <;> omega)
   have HMX : Hid (∀ V, Calls Tryz.prog 219 #[i64 0, i64 z] V fun e w' => e = .returned (i64 v) ∧ V = w') := hd_ fun V => by rw [← hv]; exact maxR_any 0 z V
   clear HZ hsz hv
   go_wp2_with fail
   refine cs_ (HMX.out _) ?_
   go_wp2_with fail
   go_ret
   rw [HL.out]
   exact ⟨rfl, rfl⟩
theorem l09Blanks_any (n : Int) (w : World) (hn : n ≤ 100000) (h0 : -1000000000 ≤ n) :
 Calls Tryz.prog 226 #[i64 n] w fun e w' => e = .returned (.string (bs (List.replicate n.toNat 32))) ∧ UpOf w w' := by
 have hOwn := hd_ (World.ownsRow_lit (base := w.heap.size) (e := 5) (size := 1) w #[] 0 (Nat.le_refl _) (by unfold maxLen; omega) rfl)
 go_enter Tryz.func226, Tryz.ntmps226
 go_wp2_with fail
 go_loopw [0, 3] (fun t0 t3 wr => ∃ (k : Nat) (z : Int) (L : List UInt8) (A1 : Option Addr) (c1 : Nat), t0 = .int .i64 z ∧ t3 = .slice A1 L.length c1 ∧ z.toNat + k = n.toNat ∧ z ≤ n ∧ -1000000000 ≤ z ∧ Hid (L = List.replicate k 32) ∧ Hid (wr.ownsRow w.heap.size 5 1 (.slice A1 L.length c1) L.length (Lib.byteCells L)) ∧ UpOf w wr) (fun t0 _ _ => (intOf t0).toNat)
 case atStart => exact ⟨0, n, [], _, _, rfl, rfl, by omega, Int.le_refl _, h0, hd_ rfl, hd_ hOwn.out, uw_⟩
 case round =>
  obtain ⟨k, z, L, A1, c1, rfl, rfl, hzk, hzn, hz0, HE, HO, g, rfl⟩ := hrel
  clear hOwn
  by_cases hlt : 0 < z
  ·have hL : L.length ≤ 100000 := by rw [HE.out, List.length_replicate]; omega
   go_wp2_with (at_builtin; go_must (refine wpl_app rfl _ _ 22 rfl w.heap.size 5 (.int .u8 0) 1 1 el_byte (.slice A1 L.length c1) L.length (Lib.byteCells L) rfl (ob_ HO.out bw_) _ 1 1 [.int .u8 32] rfl (rds_new _ #[.int .u8 32] _ 1 1 rfl) (fun u hu => by simp at hu; subst hu; rfl) (by unfold maxLen; omega) (by omega) (Below.size (B := w.heap.size) (w := w) bw_) ?_); intro A2 c2 W2 o2 hg2; have hu2 := up_of_grown (W := w) bw_ hg2 fun j hj => (HO.out.lt j hj).1)
   go_roundw
   case rel => exact ⟨k + 1, z - 1, L ++ [32], A2, c2, by go_num, by rw [List.length_append]; rfl, by omega, by omega, by omega, hd_ (by rw [HE.out, List.replicate_succ']), hd_ (by rw [List.length_append]; simpa [Lib.byteCells] using o2), hu2⟩
   case measure => (simp [intOf]; try omega)
  ·have hcv := conv_own (w := up w g) (w1 := up w g) HO.out rfl (Below.refl _ _)
   have hfin := hd_ (show L = List.replicate n.toNat 32 by rw [HE.out]; congr 1; omega)
   clear HE
   go_wp2_with fail
   go_ret
   rw [← hfin.out]
   exact ⟨rfl, uw_⟩
theorem l09Set_any (h : Rds w 1 A ws.length (strs ws)) (h1 : 1 ≤ ws.length) (hv : vText ws n = true) (hl : longL ws ≤ n) :
 Calls Tryz.prog 202 #[.slice A ws.length c, i64 n] w fun e w' => e = .returned (.string (bs (setA ws n))) ∧ UpOf w w' := by
 obtain ⟨⟨hn1, hn2⟩, h40, hws⟩ := vText_inv hv
 have HW := hd_ hws
 have HR := hd_ h
 have hWB : Hid (WBd ws) := hd_ fun i hi => by have := (hws i hi).2; omega
 obtain ⟨b, off, rfl, hb, c0⟩ := wd_at h (i := 0) (by omega)
 have HC0 := hd_ c0
 have hw0 := (hws 0 (by omega)).2
 have k0 := c0 0 (by omega)
 rw [Nat.add_zero] at k0
 obtain ⟨G, hG⟩ : ∃ G, ws.length = G + 1 := ⟨ws.length - 1, by omega⟩
 obtain ⟨LL, hLL⟩ := nm_ (longL ws)
 have hl0 : 0 ≤ LL := by rw [← hLL]; exact longL_nn ws
 have HLL : Hid (∀ V, Below w.heap.size w V → Calls Tryz.prog 201 #[.slice (some ⟨b, off, none⟩) (G + 1) c] V fun e w' => e = .returned (i64 LL) ∧ V = w') := hd_ fun V hV => by
  have := l09Long_any _ c _ V (HR.out.below hV) (by omega) hWB.out
  rw [hLL, hG] at this
  exact this
 have hres1 : Hid (G = 0 → setA ws n = (wd ws 0).data.toList ++ List.replicate (n - LL).toNat 32) := hd_ fun e => by rw [setA, if_pos (by omega), hLL]
 have hres2 : Hid (0 < G → setA ws n = setU ws (n - LL) G G) := hd_ fun e => by
  rw [setA, if_neg (by omega), hLL, hG]; congr 1; omega
 have hl9 : LL ≤ n := by omega
 have hG40 : G ≤ 39 := by omega
 have HG := hd_ hG
 rw [hG]
 clear hws hv h hLL hl c0 h40 h1 hG
 obtain ⟨W0, hW0⟩ := nm_ (wd ws 0)
 have HW0 := hd_ hW0
 rw [hW0] at k0 hw0 hres1
 clear hW0
 by_cases hG0 : G = 0
 ·subst hG0
  obtain ⟨R, hR⟩ := nm_ (bs (List.replicate (n - LL).toNat 32))
  have hRz : R.size ≤ 100 := by rw [← hR, bs_size, List.length_replicate]; omega
  have HRd := hd_ hR
  have hrep : Hid (∀ V : World, Calls Tryz.prog 226 #[i64 (n - LL)] V fun e w' => e = .returned (.string R) ∧ UpOf V w') := hd_ fun V => by
   rw [← hR]; exact l09Blanks_any _ V (by omega) (by omega)
  have es : ∀ V, (Op.stringOp .add W0 R).run Tryz.prog V = .ok (.string (W0 ++ R)) V := fun V => run_string_add_sum V _ _ (by omega)
  clear hR
  go_enter Tryz.func202, Tryz.ntmps202
  go_wp2_with (first | (go_at_call 201; refine cs_ (HLL.out _ bw_) ?_) | ((with_reducible refine wru ?_); (repeat (go_big_quiet_step (first | (go_at_call 226; exact uq_ (hrep.out _))))); refine wqn fun nq => ?_))
  go_ret
  refine ⟨?_, uw_⟩
  show Ending.returned (.string _) = _
  rw [hres1.out (by first | rfl | trivial), ← HRd.out]
  exact congrArg Ending.returned (congrArg Value.string (by apply ByteArray.ext; apply Array.ext'; simp))
 ·have hGp : 0 < G := by omega
  have hg0 : ((G : Int) == 0) = false := by rw [beq_eq_false_iff_ne]; omega
  have hgp : (0 : Int) < (G : Int) := by omega
  go_enter Tryz.func202, Tryz.ntmps202
  go_wp2_with (first | (go_at_call 201; refine cs_ (HLL.out _ bw_) ?_) | ((with_reducible refine wru ?_); refine wrz fun _ => ?_))
  obtain ⟨Q, hQ⟩ := nm_ ((n - LL) / (G : Int))
  obtain ⟨rm, hrm⟩ := nm_ ((n - LL) % (G : Int))
  have hQb : 0 ≤ Q ∧ Q ≤ 80 := by
   have h1 := Int.ediv_nonneg (a := n - LL) (b := (G : Int)) (by omega) (by omega)
   have h2 := Int.ediv_le_self (a := n - LL) (G : Int) (by omega)
   omega
  have hrb : 0 ≤ rm ∧ rm < G := by
   have h1 := Int.emod_nonneg (n - LL) (b := (G : Int)) (by omega)
   have h2 := Int.emod_lt_of_pos (n - LL) (b := (G : Int)) (by omega)
   omega
  have hgap : Hid (∀ k : Nat, gapN (n - LL) G (k + 1) = if ((k : Int) + 1) ≤ rm then 1 + Q + 1 else 1 + Q) := hd_ fun k => by
   rw [gapN, hQ, hrm]
   push_cast
   rfl
  obtain ⟨hQ1, hQ2⟩ := hQb
  obtain ⟨hr1, hr2⟩ := hrb
  go_loopw [7, 8] (fun t7 t8 wr => ∃ (k : Nat) (T : List UInt8), k ≤ G ∧ t8 = i64 (k + 1) ∧ t7 = .string (bs T) ∧ Hid (T = setU ws (n - LL) G k) ∧ Hid (T.length ≤ 80 + 300 * k) ∧ ∃ g : Up w, wr = up w g) (fun _ t8 _ => G + 1 - (intOf t8).toNat)
  case atStart => exact ⟨0, W0.data.toList, by omega, rfl, by rw [bs_of], hd_ (by rw [setU, HW0.out]), hd_ (by show W0.size ≤ _; omega), ex_up bw_⟩
  case round =>
   obtain ⟨k, T, hk, rfl, rfl, HT, HTl, g, rfl⟩ := hrel
   by_cases hlt : k < G
   ·have hlt' : (k : Int) + 1 ≤ (G : Int) := by omega
    have hltS : (k : Int) + 1 < (G : Int) + 1 := by omega
    have k1 := HC0.out (k + 1) (by rw [HG.out]; omega)
    have htn : ((k : Int) + 1).toNat = k + 1 := by omega
    have hsz : (wd ws (k + 1)).size ≤ 80 := by have := (HW.out (k + 1) (by rw [HG.out]; omega)).2; omega
    have hTl : T.length ≤ 80 + 300 * k := HTl.out
    obtain ⟨S, hS⟩ := nm_ (wd ws (k + 1))
    have HS := hd_ hS
    rw [hS] at k1 hsz
    clear hS
    by_cases hq : (k : Int) + 1 ≤ rm
    ·obtain ⟨R, hR⟩ := nm_ (bs (List.replicate (1 + Q + 1).toNat 32))
     have hRz : R.size ≤ 100 := by rw [← hR, bs_size, List.length_replicate]; omega
     have hrep : Hid (∀ V : World, Calls Tryz.prog 226 #[i64 (1 + Q + 1)] V fun e w' => e = .returned (.string R) ∧ UpOf V w') := hd_ fun V => by
      rw [← hR]; exact l09Blanks_any _ V (by omega) (by omega)
     have HT2 : Hid (T ++ (R.data.toList ++ S.data.toList) = setU ws (n - LL) G (k + 1)) := hd_ (by
      rw [setU, hgap.out, if_pos hq, HT.out, ← hR, bs_list, HS.out])
     have HTl2 : Hid ((T ++ (R.data.toList ++ S.data.toList)).length ≤ 80 + 300 * (k + 1)) := hd_ (by
      rw [List.length_append, List.length_append, bsz, bsz]; omega)
     have e1s : ∀ V, (Op.stringOp .add R S).run Tryz.prog V = .ok (.string (R ++ S)) V := fun V => run_string_add_sum V _ _ (by omega)
     have e2s : ∀ V, (Op.stringOp .add (bs T) (R ++ S)).run Tryz.prog V = .ok (.string (bs T ++ (R ++ S))) V := fun V => run_string_add_sum V _ _ (by rw [bs_size, ByteArray.size_append]; omega)
     clear hR HT hTl
     go_wp2_with (first | ((with_reducible refine wru ?_); (repeat (go_big_quiet_step (first | (go_at_call 226; exact uq_ (hrep.out _))))); refine wqn fun nq => ?_))
     go_roundw
     case rel => exact ⟨k + 1, _, by omega, by go_num, congrArg Value.string (by apply ByteArray.ext; apply Array.ext'; simp), HT2, HTl2, ex_up bw_⟩
     case measure => simp [intOf]; try omega
    ·obtain ⟨R, hR⟩ := nm_ (bs (List.replicate (1 + Q).toNat 32))
     have hRz : R.size ≤ 100 := by rw [← hR, bs_size, List.length_replicate]; omega
     have hrep : Hid (∀ V : World, Calls Tryz.prog 226 #[i64 (1 + Q)] V fun e w' => e = .returned (.string R) ∧ UpOf V w') := hd_ fun V => by
      rw [← hR]; exact l09Blanks_any _ V (by omega) (by omega)
     have HT2 : Hid (T ++ (R.data.toList ++ S.data.toList) = setU ws (n - LL) G (k + 1)) := hd_ (by
      rw [setU, hgap.out, if_neg hq, HT.out, ← hR, bs_list, HS.out])
     have HTl2 : Hid ((T ++ (R.data.toList ++ S.data.toList)).length ≤ 80 + 300 * (k + 1)) := hd_ (by
      rw [List.length_append, List.length_append, bsz, bsz]; omega)
     have e1s : ∀ V, (Op.stringOp .add R S).run Tryz.prog V = .ok (.string (R ++ S)) V := fun V => run_string_add_sum V _ _ (by omega)
     have e2s : ∀ V, (Op.stringOp .add (bs T) (R ++ S)).run Tryz.prog V = .ok (.string (bs T ++ (R ++ S))) V := fun V => run_string_add_sum V _ _ (by rw [bs_size, ByteArray.size_append]; omega)
     clear hR HT hTl
     go_wp2_with (first | ((with_reducible refine wru ?_); (repeat (go_big_quiet_step (first | (go_at_call 226; exact uq_ (hrep.out _))))); refine wqn fun nq => ?_))
     go_roundw
     case rel => exact ⟨k + 1, _, by omega, by go_num, congrArg Value.string (by apply ByteArray.ext; apply Array.ext'; simp), HT2, HTl2, ex_up bw_⟩
     case measure => simp [intOf]; try omega
   ·obtain rfl : k = G := by omega
    have hfin := hd_ (show setA ws n = T by rw [hres2.out hGp, HT.out])
    clear HT
    go_wp2_with ((with_reducible refine wru ?_); refine wrz fun _ => ?_)
    go_ret
    rw [hfin.out]
    exact ⟨rfl, uw_⟩
theorem setLineS_any (h : Rds w 1 A ws.length (strs ws)) (hn : ws.length ≤ 100000000) (hf : WBd ws) :
 Calls Tryz.prog 164 #[.slice A ws.length c, i64 n] w fun e w' => e = .returned (.tuple #[.string (setR ws n).1, i64 (setR ws n).2]) ∧ UpOf w w' := by
 have HR := hd_ h
 have HF := hd_ hf
 have HOK : Hid (∀ V, Below w.heap.size w V → Calls Tryz.prog 200 #[.slice A ws.length c, i64 n] V fun e w' => e = .returned (.bool (vText ws n)) ∧ V = w') := hd_ fun V hV => l09Ok_any n A c ws V (HR.out.below hV) hn HF.out
 have HLO : Hid (∀ V, Below w.heap.size w V → Calls Tryz.prog 201 #[.slice A ws.length c] V fun e w' => e = .returned (i64 (longL ws)) ∧ V = w') := hd_ fun V hV => l09Long_any A c ws V (HR.out.below hV) hn HF.out
 clear h hf
 cases hv : vText ws n with
 | false =>
   have hr := hd_ (show setR ws n = (⟨#[]⟩, 1) by rw [setR, hv]; rfl)
   go_enter Tryz.func164, Tryz.ntmps164
   go_wp2_with (first | (go_at_call 200; refine cs_ (ra_ (HOK.out _ bw_) hv) ?_))
   go_ret2
   rw [hr.out]
   exact ⟨rfl, uw_⟩
 | true =>
   obtain ⟨LL, hLL⟩ := nm_ (longL ws)
   rw [hLL] at HLO
   by_cases hlt : n < LL
   ·have hr := hd_ (show setR ws n = (⟨#[]⟩, 5) by rw [setR, hv, if_pos rfl, hLL, if_pos hlt])
    clear hLL
    go_enter Tryz.func164, Tryz.ntmps164
    go_wp2_with (first | (go_at_call 200; refine cs_ (ra_ (HOK.out _ bw_) hv) ?_) | (go_at_call 201; refine cs_ (HLO.out _ bw_) ?_))
    go_ret2
    rw [hr.out]
    exact ⟨rfl, uw_⟩
   ·have hge : ¬ n < LL := hlt
    by_cases h0 : ws.length = 0
    ·have hz : ((ws.length : Int) == 0) = true := by rw [beq_iff_eq]; omega
     have hr := hd_ (show setR ws n = (⟨#[]⟩, 3) by rw [setR, hv, if_pos rfl, hLL, if_neg hlt, if_pos h0])
     clear hLL h0
     go_enter Tryz.func164, Tryz.ntmps164
     go_wp2_with (first | (go_at_call 200; refine cs_ (ra_ (HOK.out _ bw_) hv) ?_) | (go_at_call 201; refine cs_ (HLO.out _ bw_) ?_))
     go_ret2
     rw [hr.out]
     exact ⟨rfl, uw_⟩
    ·have hz : ((ws.length : Int) == 0) = false := by rw [beq_eq_false_iff_ne]; omega
     have hr := hd_ (show setR ws n = (bs (setA ws n), 0) by rw [setR, hv, if_pos rfl, hLL, if_neg hlt, if_neg h0])
     have HST : Hid (∀ V, Below w.heap.size w V → Calls Tryz.prog 202 #[.slice A ws.length c, i64 n] V fun e w' => e = .returned (.string (bs (setA ws n))) ∧ UpOf V w') := hd_ fun V hV => l09Set_any n A c ws V (HR.out.below hV) (by omega) hv (by rw [hLL]; omega)
     obtain ⟨R, hR⟩ := nm_ (bs (setA ws n))
     rw [hR] at HST hr
     clear hLL h0 hR
     go_enter Tryz.func164, Tryz.ntmps164
     go_wp2_with (first | (go_at_call 200; refine cs_ (ra_ (HOK.out _ bw_) hv) ?_) | (go_at_call 201; refine cs_ (HLO.out _ bw_) ?_) | (go_at_call 202; refine cu_ (HST.out _ bw_) fun g => ?_))
     go_ret2
     rw [hr.out]
     exact ⟨rfl, uw_⟩
end
theorem ticksForI_any (b : Bsk) (A : Option Addr) (c : Nat) (l : List Int) (w : World) (h : Rds w 1 A l.length (ics l)) (hn : l.length ≤ 100000000) :
 Calls Tryz.prog 72 #[bsv b, .slice A l.length c] w fun e w' => e = .returned (.tuple #[i64 (tfR b l).1, i64 (tfR b l).2]) ∧ UpOf w w' := by
 go_enter Tryz.func72, Tryz.ntmps72
 go_upto_region 1 with (fail)
 refine wpg (R := fun V => Box V w.heap.size #[i64 b.bars, i64 b.rise, i64 b.fall, i64 b.clr, i64 b.near] ∧ UpOf w V) ⟨Box.new _ _ _, uw_⟩ (fun V z => ?_)
 obtain ⟨hb9, hB⟩ := z
 obtain ⟨hq, x0, x1, x2, x3, x4⟩ := hb9.five
 have HB := hd_ hB
 have HLV := hd_ (h.below hB.below)
 clear hb9 hB h
 generalize w.heap.size = q at *
 cases hv : vBsk b
 ·have hf := hd_ (tfR_1 (l := l) hv)
  go_wp2_with (first | (go_at_call 65; refine cu_ (ra_ (validBasket_any b _) hv) fun g => ?_) | ((with_reducible refine wru ?_); refine wrz fun _ => ?_))
  go_ret2
  exact ⟨by rw [hf.out] <;> rfl, HB.out.tr bw_⟩
 have HV := hd_ hv
 have hb := (vBsk_inv hv).1
 cases hb1 : (barsB b l && decide (l.length ≤ 60))
 ·have hf := hd_ (tfR_2 hv hb1)
  go_wp2_with (first | (go_at_call 65; refine cu_ (ra_ (validBasket_any b _) hv) fun g => ?_) | (go_at_call 124; refine cu_ (ra_ (areBars_any b _ _ _ _ hb (HLV.out.below bw_) hn) hb1) fun g => ?_) | ((with_reducible refine wru ?_); refine wrz fun _ => ?_))
  go_ret2
  exact ⟨by rw [hf.out] <;> rfl, HB.out.tr bw_⟩
 have hcl := hd_ (fun (W : World) hW => ra_ (areBars_any b A c l W hb (HLV.out.below hW) hn) hb1)
 rw [Bool.and_eq_true, decide_eq_true_eq] at hb1
 obtain ⟨hb1, h6⟩ := hb1
 have HB1 := hd_ hb1
 clear hb1
 by_cases h0 : l.length = 0
 ·have hf := hd_ (tfR_e hv (by rw [HB1.out, decide_eq_true h6]; rfl) h0)
  have h0' : ((l.length : Int) == 0) = true := by rw [beq_iff_eq]; omega
  clear h0
  go_wp2_with (first | (go_at_call 65; refine cu_ (ra_ (validBasket_any b _) hv) fun g => ?_) | (go_at_call 124; refine cu_ (hcl.out _ bw_) fun g => ?_) | ((with_reducible refine wru ?_); refine wrz fun _ => ?_))
  go_ret2
  exact ⟨by rw [hf.out] <;> rfl, HB.out.tr bw_⟩
 ·have h0' : ((l.length : Int) == 0) = false := by rw [beq_eq_false_iff_ne]; omega
  go_wp2_with (first | (go_at_call 65; refine cu_ (ra_ (validBasket_any b _) hv) fun g => ?_) | (go_at_call 124; refine cu_ (hcl.out _ bw_) fun g => ?_) | ((with_reducible refine wru ?_); refine wrz fun _ => ?_))
  refine (fastest_any b _ _ l _ HV.out HB1.out (HLV.out.below bw_) h6).mono ?_
  rintro e w' ⟨A1, c1, rfl, hown, g9, rfl⟩
  obtain ⟨m, hm⟩ : ∃ m, l.length = m + 1 := ⟨l.length - 1, by omega⟩
  have hl9 := fstK_len b l l.length
  have hlast := fstK_last b l m
  rw [← hm] at hlast
  have hbd := (fstK_bd HV.out l l.length).1
  have hf := hd_ (tfR_0 HV.out (by rw [HB1.out, decide_eq_true h6]; rfl) h0)
  obtain ⟨b2, o2, rfl, hb2, s0, s1⟩ := stk_at (l := (fstK b l l.length).1) (by rw [hl9]; exact Rds.of_own hown) (k := m) (by rw [hl9]; omega)
  rw [hlast] at s1
  simp only [up_up] at s1 hb2
  have HM := hd_ hm
  have hm1 : (l.length : Int) = (m : Int) + 1 := by omega
  have hm2 : (m : Int) < (l.length : Int) := by omega
  have hm3 : IntKind.i64.wrap ((l.length : Int) - 1) = (m : Int) := by rw [IntKind.wrap_i64]; omega
  obtain ⟨v1, v2, v3, v4, v5⟩ := vBsk_inv HV.out
  generalize (fstK b l l.length).2 = tk at *
  clear hown hlast hl9 s0 hm hm1
  go_wp2_with ((with_reducible refine wru ?_); refine wrz fun _ => ?_)
  go_ret2
  exact ⟨by rw [hf.out] <;> rfl, HB.out.tr bw_⟩
theorem ticksForS_any (b : Bsk) (A : Option Addr) (c : Nat) (l : List Int) (w : World) (h : Rds w 1 A l.length (ics l)) (hn : l.length ≤ 100000000) :
 Calls Tryz.prog 159 #[bsv b, .slice A l.length c] w fun e w' => e = .returned (.tuple #[i64 (tfR b l).1, i64 (tfR b l).2]) ∧ UpOf w w' := by
 obtain ⟨cd, hcd⟩ := nm_ ((tfR b l).2)
 have hcl := hd_ (fun (W : World) (hW : Rds W 1 A l.length (ics l)) => show Calls Tryz.prog 194 #[bsv b, .slice A l.length c] W fun e w' => e = .returned (i64 cd) ∧ UpOf W w' from hcd ▸ l03Code_any b A c l W hW hn)
 go_enter Tryz.func159, Tryz.ntmps159
 go_upto_region 1 with (fail)
 refine wpg (R := fun V => Box V w.heap.size #[i64 b.bars, i64 b.rise, i64 b.fall, i64 b.clr, i64 b.near] ∧ UpOf w V) ⟨Box.new _ _ _, uw_⟩ (fun V z => ?_)
 obtain ⟨hb9, hB⟩ := z
 obtain ⟨hq, x0, x1, x2, x3, x4⟩ := hb9.five
 have HB := hd_ hB
 have HLV := hd_ (h.below hB.below)
 clear hb9 hB h
 generalize w.heap.size = q at *
 by_cases h : cd = 0
 ·subst h
  have h5 : vBsk b = true ∧ (barsB b l && decide (l.length ≤ 60)) = true := by
   cases hv : vBsk b
   ·rw [tfR_1 hv] at hcd; cases hcd
   ·cases h1 : (barsB b l && decide (l.length ≤ 60))
    ·rw [tfR_2 hv h1] at hcd; cases hcd
    ·exact ⟨rfl, rfl⟩
  have HV := hd_ h5.1
  have hb1 := h5.2
  rw [Bool.and_eq_true, decide_eq_true_eq] at hb1
  obtain ⟨hb1, h6⟩ := hb1
  have HB1 := hd_ hb1
  clear hb1 h5 hcd
  go_wp2_with fail
  refine cu_ (hcl.out _ (HLV.out.below bw_)) fun g1 => ?_
  go_wp2_with fail
  refine (l03Fast_any b _ _ l _ HV.out HB1.out (HLV.out.below bw_) h6).mono ?_
  rintro e w' ⟨A1, c1, rfl, hown, g9, rfl⟩
  by_cases h0 : l.length = 0
  ·have hf := hd_ (tfR_e HV.out (by rw [HB1.out, decide_eq_true h6]; rfl) h0)
   have h0' : ((l.length : Int) == 0) = true := by rw [beq_iff_eq]; omega
   clear h0 hown
   go_wp2_with ((with_reducible refine wru ?_); refine wrz fun _ => ?_)
   go_ret2
   exact ⟨by rw [hf.out] <;> rfl, HB.out.tr bw_⟩
  ·have h0' : ((l.length : Int) == 0) = false := by rw [beq_eq_false_iff_ne]; omega
   obtain ⟨m, hm⟩ : ∃ m, l.length = m + 1 := ⟨l.length - 1, by omega⟩
   have hl9 := fstK_len b l l.length
   have hlast := fstK_last b l m
   rw [← hm] at hlast
   have hbd := (fstK_bd HV.out l l.length).1
   have hf := hd_ (tfR_0 HV.out (by rw [HB1.out, decide_eq_true h6]; rfl) h0)
   obtain ⟨b2, o2, rfl, hb2, s0, s1⟩ := stk_at (l := (fstK b l l.length).1) (by rw [hl9]; exact Rds.of_own hown) (k := m) (by rw [hl9]; omega)
   rw [hlast] at s1
   simp only [up_up] at s1 hb2
   have HM := hd_ hm
   have hm1 : (l.length : Int) = (m : Int) + 1 := by omega
   have hm2 : (m : Int) < (l.length : Int) := by omega
   have hm3 : IntKind.i64.wrap ((l.length : Int) - 1) = (m : Int) := by rw [IntKind.wrap_i64]; omega
   obtain ⟨v1, v2, v3, v4, v5⟩ := vBsk_inv HV.out
   generalize (fstK b l l.length).2 = tk at *
   clear hown hlast hl9 s0 hm hm1
   go_wp2_with ((with_reducible refine wru ?_); refine wrz fun _ => ?_)
   go_ret2
   exact ⟨by rw [hf.out] <;> rfl, HB.out.tr bw_⟩
 ·have hne : (cd != 0) = true := by rw [bne_iff_ne]; exact h
  have hf : Hid (tfR b l = (0, cd)) := by
   show _ = _
   cases hv : vBsk b
   ·rw [tfR_1 hv] at hcd ⊢; rw [← hcd]
   ·cases h1 : (barsB b l && decide (l.length ≤ 60))
    ·rw [tfR_2 hv h1] at hcd ⊢; rw [← hcd]
    ·exfalso
     by_cases h0 : l.length = 0
     ·rw [tfR_e hv h1 h0] at hcd; exact h hcd.symm
     ·rw [tfR_0 hv h1 h0] at hcd; exact h hcd.symm
  clear hcd h
  go_wp2_with fail
  refine cu_ (hcl.out _ (HLV.out.below bw_)) fun g1 => ?_
  go_wp2_with ((with_reducible refine wru ?_); refine wrz fun _ => ?_)
  go_ret2
  exact ⟨by rw [hf.out] <;> rfl, HB.out.tr bw_⟩
theorem isLess_any (a b : ByteArray) (w : World) (ha : a.size ≤ 1000000) (hb : b.size ≤ 1000000) :
 Calls Tryz.prog 170 #[.string a, .string b] w fun e w' => e = .returned (.bool (lessT a.data.toList b.data.toList)) ∧ w = w' := by
 by_cases h : a.size = b.size
 ·have h1 : ((a.size : Int) != (b.size : Int)) = false := by rw [h]; simp
  have hr : Hid (lessT a.data.toList b.data.toList = Op.bytesLess a.data.toList b.data.toList) := hd_ (by
   rw [lessT, bsz, bsz, decide_eq_false (by omega), decide_eq_true h, Bool.false_or, Bool.true_and])
  clear h
  go_enter Tryz.func170, Tryz.ntmps170
  go_wp2_with fail
  go_ret
  rw [hr.out]
  exact ⟨by simp [ByteArray.toList_eq], rfl⟩
 ·have h1 : ((a.size : Int) != (b.size : Int)) = true := by rw [bne_iff_ne]; omega
  have hr : Hid (lessT a.data.toList b.data.toList = decide (a.size < b.size)) := hd_ (by
   rw [lessT, bsz, bsz, decide_eq_false (p := a.size = b.size) h, Bool.false_and, Bool.or_false])
  clear h
  go_enter Tryz.func170, Tryz.ntmps170
  go_wp2_with fail
  go_ret
  rw [hr.out]
  exact ⟨rfl, rfl⟩
abbrev amv (t r : ByteArray) : Value := .agg #[.string t, .string r]
def amO (t r : ByteArray) (o : Option Amb) : Value := match o with
 | none => .tuple #[amv ⟨#[]⟩ ⟨#[]⟩, .bool false]
 | some q => .tuple #[amv ⟨(t.data.toList ++ q.1).toArray⟩ ⟨q.2.toArray⟩, .bool true]
theorem sets2a {rb : Nat} {a V w : World} (hr : a.heap.size ≤ rb) (h1 : Below a.heap.size a V) (h2 : Below V.heap.size V w) (u0 u1 : Value) : Below a.heap.size a ((w.setCell ⟨rb, 0, none⟩ u0).setCell ⟨rb, 1, none⟩ u1) :=
 ((h1.trans (h2.mono h1.size)).setCell (p := ⟨rb, 0, none⟩) hr u0).setCell (p := ⟨rb, 1, none⟩) hr u1
theorem blk_new1a (w : World) (o : Obj) (t : TypeId) (cs : Array Value) : Blk ((w.alloc o).alloc (.cells cs t)) (w.heap.size + 1) t cs := by
 have := Blk.new (w.alloc o) t cs
 rwa [World.size_alloc] at this
theorem after_any (t r x : ByteArray) (w : World) (ht : t.size ≤ 1000000) (hr : r.size ≤ 1000) (hx : x.size ≤ 1000) :
 Calls Tryz.prog 171 #[amv t r, .string x] w fun e w' => e = .returned (amO t r (exR r.data.toList x.data.toList)) ∧ UpOf w w' := by
 have hp : Hid (∀ V : World, Calls Tryz.prog 208 #[.string r, .string x] V fun e w' => e = .returned (.bool (x.data.toList.isPrefixOf r.data.toList)) ∧ V = w') := hd_ fun V => (Tryz.strings_HasPrefix r x V).mono fun e w' h => ⟨h.1, h.2.symm⟩
 have hq : Hid (∀ V : World, Calls Tryz.prog 208 #[.string x, .string r] V fun e w' => e = .returned (.bool (r.data.toList.isPrefixOf x.data.toList)) ∧ V = w') := hd_ fun V => (Tryz.strings_HasPrefix x r V).mono fun e w' h => ⟨h.1, h.2.symm⟩
 go_enter Tryz.func171, Tryz.ntmps171
 go_upto_region 1 with (fail)
 refine wpg (R := fun V => Box V w.heap.size #[.string t, .string r] ∧ Blk V (w.heap.size + 1) 186 #[.string ⟨#[]⟩, .string ⟨#[]⟩] ∧ UpOf w V) ⟨(Box.new _ _ _).below bw_, blk_new1a _ _ _ _, uw_⟩ (fun V z => ?_)
 obtain ⟨⟨hp0, hc⟩, zb, zu⟩ := z
 have c0 : V.cell? ⟨w.heap.size, 0, none⟩ = some (.string t) := hc 0 _ rfl
 have c1 : V.cell? ⟨w.heap.size, 1, none⟩ = some (.string r) := hc 1 _ rfl
 have q0 : V.cell? ⟨w.heap.size + 1, 0, none⟩ = some (.string ⟨#[]⟩) := zb.cell 0
 have q1 : V.cell? ⟨w.heap.size + 1, 1, none⟩ = some (.string ⟨#[]⟩) := zb.cell 1
 have f0 := zb.free 0
 have f1 := zb.free 1
 have hq0 := zb.lt
 have HU := hd_ zu
 clear hc zb zu
 generalize hp9 : w.heap.size = p at hp0 c0 c1 q0 q1 f0 f1 hq0 ⊢
 generalize hq9 : p + 1 = q at hp0 c0 c1 q0 q1 f0 f1 hq0 ⊢
 have HB := hd_ (show w.heap.size ≤ q by omega)
 have hne : ¬ p = q := by omega
 clear hp9 hq9
 cases e1 : x.data.toList.isPrefixOf r.data.toList with
 | true =>
   have hP : Hid (∀ V : World, Calls Tryz.prog 208 #[.string r, .string x] V fun e w' => e = .returned (.bool true) ∧ V = w') := hd_ (by rw [← e1]; exact hp.out)
   have hle : x.size ≤ r.size := by
    have := (List.isPrefixOf_iff_prefix.1 e1).length_le
    rwa [bsz, bsz] at this
   have hr2 : Hid (amO t r (exR r.data.toList x.data.toList) = .tuple #[amv t (r.extract x.size r.size), .bool true]) := hd_ (by
    rw [exR, e1, if_pos rfl]
    show Value.tuple #[amv ⟨(t.data.toList ++ []).toArray⟩ ⟨(r.data.toList.drop x.data.toList.length).toArray⟩, .bool true] = _
    rw [List.append_nil, bs_extract, bsz, List.take_of_length_le (by rw [List.length_drop, bsz]; omega)])
   clear hp hq e1
   go_wp2_with (first | (go_at_call 208; refine cs_ (hP.out _) ?_) | ((with_reducible refine wru ?_); refine wrz fun _ => ?_))
   go_still_tail 8, (by kernel_rfl)
   change wpList _ _ _ _ _ (World.drew _)
   go_wp2_with fail
   refine bodyPost_ret (v := .tuple #[amv t (r.extract x.size r.size), .bool true]) (by simp [results, Tryz.results171, go_sem, hq0, q0, q1]) rfl ⟨by rw [hr2.out], UpOf.of (Below.drew (sets2a HB.out HU.out.below bw_ _ _))⟩
 | false =>
   have hP : Hid (∀ V : World, Calls Tryz.prog 208 #[.string r, .string x] V fun e w' => e = .returned (.bool false) ∧ V = w') := hd_ (by rw [← e1]; exact hp.out)
   cases e2 : r.data.toList.isPrefixOf x.data.toList with
   | true =>
     have hQ : Hid (∀ V : World, Calls Tryz.prog 208 #[.string x, .string r] V fun e w' => e = .returned (.bool true) ∧ V = w') := hd_ (by rw [← e2]; exact hq.out)
     have hle : r.size ≤ x.size := by
      have := (List.isPrefixOf_iff_prefix.1 e2).length_le
      rwa [bsz, bsz] at this
     have hr2 : Hid (amO t r (exR r.data.toList x.data.toList) = .tuple #[amv (t ++ x.extract r.size x.size) (x.extract r.size x.size), .bool true]) := hd_ (by
      rw [exR, e1, e2, if_neg (by simp), if_pos rfl]
      have e : (⟨(x.data.toList.drop r.data.toList.length).toArray⟩ : ByteArray) = x.extract r.size x.size := by
       rw [bs_extract, bsz, List.take_of_length_le (by rw [List.length_drop, bsz]; omega)]
      show Value.tuple #[amv ⟨(t.data.toList ++ x.data.toList.drop r.data.toList.length).toArray⟩ ⟨(x.data.toList.drop r.data.toList.length).toArray⟩, .bool true] = _
      rw [e]
      congr 4
      rw [← e]
      apply ByteArray.ext
      apply Array.ext'
      simp)
     clear hp hq e1 e2
     go_wp2_with fail
     refine cs_ (hP.out _) ?_
     go_wp2_with fail
     refine cs_ (hQ.out _) ?_
     go_wp2_with fail
     exact bodyPost_ret (v := .tuple #[amv (t ++ x.extract r.size x.size) (x.extract r.size x.size), .bool true]) (by simp [results, Tryz.results171, go_sem, hq0, q0, q1]) rfl ⟨by rw [hr2.out], UpOf.of (sets2a HB.out HU.out.below bw_ _ _)⟩
   | false =>
     have hQ : Hid (∀ V : World, Calls Tryz.prog 208 #[.string x, .string r] V fun e w' => e = .returned (.bool false) ∧ V = w') := hd_ (by rw [← e2]; exact hq.out)
     have hr2 : Hid (amO t r (exR r.data.toList x.data.toList) = .tuple #[amv ⟨#[]⟩ ⟨#[]⟩, .bool false]) := hd_ (by rw [exR, e1, e2]; rfl)
     clear hp hq e1 e2
     go_wp2_with fail
     refine cs_ (hP.out _) ?_
     go_wp2_with fail
     refine cs_ (hQ.out _) ?_
     go_wp2_with fail
     exact bodyPost_ret (v := .tuple #[amv ⟨#[]⟩ ⟨#[]⟩, .bool false]) (by simp [results, Tryz.results171, go_sem, hq0, q0, q1]) rfl ⟨by rw [hr2.out], UpOf.of (sets2a HB.out HU.out.below bw_ _ _)⟩
theorem el_amb : ElemOf Tryz.prog 183 186 (.agg #[.string ByteArray.empty, .string ByteArray.empty]) 2 32 := elem_of Tryz.underlying183 (by kernel_rfl) rfl (by omega)
theorem lists_get {ws : List ByteArray} {i : Nat} (h : i < ws.length) : (lists ws)[i]? = some (wd ws i).data.toList := by
 rw [lists, List.getElem?_map, List.getElem?_eq_getElem h, wd_eq h]; rfl
theorem lists_len (ws : List ByteArray) : (lists ws).length = ws.length := by simp [lists]
theorem amb_cells (t r : ByteArray) : ambC [(t.data.toList, r.data.toList)] = [.string t, .string r] := by
 cases t; cases r; simp [ambC, ambE]
theorem firstRests_any (A : Option Addr) (c : Nat) (ws : List ByteArray) (w : World) (h : Rds w 1 A ws.length (strs ws)) (hn : ws.length ≤ 10) (h8 : ∀ i, i < ws.length → (wd ws i).size ≤ 8) :
 Calls Tryz.prog 169 #[.slice A ws.length c] w fun e w' => ∃ g cp O, e = .returned (.slice g O.length cp) ∧ FR (lists ws) O ws.length 0 ∧ w'.ownsRow w.heap.size 186 2 (.slice g O.length cp) O.length (ambC O) ∧ UpOf w w' := by
 have HR := hd_ h
 have H8 := hd_ h8
 have hOwn := hd_ (World.ownsRow_lit (base := w.heap.size) (e := 186) (size := 2) w #[] 0 (Nat.le_refl _) (by unfold maxLen; omega) rfl)
 clear h h8
 go_enter Tryz.func169, Tryz.ntmps169
 go_wp2_with fail
 go_loopw [3, 11] (fun t3 t11 wr => ∃ (i : Nat) (g : Option Addr) (cp : Nat) (O : List Amb), i ≤ ws.length ∧ t11 = i64 i ∧ t3 = .slice g O.length cp ∧ Hid (FR (lists ws) O i 0) ∧ Hid (wr.ownsRow w.heap.size 186 2 (.slice g O.length cp) O.length (ambC O)) ∧ ∃ g : Up w, wr = up w g) (fun _ t11 _ => ws.length - (intOf t11).toNat)
 case atStart => exact ⟨0, _, _, [], by omega, rfl, rfl, hd_ (FR.start _), hd_ hOwn.out, ex_up bw_⟩
 case round =>
  obtain ⟨i, g, cp, O, hi, rfl, rfl, HF, HO, gw, rfl⟩ := hrel
  clear hOwn
  by_cases hlt : i < ws.length
  ·obtain ⟨b, off, rfl, hb, c0⟩ := wd_at HR.out hlt
   have HC0 := hd_ c0
   have ci := c0 i hlt
   have s1 := H8.out i hlt
   clear c0
   go_wp2_with fail
   go_loopw [3, 18] (fun t3 t18 wr => ∃ (k : Nat) (g : Option Addr) (cp : Nat) (O : List Amb), k ≤ ws.length ∧ t18 = i64 k ∧ t3 = .slice g O.length cp ∧ Hid (FR (lists ws) O i k) ∧ Hid (wr.ownsRow w.heap.size 186 2 (.slice g O.length cp) O.length (ambC O)) ∧ ∃ g : Up w, wr = up w g) (fun _ t18 _ => ws.length - (intOf t18).toNat)
   case atStart => exact ⟨0, g, cp, O, by omega, rfl, rfl, HF, hd_ (ob_ HO.out bw_), _, rfl⟩
   case round =>
    obtain ⟨k, g, cp, O, hk, rfl, rfl, HF, HO, gw2, rfl⟩ := hrel
    by_cases hlk : k < ws.length
    ·have ck := HC0.out k hlk
     have s2 := H8.out k hlk
     by_cases hne : i = k
     ·have ht : ((i : Int) != (k : Int)) = false := by rw [hne]; simp
      have HF2 := hd_ (HF.out.skip (fun u v hn => absurd hne hn))
      clear hne
      go_wp2_with fail
      go_roundw
      case rel => exact ⟨k + 1, g, cp, O, by omega, by go_num, rfl, HF2, hd_ (ob_ HO.out bw_), _, rfl⟩
      case measure => simp [intOf]; try omega
     ·have ht : ((i : Int) != (k : Int)) = true := by rw [bne_iff_ne]; omega
      cases hp : (wd ws i).data.toList.isPrefixOf (wd ws k).data.toList with
      | false =>
        have hP : Hid (∀ V : World, Calls Tryz.prog 208 #[.string (wd ws k), .string (wd ws i)] V fun e w' => e = .returned (.bool false) ∧ V = w') := hd_ fun V => (Tryz.strings_HasPrefix _ _ V).mono fun e w' h => ⟨by rw [h.1, ← hp]; rfl, h.2.symm⟩
        have HF2 := hd_ (HF.out.skip (fun u v _ hu hv => by
         rw [lists_get hlt] at hu; injection hu with hu
         rw [lists_get hlk] at hv; injection hv with hv
         rw [← hu, ← hv]; exact hp))
        clear hp hne
        go_wp2_with (first | (go_at_call 208; refine cs_ (hP.out _) ?_))
        go_roundw
        case rel => exact ⟨k + 1, g, cp, O, by omega, by go_num, rfl, HF2, hd_ (ob_ HO.out bw_), _, rfl⟩
        case measure => simp [intOf]; try omega
      | true =>
        have hP : Hid (∀ V : World, Calls Tryz.prog 208 #[.string (wd ws k), .string (wd ws i)] V fun e w' => e = .returned (.bool true) ∧ V = w') := hd_ fun V => (Tryz.strings_HasPrefix _ _ V).mono fun e w' h => ⟨by rw [h.1, ← hp]; rfl, h.2.symm⟩
        have hle : (wd ws i).size ≤ (wd ws k).size := by
         have := (List.isPrefixOf_iff_prefix.1 hp).length_le
         rwa [bsz, bsz] at this
        have hex : ((wd ws k).data.toList, (wd ws k).data.toList.drop (wd ws i).data.toList.length) = ((wd ws k).data.toList, ((wd ws k).extract (wd ws i).size (wd ws k).size).data.toList) := by
         rw [bs_extract, bs_list, bsz, List.take_of_length_le (by rw [List.length_drop, bsz]; omega)]
        have HF2 := hd_ (HF.out.add hne (lists_get hlt) (lists_get hlk) hp)
        rw [hex] at HF2
        have hOl : O.length ≤ 200 := by have := HF.out.len; omega
        clear hp hne hex
        obtain ⟨V, hV⟩ := nm_ (wd ws k)
        rw [hV] at hP HF2 hle ck s2
        obtain ⟨X, hX⟩ := nm_ (V.extract (wd ws i).size V.size)
        have hrds : Rds (up w (gw2.al (.cells #[.string V, .string X] 186))) 2 (some ⟨(up w gw2).heap.size, 0, none⟩) 1 [.string V, .string X] := rds_new (up w gw2) _ _ 2 1 rfl
        have hown : (up w (gw2.al (.cells #[.string V, .string X] 186))).ownsRow w.heap.size 186 2 (.slice g O.length cp) O.length (ambC O) := ob_ HO.out bw_
        have hone : ∀ u ∈ [Value.string V, Value.string X], u.oneCell' = true := fun u hu => by
         simp only [List.mem_cons, List.not_mem_nil, or_false] at hu
         obtain rfl | rfl := hu <;> rfl
        have hm1 : O.length + 1 ≤ maxLen := by unfold maxLen; omega
        have hm2 : (O.length + 1) * 32 ≤ 140737488355328 := by omega
        have hm3 : w.heap.size ≤ (up w (gw2.al (.cells #[.string V, .string X] 186))).heap.size := (ub_ w _).size
        have hm4 : Below w.heap.size w (up w (gw2.al (.cells #[.string V, .string X] 186))) := bw_
        have HA := hd_ hrds
        have HB := hd_ hown
        have HC := hd_ hone
        have HM := hd_ hm4
        have HX := hd_ hX
        rw [hX] at HF2
        clear hrds hown hone hm4 hV
        go_wp2_with (first | (go_at_call 208; refine cs_ (hP.out _) ?_) | (at_builtin; refine wpl_appU rfl _ _ 183 rfl w w.heap.size 186 _ 2 32 el_amb (.slice g O.length cp) O.length (ambC O) rfl HB.out _ 1 1 _ rfl HA.out HC.out hm1 hm2 hm3 HM.out (Nat.le_refl _) ?_; intro A2 c2 g2 o2))
        go_roundw
        case rel => exact ⟨k + 1, A2, c2, _, by omega, by go_num, congrArg (fun n => Value.slice A2 n c2) (by simp), HF2, hd_ (by rw [List.length_append, ambC_app, amb_cells]; exact o2), _, rfl⟩
        case measure => simp [intOf]; try omega
    ·obtain rfl : k = ws.length := by omega
     have HF2 := hd_ (FR.row (by rw [lists_len]; exact HF.out) (by rw [lists_len]; omega))
     go_wp2_with fail
     refine ⟨⟨i + 1, g, cp, O, by omega, by go_num, rfl, HF2, hd_ (ob_ HO.out bw_), _, rfl⟩, by simp [intOf]; try omega⟩
  ·obtain rfl : i = ws.length := by omega
   go_wp2_with fail
   go_ret
   exact ⟨g, cp, O, rfl, HF.out, ob_ HO.out bw_, uw_⟩
structure RS (w wr : World) (g : Option Addr) (cp mb : Nat) (O R : List Amb) : Prop where
 own : wr.ownsRow w.heap.size 186 2 (.slice g O.length cp) O.length (ambC O)
 map : TxtAt wr Tryz.prog 9 9 mb R.length R
 hm : w.heap.size ≤ mb
 ne : (Value.slice g O.length cp).ownBlock ≠ some mb
 bel : Below w.heap.size w wr
theorem own_capR {w : World} {base e size n c : Nat} {A : Option Addr} {xs : List Value} (h : w.ownsRow base e size (.slice A n c) n xs) : n ≤ c := by
 obtain ⟨_, ⟨h1, h2⟩ | ⟨g, cap, cur, h1, _, _, h3, _⟩⟩ := h
 ·omega
 ·injection h1 with _ _ h1
  omega
theorem own_some {w : World} {base e size n c : Nat} {A : Option Addr} {xs : List Value} (h : w.ownsRow base e size (.slice A n c) n xs) (hn : 0 < n) : ∃ g, A = some ⟨g, 0, none⟩ := by
 obtain ⟨_, ⟨_, h2⟩ | ⟨g, cap, cur, h1, _⟩⟩ := h
 ·omega
 ·injection h1 with h1
  exact ⟨g, h1⟩
theorem own_pre {w : World} {base e size n c g : Nat} {xs : List Value} (h : w.ownsRow base e size (.slice (some ⟨g, 0, none⟩) n c) n xs) {m : Nat} (hm : m ≤ n) : w.ownsRow base e size (.slice (some ⟨g, 0, none⟩) m c) m (xs.take (m * size)) := by
 obtain ⟨h0, ⟨h1, h2⟩ | ⟨g', cap, cur, h1, hb, hg, hnc, hcm, hcs, ht⟩⟩ := h
 ·cases h1
 ·injection h1 with e1 e2 e3
  injection e1 with e1
  injection e1 with e1
  subst e1; subst e3
  have hle : m * size ≤ n * size := Nat.mul_le_mul_right _ hm
  refine ⟨by rw [List.length_take, h0]; omega, .inr ⟨g, c, cur, rfl, hb, hg, by omega, hcm, hcs, ?_⟩⟩
  rw [← ht, List.take_take, Nat.min_eq_left hle]
theorem step_fits {P : Program} {ops : Array Oper} {o : Oper} {a : Act} {w : World} {K : Act → World → Prop} {Q : Exit → Act → World → Prop} {E : Prop} (hgd : o.guard = none) (s x : Operand) (t : TypeId)
 (ho : o.op = .call { callee := .builtin .append, args := #[s, x], argTypes := #[t, t] })
 (base : Nat) (e : TypeId) (z : Value) (size bytes : Nat) (el : ElemOf P t e z size bytes)
 (g n cap : Nat) (xs : List Value) (hs : a.eval s = .slice (some ⟨g, 0, none⟩) n cap) (hown : w.ownsRow base e size (.slice (some ⟨g, 0, none⟩) n cap) n xs)
 (b off m c : Nat) (news : List Value) (hx : a.eval x = .slice (some ⟨b, off, none⟩) m c) (hr : Rds w size (some ⟨b, off, none⟩) m news) (h1 : ∀ u ∈ news, u.oneCell' = true) (hroom : n + m ≤ cap)
 (h : ∀ w', w'.ownsRow base e size (.slice (some ⟨g, 0, none⟩) (n + m) cap) (n + m) (xs ++ news) → w.grownBy w' (some g) → K (a.put o.dst (.slice (some ⟨g, 0, none⟩) (n + m) cap)) w') :
 if Region.wanted o (yielded ops a.tmps) = true then Oper.wp P o a w K Q else E := by
 have hw : Region.wanted o (yielded ops a.tmps) = true := by simp [Region.wanted, hgd]
 rw [if_pos hw]
 obtain ⟨ht, hzs, hsz, i, hi, hz, hsize, hby⟩ := el
 obtain ⟨w', hrun, r1, r2⟩ := run_append_fits (P := P) w base t o.type e i size ht hi hsize g n cap xs hown ⟨b, off, none⟩ m c news hr.1 (fun j u hu => by
  have hj : j < news.length := (List.getElem?_eq_some_iff.1 hu).1
  obtain ⟨b', off', e, _, hc⟩ := hr.2 (by rw [← hr.1]; omega)
  injection e with e
  injection e with e1 e2
  subst e1 e2
  have hadd : (⟨b, off, none⟩ : Addr).add j = ⟨b, off + j, none⟩ := by unfold Addr.add; split <;> simp_all
  rw [hadd]
  exact hc j u hu) h1 hroom
 unfold Oper.wp execOp
 simp only [ho, resolve, invoke, builtin, Sem.run_bind, Sem.run_pure, Result.andThen_ok, List.map_toArray, List.map_cons, List.map_nil, hs, hx, hrun]
 exact h w' r1 r2
section
variable {w wr wr' : World} {g : Option Addr} {cp mb : Nat} {O R : List Amb}
theorem RS.below (h : RS w wr g cp mb O R) (hb : Below wr.heap.size wr wr') : RS w wr' g cp mb O R :=
 ⟨ob_ h.own hb, h.map.below hb, h.hm, h.ne, h.bel.trans (hb.mono h.bel.size)⟩
theorem am_at {g0 : Nat} (h : RS w wr (some ⟨g0, 0, none⟩) cp mb O R) {i : Nat} (hi : i < O.length) : g0 < wr.heap.size ∧ wr.cell? ⟨g0, i * 2, none⟩ = some (.string ⟨(om O i).1.toArray⟩) ∧ wr.cell? ⟨g0, i * 2 + 1, none⟩ = some (.string ⟨(om O i).2.toArray⟩) := by
 obtain ⟨b, off, e, hb, hc⟩ := rds_elem ambE_len (l := O) (Rds.of_own h.own) hi (by omega)
 injection e with e
 injection e with e1 e2
 subst e1 e2
 have e3 : O[i] = om O i := by rw [om, List.getD_eq_getElem?_getD, List.getElem?_eq_getElem hi]; rfl
 have h0 := hc 0 _ rfl
 have h1 := hc 1 _ rfl
 rw [e3] at h0 h1
 simp only [Nat.zero_add, Nat.add_zero] at h0 h1
 exact ⟨hb, h0, h1⟩
theorem RS.cut {g0 : Nat} (h : RS w wr (some ⟨g0, 0, none⟩) cp mb O R) {i m : Nat} {w9 : World} {xs : List Value} (hi : i < O.length)
 (h1 : w9.ownsRow w.heap.size 186 2 (.slice (some ⟨g0, 0, none⟩) m cp) m xs) (hm : m = (O.take i ++ O.drop (i + 1)).length) (hx : xs = ambC (O.take i ++ O.drop (i + 1))) (h2 : wr.grownBy w9 (some g0)) :
 RS w w9 (some ⟨g0, 0, none⟩) cp mb (O.take i ++ O.drop (i + 1)) R where
 own := by rw [← hm, ← hx]; exact h1
 map := h.map.kept h2 (fun e => h.ne (by simp only [Value.ownBlock]; exact e.symm))
 hm := h.hm
 ne := by
  have := h.ne
  simpa [Value.ownBlock] using this
 bel := h.bel.grown h2 h.bel.size (fun k hk => by
  injection hk with hk
  subst hk
  exact (h.own.lt g0 rfl).1)
theorem RS.put (h : RS w wr g cp mb O R) {w9 : World} {r t : List UInt8} (h1 : TxtAt w9 Tryz.prog 9 9 mb (R.length + 1) ((r, t) :: R)) (h2 : wr.grownBy w9 (some mb)) : RS w w9 g cp mb O ((r, t) :: R) where
 own := h.own.kept h2 (.inr h.ne)
 map := h1
 hm := h.hm
 ne := h.ne
 bel := h.bel.grown h2 h.bel.size (fun k hk => by
  injection hk with hk
  subst hk
  exact h.hm)
theorem RS.add (h : RS w wr g cp mb O R) {w9 : World} {g' c' : Nat} {q : Amb}
 (h1 : w9.ownsRow w.heap.size 186 2 (.slice (some ⟨g', 0, none⟩) (O.length + 1) c') (O.length + 1) (ambC O ++ ambC [q])) (h2 : wr.grownBy w9 (Value.slice g O.length cp).ownBlock) (h3 : (Value.slice g O.length cp).ownBlock = some g' ∨ g' = wr.heap.size) :
 RS w w9 (some ⟨g', 0, none⟩) c' mb (O ++ [q]) R where
 own := by rw [ambC_app, List.length_append]; exact h1
 map := h.map.kept h2 (fun e => h.ne e.symm)
 hm := h.hm
 ne := by
  simp only [Value.ownBlock]
  intro e
  injection e with e
  subst e
  rcases h3 with h3 | h3
  ·exact h.ne h3
  ·have := h.map.lt; omega
 bel := h.bel.grown h2 h.bel.size (fun k hk => (h.own.lt k hk).1)
end
def rowQ (n m : Nat) (Q : Nat → Nat) (k : Nat) : Array Value := ((List.range (n + 1)).map fun i => if i < k then Value.slice (some ⟨Q i, 0, none⟩) (m + 1) (m + 1) else .slice none 0 0).toArray
def arrN (m : Nat) (f : Nat → Int) : Array Value := ((List.range (m + 1)).map fun i => i64 (f i)).toArray
theorem rowQ_get {n m k i : Nat} {Q : Nat → Nat} (h : i ≤ n) : (rowQ n m Q k)[i]? = some (if i < k then Value.slice (some ⟨Q i, 0, none⟩) (m + 1) (m + 1) else .slice none 0 0) := by
 have : i < n + 1 := by omega
 simp [rowQ, this]
theorem rowQ_size (n m k : Nat) (Q : Nat → Nat) : (rowQ n m Q k).size = n + 1 := by simp [rowQ]
theorem arrN_size (m : Nat) (f : Nat → Int) : (arrN m f).size = m + 1 := by simp [arrN]
theorem arrN_get {m i : Nat} (f : Nat → Int) (h : i ≤ m) : (arrN m f)[i]? = some (i64 (f i)) := by
 have : i < m + 1 := by omega
 simp [arrN, this]
theorem arrN_set (m : Nat) (f : Nat → Int) (i : Nat) (v : Int) : (arrN m f).setIfInBounds i (i64 v) = arrN m fun j => if j = i then v else f j := by
 apply Array.ext_getElem?
 intro j
 by_cases hj : j ≤ m
 ·rw [arrN_get _ hj, Array.getElem?_setIfInBounds]
  by_cases e : i = j
  ·subst e
   rw [if_pos rfl, if_pos (by rw [arrN_size]; omega), if_pos rfl]
  ·rw [if_neg e, arrN_get _ hj, if_neg (fun h => e h.symm)]
 ·rw [Array.getElem?_eq_none (by rw [Array.size_setIfInBounds, arrN_size]; omega), Array.getElem?_eq_none (by rw [arrN_size]; omega)]
theorem arrN_congr {m : Nat} {f g : Nat → Int} (h : ∀ i, i ≤ m → f i = g i) : arrN m f = arrN m g := by
 unfold arrN
 congr 1
 exact List.map_congr_left fun i hi => by rw [h i (by have := List.mem_range.1 hi; omega)]
theorem rowQ_set {n m k b : Nat} {Q : Nat → Nat} (hk : k ≤ n) : (rowQ n m Q k).setIfInBounds k (.slice (some ⟨b, 0, none⟩) (m + 1) (m + 1)) = rowQ n m (fun i => if i = k then b else Q i) (k + 1) := by
 apply Array.ext_getElem?
 intro j
 by_cases hj : j ≤ n
 ·rw [rowQ_get hj, Array.getElem?_setIfInBounds]
  by_cases e : k = j
  ·subst e
   rw [if_pos rfl, if_pos (by rw [rowQ_size]; omega), if_pos (by omega), if_pos rfl]
  ·rw [if_neg e, rowQ_get hj]
   by_cases hl : j < k
   ·rw [if_pos hl, if_pos (by omega), if_neg (fun h => e h.symm)]
   ·rw [if_neg hl, if_neg (by omega)]
 ·rw [Array.getElem?_eq_none (by rw [Array.size_setIfInBounds, rowQ_size]; omega), Array.getElem?_eq_none (by rw [rowQ_size]; omega)]
theorem made_any (v : Value) (n : Nat) : madeCells #[v] n = ((List.range n).map fun _ => v).toArray := by
 apply Array.ext_getElem?
 intro j
 by_cases hj : j < n
 ·simp [madeCells, hj, Nat.mod_one]
 ·rw [Array.getElem?_eq_none (by rw [size_madeCells]; omega), Array.getElem?_eq_none (by simp; omega)]
theorem made_row (m : Nat) : madeCells #[i64 0] (m + 1) = arrN m fun _ => 0 := made_any _ _
theorem made_rows (n m : Nat) (Q : Nat → Nat) : madeCells #[Value.slice none 0 0] (n + 1) = rowQ n m Q 0 := by
 rw [made_any, rowQ]
 congr 1
theorem mk_row (u : World) (m : Nat) (hn : m ≤ 1000000) : (Instr.makeSlice 121 (.int .i64 ((m : Int) + 1)) (.int .i64 ((m : Int) + 1))).run Tryz.prog u = .ok (.slice (some ⟨u.heap.size, 0, none⟩) (m + 1) (m + 1)) (u.alloc (.cells (arrN m fun _ => 0) 3)) := by
 have hi : (Tryz.prog.info? 3).map (fun i => (i.zero, i.size, i.bytes)) = some (some (i64 0), 1, 8) := by kernel_rfl
 obtain ⟨i0, hi, hz0, hz1, hz2⟩ := info_parts hi
 have h := run_make (P := Tryz.prog) u 121 3 i0 _ Tryz.underlying121 hi hz0 .i64 .i64 ((m + 1 : Nat) : Int) ((m + 1 : Nat) : Int) (by omega) (Int.le_refl _) (by rw [hz2]; omega) (by omega)
 have e : ((m : Int) + 1) = ((m + 1 : Nat) : Int) := by omega
 rw [e, ← made_row]
 simpa [hz1, Value.cells] using h
theorem mk_rows (u : World) (n m : Nat) (Q : Nat → Nat) (hn : n ≤ 1000000) : (Instr.makeSlice 122 (.int .i64 ((n : Int) + 1)) (.int .i64 ((n : Int) + 1))).run Tryz.prog u = .ok (.slice (some ⟨u.heap.size, 0, none⟩) (n + 1) (n + 1)) (u.alloc (.cells (rowQ n m Q 0) 121)) := by
 have hi : (Tryz.prog.info? 121).map (fun i => (i.zero, i.size, i.bytes)) = some (some (.slice none 0 0), 1, 24) := by kernel_rfl
 obtain ⟨i0, hi, hz0, hz1, hz2⟩ := info_parts hi
 have h := run_make (P := Tryz.prog) u 122 121 i0 _ Tryz.underlying122 hi hz0 .i64 .i64 ((n + 1 : Nat) : Int) ((n + 1 : Nat) : Int) (by omega) (Int.le_refl _) (by rw [hz2]; omega) (by omega)
 have e : ((n : Int) + 1) = ((n + 1 : Nat) : Int) := by omega
 rw [e, ← made_rows n m Q]
 simpa [hz1, Value.cells] using h
structure Mx (w wr : World) (B n m k : Nat) (Q : Nat → Nat) (f : Nat → Nat → Int) : Prop where
 o : Blk wr B 121 (rowQ n m Q k)
 r : ∀ i, i < k → Blk wr (Q i) 3 (arrN m (f i))
 u : UpOf w wr
 hB : w.heap.size ≤ B
 hQ : ∀ i, i < k → B < Q i
 inj : ∀ i j, i < k → j < k → Q i = Q j → i = j
section
variable {w wr wr' : World} {B n m k : Nat} {Q : Nat → Nat} {f g : Nat → Nat → Int}
theorem Mx.congr (h : Mx w wr B n m k Q f) (e : ∀ i j, i < k → j ≤ m → f i j = g i j) : Mx w wr B n m k Q g :=
 ⟨h.o, fun i hi => arrN_congr (fun j hj => e i j hi hj) ▸ h.r i hi, h.u, h.hB, h.hQ, h.inj⟩
theorem Mx.below (h : Mx w wr B n m k Q f) (hb : Below wr.heap.size wr wr') : Mx w wr' B n m k Q f :=
 ⟨h.o.up ⟨wr', hb⟩, fun i hi => (h.r i hi).up ⟨wr', hb⟩, h.u.tr hb, h.hB, h.hQ, h.inj⟩
theorem Mx.row (h : Mx w wr B n m k Q f) {i : Nat} (hi : i < k) (hn : i ≤ n) : wr.cell? ⟨B, i, none⟩ = some (.slice (some ⟨Q i, 0, none⟩) (m + 1) (m + 1)) := by
 rw [h.o.cell, rowQ_get hn, if_pos hi]
theorem Mx.cell (h : Mx w wr B n m k Q f) {i j : Nat} (hi : i < k) (hj : j ≤ m) : wr.cell? ⟨Q i, j, none⟩ = some (i64 (f i j)) := by
 rw [(h.r i hi).cell, arrN_get _ hj]
theorem Mx.free (h : Mx w wr B n m k Q f) {i : Nat} (hi : i < k) (j : Nat) : wr.frozen? ⟨Q i, j, none⟩ = false := (h.r i hi).free j
theorem Mx.put (h : Mx w wr B n m k Q f) {i j : Nat} (hi : i < k) (v : Int) : Mx w (wr.setCell ⟨Q i, j, none⟩ (i64 v)) B n m k Q (fun a b => if a = i ∧ b = j then v else f a b) where
 o := h.o.far (p := ⟨Q i, j, none⟩) (Nat.ne_of_lt (h.hQ i hi)) _
 r := fun a ha => by
  by_cases e : a = i
  ·have h1 := (h.r a ha).put j (i64 v)
   rw [arrN_set] at h1
   have e2 : arrN m (fun q => if q = j then v else f a q) = arrN m (fun q => if a = i ∧ q = j then v else f a q) := arrN_congr fun q _ => by
    by_cases hq : q = j
    ·rw [if_pos hq, if_pos ⟨e, hq⟩]
    ·rw [if_neg hq, if_neg (fun h => hq h.2)]
   rw [e2, e] at h1
   rw [e]
   exact h1
  ·have hne : Q a ≠ Q i := fun h' => e (h.inj a i ha hi h')
   have h1 := (h.r a ha).far (p := ⟨Q i, j, none⟩) hne (i64 v)
   have e2 : arrN m (f a) = arrN m (fun q => if a = i ∧ q = j then v else f a q) := arrN_congr fun q _ => by
    rw [if_neg (fun h => e h.1)]
   rw [e2] at h1
   exact h1
 u := UpOf.of (h.u.below.setCell (p := ⟨Q i, j, none⟩) (Nat.le_of_lt (Nat.lt_of_le_of_lt h.hB (h.hQ i hi))) _)
 hB := h.hB
 hQ := h.hQ
 inj := h.inj
theorem Mx.more (h : Mx w wr B n m k Q f) (hk : k ≤ n) (f0 : Nat → Int) : Mx w ((wr.alloc (.cells (arrN m f0) 3)).setCell ⟨B, k, none⟩ (.slice (some ⟨wr.heap.size, 0, none⟩) (m + 1) (m + 1))) B n m (k + 1) (fun i => if i = k then wr.heap.size else Q i) (fun i => if i = k then f0 else f i) where
 o := by
  have h1 := (h.o.alloc (.cells (arrN m f0) 3)).put k (.slice (some ⟨wr.heap.size, 0, none⟩) (m + 1) (m + 1))
  rw [rowQ_set hk] at h1
  exact h1
 r := fun i hi => by
  by_cases e : i = k
  ·rw [if_pos e, if_pos e]
   exact (Blk.new wr 3 (arrN m f0)).far (p := ⟨B, k, none⟩) (Nat.ne_of_gt h.o.lt) _
  ·rw [if_neg e, if_neg e]
   have hi' : i < k := by omega
   exact ((h.r i hi').alloc _).far (p := ⟨B, k, none⟩) (Nat.ne_of_gt (h.hQ i hi')) _
 u := UpOf.of ((h.u.below.alloc h.u.below.size _).setCell (p := ⟨B, k, none⟩) h.hB _)
 hB := h.hB
 hQ := fun i hi => by
  show B < if i = k then wr.heap.size else Q i
  by_cases e : i = k
  ·rw [if_pos e]; exact h.o.lt
  ·rw [if_neg e]; exact h.hQ i (by omega)
 inj := fun i j hi hj he => by
  have hlt : ∀ a, a < k → Q a < wr.heap.size := fun a ha => (h.r a ha).lt
  replace he : (if i = k then wr.heap.size else Q i) = (if j = k then wr.heap.size else Q j) := he
  by_cases e1 : i = k
  ·by_cases e2 : j = k
   ·omega
   ·rw [if_pos e1, if_neg e2] at he
    have := hlt j (by omega)
    omega
  ·by_cases e2 : j = k
   ·rw [if_neg e1, if_pos e2] at he
    have := hlt i (by omega)
    omega
   ·rw [if_neg e1, if_neg e2] at he
    exact h.inj i j (by omega) (by omega) he
theorem Mx.more' (h : Mx w wr B n m k Q f) (hk : k ≤ n) (f0 : Nat → Int) : Mx w ((wr.setCell ⟨B, k, none⟩ (.slice (some ⟨wr.heap.size, 0, none⟩) (m + 1) (m + 1))).alloc (.cells (arrN m f0) 3)) B n m (k + 1) (fun i => if i = k then wr.heap.size else Q i) (fun i => if i = k then f0 else f i) := by
 have h1 := h.more hk f0
 rw [World.setCell_alloc_past (w := wr) _ B k _ h.o.lt] at h1
 exact h1
end
def mtF (a b : ByteArray) (I K i k : Nat) : Int := if I ≤ i ∨ (i + 1 = I ∧ K ≤ k) then cst a b i k else 0
theorem mtF_put (a b : ByteArray) (i k x y : Nat) : (if x = i ∧ y = k then cst a b i k else mtF a b (i + 1) (k + 1) x y) = mtF a b (i + 1) k x y := by
 unfold mtF
 by_cases h : x = i ∧ y = k
 ·rw [if_pos h, h.1, h.2, if_pos (.inr ⟨rfl, Nat.le_refl _⟩)]
 ·rw [if_neg h]
  by_cases h1 : i + 1 ≤ x ∨ x + 1 = i + 1 ∧ k + 1 ≤ y
  ·rw [if_pos h1, if_pos (by omega)]
  ·rw [if_neg h1, if_neg (by omega)]
theorem mtF_row (a b : ByteArray) {i m x y : Nat} (hy : y ≤ m) : mtF a b (i + 1) 0 x y = mtF a b i (m + 1) x y := by
 unfold mtF
 by_cases h1 : i + 1 ≤ x ∨ x + 1 = i + 1 ∧ 0 ≤ y
 ·rw [if_pos h1, if_pos (by omega)]
 ·rw [if_neg h1, if_neg (by omega)]
theorem mtF_done {a b : ByteArray} {i k x y : Nat} (h : i < x ∨ (i = x ∧ k < y)) : mtF a b (i + 1) (k + 1) x y = cst a b x y := by
 unfold mtF
 rw [if_pos (by omega)]
def Tb (w wr : World) (B : Nat) (Q : Nat → Nat) (a b : ByteArray) : Prop := Mx w wr B a.size b.size (a.size + 1) Q (cst a b)
def nxV (a b : ByteArray) (i k j : Nat) : Int := cst a b (i + sdi j) (k + sdk j) + ser j
def bst (a b : ByteArray) (i k j : Nat) : Int := bstJ (nxV a b i k) (okAl a b i k) j
theorem bst_no {a b : ByteArray} {i k j : Nat} (h : okAl a b i k j = false) : bst a b i k (j + 1) = bst a b i k j := by
 rw [bst, bstJ, h, Bool.false_and, if_neg (by simp)]; rfl
theorem bst_new {a b : ByteArray} {i k j : Nat} (h : okAl a b i k j = true) (h2 : bst a b i k j < 0 ∨ nxV a b i k j < bst a b i k j) : bst a b i k (j + 1) = nxV a b i k j := by
 rw [bst, bstJ, h, Bool.true_and, if_pos]
 rw [Bool.or_eq_true, decide_eq_true_eq, decide_eq_true_eq]
 exact h2
theorem bst_old {a b : ByteArray} {i k j : Nat} (h1 : ¬ bst a b i k j < 0) (h2 : ¬ nxV a b i k j < bst a b i k j) : bst a b i k (j + 1) = bst a b i k j := by
 rw [bst, bstJ, if_neg]
 ·rfl
 ·rw [Bool.and_eq_true, Bool.or_eq_true, decide_eq_true_eq, decide_eq_true_eq]
  rintro ⟨_, h | h⟩
  ·exact h1 h
  ·exact h2 h
theorem cst_bst (a b : ByteArray) (i k : Nat) : cst a b i k = max (bst a b i k 5) 0 := by
 rw [cst_eq]
 show (if bst a b i k 5 < 0 then 0 else bst a b i k 5) = _
 split <;> omega
def Lit5 (w : World) (b : Nat) : Prop := w.heap[b]? = some (.cells #[.int .u8 43, .int .u8 45, .int .u8 61, .int .u8 120, .int .u8 126] 5 (5, 6))
section
variable {w w' : World} {b : Nat}
theorem Lit5.lt (h : Lit5 w b) : b < w.heap.size := (Array.getElem?_eq_some_iff.1 h).1
theorem Lit5.below (h : Lit5 w b) (hb : Below w.heap.size w w') : Lit5 w' b := (hb.block b h.lt).trans h
theorem Lit5.cell (h : Lit5 w b) {j : Nat} (hj : j < 5) : w.cell? ⟨b, j, none⟩ = some (.int .u8 ((stB j).toNat : Int)) := by
 unfold Lit5 at h
 have h3 : j = 0 ∨ j = 1 ∨ j = 2 ∨ j = 3 ∨ j = 4 := by omega
 rcases h3 with rfl | rfl | rfl | rfl | rfl <;> simp [World.cell?, h] <;> rfl
end
end Go.Proofs.YtbianlkenallaaaGreatDoor
namespace Go.Proofs.YtbianlkenallaaaGreatDoor
open Go.ChangeShapes Go.WideShapes Go.ChangeAt Go.RowKit Go.Joins Go.Deep
set_option linter.unusedVariables false
set_option maxRecDepth 10000
theorem array8 {α : Type} {cs : Array α} (h : cs.size = 8) : ∃ c0 c1 c2 c3 c4 c5 c6 c7, cs = #[c0, c1, c2, c3, c4, c5, c6, c7] := by
 obtain ⟨l⟩ := cs
 match l, h with
 | [c0, c1, c2, c3, c4, c5, c6, c7], _ => exact ⟨c0, c1, c2, c3, c4, c5, c6, c7, rfl⟩
theorem trod_struct5 {H : Type} {enc : TypeId × Value → H} {P : Program} {w : World} {base : Nat} {spare : Nat → Bool} {held : Bool} {t : TypeId} {f0 f1 f2 f3 f4 : Field} {fuel : Nat} {cs : List Value} {x : DataW H × List MemPlace} (ht : P.underlying t = some (.struct #[f0, f1, f2, f3, f4])) (h : DataW.trod enc P w base spare held fuel t cs = some x) :
 ∃ y0 y1 y2 y3 y4 n, cs.length = P.cellsOf t ∧ DataW.trod enc P w base spare held n f0.type ((cs.drop f0.offset).take (P.cellsOf f0.type)) = some y0 ∧
  DataW.trod enc P w base spare held n f1.type ((cs.drop f1.offset).take (P.cellsOf f1.type)) = some y1 ∧ DataW.trod enc P w base spare held n f2.type ((cs.drop f2.offset).take (P.cellsOf f2.type)) = some y2 ∧
  DataW.trod enc P w base spare held n f3.type ((cs.drop f3.offset).take (P.cellsOf f3.type)) = some y3 ∧ DataW.trod enc P w base spare held n f4.type ((cs.drop f4.offset).take (P.cellsOf f4.type)) = some y4 := by
 obtain ⟨xs, n, _, rfl, hl, hlen, hf⟩ := DataW.trod_struct ht h
 match xs, hlen with
 | [y0, y1, y2, y3, y4], _ => exact ⟨y0, y1, y2, y3, y4, n, hl, by simpa using hf 0 f0 rfl, by simpa using hf 1 f1 rfl, by simpa using hf 2 f2 rfl, by simpa using hf 3 f3 rfl, by simpa using hf 4 f4 rfl⟩
theorem in_desk {W : World} {base : Nat} {held : Bool} {H : Type} {enc : TypeId × Value → H} {v : Value} {d : DataW H} {p : List MemPlace}
 (hv : Value.okWide Tryz.prog W .any base 43 v) (h : DataW.Trod enc Tryz.prog W 0 (fun _ => true) held 43 v d p) :
 ∃ (x : DeskD) (A B : Option Addr) (c e : Nat), v = dkv x A B c e ∧ DSee W x A B ∧ DkBnd x := by
 obtain ⟨cs, rfl, hsz⟩ := okWide_struct Tryz.underlying43 hv
 have hC : Tryz.prog.cellsOf 43 = 8 := by kernel_rfl
 rw [hC] at hsz
 obtain ⟨c0, c1, c2, c3, c4, c5, c6, c7, rfl⟩ := array8 hsz
 clear hv hsz
 obtain ⟨fuel, hf⟩ := h
 obtain ⟨y0, y1, y2, y3, n, _, _, t0, t1, t2, t3⟩ := trod_struct4 Tryz.underlying43 hf
 have hc0 : Tryz.prog.cellsOf 40 = 5 := by kernel_rfl
 have hc1 : Tryz.prog.cellsOf 28 = 1 := by kernel_rfl
 have hc2 : Tryz.prog.cellsOf 41 = 1 := by kernel_rfl
 have hc3 : Tryz.prog.cellsOf 9 = 1 := by kernel_rfl
 have hc4 : Tryz.prog.cellsOf 2 = 1 := by kernel_rfl
 simp only [Value.cells, hc0, hc1, hc2, hc3, List.drop_zero, List.drop_succ_cons, List.take_succ_cons, List.take_zero] at t0 t1 t2 t3
 obtain ⟨z0, z1, z2, z3, z4, m, _, u0, u1, u2, u3, u4⟩ := trod_struct5 Tryz.underlying40 t0
 simp only [hc4, List.drop_zero, List.drop_succ_cons, List.take_succ_cons, List.take_zero] at u0 u1 u2 u3 u4
 obtain ⟨a0, e0, _, _⟩ := DataW.trod_int Tryz.underlying2 u0
 obtain ⟨a1, e1, _, _⟩ := DataW.trod_int Tryz.underlying2 u1
 obtain ⟨a2, e2, _, _⟩ := DataW.trod_int Tryz.underlying2 u2
 obtain ⟨a3, e3, _, _⟩ := DataW.trod_int Tryz.underlying2 u3
 obtain ⟨a4, e4, _, _⟩ := DataW.trod_int Tryz.underlying2 u4
 obtain ⟨A, c, ss, e5, rs, ns, _⟩ := open_i64 t1
 obtain ⟨B, e, ds, e6, rd, nd, _, hd⟩ := open_dr t2
 obtain ⟨a7, e7, _, n7⟩ := DataW.trod_string Tryz.underlying9 t3
 unfold maxLen at n7
 simp only [List.cons.injEq, and_true] at e0 e1 e2 e3 e4 e5 e6 e7
 subst e0 e1 e2 e3 e4 e5 e6 e7
 exact ⟨⟨⟨a0, a1, a2, a3, a4⟩, ss, ds, a7⟩, A, B, c, e, rfl, ⟨rs, rd⟩, ns, nd, hd, n7⟩
end Go.Proofs.YtbianlkenallaaaGreatDoor

/-
  The reference's taking of one line of a log, where it is an entry. The bounds stand at it.
-/
import Derived.Test.YtbianlkenallaaaGreatDoorLineS
set_option linter.all false
set_option maxHeartbeats 4000000
set_option maxRecDepth 10000
namespace Go.Proofs.YtbianlkenallaaaGreatDoor
open Go.RowKit
theorem LS.put {base rb sz : Nat} {s : ByteArray} {l : List Entry} {st : Int} {w : World} {Al : Option Addr} {cl gb cap : Nat} {x : Entry} (b : Blk w rb 171 #[.string s, i64 sz, i64 st, .slice Al l.length cl]) (hb : base ≤ rb)
 (o : w.ownsRow base 127 3 (.slice (some ⟨gb, 0, none⟩) (l.length + 1) cap) (l.length + 1) (encs l ++ [i64 x.day, .string x.what, i64 x.value])) (hne : gb ≠ rb) (st' : Int) (sz' : Int) {n : Nat} (hn : sz' = (n : Int)) :
 LS base (((w.setCell ⟨rb, 3, none⟩ (.slice (some ⟨gb, 0, none⟩) (l.length + 1) cap)).setCell ⟨rb, 2, none⟩ (i64 st')).setCell ⟨rb, 1, none⟩ (i64 sz')) rb s (l ++ [x]) st' n := by
 subst hn
 have hne2 : (Value.slice (some ⟨gb, 0, none⟩) (l.length + 1) cap).ownBlock = none ∨ (Value.slice (some ⟨gb, 0, none⟩) (l.length + 1) cap).ownBlock ≠ some rb := .inr (fun e => by injection e with e; exact hne e)
 have b3 := ((b.put 3 (.slice (some ⟨gb, 0, none⟩) (l.length + 1) cap)).put 2 (i64 st')).put 1 (i64 n)
 have o3 := ((o.kept (grown_put w rb 3 (.slice (some ⟨gb, 0, none⟩) (l.length + 1) cap)) hne2).kept (grown_put _ rb 2 (i64 st')) hne2).kept (grown_put _ rb 1 (i64 n)) hne2
 refine ⟨some ⟨gb, 0, none⟩, cap, ?_, hb, ?_, ?_⟩
 ·rw [List.length_append, List.length_singleton]; exact b3
 ·rw [List.length_append, List.length_singleton, show encs (l ++ [x]) = encs l ++ [i64 x.day, .string x.what, i64 x.value] by simp [encs, Entry.cells]]; exact o3
 ·rw [List.length_append, List.length_singleton]; exact hne2
theorem Below.sets3s {B rb : Nat} {a w : World} (hr : B ≤ rb) (h : Below B a w) (u0 u1 u2 : Value) : Below B a (((w.setCell ⟨rb, 3, none⟩ u0).setCell ⟨rb, 2, none⟩ u1).setCell ⟨rb, 1, none⟩ u2) :=
 ((h.setCell (p := ⟨rb, 3, none⟩) hr u0).setCell (p := ⟨rb, 2, none⟩) hr u1).setCell (p := ⟨rb, 1, none⟩) hr u2
theorem lineS_ok (base rb sz : Nat) (s : ByteArray) (l : List Entry) (st : Int) (line post : ByteArray) (ok : Bool) (hok1 : ok = true) (w : World) (h : LS base w rb s l st sz) (hC : cutA 10 [] (s.data.toList.drop sz) = (line, post, ok)) (hsz : sz ≤ s.size) (hs : s.size ≤ 1000000) (hl : l.length ≤ 1000000) (s0 : 0 ≤ st) (s1 : st < 65519)
 (hok : takeB (dayL l) st line (splitA 32 [] line.data.toList) = true) :
 Calls Tryz.prog 175 #[.pointer (some ⟨rb, 0, none⟩)] w fun e w' => e = .returned (.bool true) ∧ LS base w' rb s (l ++ [eOf (splitA 32 [] line.data.toList)]) (stampP st (eOf (splitA 32 [] line.data.toList))) (sz + line.size + 1) ∧ Below base w w' := by
 have HB0 := hd_ (show base ≤ w.heap.size from Nat.le_trans h.lt.1 (Nat.le_of_lt h.lt.2))
 have HBR := hd_ h.lt.1
 obtain ⟨L, hL⟩ := nm_ (s.data.toList)
 have hLn := hd_ (show L.length = s.size by rw [← hL]; rfl)
 have HL := hd_ hL
 rw [hL] at hC
 have HC := hd_ hC
 have hls : line.size ≤ 1000000 := by
  have := (cutA_size 10 (L.drop sz) []).1
  rw [hC] at this
  simp [hLn.out] at this
  omega
 clear hL hC
 obtain ⟨W, hW⟩ := nm_ (splitA 32 [] line.data.toList)
 have HS := hd_ (fun i => (show (wAt W i).size ≤ 9223372036854775807 by rw [← hW]; exact Nat.le_trans (sAt_size i) (by rw [bsz]; omega)))
 have cw : ∀ V, Calls Tryz.prog 44 #[.string line, .int .u8 32] V fun e w' => ∃ A c, e = .returned (.slice A W.length c) ∧ w'.ownsRow V.heap.size 9 1 (.slice A W.length c) W.length (strs W) ∧ UpOf V w' := fun V => by rw [← hW]; exact l01Split_any line 32 32 rfl V (by omega)
 have CW := hd_ cw
 obtain ⟨c0, c1, c2⟩ := h.cells
 have hrb := h.lt.2
 have HLS := hd_ h
 clear h cw
 rw [hW] at hok ⊢
 clear hW
 obtain ⟨h1, h2, h3, h4, h5, h6⟩ := takeB_inv hok
 have hb := stampP_bd st (eOf W)
 have h5' : ¬ (eOf W).day < dayL l := Int.not_lt.2 h5
 have hne : (!((lineP (eOf W) (stampP st (eOf W)) ++ ⟨#[10]⟩).toList == (line ++ ⟨#[10]⟩ : ByteArray).toList)) = false := tl_eq (by rw [h6])
 clear hok h5 h6
 go_enter Tryz.func175, Tryz.ntmps175
 go_wp2_with ((with_reducible refine wru ?_); refine wrz fun _ => ?_)
 go_loopw [3] (fun e wr => ∃ k : Nat, sz ≤ k ∧ k ≤ s.size ∧ e = i64 k ∧ Hid (cutA 10 ((L.drop sz).take (k - sz)) (L.drop k) = (line, post, ok)) ∧ ∃ g : Up w, wr = up w g) (fun e _ => s.size - (intOf e).toNat)
 case atStart => exact ⟨sz, Nat.le_refl _, hsz, rfl, by rw [Nat.sub_self, List.take_zero]; exact HC, ex_up bw_⟩
 case round =>
  obtain ⟨k, hk0, hk, rfl, hsp, g, rfl⟩ := hrel
  by_cases hlt : k < s.size
  ·have hbt := hd_ (show s[k] = L.getD k 0 by rw [byteAt_eq hlt, byteAt, HL.out])
   have hkl : k < L.length := by rw [hLn.out]; exact hlt
   have hdr := hd_ (drop_at hkl)
   by_cases q : s[k] = 10
   ·have qe : ((s[k].toNat : Int) != 10) = false := by rw [q]; rfl
    have hres := hsp.out
    rw [hdr.out, ← hbt.out, q, cutA, if_pos rfl] at hres
    have hline := hd_ (show s.extract sz k = line by rw [bs_extract, HL.out]; exact congrArg Prod.fst hres)
    have hpost := hd_ (show bs (L.drop (k + 1)) = post from congrArg (fun x => x.2.1) hres)
    have hokk : true = ok := congrArg (fun x => x.2.2) hres
    have hksz := hd_ (show k = sz + line.size by rw [← hline.out, ByteArray.size_extract]; omega)
    have hl2 := hd_ (show s.extract sz (k + 1) = line ++ ⟨#[10]⟩ by
     apply ba_ext
     rw [ByteArray.data_append, Array.toList_append, ← hline.out, bs_extract, bs_extract, bs_list, bs_list, HL.out, cur_snoc hkl hk0, ← hbt.out, q])
    have hs1 : ∀ wx : World, (Instr.slice 9 (.string s) (some (i64 sz)) (some (i64 k)) none).run Tryz.prog wx = .ok (.string line) wx := fun wx => by
     have := run_slice_string (P := Tryz.prog) wx 9 s .i64 .i64 (sz : Int) (k : Int) Tryz.underlying9 (by omega) (by omega) (by omega)
     simpa [hline.out] using this
    have hs2 : ∀ wx : World, (Instr.slice 9 (.string s) (some (i64 sz)) (some (.int .i64 ((k : Int) + 1))) none).run Tryz.prog wx = .ok (.string (line ++ ⟨#[10]⟩)) wx := fun wx => by
     have := run_slice_string (P := Tryz.prog) wx 9 s .i64 .i64 (sz : Int) ((k + 1 : Nat) : Int) Tryz.underlying9 (by omega) (by omega) (by omega)
     simpa [hl2.out] using this
    clear hres q hkl hsp
    subst hokk
    have hwl := ewords_len h4
    go_wp2_with fail
    refine wpg (R := fun V => (V.cell? ⟨rb, 0, none⟩ = some (.string s) ∧ V.cell? ⟨rb, 1, none⟩ = some (i64 sz) ∧ V.cell? ⟨rb, 2, none⟩ = some (i64 st) ∧ rb < V.heap.size) ∧ LS base V rb s l st sz ∧ UpOf w V)
     ⟨⟨by simp [hrb, c0], by simp [hrb, c1], by simp [hrb, c2], (HLS.out.below (w' := _) bw_).lt.2⟩, HLS.out.below bw_, uw_⟩ (fun V z => ?_)
    clear c0 c1 c2 hrb HLS
    obtain ⟨⟨c0, c1, c2, hrb⟩, hls', hu⟩ := z
    have HLS := hd_ hls'
    have HU := hd_ hu
    clear hls' hu
    go_region_held3 (fun w' => (V).heap.size ≤ w'.heap.size ∧ ∀ b o, b < (V).heap.size → w'.cell? ⟨b, o, none⟩ = (V).cell? ⟨b, o, none⟩) (exact sm_of bw_) (first | (go_at_call 44; refine (CW.out _).mono ?_; rintro e w' ⟨A1, k1, rfl, o1, g1, rfl⟩))
    obtain ⟨b1, p1, rfl, hb1, q0, q1, q2⟩ := words4 (Rds.of_own o1) h1
    clear o1
    go_wp2_with fail
    refine cg (R := fun V2 => (b1 < V2.heap.size ∧ V2.cell? ⟨b1, p1, none⟩ = some (.string (wAt W 0)) ∧ V2.cell? ⟨b1, p1 + 1, none⟩ = some (.string (wAt W 1)) ∧ V2.cell? ⟨b1, p1 + 2, none⟩ = some (.string (wAt W 2))) ∧ LS base V2 rb s l st sz ∧ UpOf w V2)
     ⟨⟨hb1, q0, q1, q2⟩, HLS.out.below bw_, HU.out.tr bw_⟩ (fun V2 z => ?_)
    clear q0 q1 q2 hb1 c0 c1 c2 hrb HLS HU
    obtain ⟨⟨hb1, q0, q1, q2⟩, hls', hu⟩ := z
    obtain ⟨c0, c1, c2⟩ := hls'.cells
    have hrb := hls'.lt.2
    have HLS := hd_ hls'
    have HU := hd_ hu
    clear hls' hu
    refine cu_ (l01Number_any _ _ (HS.out _)) fun g2 => ?_
    go_wp2_with fail
    refine cu_ (l01Number_any _ _ (HS.out _)) fun g3 => ?_
    go_wp2_with fail
    refine wpg (R := fun V3 => EAt V3 (up V2 (g2.tr g3)).heap.size 0 (eOf W) ∧ LS base V3 rb s l st sz ∧ UpOf w V3)
     ⟨⟨by simp, by simp [eOf], by simp [eOf], by simp [eOf]⟩, HLS.out.below bw_, HU.out.tr bw_⟩ (fun V3 z => ?_)
    clear q0 q1 q2 hb1 c0 c1 c2 hrb HLS HU
    generalize (up V2 (g2.tr g3)).heap.size = q at *
    obtain ⟨he, hls', hu⟩ := z
    obtain ⟨c0, c1, c2⟩ := hls'.cells
    have hrb := hls'.lt.2
    obtain ⟨hq, e0, e1, e2⟩ := id he
    have HE := hd_ he
    have HLS := hd_ hls'
    have HU := hd_ hu
    clear he hls' hu
    go_wp2_with (first | ((with_reducible refine wru ?_); (repeat (go_big_quiet_step (first | (go_at_call 189; exact uq_ (ra_ (l27Ok_any (eOf W) _ _ _ (HE.out.below bw_) (HS.out 1)) h4)) | (go_at_call 190; exact uq_ (dayS_any _ _ _ _ _ _ _ (HLS.out.below bw_) (by omega))) | (go_at_call 161; exact uq_ (l27Words_any (eOf W) h4 _ _ _ (HE.out.below bw_))) | (go_at_call 192; exact uq_ (l27Stamp_any _ hwl (eOf W) rfl _ (by omega) (by omega) _)) | (go_at_call 191; exact uq_ (l27Line_any (eOf W) h4 _ (by omega) (by omega) _ _ _ (HE.out.below bw_)))))); refine wqn fun nq => ?_))
    refine wpg (R := fun V4 => EAt V4 q 0 (eOf W) ∧ LS base V4 rb s l st sz ∧ UpOf w V4) ⟨HE.out.below bw_, HLS.out.below bw_, HU.out.tr bw_⟩ (fun V4 z => ?_)
    clear c0 c1 c2 hrb e0 e1 e2 hq HE HLS HU hs1 hs2 HS CW
    obtain ⟨⟨hq, e0, e1, e2⟩, ⟨Al, cl, r1, r2, r3, r4⟩, hu⟩ := z
    have HU := hd_ hu
    have c0 := r1.cell 0
    have c1 := r1.cell 1
    have c2 := r1.cell 2
    have c3 := r1.cell 3
    have hrb := r1.lt
    simp only [List.getElem?_toArray, List.getElem?_cons_zero, List.getElem?_cons_succ] at c0 c1 c2 c3
    simp only [Nat.zero_add] at e1 e2
    have R1 := hd_ r1
    have R3 := hd_ r3
    have R4 := hd_ r4
    have HBS := hd_ (show base ≤ V4.heap.size from Nat.le_trans r2 (Nat.le_of_lt hrb))
    clear hu r1 r3 r4
    go_region_law (first | (go_must (refine step_appAt rfl _ _ 100 (by rfl) base 127 _ 3 32 el_entry (.slice Al l.length cl) l.length (encs l) (by rfl) (ob_ R3.out bw_) _ 1 1 [i64 (eOf W).day, .string (eOf W).what, i64 (eOf W).value] (by rfl) (rds_new _ #[i64 (eOf W).day, .string (eOf W).what, i64 (eOf W).value] _ 3 1 rfl) (fun u hu => by simp at hu; rcases hu with rfl | rfl | rfl <;> rfl) (by omega) (by unfold maxLen; omega) (by omega) (Nat.le_trans HBS.out (Below.size (B := V4.heap.size) (w := V4) bw_)) ?_); intro gb cap w4 o4 hg4 hat4; have b4 := (R1.out.below' bw_).grown hg4 (ne_row R4.out); have d0 := b4.cell 0; have d1 := b4.cell 1; have d2 := b4.cell 2; have d3 := b4.cell 3; have f1 := b4.free 1; have f2 := b4.free 2; have f3 := b4.free 3; simp only [List.getElem?_toArray, List.getElem?_cons_zero, List.getElem?_cons_succ] at d0 d1 d2 d3))
    all_goals
     go_wp2_with ((with_reducible refine wru ?_); refine wrz fun _ => ?_)
     go_ret
     exact ⟨rfl, LS.put b4 HBR.out o4 (gb_ne R4.out hat4 (Nat.lt_of_lt_of_le hrb (Below.size (B := V4.heap.size) (w := V4) bw_))) _ _ (by have := hksz.out; omega), Below.sets3s HBR.out (((HU.out.below.mono HB0.out).trans ((show Below V4.heap.size V4 _ from bw_).mono HBS.out)).grown hg4 (Nat.le_trans HBS.out (Below.size (B := V4.heap.size) (w := V4) bw_)) (fun k hk => (R3.out.lt k hk).1)) _ _ _⟩
   ·have qe : ((s[k].toNat : Int) != 10) = true := by rw [bne_iff_ne]; intro he; exact q (UInt8.toNat_inj.1 (by simp; omega))
    have hsp2 := hd_ (show cutA 10 ((L.drop sz).take (k + 1 - sz)) (L.drop (k + 1)) = (line, post, ok) by
     rw [← hsp.out, hdr.out, cutA, if_neg (by rw [← hbt.out]; exact q), cur_snoc hkl hk0])
    clear q hkl
    go_wp2_with ((with_reducible refine wru ?_); refine wrz fun _ => ?_)
    go_roundw
    case rel => exact ⟨k + 1, by omega, by omega, by go_num, hsp2, ex_up bw_⟩
    case measure => (simp [intOf]; try omega)
  ·obtain rfl : k = s.size := by omega
   have e0 : L.drop s.size = [] := List.drop_eq_nil_of_le (by rw [hLn.out]; exact Nat.le_refl _)
   have hokf : false = ok := by
    have := hsp.out
    rw [e0, cutA] at this
    exact congrArg (fun x => x.2.2) this
   clear e0
   subst hokf
   cases hok1
end Go.Proofs.YtbianlkenallaaaGreatDoor

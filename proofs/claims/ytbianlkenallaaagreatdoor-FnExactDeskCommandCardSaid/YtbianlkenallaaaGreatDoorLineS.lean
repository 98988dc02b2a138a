/-
  The reference's taking of one line of a log. The bounds stand at each.
-/
import Derived.Test.YtbianlkenallaaaGreatDoorMgB
import Derived.Test.YtbianlkenallaaaGreatDoorTakeI
set_option linter.all false
set_option maxHeartbeats 2000000
set_option maxRecDepth 10000
namespace Go.Proofs.YtbianlkenallaaaGreatDoor
open Go.RowKit
theorem sAt_size {L : List UInt8} (i : Nat) : (wAt (splitA 32 [] L) i).size ≤ L.length := by
 unfold wAt
 rw [List.getD_eq_getElem?_getD]
 cases h : (splitA 32 [] L)[i]? with
 | none => exact Nat.zero_le _
 | some p =>
   have := split_size 32 L [] p (List.mem_of_getElem? h)
   simpa using this
theorem app_inj {a b : ByteArray} (h : a ++ ⟨#[10]⟩ = b ++ ⟨#[10]⟩) : a = b := by
 have h1 := congrArg (fun x : ByteArray => x.data.toList) h
 simp only [ByteArray.data_append, Array.toList_append] at h1
 exact ba_ext (List.append_cancel_right h1)
theorem lineS_no (base rb sz : Nat) (s : ByteArray) (l : List Entry) (st : Int) (line post : ByteArray) (ok : Bool) (w : World) (h : LS base w rb s l st sz) (hC : cutA 10 [] (s.data.toList.drop sz) = (line, post, ok)) (hsz : sz ≤ s.size) (hs : s.size ≤ 1000000) (hl : l.length ≤ 1000000) (s0 : 0 ≤ st) (s1 : st < 65519)
 (hno : ok = false ∨ takeB (dayL l) st line (splitA 32 [] line.data.toList) = false) :
 Calls Tryz.prog 175 #[.pointer (some ⟨rb, 0, none⟩)] w fun e w' => e = .returned (.bool false) ∧ UpOf w w' := by
 obtain ⟨L, hL⟩ := nm_ (s.data.toList)
 have hLn := hd_ (show L.length = s.size by rw [← hL]; rfl)
 have HL := hd_ hL
 rw [hL] at hC
 have HC := hd_ hC
 have hls : line.size ≤ 1000000 := by
  have := (cutA_size 10 (L.drop sz) []).1
  rw [hC] at this
  simp [hLn.out] at this
  omega
 clear hL hC
 obtain ⟨W, hW⟩ := nm_ (splitA 32 [] line.data.toList)
 have HS := hd_ (fun i => (show (wAt W i).size ≤ 9223372036854775807 by rw [← hW]; exact Nat.le_trans (sAt_size i) (by rw [bsz]; omega)))
 have cw : ∀ V, Calls Tryz.prog 44 #[.string line, .int .u8 32] V fun e w' => ∃ A c, e = .returned (.slice A W.length c) ∧ w'.ownsRow V.heap.size 9 1 (.slice A W.length c) W.length (strs W) ∧ UpOf V w' := fun V => by rw [← hW]; exact l01Split_any line 32 32 rfl V (by omega)
 have CW := hd_ cw
 obtain ⟨c0, c1, c2⟩ := h.cells
 have hrb := h.lt.2
 have HLS := hd_ h
 clear h cw
 rw [hW] at hno
 clear hW
 go_enter Tryz.func175, Tryz.ntmps175
 go_wp2_with ((with_reducible refine wru ?_); refine wrz fun _ => ?_)
 go_loopw [3] (fun e wr => ∃ k : Nat, sz ≤ k ∧ k ≤ s.size ∧ e = i64 k ∧ Hid (cutA 10 ((L.drop sz).take (k - sz)) (L.drop k) = (line, post, ok)) ∧ ∃ g : Up w, wr = up w g) (fun e _ => s.size - (intOf e).toNat)
 case atStart => exact ⟨sz, Nat.le_refl _, hsz, rfl, by rw [Nat.sub_self, List.take_zero]; exact HC, ex_up bw_⟩
 case round =>
  obtain ⟨k, hk0, hk, rfl, hsp, g, rfl⟩ := hrel
  by_cases hlt : k < s.size
  ·have hbt := hd_ (show s[k] = L.getD k 0 by rw [byteAt_eq hlt, byteAt, HL.out])
   have hkl : k < L.length := by rw [hLn.out]; exact hlt
   have hdr := hd_ (drop_at hkl)
   by_cases q : s[k] = 10
   ·have qe : ((s[k].toNat : Int) != 10) = false := by rw [q]; rfl
    have hres := hsp.out
    rw [hdr.out, ← hbt.out, q, cutA, if_pos rfl] at hres
    have hline := hd_ (show s.extract sz k = line by rw [bs_extract, HL.out]; exact congrArg Prod.fst hres)
    have hpost := hd_ (show bs (L.drop (k + 1)) = post from congrArg (fun x => x.2.1) hres)
    have hokk : true = ok := congrArg (fun x => x.2.2) hres
    have hksz := hd_ (show k = sz + line.size by rw [← hline.out, ByteArray.size_extract]; omega)
    have hl2 := hd_ (show s.extract sz (k + 1) = line ++ ⟨#[10]⟩ by
     apply ba_ext
     rw [ByteArray.data_append, Array.toList_append, ← hline.out, bs_extract, bs_extract, bs_list, bs_list, HL.out, cur_snoc hkl hk0, ← hbt.out, q])
    have hs1 : ∀ wx : World, (Instr.slice 9 (.string s) (some (i64 sz)) (some (i64 k)) none).run Tryz.prog wx = .ok (.string line) wx := fun wx => by
     have := run_slice_string (P := Tryz.prog) wx 9 s .i64 .i64 (sz : Int) (k : Int) Tryz.underlying9 (by omega) (by omega) (by omega)
     simpa [hline.out] using this
    have hs2 : ∀ wx : World, (Instr.slice 9 (.string s) (some (i64 sz)) (some (.int .i64 ((k : Int) + 1))) none).run Tryz.prog wx = .ok (.string (line ++ ⟨#[10]⟩)) wx := fun wx => by
     have := run_slice_string (P := Tryz.prog) wx 9 s .i64 .i64 (sz : Int) ((k + 1 : Nat) : Int) Tryz.underlying9 (by omega) (by omega) (by omega)
     simpa [hl2.out] using this
    clear hres q hkl hsp
    subst hokk
    have hno := hno.resolve_left (by simp)
    by_cases h1 : W.length = 4
    ·cases h2 : (rdR (wAt W 0)).2
     ·clear hno
      go_wp2_with fail
      refine wpg (R := fun V => (V.cell? ⟨rb, 0, none⟩ = some (.string s) ∧ V.cell? ⟨rb, 1, none⟩ = some (i64 sz) ∧ V.cell? ⟨rb, 2, none⟩ = some (i64 st) ∧ rb < V.heap.size) ∧ LS base V rb s l st sz ∧ UpOf w V)
       ⟨⟨by simp [hrb, c0], by simp [hrb, c1], by simp [hrb, c2], (HLS.out.below (w' := _) bw_).lt.2⟩, HLS.out.below bw_, uw_⟩ (fun V z => ?_)
      clear c0 c1 c2 hrb HLS
      obtain ⟨⟨c0, c1, c2, hrb⟩, hls', hu⟩ := z
      have HLS := hd_ hls'
      have HU := hd_ hu
      clear hls' hu
      go_region_held3 (fun w' => (V).heap.size ≤ w'.heap.size ∧ ∀ b o, b < (V).heap.size → w'.cell? ⟨b, o, none⟩ = (V).cell? ⟨b, o, none⟩) (exact sm_of bw_) (first | (go_at_call 44; refine (CW.out _).mono ?_; rintro e w' ⟨A1, k1, rfl, o1, g1, rfl⟩))
      obtain ⟨b1, p1, rfl, hb1, q0, q1, q2⟩ := words4 (Rds.of_own o1) h1
      clear o1
      go_wp2_with fail
      refine cg (R := fun V2 => (b1 < V2.heap.size ∧ V2.cell? ⟨b1, p1, none⟩ = some (.string (wAt W 0)) ∧ V2.cell? ⟨b1, p1 + 1, none⟩ = some (.string (wAt W 1)) ∧ V2.cell? ⟨b1, p1 + 2, none⟩ = some (.string (wAt W 2))) ∧ LS base V2 rb s l st sz ∧ UpOf w V2)
       ⟨⟨hb1, q0, q1, q2⟩, HLS.out.below bw_, HU.out.tr bw_⟩ (fun V2 z => ?_)
      clear q0 q1 q2 hb1 c0 c1 c2 hrb HLS HU
      obtain ⟨⟨hb1, q0, q1, q2⟩, hls', hu⟩ := z
      obtain ⟨c0, c1, c2⟩ := hls'.cells
      have hrb := hls'.lt.2
      have HLS := hd_ hls'
      have HU := hd_ hu
      clear hls' hu
      refine cu_ (l01Number_any _ _ (HS.out _)) fun g2 => ?_
      go_wp2_with fail
      refine cu_ (l01Number_any _ _ (HS.out _)) fun g3 => ?_
      go_wp2_with fail
      refine wpg (R := fun V3 => EAt V3 (up V2 (g2.tr g3)).heap.size 0 (eOf W) ∧ LS base V3 rb s l st sz ∧ UpOf w V3)
       ⟨⟨by simp, by simp [eOf], by simp [eOf], by simp [eOf]⟩, HLS.out.below bw_, HU.out.tr bw_⟩ (fun V3 z => ?_)
      clear q0 q1 q2 hb1 c0 c1 c2 hrb HLS HU
      generalize (up V2 (g2.tr g3)).heap.size = q at *
      obtain ⟨he, hls', hu⟩ := z
      obtain ⟨c0, c1, c2⟩ := hls'.cells
      have hrb := hls'.lt.2
      obtain ⟨hq, e0, e1, e2⟩ := id he
      have HE := hd_ he
      have HLS := hd_ hls'
      have HU := hd_ hu
      clear he hls' hu
      go_wp2_with ((with_reducible refine wru ?_); refine wrz fun _ => ?_)
      go_ret
      exact ⟨rfl, HU.out.tr bw_⟩
     cases h3 : (rdR (wAt W 2)).2
     ·clear hno
      go_wp2_with fail
      refine wpg (R := fun V => (V.cell? ⟨rb, 0, none⟩ = some (.string s) ∧ V.cell? ⟨rb, 1, none⟩ = some (i64 sz) ∧ V.cell? ⟨rb, 2, none⟩ = some (i64 st) ∧ rb < V.heap.size) ∧ LS base V rb s l st sz ∧ UpOf w V)
       ⟨⟨by simp [hrb, c0], by simp [hrb, c1], by simp [hrb, c2], (HLS.out.below (w' := _) bw_).lt.2⟩, HLS.out.below bw_, uw_⟩ (fun V z => ?_)
      clear c0 c1 c2 hrb HLS
      obtain ⟨⟨c0, c1, c2, hrb⟩, hls', hu⟩ := z
      have HLS := hd_ hls'
      have HU := hd_ hu
      clear hls' hu
      go_region_held3 (fun w' => (V).heap.size ≤ w'.heap.size ∧ ∀ b o, b < (V).heap.size → w'.cell? ⟨b, o, none⟩ = (V).cell? ⟨b, o, none⟩) (exact sm_of bw_) (first | (go_at_call 44; refine (CW.out _).mono ?_; rintro e w' ⟨A1, k1, rfl, o1, g1, rfl⟩))
      obtain ⟨b1, p1, rfl, hb1, q0, q1, q2⟩ := words4 (Rds.of_own o1) h1
      clear o1
      go_wp2_with fail
      refine cg (R := fun V2 => (b1 < V2.heap.size ∧ V2.cell? ⟨b1, p1, none⟩ = some (.string (wAt W 0)) ∧ V2.cell? ⟨b1, p1 + 1, none⟩ = some (.string (wAt W 1)) ∧ V2.cell? ⟨b1, p1 + 2, none⟩ = some (.string (wAt W 2))) ∧ LS base V2 rb s l st sz ∧ UpOf w V2)
       ⟨⟨hb1, q0, q1, q2⟩, HLS.out.below bw_, HU.out.tr bw_⟩ (fun V2 z => ?_)
      clear q0 q1 q2 hb1 c0 c1 c2 hrb HLS HU
      obtain ⟨⟨hb1, q0, q1, q2⟩, hls', hu⟩ := z
      obtain ⟨c0, c1, c2⟩ := hls'.cells
      have hrb := hls'.lt.2
      have HLS := hd_ hls'
      have HU := hd_ hu
      clear hls' hu
      refine cu_ (l01Number_any _ _ (HS.out _)) fun g2 => ?_
      go_wp2_with fail
      refine cu_ (l01Number_any _ _ (HS.out _)) fun g3 => ?_
      go_wp2_with fail
      refine wpg (R := fun V3 => EAt V3 (up V2 (g2.tr g3)).heap.size 0 (eOf W) ∧ LS base V3 rb s l st sz ∧ UpOf w V3)
       ⟨⟨by simp, by simp [eOf], by simp [eOf], by simp [eOf]⟩, HLS.out.below bw_, HU.out.tr bw_⟩ (fun V3 z => ?_)
      clear q0 q1 q2 hb1 c0 c1 c2 hrb HLS HU
      generalize (up V2 (g2.tr g3)).heap.size = q at *
      obtain ⟨he, hls', hu⟩ := z
      obtain ⟨c0, c1, c2⟩ := hls'.cells
      have hrb := hls'.lt.2
      obtain ⟨hq, e0, e1, e2⟩ := id he
      have HE := hd_ he
      have HLS := hd_ hls'
      have HU := hd_ hu
      clear he hls' hu
      go_wp2_with ((with_reducible refine wru ?_); refine wrz fun _ => ?_)
      go_ret
      exact ⟨rfl, HU.out.tr bw_⟩
     cases h4 : vEntry (eOf W)
     ·clear hno
      go_wp2_with fail
      refine wpg (R := fun V => (V.cell? ⟨rb, 0, none⟩ = some (.string s) ∧ V.cell? ⟨rb, 1, none⟩ = some (i64 sz) ∧ V.cell? ⟨rb, 2, none⟩ = some (i64 st) ∧ rb < V.heap.size) ∧ LS base V rb s l st sz ∧ UpOf w V)
       ⟨⟨by simp [hrb, c0], by simp [hrb, c1], by simp [hrb, c2], (HLS.out.below (w' := _) bw_).lt.2⟩, HLS.out.below bw_, uw_⟩ (fun V z => ?_)
      clear c0 c1 c2 hrb HLS
      obtain ⟨⟨c0, c1, c2, hrb⟩, hls', hu⟩ := z
      have HLS := hd_ hls'
      have HU := hd_ hu
      clear hls' hu
      go_region_held3 (fun w' => (V).heap.size ≤ w'.heap.size ∧ ∀ b o, b < (V).heap.size → w'.cell? ⟨b, o, none⟩ = (V).cell? ⟨b, o, none⟩) (exact sm_of bw_) (first | (go_at_call 44; refine (CW.out _).mono ?_; rintro e w' ⟨A1, k1, rfl, o1, g1, rfl⟩))
      obtain ⟨b1, p1, rfl, hb1, q0, q1, q2⟩ := words4 (Rds.of_own o1) h1
      clear o1
      go_wp2_with fail
      refine cg (R := fun V2 => (b1 < V2.heap.size ∧ V2.cell? ⟨b1, p1, none⟩ = some (.string (wAt W 0)) ∧ V2.cell? ⟨b1, p1 + 1, none⟩ = some (.string (wAt W 1)) ∧ V2.cell? ⟨b1, p1 + 2, none⟩ = some (.string (wAt W 2))) ∧ LS base V2 rb s l st sz ∧ UpOf w V2)
       ⟨⟨hb1, q0, q1, q2⟩, HLS.out.below bw_, HU.out.tr bw_⟩ (fun V2 z => ?_)
      clear q0 q1 q2 hb1 c0 c1 c2 hrb HLS HU
      obtain ⟨⟨hb1, q0, q1, q2⟩, hls', hu⟩ := z
      obtain ⟨c0, c1, c2⟩ := hls'.cells
      have hrb := hls'.lt.2
      have HLS := hd_ hls'
      have HU := hd_ hu
      clear hls' hu
      refine cu_ (l01Number_any _ _ (HS.out _)) fun g2 => ?_
      go_wp2_with fail
      refine cu_ (l01Number_any _ _ (HS.out _)) fun g3 => ?_
      go_wp2_with fail
      refine wpg (R := fun V3 => EAt V3 (up V2 (g2.tr g3)).heap.size 0 (eOf W) ∧ LS base V3 rb s l st sz ∧ UpOf w V3)
       ⟨⟨by simp, by simp [eOf], by simp [eOf], by simp [eOf]⟩, HLS.out.below bw_, HU.out.tr bw_⟩ (fun V3 z => ?_)
      clear q0 q1 q2 hb1 c0 c1 c2 hrb HLS HU
      generalize (up V2 (g2.tr g3)).heap.size = q at *
      obtain ⟨he, hls', hu⟩ := z
      obtain ⟨c0, c1, c2⟩ := hls'.cells
      have hrb := hls'.lt.2
      obtain ⟨hq, e0, e1, e2⟩ := id he
      have HE := hd_ he
      have HLS := hd_ hls'
      have HU := hd_ hu
      clear he hls' hu
      go_wp2_with (first | ((with_reducible refine wru ?_); (repeat (go_big_quiet_step (first | (go_at_call 189; exact uq_ (ra_ (l27Ok_any (eOf W) _ _ _ (HE.out.below bw_) (HS.out 1)) h4))))); refine wqn fun nq => ?_))
      go_ret
      exact ⟨rfl, HU.out.tr bw_⟩
     by_cases h5 : dayL l ≤ (eOf W).day
     ·have hb := stampP_bd st (eOf W)
      have h5' : ¬ (eOf W).day < dayL l := Int.not_lt.2 h5
      have h6 : ¬ lineP (eOf W) (stampP st (eOf W)) = line := by
       intro he
       rw [takeB_0 h1 h2 h3 h4 h5 he] at hno
       cases hno
      have hne := tl_ne (fun he => h6 (app_inj he))
      have hwl := ewords_len h4
      clear hno h5 h6
      go_wp2_with fail
      refine wpg (R := fun V => (V.cell? ⟨rb, 0, none⟩ = some (.string s) ∧ V.cell? ⟨rb, 1, none⟩ = some (i64 sz) ∧ V.cell? ⟨rb, 2, none⟩ = some (i64 st) ∧ rb < V.heap.size) ∧ LS base V rb s l st sz ∧ UpOf w V)
       ⟨⟨by simp [hrb, c0], by simp [hrb, c1], by simp [hrb, c2], (HLS.out.below (w' := _) bw_).lt.2⟩, HLS.out.below bw_, uw_⟩ (fun V z => ?_)
      clear c0 c1 c2 hrb HLS
      obtain ⟨⟨c0, c1, c2, hrb⟩, hls', hu⟩ := z
      have HLS := hd_ hls'
      have HU := hd_ hu
      clear hls' hu
      go_region_held3 (fun w' => (V).heap.size ≤ w'.heap.size ∧ ∀ b o, b < (V).heap.size → w'.cell? ⟨b, o, none⟩ = (V).cell? ⟨b, o, none⟩) (exact sm_of bw_) (first | (go_at_call 44; refine (CW.out _).mono ?_; rintro e w' ⟨A1, k1, rfl, o1, g1, rfl⟩))
      obtain ⟨b1, p1, rfl, hb1, q0, q1, q2⟩ := words4 (Rds.of_own o1) h1
      clear o1
      go_wp2_with fail
      refine cg (R := fun V2 => (b1 < V2.heap.size ∧ V2.cell? ⟨b1, p1, none⟩ = some (.string (wAt W 0)) ∧ V2.cell? ⟨b1, p1 + 1, none⟩ = some (.string (wAt W 1)) ∧ V2.cell? ⟨b1, p1 + 2, none⟩ = some (.string (wAt W 2))) ∧ LS base V2 rb s l st sz ∧ UpOf w V2)
       ⟨⟨hb1, q0, q1, q2⟩, HLS.out.below bw_, HU.out.tr bw_⟩ (fun V2 z => ?_)
      clear q0 q1 q2 hb1 c0 c1 c2 hrb HLS HU
      obtain ⟨⟨hb1, q0, q1, q2⟩, hls', hu⟩ := z
      obtain ⟨c0, c1, c2⟩ := hls'.cells
      have hrb := hls'.lt.2
      have HLS := hd_ hls'
      have HU := hd_ hu
      clear hls' hu
      refine cu_ (l01Number_any _ _ (HS.out _)) fun g2 => ?_
      go_wp2_with fail
      refine cu_ (l01Number_any _ _ (HS.out _)) fun g3 => ?_
      go_wp2_with fail
      refine wpg (R := fun V3 => EAt V3 (up V2 (g2.tr g3)).heap.size 0 (eOf W) ∧ LS base V3 rb s l st sz ∧ UpOf w V3)
       ⟨⟨by simp, by simp [eOf], by simp [eOf], by simp [eOf]⟩, HLS.out.below bw_, HU.out.tr bw_⟩ (fun V3 z => ?_)
      clear q0 q1 q2 hb1 c0 c1 c2 hrb HLS HU
      generalize (up V2 (g2.tr g3)).heap.size = q at *
      obtain ⟨he, hls', hu⟩ := z
      obtain ⟨c0, c1, c2⟩ := hls'.cells
      have hrb := hls'.lt.2
      obtain ⟨hq, e0, e1, e2⟩ := id he
      have HE := hd_ he
      have HLS := hd_ hls'
      have HU := hd_ hu
      clear he hls' hu
      go_wp2_with (first | ((with_reducible refine wru ?_); (repeat (go_big_quiet_step (first | (go_at_call 189; exact uq_ (ra_ (l27Ok_any (eOf W) _ _ _ (HE.out.below bw_) (HS.out 1)) h4)) | (go_at_call 190; exact uq_ (dayS_any _ _ _ _ _ _ _ (HLS.out.below bw_) (by omega))) | (go_at_call 161; exact uq_ (l27Words_any (eOf W) h4 _ _ _ (HE.out.below bw_))) | (go_at_call 192; exact uq_ (l27Stamp_any _ hwl (eOf W) rfl _ (by omega) (by omega) _)) | (go_at_call 191; exact uq_ (l27Line_any (eOf W) h4 _ (by omega) (by omega) _ _ _ (HE.out.below bw_)))))); refine wqn fun nq => ?_))
      go_ret
      exact ⟨rfl, HU.out.tr bw_⟩
     ·have h5' : (eOf W).day < dayL l := by omega
      clear hno h5
      go_wp2_with fail
      refine wpg (R := fun V => (V.cell? ⟨rb, 0, none⟩ = some (.string s) ∧ V.cell? ⟨rb, 1, none⟩ = some (i64 sz) ∧ V.cell? ⟨rb, 2, none⟩ = some (i64 st) ∧ rb < V.heap.size) ∧ LS base V rb s l st sz ∧ UpOf w V)
       ⟨⟨by simp [hrb, c0], by simp [hrb, c1], by simp [hrb, c2], (HLS.out.below (w' := _) bw_).lt.2⟩, HLS.out.below bw_, uw_⟩ (fun V z => ?_)
      clear c0 c1 c2 hrb HLS
      obtain ⟨⟨c0, c1, c2, hrb⟩, hls', hu⟩ := z
      have HLS := hd_ hls'
      have HU := hd_ hu
      clear hls' hu
      go_region_held3 (fun w' => (V).heap.size ≤ w'.heap.size ∧ ∀ b o, b < (V).heap.size → w'.cell? ⟨b, o, none⟩ = (V).cell? ⟨b, o, none⟩) (exact sm_of bw_) (first | (go_at_call 44; refine (CW.out _).mono ?_; rintro e w' ⟨A1, k1, rfl, o1, g1, rfl⟩))
      obtain ⟨b1, p1, rfl, hb1, q0, q1, q2⟩ := words4 (Rds.of_own o1) h1
      clear o1
      go_wp2_with fail
      refine cg (R := fun V2 => (b1 < V2.heap.size ∧ V2.cell? ⟨b1, p1, none⟩ = some (.string (wAt W 0)) ∧ V2.cell? ⟨b1, p1 + 1, none⟩ = some (.string (wAt W 1)) ∧ V2.cell? ⟨b1, p1 + 2, none⟩ = some (.string (wAt W 2))) ∧ LS base V2 rb s l st sz ∧ UpOf w V2)
       ⟨⟨hb1, q0, q1, q2⟩, HLS.out.below bw_, HU.out.tr bw_⟩ (fun V2 z => ?_)
      clear q0 q1 q2 hb1 c0 c1 c2 hrb HLS HU
      obtain ⟨⟨hb1, q0, q1, q2⟩, hls', hu⟩ := z
      obtain ⟨c0, c1, c2⟩ := hls'.cells
      have hrb := hls'.lt.2
      have HLS := hd_ hls'
      have HU := hd_ hu
      clear hls' hu
      refine cu_ (l01Number_any _ _ (HS.out _)) fun g2 => ?_
      go_wp2_with fail
      refine cu_ (l01Number_any _ _ (HS.out _)) fun g3 => ?_
      go_wp2_with fail
      refine wpg (R := fun V3 => EAt V3 (up V2 (g2.tr g3)).heap.size 0 (eOf W) ∧ LS base V3 rb s l st sz ∧ UpOf w V3)
       ⟨⟨by simp, by simp [eOf], by simp [eOf], by simp [eOf]⟩, HLS.out.below bw_, HU.out.tr bw_⟩ (fun V3 z => ?_)
      clear q0 q1 q2 hb1 c0 c1 c2 hrb HLS HU
      generalize (up V2 (g2.tr g3)).heap.size = q at *
      obtain ⟨he, hls', hu⟩ := z
      obtain ⟨c0, c1, c2⟩ := hls'.cells
      have hrb := hls'.lt.2
      obtain ⟨hq, e0, e1, e2⟩ := id he
      have HE := hd_ he
      have HLS := hd_ hls'
      have HU := hd_ hu
      clear he hls' hu
      go_wp2_with (first | ((with_reducible refine wru ?_); (repeat (go_big_quiet_step (first | (go_at_call 189; exact uq_ (ra_ (l27Ok_any (eOf W) _ _ _ (HE.out.below bw_) (HS.out 1)) h4)) | (go_at_call 190; exact uq_ (dayS_any _ _ _ _ _ _ _ (HLS.out.below bw_) (by omega)))))); refine wqn fun nq => ?_))
      go_ret
      exact ⟨rfl, HU.out.tr bw_⟩
    ·have z : ((W.length : Int) != 4) = true := by rw [bne_iff_ne]; omega
     clear hno
     go_wp2_with fail
     refine wpg (R := fun V => (V.cell? ⟨rb, 0, none⟩ = some (.string s) ∧ V.cell? ⟨rb, 1, none⟩ = some (i64 sz) ∧ V.cell? ⟨rb, 2, none⟩ = some (i64 st) ∧ rb < V.heap.size) ∧ LS base V rb s l st sz ∧ UpOf w V)
      ⟨⟨by simp [hrb, c0], by simp [hrb, c1], by simp [hrb, c2], (HLS.out.below (w' := _) bw_).lt.2⟩, HLS.out.below bw_, uw_⟩ (fun V z => ?_)
     clear c0 c1 c2 hrb HLS
     obtain ⟨⟨c0, c1, c2, hrb⟩, hls', hu⟩ := z
     have HLS := hd_ hls'
     have HU := hd_ hu
     clear hls' hu
     go_region_held3 (fun w' => (V).heap.size ≤ w'.heap.size ∧ ∀ b o, b < (V).heap.size → w'.cell? ⟨b, o, none⟩ = (V).cell? ⟨b, o, none⟩) (exact sm_of bw_) (first | (go_at_call 44; refine (CW.out _).mono ?_; rintro e w' ⟨A1, k1, rfl, o1, g1, rfl⟩))
     go_wp2_with ((with_reducible refine wru ?_); refine wrz fun _ => ?_)
     go_ret
     exact ⟨rfl, HU.out.tr bw_⟩
   ·have qe : ((s[k].toNat : Int) != 10) = true := by rw [bne_iff_ne]; intro he; exact q (UInt8.toNat_inj.1 (by simp; omega))
    have hsp2 := hd_ (show cutA 10 ((L.drop sz).take (k + 1 - sz)) (L.drop (k + 1)) = (line, post, ok) by
     rw [← hsp.out, hdr.out, cutA, if_neg (by rw [← hbt.out]; exact q), cur_snoc hkl hk0])
    clear q hkl
    go_wp2_with ((with_reducible refine wru ?_); refine wrz fun _ => ?_)
    go_roundw
    case rel => exact ⟨k + 1, by omega, by omega, by go_num, hsp2, ex_up bw_⟩
    case measure => (simp [intOf]; try omega)
  ·obtain rfl : k = s.size := by omega
   have e0 : L.drop s.size = [] := List.drop_eq_nil_of_le (by rw [hLn.out]; exact Nat.le_refl _)
   have hokf : false = ok := by
    have := hsp.out
    rw [e0, cutA] at this
    exact congrArg (fun x => x.2.2) this
   clear e0
   subst hokf
   go_wp2_with ((with_reducible refine wru ?_); refine wrz fun _ => ?_)
   go_ret
   exact ⟨rfl, uw_⟩
end Go.Proofs.YtbianlkenallaaaGreatDoor

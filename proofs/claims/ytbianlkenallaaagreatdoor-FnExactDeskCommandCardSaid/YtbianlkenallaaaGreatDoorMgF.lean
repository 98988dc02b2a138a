/-
  Common parts, put together: AddEntry2, Vals, LogOfP, RoundP, LogsP, Vals2, Align4.
-/
import Derived.Test.YtbianlkenallaaaGreatDoorAddEntry
import Derived.Test.YtbianlkenallaaaGreatDoorMgE
import Derived.Test.YtbianlkenallaaaGreatDoorMgA
import Derived.Test.YtbianlkenallaaaGreatDoorAlign3
set_option linter.all false
set_option maxHeartbeats 2000000
set_option maxRecDepth 10000
namespace Go.Proofs.YtbianlkenallaaaGreatDoor
open Go.RowKit
def stL (s : ByteArray) : Int := (logR s).2.1
theorem stL_bd (s : ByteArray) : 0 ≤ stL s ∧ stL s < 65519 := (logR_inv s).2.2.1
def adR (s : ByteArray) (x : Entry) : ByteArray × Int :=
 if codeL s = 0 then (if vEntry x = true then (if x.day < dayL (entsL s) then (⟨#[]⟩, 6) else if (s ++ newLine (stL s) x).size ≤ 4000 then (s ++ newLine (stL s) x, 0) else (⟨#[]⟩, 5)) else (⟨#[]⟩, 7)) else (⟨#[]⟩, codeL s)
section
variable {s : ByteArray} {x : Entry}
theorem adR_1 (h : ¬ codeL s = 0) : adR s x = (⟨#[]⟩, codeL s) := by rw [adR, if_neg h]
theorem adR_7 (h : codeL s = 0) (h2 : vEntry x = false) : adR s x = (⟨#[]⟩, 7) := by rw [adR, if_pos h, if_neg (by rw [h2]; simp)]
theorem adR_6 (h : codeL s = 0) (h2 : vEntry x = true) (h3 : x.day < dayL (entsL s)) : adR s x = (⟨#[]⟩, 6) := by rw [adR, if_pos h, if_pos h2, if_pos h3]
theorem adR_5 (h : codeL s = 0) (h2 : vEntry x = true) (h3 : ¬ x.day < dayL (entsL s)) (h4 : ¬ (s ++ newLine (stL s) x).size ≤ 4000) : adR s x = (⟨#[]⟩, 5) := by rw [adR, if_pos h, if_pos h2, if_neg h3, if_neg h4]
theorem adR_0 (h : codeL s = 0) (h2 : vEntry x = true) (h3 : ¬ x.day < dayL (entsL s)) (h4 : (s ++ newLine (stL s) x).size ≤ 4000) : adR s x = (s ++ newLine (stL s) x, 0) := by rw [adR, if_pos h, if_pos h2, if_neg h3, if_pos h4]
end
theorem code_ne {s : ByteArray} (h : ¬ codeL s = 0) : ((codeL s) != 0) = true := by rw [bne_iff_ne]; exact h
theorem addEntryI_any (s : ByteArray) (x : Entry) (w : World) (hs : s.size ≤ 1048576) (hx : x.what.size ≤ 9223372036854775807) (ht : Tab w) :
 Calls Tryz.prog 85 #[.string s, env x] w fun e w' => e = .returned (.tuple #[.string (adR s x).1, i64 (adR s x).2]) ∧ UpOf w w' := by
 have HT := hd_ ht
 have hb := stL_bd s
 clear ht
 by_cases h1 : codeL s = 0
 ·have hl4 := entsL_len h1
  have hs4 := (codeL_inv h1).1
  cases h2 : vEntry x
  ·have hf := hd_ (adR_7 h1 h2)
   have z7 : (extR s (entsL s) (stL s) x) = (⟨#[]⟩, 7) := extR_7 h2
   go_enter Tryz.func85, Tryz.ntmps85
   go_wp2_with fail
   refine cg (R := fun V => EAt V w.heap.size 0 x ∧ UpOf w V) ⟨EAt.new, uw_⟩ (fun V0 z => ?_)
   obtain ⟨q, hqq⟩ := nm_ (w.heap.size)
   rw [hqq] at z ⊢
   clear hqq
   have HE := hd_ z.1
   have HU := hd_ z.2
   clear z
   refine (wholeI_ok s _ (HT.out.below HU.out.below) h1).mono ?_
   rintro e V ⟨rb, rfl, hl, hup⟩
   have HL := hd_ hl
   have HUV := hd_ hup
   obtain ⟨hq, y0, y1, y2⟩ := HE.out.below hup.below
   simp only [Nat.zero_add] at y1 y2
   have HU2 := hd_ (HU.out.tr hup.below)
   clear hl hup
   go_wp2_with (first | (go_at_call 138; refine cu_ (ext_no _ _ _ (entsL s) (stL s) s x _ (HL.out.below bw_) (by omega) hx (.inl h2)) fun g => ?_))
   go_ret2
   exact ⟨by rw [hf.out] <;> rfl, HU2.out.tr bw_⟩
  by_cases h3 : x.day < dayL (entsL s)
  ·have hf := hd_ (adR_6 h1 h2 h3)
   have z6 : (extR s (entsL s) (stL s) x) = (⟨#[]⟩, 6) := extR_6 h2 h3
   go_enter Tryz.func85, Tryz.ntmps85
   go_wp2_with fail
   refine cg (R := fun V => EAt V w.heap.size 0 x ∧ UpOf w V) ⟨EAt.new, uw_⟩ (fun V0 z => ?_)
   obtain ⟨q, hqq⟩ := nm_ (w.heap.size)
   rw [hqq] at z ⊢
   clear hqq
   have HE := hd_ z.1
   have HU := hd_ z.2
   clear z
   refine (wholeI_ok s _ (HT.out.below HU.out.below) h1).mono ?_
   rintro e V ⟨rb, rfl, hl, hup⟩
   have HL := hd_ hl
   have HUV := hd_ hup
   obtain ⟨hq, y0, y1, y2⟩ := HE.out.below hup.below
   simp only [Nat.zero_add] at y1 y2
   have HU2 := hd_ (HU.out.tr hup.below)
   clear hl hup
   go_wp2_with (first | (go_at_call 138; refine cu_ (ext_no _ _ _ (entsL s) (stL s) s x _ (HL.out.below bw_) (by omega) hx (.inr h3)) fun g => ?_))
   go_ret2
   exact ⟨by rw [hf.out] <;> rfl, HU2.out.tr bw_⟩
  have hn := newLine_len h2 (stL s)
  obtain ⟨T, hTT⟩ := nm_ (s ++ newLine (stL s) x)
  by_cases h4 : T.size ≤ 4000
  ·have hf := hd_ (adR_0 h1 h2 h3 (by rw [hTT]; exact h4))
   have HTT := hd_ hTT
   go_enter Tryz.func85, Tryz.ntmps85
   go_wp2_with fail
   refine cg (R := fun V => EAt V w.heap.size 0 x ∧ UpOf w V) ⟨EAt.new, uw_⟩ (fun V0 z => ?_)
   obtain ⟨q, hqq⟩ := nm_ (w.heap.size)
   rw [hqq] at z ⊢
   clear hqq
   have HE := hd_ z.1
   have HU := hd_ z.2
   clear z
   refine (wholeI_ok s _ (HT.out.below HU.out.below) h1).mono ?_
   rintro e V ⟨rb, rfl, hl, hup⟩
   have HL := hd_ hl
   have HUV := hd_ hup
   obtain ⟨hq, y0, y1, y2⟩ := HE.out.below hup.below
   simp only [Nat.zero_add] at y1 y2
   have HU2 := hd_ (HU.out.tr hup.below)
   clear hl hup
   go_wp2_with fail
   have cx := ext_ok _ _ _ (entsL s) (stL s) s x V HL.out (fun W' hW => HT.out.below (HU.out.below.trans ((HUV.out.below.trans hW).mono HU.out.below.size))) (by omega) (by omega) hb.1 hb.2 h2 (fun hlt => by omega)
   rw [HTT.out] at cx
   refine cx.mono ?_
   clear cx
   rintro e W ⟨rfl, hl2, hb2⟩
   have HW := hd_ (show UpOf w W from .of (HU.out.below.trans ((HUV.out.below.trans hb2).mono HU.out.below.size)))
   clear hl2 hb2
   go_wp2_with fail
   go_ret2
   exact ⟨by rw [hf.out, HTT.out] <;> rfl, HW.out.tr bw_⟩
  ·have hf := hd_ (adR_5 h1 h2 h3 (by rw [hTT]; exact h4))
   have HTT := hd_ hTT
   have h4' : 4000 < T.size := by omega
   go_enter Tryz.func85, Tryz.ntmps85
   go_wp2_with fail
   refine cg (R := fun V => EAt V w.heap.size 0 x ∧ UpOf w V) ⟨EAt.new, uw_⟩ (fun V0 z => ?_)
   obtain ⟨q, hqq⟩ := nm_ (w.heap.size)
   rw [hqq] at z ⊢
   clear hqq
   have HE := hd_ z.1
   have HU := hd_ z.2
   clear z
   refine (wholeI_ok s _ (HT.out.below HU.out.below) h1).mono ?_
   rintro e V ⟨rb, rfl, hl, hup⟩
   have HL := hd_ hl
   have HUV := hd_ hup
   obtain ⟨hq, y0, y1, y2⟩ := HE.out.below hup.below
   simp only [Nat.zero_add] at y1 y2
   have HU2 := hd_ (HU.out.tr hup.below)
   clear hl hup
   go_wp2_with fail
   have cx := ext_ok _ _ _ (entsL s) (stL s) s x V HL.out (fun W' hW => HT.out.below (HU.out.below.trans ((HUV.out.below.trans hW).mono HU.out.below.size))) (by omega) (by omega) hb.1 hb.2 h2 (fun hlt => by omega)
   rw [HTT.out] at cx
   refine cx.mono ?_
   clear cx
   rintro e W ⟨rfl, hl2, hb2⟩
   have HW := hd_ (show UpOf w W from .of (HU.out.below.trans ((HUV.out.below.trans hb2).mono HU.out.below.size)))
   clear hl2 hb2
   go_wp2_with fail
   go_ret2
   exact ⟨by rw [hf.out] <;> rfl, HW.out.tr bw_⟩
 ·have hf := hd_ (adR_1 (x := x) h1)
  have z := code_ne h1
  go_enter Tryz.func85, Tryz.ntmps85
  go_wp2_with fail
  refine cg (R := fun V => EAt V w.heap.size 0 x ∧ UpOf w V) ⟨EAt.new, uw_⟩ (fun V0 z => ?_)
  obtain ⟨q, hqq⟩ := nm_ (w.heap.size)
  rw [hqq] at z ⊢
  clear hqq
  have HE := hd_ z.1
  have HU := hd_ z.2
  clear z
  refine cu_ (wholeI_no s _ hs (HT.out.below HU.out.below) h1) fun g => ?_
  go_wp2_with fail
  go_ret2
  exact ⟨by rw [hf.out] <;> rfl, HU.out.tr bw_⟩
theorem addEntryS_any (s : ByteArray) (x : Entry) (w : World) (hs : s.size ≤ 1048576) (hx : x.what.size ≤ 9223372036854775807) :
 Calls Tryz.prog 155 #[.string s, env x] w fun e w' => e = .returned (.tuple #[.string (adR s x).1, i64 (adR s x).2]) ∧ UpOf w w' := by
 have hb := stL_bd s
 by_cases h1 : codeL s = 0
 ·have hl4 := entsL_len h1
  have hs4 := (codeL_inv h1).1
  cases h2 : vEntry x
  ·have hf := hd_ (adR_7 h1 h2)
   go_enter Tryz.func155, Tryz.ntmps155
   go_wp2_with fail
   refine cg (R := fun V => EAt V w.heap.size 0 x ∧ UpOf w V) ⟨EAt.new, uw_⟩ (fun V0 z => ?_)
   obtain ⟨q, hqq⟩ := nm_ (w.heap.size)
   rw [hqq] at z ⊢
   clear hqq
   have HE := hd_ z.1
   have HU := hd_ z.2
   clear z
   refine (codeS_ok s _ h1).mono ?_
   rintro e V ⟨rb, rfl, hl, hup⟩
   have HL := hd_ hl
   have HE2 := hd_ (HE.out.below hup.below)
   have cs := hl.cells
   obtain ⟨c0, c1, c2⟩ := cs
   have hrb := hl.lt.2
   obtain ⟨hq, y0, y1, y2⟩ := HE.out.below hup.below
   simp only [Nat.zero_add] at y1 y2
   have HU2 := hd_ (HU.out.tr hup.below)
   clear hl hup
   go_wp2_with (first | (go_at_call 189; refine cu_ (ra_ (l27Ok_any x _ _ _ (HE2.out.below bw_) hx) h2) fun g => ?_) | ((with_reducible refine wru ?_); refine wrz fun _ => ?_))
   go_ret2
   exact ⟨by rw [hf.out] <;> rfl, HU2.out.tr bw_⟩
  by_cases h3 : x.day < dayL (entsL s)
  ·have hf := hd_ (adR_6 h1 h2 h3)
   go_enter Tryz.func155, Tryz.ntmps155
   go_wp2_with fail
   refine cg (R := fun V => EAt V w.heap.size 0 x ∧ UpOf w V) ⟨EAt.new, uw_⟩ (fun V0 z => ?_)
   obtain ⟨q, hqq⟩ := nm_ (w.heap.size)
   rw [hqq] at z ⊢
   clear hqq
   have HE := hd_ z.1
   have HU := hd_ z.2
   clear z
   refine (codeS_ok s _ h1).mono ?_
   rintro e V ⟨rb, rfl, hl, hup⟩
   have HL := hd_ hl
   have HE2 := hd_ (HE.out.below hup.below)
   have cs := hl.cells
   obtain ⟨c0, c1, c2⟩ := cs
   have hrb := hl.lt.2
   obtain ⟨hq, y0, y1, y2⟩ := HE.out.below hup.below
   simp only [Nat.zero_add] at y1 y2
   have HU2 := hd_ (HU.out.tr hup.below)
   clear hl hup
   go_wp2_with (first | (go_at_call 189; refine cu_ (ra_ (l27Ok_any x _ _ _ (HE2.out.below bw_) hx) h2) fun g => ?_) | ((with_reducible refine wru ?_); (repeat (go_big_quiet_step (first | (go_at_call 190; exact uq_ (dayS_any _ _ _ _ _ _ _ (HL.out.below bw_) (by omega)))))); refine wqn fun nq => ?_))
   go_ret2
   exact ⟨by rw [hf.out] <;> rfl, HU2.out.tr bw_⟩
  have hn := newLine_len h2 (stL s)
  have hsb := stampP_bd (stL s) x
  have hwl := ewords_len h2
  obtain ⟨T, hTT⟩ := nm_ (s ++ newLine (stL s) x)
  have e1 : ∀ w, (Op.stringOp .add s (lineP x (stampP (stL s) x) ++ ⟨#[10]⟩)).run Tryz.prog w = .ok (.string T) w := fun w => by
   rw [← hTT]; exact run_string_add_sum w s (newLine (stL s) x) (by omega)
  by_cases h4 : T.size ≤ 4000
  ·have hf := hd_ (adR_0 h1 h2 h3 (by rw [hTT]; exact h4))
   have HTT := hd_ hTT
   clear hTT hn
   go_enter Tryz.func155, Tryz.ntmps155
   go_wp2_with fail
   refine cg (R := fun V => EAt V w.heap.size 0 x ∧ UpOf w V) ⟨EAt.new, uw_⟩ (fun V0 z => ?_)
   obtain ⟨q, hqq⟩ := nm_ (w.heap.size)
   rw [hqq] at z ⊢
   clear hqq
   have HE := hd_ z.1
   have HU := hd_ z.2
   clear z
   refine (codeS_ok s _ h1).mono ?_
   rintro e V ⟨rb, rfl, hl, hup⟩
   have HL := hd_ hl
   have HE2 := hd_ (HE.out.below hup.below)
   have cs := hl.cells
   obtain ⟨c0, c1, c2⟩ := cs
   have hrb := hl.lt.2
   obtain ⟨hq, y0, y1, y2⟩ := HE.out.below hup.below
   simp only [Nat.zero_add] at y1 y2
   have HU2 := hd_ (HU.out.tr hup.below)
   clear hl hup
   go_wp2_with (first | (go_at_call 189; refine cu_ (ra_ (l27Ok_any x _ _ _ (HE2.out.below bw_) hx) h2) fun g => ?_) | ((with_reducible refine wru ?_); (repeat (go_big_quiet_step (first | (go_at_call 190; exact uq_ (dayS_any _ _ _ _ _ _ _ (HL.out.below bw_) (by omega))) | (go_at_call 161; exact uq_ (l27Words_any x h2 _ _ _ (HE2.out.below bw_))) | (go_at_call 192; exact uq_ (l27Stamp_any _ hwl x rfl _ hb.1 hb.2 _)) | (go_at_call 191; exact uq_ (l27Line_any x h2 _ hsb.1 hsb.2 _ _ _ (HE2.out.below bw_)))))); refine wqn fun nq => ?_))
   go_ret2
   exact ⟨by rw [hf.out, HTT.out] <;> rfl, HU2.out.tr bw_⟩
  ·have hf := hd_ (adR_5 h1 h2 h3 (by rw [hTT]; exact h4))
   have h4' : 4000 < T.size := by omega
   clear hTT hn
   go_enter Tryz.func155, Tryz.ntmps155
   go_wp2_with fail
   refine cg (R := fun V => EAt V w.heap.size 0 x ∧ UpOf w V) ⟨EAt.new, uw_⟩ (fun V0 z => ?_)
   obtain ⟨q, hqq⟩ := nm_ (w.heap.size)
   rw [hqq] at z ⊢
   clear hqq
   have HE := hd_ z.1
   have HU := hd_ z.2
   clear z
   refine (codeS_ok s _ h1).mono ?_
   rintro e V ⟨rb, rfl, hl, hup⟩
   have HL := hd_ hl
   have HE2 := hd_ (HE.out.below hup.below)
   have cs := hl.cells
   obtain ⟨c0, c1, c2⟩ := cs
   have hrb := hl.lt.2
   obtain ⟨hq, y0, y1, y2⟩ := HE.out.below hup.below
   simp only [Nat.zero_add] at y1 y2
   have HU2 := hd_ (HU.out.tr hup.below)
   clear hl hup
   go_wp2_with (first | (go_at_call 189; refine cu_ (ra_ (l27Ok_any x _ _ _ (HE2.out.below bw_) hx) h2) fun g => ?_) | ((with_reducible refine wru ?_); (repeat (go_big_quiet_step (first | (go_at_call 190; exact uq_ (dayS_any _ _ _ _ _ _ _ (HL.out.below bw_) (by omega))) | (go_at_call 161; exact uq_ (l27Words_any x h2 _ _ _ (HE2.out.below bw_))) | (go_at_call 192; exact uq_ (l27Stamp_any _ hwl x rfl _ hb.1 hb.2 _)) | (go_at_call 191; exact uq_ (l27Line_any x h2 _ hsb.1 hsb.2 _ _ _ (HE2.out.below bw_)))))); refine wqn fun nq => ?_))
   go_ret2
   exact ⟨by rw [hf.out] <;> rfl, HU2.out.tr bw_⟩
 ·have hf := hd_ (adR_1 (x := x) h1)
  have z := code_ne h1
  go_enter Tryz.func155, Tryz.ntmps155
  go_wp2_with fail
  refine cg (R := fun V => EAt V w.heap.size 0 x ∧ UpOf w V) ⟨EAt.new, uw_⟩ (fun V0 z => ?_)
  obtain ⟨q, hqq⟩ := nm_ (w.heap.size)
  rw [hqq] at z ⊢
  clear hqq
  have HE := hd_ z.1
  have HU := hd_ z.2
  clear z
  refine (codeS_no s _ hs h1).mono ?_
  rintro e V ⟨p, rfl, hup⟩
  have HU2 := hd_ (HU.out.tr hup.below)
  clear hup
  go_wp2_with ((with_reducible refine wru ?_); refine wrz fun _ => ?_)
  go_ret2
  exact ⟨by rw [hf.out] <;> rfl, HU2.out.tr bw_⟩
theorem el_int : ElemOf Tryz.prog 28 2 (i64 0) 1 8 := elem_of Tryz.underlying28 (by kernel_rfl) rfl (by omega)
theorem ics_app (l : List Int) (x : Int) : ics (l ++ [x]) = ics l ++ [i64 x] := by simp [ics]
theorem ents_take {l : List Entry} {k : Nat} (h : k < l.length) : l.take (k + 1) = l.take k ++ [l[k]] := by
 rw [List.take_add_one, List.getElem?_eq_getElem h]; rfl
def enR (s : ByteArray) : List Entry × Int := if codeL s = 0 then (entsL s, 0) else ([], codeL s)
theorem enR_no {s : ByteArray} (h : ¬ codeL s = 0) : enR s = ([], codeL s) := by rw [enR, if_neg h]
theorem enR_ok {s : ByteArray} (h : codeL s = 0) : enR s = (entsL s, 0) := by rw [enR, if_pos h]
theorem LI.list {base rb sz : Nat} {w : World} {l : List Entry} {st : Int} (h : LI base w rb l st sz) : ∃ A c, w.cell? ⟨rb, 0, none⟩ = some (.slice A l.length c) ∧ rb < w.heap.size ∧ w.ownsRow base 127 3 (.slice A l.length c) l.length (encs l) := by
 obtain ⟨A, c, h1, h2, h3, h4⟩ := h
 exact ⟨A, c, h1.cell 0, h1.lt, h3⟩
theorem LS.list {base rb sz : Nat} {w : World} {s : ByteArray} {l : List Entry} {st : Int} (h : LS base w rb s l st sz) : ∃ A c, w.cell? ⟨rb, 3, none⟩ = some (.slice A l.length c) ∧ rb < w.heap.size ∧ w.ownsRow base 127 3 (.slice A l.length c) l.length (encs l) := by
 obtain ⟨A, c, h1, h2, h3, h4⟩ := h
 exact ⟨A, c, h1.cell 3, h1.lt, h3⟩
theorem entriesOfI_any (s : ByteArray) (w : World) (hs : s.size ≤ 1048576) (ht : Tab w) :
 Calls Tryz.prog 68 #[.string s] w fun e w' => ∃ A' c', e = .returned (.tuple #[.slice A' (enR s).1.length c', i64 (enR s).2]) ∧ w'.ownsRow w.heap.size 127 3 (.slice A' (enR s).1.length c') (enR s).1.length (encs (enR s).1) ∧ UpOf w w' := by
 have HT := hd_ ht
 clear ht
 by_cases h1 : codeL s = 0
 ·have hf := hd_ (enR_ok h1)
  go_enter Tryz.func68, Tryz.ntmps68
  go_wp2_with fail
  refine (wholeI_ok s _ (HT.out.below bw_) h1).mono ?_
  rintro e w' ⟨rb, rfl, hl, g, rfl⟩
  obtain ⟨A, c, hc, hrb, hown⟩ := hl.list
  have HO := hd_ hown
  clear hl hown
  go_wp2_with fail
  go_ret2
  rw [hf.out]
  exact ⟨A, c, rfl, ob_ HO.out bw_, uw_⟩
 ·have hf := hd_ (enR_no h1)
  have z := code_ne h1
  go_enter Tryz.func68, Tryz.ntmps68
  go_wp2_with (first | (go_at_call 120; refine cu_ (wholeI_no s _ hs (HT.out.below bw_) h1) fun g => ?_))
  go_ret2
  rw [hf.out]
  exact ⟨none, 0, rfl, ⟨rfl, .inl ⟨rfl, rfl⟩⟩, uw_⟩
def vals (what : ByteArray) : List Entry → List Int
 | [] => []
 | x :: l => if x.what = what then x.value :: vals what l else vals what l
theorem vals_app (what : ByteArray) : ∀ (a b : List Entry), vals what (a ++ b) = vals what a ++ vals what b
 | [], b => rfl
 | x :: a, b => by
   rw [List.cons_append, vals, vals, vals_app what a b]
   split <;> rfl
theorem vals_yes {what : ByteArray} {l : List Entry} {k : Nat} (h : k < l.length) (q : l[k].what = what) : vals what (l.take (k + 1)) = vals what (l.take k) ++ [l[k].value] := by
 rw [ents_take h, vals_app, vals, if_pos q]; rfl
theorem vals_not {what : ByteArray} {l : List Entry} {k : Nat} (h : k < l.length) (q : ¬ l[k].what = what) : vals what (l.take (k + 1)) = vals what (l.take k) := by
 rw [ents_take h, vals_app, vals, if_neg q]; simp [vals]
theorem vals_len (what : ByteArray) : ∀ l : List Entry, (vals what l).length ≤ l.length
 | [] => Nat.le_refl _
 | x :: l => by
   rw [vals]
   have := vals_len what l
   split <;> simp <;> omega
def vaR (s what : ByteArray) : List Int × Int := if codeL s = 0 then (if nameB what = true then (vals what (entsL s), 0) else ([], 2)) else ([], codeL s)
theorem vaR_1 {s what : ByteArray} (h : ¬ codeL s = 0) : vaR s what = ([], codeL s) := by rw [vaR, if_neg h]
theorem vaR_2 {s what : ByteArray} (h : codeL s = 0) (h2 : nameB what = false) : vaR s what = ([], 2) := by rw [vaR, if_pos h, if_neg (by rw [h2]; simp)]
theorem vaR_0 {s what : ByteArray} (h : codeL s = 0) (h2 : nameB what = true) : vaR s what = (vals what (entsL s), 0) := by rw [vaR, if_pos h, if_pos h2]
theorem lineP_no {x : Entry} (h : vEntry x = true) {st : Int} (h0 : 0 ≤ st) (h1 : st < 65519) : ∀ c ∈ (lineP x st).data.toList, c ≠ 10 := by
 obtain ⟨a, b, c, d, e⟩ := vEntry_inv h
 have n1 := (dec_no (n := x.day) (by omega) (by omega)).2.1
 have n2 := (name_no c).2.1
 have n3 := (dec_no (n := x.value) (by omega) (by omega)).2.1
 have n4 := (dec_no (n := st) (by omega) (by omega)).2.1
 intro y hy
 rw [lineP_list, List.mem_append, List.mem_cons, List.mem_append, List.mem_cons, List.mem_append, List.mem_cons] at hy
 rcases hy with hy | rfl | hy | rfl | hy | rfl | hy
 ·exact n1 y hy
 ·decide
 ·exact n2 y hy
 ·decide
 ·exact n3 y hy
 ·decide
 ·exact n4 y hy
theorem take_line {x : Entry} (h : vEntry x = true) {d0 st : Int} (hd : d0 ≤ x.day) : takeOf d0 st (lineP x (stampP st x)) (wordsA [] (lineP x (stampP st x)).data.toList) = some (x, stampP st x) := by
 obtain ⟨a, b, c, d, e⟩ := vEntry_inv h
 have hb := stampP_bd st x
 have hw := (four_words h hb.1 hb.2).2
 have r1 := rdR_dec (n := x.day) (by omega) (by omega)
 have r3 := rdR_dec (n := x.value) (by omega) (by omega)
 have he : eOf (wordsA [] (lineP x (stampP st x)).data.toList) = x := by
  rw [hw]
  show (⟨(rdR (dec x.day)).1, x.what, (rdR (dec x.value)).1⟩ : Entry) = x
  rw [r1, r3]
 have ht : takeB d0 st (lineP x (stampP st x)) (wordsA [] (lineP x (stampP st x)).data.toList) = true := by
  refine takeB_0 (by rw [hw]; rfl) ?_ ?_ (by rw [he]; exact h) (by rw [he]; exact hd) (by rw [he])
  ·rw [hw]; show (rdR (dec x.day)).2 = true; rw [r1]
  ·rw [hw]; show (rdR (dec x.value)).2 = true; rw [r3]
 rw [takeOf_some ht, he]
theorem cut_split {rest : List UInt8} (h : (cutA 10 [] rest).2.2 = true) : rest = (cutA 10 [] rest).1.data.toList ++ 10 :: (cutA 10 [] rest).2.1.data.toList ∧ ∀ c ∈ (cutA 10 [] rest).1.data.toList, c ≠ 10 :=
 ⟨(by have := cutA_join 10 rest [] h; rw [List.nil_append] at this; exact this.symm), cutA_free 10 rest [] (fun c hc => by cases hc)⟩
theorem cut_app {a b : List UInt8} (h : (cutA 10 [] a).2.2 = true) : cutA 10 [] (a ++ b) = ((cutA 10 [] a).1, bs ((cutA 10 [] a).2.1.data.toList ++ b), true) := by
 obtain ⟨e, hf⟩ := cut_split h
 generalize cutA 10 [] a = C at *
 obtain ⟨p, q, r⟩ := C
 rw [e, List.append_assoc, List.cons_append, cutA_part _ _ hf, bs_of]
theorem rds_new2 {V : World} {g : Up V} {o : Obj} {cs : Array Value} {t : TypeId} (sz m : Nat) (h : cs.size = m * sz) : Rds (up V ((g.al o).al (.cells cs t))) sz (some ⟨(up V g).heap.size + 1, 0, none⟩) m cs.toList := by
 have := rds_new (up V (g.al o)) cs t sz m h
 rw [size_al] at this
 exact this
section
variable (s what : ByteArray) (w : World)
theorem valuesOfI_any (hs : s.size ≤ 1048576) (hs2 : what.size ≤ 9223372036854775807) (ht : Tab w) :
 Calls Tryz.prog 86 #[.string s, .string what] w fun e w' => ∃ A' c', e = .returned (.tuple #[.slice A' (vaR s what).1.length c', i64 (vaR s what).2]) ∧ w'.ownsRow w.heap.size 2 1 (.slice A' (vaR s what).1.length c') (vaR s what).1.length (ics (vaR s what).1) ∧ UpOf w w' := by
 have HT := hd_ ht
 clear ht
 by_cases h1 : codeL s = 0
 ·cases h2 : nameB what
  ·have hf := hd_ (vaR_2 h1 h2)
   go_enter Tryz.func86, Tryz.ntmps86
   go_wp2_with fail
   refine (wholeI_ok s _ (HT.out.below bw_) h1).mono ?_
   rintro e V ⟨rb, rfl, hl, hup⟩
   obtain ⟨A, c, hc, hrb, hown⟩ := hl.list
   have HO := hd_ (Rds.of_own hown)
   have HU := hd_ hup
   clear hl hown hup
   go_wp2_with (first | (go_at_call 139; refine cs_ (ra_ (isNameI_any _ _ hs2) h2) ?_))
   go_ret2
   rw [hf.out]
   exact ⟨none, 0, rfl, ⟨rfl, .inl ⟨rfl, rfl⟩⟩, HU.out.tr bw_⟩
  ·have hf := hd_ (vaR_0 h1 h2)
   go_enter Tryz.func86, Tryz.ntmps86
   go_wp2_with fail
   refine (wholeI_ok s _ (HT.out.below bw_) h1).mono ?_
   rintro e V ⟨rb, rfl, hl, hup⟩
   obtain ⟨A, c, hc, hrb, hown⟩ := hl.list
   have HO := hd_ (Rds.of_own hown)
   have HU := hd_ hup
   clear hl hown hup
   go_wp2_with (first | (go_at_call 139; refine cs_ (ra_ (isNameI_any _ _ hs2) h2) ?_))
   have hl4 := entsL_len h1
   generalize entsL s = l at *
   have hOwn := hd_ (World.ownsRow_lit (base := V.heap.size) (e := 2) (size := 1) V #[] 0 (Nat.le_refl _) (by unfold maxLen; omega) rfl)
   go_loopw [8, 28] (fun o i wr => ∃ (k : Nat) (A' : Option Addr) (c' : Nat), k ≤ l.length ∧ i = i64 k ∧ o = .slice A' (vals what (l.take k)).length c' ∧ wr.ownsRow V.heap.size 2 1 (.slice A' (vals what (l.take k)).length c') (vals what (l.take k)).length (ics (vals what (l.take k))) ∧ ∃ g : Up V, wr = up V g) (fun _ i _ => l.length - (intOf i).toNat)
   case atStart => exact ⟨0, _, _, by omega, rfl, rfl, hOwn.out, ex_up bw_⟩
   case round =>
    obtain ⟨k, A', c', hk, rfl, rfl, hown, g, rfl⟩ := hrel
    have hvl := Nat.le_trans (vals_len what (l.take k)) (by rw [List.length_take]; exact Nat.min_le_left _ _)
    by_cases hlt : k < l.length
    ·obtain ⟨b, off, rfl, hb, x0, x1, x2⟩ := en_at HO.out hlt
     by_cases q : l[k].what = what
     ·have qe := tl_teq q
      have hN := hd_ (vals_yes hlt q)
      clear q
      go_wp2_with (first | (at_builtin; go_must (refine wpl_appU rfl _ _ 28 rfl V V.heap.size 2 _ 1 8 el_int _ _ _ rfl (ob_ hown bw_) _ 1 1 [i64 l[k].value] rfl (rds_new2 1 1 rfl) (fun u hu => by simp at hu; subst hu; rfl) (by unfold maxLen; omega) (by omega) (ub_ V _).size bw_ (Nat.le_refl _) ?_; intro A2 c2 g2 o2)))
      go_roundw
      case rel => exact ⟨k + 1, A2, c2, by omega, by go_num, by rw [hN.out, List.length_append]; rfl, by rw [hN.out, List.length_append, ics_app]; exact o2, _, rfl⟩
      case measure => (simp [intOf]; try omega)
     ·have qe := tl_tne q
      have hN := hd_ (vals_not hlt q)
      clear q
      go_wp2_with fail
      go_roundw
      case rel => exact ⟨k + 1, A', c', by omega, by go_num, by rw [hN.out], by rw [hN.out]; exact ob_ hown bw_, ex_up bw_⟩
      case measure => (simp [intOf]; try omega)
    ·obtain rfl : k = l.length := by omega
     rw [List.take_of_length_le (Nat.le_refl _)] at hown
     go_wp2_with fail
     go_ret2
     rw [hf.out]
     exact ⟨A', c', rfl, om_ (ob_ hown bw_) HU.out.below.size, HU.out.tr bw_⟩
 ·have hf := hd_ (vaR_1 (what := what) h1)
  have z := code_ne h1
  go_enter Tryz.func86, Tryz.ntmps86
  go_wp2_with (first | (go_at_call 120; refine cu_ (wholeI_no s _ hs (HT.out.below bw_) h1) fun g => ?_))
  go_ret2
  rw [hf.out]
  exact ⟨none, 0, rfl, ⟨rfl, .inl ⟨rfl, rfl⟩⟩, uw_⟩
def whC (s what : ByteArray) : Int := if codeL s = 0 then (if nameB what = true then 0 else 2) else codeL s
theorem whC_1 {s what : ByteArray} (h : ¬ codeL s = 0) : whC s what = codeL s := by rw [whC, if_neg h]
theorem whC_2 {s what : ByteArray} (h : codeL s = 0) (h2 : nameB what = false) : whC s what = 2 := by rw [whC, if_pos h, if_neg (by rw [h2]; simp)]
theorem whatS_no (hs : s.size ≤ 1048576) (hs2 : what.size ≤ 9223372036854775807) (h : ¬ codeL s = 0 ∨ nameB what = false) :
 Calls Tryz.prog 193 #[.string s, .string what] w fun e w' => ∃ p, e = .returned (.tuple #[.pointer p, i64 (whC s what)]) ∧ UpOf w w' := by
 by_cases h1 : codeL s = 0
 ·have h2 : nameB what = false := h.resolve_left (fun hn => hn h1)
  have hf := hd_ (whC_2 h1 h2)
  clear h
  go_enter Tryz.func193, Tryz.ntmps193
  go_wp2_with fail
  refine (codeS_ok s _ h1).mono ?_
  rintro e V ⟨rb, rfl, hl, hup⟩
  have HU := hd_ hup
  clear hup hl
  go_wp2_with (first | (go_at_call 177; refine cs_ (ra_ (isNameS_any _ _ hs2) h2) ?_))
  go_ret2
  exact ⟨_, by rw [hf.out] <;> rfl, HU.out.tr bw_⟩
 ·have hf := hd_ (whC_1 (what := what) h1)
  have z : ((codeL s) == 0) = false := by rw [beq_eq_false_iff_ne]; exact h1
  clear h
  go_enter Tryz.func193, Tryz.ntmps193
  go_wp2_with fail
  refine (codeS_no s _ hs h1).mono ?_
  rintro e V ⟨p, rfl, hup⟩
  have HU := hd_ hup
  clear hup
  go_wp2_with fail
  go_ret2
  exact ⟨_, by rw [hf.out] <;> rfl, HU.out.tr bw_⟩
theorem whatS_ok (hs2 : what.size ≤ 9223372036854775807) (h1 : codeL s = 0) (h2 : nameB what = true) :
 Calls Tryz.prog 193 #[.string s, .string what] w fun e w' => ∃ rb, e = .returned (.tuple #[.pointer (some ⟨rb, 0, none⟩), i64 0]) ∧ LS w.heap.size w' rb s (entsL s) (logR s).2.1 s.size ∧ UpOf w w' := by
 go_enter Tryz.func193, Tryz.ntmps193
 go_wp2_with fail
 refine (codeS_ok s _ h1).mono ?_
 rintro e V ⟨rb, rfl, hl, hup⟩
 have HU := hd_ hup
 have HL := hd_ hl
 clear hup hl
 go_wp2_with (first | (go_at_call 177; refine cs_ (ra_ (isNameS_any _ _ hs2) h2) ?_))
 go_ret2
 exact ⟨rb, rfl, HL.out.below bw_, HU.out.tr bw_⟩
theorem valuesOfS_any (hs : s.size ≤ 1048576) (hs2 : what.size ≤ 9223372036854775807) :
 Calls Tryz.prog 156 #[.string s, .string what] w fun e w' => ∃ A' c', e = .returned (.tuple #[.slice A' (vaR s what).1.length c', i64 (vaR s what).2]) ∧ w'.ownsRow w.heap.size 2 1 (.slice A' (vaR s what).1.length c') (vaR s what).1.length (ics (vaR s what).1) ∧ UpOf w w' := by
 by_cases h : codeL s = 0 ∧ nameB what = true
 ·obtain ⟨h1, h2⟩ := h
  have hf := hd_ (vaR_0 h1 h2)
  go_enter Tryz.func156, Tryz.ntmps156
  go_wp2_with fail
  refine (whatS_ok s what _ hs2 h1 h2).mono ?_
  rintro e V ⟨rb, rfl, hl, hup⟩
  obtain ⟨A, c, hc, hrb, hown⟩ := hl.list
  have HO := hd_ (Rds.of_own hown)
  have HU := hd_ hup
  clear hl hown hup
  go_wp2_with fail
  have hl4 := entsL_len h1
  generalize entsL s = l at *
  have hOwn := hd_ (World.ownsRow_lit (base := V.heap.size) (e := 2) (size := 1) V #[] 0 (Nat.le_refl _) (by unfold maxLen; omega) rfl)
  go_loopw [8, 9] (fun o i wr => ∃ (k : Nat) (A' : Option Addr) (c' : Nat), k ≤ l.length ∧ i = i64 k ∧ o = .slice A' (vals what (l.take k)).length c' ∧ wr.ownsRow V.heap.size 2 1 (.slice A' (vals what (l.take k)).length c') (vals what (l.take k)).length (ics (vals what (l.take k))) ∧ ∃ g : Up V, wr = up V g) (fun _ i _ => l.length - (intOf i).toNat)
  case atStart => exact ⟨0, _, _, by omega, rfl, rfl, hOwn.out, ex_up bw_⟩
  case round =>
   obtain ⟨k, A', c', hk, rfl, rfl, hown, g, rfl⟩ := hrel
   have hvl := Nat.le_trans (vals_len what (l.take k)) (by rw [List.length_take]; exact Nat.min_le_left _ _)
   by_cases hlt : k < l.length
   ·obtain ⟨b, off, rfl, hb, x0, x1, x2⟩ := en_at HO.out hlt
    by_cases q : l[k].what = what
    ·have qe := tl_teq q
     have hN := hd_ (vals_yes hlt q)
     clear q
     go_wp2_with (first | (at_builtin; go_must (refine wpl_appU rfl _ _ 28 rfl V V.heap.size 2 _ 1 8 el_int _ _ _ rfl (ob_ hown bw_) _ 1 1 [i64 l[k].value] rfl (rds_new _ _ _ 1 1 rfl) (fun u hu => by simp at hu; subst hu; rfl) (by unfold maxLen; omega) (by omega) (ub_ V _).size bw_ (Nat.le_refl _) ?_; intro A2 c2 g2 o2)))
     go_roundw
     case rel => exact ⟨k + 1, A2, c2, by omega, by go_num, by rw [hN.out, List.length_append]; rfl, by rw [hN.out, List.length_append, ics_app]; exact o2, _, rfl⟩
     case measure => (simp [intOf]; try omega)
    ·have qe := tl_tne q
     have hN := hd_ (vals_not hlt q)
     clear q
     go_wp2_with fail
     go_roundw
     case rel => exact ⟨k + 1, A', c', by omega, by go_num, by rw [hN.out], by rw [hN.out]; exact ob_ hown bw_, ex_up bw_⟩
     case measure => (simp [intOf]; try omega)
   ·obtain rfl : k = l.length := by omega
    rw [List.take_of_length_le (Nat.le_refl _)] at hown
    go_wp2_with fail
    go_ret2
    rw [hf.out]
    exact ⟨A', c', rfl, om_ (ob_ hown bw_) HU.out.below.size, HU.out.tr bw_⟩
 ·have hf := hd_ (show vaR s what = ([], whC s what) by
   by_cases h1 : codeL s = 0
   ·have h2 : nameB what = false := by rw [← Bool.not_eq_true]; exact fun h2 => h ⟨h1, h2⟩
    rw [vaR_2 h1 h2, whC_2 h1 h2]
   ·rw [vaR_1 h1, whC_1 h1])
  have z : ((whC s what) != 0) = true := by
   rw [bne_iff_ne]
   by_cases h1 : codeL s = 0
   ·rw [whC_2 h1 (by rw [← Bool.not_eq_true]; exact fun h2 => h ⟨h1, h2⟩)]; decide
   ·rw [whC_1 h1]; exact h1
  have h' : ¬ codeL s = 0 ∨ nameB what = false := by
   by_cases h1 : codeL s = 0
   ·exact .inr (by rw [← Bool.not_eq_true]; exact fun h2 => h ⟨h1, h2⟩)
   ·exact .inl h1
  clear h
  go_enter Tryz.func156, Tryz.ntmps156
  go_wp2_with fail
  refine (whatS_no s what _ hs hs2 h').mono ?_
  rintro e V ⟨p, rfl, hup⟩
  have HU := hd_ hup
  clear hup
  go_wp2_with fail
  go_ret2
  rw [hf.out]
  exact ⟨none, 0, rfl, ⟨rfl, .inl ⟨rfl, rfl⟩⟩, HU.out.tr bw_⟩
end
theorem typed_len {s : ByteArray} (h : typed s = true) : s.size ≤ 60 := (txtB_inv h).1
theorem alignTexts_any (a b : ByteArray) (w : World) (ha : a.size ≤ 9223372036854775807) (hb : b.size ≤ 9223372036854775807) :
 Calls Tryz.prog 34 #[.string a, .string b] w fun e w' => e = .returned (.tuple #[.string (alnR a b).1, i64 (alnR a b).2]) ∧ UpOf w w' := by
 cases h1 : typed a with
 | false =>
   have hr := hd_ (show alnR a b = (⟨#[]⟩, 2) by unfold alnR; rw [h1]; rfl)
   go_enter Tryz.func34, Tryz.ntmps34
   go_wp2_with (first | (go_at_call 81; refine cs_ (ra_ (isTyped_any a _ ha) h1) ?_))
   go_ret2
   rw [hr.out]
   exact ⟨rfl, uw_⟩
 | true =>
   cases h2 : typed b with
   | false =>
     have hr := hd_ (show alnR a b = (⟨#[]⟩, 2) by unfold alnR; rw [h1, h2]; rfl)
     go_enter Tryz.func34, Tryz.ntmps34
     go_wp2_with fail
     refine cs_ (ra_ (isTyped_any a _ ha) h1) ?_
     go_wp2_with fail
     refine cs_ (ra_ (isTyped_any b _ hb) h2) ?_
     go_wp2_with fail
     go_ret2
     rw [hr.out]
     exact ⟨rfl, uw_⟩
   | true =>
     have hr := hd_ (show alnR a b = (bs (alnA a b 0 0), 0) by unfold alnR; rw [h1, h2]; rfl)
     go_enter Tryz.func34, Tryz.ntmps34
     go_wp2_with fail
     refine cs_ (ra_ (isTyped_any a _ ha) h1) ?_
     go_wp2_with fail
     refine cs_ (ra_ (isTyped_any b _ hb) h2) ?_
     go_wp2_with fail
     refine cu_ (alignment_any a b _ (typed_len h1) (typed_len h2)) fun g => ?_
     go_wp2_with fail
     go_ret2
     rw [hr.out]
     exact ⟨rfl, uw_⟩
theorem pow5 {f : Nat} (h : f < 5) : 2 ^ (5 - (f + 1)) * 2 = 2 ^ (5 - f) := by
 rw [← Nat.pow_succ]; congr 1; omega
theorem pow5_le (f : Nat) : 2 ^ (5 - f) ≤ 32 := Nat.pow_le_pow_right (n := 2) (by omega) (show 5 - f ≤ 5 by omega)
theorem markOf_any (a b : ByteArray) (w : World) (ha : a.size ≤ 9223372036854775807) (hb : b.size ≤ 9223372036854775807) :
 Calls Tryz.prog 36 #[.string a, .string b] w fun e w' => e = .returned (.tuple #[i64 (mrkR a b).1, i64 (mrkR a b).2]) ∧ UpOf w w' := by
 cases h1 : typed a with
 | false =>
   have hr := hd_ (show mrkR a b = (0, 2) by unfold mrkR; rw [h1]; rfl)
   go_enter Tryz.func36, Tryz.ntmps36
   go_wp2_with (first | (go_at_call 81; refine cs_ (ra_ (isTyped_any a _ ha) h1) ?_))
   go_ret2
   rw [hr.out]
   exact ⟨rfl, uw_⟩
 | true =>
   cases h2 : typed b with
   | false =>
     have hr := hd_ (show mrkR a b = (0, 2) by unfold mrkR; rw [h1, h2]; rfl)
     go_enter Tryz.func36, Tryz.ntmps36
     go_wp2_with fail
     refine cs_ (ra_ (isTyped_any a _ ha) h1) ?_
     go_wp2_with fail
     refine cs_ (ra_ (isTyped_any b _ hb) h2) ?_
     go_wp2_with fail
     go_ret2
     rw [hr.out]
     exact ⟨rfl, uw_⟩
   | true =>
     by_cases h0 : a.size = 0
     ·have hz := isEmpty_yes h0
      have hr := hd_ (show mrkR a b = (0, 3) by unfold mrkR; rw [h1, h2, if_pos (show (true && true) = true from rfl), if_pos h0])
      clear h0
      go_enter Tryz.func36, Tryz.ntmps36
      go_wp2_with fail
      refine cs_ (ra_ (isTyped_any a _ ha) h1) ?_
      go_wp2_with fail
      refine cs_ (ra_ (isTyped_any b _ hb) h2) ?_
      go_wp2_with fail
      go_ret2
      rw [hr.out]
      exact ⟨rfl, uw_⟩
     ·have hz := isEmpty_no (s := a) (by omega)
      have hr := hd_ (show mrkR a b = (markL (cst a b 0 0) a.size 5 1 1, 0) by unfold mrkR; rw [h1, h2, if_pos (show (true && true) = true from rfl), if_neg h0]; rfl)
      obtain ⟨n, hn⟩ := nm_ (a.size)
      have HN := hd_ hn
      have hn60 : n ≤ 60 := by rw [← hn]; exact typed_len h1
      have hn1 : 0 < n := by omega
      go_enter Tryz.func36, Tryz.ntmps36
      go_wp2_with fail
      refine cs_ (ra_ (isTyped_any a _ ha) h1) ?_
      go_wp2_with fail
      refine cs_ (ra_ (isTyped_any b _ hb) h2) ?_
      go_wp2_with fail
      refine (leastFrom_any a b _ (typed_len h1) (typed_len h2)).mono ?_
      rintro e w' ⟨B, Q, rfl, HT⟩
      unfold Tb at HT
      have HU := hd_ HT.u
      have r0 := HT.row (i := 0) (by omega) (by omega)
      have r1 := HT.cell (i := 0) (j := 0) (by omega) (by omega)
      have r2 := HT.o.lt
      have r3 := (HT.r 0 (by omega)).lt
      obtain ⟨e0, he0⟩ := nm_ (cst a b 0 0)
      have he1 : 0 ≤ e0 := by rw [← he0]; exact cst_nn _ _ _ _
      have he2 : e0 ≤ 120 := by
       have := cst_bd a b _ 0 0 rfl
       have := typed_len h2
       omega
      have HR := hd_ (show mrkR a b = (markL e0 n 5 1 1, 0) from by rw [hr.out, he0, HN.out])
      rw [he0] at r1
      clear hr he0 HT h0
      clear h1 h2
      go_wp2_with fail
      go_loopw [7, 8] (fun t7 t8 wr => ∃ (f T : Nat) (mk : Int), f ≤ 5 ∧ T = 2 ^ (5 - f) ∧ mk = 6 - (f : Int) ∧ t7 = .int .i64 mk ∧ t8 = i64 T ∧ Hid (markL e0 n 5 1 1 = markL e0 n f T mk) ∧ wr = w') (fun t7 _ _ => (6 - intOf t7).toNat)
      case atStart => exact ⟨5, 1, 1, by omega, rfl, by omega, rfl, rfl, hd_ rfl, rfl⟩
      case round =>
       obtain ⟨f, T, mk, hf, hT, hmk, rfl, rfl, HK, rfl⟩ := hrel
       have hT32 : T ≤ 32 := by rw [hT]; exact pow5_le f
       cases f with
       | zero =>
         have hfin := hd_ (show markL e0 n 5 1 1 = mk from by rw [HK.out]; rfl)
         have hm6 : ¬ mk < 6 := by omega
         have hm7 : decide (mk < 6) = false := decide_eq_false hm6
         clear hmk hT HK
         go_wp2_with fail
         go_ret2
         rw [HR.out, hfin.out]
         exact ⟨rfl, HU.out⟩
       | succ f =>
         have hT2 := pow5 (f := f) (by omega)
         rw [← hT] at hT2
         have HT2 := hd_ hT2
         have HMK := hd_ hmk
         have hm7 : decide (mk < 6) = true := decide_eq_true (by omega)
         have hm8 : mk < 6 := by omega
         have hm9 : 1 ≤ mk := by omega
         have hTn : (T : Int) * (n : Int) ≤ 1920 := by
          have : T * n ≤ 32 * 60 := Nat.mul_le_mul hT32 hn60
          exact_mod_cast this
         have hTn0 : (0 : Int) ≤ (T : Int) * (n : Int) := Int.mul_nonneg (by omega) (by omega)
         by_cases hlt : (T : Int) * (n : Int) < 100 * e0
         ·have ht : decide ((T : Int) * (n : Int) < 100 * e0) = true := decide_eq_true hlt
          have HK2 := hd_ (show markL e0 n 5 1 1 = markL e0 n f ((T * 2 : Nat) : Int) (mk + 1) from by
           rw [HK.out, markL, if_pos hlt]; push_cast; rfl)
          clear hT HK hlt hT2 hmk
          go_wp2_with fail
          refine ⟨⟨f, T * 2, mk + 1, by omega, HT2.out, by have := HMK.out; omega, rfl, by go_num, HK2, by first | rfl | trivial⟩, by simp [intOf]; try omega⟩
         ·have ht : decide ((T : Int) * (n : Int) < 100 * e0) = false := decide_eq_false hlt
          have hfin := hd_ (show markL e0 n 5 1 1 = mk from by rw [HK.out, markL, if_neg hlt])
          clear hT HK hlt hT2 hmk
          go_wp2_with fail
          go_ret2
          rw [HR.out, hfin.out]
          exact ⟨rfl, HU.out⟩
end Go.Proofs.YtbianlkenallaaaGreatDoor

/-
  Common parts, put together: ReadS, LogC.
-/
import Derived.Test.YtbianlkenallaaaGreatDoorLineT
import Derived.Test.YtbianlkenallaaaGreatDoorMgC
set_option linter.all false
set_option maxHeartbeats 2000000
set_option maxRecDepth 10000
namespace Go.Proofs.YtbianlkenallaaaGreatDoor
open Go.RowKit
theorem takeB_same (d0 st0 : Int) (line : ByteArray) : takeB d0 st0 line (splitA 32 [] line.data.toList) = takeB d0 st0 line (wordsA [] line.data.toList) := by
 cases h1 : takeB d0 st0 line (splitA 32 [] line.data.toList)
 ·cases h2 : takeB d0 st0 line (wordsA [] line.data.toList)
  ·rfl
  ·rw [takeB_both d0 st0 line (.inr h2), h2] at h1; cases h1
 ·rw [takeB_both d0 st0 line (.inl h1)] at h1; rw [h1]
theorem LS.new (w : World) (s : ByteArray) : LS w.heap.size ((w.alloc (.cells #[] 127)).alloc (.cells #[.string s, i64 0, i64 0, .slice (some ⟨w.heap.size, 0, none⟩) 0 0] 171)) (w.heap.size + 1) s [] 0 0 := by
 have h1 : (w.alloc (.cells #[] 127)).heap.size = w.heap.size + 1 := by simp
 refine ⟨some ⟨w.heap.size, 0, none⟩, 0, ?_, by omega, ?_, .inr (fun e => by injection e with e; exact absurd e (Nat.ne_of_lt (Nat.lt_succ_self _)))⟩
 ·have := Blk.new (w.alloc (.cells #[] 127)) 171 #[.string s, i64 0, i64 0, .slice (some ⟨w.heap.size, 0, none⟩) 0 0]
  rw [h1] at this
  exact this
 ·have := World.ownsRow_lit (base := w.heap.size) (e := 127) (size := 3) w #[] 0 (Nat.le_refl _) (by unfold maxLen; omega) rfl
  exact ob_ this (Below.alloc (Below.refl _ _) (Nat.le_refl _) _)
theorem readLogS_any (s : ByteArray) (w : World) (hs : s.size ≤ 1000000) :
 Calls Tryz.prog 140 #[.string s] w fun e w' => ∃ rb, e = .returned (.pointer (some ⟨rb, 0, none⟩)) ∧ LS w.heap.size w' rb s (logR s).1 (logR s).2.1 (logR s).2.2 ∧ UpOf w w' := by
 have HN := hd_ (LS.new w s)
 obtain ⟨L, hL⟩ := nm_ (s.data.toList)
 have hLn := hd_ (show L.length = s.size by rw [← hL]; rfl)
 have HL := hd_ hL
 obtain ⟨R, hR⟩ := nm_ (logR s)
 rw [hR]
 have HR := hd_ (show logF (s.size + 1) [] 0 0 L = R by rw [← hR, logR, hL])
 clear hR hL
 go_enter Tryz.func140, Tryz.ntmps140
 go_wp2_with fail
 refine wpg (R := fun V => LS w.heap.size V (w.heap.size + 1) s [] 0 0 ∧ UpOf w V) ⟨HN.out, uw_⟩ (fun V st => ?_)
 have ST := hd_ st
 clear st HN
 generalize hp : w.heap.size + 1 = rb
 rw [hp] at ST
 have hrb : w.heap.size ≤ rb := by omega
 clear hp
 go_loopw [9] (fun u wr => ∃ (l : List Entry) (st : Int) (sz k : Nat), LS w.heap.size wr rb s l st sz ∧ sz ≤ s.size ∧ l.length ≤ sz ∧ 0 ≤ st ∧ st < 65519 ∧ Hid (logF k l st sz (L.drop sz) = R) ∧ s.size - sz < k ∧ UpOf w wr) (fun _ wr => s.size - (intOf ((wr.cell? ⟨rb, 1, none⟩).getD undef)).toNat)
 case atStart => exact ⟨[], 0, 0, s.size + 1, ST.out.1, by omega, by simp, by omega, by omega, by rw [List.drop_zero]; exact HR, by omega, ST.out.2⟩
 case round =>
  obtain ⟨l, st, sz, k, hl, hsz, hll, s0, s1, hf, hk, hup⟩ := hrel
  have hc2 := hl.cells.2.1
  have hrl := hl.lt.2
  obtain ⟨C, hC⟩ := nm_ (cutA 10 [] (s.data.toList.drop sz))
  obtain ⟨line, post, ok⟩ := C
  have HC := hd_ (show cutA 10 [] (L.drop sz) = (line, post, ok) by rw [← HL.out]; exact hC)
  have HC0 := hd_ hC
  have HLI := hd_ hl
  have HUP := hd_ hup
  clear hC hl hup
  cases hokc : ok with
  | false =>
    subst hokc
    have hR2 := hd_ (show R = (l, st, sz) by rw [← hf.out, logF_end (by rw [HC.out])])
    go_wp2_with fail
    refine cu_ (lineS_no _ _ _ s l st line post false _ HLI.out HC0.out hsz hs (by omega) s0 s1 (.inl rfl)) fun g => ?_
    go_wp2_with fail
    go_ret
    exact ⟨rb, rfl, by rw [hR2.out]; exact HLI.out.below bw_, HUP.out.tr bw_⟩
  | true =>
    subst hokc
    obtain ⟨cd1, cd2⟩ := cut_drop (L := L) (sz := sz) (by rw [hLn.out]; exact hsz) (by rw [HC.out])
    rw [HC.out] at cd1 cd2
    have CD1 : sz + line.size + 1 ≤ s.size := by rw [← hLn.out]; exact cd1
    have CD2 := hd_ (show post.data.toList = L.drop (sz + line.size + 1) from cd2)
    clear cd1 cd2
    cases htk : takeB (dayL l) st line (splitA 32 [] line.data.toList)
    ·have hR2 := hd_ (show R = (l, st, sz) by rw [← hf.out, logF_bad (by rw [HC.out]; exact takeOf_none (by rw [← takeB_same]; exact htk))])
     go_wp2_with fail
     refine cu_ (lineS_no _ _ _ s l st line post true _ HLI.out HC0.out hsz hs (by omega) s0 s1 (.inr htk)) fun g => ?_
     go_wp2_with fail
     go_ret
     exact ⟨rb, rfl, by rw [hR2.out]; exact HLI.out.below bw_, HUP.out.tr bw_⟩
    ·obtain ⟨k', rfl⟩ : ∃ k', k = k' + 1 := ⟨k - 1, by omega⟩
     have hww := takeB_both (dayL l) st line (.inl htk)
     have hgo := hd_ (show logF k' (l ++ [eOf (splitA 32 [] line.data.toList)]) (stampP st (eOf (splitA 32 [] line.data.toList))) (sz + line.size + 1) (L.drop (sz + line.size + 1)) = R by
      rw [← hf.out, logF_go (x := eOf (splitA 32 [] line.data.toList)) (st' := stampP st (eOf (splitA 32 [] line.data.toList))) (by rw [HC.out]) (by rw [HC.out, ← hww]; exact takeOf_some htk), HC.out, CD2.out])
     have hsb := hd_ (stampP_bd st (eOf (splitA 32 [] line.data.toList)))
     clear hww
     go_wp2_with fail
     refine (lineS_ok _ _ _ s l st line post true rfl _ HLI.out HC0.out hsz hs (by omega) s0 s1 htk).mono ?_
     rintro e w2 ⟨rfl, hl2, hb2⟩
     have HL2 := hd_ hl2
     have hB2 := hd_ (show UpOf w w2 from .of (HUP.out.below.trans hb2))
     have hc3 := hl2.cells.2.1
     clear hl2 hb2
     go_wp2_with fail
     refine ⟨⟨_, _, _, _, HL2.out, CD1, by rw [List.length_append, List.length_singleton]; omega, hsb.out.1, hsb.out.2, hgo, by omega, hB2.out⟩, ?_⟩
     rw [hc3, hc2]
     simp [intOf]
     omega
def codeL (s : ByteArray) : Int := if s.size ≤ 4000 then (if (logR s).2.2 = s.size then 0 else 8) else 5
theorem codeL_5 {s : ByteArray} (h : ¬ s.size ≤ 4000) : codeL s = 5 := by rw [codeL, if_neg h]
theorem codeL_8 {s : ByteArray} (h : s.size ≤ 4000) (h2 : ¬ (logR s).2.2 = s.size) : codeL s = 8 := by rw [codeL, if_pos h, if_neg h2]
theorem codeL_0 {s : ByteArray} (h : s.size ≤ 4000) (h2 : (logR s).2.2 = s.size) : codeL s = 0 := by rw [codeL, if_pos h, if_pos h2]
theorem codeL_inv {s : ByteArray} (h : codeL s = 0) : s.size ≤ 4000 ∧ (logR s).2.2 = s.size := by
 by_cases h1 : s.size ≤ 4000
 ·by_cases h2 : (logR s).2.2 = s.size
  ·exact ⟨h1, h2⟩
  ·rw [codeL_8 h1 h2] at h; cases h
 ·rw [codeL_5 h1] at h; cases h
def entsL (s : ByteArray) : List Entry := (logR s).1
theorem entsL_len {s : ByteArray} (h : codeL s = 0) : (entsL s).length ≤ 4000 := by
 have h1 := codeL_inv h
 have h2 := (logR_inv s).2.1
 unfold entsL
 omega
theorem entsL_ok (s : ByteArray) : ∀ x ∈ entsL s, vEntry x = true := (logR_inv s).2.2.2
theorem wholeI_no (s : ByteArray) (w : World) (hs : s.size ≤ 1048576) (ht : Tab w) (hc : ¬ codeL s = 0) :
 Calls Tryz.prog 120 #[.string s] w fun e w' => e = .returned (.tuple #[.pointer none, i64 (codeL s)]) ∧ UpOf w w' := by
 have HT := hd_ ht
 have hinv := (logR_inv s).1
 clear ht
 by_cases h1 : s.size ≤ 4000
 ·have h2 : ¬ (logR s).2.2 = s.size := fun h => hc (codeL_0 h1 h)
  have h3 : (logR s).2.2 < s.size := by omega
  have hf := hd_ (codeL_8 h1 h2)
  clear hc h2
  go_enter Tryz.func120, Tryz.ntmps120
  go_wp2_with fail
  refine (readLogI_any s _ (HT.out.below bw_) h1).mono ?_
  rintro e w' ⟨rb, rfl, hl, g, rfl⟩
  have hc := hl.cells
  have hrb := hl.lt.2
  have HL := hd_ hl
  clear hl
  go_wp2_with fail
  go_ret2
  exact ⟨by rw [hf.out] <;> rfl, uw_⟩
 ·have hf := hd_ (codeL_5 h1)
  have h2 : 4000 < s.size := by omega
  clear hc
  go_enter Tryz.func120, Tryz.ntmps120
  go_wp2_with fail
  go_ret2
  exact ⟨by rw [hf.out] <;> rfl, uw_⟩
theorem wholeI_ok (s : ByteArray) (w : World) (ht : Tab w) (hc : codeL s = 0) :
 Calls Tryz.prog 120 #[.string s] w fun e w' => ∃ rb, e = .returned (.tuple #[.pointer (some ⟨rb, 0, none⟩), i64 0]) ∧ LI w.heap.size w' rb (entsL s) (logR s).2.1 s.size ∧ UpOf w w' := by
 have HT := hd_ ht
 clear ht
 obtain ⟨h1, h2⟩ := codeL_inv hc
 clear hc
 go_enter Tryz.func120, Tryz.ntmps120
 go_wp2_with fail
 refine (readLogI_any s _ (HT.out.below bw_) h1).mono ?_
 rintro e w' ⟨rb, rfl, hl, g, rfl⟩
 have hc := hl.cells
 have hrb := hl.lt.2
 have HL := hd_ hl
 clear hl
 rw [h2] at hc
 go_wp2_with fail
 go_ret2
 exact ⟨rb, rfl, by rw [← h2]; exact HL.out.below bw_, uw_⟩
theorem codeS_no (s : ByteArray) (w : World) (hs : s.size ≤ 1048576) (hc : ¬ codeL s = 0) :
 Calls Tryz.prog 91 #[.string s] w fun e w' => ∃ p, e = .returned (.tuple #[.pointer p, i64 (codeL s)]) ∧ UpOf w w' := by
 by_cases h1 : s.size ≤ 4000
 ·have h2 : ¬ (logR s).2.2 = s.size := fun h => hc (codeL_0 h1 h)
  have z : ((((logR s).2.2 : Nat) : Int) != (s.size : Int)) = true := by rw [bne_iff_ne]; omega
  have hf := hd_ (codeL_8 h1 h2)
  clear hc h2
  go_enter Tryz.func91, Tryz.ntmps91
  go_wp2_with fail
  refine (readLogS_any s _ (by omega)).mono ?_
  rintro e w' ⟨rb, rfl, hl, g, rfl⟩
  have hc := hl.cells.2.1
  have hrb := hl.lt.2
  have HL := hd_ hl
  clear hl
  go_wp2_with fail
  go_ret2
  exact ⟨_, by rw [hf.out] <;> rfl, uw_⟩
 ·have hf := hd_ (codeL_5 h1)
  have h2 : 4000 < s.size := by omega
  clear hc
  go_enter Tryz.func91, Tryz.ntmps91
  go_wp2_with fail
  go_ret2
  exact ⟨_, by rw [hf.out] <;> rfl, uw_⟩
theorem codeS_ok (s : ByteArray) (w : World) (hc : codeL s = 0) :
 Calls Tryz.prog 91 #[.string s] w fun e w' => ∃ rb, e = .returned (.tuple #[.pointer (some ⟨rb, 0, none⟩), i64 0]) ∧ LS w.heap.size w' rb s (entsL s) (logR s).2.1 s.size ∧ UpOf w w' := by
 obtain ⟨h1, h2⟩ := codeL_inv hc
 clear hc
 have z : ((s.size : Int) != (s.size : Int)) = false := by simp
 go_enter Tryz.func91, Tryz.ntmps91
 go_wp2_with fail
 refine (readLogS_any s _ (by omega)).mono ?_
 rintro e w' ⟨rb, rfl, hl, g, rfl⟩
 have hc := hl.cells.2.1
 have hrb := hl.lt.2
 have HL := hd_ hl
 clear hl
 rw [h2] at hc
 go_wp2_with fail
 go_ret2
 exact ⟨rb, rfl, by rw [← h2]; exact HL.out.below bw_, uw_⟩
end Go.Proofs.YtbianlkenallaaaGreatDoor

/-
  The program's reading of a whole log. The bound stands at it; it leans on the laid table.
-/
import Derived.Test.YtbianlkenallaaaDoorTakeI
import Derived.Test.YtbianlkenallaaaDoorCutI
namespace Go.Proofs.YtbianlkenallaaaDoor
open Go.RowKit
theorem LI.new (w : World) : LI w.heap.size ((w.alloc (.cells #[] 102)).alloc (.cells #[.slice (some ⟨w.heap.size, 0, none⟩) 0 0, i64 0, i64 0] 71)) (w.heap.size + 1) [] 0 0 := by
  have h1 : (w.alloc (.cells #[] 102)).heap.size = w.heap.size + 1 := by simp
  refine ⟨some ⟨w.heap.size, 0, none⟩, 0, ?_, by omega, ?_, .inr (fun e => by injection e with e; exact absurd e (Nat.ne_of_lt (Nat.lt_succ_self _)))⟩
  · have := Blk.new (w.alloc (.cells #[] 102)) 71 #[.slice (some ⟨w.heap.size, 0, none⟩) 0 0, i64 0, i64 0]
    rw [h1] at this
    exact this
  · have := World.ownsRow_lit (base := w.heap.size) (e := 102) (size := 3) w #[] 0 (Nat.le_refl _) (by unfold maxLen; omega) rfl
    exact own_below this (Below.alloc (Below.refl _ _) (Nat.le_refl _) _)
theorem LI.cells {base rb sz : Nat} {w : World} {l : List Entry} {st : Int} (h : LI base w rb l st sz) : w.cell? ⟨rb, 2, none⟩ = some (i64 sz) := by
  obtain ⟨A, c, h1, _⟩ := h
  exact h1.cell 2
theorem UpOf.ofB {w w' : World} (h : Below w.heap.size w w') : UpOf w w' := .of h
set_option maxRecDepth 10000 in
set_option maxHeartbeats 2000000 in
theorem readLogI_any (s : ByteArray) (w : World) (ht : Tab w) (hs : s.size ≤ 4000) :
    Calls Tryd.prog 46 #[.string s] w fun e w' => ∃ rb, e = .returned (.pointer (some ⟨rb, 0, none⟩)) ∧ LI w.heap.size w' rb (logR s).1 (logR s).2.1 (logR s).2.2 ∧ UpOf w w' := by
  have HT := Lib.hid ht
  have HN := Lib.hid (LI.new w)
  have hinv := logR_inv s
  clear ht
  obtain ⟨L, hL⟩ : ∃ L, s.data.toList = L := ⟨_, rfl⟩
  have hLn := Lib.hid (show L.length = s.size by rw [← hL]; rfl)
  have HL := Lib.hid hL
  obtain ⟨R, hR⟩ : ∃ R, logR s = R := ⟨_, rfl⟩
  rw [hR]
  have HR := Lib.hid (show logF (s.size + 1) [] 0 0 L = R by rw [← hR, logR, hL])
  clear hR hL hinv
  go_enter Tryd.func46, Tryd.ntmps46
  go_wp2_with fail
  refine wpg (R := fun V => LI w.heap.size V (w.heap.size + 1) [] 0 0 ∧ UpOf w V) ⟨HN.out, UpOf.of (by repeat (first | exact Below.refl _ _ | refine bl_tr ?_ _ | refine bl_al ?_ _ | refine bl_dr ?_ | refine bl_up ?_ _ | refine Below.drew ?_ | refine bl_alloc ?_ _ | refine Below.setCell ?_ (by first | (simp; done) | (simp; omega)) _))⟩ (fun V st => ?_)
  have ST := Lib.hid st
  clear st HN
  generalize hp : w.heap.size + 1 = rb
  rw [hp] at ST
  have hrb : w.heap.size ≤ rb := by omega
  clear hp
  go_loopw [4] (fun u wr => ∃ (l : List Entry) (st : Int) (sz k : Nat), LI w.heap.size wr rb l st sz ∧ sz ≤ s.size ∧ l.length ≤ sz ∧ 0 ≤ st ∧ st < 65519 ∧ Hid (logF k l st sz (L.drop sz) = R) ∧ s.size - sz < k ∧ UpOf w wr) (fun _ wr => s.size - (intOf ((wr.cell? ⟨rb, 2, none⟩).getD undef)).toNat)
  case atStart => exact ⟨[], 0, 0, s.size + 1, ST.out.1, by omega, by simp, by omega, by omega, by rw [List.drop_zero]; exact HR, by omega, ST.out.2⟩
  case round =>
    obtain ⟨l, st, sz, k, hl, hsz, hll, s0, s1, hf, hk, hup⟩ := hrel
    have hc2 := hl.cells
    have hrl := hl.lt.2
    obtain ⟨C, hC⟩ : ∃ C, cutA 10 [] (L.drop sz) = C := ⟨_, rfl⟩
    obtain ⟨line, post, ok⟩ := C
    have hls : line.size ≤ 4000 := by
      have := (cutA_size 10 (L.drop sz) []).1
      rw [hC] at this
      simp [hLn.out] at this
      omega
    have cw : ∀ V, Calls Tryd.prog 53 #[.string (s.extract sz s.size), .string ⟨#[10]⟩] V fun e w' => e = .returned (.tuple #[.string line, .string post, .bool ok]) ∧ UpOf V w' := fun V => by
      have := cut_any (s.extract sz s.size) ⟨#[10]⟩ 10 rfl V (by rw [ByteArray.size_extract]; omega)
      rw [show (s.extract sz s.size).data.toList = L.drop sz by rw [bs_extract, bs_list, HL.out, List.take_of_length_le (by rw [List.length_drop, hLn.out]; exact Nat.le_refl _)], hC] at this
      exact this
    have CW := Lib.hid cw
    have HC := Lib.hid hC
    have HLI := Lib.hid hl
    have HTB := Lib.hid (HT.out.below hup.below)
    have HUP := Lib.hid hup
    clear cw hC hl hup
    cases ok with
    | false =>
      have hR2 := Lib.hid (show R = (l, st, sz) by rw [← hf.out, logF_end (by rw [HC.out])])
      go_wp2_with (first | (go_at_call 53; refine (CW.out _).mono ?_; rintro e w' ⟨rfl, g, rfl⟩) | ((with_reducible refine wp_region_up (by kernel_rfl) (by kernel_rfl) ?_); (repeat (go_big_quiet_step (first | (go_at_call 53; first | exact upq_tr (CW.out _) | exact upq (CW.out _))))); refine wpQuiet_nil ?_; intro _ hw'; obtain ⟨nq, hw''⟩ := hw'; subst hw''))
      go_ret
      exact ⟨rb, rfl, by rw [hR2.out]; exact HLI.out.below (by repeat (first | exact Below.refl _ _ | refine bl_tr ?_ _ | refine bl_al ?_ _ | refine bl_dr ?_ | refine bl_up ?_ _ | refine Below.drew ?_ | refine bl_alloc ?_ _ | refine Below.setCell ?_ (by first | (simp; done) | (simp; omega)) _)), HUP.out.tr (by repeat (first | exact Below.refl _ _ | refine bl_tr ?_ _ | refine bl_al ?_ _ | refine bl_dr ?_ | refine bl_up ?_ _ | refine Below.drew ?_ | refine bl_alloc ?_ _ | refine Below.setCell ?_ (by first | (simp; done) | (simp; omega)) _))⟩
    | true =>
      obtain ⟨cd1, cd2⟩ := cut_drop (L := L) (sz := sz) (by rw [hLn.out]; exact hsz) (by rw [HC.out])
      rw [HC.out] at cd1 cd2
      have CD1 : sz + line.size + 1 ≤ s.size := by rw [← hLn.out]; exact cd1
      have CD2 := Lib.hid (show post.data.toList = L.drop (sz + line.size + 1) from cd2)
      clear cd1 cd2
      cases htk : takeB (dayL l) st line (wordsA [] line.data.toList)
      · have hR2 := Lib.hid (show R = (l, st, sz) by rw [← hf.out, logF_bad (by rw [HC.out]; exact takeOf_none htk)])
        go_wp2_with (first | (go_at_call 53; refine (CW.out _).mono ?_; rintro e w' ⟨rfl, g, rfl⟩) | (go_at_call 54; refine (takeI_no _ _ _ l st line _ (HLI.out.below (by repeat (first | exact Below.refl _ _ | refine bl_tr ?_ _ | refine bl_al ?_ _ | refine bl_dr ?_ | refine bl_up ?_ _ | refine Below.drew ?_ | refine bl_alloc ?_ _ | refine Below.setCell ?_ (by first | (simp; done) | (simp; omega)) _))) (HTB.out.below (by repeat (first | exact Below.refl _ _ | refine bl_tr ?_ _ | refine bl_al ?_ _ | refine bl_dr ?_ | refine bl_up ?_ _ | refine Below.drew ?_ | refine bl_alloc ?_ _ | refine Below.setCell ?_ (by first | (simp; done) | (simp; omega)) _))) (by omega) (by omega) s0 s1 htk).mono ?_; rintro e w' ⟨rfl, g, rfl⟩) | ((with_reducible refine wp_region_up (by kernel_rfl) (by kernel_rfl) ?_); (repeat (go_big_quiet_step (first | (go_at_call 53; first | exact upq_tr (CW.out _) | exact upq (CW.out _)) | (go_at_call 54; first | exact upq_tr (takeI_no _ _ _ l st line _ (HLI.out.below (by repeat (first | exact Below.refl _ _ | refine bl_tr ?_ _ | refine bl_al ?_ _ | refine bl_dr ?_ | refine bl_up ?_ _ | refine Below.drew ?_ | refine bl_alloc ?_ _ | refine Below.setCell ?_ (by first | (simp; done) | (simp; omega)) _))) (HTB.out.below (by repeat (first | exact Below.refl _ _ | refine bl_tr ?_ _ | refine bl_al ?_ _ | refine bl_dr ?_ | refine bl_up ?_ _ | refine Below.drew ?_ | refine bl_alloc ?_ _ | refine Below.setCell ?_ (by first | (simp; done) | (simp; omega)) _))) (by omega) (by omega) s0 s1 htk) | exact upq (takeI_no _ _ _ l st line _ (HLI.out.below (by repeat (first | exact Below.refl _ _ | refine bl_tr ?_ _ | refine bl_al ?_ _ | refine bl_dr ?_ | refine bl_up ?_ _ | refine Below.drew ?_ | refine bl_alloc ?_ _ | refine Below.setCell ?_ (by first | (simp; done) | (simp; omega)) _))) (HTB.out.below (by repeat (first | exact Below.refl _ _ | refine bl_tr ?_ _ | refine bl_al ?_ _ | refine bl_dr ?_ | refine bl_up ?_ _ | refine Below.drew ?_ | refine bl_alloc ?_ _ | refine Below.setCell ?_ (by first | (simp; done) | (simp; omega)) _))) (by omega) (by omega) s0 s1 htk))))); refine wpQuiet_nil ?_; intro _ hw'; obtain ⟨nq, hw''⟩ := hw'; subst hw''))
        go_ret
        exact ⟨rb, rfl, by rw [hR2.out]; exact HLI.out.below (by repeat (first | exact Below.refl _ _ | refine bl_tr ?_ _ | refine bl_al ?_ _ | refine bl_dr ?_ | refine bl_up ?_ _ | refine Below.drew ?_ | refine bl_alloc ?_ _ | refine Below.setCell ?_ (by first | (simp; done) | (simp; omega)) _)), HUP.out.tr (by repeat (first | exact Below.refl _ _ | refine bl_tr ?_ _ | refine bl_al ?_ _ | refine bl_dr ?_ | refine bl_up ?_ _ | refine Below.drew ?_ | refine bl_alloc ?_ _ | refine Below.setCell ?_ (by first | (simp; done) | (simp; omega)) _))⟩
      · obtain ⟨k', rfl⟩ : ∃ k', k = k' + 1 := ⟨k - 1, by omega⟩
        have hgo := Lib.hid (show logF k' (l ++ [eOf (wordsA [] line.data.toList)]) (stampP st (eOf (wordsA [] line.data.toList))) (sz + line.size + 1) (L.drop (sz + line.size + 1)) = R by
          rw [← hf.out, logF_go (x := eOf (wordsA [] line.data.toList)) (st' := stampP st (eOf (wordsA [] line.data.toList))) (by rw [HC.out]) (by rw [HC.out]; exact takeOf_some htk), HC.out, CD2.out])
        have hsb := Lib.hid (stampP_bd st (eOf (wordsA [] line.data.toList)))
        go_wp2_with fail
        refine (CW.out _).mono ?_
        rintro e w' ⟨rfl, g1, rfl⟩
        go_wp2_with fail
        refine (takeI_ok _ _ _ l st line _ (HLI.out.below (by repeat (first | exact Below.refl _ _ | refine bl_tr ?_ _ | refine bl_al ?_ _ | refine bl_dr ?_ | refine bl_up ?_ _ | refine Below.drew ?_ | refine bl_alloc ?_ _ | refine Below.setCell ?_ (by first | (simp; done) | (simp; omega)) _))) (HTB.out.below (by repeat (first | exact Below.refl _ _ | refine bl_tr ?_ _ | refine bl_al ?_ _ | refine bl_dr ?_ | refine bl_up ?_ _ | refine Below.drew ?_ | refine bl_alloc ?_ _ | refine Below.setCell ?_ (by first | (simp; done) | (simp; omega)) _))) (by omega) (by omega) s0 s1 (by omega) htk).mono ?_
        rintro e w2 ⟨rfl, hl2, hb2⟩
        have HL2 := Lib.hid hl2
        have hB2 := Lib.hid (show UpOf w w2 from .of ((HUP.out.tr (V' := up wr g1) (by repeat (first | exact Below.refl _ _ | refine bl_tr ?_ _ | refine bl_al ?_ _ | refine bl_dr ?_ | refine bl_up ?_ _ | refine Below.drew ?_ | refine bl_alloc ?_ _ | refine Below.setCell ?_ (by first | (simp; done) | (simp; omega)) _))).below.trans hb2))
        have hc3 := hl2.cells
        clear hl2 hb2
        go_wp2_with (first | ((with_reducible refine wp_region_up (by kernel_rfl) (by kernel_rfl) ?_); (repeat (go_big_quiet_step (fail))); refine wpQuiet_nil ?_; intro _ hw'; obtain ⟨nq, hw''⟩ := hw'; subst hw''))
        refine ⟨⟨_, _, _, _, HL2.out, CD1, by rw [List.length_append, List.length_singleton]; omega, hsb.out.1, hsb.out.2, hgo, by omega, hB2.out⟩, ?_⟩
        rw [hc3, hc2]
        simp [intOf]
        omega
end Go.Proofs.YtbianlkenallaaaDoor

/-
  The reference's reading of a whole log. The bound stands at it.
-/
import Derived.Test.YtbianlkenallaaaDoorLineT
namespace Go.Proofs.YtbianlkenallaaaDoor
open Go.RowKit
theorem takeB_same (d0 st0 : Int) (line : ByteArray) : takeB d0 st0 line (splitA 32 [] line.data.toList) = takeB d0 st0 line (wordsA [] line.data.toList) := by
  cases h1 : takeB d0 st0 line (splitA 32 [] line.data.toList)
  · cases h2 : takeB d0 st0 line (wordsA [] line.data.toList)
    · rfl
    · rw [takeB_both d0 st0 line (.inr h2), h2] at h1; cases h1
  · rw [takeB_both d0 st0 line (.inl h1)] at h1; rw [h1]
theorem LS.new (w : World) (s : ByteArray) : LS w.heap.size ((w.alloc (.cells #[] 102)).alloc (.cells #[.string s, i64 0, i64 0, .slice (some ⟨w.heap.size, 0, none⟩) 0 0] 75)) (w.heap.size + 1) s [] 0 0 := by
  have h1 : (w.alloc (.cells #[] 102)).heap.size = w.heap.size + 1 := by simp
  refine ⟨some ⟨w.heap.size, 0, none⟩, 0, ?_, by omega, ?_, .inr (fun e => by injection e with e; exact absurd e (Nat.ne_of_lt (Nat.lt_succ_self _)))⟩
  · have := Blk.new (w.alloc (.cells #[] 102)) 75 #[.string s, i64 0, i64 0, .slice (some ⟨w.heap.size, 0, none⟩) 0 0]
    rw [h1] at this
    exact this
  · have := World.ownsRow_lit (base := w.heap.size) (e := 102) (size := 3) w #[] 0 (Nat.le_refl _) (by unfold maxLen; omega) rfl
    exact own_below this (Below.alloc (Below.refl _ _) (Nat.le_refl _) _)
set_option maxRecDepth 10000 in
set_option maxHeartbeats 2000000 in
theorem readLogS_any (s : ByteArray) (w : World) (hs : s.size ≤ 1000000) :
    Calls Tryd.prog 39 #[.string s] w fun e w' => ∃ rb, e = .returned (.pointer (some ⟨rb, 0, none⟩)) ∧ LS w.heap.size w' rb s (logR s).1 (logR s).2.1 (logR s).2.2 ∧ UpOf w w' := by
  have HN := Lib.hid (LS.new w s)
  obtain ⟨L, hL⟩ : ∃ L, s.data.toList = L := ⟨_, rfl⟩
  have hLn := Lib.hid (show L.length = s.size by rw [← hL]; rfl)
  have HL := Lib.hid hL
  obtain ⟨R, hR⟩ : ∃ R, logR s = R := ⟨_, rfl⟩
  rw [hR]
  have HR := Lib.hid (show logF (s.size + 1) [] 0 0 L = R by rw [← hR, logR, hL])
  clear hR hL
  go_enter Tryd.func39, Tryd.ntmps39
  go_wp2_with fail
  refine wpg (R := fun V => LS w.heap.size V (w.heap.size + 1) s [] 0 0 ∧ UpOf w V) ⟨HN.out, UpOf.of (by repeat (first | exact Below.refl _ _ | refine bl_tr ?_ _ | refine bl_al ?_ _ | refine bl_dr ?_ | refine bl_up ?_ _ | refine Below.drew ?_ | refine bl_alloc ?_ _ | refine Below.setCell ?_ (by first | (simp; done) | (simp; omega)) _))⟩ (fun V st => ?_)
  have ST := Lib.hid st
  clear st HN
  generalize hp : w.heap.size + 1 = rb
  rw [hp] at ST
  have hrb : w.heap.size ≤ rb := by omega
  clear hp
  go_loopw [9] (fun u wr => ∃ (l : List Entry) (st : Int) (sz k : Nat), LS w.heap.size wr rb s l st sz ∧ sz ≤ s.size ∧ l.length ≤ sz ∧ 0 ≤ st ∧ st < 65519 ∧ Hid (logF k l st sz (L.drop sz) = R) ∧ s.size - sz < k ∧ UpOf w wr) (fun _ wr => s.size - (intOf ((wr.cell? ⟨rb, 1, none⟩).getD undef)).toNat)
  case atStart => exact ⟨[], 0, 0, s.size + 1, ST.out.1, by omega, by simp, by omega, by omega, by rw [List.drop_zero]; exact HR, by omega, ST.out.2⟩
  case round =>
    obtain ⟨l, st, sz, k, hl, hsz, hll, s0, s1, hf, hk, hup⟩ := hrel
    have hc2 := hl.cells.2.1
    have hrl := hl.lt.2
    obtain ⟨C, hC⟩ : ∃ C, cutA 10 [] (s.data.toList.drop sz) = C := ⟨_, rfl⟩
    obtain ⟨line, post, ok⟩ := C
    have HC := Lib.hid (show cutA 10 [] (L.drop sz) = (line, post, ok) by rw [← HL.out]; exact hC)
    have HC0 := Lib.hid hC
    have HLI := Lib.hid hl
    have HUP := Lib.hid hup
    clear hC hl hup
    cases hokc : ok with
    | false =>
      subst hokc
      have hR2 := Lib.hid (show R = (l, st, sz) by rw [← hf.out, logF_end (by rw [HC.out])])
      go_wp2_with fail
      refine (lineS_no _ _ _ s l st line post false _ HLI.out HC0.out hsz hs (by omega) s0 s1 (.inl rfl)).mono ?_
      rintro e w' ⟨rfl, g, rfl⟩
      go_wp2_with (first | ((with_reducible refine wp_region_up (by kernel_rfl) (by kernel_rfl) ?_); (repeat (go_big_quiet_step (fail))); refine wpQuiet_nil ?_; intro _ hw'; obtain ⟨nq, hw''⟩ := hw'; subst hw''))
      go_ret
      exact ⟨rb, rfl, by rw [hR2.out]; exact HLI.out.below (by repeat (first | exact Below.refl _ _ | refine bl_tr ?_ _ | refine bl_al ?_ _ | refine bl_dr ?_ | refine bl_up ?_ _ | refine Below.drew ?_ | refine bl_alloc ?_ _ | refine Below.setCell ?_ (by first | (simp; done) | (simp; omega)) _)), HUP.out.tr (by repeat (first | exact Below.refl _ _ | refine bl_tr ?_ _ | refine bl_al ?_ _ | refine bl_dr ?_ | refine bl_up ?_ _ | refine Below.drew ?_ | refine bl_alloc ?_ _ | refine Below.setCell ?_ (by first | (simp; done) | (simp; omega)) _))⟩
    | true =>
      subst hokc
      obtain ⟨cd1, cd2⟩ := cut_drop (L := L) (sz := sz) (by rw [hLn.out]; exact hsz) (by rw [HC.out])
      rw [HC.out] at cd1 cd2
      have CD1 : sz + line.size + 1 ≤ s.size := by rw [← hLn.out]; exact cd1
      have CD2 := Lib.hid (show post.data.toList = L.drop (sz + line.size + 1) from cd2)
      clear cd1 cd2
      cases htk : takeB (dayL l) st line (splitA 32 [] line.data.toList)
      · have hR2 := Lib.hid (show R = (l, st, sz) by rw [← hf.out, logF_bad (by rw [HC.out]; exact takeOf_none (by rw [← takeB_same]; exact htk))])
        go_wp2_with fail
        refine (lineS_no _ _ _ s l st line post true _ HLI.out HC0.out hsz hs (by omega) s0 s1 (.inr htk)).mono ?_
        rintro e w' ⟨rfl, g, rfl⟩
        go_wp2_with (first | ((with_reducible refine wp_region_up (by kernel_rfl) (by kernel_rfl) ?_); (repeat (go_big_quiet_step (fail))); refine wpQuiet_nil ?_; intro _ hw'; obtain ⟨nq, hw''⟩ := hw'; subst hw''))
        go_ret
        exact ⟨rb, rfl, by rw [hR2.out]; exact HLI.out.below (by repeat (first | exact Below.refl _ _ | refine bl_tr ?_ _ | refine bl_al ?_ _ | refine bl_dr ?_ | refine bl_up ?_ _ | refine Below.drew ?_ | refine bl_alloc ?_ _ | refine Below.setCell ?_ (by first | (simp; done) | (simp; omega)) _)), HUP.out.tr (by repeat (first | exact Below.refl _ _ | refine bl_tr ?_ _ | refine bl_al ?_ _ | refine bl_dr ?_ | refine bl_up ?_ _ | refine Below.drew ?_ | refine bl_alloc ?_ _ | refine Below.setCell ?_ (by first | (simp; done) | (simp; omega)) _))⟩
      · obtain ⟨k', rfl⟩ : ∃ k', k = k' + 1 := ⟨k - 1, by omega⟩
        have hww := takeB_both (dayL l) st line (.inl htk)
        have hgo := Lib.hid (show logF k' (l ++ [eOf (splitA 32 [] line.data.toList)]) (stampP st (eOf (splitA 32 [] line.data.toList))) (sz + line.size + 1) (L.drop (sz + line.size + 1)) = R by
          rw [← hf.out, logF_go (x := eOf (splitA 32 [] line.data.toList)) (st' := stampP st (eOf (splitA 32 [] line.data.toList))) (by rw [HC.out]) (by rw [HC.out, ← hww]; exact takeOf_some htk), HC.out, CD2.out])
        have hsb := Lib.hid (stampP_bd st (eOf (splitA 32 [] line.data.toList)))
        clear hww
        go_wp2_with fail
        refine (lineS_ok _ _ _ s l st line post true rfl _ HLI.out HC0.out hsz hs (by omega) s0 s1 htk).mono ?_
        rintro e w2 ⟨rfl, hl2, hb2⟩
        have HL2 := Lib.hid hl2
        have hB2 := Lib.hid (show UpOf w w2 from .of (HUP.out.below.trans hb2))
        have hc3 := hl2.cells.2.1
        clear hl2 hb2
        go_wp2_with (first | ((with_reducible refine wp_region_up (by kernel_rfl) (by kernel_rfl) ?_); (repeat (go_big_quiet_step (fail))); refine wpQuiet_nil ?_; intro _ hw'; obtain ⟨nq, hw''⟩ := hw'; subst hw''))
        refine ⟨⟨_, _, _, _, HL2.out, CD1, by rw [List.length_append, List.length_singleton]; omega, hsb.out.1, hsb.out.2, hgo, by omega, hB2.out⟩, ?_⟩
        rw [hc3, hc2]
        simp [intOf]
        omega
end Go.Proofs.YtbianlkenallaaaDoor

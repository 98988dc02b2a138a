/-
  AddEntry, of the program and of the reference. The bounds stand at each; the program's leans on the laid table.
-/
import Derived.Test.YtkjomkiajdjhpaaDoorAddEntry
namespace Go.Proofs.YtkjomkiajdjhpaaDoor
open Go.RowKit
def stL (s : ByteArray) : Int := (logR s).2.1
theorem stL_bd (s : ByteArray) : 0 ≤ stL s ∧ stL s < 65519 := (logR_inv s).2.2.1
def adR (s : ByteArray) (x : Entry) : ByteArray × Int :=
  if codeL s = 0 then (if vEntry x = true then (if x.day < dayL (entsL s) then (⟨#[]⟩, 6) else if (s ++ newLine (stL s) x).size ≤ 4000 then (s ++ newLine (stL s) x, 0) else (⟨#[]⟩, 5)) else (⟨#[]⟩, 7)) else (⟨#[]⟩, codeL s)
theorem adR_1 {s : ByteArray} {x : Entry} (h : ¬ codeL s = 0) : adR s x = (⟨#[]⟩, codeL s) := by rw [adR, if_neg h]
theorem adR_7 {s : ByteArray} {x : Entry} (h : codeL s = 0) (h2 : vEntry x = false) : adR s x = (⟨#[]⟩, 7) := by rw [adR, if_pos h, if_neg (by rw [h2]; simp)]
theorem adR_6 {s : ByteArray} {x : Entry} (h : codeL s = 0) (h2 : vEntry x = true) (h3 : x.day < dayL (entsL s)) : adR s x = (⟨#[]⟩, 6) := by rw [adR, if_pos h, if_pos h2, if_pos h3]
theorem adR_5 {s : ByteArray} {x : Entry} (h : codeL s = 0) (h2 : vEntry x = true) (h3 : ¬ x.day < dayL (entsL s)) (h4 : ¬ (s ++ newLine (stL s) x).size ≤ 4000) : adR s x = (⟨#[]⟩, 5) := by rw [adR, if_pos h, if_pos h2, if_neg h3, if_neg h4]
theorem adR_0 {s : ByteArray} {x : Entry} (h : codeL s = 0) (h2 : vEntry x = true) (h3 : ¬ x.day < dayL (entsL s)) (h4 : (s ++ newLine (stL s) x).size ≤ 4000) : adR s x = (s ++ newLine (stL s) x, 0) := by rw [adR, if_pos h, if_pos h2, if_neg h3, if_pos h4]
theorem code_ne {s : ByteArray} (h : ¬ codeL s = 0) : ((codeL s) != 0) = true := by rw [bne_iff_ne]; exact h
set_option maxRecDepth 10000 in
set_option maxHeartbeats 1000000 in
theorem addEntryI_any (s : ByteArray) (x : Entry) (w : World) (hs : s.size ≤ 1048576) (hx : x.what.size ≤ 9223372036854775807) (ht : Tab w) :
    Calls Tryd.prog 35 #[.string s, env x] w fun e w' => e = .returned (.tuple #[.string (adR s x).1, i64 (adR s x).2]) ∧ UpOf w w' := by
  have HT := Lib.hid ht
  have hb := stL_bd s
  clear ht
  by_cases h1 : codeL s = 0
  · have hl4 := entsL_len h1
    have hs4 := (codeL_inv h1).1
    cases h2 : vEntry x
    · have hf := Lib.hid (adR_7 h1 h2)
      have z7 : (extR s (entsL s) (stL s) x) = (⟨#[]⟩, 7) := extR_7 h2
      go_enter Tryd.func35, Tryd.ntmps35
      go_wp2_with fail
      refine cg (R := fun V => EAt V w.heap.size 0 x ∧ UpOf w V) ⟨EAt.new, UpOf.of (by repeat (first | exact Below.refl _ _ | refine bl_tr ?_ _ | refine bl_al ?_ _ | refine bl_dr ?_ | refine bl_up ?_ _ | refine Below.drew ?_ | refine bl_alloc ?_ _ | refine Below.setCell ?_ (by first | (simp; done) | (simp; omega)) _))⟩ (fun V0 z => ?_)
      obtain ⟨q, hqq⟩ : ∃ q, w.heap.size = q := ⟨_, rfl⟩
      rw [hqq] at z ⊢
      clear hqq
      have HE := Lib.hid z.1
      have HU := Lib.hid z.2
      clear z
      refine (wholeI_ok s _ (HT.out.below HU.out.below) h1).mono ?_
      rintro e V ⟨rb, rfl, hl, hup⟩
      have HL := Lib.hid hl
      have HUV := Lib.hid hup
      obtain ⟨hq, y0, y1, y2⟩ := HE.out.below hup.below
      simp only [Nat.zero_add] at y1 y2
      have HU2 := Lib.hid (HU.out.tr hup.below)
      clear hl hup
      go_wp2_with (first | (go_at_call 57; refine (ext_no _ _ _ (entsL s) (stL s) s x _ (HL.out.below (by repeat (first | exact Below.refl _ _ | refine bl_tr ?_ _ | refine bl_al ?_ _ | refine bl_dr ?_ | refine bl_up ?_ _ | refine Below.drew ?_ | refine bl_alloc ?_ _ | refine Below.setCell ?_ (by first | (simp; done) | (simp; omega)) _))) (by omega) hx (.inl h2)).mono ?_; rintro e w' ⟨rfl, g, rfl⟩) | ((with_reducible refine wp_region_up (by kernel_rfl) (by kernel_rfl) ?_); (repeat (go_big_quiet_step (first | (go_at_call 57; first | exact upq_tr (ext_no _ _ _ (entsL s) (stL s) s x _ (HL.out.below (by repeat (first | exact Below.refl _ _ | refine bl_tr ?_ _ | refine bl_al ?_ _ | refine bl_dr ?_ | refine bl_up ?_ _ | refine Below.drew ?_ | refine bl_alloc ?_ _ | refine Below.setCell ?_ (by first | (simp; done) | (simp; omega)) _))) (by omega) hx (.inl h2)) | exact upq (ext_no _ _ _ (entsL s) (stL s) s x _ (HL.out.below (by repeat (first | exact Below.refl _ _ | refine bl_tr ?_ _ | refine bl_al ?_ _ | refine bl_dr ?_ | refine bl_up ?_ _ | refine Below.drew ?_ | refine bl_alloc ?_ _ | refine Below.setCell ?_ (by first | (simp; done) | (simp; omega)) _))) (by omega) hx (.inl h2)))))); refine wpQuiet_nil ?_; intro _ hw'; obtain ⟨nq, hw''⟩ := hw'; subst hw''))
      go_ret2
      exact ⟨by rw [hf.out] <;> rfl, HU2.out.tr (by repeat (first | exact Below.refl _ _ | refine bl_tr ?_ _ | refine bl_al ?_ _ | refine bl_dr ?_ | refine bl_up ?_ _ | refine Below.drew ?_ | refine bl_alloc ?_ _ | refine Below.setCell ?_ (by first | (simp; done) | (simp; omega)) _))⟩
    by_cases h3 : x.day < dayL (entsL s)
    · have hf := Lib.hid (adR_6 h1 h2 h3)
      have z6 : (extR s (entsL s) (stL s) x) = (⟨#[]⟩, 6) := extR_6 h2 h3
      go_enter Tryd.func35, Tryd.ntmps35
      go_wp2_with fail
      refine cg (R := fun V => EAt V w.heap.size 0 x ∧ UpOf w V) ⟨EAt.new, UpOf.of (by repeat (first | exact Below.refl _ _ | refine bl_tr ?_ _ | refine bl_al ?_ _ | refine bl_dr ?_ | refine bl_up ?_ _ | refine Below.drew ?_ | refine bl_alloc ?_ _ | refine Below.setCell ?_ (by first | (simp; done) | (simp; omega)) _))⟩ (fun V0 z => ?_)
      obtain ⟨q, hqq⟩ : ∃ q, w.heap.size = q := ⟨_, rfl⟩
      rw [hqq] at z ⊢
      clear hqq
      have HE := Lib.hid z.1
      have HU := Lib.hid z.2
      clear z
      refine (wholeI_ok s _ (HT.out.below HU.out.below) h1).mono ?_
      rintro e V ⟨rb, rfl, hl, hup⟩
      have HL := Lib.hid hl
      have HUV := Lib.hid hup
      obtain ⟨hq, y0, y1, y2⟩ := HE.out.below hup.below
      simp only [Nat.zero_add] at y1 y2
      have HU2 := Lib.hid (HU.out.tr hup.below)
      clear hl hup
      go_wp2_with (first | (go_at_call 57; refine (ext_no _ _ _ (entsL s) (stL s) s x _ (HL.out.below (by repeat (first | exact Below.refl _ _ | refine bl_tr ?_ _ | refine bl_al ?_ _ | refine bl_dr ?_ | refine bl_up ?_ _ | refine Below.drew ?_ | refine bl_alloc ?_ _ | refine Below.setCell ?_ (by first | (simp; done) | (simp; omega)) _))) (by omega) hx (.inr h3)).mono ?_; rintro e w' ⟨rfl, g, rfl⟩) | ((with_reducible refine wp_region_up (by kernel_rfl) (by kernel_rfl) ?_); (repeat (go_big_quiet_step (first | (go_at_call 57; first | exact upq_tr (ext_no _ _ _ (entsL s) (stL s) s x _ (HL.out.below (by repeat (first | exact Below.refl _ _ | refine bl_tr ?_ _ | refine bl_al ?_ _ | refine bl_dr ?_ | refine bl_up ?_ _ | refine Below.drew ?_ | refine bl_alloc ?_ _ | refine Below.setCell ?_ (by first | (simp; done) | (simp; omega)) _))) (by omega) hx (.inr h3)) | exact upq (ext_no _ _ _ (entsL s) (stL s) s x _ (HL.out.below (by repeat (first | exact Below.refl _ _ | refine bl_tr ?_ _ | refine bl_al ?_ _ | refine bl_dr ?_ | refine bl_up ?_ _ | refine Below.drew ?_ | refine bl_alloc ?_ _ | refine Below.setCell ?_ (by first | (simp; done) | (simp; omega)) _))) (by omega) hx (.inr h3)))))); refine wpQuiet_nil ?_; intro _ hw'; obtain ⟨nq, hw''⟩ := hw'; subst hw''))
      go_ret2
      exact ⟨by rw [hf.out] <;> rfl, HU2.out.tr (by repeat (first | exact Below.refl _ _ | refine bl_tr ?_ _ | refine bl_al ?_ _ | refine bl_dr ?_ | refine bl_up ?_ _ | refine Below.drew ?_ | refine bl_alloc ?_ _ | refine Below.setCell ?_ (by first | (simp; done) | (simp; omega)) _))⟩
    have hn := newLine_len h2 (stL s)
    obtain ⟨T, hTT⟩ : ∃ T, s ++ newLine (stL s) x = T := ⟨_, rfl⟩
    by_cases h4 : T.size ≤ 4000
    · have hf := Lib.hid (adR_0 h1 h2 h3 (by rw [hTT]; exact h4))
      have HTT := Lib.hid hTT
      go_enter Tryd.func35, Tryd.ntmps35
      go_wp2_with fail
      refine cg (R := fun V => EAt V w.heap.size 0 x ∧ UpOf w V) ⟨EAt.new, UpOf.of (by repeat (first | exact Below.refl _ _ | refine bl_tr ?_ _ | refine bl_al ?_ _ | refine bl_dr ?_ | refine bl_up ?_ _ | refine Below.drew ?_ | refine bl_alloc ?_ _ | refine Below.setCell ?_ (by first | (simp; done) | (simp; omega)) _))⟩ (fun V0 z => ?_)
      obtain ⟨q, hqq⟩ : ∃ q, w.heap.size = q := ⟨_, rfl⟩
      rw [hqq] at z ⊢
      clear hqq
      have HE := Lib.hid z.1
      have HU := Lib.hid z.2
      clear z
      refine (wholeI_ok s _ (HT.out.below HU.out.below) h1).mono ?_
      rintro e V ⟨rb, rfl, hl, hup⟩
      have HL := Lib.hid hl
      have HUV := Lib.hid hup
      obtain ⟨hq, y0, y1, y2⟩ := HE.out.below hup.below
      simp only [Nat.zero_add] at y1 y2
      have HU2 := Lib.hid (HU.out.tr hup.below)
      clear hl hup
      go_wp2_with fail
      have cx := ext_ok _ _ _ (entsL s) (stL s) s x V HL.out (fun W' hW => HT.out.below (HU.out.below.trans ((HUV.out.below.trans hW).mono HU.out.below.size))) (by omega) (by omega) hb.1 hb.2 h2 (fun hlt => by omega)
      rw [HTT.out] at cx
      refine cx.mono ?_
      clear cx
      rintro e W ⟨rfl, hl2, hb2⟩
      have HW := Lib.hid (show UpOf w W from .of (HU.out.below.trans ((HUV.out.below.trans hb2).mono HU.out.below.size)))
      clear hl2 hb2
      go_wp2_with (first | ((with_reducible refine wp_region_up (by kernel_rfl) (by kernel_rfl) ?_); (repeat (go_big_quiet_step (fail))); refine wpQuiet_nil ?_; intro _ hw'; obtain ⟨nq, hw''⟩ := hw'; subst hw''))
      go_ret2
      exact ⟨by rw [hf.out, HTT.out] <;> rfl, HW.out.tr (by repeat (first | exact Below.refl _ _ | refine bl_tr ?_ _ | refine bl_al ?_ _ | refine bl_dr ?_ | refine bl_up ?_ _ | refine Below.drew ?_ | refine bl_alloc ?_ _ | refine Below.setCell ?_ (by first | (simp; done) | (simp; omega)) _))⟩
    · have hf := Lib.hid (adR_5 h1 h2 h3 (by rw [hTT]; exact h4))
      have HTT := Lib.hid hTT
      have h4' : 4000 < T.size := by omega
      go_enter Tryd.func35, Tryd.ntmps35
      go_wp2_with fail
      refine cg (R := fun V => EAt V w.heap.size 0 x ∧ UpOf w V) ⟨EAt.new, UpOf.of (by repeat (first | exact Below.refl _ _ | refine bl_tr ?_ _ | refine bl_al ?_ _ | refine bl_dr ?_ | refine bl_up ?_ _ | refine Below.drew ?_ | refine bl_alloc ?_ _ | refine Below.setCell ?_ (by first | (simp; done) | (simp; omega)) _))⟩ (fun V0 z => ?_)
      obtain ⟨q, hqq⟩ : ∃ q, w.heap.size = q := ⟨_, rfl⟩
      rw [hqq] at z ⊢
      clear hqq
      have HE := Lib.hid z.1
      have HU := Lib.hid z.2
      clear z
      refine (wholeI_ok s _ (HT.out.below HU.out.below) h1).mono ?_
      rintro e V ⟨rb, rfl, hl, hup⟩
      have HL := Lib.hid hl
      have HUV := Lib.hid hup
      obtain ⟨hq, y0, y1, y2⟩ := HE.out.below hup.below
      simp only [Nat.zero_add] at y1 y2
      have HU2 := Lib.hid (HU.out.tr hup.below)
      clear hl hup
      go_wp2_with fail
      have cx := ext_ok _ _ _ (entsL s) (stL s) s x V HL.out (fun W' hW => HT.out.below (HU.out.below.trans ((HUV.out.below.trans hW).mono HU.out.below.size))) (by omega) (by omega) hb.1 hb.2 h2 (fun hlt => by omega)
      rw [HTT.out] at cx
      refine cx.mono ?_
      clear cx
      rintro e W ⟨rfl, hl2, hb2⟩
      have HW := Lib.hid (show UpOf w W from .of (HU.out.below.trans ((HUV.out.below.trans hb2).mono HU.out.below.size)))
      clear hl2 hb2
      go_wp2_with (first | ((with_reducible refine wp_region_up (by kernel_rfl) (by kernel_rfl) ?_); (repeat (go_big_quiet_step (fail))); refine wpQuiet_nil ?_; intro _ hw'; obtain ⟨nq, hw''⟩ := hw'; subst hw''))
      go_ret2
      exact ⟨by rw [hf.out] <;> rfl, HW.out.tr (by repeat (first | exact Below.refl _ _ | refine bl_tr ?_ _ | refine bl_al ?_ _ | refine bl_dr ?_ | refine bl_up ?_ _ | refine Below.drew ?_ | refine bl_alloc ?_ _ | refine Below.setCell ?_ (by first | (simp; done) | (simp; omega)) _))⟩
  · have hf := Lib.hid (adR_1 (x := x) h1)
    have z := code_ne h1
    go_enter Tryd.func35, Tryd.ntmps35
    go_wp2_with fail
    refine cg (R := fun V => EAt V w.heap.size 0 x ∧ UpOf w V) ⟨EAt.new, UpOf.of (by repeat (first | exact Below.refl _ _ | refine bl_tr ?_ _ | refine bl_al ?_ _ | refine bl_dr ?_ | refine bl_up ?_ _ | refine Below.drew ?_ | refine bl_alloc ?_ _ | refine Below.setCell ?_ (by first | (simp; done) | (simp; omega)) _))⟩ (fun V0 z => ?_)
    obtain ⟨q, hqq⟩ : ∃ q, w.heap.size = q := ⟨_, rfl⟩
    rw [hqq] at z ⊢
    clear hqq
    have HE := Lib.hid z.1
    have HU := Lib.hid z.2
    clear z
    refine (wholeI_no s _ hs (HT.out.below HU.out.below) h1).mono ?_
    rintro e w' ⟨rfl, g, rfl⟩
    go_wp2_with (first | ((with_reducible refine wp_region_up (by kernel_rfl) (by kernel_rfl) ?_); (repeat (go_big_quiet_step (fail))); refine wpQuiet_nil ?_; intro _ hw'; obtain ⟨nq, hw''⟩ := hw'; subst hw''))
    go_ret2
    exact ⟨by rw [hf.out] <;> rfl, HU.out.tr (by repeat (first | exact Below.refl _ _ | refine bl_tr ?_ _ | refine bl_al ?_ _ | refine bl_dr ?_ | refine bl_up ?_ _ | refine Below.drew ?_ | refine bl_alloc ?_ _ | refine Below.setCell ?_ (by first | (simp; done) | (simp; omega)) _))⟩
set_option maxRecDepth 10000 in
set_option maxHeartbeats 1000000 in
theorem addEntryS_any (s : ByteArray) (x : Entry) (w : World) (hs : s.size ≤ 1048576) (hx : x.what.size ≤ 9223372036854775807) :
    Calls Tryd.prog 34 #[.string s, env x] w fun e w' => e = .returned (.tuple #[.string (adR s x).1, i64 (adR s x).2]) ∧ UpOf w w' := by
  have hb := stL_bd s
  by_cases h1 : codeL s = 0
  · have hl4 := entsL_len h1
    have hs4 := (codeL_inv h1).1
    cases h2 : vEntry x
    · have hf := Lib.hid (adR_7 h1 h2)
      go_enter Tryd.func34, Tryd.ntmps34
      go_wp2_with fail
      refine cg (R := fun V => EAt V w.heap.size 0 x ∧ UpOf w V) ⟨EAt.new, UpOf.of (by repeat (first | exact Below.refl _ _ | refine bl_tr ?_ _ | refine bl_al ?_ _ | refine bl_dr ?_ | refine bl_up ?_ _ | refine Below.drew ?_ | refine bl_alloc ?_ _ | refine Below.setCell ?_ (by first | (simp; done) | (simp; omega)) _))⟩ (fun V0 z => ?_)
      obtain ⟨q, hqq⟩ : ∃ q, w.heap.size = q := ⟨_, rfl⟩
      rw [hqq] at z ⊢
      clear hqq
      have HE := Lib.hid z.1
      have HU := Lib.hid z.2
      clear z
      refine (codeS_ok s _ h1).mono ?_
      rintro e V ⟨rb, rfl, hl, hup⟩
      have HL := Lib.hid hl
      have HE2 := Lib.hid (HE.out.below hup.below)
      have cs := hl.cells
      obtain ⟨c0, c1, c2⟩ := cs
      have hrb := hl.lt.2
      obtain ⟨hq, y0, y1, y2⟩ := HE.out.below hup.below
      simp only [Nat.zero_add] at y1 y2
      have HU2 := Lib.hid (HU.out.tr hup.below)
      clear hl hup
      go_wp2_with (first | (go_at_call 49; refine (ret_as (l27Ok_any x _ _ _ (HE2.out.below (by repeat (first | exact Below.refl _ _ | refine bl_tr ?_ _ | refine bl_al ?_ _ | refine bl_dr ?_ | refine bl_up ?_ _ | refine Below.drew ?_ | refine bl_alloc ?_ _ | refine Below.setCell ?_ (by first | (simp; done) | (simp; omega)) _))) hx) h2).mono ?_; rintro e w' ⟨rfl, g, rfl⟩) | ((with_reducible refine wp_region_up (by kernel_rfl) (by kernel_rfl) ?_); (repeat (go_big_quiet_step (first | (go_at_call 49; first | exact upq_tr (ret_as (l27Ok_any x _ _ _ (HE2.out.below (by repeat (first | exact Below.refl _ _ | refine bl_tr ?_ _ | refine bl_al ?_ _ | refine bl_dr ?_ | refine bl_up ?_ _ | refine Below.drew ?_ | refine bl_alloc ?_ _ | refine Below.setCell ?_ (by first | (simp; done) | (simp; omega)) _))) hx) h2) | exact upq (ret_as (l27Ok_any x _ _ _ (HE2.out.below (by repeat (first | exact Below.refl _ _ | refine bl_tr ?_ _ | refine bl_al ?_ _ | refine bl_dr ?_ | refine bl_up ?_ _ | refine Below.drew ?_ | refine bl_alloc ?_ _ | refine Below.setCell ?_ (by first | (simp; done) | (simp; omega)) _))) hx) h2))))); refine wpQuiet_nil ?_; intro _ hw'; obtain ⟨nq, hw''⟩ := hw'; subst hw''))
      go_ret2
      exact ⟨by rw [hf.out] <;> rfl, HU2.out.tr (by repeat (first | exact Below.refl _ _ | refine bl_tr ?_ _ | refine bl_al ?_ _ | refine bl_dr ?_ | refine bl_up ?_ _ | refine Below.drew ?_ | refine bl_alloc ?_ _ | refine Below.setCell ?_ (by first | (simp; done) | (simp; omega)) _))⟩
    by_cases h3 : x.day < dayL (entsL s)
    · have hf := Lib.hid (adR_6 h1 h2 h3)
      go_enter Tryd.func34, Tryd.ntmps34
      go_wp2_with fail
      refine cg (R := fun V => EAt V w.heap.size 0 x ∧ UpOf w V) ⟨EAt.new, UpOf.of (by repeat (first | exact Below.refl _ _ | refine bl_tr ?_ _ | refine bl_al ?_ _ | refine bl_dr ?_ | refine bl_up ?_ _ | refine Below.drew ?_ | refine bl_alloc ?_ _ | refine Below.setCell ?_ (by first | (simp; done) | (simp; omega)) _))⟩ (fun V0 z => ?_)
      obtain ⟨q, hqq⟩ : ∃ q, w.heap.size = q := ⟨_, rfl⟩
      rw [hqq] at z ⊢
      clear hqq
      have HE := Lib.hid z.1
      have HU := Lib.hid z.2
      clear z
      refine (codeS_ok s _ h1).mono ?_
      rintro e V ⟨rb, rfl, hl, hup⟩
      have HL := Lib.hid hl
      have HE2 := Lib.hid (HE.out.below hup.below)
      have cs := hl.cells
      obtain ⟨c0, c1, c2⟩ := cs
      have hrb := hl.lt.2
      obtain ⟨hq, y0, y1, y2⟩ := HE.out.below hup.below
      simp only [Nat.zero_add] at y1 y2
      have HU2 := Lib.hid (HU.out.tr hup.below)
      clear hl hup
      go_wp2_with (first | (go_at_call 49; refine (ret_as (l27Ok_any x _ _ _ (HE2.out.below (by repeat (first | exact Below.refl _ _ | refine bl_tr ?_ _ | refine bl_al ?_ _ | refine bl_dr ?_ | refine bl_up ?_ _ | refine Below.drew ?_ | refine bl_alloc ?_ _ | refine Below.setCell ?_ (by first | (simp; done) | (simp; omega)) _))) hx) h2).mono ?_; rintro e w' ⟨rfl, g, rfl⟩) | (go_at_call 68; refine (dayS_any _ _ _ _ _ _ _ (HL.out.below (by repeat (first | exact Below.refl _ _ | refine bl_tr ?_ _ | refine bl_al ?_ _ | refine bl_dr ?_ | refine bl_up ?_ _ | refine Below.drew ?_ | refine bl_alloc ?_ _ | refine Below.setCell ?_ (by first | (simp; done) | (simp; omega)) _))) (by omega)).mono ?_; rintro e w' ⟨rfl, g, rfl⟩) | ((with_reducible refine wp_region_up (by kernel_rfl) (by kernel_rfl) ?_); (repeat (go_big_quiet_step (first | (go_at_call 49; first | exact upq_tr (ret_as (l27Ok_any x _ _ _ (HE2.out.below (by repeat (first | exact Below.refl _ _ | refine bl_tr ?_ _ | refine bl_al ?_ _ | refine bl_dr ?_ | refine bl_up ?_ _ | refine Below.drew ?_ | refine bl_alloc ?_ _ | refine Below.setCell ?_ (by first | (simp; done) | (simp; omega)) _))) hx) h2) | exact upq (ret_as (l27Ok_any x _ _ _ (HE2.out.below (by repeat (first | exact Below.refl _ _ | refine bl_tr ?_ _ | refine bl_al ?_ _ | refine bl_dr ?_ | refine bl_up ?_ _ | refine Below.drew ?_ | refine bl_alloc ?_ _ | refine Below.setCell ?_ (by first | (simp; done) | (simp; omega)) _))) hx) h2)) | (go_at_call 68; first | exact upq_tr (dayS_any _ _ _ _ _ _ _ (HL.out.below (by repeat (first | exact Below.refl _ _ | refine bl_tr ?_ _ | refine bl_al ?_ _ | refine bl_dr ?_ | refine bl_up ?_ _ | refine Below.drew ?_ | refine bl_alloc ?_ _ | refine Below.setCell ?_ (by first | (simp; done) | (simp; omega)) _))) (by omega)) | exact upq (dayS_any _ _ _ _ _ _ _ (HL.out.below (by repeat (first | exact Below.refl _ _ | refine bl_tr ?_ _ | refine bl_al ?_ _ | refine bl_dr ?_ | refine bl_up ?_ _ | refine Below.drew ?_ | refine bl_alloc ?_ _ | refine Below.setCell ?_ (by first | (simp; done) | (simp; omega)) _))) (by omega)))))); refine wpQuiet_nil ?_; intro _ hw'; obtain ⟨nq, hw''⟩ := hw'; subst hw''))
      go_ret2
      exact ⟨by rw [hf.out] <;> rfl, HU2.out.tr (by repeat (first | exact Below.refl _ _ | refine bl_tr ?_ _ | refine bl_al ?_ _ | refine bl_dr ?_ | refine bl_up ?_ _ | refine Below.drew ?_ | refine bl_alloc ?_ _ | refine Below.setCell ?_ (by first | (simp; done) | (simp; omega)) _))⟩
    have hn := newLine_len h2 (stL s)
    have hsb := stampP_bd (stL s) x
    have hwl := ewords_len h2
    obtain ⟨T, hTT⟩ : ∃ T, s ++ newLine (stL s) x = T := ⟨_, rfl⟩
    have e1 : ∀ w, (Op.stringOp .add s (lineP x (stampP (stL s) x) ++ ⟨#[10]⟩)).run Tryd.prog w = .ok (.string T) w := fun w => by
      rw [← hTT]; exact run_string_add_sum w s (newLine (stL s) x) (by omega)
    by_cases h4 : T.size ≤ 4000
    · have hf := Lib.hid (adR_0 h1 h2 h3 (by rw [hTT]; exact h4))
      have HTT := Lib.hid hTT
      clear hTT hn
      go_enter Tryd.func34, Tryd.ntmps34
      go_wp2_with fail
      refine cg (R := fun V => EAt V w.heap.size 0 x ∧ UpOf w V) ⟨EAt.new, UpOf.of (by repeat (first | exact Below.refl _ _ | refine bl_tr ?_ _ | refine bl_al ?_ _ | refine bl_dr ?_ | refine bl_up ?_ _ | refine Below.drew ?_ | refine bl_alloc ?_ _ | refine Below.setCell ?_ (by first | (simp; done) | (simp; omega)) _))⟩ (fun V0 z => ?_)
      obtain ⟨q, hqq⟩ : ∃ q, w.heap.size = q := ⟨_, rfl⟩
      rw [hqq] at z ⊢
      clear hqq
      have HE := Lib.hid z.1
      have HU := Lib.hid z.2
      clear z
      refine (codeS_ok s _ h1).mono ?_
      rintro e V ⟨rb, rfl, hl, hup⟩
      have HL := Lib.hid hl
      have HE2 := Lib.hid (HE.out.below hup.below)
      have cs := hl.cells
      obtain ⟨c0, c1, c2⟩ := cs
      have hrb := hl.lt.2
      obtain ⟨hq, y0, y1, y2⟩ := HE.out.below hup.below
      simp only [Nat.zero_add] at y1 y2
      have HU2 := Lib.hid (HU.out.tr hup.below)
      clear hl hup
      go_wp2_with (first | (go_at_call 49; refine (ret_as (l27Ok_any x _ _ _ (HE2.out.below (by repeat (first | exact Below.refl _ _ | refine bl_tr ?_ _ | refine bl_al ?_ _ | refine bl_dr ?_ | refine bl_up ?_ _ | refine Below.drew ?_ | refine bl_alloc ?_ _ | refine Below.setCell ?_ (by first | (simp; done) | (simp; omega)) _))) hx) h2).mono ?_; rintro e w' ⟨rfl, g, rfl⟩) | (go_at_call 68; refine (dayS_any _ _ _ _ _ _ _ (HL.out.below (by repeat (first | exact Below.refl _ _ | refine bl_tr ?_ _ | refine bl_al ?_ _ | refine bl_dr ?_ | refine bl_up ?_ _ | refine Below.drew ?_ | refine bl_alloc ?_ _ | refine Below.setCell ?_ (by first | (simp; done) | (simp; omega)) _))) (by omega)).mono ?_; rintro e w' ⟨rfl, g, rfl⟩) | (go_at_call 52; refine (l27Words_any x h2 _ _ _ (HE2.out.below (by repeat (first | exact Below.refl _ _ | refine bl_tr ?_ _ | refine bl_al ?_ _ | refine bl_dr ?_ | refine bl_up ?_ _ | refine Below.drew ?_ | refine bl_alloc ?_ _ | refine Below.setCell ?_ (by first | (simp; done) | (simp; omega)) _)))).mono ?_; rintro e w' ⟨rfl, g, rfl⟩) | (go_at_call 51; refine (l27Stamp_any _ hwl x rfl _ hb.1 hb.2 _).mono ?_; rintro e w' ⟨rfl, g, rfl⟩) | (go_at_call 69; refine (l27Line_any x h2 _ hsb.1 hsb.2 _ _ _ (HE2.out.below (by repeat (first | exact Below.refl _ _ | refine bl_tr ?_ _ | refine bl_al ?_ _ | refine bl_dr ?_ | refine bl_up ?_ _ | refine Below.drew ?_ | refine bl_alloc ?_ _ | refine Below.setCell ?_ (by first | (simp; done) | (simp; omega)) _)))).mono ?_; rintro e w' ⟨rfl, g, rfl⟩) | ((with_reducible refine wp_region_up (by kernel_rfl) (by kernel_rfl) ?_); (repeat (go_big_quiet_step (first | (go_at_call 49; first | exact upq_tr (ret_as (l27Ok_any x _ _ _ (HE2.out.below (by repeat (first | exact Below.refl _ _ | refine bl_tr ?_ _ | refine bl_al ?_ _ | refine bl_dr ?_ | refine bl_up ?_ _ | refine Below.drew ?_ | refine bl_alloc ?_ _ | refine Below.setCell ?_ (by first | (simp; done) | (simp; omega)) _))) hx) h2) | exact upq (ret_as (l27Ok_any x _ _ _ (HE2.out.below (by repeat (first | exact Below.refl _ _ | refine bl_tr ?_ _ | refine bl_al ?_ _ | refine bl_dr ?_ | refine bl_up ?_ _ | refine Below.drew ?_ | refine bl_alloc ?_ _ | refine Below.setCell ?_ (by first | (simp; done) | (simp; omega)) _))) hx) h2)) | (go_at_call 68; first | exact upq_tr (dayS_any _ _ _ _ _ _ _ (HL.out.below (by repeat (first | exact Below.refl _ _ | refine bl_tr ?_ _ | refine bl_al ?_ _ | refine bl_dr ?_ | refine bl_up ?_ _ | refine Below.drew ?_ | refine bl_alloc ?_ _ | refine Below.setCell ?_ (by first | (simp; done) | (simp; omega)) _))) (by omega)) | exact upq (dayS_any _ _ _ _ _ _ _ (HL.out.below (by repeat (first | exact Below.refl _ _ | refine bl_tr ?_ _ | refine bl_al ?_ _ | refine bl_dr ?_ | refine bl_up ?_ _ | refine Below.drew ?_ | refine bl_alloc ?_ _ | refine Below.setCell ?_ (by first | (simp; done) | (simp; omega)) _))) (by omega))) | (go_at_call 52; first | exact upq_tr (l27Words_any x h2 _ _ _ (HE2.out.below (by repeat (first | exact Below.refl _ _ | refine bl_tr ?_ _ | refine bl_al ?_ _ | refine bl_dr ?_ | refine bl_up ?_ _ | refine Below.drew ?_ | refine bl_alloc ?_ _ | refine Below.setCell ?_ (by first | (simp; done) | (simp; omega)) _)))) | exact upq (l27Words_any x h2 _ _ _ (HE2.out.below (by repeat (first | exact Below.refl _ _ | refine bl_tr ?_ _ | refine bl_al ?_ _ | refine bl_dr ?_ | refine bl_up ?_ _ | refine Below.drew ?_ | refine bl_alloc ?_ _ | refine Below.setCell ?_ (by first | (simp; done) | (simp; omega)) _))))) | (go_at_call 51; first | exact upq_tr (l27Stamp_any _ hwl x rfl _ hb.1 hb.2 _) | exact upq (l27Stamp_any _ hwl x rfl _ hb.1 hb.2 _)) | (go_at_call 69; first | exact upq_tr (l27Line_any x h2 _ hsb.1 hsb.2 _ _ _ (HE2.out.below (by repeat (first | exact Below.refl _ _ | refine bl_tr ?_ _ | refine bl_al ?_ _ | refine bl_dr ?_ | refine bl_up ?_ _ | refine Below.drew ?_ | refine bl_alloc ?_ _ | refine Below.setCell ?_ (by first | (simp; done) | (simp; omega)) _)))) | exact upq (l27Line_any x h2 _ hsb.1 hsb.2 _ _ _ (HE2.out.below (by repeat (first | exact Below.refl _ _ | refine bl_tr ?_ _ | refine bl_al ?_ _ | refine bl_dr ?_ | refine bl_up ?_ _ | refine Below.drew ?_ | refine bl_alloc ?_ _ | refine Below.setCell ?_ (by first | (simp; done) | (simp; omega)) _)))))))); refine wpQuiet_nil ?_; intro _ hw'; obtain ⟨nq, hw''⟩ := hw'; subst hw''))
      go_ret2
      exact ⟨by rw [hf.out, HTT.out] <;> rfl, HU2.out.tr (by repeat (first | exact Below.refl _ _ | refine bl_tr ?_ _ | refine bl_al ?_ _ | refine bl_dr ?_ | refine bl_up ?_ _ | refine Below.drew ?_ | refine bl_alloc ?_ _ | refine Below.setCell ?_ (by first | (simp; done) | (simp; omega)) _))⟩
    · have hf := Lib.hid (adR_5 h1 h2 h3 (by rw [hTT]; exact h4))
      have h4' : 4000 < T.size := by omega
      clear hTT hn
      go_enter Tryd.func34, Tryd.ntmps34
      go_wp2_with fail
      refine cg (R := fun V => EAt V w.heap.size 0 x ∧ UpOf w V) ⟨EAt.new, UpOf.of (by repeat (first | exact Below.refl _ _ | refine bl_tr ?_ _ | refine bl_al ?_ _ | refine bl_dr ?_ | refine bl_up ?_ _ | refine Below.drew ?_ | refine bl_alloc ?_ _ | refine Below.setCell ?_ (by first | (simp; done) | (simp; omega)) _))⟩ (fun V0 z => ?_)
      obtain ⟨q, hqq⟩ : ∃ q, w.heap.size = q := ⟨_, rfl⟩
      rw [hqq] at z ⊢
      clear hqq
      have HE := Lib.hid z.1
      have HU := Lib.hid z.2
      clear z
      refine (codeS_ok s _ h1).mono ?_
      rintro e V ⟨rb, rfl, hl, hup⟩
      have HL := Lib.hid hl
      have HE2 := Lib.hid (HE.out.below hup.below)
      have cs := hl.cells
      obtain ⟨c0, c1, c2⟩ := cs
      have hrb := hl.lt.2
      obtain ⟨hq, y0, y1, y2⟩ := HE.out.below hup.below
      simp only [Nat.zero_add] at y1 y2
      have HU2 := Lib.hid (HU.out.tr hup.below)
      clear hl hup
      go_wp2_with (first | (go_at_call 49; refine (ret_as (l27Ok_any x _ _ _ (HE2.out.below (by repeat (first | exact Below.refl _ _ | refine bl_tr ?_ _ | refine bl_al ?_ _ | refine bl_dr ?_ | refine bl_up ?_ _ | refine Below.drew ?_ | refine bl_alloc ?_ _ | refine Below.setCell ?_ (by first | (simp; done) | (simp; omega)) _))) hx) h2).mono ?_; rintro e w' ⟨rfl, g, rfl⟩) | (go_at_call 68; refine (dayS_any _ _ _ _ _ _ _ (HL.out.below (by repeat (first | exact Below.refl _ _ | refine bl_tr ?_ _ | refine bl_al ?_ _ | refine bl_dr ?_ | refine bl_up ?_ _ | refine Below.drew ?_ | refine bl_alloc ?_ _ | refine Below.setCell ?_ (by first | (simp; done) | (simp; omega)) _))) (by omega)).mono ?_; rintro e w' ⟨rfl, g, rfl⟩) | (go_at_call 52; refine (l27Words_any x h2 _ _ _ (HE2.out.below (by repeat (first | exact Below.refl _ _ | refine bl_tr ?_ _ | refine bl_al ?_ _ | refine bl_dr ?_ | refine bl_up ?_ _ | refine Below.drew ?_ | refine bl_alloc ?_ _ | refine Below.setCell ?_ (by first | (simp; done) | (simp; omega)) _)))).mono ?_; rintro e w' ⟨rfl, g, rfl⟩) | (go_at_call 51; refine (l27Stamp_any _ hwl x rfl _ hb.1 hb.2 _).mono ?_; rintro e w' ⟨rfl, g, rfl⟩) | (go_at_call 69; refine (l27Line_any x h2 _ hsb.1 hsb.2 _ _ _ (HE2.out.below (by repeat (first | exact Below.refl _ _ | refine bl_tr ?_ _ | refine bl_al ?_ _ | refine bl_dr ?_ | refine bl_up ?_ _ | refine Below.drew ?_ | refine bl_alloc ?_ _ | refine Below.setCell ?_ (by first | (simp; done) | (simp; omega)) _)))).mono ?_; rintro e w' ⟨rfl, g, rfl⟩) | ((with_reducible refine wp_region_up (by kernel_rfl) (by kernel_rfl) ?_); (repeat (go_big_quiet_step (first | (go_at_call 49; first | exact upq_tr (ret_as (l27Ok_any x _ _ _ (HE2.out.below (by repeat (first | exact Below.refl _ _ | refine bl_tr ?_ _ | refine bl_al ?_ _ | refine bl_dr ?_ | refine bl_up ?_ _ | refine Below.drew ?_ | refine bl_alloc ?_ _ | refine Below.setCell ?_ (by first | (simp; done) | (simp; omega)) _))) hx) h2) | exact upq (ret_as (l27Ok_any x _ _ _ (HE2.out.below (by repeat (first | exact Below.refl _ _ | refine bl_tr ?_ _ | refine bl_al ?_ _ | refine bl_dr ?_ | refine bl_up ?_ _ | refine Below.drew ?_ | refine bl_alloc ?_ _ | refine Below.setCell ?_ (by first | (simp; done) | (simp; omega)) _))) hx) h2)) | (go_at_call 68; first | exact upq_tr (dayS_any _ _ _ _ _ _ _ (HL.out.below (by repeat (first | exact Below.refl _ _ | refine bl_tr ?_ _ | refine bl_al ?_ _ | refine bl_dr ?_ | refine bl_up ?_ _ | refine Below.drew ?_ | refine bl_alloc ?_ _ | refine Below.setCell ?_ (by first | (simp; done) | (simp; omega)) _))) (by omega)) | exact upq (dayS_any _ _ _ _ _ _ _ (HL.out.below (by repeat (first | exact Below.refl _ _ | refine bl_tr ?_ _ | refine bl_al ?_ _ | refine bl_dr ?_ | refine bl_up ?_ _ | refine Below.drew ?_ | refine bl_alloc ?_ _ | refine Below.setCell ?_ (by first | (simp; done) | (simp; omega)) _))) (by omega))) | (go_at_call 52; first | exact upq_tr (l27Words_any x h2 _ _ _ (HE2.out.below (by repeat (first | exact Below.refl _ _ | refine bl_tr ?_ _ | refine bl_al ?_ _ | refine bl_dr ?_ | refine bl_up ?_ _ | refine Below.drew ?_ | refine bl_alloc ?_ _ | refine Below.setCell ?_ (by first | (simp; done) | (simp; omega)) _)))) | exact upq (l27Words_any x h2 _ _ _ (HE2.out.below (by repeat (first | exact Below.refl _ _ | refine bl_tr ?_ _ | refine bl_al ?_ _ | refine bl_dr ?_ | refine bl_up ?_ _ | refine Below.drew ?_ | refine bl_alloc ?_ _ | refine Below.setCell ?_ (by first | (simp; done) | (simp; omega)) _))))) | (go_at_call 51; first | exact upq_tr (l27Stamp_any _ hwl x rfl _ hb.1 hb.2 _) | exact upq (l27Stamp_any _ hwl x rfl _ hb.1 hb.2 _)) | (go_at_call 69; first | exact upq_tr (l27Line_any x h2 _ hsb.1 hsb.2 _ _ _ (HE2.out.below (by repeat (first | exact Below.refl _ _ | refine bl_tr ?_ _ | refine bl_al ?_ _ | refine bl_dr ?_ | refine bl_up ?_ _ | refine Below.drew ?_ | refine bl_alloc ?_ _ | refine Below.setCell ?_ (by first | (simp; done) | (simp; omega)) _)))) | exact upq (l27Line_any x h2 _ hsb.1 hsb.2 _ _ _ (HE2.out.below (by repeat (first | exact Below.refl _ _ | refine bl_tr ?_ _ | refine bl_al ?_ _ | refine bl_dr ?_ | refine bl_up ?_ _ | refine Below.drew ?_ | refine bl_alloc ?_ _ | refine Below.setCell ?_ (by first | (simp; done) | (simp; omega)) _)))))))); refine wpQuiet_nil ?_; intro _ hw'; obtain ⟨nq, hw''⟩ := hw'; subst hw''))
      go_ret2
      exact ⟨by rw [hf.out] <;> rfl, HU2.out.tr (by repeat (first | exact Below.refl _ _ | refine bl_tr ?_ _ | refine bl_al ?_ _ | refine bl_dr ?_ | refine bl_up ?_ _ | refine Below.drew ?_ | refine bl_alloc ?_ _ | refine Below.setCell ?_ (by first | (simp; done) | (simp; omega)) _))⟩
  · have hf := Lib.hid (adR_1 (x := x) h1)
    have z := code_ne h1
    go_enter Tryd.func34, Tryd.ntmps34
    go_wp2_with fail
    refine cg (R := fun V => EAt V w.heap.size 0 x ∧ UpOf w V) ⟨EAt.new, UpOf.of (by repeat (first | exact Below.refl _ _ | refine bl_tr ?_ _ | refine bl_al ?_ _ | refine bl_dr ?_ | refine bl_up ?_ _ | refine Below.drew ?_ | refine bl_alloc ?_ _ | refine Below.setCell ?_ (by first | (simp; done) | (simp; omega)) _))⟩ (fun V0 z => ?_)
    obtain ⟨q, hqq⟩ : ∃ q, w.heap.size = q := ⟨_, rfl⟩
    rw [hqq] at z ⊢
    clear hqq
    have HE := Lib.hid z.1
    have HU := Lib.hid z.2
    clear z
    refine (codeS_no s _ hs h1).mono ?_
    rintro e V ⟨p, rfl, hup⟩
    have HU2 := Lib.hid (HU.out.tr hup.below)
    clear hup
    go_wp2_with (first | ((with_reducible refine wp_region_up (by kernel_rfl) (by kernel_rfl) ?_); (repeat (go_big_quiet_step (fail))); refine wpQuiet_nil ?_; intro _ hw'; obtain ⟨nq, hw''⟩ := hw'; subst hw''))
    go_ret2
    exact ⟨by rw [hf.out] <;> rfl, HU2.out.tr (by repeat (first | exact Below.refl _ _ | refine bl_tr ?_ _ | refine bl_al ?_ _ | refine bl_dr ?_ | refine bl_up ?_ _ | refine Below.drew ?_ | refine bl_alloc ?_ _ | refine Below.setCell ?_ (by first | (simp; done) | (simp; omega)) _))⟩
end Go.Proofs.YtkjomkiajdjhpaaDoor

/-
  PossibleDefects of the program. The bounds stand at it.
-/
import Derived.Test.YtfggbcmpgkhlaaaTest6I
import Derived.Test.YtfggbcmpgkhlaaaA2Ints
namespace Go.Proofs.Ytfggbcmpgkhlaaa
open Go.RowKit
def possR (l : List Defect) (ps : List Int) (s : ByteArray) : List Int × Int := if codeT l ps s = 0 then (fitL l s, 0) else ([], codeT l ps s)
set_option maxRecDepth 10000 in
set_option maxHeartbeats 1000000 in
theorem possI_any (A B : Option Addr) (c d : Nat) (l : List Defect) (ps : List Int) (s : ByteArray) (w : World) (h : Rds w 3 A l.length (dfcs l)) (hp : Rds w 1 B ps.length (ics ps)) (hn : l.length ≤ 100000000) (hm : ps.length ≤ 100000000) (hs : sizesD l) (ha : s.size ≤ 100000000) :
    Calls Try.prog 15 #[.slice A l.length c, .slice B ps.length d, .string s] w fun e w' => ∃ A' c', e = .returned (.tuple #[.slice A' (possR l ps s).1.length c', i64 (possR l ps s).2]) ∧ w'.ownsRow w.heap.size 2 1 (.slice A' (possR l ps s).1.length c') (possR l ps s).1.length (ics (possR l ps s).1) ∧ UpOf w w' := by
  rcases codeT_3 l ps s with hc | hc | ⟨hc, hv, hsz⟩
  · have hR := Lib.hid (show possR l ps s = ([], 1) by rw [possR, hc]; rfl)
    go_enter Try.func15, Try.ntmps15
    go_wp2_with (first | (go_at_call 45; refine (ret_num (answersCode_any _ _ _ _ _ _ _ _ (h.below (by repeat (first | exact Below.refl _ _ | refine bl_tr ?_ _ | refine bl_al ?_ _ | refine bl_dr ?_ | refine bl_up ?_ _ | refine Below.drew ?_ | refine bl_alloc ?_ _ | refine Below.setCell ?_ (by first | (simp; done) | (simp; omega)) _))) (hp.below (by repeat (first | exact Below.refl _ _ | refine bl_tr ?_ _ | refine bl_al ?_ _ | refine bl_dr ?_ | refine bl_up ?_ _ | refine Below.drew ?_ | refine bl_alloc ?_ _ | refine Below.setCell ?_ (by first | (simp; done) | (simp; omega)) _))) hn hm hs ha) hc).mono ?_; rintro e w' ⟨rfl, g, rfl⟩) | ((with_reducible refine wp_region_up (by kernel_rfl) (by kernel_rfl) ?_); (repeat (go_big_quiet_step (first | (go_at_call 45; first | exact upq_tr (ret_num (answersCode_any _ _ _ _ _ _ _ _ (h.below (by repeat (first | exact Below.refl _ _ | refine bl_tr ?_ _ | refine bl_al ?_ _ | refine bl_dr ?_ | refine bl_up ?_ _ | refine Below.drew ?_ | refine bl_alloc ?_ _ | refine Below.setCell ?_ (by first | (simp; done) | (simp; omega)) _))) (hp.below (by repeat (first | exact Below.refl _ _ | refine bl_tr ?_ _ | refine bl_al ?_ _ | refine bl_dr ?_ | refine bl_up ?_ _ | refine Below.drew ?_ | refine bl_alloc ?_ _ | refine Below.setCell ?_ (by first | (simp; done) | (simp; omega)) _))) hn hm hs ha) hc) | exact upq (ret_num (answersCode_any _ _ _ _ _ _ _ _ (h.below (by repeat (first | exact Below.refl _ _ | refine bl_tr ?_ _ | refine bl_al ?_ _ | refine bl_dr ?_ | refine bl_up ?_ _ | refine Below.drew ?_ | refine bl_alloc ?_ _ | refine Below.setCell ?_ (by first | (simp; done) | (simp; omega)) _))) (hp.below (by repeat (first | exact Below.refl _ _ | refine bl_tr ?_ _ | refine bl_al ?_ _ | refine bl_dr ?_ | refine bl_up ?_ _ | refine Below.drew ?_ | refine bl_alloc ?_ _ | refine Below.setCell ?_ (by first | (simp; done) | (simp; omega)) _))) hn hm hs ha) hc))))); refine wpQuiet_nil ?_; intro _ hw'; obtain ⟨nq, hw''⟩ := hw'; subst hw''))
    go_ret2
    rw [hR.out]
    exact ⟨none, 0, rfl, ⟨rfl, .inl ⟨rfl, rfl⟩⟩, UpOf.of (by repeat (first | exact Below.refl _ _ | refine bl_tr ?_ _ | refine bl_al ?_ _ | refine bl_dr ?_ | refine bl_up ?_ _ | refine Below.drew ?_ | refine bl_alloc ?_ _ | refine Below.setCell ?_ (by first | (simp; done) | (simp; omega)) _))⟩
  · have hR := Lib.hid (show possR l ps s = ([], 2) by rw [possR, hc]; rfl)
    go_enter Try.func15, Try.ntmps15
    go_wp2_with (first | (go_at_call 45; refine (ret_num (answersCode_any _ _ _ _ _ _ _ _ (h.below (by repeat (first | exact Below.refl _ _ | refine bl_tr ?_ _ | refine bl_al ?_ _ | refine bl_dr ?_ | refine bl_up ?_ _ | refine Below.drew ?_ | refine bl_alloc ?_ _ | refine Below.setCell ?_ (by first | (simp; done) | (simp; omega)) _))) (hp.below (by repeat (first | exact Below.refl _ _ | refine bl_tr ?_ _ | refine bl_al ?_ _ | refine bl_dr ?_ | refine bl_up ?_ _ | refine Below.drew ?_ | refine bl_alloc ?_ _ | refine Below.setCell ?_ (by first | (simp; done) | (simp; omega)) _))) hn hm hs ha) hc).mono ?_; rintro e w' ⟨rfl, g, rfl⟩) | ((with_reducible refine wp_region_up (by kernel_rfl) (by kernel_rfl) ?_); (repeat (go_big_quiet_step (first | (go_at_call 45; first | exact upq_tr (ret_num (answersCode_any _ _ _ _ _ _ _ _ (h.below (by repeat (first | exact Below.refl _ _ | refine bl_tr ?_ _ | refine bl_al ?_ _ | refine bl_dr ?_ | refine bl_up ?_ _ | refine Below.drew ?_ | refine bl_alloc ?_ _ | refine Below.setCell ?_ (by first | (simp; done) | (simp; omega)) _))) (hp.below (by repeat (first | exact Below.refl _ _ | refine bl_tr ?_ _ | refine bl_al ?_ _ | refine bl_dr ?_ | refine bl_up ?_ _ | refine Below.drew ?_ | refine bl_alloc ?_ _ | refine Below.setCell ?_ (by first | (simp; done) | (simp; omega)) _))) hn hm hs ha) hc) | exact upq (ret_num (answersCode_any _ _ _ _ _ _ _ _ (h.below (by repeat (first | exact Below.refl _ _ | refine bl_tr ?_ _ | refine bl_al ?_ _ | refine bl_dr ?_ | refine bl_up ?_ _ | refine Below.drew ?_ | refine bl_alloc ?_ _ | refine Below.setCell ?_ (by first | (simp; done) | (simp; omega)) _))) (hp.below (by repeat (first | exact Below.refl _ _ | refine bl_tr ?_ _ | refine bl_al ?_ _ | refine bl_dr ?_ | refine bl_up ?_ _ | refine Below.drew ?_ | refine bl_alloc ?_ _ | refine Below.setCell ?_ (by first | (simp; done) | (simp; omega)) _))) hn hm hs ha) hc))))); refine wpQuiet_nil ?_; intro _ hw'; obtain ⟨nq, hw''⟩ := hw'; subst hw''))
    go_ret2
    rw [hR.out]
    exact ⟨none, 0, rfl, ⟨rfl, .inl ⟨rfl, rfl⟩⟩, UpOf.of (by repeat (first | exact Below.refl _ _ | refine bl_tr ?_ _ | refine bl_al ?_ _ | refine bl_dr ?_ | refine bl_up ?_ _ | refine Below.drew ?_ | refine bl_alloc ?_ _ | refine Below.setCell ?_ (by first | (simp; done) | (simp; omega)) _))⟩
  · have hz := Lib.hid (vDefects_sizes hv hsz)
    have hR := Lib.hid (show possR l ps s = (fitL l s, 0) by rw [possR, if_pos hc])
    go_enter Try.func15, Try.ntmps15
    go_wp2_with fail
    refine (ret_num (answersCode_any _ _ _ _ _ _ _ _ (h.below (by repeat (first | exact Below.refl _ _ | refine bl_tr ?_ _ | refine bl_al ?_ _ | refine bl_dr ?_ | refine bl_up ?_ _ | refine Below.drew ?_ | refine bl_alloc ?_ _ | refine Below.setCell ?_ (by first | (simp; done) | (simp; omega)) _))) (hp.below (by repeat (first | exact Below.refl _ _ | refine bl_tr ?_ _ | refine bl_al ?_ _ | refine bl_dr ?_ | refine bl_up ?_ _ | refine Below.drew ?_ | refine bl_alloc ?_ _ | refine Below.setCell ?_ (by first | (simp; done) | (simp; omega)) _))) hn hm hs ha) hc).mono ?_
    rintro e w' ⟨rfl, g1, rfl⟩
    go_wp2_with fail
    refine (fittingI_any A c l s (up w g1) (h.below (by repeat (first | exact Below.refl _ _ | refine bl_tr ?_ _ | refine bl_al ?_ _ | refine bl_dr ?_ | refine bl_up ?_ _ | refine Below.drew ?_ | refine bl_alloc ?_ _ | refine Below.setCell ?_ (by first | (simp; done) | (simp; omega)) _))) hn (by omega) hz.out).mono ?_
    rintro e w2 ⟨A', c', rfl, ho, hu⟩
    have HO := Lib.hid ho
    have HU := Lib.hid hu
    clear ho hu
    go_wp2_with fail
    go_ret2
    rw [hR.out]
    exact ⟨A', c', rfl, own_mono HO.out (up_below w g1).size, .of ((up_below w g1).trans (HU.out.below.mono (up_below w g1).size))⟩
theorem fitN_up (l : List Defect) (s : ByteArray) : ∀ k : Nat, (∀ x ∈ fitN l s k, 0 ≤ x ∧ x < (k : Int)) ∧ (fitN l s k).Pairwise (· < ·)
  | 0 => ⟨fun x hx => (by simp [fitN] at hx), (by simp [fitN])⟩
  | k + 1 => by
    obtain ⟨h1, h2⟩ := fitN_up l s k
    rw [fitN]
    split
    · refine ⟨fun x hx => ?_, ?_⟩
      · rw [List.mem_append, List.mem_singleton] at hx
        rcases hx with hx | rfl
        · have := h1 x hx; omega
        · omega
      · rw [List.pairwise_append]
        refine ⟨h2, by simp, fun x hx y hy => ?_⟩
        rw [List.mem_singleton] at hy
        subst hy
        exact (h1 x hx).2
    · exact ⟨fun x hx => (by have := h1 x hx; omega), h2⟩
theorem fitL_rises (l : List Defect) (s : ByteArray) : risesN (l.length : Int) (fitL l s) := by
  obtain ⟨h1, h2⟩ : (∀ x ∈ fitL l s, 0 ≤ x ∧ x < (l.length : Int)) ∧ (fitL l s).Pairwise (· < ·) := fitN_up l s l.length
  exact ⟨fun i hi => h1 _ (List.getElem_mem hi), fun i hi => (List.pairwise_iff_getElem.1 h2) i (i + 1) (by omega) hi (by omega)⟩
end Go.Proofs.Ytfggbcmpgkhlaaa

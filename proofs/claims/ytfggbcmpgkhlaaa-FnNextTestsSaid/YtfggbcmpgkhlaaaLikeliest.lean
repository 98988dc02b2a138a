/-
  LikeliestDefect of the program, where the answers are valid. The bounds stand at it.
-/
import Derived.Test.YtfggbcmpgkhlaaaPossible
namespace Go.Proofs.Ytfggbcmpgkhlaaa
open Go.RowKit
def wtD (l : List Defect) (y : Int) : Int := (dat l y.toNat).weight
def bestD (l : List Defect) (F : List Int) (v : Int) : Prop := v ∈ F ∧ ∀ y ∈ F, wtD l y ≤ wtD l v
theorem bestD_one (l : List Defect) (v : Int) : bestD l [v] v := ⟨by simp, fun y hy => by rw [List.mem_singleton] at hy; subst hy; exact Int.le_refl _⟩
theorem bestD_new {l : List Defect} {F : List Int} {u v : Int} (h : bestD l F v) (hu : wtD l v < wtD l u) : bestD l (F ++ [u]) u := ⟨by simp, fun y hy => by
  rw [List.mem_append, List.mem_singleton] at hy
  rcases hy with hy | rfl
  · have := h.2 y hy; omega
  · exact Int.le_refl _⟩
theorem bestD_old {l : List Defect} {F : List Int} {u v : Int} (h : bestD l F v) (hu : wtD l u ≤ wtD l v) : bestD l (F ++ [u]) v := ⟨List.mem_append_left _ h.1, fun y hy => by
  rw [List.mem_append, List.mem_singleton] at hy
  rcases hy with hy | rfl
  · exact h.2 y hy
  · exact hu⟩
def likPost (l : List Defect) (F : List Int) (v r : Int) : Prop := (F = [] ∧ r = 3) ∨ (F ≠ [] ∧ r = 0 ∧ bestD l F v)
set_option maxRecDepth 10000 in
set_option maxHeartbeats 2000000 in
theorem likI_any (A B : Option Addr) (c d : Nat) (l : List Defect) (ps : List Int) (s : ByteArray) (w : World) (h : Rds w 3 A l.length (dfcs l)) (hp : Rds w 1 B ps.length (ics ps)) (hn : l.length ≤ 100000000) (hm : ps.length ≤ 100000000) (hs : sizesD l) (ha : s.size ≤ 100000000) (hc : codeT l ps s = 0) :
    Calls Try.prog 22 #[.slice A l.length c, .slice B ps.length d, .string s] w fun e w' => ∃ v r : Int, e = .returned (.tuple #[i64 v, i64 r]) ∧ likPost l (fitL l s) v r ∧ UpOf w w' := by
  rcases codeT_3 l ps s with hc' | hc' | ⟨_, hv, hsz⟩
  · omega
  · omega
  · have hz := Lib.hid (vDefects_sizes hv hsz)
    go_enter Try.func22, Try.ntmps22
    go_wp2_with fail
    refine (ret_num (answersCode_any _ _ _ _ _ _ _ _ (h.below (by repeat (first | exact Below.refl _ _ | refine bl_tr ?_ _ | refine bl_al ?_ _ | refine bl_dr ?_ | refine bl_up ?_ _ | refine Below.drew ?_ | refine bl_alloc ?_ _ | refine Below.setCell ?_ (by first | (simp; done) | (simp; omega)) _))) (hp.below (by repeat (first | exact Below.refl _ _ | refine bl_tr ?_ _ | refine bl_al ?_ _ | refine bl_dr ?_ | refine bl_up ?_ _ | refine Below.drew ?_ | refine bl_alloc ?_ _ | refine Below.setCell ?_ (by first | (simp; done) | (simp; omega)) _))) hn hm hs ha) hc).mono ?_
    rintro e w' ⟨rfl, g1, rfl⟩
    go_wp2_with (first | ((with_reducible refine wp_region_up (by kernel_rfl) (by kernel_rfl) ?_); (repeat (go_big_quiet_step (fail))); refine wpQuiet_nil ?_; intro _ hw'; obtain ⟨nq, hw''⟩ := hw'; subst hw''))
    refine (fittingI_any A c l s _ (h.below (by repeat (first | exact Below.refl _ _ | refine bl_tr ?_ _ | refine bl_al ?_ _ | refine bl_dr ?_ | refine bl_up ?_ _ | refine Below.drew ?_ | refine bl_alloc ?_ _ | refine Below.setCell ?_ (by first | (simp; done) | (simp; omega)) _))) hn (by omega) hz.out).mono ?_
    rintro e w2 ⟨A', c', rfl, ho, hu⟩
    have HO := Lib.hid (Rds.of_own ho)
    have hU : Below w.heap.size w w2 := (up_below w g1).trans (hu.below.mono (up_below w g1).size)
    have HU := Lib.hid hU
    have HL := Lib.hid (h.below hU)
    have hFl := fitL_len l s
    have HF := Lib.hid (show ∀ x ∈ fitL l s, 0 ≤ x ∧ x < (l.length : Int) from (fitN_up l s l.length).1)
    clear ho hu hU h hp hz hs hv
    generalize hFF : fitL l s = F at *
    have HFF := Lib.hid hFF
    clear hFF
    go_wp2_with fail
    go_loopw [9, 23] (fun b i wr => ∃ (k : Nat) (v : Int), k ≤ F.length ∧ i = i64 k ∧ b = i64 v ∧ Hid ((k = 0 ∧ v = -1) ∨ (0 < k ∧ bestD l (F.take k) v)) ∧ ∃ g : Up w2, wr = up w2 g) (fun _ i _ => F.length - (intOf i).toNat)
    case atStart => exact ⟨0, -1, by omega, rfl, rfl, .inl ⟨rfl, rfl⟩, ex_up (by repeat (first | exact Below.refl _ _ | refine bl_tr ?_ _ | refine bl_al ?_ _ | refine bl_dr ?_ | refine bl_up ?_ _ | refine Below.drew ?_ | refine bl_alloc ?_ _ | refine Below.setCell ?_ (by first | (simp; done) | (simp; omega)) _))⟩
    case round =>
      obtain ⟨k, v, hk, rfl, rfl, hI, g, rfl⟩ := hrel
      by_cases hlt : k < F.length
      · obtain ⟨b1, off1, rfl, hb1, hcc⟩ := HO.out.at (by omega)
        have c0 := hcc k _ (ics_get hlt)
        have hx := HF.out F[k] (List.getElem_mem hlt)
        have htk := List.take_succ_eq_append_getElem hlt
        obtain ⟨x, hxx⟩ : ∃ x : Nat, F[k] = (x : Int) := ⟨F[k].toNat, by omega⟩
        rw [hxx] at c0 hx htk
        have HTK := Lib.hid htk
        have hxl : x < l.length := by omega
        obtain ⟨b, off, rfl, hb, hall⟩ := def_all HL.out hxl
        obtain ⟨_, c2, c3, c4⟩ := hall x hxl
        rcases hI with ⟨hk0, rfl⟩ | ⟨hk0, hB⟩
        · have HN := Lib.hid (show bestD l (F.take (k + 1)) (x : Int) by rw [HTK.out, hk0, List.take_zero, List.nil_append]; exact bestD_one l _)
          clear hcc hall htk hxx hk0
          go_wp2_with (first | ((with_reducible refine wp_region_up (by kernel_rfl) (by kernel_rfl) ?_); (repeat (go_big_quiet_step (fail))); refine wpQuiet_nil ?_; intro _ hw'; obtain ⟨nq, hw''⟩ := hw'; subst hw''))
          go_roundw
          case rel => exact ⟨k + 1, x, by omega, by go_num, rfl, .inr ⟨by omega, HN.out⟩, ex_up (by repeat (first | exact Below.refl _ _ | refine bl_tr ?_ _ | refine bl_al ?_ _ | refine bl_dr ?_ | refine bl_up ?_ _ | refine Below.drew ?_ | refine bl_alloc ?_ _ | refine Below.setCell ?_ (by first | (simp; done) | (simp; omega)) _))⟩
          case measure => (simp [intOf]; try omega)
        · have hvm := HF.out v (List.mem_of_mem_take hB.1)
          obtain ⟨y, rfl⟩ : ∃ y : Nat, v = (y : Int) := ⟨v.toNat, by omega⟩
          have hyl : y < l.length := by omega
          have z1 : decide ((y : Int) < 0) = false := decide_eq_false (by omega)
          obtain ⟨_, d2, d3, d4⟩ := hall y hyl
          by_cases hgt : (dat l x).weight > (dat l y).weight
          · have HN := Lib.hid (show bestD l (F.take (k + 1)) (x : Int) by rw [HTK.out]; exact bestD_new hB hgt)
            clear hcc hall htk hxx hk0 hB
            go_wp2_with (first | ((with_reducible refine wp_region_up (by kernel_rfl) (by kernel_rfl) ?_); (repeat (go_big_quiet_step (fail))); refine wpQuiet_nil ?_; intro _ hw'; obtain ⟨nq, hw''⟩ := hw'; subst hw''))
            go_roundw
            case rel => exact ⟨k + 1, x, by omega, by go_num, rfl, .inr ⟨by omega, HN.out⟩, ex_up (by repeat (first | exact Below.refl _ _ | refine bl_tr ?_ _ | refine bl_al ?_ _ | refine bl_dr ?_ | refine bl_up ?_ _ | refine Below.drew ?_ | refine bl_alloc ?_ _ | refine Below.setCell ?_ (by first | (simp; done) | (simp; omega)) _))⟩
            case measure => (simp [intOf]; try omega)
          · have HN := Lib.hid (show bestD l (F.take (k + 1)) (y : Int) by rw [HTK.out]; exact bestD_old hB (Int.not_lt.1 hgt))
            have hgf : decide ((dat l x).weight > (dat l y).weight) = false := decide_eq_false hgt
            clear hcc hall htk hxx hk0 hB
            go_wp2_with (first | ((with_reducible refine wp_region_up (by kernel_rfl) (by kernel_rfl) ?_); (repeat (go_big_quiet_step (fail))); refine wpQuiet_nil ?_; intro _ hw'; obtain ⟨nq, hw''⟩ := hw'; subst hw''))
            go_roundw
            case rel => exact ⟨k + 1, y, by omega, by go_num, rfl, .inr ⟨by omega, HN.out⟩, ex_up (by repeat (first | exact Below.refl _ _ | refine bl_tr ?_ _ | refine bl_al ?_ _ | refine bl_dr ?_ | refine bl_up ?_ _ | refine Below.drew ?_ | refine bl_alloc ?_ _ | refine Below.setCell ?_ (by first | (simp; done) | (simp; omega)) _))⟩
            case measure => (simp [intOf]; try omega)
      · obtain rfl : k = F.length := by omega
        rcases hI with ⟨hk0, rfl⟩ | ⟨hk0, hB⟩
        · have hF := Lib.hid (List.eq_nil_of_length_eq_zero hk0)
          go_wp2_with (first | ((with_reducible refine wp_region_up (by kernel_rfl) (by kernel_rfl) ?_); (repeat (go_big_quiet_step (fail))); refine wpQuiet_nil ?_; intro _ hw'; obtain ⟨nq, hw''⟩ := hw'; subst hw''))
          go_ret2
          exact ⟨0, 3, rfl, (show likPost l (fitL l s) 0 3 by rw [HFF.out]; exact .inl ⟨hF.out, rfl⟩), .of (HU.out.trans (Below.mono (up_below w2 g) HU.out.size))⟩
        · rw [List.take_length] at hB
          have hvm := HF.out v hB.1
          have hv0 : ¬ v < 0 := by omega
          have HB := Lib.hid hB
          clear hB
          go_wp2_with (first | ((with_reducible refine wp_region_up (by kernel_rfl) (by kernel_rfl) ?_); (repeat (go_big_quiet_step (fail))); refine wpQuiet_nil ?_; intro _ hw'; obtain ⟨nq, hw''⟩ := hw'; subst hw''))
          go_ret2
          exact ⟨v, 0, rfl, (show likPost l (fitL l s) v 0 by rw [HFF.out]; exact .inr ⟨fun e => by rw [e] at hk0; simp at hk0, rfl, HB.out⟩), .of (HU.out.trans (Below.mono (up_below w2 g) HU.out.size))⟩
end Go.Proofs.Ytfggbcmpgkhlaaa

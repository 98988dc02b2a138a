/-
  Answers of tests, the defects that fit, whether the defect is found: the program's and the reference's. The bounds stand at each.
-/
import Derived.Test.YtfggbcmpgkhlaaaTest1
import Derived.Test.YtfggbcmpgkhlaaaApp
namespace Go.Proofs.Ytfggbcmpgkhlaaa
open Go.RowKit
theorem ansC_1 {c : UInt8} (h : ((c.toNat : Int) != 48) = false) : ansC c = true := by
  have : (c.toNat : Int) = 48 := by simpa using h
  simp [ansC, this]
theorem ansC_2 {c : UInt8} (h : ((c.toNat : Int) != 49) = false) : ansC c = true := by
  have : (c.toNat : Int) = 49 := by simpa using h
  simp [ansC, this]
theorem ansC_3 {c : UInt8} (h : ((c.toNat : Int) != 63) = false) : ansC c = true := by
  have : (c.toNat : Int) = 63 := by simpa using h
  simp [ansC, this]
theorem ansC_0 {c : UInt8} (h : ((c.toNat : Int) != 48) = true) (h2 : ((c.toNat : Int) != 49) = true) (h3 : ((c.toNat : Int) != 63) = true) : ansC c = false := by
  have e1 : ¬ (c.toNat : Int) = 48 := by simpa using h
  have e2 : ¬ (c.toNat : Int) = 49 := by simpa using h2
  have e3 : ¬ (c.toNat : Int) = 63 := by simpa using h3
  rw [ansC, decide_eq_false e1, decide_eq_false e2, decide_eq_false e3]; rfl
set_option maxRecDepth 10000 in
theorem areAnswers_any (s : ByteArray) (n : Nat) (w : World) (hs : s.size ≤ 9223372036854775807) (hn : n ≤ 100000000) :
    Calls Try.prog 60 #[.string s, i64 n] w fun e w' => e = .returned (.bool (answersB s n)) ∧ w = w' := by
  go_enter Try.func60, Try.ntmps60
  go_wp2
  go_loop [8] (fun i => ∃ k : Nat, k ≤ s.size ∧ i = i64 k ∧ Hid (∀ j, j < k → ansC (byteAt s j) = true)) (fun i => s.size - (intOf i).toNat)
  case atStart => exact ⟨0, by omega, rfl, fun j hj => by omega⟩
  case round =>
    obtain ⟨k, hk, rfl, hok⟩ := hrel
    by_cases hlt : k < s.size
    · have hb := Lib.hid (byteAt_eq hlt)
      cases q1 : ((s[k].toNat : Int) != 48)
      · have hq := Lib.hid (show ansC (byteAt s k) = true by rw [← hb.out]; exact ansC_1 q1)
        go_wp2
        go_round
        case rel => have hx := lt_ext (P := fun j => ansC (byteAt s j) = true) hok.out hq.out; exact ⟨k + 1, by omega, by go_num, hx⟩
        case measure => (simp [intOf]; try omega)
      cases q2 : ((s[k].toNat : Int) != 49)
      · have hq := Lib.hid (show ansC (byteAt s k) = true by rw [← hb.out]; exact ansC_2 q2)
        go_wp2
        go_round
        case rel => have hx := lt_ext (P := fun j => ansC (byteAt s j) = true) hok.out hq.out; exact ⟨k + 1, by omega, by go_num, hx⟩
        case measure => (simp [intOf]; try omega)
      cases q3 : ((s[k].toNat : Int) != 63)
      · have hq := Lib.hid (show ansC (byteAt s k) = true by rw [← hb.out]; exact ansC_3 q3)
        go_wp2
        go_round
        case rel => have hx := lt_ext (P := fun j => ansC (byteAt s j) = true) hok.out hq.out; exact ⟨k + 1, by omega, by go_num, hx⟩
        case measure => (simp [intOf]; try omega)
      have hf := Lib.hid (answersB_at (n := n) hlt (show ansC (byteAt s k) = false by rw [← hb.out]; exact ansC_0 q1 q2 q3))
      go_wp2
      go_ret
      exact ⟨ret_bool hf.out.symm, rfl⟩
    · obtain rfl : k = s.size := by omega
      by_cases e : s.size = n
      · have hf := Lib.hid (answersB_true e hok.out)
        go_wp2
        go_ret
        exact ⟨ret_bool (by rw [hf.out]; try (first | rfl | (rw [beq_iff_eq]; omega))), rfl⟩
      · have hf := Lib.hid (answersB_len e)
        go_wp2
        go_ret
        exact ⟨ret_bool (by rw [hf.out, beq_eq_false_iff_ne]; omega), rfl⟩
/-- where a byte lies in "01?", -1 where it does not -/
def idxA (c : UInt8) : Int := if c.toNat = 48 then 0 else if c.toNat = 49 then 1 else if c.toNat = 63 then 2 else -1
theorem idxA_neg {c : UInt8} : decide (idxA c < 0) = !ansC c := by
  unfold idxA ansC
  split
  · rename_i h; simp [h]
  · split
    · rename_i h; simp [h]
    · split
      · rename_i h; simp [h]
      · rename_i h1 h2 h3
        have e1 : ¬ (c.toNat : Int) = 48 := by omega
        have e2 : ¬ (c.toNat : Int) = 49 := by omega
        have e3 : ¬ (c.toNat : Int) = 63 := by omega
        rw [decide_eq_false e1, decide_eq_false e2, decide_eq_false e3]; rfl
set_option maxRecDepth 10000 in
theorem idx01_any (c : UInt8) (w : World) :
    Calls Try.prog 70 #[.string ⟨#[48, 49, 63]⟩, .int .u8 c.toNat] w fun e w' => e = .returned (i64 (idxA c)) ∧ w = w' := by
  go_enter Try.func70, Try.ntmps70
  go_wp2
  go_loop [5] (fun i => ∃ k : Nat, k ≤ 3 ∧ i = i64 k ∧ (0 < k → ¬ (c.toNat : Int) = 48) ∧ (1 < k → ¬ (c.toNat : Int) = 49) ∧ (2 < k → ¬ (c.toNat : Int) = 63)) (fun i => 3 - (intOf i).toNat)
  case atStart => exact ⟨0, by omega, rfl, fun h => by omega, fun h => by omega, fun h => by omega⟩
  case round =>
    obtain ⟨k, hk, rfl, h0, h1, h2⟩ := hrel
    rcases (show k = 0 ∨ k = 1 ∨ k = 2 ∨ k = 3 by omega) with rfl | rfl | rfl | rfl
    · by_cases q0 : (c.toNat : Int) = 48
      · have hi := Lib.hid (show idxA c = 0 by unfold idxA; simp [show c.toNat = 48 by omega])
        have q' : ((((⟨#[48, 49, 63]⟩ : ByteArray)[0]'(by decide)).toNat : Int) == (c.toNat : Int)) = true := by show (((48 : Nat) : Int) == _) = true; rw [beq_iff_eq]; omega
        go_wp2
        go_ret
        exact ⟨ret_int hi.out.symm, rfl⟩
      · have q' : ((((⟨#[48, 49, 63]⟩ : ByteArray)[0]'(by decide)).toNat : Int) == (c.toNat : Int)) = false := by show (((48 : Nat) : Int) == _) = false; rw [beq_eq_false_iff_ne]; omega
        go_wp2
        go_round
        case rel => exact ⟨0 + 1, by omega, by go_num, fun _ => q0, fun h => by omega, fun h => by omega⟩
        case measure => (simp [intOf]; try omega)
    · by_cases q1 : (c.toNat : Int) = 49
      · have hi := Lib.hid (show idxA c = 1 by unfold idxA; simp [show c.toNat = 49 by omega])
        have q' : ((((⟨#[48, 49, 63]⟩ : ByteArray)[1]'(by decide)).toNat : Int) == (c.toNat : Int)) = true := by show (((49 : Nat) : Int) == _) = true; rw [beq_iff_eq]; omega
        go_wp2
        go_ret
        exact ⟨ret_int hi.out.symm, rfl⟩
      · have q' : ((((⟨#[48, 49, 63]⟩ : ByteArray)[1]'(by decide)).toNat : Int) == (c.toNat : Int)) = false := by show (((49 : Nat) : Int) == _) = false; rw [beq_eq_false_iff_ne]; omega
        go_wp2
        go_round
        case rel => exact ⟨1 + 1, by omega, by go_num, fun _ => h0 (by omega), fun _ => q1, fun h => by omega⟩
        case measure => (simp [intOf]; try omega)
    · by_cases q2 : (c.toNat : Int) = 63
      · have hi := Lib.hid (show idxA c = 2 by unfold idxA; simp [show c.toNat = 63 by omega])
        have q' : ((((⟨#[48, 49, 63]⟩ : ByteArray)[2]'(by decide)).toNat : Int) == (c.toNat : Int)) = true := by show (((63 : Nat) : Int) == _) = true; rw [beq_iff_eq]; omega
        go_wp2
        go_ret
        exact ⟨ret_int hi.out.symm, rfl⟩
      · have q' : ((((⟨#[48, 49, 63]⟩ : ByteArray)[2]'(by decide)).toNat : Int) == (c.toNat : Int)) = false := by show (((63 : Nat) : Int) == _) = false; rw [beq_eq_false_iff_ne]; omega
        go_wp2
        go_round
        case rel => exact ⟨2 + 1, by omega, by go_num, fun _ => h0 (by omega), fun _ => h1 (by omega), fun _ => q2⟩
        case measure => (simp [intOf]; try omega)
    · have hi := Lib.hid (show idxA c = -1 by
        unfold idxA
        have e0 := h0 (by omega)
        have e1 := h1 (by omega)
        have e2 := h2 (by omega)
        rw [if_neg (by omega), if_neg (by omega), if_neg (by omega)])
      go_wp2
      go_ret
      exact ⟨ret_int hi.out.symm, rfl⟩
set_option maxRecDepth 10000 in
theorem l23Answers_any (s : ByteArray) (n : Nat) (w : World) (hs : s.size ≤ 9223372036854775807) (hn : n ≤ 100000000) :
    Calls Try.prog 63 #[.string s, i64 n] w fun e w' => e = .returned (.bool (answersB s n)) ∧ w = w' := by
  go_enter Try.func63, Try.ntmps63
  go_wp2
  go_loop [5] (fun i => ∃ k : Nat, k ≤ s.size ∧ i = i64 k ∧ Hid (∀ j, j < k → ansC (byteAt s j) = true)) (fun i => s.size - (intOf i).toNat)
  case atStart => exact ⟨0, by omega, rfl, fun j hj => by omega⟩
  case round =>
    obtain ⟨k, hk, rfl, hok⟩ := hrel
    by_cases hlt : k < s.size
    · have hb := Lib.hid (byteAt_eq hlt)
      cases q1 : decide (idxA s[k] < 0)
      · have hq := Lib.hid (show ansC (byteAt s k) = true by rw [idxA_neg] at q1; rw [← hb.out]; simpa using q1)
        go_wp2_with (go_at_call 70; refine (idx01_any _ _).mono ?_; rintro e w' ⟨rfl, rfl⟩)
        go_round
        case rel => have hx := lt_ext (P := fun j => ansC (byteAt s j) = true) hok.out hq.out; exact ⟨k + 1, by omega, by go_num, hx⟩
        case measure => (simp [intOf]; try omega)
      · have hf := Lib.hid (answersB_at (n := n) hlt (show ansC (byteAt s k) = false by rw [idxA_neg] at q1; rw [← hb.out]; simpa using q1))
        go_wp2_with (go_at_call 70; refine (idx01_any _ _).mono ?_; rintro e w' ⟨rfl, rfl⟩)
        go_ret
        exact ⟨ret_bool hf.out.symm, rfl⟩
    · obtain rfl : k = s.size := by omega
      by_cases e : s.size = n
      · have hf := Lib.hid (answersB_true e hok.out)
        go_wp2
        go_ret
        exact ⟨ret_bool (by rw [hf.out]; try (first | rfl | (rw [beq_iff_eq]; omega))), rfl⟩
      · have hf := Lib.hid (answersB_len e)
        go_wp2
        go_ret
        exact ⟨ret_bool (by rw [hf.out, beq_eq_false_iff_ne]; omega), rfl⟩
theorem el_int : ElemOf Try.prog 25 2 (i64 0) 1 8 := elem_of Try.underlying25 (by kernel_rfl) rfl (by omega)
theorem ics_app (l : List Int) (x : Int) : ics (l ++ [x]) = ics l ++ [i64 x] := by simp [ics]
theorem fitC_1 {d : Defect} {s : ByteArray} {k : Nat} (hk : k < s.size) (h : ((s[k].toNat : Int) == 63) = true) : fitC d s k = true := by
  rw [beq_iff_eq, byteAt_eq hk] at h
  rw [fitC, decide_eq_true (by omega)]; rfl
theorem fitC_2 {d : Defect} {s : ByteArray} {k : Nat} (hk : k < s.size) (hd : k < d.signs.size) (h : ((s[k].toNat : Int) == (d.signs[k].toNat : Int)) = true) : fitC d s k = true := by
  rw [beq_iff_eq, byteAt_eq hk, byteAt_eq hd] at h
  rw [fitC, decide_eq_true (show (byteAt s k).toNat = (byteAt d.signs k).toNat by omega), Bool.or_true]
theorem fitC_0 {d : Defect} {s : ByteArray} {k : Nat} (hk : k < s.size) (hd : k < d.signs.size) (h1 : ((s[k].toNat : Int) == 63) = false) (h : ((s[k].toNat : Int) == (d.signs[k].toNat : Int)) = false) : fitC d s k = false := by
  rw [beq_eq_false_iff_ne, byteAt_eq hk] at h1
  rw [beq_eq_false_iff_ne, byteAt_eq hk, byteAt_eq hd] at h
  rw [fitC, decide_eq_false (by omega), decide_eq_false (by omega)]; rfl
def sizesOf (l : List Defect) (n : Nat) : Prop := ∀ i, i < l.length → (dat l i).signs.size = n
set_option maxRecDepth 10000 in
set_option maxHeartbeats 2000000 in
theorem fittingI_any (A : Option Addr) (c : Nat) (l : List Defect) (s : ByteArray) (w : World) (h : Rds w 3 A l.length (dfcs l)) (hn : l.length ≤ 100000000) (hs : s.size ≤ 100000000) (hz : sizesOf l s.size) :
    Calls Try.prog 47 #[.slice A l.length c, .string s] w fun e w' => ∃ A' c', e = .returned (.slice A' (fitL l s).length c') ∧ w'.ownsRow w.heap.size 2 1 (.slice A' (fitL l s).length c') (fitL l s).length (ics (fitL l s)) ∧ UpOf w w' := by
  have HZ := Lib.hid hz
  clear hz
  have hOwn := Lib.hid (World.ownsRow_lit (base := w.heap.size) (e := 2) (size := 1) w #[] 0 (Nat.le_refl _) (by unfold maxLen; omega) rfl)
  go_enter Try.func47, Try.ntmps47
  go_wp2_with (first | ((with_reducible refine wp_region_up (by kernel_rfl) (by kernel_rfl) ?_); (repeat (go_big_quiet_step (fail))); refine wpQuiet_nil ?_; intro _ hw'; obtain ⟨nq, hw''⟩ := hw'; subst hw''))
  go_loopw [5, 13] (fun v i wr => ∃ k : Nat, k ≤ l.length ∧ i = i64 k ∧ ∃ A' c', v = .slice A' (fitN l s k).length c' ∧ wr.ownsRow w.heap.size 2 1 (.slice A' (fitN l s k).length c') (fitN l s k).length (ics (fitN l s k)) ∧ ∃ g : Up w, wr = up w g) (fun _ i _ => l.length - (intOf i).toNat)
  case atStart => exact ⟨0, by omega, rfl, _, _, rfl, hOwn.out, ex_up (by repeat (first | exact Below.refl _ _ | refine bl_tr ?_ _ | refine bl_al ?_ _ | refine bl_dr ?_ | refine bl_up ?_ _ | refine Below.drew ?_ | refine bl_alloc ?_ _ | refine Below.setCell ?_ (by first | (simp; done) | (simp; omega)) _))⟩
  case round =>
    obtain ⟨k, hk, rfl, A', c', rfl, hown, g, rfl⟩ := hrel
    have hol := fitN_len l s k
    by_cases hlt : k < l.length
    · obtain ⟨b, off, rfl, hb, ha⟩ := def_all h hlt
      obtain ⟨_, c0, c1, c2⟩ := ha k hlt
      have hsz := HZ.out k hlt
      have HO := Lib.hid hown
      clear ha h hown
      go_wp2_with (first | ((with_reducible refine wp_region_up (by kernel_rfl) (by kernel_rfl) ?_); (repeat (go_big_quiet_step (fail))); refine wpQuiet_nil ?_; intro _ hw'; obtain ⟨nq, hw''⟩ := hw'; subst hw''))
      have P2 : (up w (g.al (.cells #[.string (dat l k).name, i64 (dat l k).weight, .string (dat l k).signs] 38))).cell? ⟨(up w g).heap.size, 2, none⟩ = some (.string (dat l k).signs) := by simp
      have P3 : (up w g).heap.size < (up w (g.al (.cells #[.string (dat l k).name, i64 (dat l k).weight, .string (dat l k).signs] 38))).heap.size := by simp
      have hB1 := up_below w (g.al (.cells #[.string (dat l k).name, i64 (dat l k).weight, .string (dat l k).signs] 38))
      have hO1 : Hid ((up w (g.al (.cells #[.string (dat l k).name, i64 (dat l k).weight, .string (dat l k).signs] 38))).ownsRow w.heap.size 2 1 (.slice A' (fitN l s k).length c') (fitN l s k).length (ics (fitN l s k))) := own_below HO.out (by repeat (first | exact Below.refl _ _ | refine bl_tr ?_ _ | refine bl_al ?_ _ | refine bl_dr ?_ | refine bl_up ?_ _ | refine Below.drew ?_ | refine bl_alloc ?_ _ | refine Below.setCell ?_ (by first | (simp; done) | (simp; omega)) _))
      clear c0 c1 c2 hb HO
      revert P2 P3 hB1 hO1
      generalize up w (g.al (.cells #[.string (dat l k).name, i64 (dat l k).weight, .string (dat l k).signs] 38)) = W1
      generalize (up w g).heap.size = p
      intro P2 P3 hB1 HO
      have HB1 := Lib.hid hB1
      clear hB1
      go_loopw [8, 20] (fun v i wr => ∃ j : Nat, j ≤ s.size ∧ i = i64 j ∧ v = .bool (fitsN (dat l k) s j) ∧ ∃ g' : Up W1, wr = up W1 g') (fun _ i _ => s.size - (intOf i).toNat)
      case atStart => exact ⟨0, by omega, rfl, rfl, ex_up (by repeat (first | exact Below.refl _ _ | refine bl_tr ?_ _ | refine bl_al ?_ _ | refine bl_dr ?_ | refine bl_up ?_ _ | refine Below.drew ?_ | refine bl_alloc ?_ _ | refine Below.setCell ?_ (by first | (simp; done) | (simp; omega)) _))⟩
      case round =>
        obtain ⟨j, hj, rfl, rfl, g', rfl⟩ := hrel
        by_cases hlt2 : j < s.size
        · have hd : j < (dat l k).signs.size := by omega
          cases q0 : fitsN (dat l k) s j
          · have hN := Lib.hid (show fitsN (dat l k) s (j + 1) = false by rw [fitsN, q0]; rfl)
            go_wp2_with (first | ((with_reducible refine wp_region_up (by kernel_rfl) (by kernel_rfl) ?_); (repeat (go_big_quiet_step (fail))); refine wpQuiet_nil ?_; intro _ hw'; obtain ⟨nq, hw''⟩ := hw'; subst hw''))
            go_roundw
            case rel => exact ⟨j + 1, by omega, by go_num, by rw [hN.out], ex_up (by repeat (first | exact Below.refl _ _ | refine bl_tr ?_ _ | refine bl_al ?_ _ | refine bl_dr ?_ | refine bl_up ?_ _ | refine Below.drew ?_ | refine bl_alloc ?_ _ | refine Below.setCell ?_ (by first | (simp; done) | (simp; omega)) _))⟩
            case measure => (simp [intOf]; try omega)
          cases q1 : ((s[j].toNat : Int) == 63)
          · cases q2 : ((s[j].toNat : Int) == ((dat l k).signs[j].toNat : Int))
            · have hN := Lib.hid (show fitsN (dat l k) s (j + 1) = false by rw [fitsN, q0, fitC_0 hlt2 hd q1 q2]; rfl)
              go_wp2_with (first | ((with_reducible refine wp_region_up (by kernel_rfl) (by kernel_rfl) ?_); (repeat (go_big_quiet_step (fail))); refine wpQuiet_nil ?_; intro _ hw'; obtain ⟨nq, hw''⟩ := hw'; subst hw''))
              go_roundw
              case rel => exact ⟨j + 1, by omega, by go_num, by rw [hN.out], ex_up (by repeat (first | exact Below.refl _ _ | refine bl_tr ?_ _ | refine bl_al ?_ _ | refine bl_dr ?_ | refine bl_up ?_ _ | refine Below.drew ?_ | refine bl_alloc ?_ _ | refine Below.setCell ?_ (by first | (simp; done) | (simp; omega)) _))⟩
              case measure => (simp [intOf]; try omega)
            · have hN := Lib.hid (show fitsN (dat l k) s (j + 1) = true by rw [fitsN, q0, fitC_2 hlt2 hd q2]; rfl)
              go_wp2_with (first | ((with_reducible refine wp_region_up (by kernel_rfl) (by kernel_rfl) ?_); (repeat (go_big_quiet_step (fail))); refine wpQuiet_nil ?_; intro _ hw'; obtain ⟨nq, hw''⟩ := hw'; subst hw''))
              go_roundw
              case rel => exact ⟨j + 1, by omega, by go_num, by rw [hN.out], ex_up (by repeat (first | exact Below.refl _ _ | refine bl_tr ?_ _ | refine bl_al ?_ _ | refine bl_dr ?_ | refine bl_up ?_ _ | refine Below.drew ?_ | refine bl_alloc ?_ _ | refine Below.setCell ?_ (by first | (simp; done) | (simp; omega)) _))⟩
              case measure => (simp [intOf]; try omega)
          · have hN := Lib.hid (show fitsN (dat l k) s (j + 1) = true by rw [fitsN, q0, fitC_1 hlt2 q1]; rfl)
            go_wp2_with (first | ((with_reducible refine wp_region_up (by kernel_rfl) (by kernel_rfl) ?_); (repeat (go_big_quiet_step (fail))); refine wpQuiet_nil ?_; intro _ hw'; obtain ⟨nq, hw''⟩ := hw'; subst hw''))
            go_roundw
            case rel => exact ⟨j + 1, by omega, by go_num, by rw [hN.out], ex_up (by repeat (first | exact Below.refl _ _ | refine bl_tr ?_ _ | refine bl_al ?_ _ | refine bl_dr ?_ | refine bl_up ?_ _ | refine Below.drew ?_ | refine bl_alloc ?_ _ | refine Below.setCell ?_ (by first | (simp; done) | (simp; omega)) _))⟩
            case measure => (simp [intOf]; try omega)
        · obtain rfl : j = s.size := by omega
          cases q : fitsN (dat l k) s s.size
          · have hN := Lib.hid (show fitN l s (k + 1) = fitN l s k by rw [fitN, if_neg (by rw [fits, q]; simp)])
            go_wp2_with (first | ((with_reducible refine wp_region_up (by kernel_rfl) (by kernel_rfl) ?_); (repeat (go_big_quiet_step (fail))); refine wpQuiet_nil ?_; intro _ hw'; obtain ⟨nq, hw''⟩ := hw'; subst hw''))
            go_roundw
            case rel => exact ⟨k + 1, by omega, by go_num, A', c', by rw [hN.out], by rw [hN.out]; exact own_below HO.out (by repeat (first | exact Below.refl _ _ | refine bl_tr ?_ _ | refine bl_al ?_ _ | refine bl_dr ?_ | refine bl_up ?_ _ | refine Below.drew ?_ | refine bl_alloc ?_ _ | refine Below.setCell ?_ (by first | (simp; done) | (simp; omega)) _)), ⟨_, HB1.out.trans (Below.mono (by repeat (first | exact Below.refl _ _ | refine bl_tr ?_ _ | refine bl_al ?_ _ | refine bl_dr ?_ | refine bl_up ?_ _ | refine Below.drew ?_ | refine bl_alloc ?_ _ | refine Below.setCell ?_ (by first | (simp; done) | (simp; omega)) _)) HB1.out.size)⟩, rfl⟩
            case measure => (simp [intOf]; try omega)
          · have hN := Lib.hid (show fitN l s (k + 1) = fitN l s k ++ [(k : Int)] by rw [fitN, if_pos (by rw [fits, q])])
            go_wp2_with (first | (at_builtin; refine wpl_appU rfl _ _ 25 rfl w w.heap.size 2 _ 1 8 el_int _ _ _ rfl (own_below HO.out (by repeat (first | exact Below.refl _ _ | refine bl_tr ?_ _ | refine bl_al ?_ _ | refine bl_dr ?_ | refine bl_up ?_ _ | refine Below.drew ?_ | refine bl_alloc ?_ _ | refine Below.setCell ?_ (by first | (simp; done) | (simp; omega)) _))) _ 1 1 [i64 (k : Int)] rfl (rds_new _ _ _ 1 1 rfl) (fun u hu => by simp at hu; subst hu; rfl) (by unfold maxLen; omega) (by omega) (Nat.le_trans HB1.out.size (up_below W1 _).size) (HB1.out.trans (Below.mono (by repeat (first | exact Below.refl _ _ | refine bl_tr ?_ _ | refine bl_al ?_ _ | refine bl_dr ?_ | refine bl_up ?_ _ | refine Below.drew ?_ | refine bl_alloc ?_ _ | refine Below.setCell ?_ (by first | (simp; done) | (simp; omega)) _)) HB1.out.size)) (Nat.le_refl _) ?_; intro A2 c2 g2 o2) | ((with_reducible refine wp_region_up (by kernel_rfl) (by kernel_rfl) ?_); (repeat (go_big_quiet_step (fail))); refine wpQuiet_nil ?_; intro _ hw'; obtain ⟨nq, hw''⟩ := hw'; subst hw''))
            go_roundw
            case rel => exact ⟨k + 1, by omega, by go_num, A2, c2, by rw [hN.out, List.length_append]; rfl, by rw [hN.out, List.length_append, ics_app]; exact o2, _, rfl⟩
            case measure => (simp [intOf]; try omega)
    · obtain rfl : k = l.length := by omega
      go_wp2_with (first | ((with_reducible refine wp_region_up (by kernel_rfl) (by kernel_rfl) ?_); (repeat (go_big_quiet_step (fail))); refine wpQuiet_nil ?_; intro _ hw'; obtain ⟨nq, hw''⟩ := hw'; subst hw''))
      go_ret
      exact ⟨A', c', rfl, hown, UpOf.of (by repeat (first | exact Below.refl _ _ | refine bl_tr ?_ _ | refine bl_al ?_ _ | refine bl_dr ?_ | refine bl_up ?_ _ | refine Below.drew ?_ | refine bl_alloc ?_ _ | refine Below.setCell ?_ (by first | (simp; done) | (simp; omega)) _))⟩
set_option maxRecDepth 10000 in
set_option maxHeartbeats 2000000 in
theorem l23Fit_any (A : Option Addr) (c : Nat) (l : List Defect) (s : ByteArray) (w : World) (h : Rds w 3 A l.length (dfcs l)) (hn : l.length ≤ 100000000) (hs : s.size ≤ 100000000) (hz : sizesOf l s.size) :
    Calls Try.prog 71 #[.slice A l.length c, .string s] w fun e w' => ∃ A' c', e = .returned (.slice A' (fitL l s).length c') ∧ w'.ownsRow w.heap.size 2 1 (.slice A' (fitL l s).length c') (fitL l s).length (ics (fitL l s)) ∧ UpOf w w' := by
  have HZ := Lib.hid hz
  clear hz
  have hOwn := Lib.hid (World.ownsRow_lit (base := w.heap.size) (e := 2) (size := 1) w #[] 0 (Nat.le_refl _) (by unfold maxLen; omega) rfl)
  go_enter Try.func71, Try.ntmps71
  go_wp2_with (first | ((with_reducible refine wp_region_up (by kernel_rfl) (by kernel_rfl) ?_); (repeat (go_big_quiet_step (fail))); refine wpQuiet_nil ?_; intro _ hw'; obtain ⟨nq, hw''⟩ := hw'; subst hw''))
  go_loopw [5, 6] (fun v i wr => ∃ k : Nat, k ≤ l.length ∧ i = i64 k ∧ ∃ A' c', v = .slice A' (fitN l s k).length c' ∧ wr.ownsRow w.heap.size 2 1 (.slice A' (fitN l s k).length c') (fitN l s k).length (ics (fitN l s k)) ∧ ∃ g : Up w, wr = up w g) (fun _ i _ => l.length - (intOf i).toNat)
  case atStart => exact ⟨0, by omega, rfl, _, _, rfl, hOwn.out, ex_up (by repeat (first | exact Below.refl _ _ | refine bl_tr ?_ _ | refine bl_al ?_ _ | refine bl_dr ?_ | refine bl_up ?_ _ | refine Below.drew ?_ | refine bl_alloc ?_ _ | refine Below.setCell ?_ (by first | (simp; done) | (simp; omega)) _))⟩
  case round =>
    obtain ⟨k, hk, rfl, A', c', rfl, hown, g, rfl⟩ := hrel
    have hol := fitN_len l s k
    by_cases hlt : k < l.length
    · obtain ⟨b, off, rfl, hb, ha⟩ := def_all h hlt
      have hsz := HZ.out k hlt
      have hat := (ha k hlt).below (up_below w g)
      have HO := Lib.hid hown
      have HB1 := Lib.hid (up_below w g)
      clear ha h hown hb
      revert HO HB1 hat
      generalize up w g = W1
      intro hat HO HB1
      obtain ⟨hb, c0, c1, c2⟩ := hat
      go_wp2_with (first | ((with_reducible refine wp_region_up (by kernel_rfl) (by kernel_rfl) ?_); (repeat (go_big_quiet_step (fail))); refine wpQuiet_nil ?_; intro _ hw'; obtain ⟨nq, hw''⟩ := hw'; subst hw''))
      go_loopw [7, 8] (fun v i wr => ∃ j : Nat, j ≤ s.size ∧ i = i64 j ∧ v = .bool (fitsN (dat l k) s j) ∧ ∃ g' : Up W1, wr = up W1 g') (fun _ i _ => s.size - (intOf i).toNat)
      case atStart => exact ⟨0, by omega, rfl, rfl, ex_up (by repeat (first | exact Below.refl _ _ | refine bl_tr ?_ _ | refine bl_al ?_ _ | refine bl_dr ?_ | refine bl_up ?_ _ | refine Below.drew ?_ | refine bl_alloc ?_ _ | refine Below.setCell ?_ (by first | (simp; done) | (simp; omega)) _))⟩
      case round =>
        obtain ⟨j, hj, rfl, rfl, g', rfl⟩ := hrel
        by_cases hlt2 : j < s.size
        · have hd : j < (dat l k).signs.size := by omega
          cases q0 : fitsN (dat l k) s j
          · have hN := Lib.hid (show fitsN (dat l k) s (j + 1) = false by rw [fitsN, q0]; rfl)
            go_wp2_with (first | ((with_reducible refine wp_region_up (by kernel_rfl) (by kernel_rfl) ?_); (repeat (go_big_quiet_step (fail))); refine wpQuiet_nil ?_; intro _ hw'; obtain ⟨nq, hw''⟩ := hw'; subst hw''))
            go_roundw
            case rel => exact ⟨j + 1, by omega, by go_num, by rw [hN.out], ex_up (by repeat (first | exact Below.refl _ _ | refine bl_tr ?_ _ | refine bl_al ?_ _ | refine bl_dr ?_ | refine bl_up ?_ _ | refine Below.drew ?_ | refine bl_alloc ?_ _ | refine Below.setCell ?_ (by first | (simp; done) | (simp; omega)) _))⟩
            case measure => (simp [intOf]; try omega)
          cases q1 : ((s[j].toNat : Int) == 63)
          · cases q2 : ((s[j].toNat : Int) == ((dat l k).signs[j].toNat : Int))
            · have hN := Lib.hid (show fitsN (dat l k) s (j + 1) = false by rw [fitsN, q0, fitC_0 hlt2 hd q1 q2]; rfl)
              go_wp2_with (first | ((with_reducible refine wp_region_up (by kernel_rfl) (by kernel_rfl) ?_); (repeat (go_big_quiet_step (fail))); refine wpQuiet_nil ?_; intro _ hw'; obtain ⟨nq, hw''⟩ := hw'; subst hw''))
              go_roundw
              case rel => exact ⟨j + 1, by omega, by go_num, by rw [hN.out], ex_up (by repeat (first | exact Below.refl _ _ | refine bl_tr ?_ _ | refine bl_al ?_ _ | refine bl_dr ?_ | refine bl_up ?_ _ | refine Below.drew ?_ | refine bl_alloc ?_ _ | refine Below.setCell ?_ (by first | (simp; done) | (simp; omega)) _))⟩
              case measure => (simp [intOf]; try omega)
            · have hN := Lib.hid (show fitsN (dat l k) s (j + 1) = true by rw [fitsN, q0, fitC_2 hlt2 hd q2]; rfl)
              go_wp2_with (first | ((with_reducible refine wp_region_up (by kernel_rfl) (by kernel_rfl) ?_); (repeat (go_big_quiet_step (fail))); refine wpQuiet_nil ?_; intro _ hw'; obtain ⟨nq, hw''⟩ := hw'; subst hw''))
              go_roundw
              case rel => exact ⟨j + 1, by omega, by go_num, by rw [hN.out], ex_up (by repeat (first | exact Below.refl _ _ | refine bl_tr ?_ _ | refine bl_al ?_ _ | refine bl_dr ?_ | refine bl_up ?_ _ | refine Below.drew ?_ | refine bl_alloc ?_ _ | refine Below.setCell ?_ (by first | (simp; done) | (simp; omega)) _))⟩
              case measure => (simp [intOf]; try omega)
          · have hN := Lib.hid (show fitsN (dat l k) s (j + 1) = true by rw [fitsN, q0, fitC_1 hlt2 q1]; rfl)
            go_wp2_with (first | ((with_reducible refine wp_region_up (by kernel_rfl) (by kernel_rfl) ?_); (repeat (go_big_quiet_step (fail))); refine wpQuiet_nil ?_; intro _ hw'; obtain ⟨nq, hw''⟩ := hw'; subst hw''))
            go_roundw
            case rel => exact ⟨j + 1, by omega, by go_num, by rw [hN.out], ex_up (by repeat (first | exact Below.refl _ _ | refine bl_tr ?_ _ | refine bl_al ?_ _ | refine bl_dr ?_ | refine bl_up ?_ _ | refine Below.drew ?_ | refine bl_alloc ?_ _ | refine Below.setCell ?_ (by first | (simp; done) | (simp; omega)) _))⟩
            case measure => (simp [intOf]; try omega)
        · obtain rfl : j = s.size := by omega
          cases q : fitsN (dat l k) s s.size
          · have hN := Lib.hid (show fitN l s (k + 1) = fitN l s k by rw [fitN, if_neg (by rw [fits, q]; simp)])
            go_wp2_with (first | ((with_reducible refine wp_region_up (by kernel_rfl) (by kernel_rfl) ?_); (repeat (go_big_quiet_step (fail))); refine wpQuiet_nil ?_; intro _ hw'; obtain ⟨nq, hw''⟩ := hw'; subst hw''))
            go_roundw
            case rel => exact ⟨k + 1, by omega, by go_num, A', c', by rw [hN.out], by rw [hN.out]; exact own_below HO.out (by repeat (first | exact Below.refl _ _ | refine bl_tr ?_ _ | refine bl_al ?_ _ | refine bl_dr ?_ | refine bl_up ?_ _ | refine Below.drew ?_ | refine bl_alloc ?_ _ | refine Below.setCell ?_ (by first | (simp; done) | (simp; omega)) _)), ⟨_, HB1.out.trans (Below.mono (by repeat (first | exact Below.refl _ _ | refine bl_tr ?_ _ | refine bl_al ?_ _ | refine bl_dr ?_ | refine bl_up ?_ _ | refine Below.drew ?_ | refine bl_alloc ?_ _ | refine Below.setCell ?_ (by first | (simp; done) | (simp; omega)) _)) HB1.out.size)⟩, rfl⟩
            case measure => (simp [intOf]; try omega)
          · have hN := Lib.hid (show fitN l s (k + 1) = fitN l s k ++ [(k : Int)] by rw [fitN, if_pos (by rw [fits, q])])
            go_wp2_with (first | (at_builtin; refine wpl_appU rfl _ _ 25 rfl w w.heap.size 2 _ 1 8 el_int _ _ _ rfl (own_below HO.out (by repeat (first | exact Below.refl _ _ | refine bl_tr ?_ _ | refine bl_al ?_ _ | refine bl_dr ?_ | refine bl_up ?_ _ | refine Below.drew ?_ | refine bl_alloc ?_ _ | refine Below.setCell ?_ (by first | (simp; done) | (simp; omega)) _))) _ 1 1 [i64 (k : Int)] rfl (rds_new _ _ _ 1 1 rfl) (fun u hu => by simp at hu; subst hu; rfl) (by unfold maxLen; omega) (by omega) (Nat.le_trans HB1.out.size (up_below W1 _).size) (HB1.out.trans (Below.mono (by repeat (first | exact Below.refl _ _ | refine bl_tr ?_ _ | refine bl_al ?_ _ | refine bl_dr ?_ | refine bl_up ?_ _ | refine Below.drew ?_ | refine bl_alloc ?_ _ | refine Below.setCell ?_ (by first | (simp; done) | (simp; omega)) _)) HB1.out.size)) (Nat.le_refl _) ?_; intro A2 c2 g2 o2) | ((with_reducible refine wp_region_up (by kernel_rfl) (by kernel_rfl) ?_); (repeat (go_big_quiet_step (fail))); refine wpQuiet_nil ?_; intro _ hw'; obtain ⟨nq, hw''⟩ := hw'; subst hw''))
            go_roundw
            case rel => exact ⟨k + 1, by omega, by go_num, A2, c2, by rw [hN.out, List.length_append]; rfl, by rw [hN.out, List.length_append, ics_app]; exact o2, _, rfl⟩
            case measure => (simp [intOf]; try omega)
    · obtain rfl : k = l.length := by omega
      go_wp2_with (first | ((with_reducible refine wp_region_up (by kernel_rfl) (by kernel_rfl) ?_); (repeat (go_big_quiet_step (fail))); refine wpQuiet_nil ?_; intro _ hw'; obtain ⟨nq, hw''⟩ := hw'; subst hw''))
      go_ret
      exact ⟨A', c', rfl, hown, UpOf.of (by repeat (first | exact Below.refl _ _ | refine bl_tr ?_ _ | refine bl_al ?_ _ | refine bl_dr ?_ | refine bl_up ?_ _ | refine Below.drew ?_ | refine bl_alloc ?_ _ | refine Below.setCell ?_ (by first | (simp; done) | (simp; omega)) _))⟩
end Go.Proofs.Ytfggbcmpgkhlaaa

/-
  Common parts, put together: DrillV2, DrillV3, Vals, DeskOk, ConsP, Small1, Small2, SetL1, Drill1, IntsTo, ToDesk, Drill3, Drill4, TakeT, DkM, Small3, Small4, Dk1.
-/
import Derived.Test.YtbianlkenallaaaGreatDoorMgB
import Derived.Test.YtbianlkenallaaaGreatDoorMgA
import Derived.Deep.WholeRow
import Derived.OpenShut
import Derived.Lib.SmallJoins
import Derived.ChangeOld
import Derived.Deep.Slices
import Derived.StillTail
import Derived.Deep.RegionHeld3
set_option linter.all false
namespace Go.Proofs.YtbianlkenallaaaGreatDoor
open Go.RowKit
/-- the first place of a byte in a text; -1 if it is not there -/
def idxB (s : ByteArray) (c : UInt8) : Int := match (List.range s.size).find? (fun i => decide (byteAt s i = c)) with | some i => i | none => -1
theorem find_first {p : Nat → Bool} {m k : Nat} (hk : k < m) (hp : p k = true) (hn : ∀ j, j < k → p j = false) : (List.range m).find? p = some k := by
  rw [List.find?_eq_some_iff_getElem]
  refine ⟨hp, k, by rw [List.length_range]; exact hk, List.getElem_range _, fun j hj => ?_⟩
  rw [List.getElem_range]
  rw [hn j hj]; rfl
theorem idxB_at {s : ByteArray} {c : UInt8} {k : Nat} (hk : k < s.size) (h : byteAt s k = c) (hn : ∀ j, j < k → byteAt s j ≠ c) : idxB s c = k := by
  rw [idxB, find_first hk (decide_eq_true h) (fun j hj => decide_eq_false (hn j hj))]
theorem idxB_no {s : ByteArray} {c : UInt8} (hn : ∀ j, j < s.size → byteAt s j ≠ c) : idxB s c = -1 := by
  rw [idxB, List.find?_eq_none.2 (fun j hj => by rw [List.mem_range] at hj; simpa using hn j hj)]
theorem idxB_bd (s : ByteArray) (c : UInt8) : -1 ≤ idxB s c ∧ idxB s c < s.size + 1 := by
  unfold idxB
  split
  · rename_i i hi
    have := List.mem_of_find?_eq_some hi
    rw [List.mem_range] at this
    omega
  · omega
theorem idxB_new {s : ByteArray} {i : Nat} (hi : i < s.size) (h : newAt s i = true) : idxB s (byteAt s i) = i := by
  simp only [newAt, List.all_eq_true, List.mem_range, decide_eq_true_eq] at h
  exact idxB_at hi rfl h
theorem find_rangeD {p : Nat → Bool} {m : Nat} (h : ∃ n, n < m ∧ p n = true) : ∃ n, (List.range m).find? p = some n ∧ n < m ∧ p n = true ∧ ∀ j, j < n → p j = false := by
  cases hf : (List.range m).find? p with
  | none =>
    obtain ⟨n, hn, hp⟩ := h
    rw [List.find?_eq_none] at hf
    exact absurd hp (hf n (List.mem_range.2 hn))
  | some n =>
    have h1 := List.find?_some hf
    rw [List.find?_eq_some_iff_getElem] at hf
    obtain ⟨_, i, hi, he, hj⟩ := hf
    rw [List.length_range] at hi
    rw [List.getElem_range] at he
    subst he
    exact ⟨i, rfl, hi, h1, fun j hj' => by have := hj j hj'; rw [List.getElem_range] at this; simpa using this⟩
theorem idxB_old {s : ByteArray} {i : Nat} (hi : i < s.size) (h : newAt s i = false) : idxB s (byteAt s i) ≠ i := by
  intro he
  rw [← Bool.not_eq_true] at h
  refine h (newAt_yes fun j hj e => ?_)
  have : ∃ q, q ≤ j ∧ idxB s (byteAt s i) = (q : Nat) := by
    obtain ⟨m, h1, h2, h3, h4⟩ := (show ∃ n, (List.range s.size).find? (fun k => decide (byteAt s k = byteAt s i)) = some n ∧ n < s.size ∧ _ ∧ ∀ l, l < n → (fun k => decide (byteAt s k = byteAt s i)) l = false from find_rangeD ⟨j, by omega, decide_eq_true e⟩)
    refine ⟨m, ?_, by rw [idxB, h1]⟩
    by_cases hm : m ≤ j
    · exact hm
    · have h5 := h4 j (by omega)
      have h6 : byteAt s j ≠ byteAt s i := by simpa using h5
      exact absurd e h6
  obtain ⟨q, hq, e2⟩ := this
  omega
set_option maxRecDepth 10000 in
theorem l05Index_any (s : ByteArray) (c : UInt8) (x : Int) (hx : (c.toNat : Int) = x) (w : World) (hs : s.size ≤ 9223372036854775807) :
    Calls Tryz.prog 176 #[.string s, .int .u8 x] w fun e w' => e = .returned (i64 (idxB s c)) ∧ w = w' := by
  go_enter Tryz.func176, Tryz.ntmps176
  go_wp2_with fail
  go_loop [5] (fun i => ∃ k : Nat, k ≤ s.size ∧ i = i64 k ∧ Hid (∀ j, j < k → byteAt s j ≠ c)) (fun i => s.size - (intOf i).toNat)
  case atStart => exact ⟨0, by omega, rfl, fun i hi => by omega⟩
  case round =>
    obtain ⟨k, hk, rfl, hok⟩ := hrel
    by_cases hlt : k < s.size
    · have e := Lib.hid (byteAt_eq hlt)
      by_cases p1 : (s[k].toNat : Int) = x
      · have p1' : ((s[k].toNat : Int) == x) = true := by rw [beq_iff_eq]; exact p1
        have hf := Lib.hid (idxB_at hlt (show byteAt s k = c by rw [← e.out]; exact UInt8.toNat_inj.1 (by omega)) hok.out)
        clear p1
        go_wp2_with fail
        go_ret
        exact ⟨by rw [hf.out] <;> rfl, rfl⟩
      · have p1' : ((s[k].toNat : Int) == x) = false := by rw [beq_eq_false_iff_ne]; exact p1
        have hq := Lib.hid (show byteAt s k ≠ c by rw [← e.out]; intro h; exact p1 (by rw [h]; exact hx))
        clear p1
        go_wp2_with fail
        go_round
        case rel => have hy := lt_ext (P := fun j => byteAt s j ≠ c) hok.out hq.out; exact ⟨k + 1, by omega, by go_num, hy⟩
        case measure => (simp [intOf]; try omega)
    · have hf := Lib.hid (idxB_no (s := s) (c := c) (fun i hi => hok.out i (by omega)))
      go_wp2_with fail
      go_ret
      exact ⟨by rw [hf.out] <;> rfl, rfl⟩
set_option maxRecDepth 10000 in
theorem l17Text_any (s : ByteArray) (most : Nat) (w : World) (hm : most ≤ 1000000) (hs : s.size ≤ 9223372036854775807) :
    Calls Tryz.prog 178 #[.string s, i64 most] w fun e w' => e = .returned (.bool (txtB 33 most s)) ∧ w = w' := by
  go_enter Tryz.func178, Tryz.ntmps178
  go_wp2_with fail
  go_loop [5] (fun i => ∃ k : Nat, k ≤ s.size ∧ i = i64 k ∧ Hid (∀ j, j < k → txtC 33 (byteAt s j) = true)) (fun i => s.size - (intOf i).toNat)
  case atStart => exact ⟨0, by omega, rfl, fun i hi => by omega⟩
  case round =>
    obtain ⟨k, hk, rfl, hok⟩ := hrel
    by_cases hlt : k < s.size
    · have e := byteAt_eq hlt
      by_cases p1 : (byteAt s k).toNat < 33
      · have hf := Lib.hid (txtB_at (lo := 33) (most := most) hlt (decide_eq_false (by omega)))
        have p1' : ((byteAt s k).toNat : Int) < 33 := by omega
        rw [← e] at p1'
        go_wp2_with fail
        go_ret
        exact ⟨ret_bool hf.out.symm, rfl⟩
      by_cases p2 : 126 < (byteAt s k).toNat
      · have hf := Lib.hid (txtB_at (lo := 33) (most := most) hlt (decide_eq_false (by omega)))
        have p1' : 33 ≤ ((byteAt s k).toNat : Int) := by omega
        have p2' : 126 < ((byteAt s k).toNat : Int) := by omega
        rw [← e] at p1' p2'
        go_wp2_with fail
        go_ret
        exact ⟨ret_bool hf.out.symm, rfl⟩
      have hq := Lib.hid (show txtC 33 (byteAt s k) = true from decide_eq_true (by omega))
      have p1' : 33 ≤ ((byteAt s k).toNat : Int) := by omega
      have p2' : ((byteAt s k).toNat : Int) ≤ 126 := by omega
      rw [← e] at p1' p2'
      go_wp2_with fail
      go_round
      case rel => have hx := lt_ext (P := fun j => txtC 33 (byteAt s j) = true) hok.out hq.out; exact ⟨k + 1, by omega, by go_num, hx⟩
      case measure => (simp [intOf]; try omega)
    · have hall : ∀ i, i < s.size → txtC 33 (byteAt s i) = true := fun i hi => hok.out i (by omega)
      have hf : Hid (txtB 33 most s = decide (s.size ≤ most)) := by
        show _ = _
        by_cases h : s.size ≤ most
        · rw [txtB_true h hall, decide_eq_true h]
        · rw [txtB_len h, decide_eq_false h]
      clear hall
      go_wp2_with fail
      go_ret
      exact ⟨ret_bool (by rw [hf.out, decide_eq_decide] <;> omega), rfl⟩
set_option maxRecDepth 10000 in
set_option maxHeartbeats 1000000 in
theorem l21One_any (d : Drill) (w : World) (h1 : d.name.size ≤ 9223372036854775807) (h2 : d.letters.size ≤ 9223372036854775807) :
    Calls Tryz.prog 143 #[drv d] w fun e w' => e = .returned (.bool (vDrill d)) ∧ UpOf w w' := by
  go_enter Tryz.func143, Tryz.ntmps143
  go_upto_region 1 with (fail)
  refine wpg (R := fun V => Box V w.heap.size #[.string d.name, .string d.letters, i64 d.minutes] ∧ UpOf w V) ⟨Box.new _ _ _, UpOf.of (BL.o (by repeat constructor))⟩ (fun V z => ?_)
  obtain ⟨⟨hq, hc⟩, hB⟩ := z
  have c0 := hc 0 _ rfl
  have c1 := hc 1 _ rfl
  have c2 := hc 2 _ rfl
  have HB := Lib.hid hB
  clear hc hB
  generalize w.heap.size = q at *
  go_wp2_with fail
  go_loopw [3] (fun i wr => ∃ k : Nat, k ≤ d.letters.size ∧ i = i64 k ∧ Hid (∀ j, j < k → newAt d.letters j = true) ∧ ∃ g : Up V, wr = up V g) (fun i _ => d.letters.size - (intOf i).toNat)
  case atStart => exact ⟨0, by omega, rfl, fun i hi => by omega, ex_up (BL.o (by repeat constructor))⟩
  case round =>
    obtain ⟨k, hk, rfl, hok, g, rfl⟩ := hrel
    by_cases hlt : k < d.letters.size
    · have e := Lib.hid (byteAt_eq hlt)
      have hi := idxB_bd d.letters (byteAt d.letters k)
      cases q0 : newAt d.letters k
      · have hf := Lib.hid (vDrill_5 (newB_at hlt q0))
        have hne : (idxB d.letters (byteAt d.letters k) != (k : Int)) = true := by rw [bne_iff_ne]; exact idxB_old hlt q0
        clear q0
        have hcl := Lib.hid (fun (W : World) => l05Index_any d.letters (byteAt d.letters k) (d.letters[k].toNat) (by rw [e.out]) W h2)
        generalize idxB d.letters (byteAt d.letters k) = ix at *
        go_wp2_with (first | (go_at_call 176; refine (hcl.out _).mono ?_; rintro e w' ⟨rfl, rfl⟩) | ((with_reducible refine wp_region_up (by kernel_rfl) (by kernel_rfl) ?_); (repeat (go_big_quiet_step (first | (go_at_call 176; first | exact upq_tr_same (hcl.out _) | exact upq_same (hcl.out _))))); refine wpQuiet_nil ?_; intro _ hw'; obtain ⟨nq, hw''⟩ := hw'; subst hw''))
        go_ret
        exact ⟨ret_bool hf.out.symm, HB.out.tr (BL.o (by repeat constructor))⟩
      · have hne : (idxB d.letters (byteAt d.letters k) != (k : Int)) = false := by rw [bne_eq_false_iff_eq]; exact idxB_new hlt q0
        have hq0 := Lib.hid q0
        clear q0
        have hcl := Lib.hid (fun (W : World) => l05Index_any d.letters (byteAt d.letters k) (d.letters[k].toNat) (by rw [e.out]) W h2)
        generalize idxB d.letters (byteAt d.letters k) = ix at *
        go_wp2_with (first | (go_at_call 176; refine (hcl.out _).mono ?_; rintro e w' ⟨rfl, rfl⟩) | ((with_reducible refine wp_region_up (by kernel_rfl) (by kernel_rfl) ?_); (repeat (go_big_quiet_step (first | (go_at_call 176; first | exact upq_tr_same (hcl.out _) | exact upq_same (hcl.out _))))); refine wpQuiet_nil ?_; intro _ hw'; obtain ⟨nq, hw''⟩ := hw'; subst hw''))
        go_roundw
        case rel => have hx := lt_ext (P := fun j => newAt d.letters j = true) hok.out hq0.out; exact ⟨k + 1, by omega, by go_num, hx, ex_up (BL.o (by repeat constructor))⟩
        case measure => (simp [intOf]; try omega)
    · have hnew := Lib.hid (newB_true (s := d.letters) (fun i hi => hok.out i (by omega)))
      cases q1 : nameB d.name
      · have hf := Lib.hid (vDrill_1 q1)
        go_wp2_with (first | (go_at_call 177; refine (ret_as (isNameS_any d.name _ h1) q1).mono ?_; rintro e w' ⟨rfl, rfl⟩) | (go_at_call 178; refine (ret_as (l17Text_any d.letters 8 _ (by omega) h2) (by assumption)).mono ?_; rintro e w' ⟨rfl, rfl⟩) | (go_at_call 141; refine (ret_as (in_any _ _ _ _) (by assumption)).mono ?_; rintro e w' ⟨rfl, rfl⟩) | ((with_reducible refine wp_region_up (by kernel_rfl) (by kernel_rfl) ?_); (repeat (go_big_quiet_step (first | (go_at_call 177; first | exact upq_tr_same (ret_as (isNameS_any d.name _ h1) q1) | exact upq_same (ret_as (isNameS_any d.name _ h1) q1)) | (go_at_call 178; first | exact upq_tr_same (ret_as (l17Text_any d.letters 8 _ (by omega) h2) (by assumption)) | exact upq_same (ret_as (l17Text_any d.letters 8 _ (by omega) h2) (by assumption))) | (go_at_call 141; first | exact upq_tr_same (ret_as (in_any _ _ _ _) (by assumption)) | exact upq_same (ret_as (in_any _ _ _ _) (by assumption)))))); refine wpQuiet_nil ?_; intro _ hw'; obtain ⟨nq, hw''⟩ := hw'; subst hw''))
        go_ret
        exact ⟨ret_bool hf.out.symm, HB.out.tr (BL.o (by repeat constructor))⟩
      by_cases q2 : 0 < d.letters.size
      rotate_left
      · have hf := Lib.hid (vDrill_2 q2)
        have hz := isEmpty_yes (s := d.letters) (by omega)
        cases q3 : txtB 33 8 d.letters
        · go_wp2_with (first | (go_at_call 177; refine (ret_as (isNameS_any d.name _ h1) q1).mono ?_; rintro e w' ⟨rfl, rfl⟩) | (go_at_call 178; refine (ret_as (l17Text_any d.letters 8 _ (by omega) h2) (by assumption)).mono ?_; rintro e w' ⟨rfl, rfl⟩) | (go_at_call 141; refine (ret_as (in_any _ _ _ _) (by assumption)).mono ?_; rintro e w' ⟨rfl, rfl⟩) | ((with_reducible refine wp_region_up (by kernel_rfl) (by kernel_rfl) ?_); (repeat (go_big_quiet_step (first | (go_at_call 177; first | exact upq_tr_same (ret_as (isNameS_any d.name _ h1) q1) | exact upq_same (ret_as (isNameS_any d.name _ h1) q1)) | (go_at_call 178; first | exact upq_tr_same (ret_as (l17Text_any d.letters 8 _ (by omega) h2) (by assumption)) | exact upq_same (ret_as (l17Text_any d.letters 8 _ (by omega) h2) (by assumption))) | (go_at_call 141; first | exact upq_tr_same (ret_as (in_any _ _ _ _) (by assumption)) | exact upq_same (ret_as (in_any _ _ _ _) (by assumption)))))); refine wpQuiet_nil ?_; intro _ hw'; obtain ⟨nq, hw''⟩ := hw'; subst hw''))
          go_ret
          exact ⟨ret_bool hf.out.symm, HB.out.tr (BL.o (by repeat constructor))⟩
        · go_wp2_with (first | (go_at_call 177; refine (ret_as (isNameS_any d.name _ h1) q1).mono ?_; rintro e w' ⟨rfl, rfl⟩) | (go_at_call 178; refine (ret_as (l17Text_any d.letters 8 _ (by omega) h2) (by assumption)).mono ?_; rintro e w' ⟨rfl, rfl⟩) | (go_at_call 141; refine (ret_as (in_any _ _ _ _) (by assumption)).mono ?_; rintro e w' ⟨rfl, rfl⟩) | ((with_reducible refine wp_region_up (by kernel_rfl) (by kernel_rfl) ?_); (repeat (go_big_quiet_step (first | (go_at_call 177; first | exact upq_tr_same (ret_as (isNameS_any d.name _ h1) q1) | exact upq_same (ret_as (isNameS_any d.name _ h1) q1)) | (go_at_call 178; first | exact upq_tr_same (ret_as (l17Text_any d.letters 8 _ (by omega) h2) (by assumption)) | exact upq_same (ret_as (l17Text_any d.letters 8 _ (by omega) h2) (by assumption))) | (go_at_call 141; first | exact upq_tr_same (ret_as (in_any _ _ _ _) (by assumption)) | exact upq_same (ret_as (in_any _ _ _ _) (by assumption)))))); refine wpQuiet_nil ?_; intro _ hw'; obtain ⟨nq, hw''⟩ := hw'; subst hw''))
          go_ret
          exact ⟨ret_bool hf.out.symm, HB.out.tr (BL.o (by repeat constructor))⟩
      have hz := isEmpty_no q2
      cases q3 : txtB 33 8 d.letters
      · have hf := Lib.hid (vDrill_3 q3)
        go_wp2_with (first | (go_at_call 177; refine (ret_as (isNameS_any d.name _ h1) q1).mono ?_; rintro e w' ⟨rfl, rfl⟩) | (go_at_call 178; refine (ret_as (l17Text_any d.letters 8 _ (by omega) h2) (by assumption)).mono ?_; rintro e w' ⟨rfl, rfl⟩) | (go_at_call 141; refine (ret_as (in_any _ _ _ _) (by assumption)).mono ?_; rintro e w' ⟨rfl, rfl⟩) | ((with_reducible refine wp_region_up (by kernel_rfl) (by kernel_rfl) ?_); (repeat (go_big_quiet_step (first | (go_at_call 177; first | exact upq_tr_same (ret_as (isNameS_any d.name _ h1) q1) | exact upq_same (ret_as (isNameS_any d.name _ h1) q1)) | (go_at_call 178; first | exact upq_tr_same (ret_as (l17Text_any d.letters 8 _ (by omega) h2) (by assumption)) | exact upq_same (ret_as (l17Text_any d.letters 8 _ (by omega) h2) (by assumption))) | (go_at_call 141; first | exact upq_tr_same (ret_as (in_any _ _ _ _) (by assumption)) | exact upq_same (ret_as (in_any _ _ _ _) (by assumption)))))); refine wpQuiet_nil ?_; intro _ hw'; obtain ⟨nq, hw''⟩ := hw'; subst hw''))
        go_ret
        exact ⟨ret_bool hf.out.symm, HB.out.tr (BL.o (by repeat constructor))⟩
      cases q4 : btw d.minutes 1 600
      · have hf := Lib.hid (vDrill_4 q4)
        go_wp2_with (first | (go_at_call 177; refine (ret_as (isNameS_any d.name _ h1) q1).mono ?_; rintro e w' ⟨rfl, rfl⟩) | (go_at_call 178; refine (ret_as (l17Text_any d.letters 8 _ (by omega) h2) (by assumption)).mono ?_; rintro e w' ⟨rfl, rfl⟩) | (go_at_call 141; refine (ret_as (in_any _ _ _ _) (by assumption)).mono ?_; rintro e w' ⟨rfl, rfl⟩) | ((with_reducible refine wp_region_up (by kernel_rfl) (by kernel_rfl) ?_); (repeat (go_big_quiet_step (first | (go_at_call 177; first | exact upq_tr_same (ret_as (isNameS_any d.name _ h1) q1) | exact upq_same (ret_as (isNameS_any d.name _ h1) q1)) | (go_at_call 178; first | exact upq_tr_same (ret_as (l17Text_any d.letters 8 _ (by omega) h2) (by assumption)) | exact upq_same (ret_as (l17Text_any d.letters 8 _ (by omega) h2) (by assumption))) | (go_at_call 141; first | exact upq_tr_same (ret_as (in_any _ _ _ _) (by assumption)) | exact upq_same (ret_as (in_any _ _ _ _) (by assumption)))))); refine wpQuiet_nil ?_; intro _ hw'; obtain ⟨nq, hw''⟩ := hw'; subst hw''))
        go_ret
        exact ⟨ret_bool hf.out.symm, HB.out.tr (BL.o (by repeat constructor))⟩
      have hf := Lib.hid (vDrill_0 q1 q2 q3 q4 hnew.out)
      go_wp2_with (first | (go_at_call 177; refine (ret_as (isNameS_any d.name _ h1) q1).mono ?_; rintro e w' ⟨rfl, rfl⟩) | (go_at_call 178; refine (ret_as (l17Text_any d.letters 8 _ (by omega) h2) (by assumption)).mono ?_; rintro e w' ⟨rfl, rfl⟩) | (go_at_call 141; refine (ret_as (in_any _ _ _ _) (by assumption)).mono ?_; rintro e w' ⟨rfl, rfl⟩) | ((with_reducible refine wp_region_up (by kernel_rfl) (by kernel_rfl) ?_); (repeat (go_big_quiet_step (first | (go_at_call 177; first | exact upq_tr_same (ret_as (isNameS_any d.name _ h1) q1) | exact upq_same (ret_as (isNameS_any d.name _ h1) q1)) | (go_at_call 178; first | exact upq_tr_same (ret_as (l17Text_any d.letters 8 _ (by omega) h2) (by assumption)) | exact upq_same (ret_as (l17Text_any d.letters 8 _ (by omega) h2) (by assumption))) | (go_at_call 141; first | exact upq_tr_same (ret_as (in_any _ _ _ _) (by assumption)) | exact upq_same (ret_as (in_any _ _ _ _) (by assumption)))))); refine wpQuiet_nil ?_; intro _ hw'; obtain ⟨nq, hw''⟩ := hw'; subst hw''))
      go_ret
      exact ⟨ret_bool hf.out.symm, HB.out.tr (BL.o (by repeat constructor))⟩
/-- a table of bytes, marked or not -/
def SeenAt (V : World) (q : Nat) (S : Nat → Bool) : Prop := q < V.heap.size ∧ ∀ c, c < 256 → V.cell? ⟨q, c, none⟩ = some (.bool (S c)) ∧ V.frozen? ⟨q, c, none⟩ = false
theorem zero256 : Tryz.zeroCells179 = Array.replicate 256 (.bool false) := by kernel_rfl
theorem seen_new (V : World) : SeenAt (V.alloc (.cells Tryz.zeroCells179 179)) V.heap.size (fun _ => false) :=
  ⟨by simp, fun c hc => ⟨by rw [World.cell?_alloc_new, zero256]; simp [hc], World.frozen?_alloc_new _ _ _ _⟩⟩
theorem SeenAt.put {V : World} {q : Nat} {S : Nat → Bool} (h : SeenAt V q S) (c : Nat) : SeenAt (V.setCell ⟨q, c, none⟩ (.bool true)) q (fun j => decide (j = c) || S j) := by
  refine ⟨by rw [World.size_setCell]; exact h.1, fun j hj => ⟨?_, by rw [World.frozen?_setCell]; exact (h.2 j hj).2⟩⟩
  by_cases e : j = c
  · subst e
    rw [World.cell?_setCell_same (h := (h.2 j hj).1)]; simp
  · rw [World.cell?_setCell_other (h := fun h2 => e (by injection h2 with _ h2; exact h2.symm)), (h.2 j hj).1]; show some (Value.bool (S j)) = some (Value.bool (decide (j = c) || S j)); rw [decide_eq_false e]; rfl
/-- the bytes of the first k places -/
def seenF (s : ByteArray) (k c : Nat) : Bool := (List.range k).any fun j => decide ((byteAt s j).toNat = c)
theorem seenF_new (s : ByteArray) (k : Nat) : seenF s k (byteAt s k).toNat = !newAt s k := by
  rw [Bool.eq_iff_iff, Bool.not_eq_true', ← Bool.not_eq_true]
  simp only [seenF, newAt, List.any_eq_true, List.all_eq_true, List.mem_range, decide_eq_true_eq]
  constructor
  · rintro ⟨j, hj, e⟩ h
    exact h j hj (UInt8.toNat_inj.1 e)
  · intro h
    refine Classical.byContradiction fun hn => h fun j hj e => hn ⟨j, hj, by rw [e]⟩
theorem seenF_step (s : ByteArray) (k : Nat) : (fun j => decide (j = (byteAt s k).toNat) || seenF s k j) = seenF s (k + 1) := by
  funext j
  simp only [seenF, List.range_succ, List.any_append, List.any_cons, List.any_nil, Bool.or_false]
  rw [Bool.or_comm]
  congr 1
  rw [decide_eq_decide]
  exact eq_comm
set_option maxRecDepth 10000 in
set_option maxHeartbeats 1000000 in
theorem validDrill_any (d : Drill) (w : World) (h1 : d.name.size ≤ 9223372036854775807) (h2 : d.letters.size ≤ 9223372036854775807) :
    Calls Tryz.prog 119 #[drv d] w fun e w' => e = .returned (.bool (vDrill d)) ∧ UpOf w w' := by
  go_enter Tryz.func119, Tryz.ntmps119
  go_upto_region 1 with (fail)
  refine wpg (R := fun V => Box V w.heap.size #[.string d.name, .string d.letters, i64 d.minutes] ∧ UpOf w V) ⟨Box.new _ _ _, UpOf.of (BL.o (by repeat constructor))⟩ (fun V z => ?_)
  obtain ⟨⟨hq, hc⟩, hB⟩ := z
  have c0 := hc 0 _ rfl
  have c1 := hc 1 _ rfl
  have c2 := hc 2 _ rfl
  have HB := Lib.hid hB
  clear hc hB
  generalize w.heap.size = q at *
  cases q1 : nameB d.name
  · have hf := Lib.hid (vDrill_1 q1)
    go_wp2_with (first | (go_at_call 139; refine (ret_as (isNameI_any d.name _ h1) q1).mono ?_; rintro e w' ⟨rfl, rfl⟩) | (go_at_call 134; refine (ret_as (isText_any d.letters 33 8 _ (by omega) (by omega) h2) (by assumption)).mono ?_; rintro e w' ⟨rfl, rfl⟩) | (go_at_call 118; refine (ret_as (between_any _ _ _ _) (by assumption)).mono ?_; rintro e w' ⟨rfl, rfl⟩) | ((with_reducible refine wp_region_up (by kernel_rfl) (by kernel_rfl) ?_); (repeat (go_big_quiet_step (first | (go_at_call 139; first | exact upq_tr_same (ret_as (isNameI_any d.name _ h1) q1) | exact upq_same (ret_as (isNameI_any d.name _ h1) q1)) | (go_at_call 134; first | exact upq_tr_same (ret_as (isText_any d.letters 33 8 _ (by omega) (by omega) h2) (by assumption)) | exact upq_same (ret_as (isText_any d.letters 33 8 _ (by omega) (by omega) h2) (by assumption))) | (go_at_call 118; first | exact upq_tr_same (ret_as (between_any _ _ _ _) (by assumption)) | exact upq_same (ret_as (between_any _ _ _ _) (by assumption)))))); refine wpQuiet_nil ?_; intro _ hw'; obtain ⟨nq, hw''⟩ := hw'; subst hw''))
    go_ret
    exact ⟨ret_bool hf.out.symm, HB.out.tr (BL.o (by repeat constructor))⟩
  by_cases q2 : 0 < d.letters.size
  rotate_left
  · have hf := Lib.hid (vDrill_2 q2)
    have hz := isEmpty_yes (s := d.letters) (by omega)
    cases q3 : txtB 33 8 d.letters
    · go_wp2_with (first | (go_at_call 139; refine (ret_as (isNameI_any d.name _ h1) q1).mono ?_; rintro e w' ⟨rfl, rfl⟩) | (go_at_call 134; refine (ret_as (isText_any d.letters 33 8 _ (by omega) (by omega) h2) (by assumption)).mono ?_; rintro e w' ⟨rfl, rfl⟩) | (go_at_call 118; refine (ret_as (between_any _ _ _ _) (by assumption)).mono ?_; rintro e w' ⟨rfl, rfl⟩) | ((with_reducible refine wp_region_up (by kernel_rfl) (by kernel_rfl) ?_); (repeat (go_big_quiet_step (first | (go_at_call 139; first | exact upq_tr_same (ret_as (isNameI_any d.name _ h1) q1) | exact upq_same (ret_as (isNameI_any d.name _ h1) q1)) | (go_at_call 134; first | exact upq_tr_same (ret_as (isText_any d.letters 33 8 _ (by omega) (by omega) h2) (by assumption)) | exact upq_same (ret_as (isText_any d.letters 33 8 _ (by omega) (by omega) h2) (by assumption))) | (go_at_call 118; first | exact upq_tr_same (ret_as (between_any _ _ _ _) (by assumption)) | exact upq_same (ret_as (between_any _ _ _ _) (by assumption)))))); refine wpQuiet_nil ?_; intro _ hw'; obtain ⟨nq, hw''⟩ := hw'; subst hw''))
      go_ret
      exact ⟨ret_bool hf.out.symm, HB.out.tr (BL.o (by repeat constructor))⟩
    · go_wp2_with (first | (go_at_call 139; refine (ret_as (isNameI_any d.name _ h1) q1).mono ?_; rintro e w' ⟨rfl, rfl⟩) | (go_at_call 134; refine (ret_as (isText_any d.letters 33 8 _ (by omega) (by omega) h2) (by assumption)).mono ?_; rintro e w' ⟨rfl, rfl⟩) | (go_at_call 118; refine (ret_as (between_any _ _ _ _) (by assumption)).mono ?_; rintro e w' ⟨rfl, rfl⟩) | ((with_reducible refine wp_region_up (by kernel_rfl) (by kernel_rfl) ?_); (repeat (go_big_quiet_step (first | (go_at_call 139; first | exact upq_tr_same (ret_as (isNameI_any d.name _ h1) q1) | exact upq_same (ret_as (isNameI_any d.name _ h1) q1)) | (go_at_call 134; first | exact upq_tr_same (ret_as (isText_any d.letters 33 8 _ (by omega) (by omega) h2) (by assumption)) | exact upq_same (ret_as (isText_any d.letters 33 8 _ (by omega) (by omega) h2) (by assumption))) | (go_at_call 118; first | exact upq_tr_same (ret_as (between_any _ _ _ _) (by assumption)) | exact upq_same (ret_as (between_any _ _ _ _) (by assumption)))))); refine wpQuiet_nil ?_; intro _ hw'; obtain ⟨nq, hw''⟩ := hw'; subst hw''))
      go_ret
      exact ⟨ret_bool hf.out.symm, HB.out.tr (BL.o (by repeat constructor))⟩
  have hz := isEmpty_no q2
  cases q3 : txtB 33 8 d.letters
  · have hf := Lib.hid (vDrill_3 q3)
    go_wp2_with (first | (go_at_call 139; refine (ret_as (isNameI_any d.name _ h1) q1).mono ?_; rintro e w' ⟨rfl, rfl⟩) | (go_at_call 134; refine (ret_as (isText_any d.letters 33 8 _ (by omega) (by omega) h2) (by assumption)).mono ?_; rintro e w' ⟨rfl, rfl⟩) | (go_at_call 118; refine (ret_as (between_any _ _ _ _) (by assumption)).mono ?_; rintro e w' ⟨rfl, rfl⟩) | ((with_reducible refine wp_region_up (by kernel_rfl) (by kernel_rfl) ?_); (repeat (go_big_quiet_step (first | (go_at_call 139; first | exact upq_tr_same (ret_as (isNameI_any d.name _ h1) q1) | exact upq_same (ret_as (isNameI_any d.name _ h1) q1)) | (go_at_call 134; first | exact upq_tr_same (ret_as (isText_any d.letters 33 8 _ (by omega) (by omega) h2) (by assumption)) | exact upq_same (ret_as (isText_any d.letters 33 8 _ (by omega) (by omega) h2) (by assumption))) | (go_at_call 118; first | exact upq_tr_same (ret_as (between_any _ _ _ _) (by assumption)) | exact upq_same (ret_as (between_any _ _ _ _) (by assumption)))))); refine wpQuiet_nil ?_; intro _ hw'; obtain ⟨nq, hw''⟩ := hw'; subst hw''))
    go_ret
    exact ⟨ret_bool hf.out.symm, HB.out.tr (BL.o (by repeat constructor))⟩
  cases q4 : btw d.minutes 1 600
  · have hf := Lib.hid (vDrill_4 q4)
    go_wp2_with (first | (go_at_call 139; refine (ret_as (isNameI_any d.name _ h1) q1).mono ?_; rintro e w' ⟨rfl, rfl⟩) | (go_at_call 134; refine (ret_as (isText_any d.letters 33 8 _ (by omega) (by omega) h2) (by assumption)).mono ?_; rintro e w' ⟨rfl, rfl⟩) | (go_at_call 118; refine (ret_as (between_any _ _ _ _) (by assumption)).mono ?_; rintro e w' ⟨rfl, rfl⟩) | ((with_reducible refine wp_region_up (by kernel_rfl) (by kernel_rfl) ?_); (repeat (go_big_quiet_step (first | (go_at_call 139; first | exact upq_tr_same (ret_as (isNameI_any d.name _ h1) q1) | exact upq_same (ret_as (isNameI_any d.name _ h1) q1)) | (go_at_call 134; first | exact upq_tr_same (ret_as (isText_any d.letters 33 8 _ (by omega) (by omega) h2) (by assumption)) | exact upq_same (ret_as (isText_any d.letters 33 8 _ (by omega) (by omega) h2) (by assumption))) | (go_at_call 118; first | exact upq_tr_same (ret_as (between_any _ _ _ _) (by assumption)) | exact upq_same (ret_as (between_any _ _ _ _) (by assumption)))))); refine wpQuiet_nil ?_; intro _ hw'; obtain ⟨nq, hw''⟩ := hw'; subst hw''))
    go_ret
    exact ⟨ret_bool hf.out.symm, HB.out.tr (BL.o (by repeat constructor))⟩
  go_upto_region 3 with (first | (go_at_call 139; refine (ret_as (isNameI_any d.name _ h1) q1).mono ?_; rintro e w' ⟨rfl, rfl⟩) | (go_at_call 134; refine (ret_as (isText_any d.letters 33 8 _ (by omega) (by omega) h2) (by assumption)).mono ?_; rintro e w' ⟨rfl, rfl⟩) | (go_at_call 118; refine (ret_as (between_any _ _ _ _) (by assumption)).mono ?_; rintro e w' ⟨rfl, rfl⟩))
  have hst := fun W : World => run_storeCells_new (P := Tryz.prog) W 179 Tryz.zeroCells179 Tryz.zeroCells179 (by kernel_rfl) rfl (by kernel_rfl)
  go_upto_region 4 with (fail)
  refine wpg (R := fun U => Hid (SeenAt U V.heap.size (seenF d.letters 0)) ∧ Hid (Below V.heap.size V U)) ⟨Lib.hid (seen_new V), Lib.hid (BL.o (by repeat constructor))⟩ (fun U z => ?_)
  obtain ⟨z1, z2⟩ := z
  have hqU : q < U.heap.size := Nat.lt_of_lt_of_le hq z2.out.size
  have d1 := (z2.out.cell (p := ⟨q, 1, none⟩) hq).trans c1
  obtain ⟨p, hp⟩ : ∃ p, V.heap.size = p := ⟨_, rfl⟩
  have HQ := Lib.hid (hp ▸ hq)
  have C1 := Lib.hid c1
  rw [hp]
  rw [hp] at z1 z2
  have HP := Lib.hid hp
  clear c0 c1 c2 hst hq hp
  go_wp2_with fail
  clear hqU d1
  go_loopw [30] (fun i wr => ∃ k : Nat, k ≤ d.letters.size ∧ i = i64 k ∧ Hid (∀ j, j < k → newAt d.letters j = true) ∧ Hid (SeenAt wr p (seenF d.letters k)) ∧ Hid (Below p V wr)) (fun i _ => d.letters.size - (intOf i).toNat)
  case atStart => exact ⟨0, by omega, rfl, fun i hi => by omega, z1, z2⟩
  case round =>
    obtain ⟨k, hk, rfl, hok, z1, z2⟩ := hrel
    have hqU : q < wr.heap.size := (by have := HQ.out; have := z2.out.size; have := HP.out; omega)
    have d1 := (z2.out.cell (p := ⟨q, 1, none⟩) HQ.out).trans C1.out
    have hpU := z1.out.1
    by_cases hlt : k < d.letters.size
    · have e := Lib.hid (byteAt_eq hlt)
      have hb : d.letters[k].toNat < 256 := UInt8.toNat_lt _
      have x1 := (z1.out.2 _ hb).1
      have x2 := (z1.out.2 _ hb).2
      rw [e.out, seenF_new, ← e.out] at x1
      cases q0 : newAt d.letters k
      · have hf := Lib.hid (vDrill_5 (newB_at hlt q0))
        rw [q0] at x1
        clear q0
        go_wp2_with fail
        go_ret
        exact ⟨ret_bool hf.out.symm, HB.out.tr (HP.out ▸ z2.out)⟩
      · have hq0 := Lib.hid q0
        rw [q0] at x1
        clear q0
        go_wp2_with fail
        go_roundw
        case rel => have hx := lt_ext (P := fun j => newAt d.letters j = true) hok.out hq0.out; exact ⟨k + 1, by omega, by go_num, hx, Lib.hid (by rw [← seenF_step, ← e.out]; exact z1.out.put _), Lib.hid (z2.out.setCell (p := ⟨p, _, none⟩) (Nat.le_refl _) _)⟩
        case measure => (simp [intOf]; try omega)
    · have hnew := Lib.hid (newB_true (s := d.letters) (fun i hi => hok.out i (by omega)))
      have hf := Lib.hid (vDrill_0 q1 q2 q3 q4 hnew.out)
      go_wp2_with fail
      go_ret
      exact ⟨ret_bool hf.out.symm, HB.out.tr (HP.out ▸ z2.out)⟩
end Go.Proofs.YtbianlkenallaaaGreatDoor
namespace Go.Proofs.YtbianlkenallaaaGreatDoor
open Go.RowKit
/-- texts short enough for the model -/
def DBd (l : List Drill) : Prop := ∀ i, i < l.length → (drl l i).name.size ≤ 100000000 ∧ (drl l i).letters.size ≤ 100000000
def namesD (l : List Drill) (k : Nat) (S : List ByteArray) : Prop := ∀ s, s ∈ S ↔ ∃ j, j < k ∧ (drl l j).name = s
theorem namesD_step {l : List Drill} {k : Nat} {S : List ByteArray} (h : namesD l k S) : namesD l (k + 1) ((drl l k).name :: S) := by
  intro s
  rw [List.mem_cons, h s]
  constructor
  · rintro (rfl | ⟨j, hj, e⟩)
    · exact ⟨k, by omega, rfl⟩
    · exact ⟨j, by omega, e⟩
  · rintro ⟨j, hj, e⟩
    rcases Nat.lt_succ_iff_lt_or_eq.1 hj with h' | h'
    · exact .inr ⟨j, h', e⟩
    · subst h'; exact .inl e.symm
theorem okD_memB {l : List Drill} {k : Nat} {S : List ByteArray} (h : namesD l k S) (hm : memB S (drl l k).name = true) : okD l k = false := by
  obtain ⟨j, hj, e⟩ := (h _).1 (memB_iff.1 hm)
  exact okD_name hj e
theorem okD_fresh {l : List Drill} {k : Nat} {S : List ByteArray} (h : namesD l k S) (hv : vDrill (drl l k) = true) (hm : memB S (drl l k).name = false) : okD l k = true := by
  refine okD_true hv fun j hj e => ?_
  have := memB_iff.2 ((h _).2 ⟨j, hj, e⟩)
  rw [hm] at this
  cases this
theorem zeroBoolD (w : World) : (zeroValue 4).run Tryz.prog w = .ok (.bool false) w := by kernel_rfl
set_option maxRecDepth 10000 in
set_option maxHeartbeats 2000000 in
theorem validDrills_any (A : Option Addr) (c : Nat) (l : List Drill) (w : World) (h : Rds w 3 A l.length (drcs l)) (hn : l.length ≤ 100000000) (hf : DBd l) :
    Calls Tryz.prog 67 #[.slice A l.length c] w fun e w' => e = .returned (.bool (vDrills l)) ∧ UpOf w w' := by
  have HF := Lib.hid hf
  clear hf
  have hmm := @run_makeMap Tryz.prog
  go_enter Tryz.func67, Tryz.ntmps67
  go_wp2_with (first | ((with_reducible refine wp_region_up (by kernel_rfl) (by kernel_rfl) ?_); (repeat (go_big_quiet_step (fail))); refine wpQuiet_nil ?_; intro _ hw'; obtain ⟨nq, hw''⟩ := hw'; subst hw''))
  go_loopw [9] (fun i wr => ∃ k : Nat, k ≤ l.length ∧ i = i64 k ∧ Hid (∀ j, j < k → okD l j = true) ∧ ∃ S, SetAt wr Tryz.prog 9 4 w.heap.size k S ∧ Hid (namesD l k S) ∧ Below w.heap.size w wr) (fun i _ => l.length - (intOf i).toNat)
  case atStart => exact ⟨0, by omega, rfl, fun i hi => by omega, [], SetAt.made _ _ _ _, fun s => by simp, (BL.o (by repeat constructor))⟩
  case round =>
    obtain ⟨k, hk, rfl, hok, S, hset, hnm, hbel⟩ := hrel
    by_cases hlt : k < l.length
    · obtain ⟨b, off, rfl, hb, c0, c1, c2⟩ := drl_at (h.below hbel) hlt
      obtain ⟨f1, f2⟩ := HF.out k hlt
      have hBl := hset.lt
      have HSET := Lib.hid hset
      have HBEL := Lib.hid hbel
      cases b1 : vDrill (drl l k)
      · have hf := Lib.hid (vDrills_at hlt (okD_no b1))
        clear h hset hbel
        refine as_up fun g0 => ?_
        go_wp2_with (first | (go_at_call 119; refine (ret_as (validDrill_any (drl l k) _ (by omega) (by omega)) b1).mono ?_; rintro e w' ⟨rfl, g, rfl⟩))
        go_ret
        exact ⟨ret_bool hf.out.symm, UpOf.of (HBEL.out.trans (Below.mono (BL.o (by repeat constructor)) HBEL.out.size))⟩
      · cases b2 : memB S (drl l k).name
        · have hq := Lib.hid (okD_fresh hnm.out b1 b2)
          have hlook : ∀ g : Up wr, (Instr.lookup 146 (.map (some w.heap.size)) (.string (drl l k).name) false).run Tryz.prog (up wr g) = .ok (.bool false) (up wr g) := fun g => ((HSET.out.up g).look Tryz.underlying146 Tryz.underlying9 Tryz.underlying4 (zeroBoolD _) (drl l k).name (by unfold maxLen; omega)).trans (by rw [b2])
          clear h hset hbel
          refine as_up fun g0 => ?_
          go_wp2_with (first | (go_at_call 119; refine (ret_as (validDrill_any (drl l k) _ (by omega) (by omega)) b1).mono ?_; rintro e w' ⟨rfl, g, rfl⟩) | (at_mapUpdate; refine wpl_setPut _ rfl _ _ _ 146 rfl 9 4 Tryz.underlying146 Tryz.underlying9 Tryz.underlying4 w.heap.size k S rfl (HSET.out.below (BL.o (by repeat constructor))) (by unfold maxLen; omega) (drl l k).name (by unfold maxLen; omega) rfl rfl ?_; intro w1 hset1 hgr1))
          go_roundw
          case rel =>
            have hx := lt_ext (P := fun j => okD l j = true) hok.out hq.out
            exact ⟨k + 1, by omega, by go_num, hx, _, hset1, namesD_step hnm.out, (HBEL.out.trans (Below.mono (BL.o (by repeat constructor)) HBEL.out.size)).grown hgr1 (Nat.le_trans HBEL.out.size (up_below _ _).size) (fun j hj => by injection hj with hj; omega)⟩
          case measure => (simp [intOf]; try omega)
        · have hf := Lib.hid (vDrills_at hlt (okD_memB hnm.out b2))
          have hlook : ∀ g : Up wr, (Instr.lookup 146 (.map (some w.heap.size)) (.string (drl l k).name) false).run Tryz.prog (up wr g) = .ok (.bool true) (up wr g) := fun g => ((HSET.out.up g).look Tryz.underlying146 Tryz.underlying9 Tryz.underlying4 (zeroBoolD _) (drl l k).name (by unfold maxLen; omega)).trans (by rw [b2])
          clear h hset hbel
          refine as_up fun g0 => ?_
          go_wp2_with (first | (go_at_call 119; refine (ret_as (validDrill_any (drl l k) _ (by omega) (by omega)) b1).mono ?_; rintro e w' ⟨rfl, g, rfl⟩))
          go_ret
          exact ⟨ret_bool hf.out.symm, UpOf.of (HBEL.out.trans (Below.mono (BL.o (by repeat constructor)) HBEL.out.size))⟩
    · obtain rfl : k = l.length := by omega
      by_cases q : l.length ≤ 10
      · have hf := Lib.hid (vDrills_true q hok.out)
        go_wp2_with (first | ((with_reducible refine wp_region_up (by kernel_rfl) (by kernel_rfl) ?_); (repeat (go_big_quiet_step (fail))); refine wpQuiet_nil ?_; intro _ hw'; obtain ⟨nq, hw''⟩ := hw'; subst hw''))
        go_ret
        exact ⟨ret_bool (by rw [hf.out]; exact decide_eq_true (by omega)), UpOf.of hbel⟩
      · have hf := Lib.hid (vDrills_len (l := l) (by omega))
        have q' : decide (l.length ≤ 10) = false := decide_eq_false q
        go_wp2_with (first | ((with_reducible refine wp_region_up (by kernel_rfl) (by kernel_rfl) ?_); (repeat (go_big_quiet_step (fail))); refine wpQuiet_nil ?_; intro _ hw'; obtain ⟨nq, hw''⟩ := hw'; subst hw''))
        go_ret
        exact ⟨ret_bool (by rw [hf.out]; exact decide_eq_false (by omega)), UpOf.of hbel⟩
theorem text_eqD {s t : ByteArray} (h : (s.toList == t.toList) = true) : s = t := by
  rw [beq_iff_eq, ByteArray.toList_eq, ByteArray.toList_eq] at h
  exact ba_ext h
theorem text_neD {s t : ByteArray} (h : (s.toList == t.toList) = false) : s ≠ t := by
  intro e
  subst e
  simp at h
/-- the first drill with a name, of the first n ones; -1 if there is none -/
def idxD (l : List Drill) (n : Nat) (s : ByteArray) : Int := match (List.range n).find? (fun i => decide ((drl l i).name = s)) with | some i => i | none => -1
theorem idxD_at {l : List Drill} {n k : Nat} {s : ByteArray} (hk : k < n) (h : (drl l k).name = s) (hn : ∀ j, j < k → (drl l j).name ≠ s) : idxD l n s = k := by
  rw [idxD, find_first hk (decide_eq_true h) (fun j hj => decide_eq_false (hn j hj))]
theorem idxD_no {l : List Drill} {n : Nat} {s : ByteArray} (hn : ∀ j, j < n → (drl l j).name ≠ s) : idxD l n s = -1 := by
  rw [idxD, List.find?_eq_none.2 (fun j hj => by rw [List.mem_range] at hj; simpa using hn j hj)]
theorem idxD_some (l : List Drill) (n : Nat) (s : ByteArray) : idxD l n s = -1 ∧ (∀ j, j < n → (drl l j).name ≠ s) ∨ ∃ k, k < n ∧ idxD l n s = (k : Nat) ∧ (drl l k).name = s ∧ ∀ j, j < k → (drl l j).name ≠ s := by
  by_cases h : ∃ j, j < n ∧ decide ((drl l j).name = s) = true
  · obtain ⟨m, h1, h2, h3, h4⟩ := find_rangeD (p := fun j => decide ((drl l j).name = s)) h
    exact .inr ⟨m, h2, by rw [idxD, h1], of_decide_eq_true h3, fun j hj => of_decide_eq_false (h4 j hj)⟩
  · have : ∀ j, j < n → (drl l j).name ≠ s := fun j hj e => h ⟨j, hj, decide_eq_true e⟩
    exact .inl ⟨idxD_no this, this⟩
set_option maxRecDepth 10000 in
theorem l21Find_any (A : Option Addr) (n c : Nat) (l : List Drill) (s : ByteArray) (w : World) (h : Rds w 3 A l.length (drcs l)) (hn : n ≤ l.length) (hl : l.length ≤ 100000000) :
    Calls Tryz.prog 144 #[.slice A n c, .string s] w fun e w' => e = .returned (i64 (idxD l n s)) ∧ w = w' := by
  go_enter Tryz.func144, Tryz.ntmps144
  go_wp2_with fail
  go_loop [5] (fun i => ∃ k : Nat, k ≤ n ∧ i = i64 k ∧ Hid (∀ j, j < k → (drl l j).name ≠ s)) (fun i => n - (intOf i).toNat)
  case atStart => exact ⟨0, by omega, rfl, fun i hi => by omega⟩
  case round =>
    obtain ⟨k, hk, rfl, hok⟩ := hrel
    by_cases hlt : k < n
    · obtain ⟨b, off, rfl, hb, c0, c1, c2⟩ := drl_at h (show k < l.length by omega)
      cases p1 : ((drl l k).name.toList == s.toList)
      · have hq := Lib.hid (text_neD p1)
        go_wp2_with fail
        go_round
        case rel => have hy := lt_ext (P := fun j => (drl l j).name ≠ s) hok.out hq.out; exact ⟨k + 1, by omega, by go_num, hy⟩
        case measure => (simp [intOf]; try omega)
      · have hf := Lib.hid (idxD_at hlt (text_eqD p1) hok.out)
        go_wp2_with fail
        go_ret
        exact ⟨by rw [hf.out] <;> rfl, rfl⟩
    · have hf := Lib.hid (idxD_no (l := l) (n := n) (s := s) (fun i hi => hok.out i (by omega)))
      go_wp2_with fail
      go_ret
      exact ⟨by rw [hf.out] <;> rfl, rfl⟩
set_option maxRecDepth 10000 in
set_option maxHeartbeats 1000000 in
theorem l21Ok_any (A : Option Addr) (c : Nat) (l : List Drill) (w : World) (h : Rds w 3 A l.length (drcs l)) (hc : l.length ≤ c) (hn : l.length ≤ 100000000) (hf : DBd l) :
    Calls Tryz.prog 94 #[.slice A l.length c] w fun e w' => e = .returned (.bool (vDrills l)) ∧ UpOf w w' := by
  have HF := Lib.hid hf
  clear hf
  go_enter Tryz.func94, Tryz.ntmps94
  go_wp2_with (first | ((with_reducible refine wp_region_up (by kernel_rfl) (by kernel_rfl) ?_); (repeat (go_big_quiet_step (fail))); refine wpQuiet_nil ?_; intro _ hw'; obtain ⟨nq, hw''⟩ := hw'; subst hw''))
  go_loopw [3] (fun i wr => ∃ k : Nat, k ≤ l.length ∧ i = i64 k ∧ Hid (∀ j, j < k → okD l j = true) ∧ ∃ g : Up w, wr = up w g) (fun i _ => l.length - (intOf i).toNat)
  case atStart => exact ⟨0, by omega, rfl, fun i hi => by omega, ex_up (BL.o (by repeat constructor))⟩
  case round =>
    obtain ⟨k, hk, rfl, hok, g, rfl⟩ := hrel
    by_cases hlt : k < l.length
    · have HR := Lib.hid h
      obtain ⟨b, off, rfl, hb, c0, c1, c2⟩ := drl_at h hlt
      obtain ⟨f1, f2⟩ := HF.out k hlt
      clear h
      cases b1 : vDrill (drl l k)
      · have hf := Lib.hid (vDrills_at hlt (okD_no b1))
        go_wp2_with (first | (go_at_call 143; refine (ret_as (l21One_any (drl l k) _ (by omega) (by omega)) b1).mono ?_; rintro e w' ⟨rfl, g, rfl⟩) | ((with_reducible refine wp_region_up (by kernel_rfl) (by kernel_rfl) ?_); (repeat (go_big_quiet_step (first | (go_at_call 143; first | exact upq_tr (ret_as (l21One_any (drl l k) _ (by omega) (by omega)) b1) | exact upq (ret_as (l21One_any (drl l k) _ (by omega) (by omega)) b1))))); refine wpQuiet_nil ?_; intro _ hw'; obtain ⟨nq, hw''⟩ := hw'; subst hw''))
        go_ret
        exact ⟨ret_bool hf.out.symm, UpOf.of (BL.o (by repeat constructor))⟩
      · have B1 := Lib.hid b1
        rcases idxD_some l k (drl l k).name with ⟨e1, e2⟩ | ⟨m, m1, e1, e2, _⟩
        · have hq := Lib.hid (okD_true b1 e2)
          have hcl := Lib.hid (fun (W : World) (hW : Below w.heap.size w W) => show Calls Tryz.prog 144 #[.slice (some ⟨b, off, none⟩) k c, .string (drl l k).name] W fun e w' => e = .returned (i64 (-1)) ∧ W = w' from by have := l21Find_any (some ⟨b, off, none⟩) k c l (drl l k).name W (HR.out.below hW) (by omega) hn; rwa [e1] at this)
          clear e1 e2 b1
          go_wp2_with (first | (go_at_call 143; refine (ret_as (l21One_any (drl l k) _ (by omega) (by omega)) B1.out).mono ?_; rintro e w' ⟨rfl, g, rfl⟩) | (go_at_call 144; refine (hcl.out _ (BL.o (by repeat constructor))).mono ?_; rintro e w' ⟨rfl, rfl⟩) | ((with_reducible refine wp_region_up (by kernel_rfl) (by kernel_rfl) ?_); (repeat (go_big_quiet_step (first | (go_at_call 143; first | exact upq_tr (ret_as (l21One_any (drl l k) _ (by omega) (by omega)) B1.out) | exact upq (ret_as (l21One_any (drl l k) _ (by omega) (by omega)) B1.out)) | (go_at_call 144; first | exact upq_tr_same (hcl.out _ (BL.o (by repeat constructor))) | exact upq_same (hcl.out _ (BL.o (by repeat constructor))))))); refine wpQuiet_nil ?_; intro _ hw'; obtain ⟨nq, hw''⟩ := hw'; subst hw''))
          go_roundw
          case rel => have hx := lt_ext (P := fun j => okD l j = true) hok.out hq.out; exact ⟨k + 1, by omega, by go_num, hx, ex_up (BL.o (by repeat constructor))⟩
          case measure => (simp [intOf]; try omega)
        · have hf := Lib.hid (vDrills_at hlt (okD_name m1 e2))
          have hcl := Lib.hid (fun (W : World) (hW : Below w.heap.size w W) => show Calls Tryz.prog 144 #[.slice (some ⟨b, off, none⟩) k c, .string (drl l k).name] W fun e w' => e = .returned (i64 m) ∧ W = w' from by have := l21Find_any (some ⟨b, off, none⟩) k c l (drl l k).name W (HR.out.below hW) (by omega) hn; rwa [e1] at this)
          clear e1 e2 b1
          go_wp2_with (first | (go_at_call 143; refine (ret_as (l21One_any (drl l k) _ (by omega) (by omega)) B1.out).mono ?_; rintro e w' ⟨rfl, g, rfl⟩) | (go_at_call 144; refine (hcl.out _ (BL.o (by repeat constructor))).mono ?_; rintro e w' ⟨rfl, rfl⟩) | ((with_reducible refine wp_region_up (by kernel_rfl) (by kernel_rfl) ?_); (repeat (go_big_quiet_step (first | (go_at_call 143; first | exact upq_tr (ret_as (l21One_any (drl l k) _ (by omega) (by omega)) B1.out) | exact upq (ret_as (l21One_any (drl l k) _ (by omega) (by omega)) B1.out)) | (go_at_call 144; first | exact upq_tr_same (hcl.out _ (BL.o (by repeat constructor))) | exact upq_same (hcl.out _ (BL.o (by repeat constructor))))))); refine wpQuiet_nil ?_; intro _ hw'; obtain ⟨nq, hw''⟩ := hw'; subst hw''))
          go_ret
          exact ⟨ret_bool hf.out.symm, UpOf.of (BL.o (by repeat constructor))⟩
    · obtain rfl : k = l.length := by omega
      by_cases q : l.length ≤ 10
      · have hf := Lib.hid (vDrills_true q hok.out)
        go_wp2_with (first | ((with_reducible refine wp_region_up (by kernel_rfl) (by kernel_rfl) ?_); (repeat (go_big_quiet_step (fail))); refine wpQuiet_nil ?_; intro _ hw'; obtain ⟨nq, hw''⟩ := hw'; subst hw''))
        go_ret
        exact ⟨ret_bool (by rw [hf.out]; exact decide_eq_true (by omega)), UpOf.of (BL.o (by repeat constructor))⟩
      · have hf := Lib.hid (vDrills_len (l := l) (by omega))
        have q' : decide (l.length ≤ 10) = false := decide_eq_false q
        go_wp2_with (first | ((with_reducible refine wp_region_up (by kernel_rfl) (by kernel_rfl) ?_); (repeat (go_big_quiet_step (fail))); refine wpQuiet_nil ?_; intro _ hw'; obtain ⟨nq, hw''⟩ := hw'; subst hw''))
        go_ret
        exact ⟨ret_bool (by rw [hf.out]; exact decide_eq_false (by omega)), UpOf.of (BL.o (by repeat constructor))⟩
end Go.Proofs.YtbianlkenallaaaGreatDoor
namespace Go.Proofs.YtbianlkenallaaaGreatDoor
open Go.RowKit
theorem el_int : ElemOf Tryz.prog 28 2 (i64 0) 1 8 := elem_of Tryz.underlying28 (by kernel_rfl) rfl (by omega)
theorem ics_app (l : List Int) (x : Int) : ics (l ++ [x]) = ics l ++ [i64 x] := by simp [ics]
theorem ents_take {l : List Entry} {k : Nat} (h : k < l.length) : l.take (k + 1) = l.take k ++ [l[k]] := by
  rw [List.take_add_one, List.getElem?_eq_getElem h]; rfl
def enR (s : ByteArray) : List Entry × Int := if codeL s = 0 then (entsL s, 0) else ([], codeL s)
theorem enR_no {s : ByteArray} (h : ¬ codeL s = 0) : enR s = ([], codeL s) := by rw [enR, if_neg h]
theorem enR_ok {s : ByteArray} (h : codeL s = 0) : enR s = (entsL s, 0) := by rw [enR, if_pos h]
theorem LI.list {base rb sz : Nat} {w : World} {l : List Entry} {st : Int} (h : LI base w rb l st sz) : ∃ A c, w.cell? ⟨rb, 0, none⟩ = some (.slice A l.length c) ∧ rb < w.heap.size ∧ w.ownsRow base 127 3 (.slice A l.length c) l.length (encs l) := by
  obtain ⟨A, c, h1, h2, h3, h4⟩ := h
  exact ⟨A, c, h1.cell 0, h1.lt, h3⟩
set_option maxRecDepth 10000 in
theorem entriesOfI_any (s : ByteArray) (w : World) (hs : s.size ≤ 1048576) (ht : Tab w) :
    Calls Tryz.prog 68 #[.string s] w fun e w' => ∃ A' c', e = .returned (.tuple #[.slice A' (enR s).1.length c', i64 (enR s).2]) ∧ w'.ownsRow w.heap.size 127 3 (.slice A' (enR s).1.length c') (enR s).1.length (encs (enR s).1) ∧ UpOf w w' := by
  have HT := Lib.hid ht
  clear ht
  by_cases h1 : codeL s = 0
  · have hf := Lib.hid (enR_ok h1)
    go_enter Tryz.func68, Tryz.ntmps68
    go_wp2_with fail
    refine (wholeI_ok s _ (HT.out.below (BL.o (by repeat constructor))) h1).mono ?_
    rintro e w' ⟨rb, rfl, hl, g, rfl⟩
    obtain ⟨A, c, hc, hrb, hown⟩ := hl.list
    have HO := Lib.hid hown
    clear hl hown
    go_wp2_with (first | ((with_reducible refine wp_region_up (by kernel_rfl) (by kernel_rfl) ?_); (repeat (go_big_quiet_step (fail))); refine wpQuiet_nil ?_; intro _ hw'; obtain ⟨nq, hw''⟩ := hw'; subst hw''))
    go_ret2
    rw [hf.out]
    exact ⟨A, c, rfl, own_below HO.out (BL.o (by repeat constructor)), UpOf.of (BL.o (by repeat constructor))⟩
  · have hf := Lib.hid (enR_no h1)
    have z := code_ne h1
    go_enter Tryz.func68, Tryz.ntmps68
    go_wp2_with (first | (go_at_call 120; refine (wholeI_no s _ hs (HT.out.below (BL.o (by repeat constructor))) h1).mono ?_; rintro e w' ⟨rfl, g, rfl⟩) | ((with_reducible refine wp_region_up (by kernel_rfl) (by kernel_rfl) ?_); (repeat (go_big_quiet_step (first | (go_at_call 120; first | exact upq_tr (wholeI_no s _ hs (HT.out.below (BL.o (by repeat constructor))) h1) | exact upq (wholeI_no s _ hs (HT.out.below (BL.o (by repeat constructor))) h1))))); refine wpQuiet_nil ?_; intro _ hw'; obtain ⟨nq, hw''⟩ := hw'; subst hw''))
    go_ret2
    rw [hf.out]
    exact ⟨none, 0, rfl, ⟨rfl, .inl ⟨rfl, rfl⟩⟩, UpOf.of (BL.o (by repeat constructor))⟩
def vals (what : ByteArray) : List Entry → List Int
  | [] => []
  | x :: l => if x.what = what then x.value :: vals what l else vals what l
theorem vals_app (what : ByteArray) : ∀ (a b : List Entry), vals what (a ++ b) = vals what a ++ vals what b
  | [], b => rfl
  | x :: a, b => by
    rw [List.cons_append, vals, vals, vals_app what a b]
    split <;> rfl
theorem vals_yes {what : ByteArray} {l : List Entry} {k : Nat} (h : k < l.length) (q : l[k].what = what) : vals what (l.take (k + 1)) = vals what (l.take k) ++ [l[k].value] := by
  rw [ents_take h, vals_app, vals, if_pos q]; rfl
theorem vals_not {what : ByteArray} {l : List Entry} {k : Nat} (h : k < l.length) (q : ¬ l[k].what = what) : vals what (l.take (k + 1)) = vals what (l.take k) := by
  rw [ents_take h, vals_app, vals, if_neg q]; simp [vals]
theorem vals_len (what : ByteArray) : ∀ l : List Entry, (vals what l).length ≤ l.length
  | [] => Nat.le_refl _
  | x :: l => by
    rw [vals]
    have := vals_len what l
    split <;> simp <;> omega
def vaR (s what : ByteArray) : List Int × Int := if codeL s = 0 then (if nameB what = true then (vals what (entsL s), 0) else ([], 2)) else ([], codeL s)
theorem vaR_1 {s what : ByteArray} (h : ¬ codeL s = 0) : vaR s what = ([], codeL s) := by rw [vaR, if_neg h]
theorem vaR_2 {s what : ByteArray} (h : codeL s = 0) (h2 : nameB what = false) : vaR s what = ([], 2) := by rw [vaR, if_pos h, if_neg (by rw [h2]; simp)]
theorem vaR_0 {s what : ByteArray} (h : codeL s = 0) (h2 : nameB what = true) : vaR s what = (vals what (entsL s), 0) := by rw [vaR, if_pos h, if_pos h2]
end Go.Proofs.YtbianlkenallaaaGreatDoor
namespace Go.Proofs.YtbianlkenallaaaGreatDoor
open Go.RowKit
def vDesk (d : DeskD) : Bool := (vBsk d.b && (vStops d.stops && vDrills d.drills)) && decide (codeL d.log = 0)
theorem vDesk_1 {d : DeskD} (h : vBsk d.b = false) : vDesk d = false := by simp [vDesk, h]
theorem vDesk_2 {d : DeskD} (h : vStops d.stops = false) : vDesk d = false := by simp [vDesk, h]
theorem vDesk_3 {d : DeskD} (h : vDrills d.drills = false) : vDesk d = false := by simp [vDesk, h]
theorem vDesk_4 {d : DeskD} (h1 : vBsk d.b = true) (h2 : vStops d.stops = true) (h3 : vDrills d.drills = true) : vDesk d = decide (codeL d.log = 0) := by simp [vDesk, h1, h2, h3]
theorem vBsk_bars {b : Bsk} (h : vBsk b = true) : 2 ≤ b.bars ∧ b.bars ≤ 60 := by
  simp only [vBsk, Bool.and_eq_true] at h
  exact btw_true h.1.1.1.1
theorem vDesk_inv {d : DeskD} (h : vDesk d = true) : vBsk d.b = true ∧ vStops d.stops = true ∧ vDrills d.drills = true ∧ codeL d.log = 0 := by
  simp only [vDesk, Bool.and_eq_true, decide_eq_true_eq] at h
  exact ⟨h.1.1, h.1.2.1, h.1.2.2, h.2⟩
/-- sizes that fit, and drills' capacity -/
structure DkSz (d : DeskD) (e : Nat) : Prop where
  s : d.stops.length ≤ 100000000
  n : d.drills.length ≤ 100000000
  b : DBd d.drills
  l : d.log.size ≤ 1048576
  c : d.drills.length ≤ e
set_option maxRecDepth 10000 in
set_option maxHeartbeats 1000000 in
theorem validDeskI_any (d : DeskD) (A B : Option Addr) (c e : Nat) (w : World) (h : DSee w d A B) (hz : DkSz d e) (ht : Tab w) :
    Calls Tryz.prog 26 #[dkv d A B c e] w fun r w' => r = .returned (.bool (vDesk d)) ∧ UpOf w w' := by
  have HT := Lib.hid ht
  clear ht
  have HZ := Lib.hid hz
  clear hz
  go_enter Tryz.func26, Tryz.ntmps26
  go_upto_region 1 with (fail)
  refine wpg (R := fun V => Box V w.heap.size (dkcs d A B c e) ∧ UpOf w V) ⟨Box.new _ _ _, UpOf.of (BL.o (by repeat constructor))⟩ (fun V z => ?_)
  obtain ⟨hb, hB⟩ := z
  obtain ⟨hq, x0, x1, x2, x3, x4, x5, x6, x7⟩ := hb.eight
  have HS := Lib.hid (h.below hB.below)
  have HTV := Lib.hid (HT.out.below hB.below)
  have HB := Lib.hid hB
  clear hb hB h
  generalize w.heap.size = q at *
  cases q1 : vBsk d.b
  · have hf := Lib.hid (vDesk_1 q1)
    go_wp2_with (first | (go_at_call 65; refine (ret_as (validBasket_any d.b _) q1).mono ?_; rintro e w' ⟨rfl, g, rfl⟩) | ((with_reducible refine wp_region_up (by kernel_rfl) (by kernel_rfl) ?_); (repeat (go_big_quiet_step (first | (go_at_call 65; first | exact upq_tr (ret_as (validBasket_any d.b _) q1) | exact upq (ret_as (validBasket_any d.b _) q1))))); refine wpQuiet_nil ?_; intro _ hw'; obtain ⟨nq, hw''⟩ := hw'; subst hw''))
    go_ret
    exact ⟨ret_bool hf.out.symm, HB.out.tr (BL.o (by repeat constructor))⟩
  cases q2 : vStops d.stops
  · have hf := Lib.hid (vDesk_2 q2)
    go_wp2_with (first | (go_at_call 65; refine (ret_as (validBasket_any d.b _) q1).mono ?_; rintro e w' ⟨rfl, g, rfl⟩) | (go_at_call 66; refine (ret_as (validStops_any _ _ _ _ (HS.out.1.below (BL.o (by repeat constructor))) HZ.out.s) q2).mono ?_; rintro e w' ⟨rfl, g, rfl⟩) | ((with_reducible refine wp_region_up (by kernel_rfl) (by kernel_rfl) ?_); (repeat (go_big_quiet_step (first | (go_at_call 65; first | exact upq_tr (ret_as (validBasket_any d.b _) q1) | exact upq (ret_as (validBasket_any d.b _) q1)) | (go_at_call 66; first | exact upq_tr (ret_as (validStops_any _ _ _ _ (HS.out.1.below (BL.o (by repeat constructor))) HZ.out.s) q2) | exact upq (ret_as (validStops_any _ _ _ _ (HS.out.1.below (BL.o (by repeat constructor))) HZ.out.s) q2))))); refine wpQuiet_nil ?_; intro _ hw'; obtain ⟨nq, hw''⟩ := hw'; subst hw''))
    go_ret
    exact ⟨ret_bool hf.out.symm, HB.out.tr (BL.o (by repeat constructor))⟩
  cases q3 : vDrills d.drills
  · have hf := Lib.hid (vDesk_3 q3)
    go_wp2_with (first | (go_at_call 65; refine (ret_as (validBasket_any d.b _) q1).mono ?_; rintro e w' ⟨rfl, g, rfl⟩) | (go_at_call 66; refine (ret_as (validStops_any _ _ _ _ (HS.out.1.below (BL.o (by repeat constructor))) HZ.out.s) q2).mono ?_; rintro e w' ⟨rfl, g, rfl⟩) | (go_at_call 67; refine (ret_as (validDrills_any _ _ _ _ (HS.out.2.below (BL.o (by repeat constructor))) HZ.out.n HZ.out.b) q3).mono ?_; rintro e w' ⟨rfl, g, rfl⟩) | ((with_reducible refine wp_region_up (by kernel_rfl) (by kernel_rfl) ?_); (repeat (go_big_quiet_step (first | (go_at_call 65; first | exact upq_tr (ret_as (validBasket_any d.b _) q1) | exact upq (ret_as (validBasket_any d.b _) q1)) | (go_at_call 66; first | exact upq_tr (ret_as (validStops_any _ _ _ _ (HS.out.1.below (BL.o (by repeat constructor))) HZ.out.s) q2) | exact upq (ret_as (validStops_any _ _ _ _ (HS.out.1.below (BL.o (by repeat constructor))) HZ.out.s) q2)) | (go_at_call 67; first | exact upq_tr (ret_as (validDrills_any _ _ _ _ (HS.out.2.below (BL.o (by repeat constructor))) HZ.out.n HZ.out.b) q3) | exact upq (ret_as (validDrills_any _ _ _ _ (HS.out.2.below (BL.o (by repeat constructor))) HZ.out.n HZ.out.b) q3))))); refine wpQuiet_nil ?_; intro _ hw'; obtain ⟨nq, hw''⟩ := hw'; subst hw''))
    go_ret
    exact ⟨ret_bool hf.out.symm, HB.out.tr (BL.o (by repeat constructor))⟩
  · have hf := Lib.hid (vDesk_4 q1 q2 q3)
    go_wp2_with (first | (go_at_call 65; refine (ret_as (validBasket_any d.b _) q1).mono ?_; rintro e w' ⟨rfl, g, rfl⟩) | (go_at_call 66; refine (ret_as (validStops_any _ _ _ _ (HS.out.1.below (BL.o (by repeat constructor))) HZ.out.s) q2).mono ?_; rintro e w' ⟨rfl, g, rfl⟩) | (go_at_call 67; refine (ret_as (validDrills_any _ _ _ _ (HS.out.2.below (BL.o (by repeat constructor))) HZ.out.n HZ.out.b) q3).mono ?_; rintro e w' ⟨rfl, g, rfl⟩) | ((with_reducible refine wp_region_up (by kernel_rfl) (by kernel_rfl) ?_); (repeat (go_big_quiet_step (first | (go_at_call 65; first | exact upq_tr (ret_as (validBasket_any d.b _) q1) | exact upq (ret_as (validBasket_any d.b _) q1)) | (go_at_call 66; first | exact upq_tr (ret_as (validStops_any _ _ _ _ (HS.out.1.below (BL.o (by repeat constructor))) HZ.out.s) q2) | exact upq (ret_as (validStops_any _ _ _ _ (HS.out.1.below (BL.o (by repeat constructor))) HZ.out.s) q2)) | (go_at_call 67; first | exact upq_tr (ret_as (validDrills_any _ _ _ _ (HS.out.2.below (BL.o (by repeat constructor))) HZ.out.n HZ.out.b) q3) | exact upq (ret_as (validDrills_any _ _ _ _ (HS.out.2.below (BL.o (by repeat constructor))) HZ.out.n HZ.out.b) q3))))); refine wpQuiet_nil ?_; intro _ hw'; obtain ⟨nq, hw''⟩ := hw'; subst hw''))
    refine (entriesOfI_any d.log _ HZ.out.l (HTV.out.below (BL.o (by repeat constructor)))).mono ?_
    rintro r w' ⟨A', c', rfl, _, g9, rfl⟩
    have he : Hid ((enR d.log).2 = codeL d.log) := by
      show _ = _
      unfold enR
      split
      · rename_i h9; rw [h9]
      · rfl
    rw [he.out]
    go_wp2_with fail
    go_ret
    exact ⟨ret_bool (by rw [hf.out]; rfl), HB.out.tr (BL.o (by repeat constructor))⟩
theorem codeS_any (s : ByteArray) (w : World) (hs : s.size ≤ 1048576) : Calls Tryz.prog 91 #[.string s] w fun e w' => ∃ p, e = .returned (.tuple #[.pointer p, i64 (codeL s)]) ∧ UpOf w w' := by
  by_cases h : codeL s = 0
  · refine (codeS_ok s w h).mono ?_
    rintro e w' ⟨rb, rfl, _, hu⟩
    exact ⟨_, by rw [h], hu⟩
  · exact codeS_no s w hs h
set_option maxRecDepth 10000 in
set_option maxHeartbeats 1000000 in
theorem l28Ok_any (d : DeskD) (A B : Option Addr) (c e q : Nat) (V : World) (hb : Box V q (dkcs d A B c e)) (h : DSee V d A B) (hz : DkSz d e) :
    Calls Tryz.prog 40 #[.pointer (some ⟨q, 0, none⟩)] V fun r w' => r = .returned (.bool (vDesk d)) ∧ UpOf V w' := by
  have HZ := Lib.hid hz
  clear hz
  obtain ⟨hq, x0, x1, x2, x3, x4, x5, x6, x7⟩ := hb.eight
  have HS := Lib.hid h
  clear hb h
  go_enter Tryz.func40, Tryz.ntmps40
  go_wp2_with fail
  refine (codeS_any d.log _ HZ.out.l).mono ?_
  rintro r w' ⟨p, rfl, g, rfl⟩
  cases q1 : vBsk d.b
  · have hf := Lib.hid (vDesk_1 q1)
    go_wp2_with (first | (go_at_call 92; refine (ret_as (l03Ok_any d.b _) q1).mono ?_; rintro e w' ⟨rfl, g, rfl⟩) | ((with_reducible refine wp_region_up (by kernel_rfl) (by kernel_rfl) ?_); (repeat (go_big_quiet_step (first | (go_at_call 92; first | exact upq_tr (ret_as (l03Ok_any d.b _) q1) | exact upq (ret_as (l03Ok_any d.b _) q1))))); refine wpQuiet_nil ?_; intro _ hw'; obtain ⟨nq, hw''⟩ := hw'; subst hw''))
    go_ret
    exact ⟨ret_bool hf.out.symm, UpOf.of (BL.o (by repeat constructor))⟩
  cases q2 : vStops d.stops
  · have hf := Lib.hid (vDesk_2 q2)
    go_wp2_with (first | (go_at_call 92; refine (ret_as (l03Ok_any d.b _) q1).mono ?_; rintro e w' ⟨rfl, g, rfl⟩) | (go_at_call 93; refine (ret_as (l11Ok_any _ _ _ _ (HS.out.1.below (BL.o (by repeat constructor))) HZ.out.s) q2).mono ?_; rintro e w' ⟨rfl, g, rfl⟩) | ((with_reducible refine wp_region_up (by kernel_rfl) (by kernel_rfl) ?_); (repeat (go_big_quiet_step (first | (go_at_call 92; first | exact upq_tr (ret_as (l03Ok_any d.b _) q1) | exact upq (ret_as (l03Ok_any d.b _) q1)) | (go_at_call 93; first | exact upq_tr (ret_as (l11Ok_any _ _ _ _ (HS.out.1.below (BL.o (by repeat constructor))) HZ.out.s) q2) | exact upq (ret_as (l11Ok_any _ _ _ _ (HS.out.1.below (BL.o (by repeat constructor))) HZ.out.s) q2))))); refine wpQuiet_nil ?_; intro _ hw'; obtain ⟨nq, hw''⟩ := hw'; subst hw''))
    go_ret
    exact ⟨ret_bool hf.out.symm, UpOf.of (BL.o (by repeat constructor))⟩
  cases q3 : vDrills d.drills
  · have hf := Lib.hid (vDesk_3 q3)
    go_wp2_with (first | (go_at_call 92; refine (ret_as (l03Ok_any d.b _) q1).mono ?_; rintro e w' ⟨rfl, g, rfl⟩) | (go_at_call 93; refine (ret_as (l11Ok_any _ _ _ _ (HS.out.1.below (BL.o (by repeat constructor))) HZ.out.s) q2).mono ?_; rintro e w' ⟨rfl, g, rfl⟩) | (go_at_call 94; refine (ret_as (l21Ok_any _ _ _ _ (HS.out.2.below (BL.o (by repeat constructor))) HZ.out.c HZ.out.n HZ.out.b) q3).mono ?_; rintro e w' ⟨rfl, g, rfl⟩) | ((with_reducible refine wp_region_up (by kernel_rfl) (by kernel_rfl) ?_); (repeat (go_big_quiet_step (first | (go_at_call 92; first | exact upq_tr (ret_as (l03Ok_any d.b _) q1) | exact upq (ret_as (l03Ok_any d.b _) q1)) | (go_at_call 93; first | exact upq_tr (ret_as (l11Ok_any _ _ _ _ (HS.out.1.below (BL.o (by repeat constructor))) HZ.out.s) q2) | exact upq (ret_as (l11Ok_any _ _ _ _ (HS.out.1.below (BL.o (by repeat constructor))) HZ.out.s) q2)) | (go_at_call 94; first | exact upq_tr (ret_as (l21Ok_any _ _ _ _ (HS.out.2.below (BL.o (by repeat constructor))) HZ.out.c HZ.out.n HZ.out.b) q3) | exact upq (ret_as (l21Ok_any _ _ _ _ (HS.out.2.below (BL.o (by repeat constructor))) HZ.out.c HZ.out.n HZ.out.b) q3))))); refine wpQuiet_nil ?_; intro _ hw'; obtain ⟨nq, hw''⟩ := hw'; subst hw''))
    go_ret
    exact ⟨ret_bool hf.out.symm, UpOf.of (BL.o (by repeat constructor))⟩
  · have hf := Lib.hid (vDesk_4 q1 q2 q3)
    go_wp2_with (first | (go_at_call 92; refine (ret_as (l03Ok_any d.b _) q1).mono ?_; rintro e w' ⟨rfl, g, rfl⟩) | (go_at_call 93; refine (ret_as (l11Ok_any _ _ _ _ (HS.out.1.below (BL.o (by repeat constructor))) HZ.out.s) q2).mono ?_; rintro e w' ⟨rfl, g, rfl⟩) | (go_at_call 94; refine (ret_as (l21Ok_any _ _ _ _ (HS.out.2.below (BL.o (by repeat constructor))) HZ.out.c HZ.out.n HZ.out.b) q3).mono ?_; rintro e w' ⟨rfl, g, rfl⟩) | ((with_reducible refine wp_region_up (by kernel_rfl) (by kernel_rfl) ?_); (repeat (go_big_quiet_step (first | (go_at_call 92; first | exact upq_tr (ret_as (l03Ok_any d.b _) q1) | exact upq (ret_as (l03Ok_any d.b _) q1)) | (go_at_call 93; first | exact upq_tr (ret_as (l11Ok_any _ _ _ _ (HS.out.1.below (BL.o (by repeat constructor))) HZ.out.s) q2) | exact upq (ret_as (l11Ok_any _ _ _ _ (HS.out.1.below (BL.o (by repeat constructor))) HZ.out.s) q2)) | (go_at_call 94; first | exact upq_tr (ret_as (l21Ok_any _ _ _ _ (HS.out.2.below (BL.o (by repeat constructor))) HZ.out.c HZ.out.n HZ.out.b) q3) | exact upq (ret_as (l21Ok_any _ _ _ _ (HS.out.2.below (BL.o (by repeat constructor))) HZ.out.c HZ.out.n HZ.out.b) q3))))); refine wpQuiet_nil ?_; intro _ hw'; obtain ⟨nq, hw''⟩ := hw'; subst hw''))
    go_ret
    exact ⟨ret_bool (by rw [hf.out]; rfl), UpOf.of (BL.o (by repeat constructor))⟩
theorem validDeskS_any (d : DeskD) (A B : Option Addr) (c e : Nat) (w : World) (h : DSee w d A B) (hz : DkSz d e) :
    Calls Tryz.prog 10 #[dkv d A B c e] w fun r w' => r = .returned (.bool (vDesk d)) ∧ UpOf w w' := by
  go_enter Tryz.func10, Tryz.ntmps10
  go_wp2_with fail
  refine cg (R := fun V => Box V w.heap.size (dkcs d A B c e) ∧ UpOf w V) ⟨Box.new _ _ _, UpOf.of (BL.o (by repeat constructor))⟩ (fun V z => ?_)
  obtain ⟨hb, hB⟩ := z
  generalize w.heap.size = q at *
  refine (l28Ok_any d A B c e q V hb (h.below hB.below) hz).mono ?_
  rintro r w' ⟨rfl, g, rfl⟩
  go_wp2_with fail
  go_ret
  exact ⟨rfl, hB.tr (BL.o (by repeat constructor))⟩
def dkTextV (d : DeskD) : ByteArray := ((((dec d.b.bars ++ ⟨#[32, 98, 97, 114, 115, 44, 32]⟩) ++ dec d.stops.length) ++ ⟨#[32, 115, 116, 111, 112, 115, 44, 32]⟩) ++ dec d.drills.length) ++ ⟨#[32, 100, 114, 105, 108, 108, 115]⟩
def dkText (d : DeskD) : ByteArray := if vDesk d then dkTextV d else ⟨#[]⟩
theorem dkText_no {d : DeskD} (h : vDesk d = false) : dkText d = ⟨#[]⟩ := by rw [dkText, h]; rfl
theorem dkText_ok {d : DeskD} (h : vDesk d = true) : dkText d = dkTextV d := by rw [dkText, h]; rfl
set_option maxRecDepth 10000 in
set_option maxHeartbeats 1000000 in
theorem deskTextI_any (d : DeskD) (A B : Option Addr) (c e : Nat) (w : World) (h : DSee w d A B) (hz : DkSz d e) (ht : Tab w) :
    Calls Tryz.prog 11 #[dkv d A B c e] w fun r w' => r = .returned (.string (dkText d)) ∧ UpOf w w' := by
  have HT := Lib.hid ht
  clear ht
  have HZ := Lib.hid hz
  clear hz
  cases hv : vDesk d
  all_goals
    have HV := Lib.hid hv
    have hcl := fun (V : World) (h : DSee V d A B) (ht : Tab V) => ret_as (validDeskI_any d A B c e V h HZ.out ht) hv
    have HCL := Lib.hid hcl
    clear hcl hv
    go_enter Tryz.func11, Tryz.ntmps11
    go_upto_region 1 with (fail)
    refine wpg (R := fun V => Box V w.heap.size (dkcs d A B c e) ∧ UpOf w V) ⟨Box.new _ _ _, UpOf.of (BL.o (by repeat constructor))⟩ (fun V z => ?_)
    obtain ⟨hb, hB⟩ := z
    obtain ⟨hq, x0, x1, x2, x3, x4, x5, x6, x7⟩ := hb.eight
    have HS := Lib.hid (h.below hB.below)
    have HTV := Lib.hid (HT.out.below hB.below)
    have HB := Lib.hid hB
    clear hb hB h
    generalize w.heap.size = q at *
  · go_wp2_with (first | (go_at_call 26; refine (HCL.out _ (HS.out.below (BL.o (by repeat constructor))) (HTV.out.below (BL.o (by repeat constructor)))).mono ?_; rintro e w' ⟨rfl, g, rfl⟩) | ((with_reducible refine wp_region_up (by kernel_rfl) (by kernel_rfl) ?_); (repeat (go_big_quiet_step (first | (go_at_call 26; first | exact upq_tr (HCL.out _ (HS.out.below (BL.o (by repeat constructor))) (HTV.out.below (BL.o (by repeat constructor)))) | exact upq (HCL.out _ (HS.out.below (BL.o (by repeat constructor))) (HTV.out.below (BL.o (by repeat constructor)))))))); refine wpQuiet_nil ?_; intro _ hw'; obtain ⟨nq, hw''⟩ := hw'; subst hw''))
    go_ret
    exact ⟨by rw [dkText_no HV.out] <;> rfl, HB.out.tr (BL.o (by repeat constructor))⟩
  · have hb := vBsk_bars (vDesk_inv HV.out).1
    have h2 := HZ.out.s
    have h3 := HZ.out.n
    have hz1 := dec_len (n := d.b.bars) (by omega) (by omega)
    have hz2 := dec_len (n := (d.stops.length : Int)) (by omega) (by omega)
    have hz3 := dec_len (n := (d.drills.length : Int)) (by omega) (by omega)
    have z1 : (⟨#[32, 98, 97, 114, 115, 44, 32]⟩ : ByteArray).size = 7 := rfl
    have z2 : (⟨#[32, 115, 116, 111, 112, 115, 44, 32]⟩ : ByteArray).size = 8 := rfl
    have z3 : (⟨#[32, 100, 114, 105, 108, 108, 115]⟩ : ByteArray).size = 7 := rfl
    have e1 : ∀ w, (Op.stringOp .add (dec d.b.bars) ⟨#[32, 98, 97, 114, 115, 44, 32]⟩).run Tryz.prog w = .ok (.string (dec d.b.bars ++ ⟨#[32, 98, 97, 114, 115, 44, 32]⟩)) w := fun w => run_string_add_sum w _ _ (by omega)
    have e2 : ∀ w, (Op.stringOp .add (dec d.b.bars ++ ⟨#[32, 98, 97, 114, 115, 44, 32]⟩) (dec d.stops.length)).run Tryz.prog w = .ok (.string (dec d.b.bars ++ ⟨#[32, 98, 97, 114, 115, 44, 32]⟩ ++ dec d.stops.length)) w := fun w => run_string_add_sum w _ _ (by simp only [ByteArray.size_append]; omega)
    have e3 : ∀ w, (Op.stringOp .add (dec d.b.bars ++ ⟨#[32, 98, 97, 114, 115, 44, 32]⟩ ++ dec d.stops.length) ⟨#[32, 115, 116, 111, 112, 115, 44, 32]⟩).run Tryz.prog w = .ok (.string (dec d.b.bars ++ ⟨#[32, 98, 97, 114, 115, 44, 32]⟩ ++ dec d.stops.length ++ ⟨#[32, 115, 116, 111, 112, 115, 44, 32]⟩)) w := fun w => run_string_add_sum w _ _ (by simp only [ByteArray.size_append]; omega)
    have e4 : ∀ w, (Op.stringOp .add (dec d.b.bars ++ ⟨#[32, 98, 97, 114, 115, 44, 32]⟩ ++ dec d.stops.length ++ ⟨#[32, 115, 116, 111, 112, 115, 44, 32]⟩) (dec d.drills.length)).run Tryz.prog w = .ok (.string (dec d.b.bars ++ ⟨#[32, 98, 97, 114, 115, 44, 32]⟩ ++ dec d.stops.length ++ ⟨#[32, 115, 116, 111, 112, 115, 44, 32]⟩ ++ dec d.drills.length)) w := fun w => run_string_add_sum w _ _ (by simp only [ByteArray.size_append]; omega)
    have e5 : ∀ w, (Op.stringOp .add (dec d.b.bars ++ ⟨#[32, 98, 97, 114, 115, 44, 32]⟩ ++ dec d.stops.length ++ ⟨#[32, 115, 116, 111, 112, 115, 44, 32]⟩ ++ dec d.drills.length) ⟨#[32, 100, 114, 105, 108, 108, 115]⟩).run Tryz.prog w = .ok (.string (dkTextV d)) w := fun w => run_string_add_sum w _ _ (by simp only [ByteArray.size_append]; omega)
    clear hz1 hz2 hz3 z1 z2 z3
    go_wp2_with fail
    refine (HCL.out _ (HS.out.below (BL.o (by repeat constructor))) (HTV.out.below (BL.o (by repeat constructor)))).mono ?_
    rintro r w' ⟨rfl, g, rfl⟩
    go_wp2_with fail
    go_region_held3 (fun w' => (V).heap.size ≤ w'.heap.size ∧ ∀ b o, b < (V).heap.size → w'.cell? ⟨b, o, none⟩ = (V).cell? ⟨b, o, none⟩) (exact sm_of (BL.o (by repeat constructor))) (first | (go_at_call 41; refine (decI_any _ _ (by omega) (by omega) (HTV.out.below (BL.o (by repeat constructor)))).mono ?_; rintro e w' ⟨rfl, g5, rfl⟩))
    go_wp2_with (first | ((with_reducible refine wp_region_up (by kernel_rfl) (by kernel_rfl) ?_); (repeat (go_big_quiet_step (fail))); refine wpQuiet_nil ?_; intro _ hw'; obtain ⟨nq, hw''⟩ := hw'; subst hw''))
    go_ret
    exact ⟨by rw [dkText_ok HV.out] <;> rfl, HB.out.tr (BL.o (by repeat constructor))⟩
end Go.Proofs.YtbianlkenallaaaGreatDoor
namespace Go.Proofs.YtbianlkenallaaaGreatDoor
open Go.RowKit
def cnms : List ByteArray := [⟨#[111, 107]⟩, ⟨#[105, 110, 118, 97, 108, 105, 100]⟩, ⟨#[114, 97, 110, 103, 101]⟩, ⟨#[110, 111, 116, 45, 102, 111, 117, 110, 100]⟩, ⟨#[101, 120, 105, 115, 116, 115]⟩, ⟨#[102, 117, 108, 108]⟩, ⟨#[115, 116, 97, 116, 101]⟩, ⟨#[115, 121, 110, 116, 97, 120]⟩, ⟨#[102, 111, 114, 109, 97, 116]⟩, ⟨#[99, 108, 97, 115, 104]⟩, ⟨#[106, 97, 109]⟩]
/-- the name of a code -/
def cnm (c : Int) : ByteArray := if btw c 0 10 then wd cnms c.toNat else ⟨#[]⟩
/-- the line of a code -/
def errL (c : Int) : ByteArray := (⟨#[101, 114, 114, 111, 114, 32]⟩ : ByteArray) ++ cnm c
def cmds : List ByteArray := [⟨#[97, 108, 105, 103, 110]⟩, ⟨#[98, 97, 115, 107, 101, 116]⟩, ⟨#[99, 111, 100, 101]⟩, ⟨#[100, 114, 105, 108, 108]⟩, ⟨#[100, 114, 105, 108, 108, 115]⟩, ⟨#[101, 110, 116, 101, 114]⟩, ⟨#[102, 97, 115, 116]⟩, ⟨#[108, 105, 110, 101]⟩, ⟨#[108, 111, 103]⟩, ⟨#[109, 97, 114, 107]⟩, ⟨#[114, 111, 119]⟩, ⟨#[115, 101, 116]⟩, ⟨#[115, 116, 111, 112, 115]⟩, ⟨#[119, 97, 105, 116]⟩]
/-- which command a word is; 14: none -/
def kindOf (s : ByteArray) : Nat := (cmds.findIdx? fun x => decide (x = s)).getD 14
/-- has command k so many words -/
def fitK (k n : Nat) : Bool :=
  if k = 4 ∨ k = 8 then decide (n = 1) else if k = 0 ∨ k = 7 ∨ k = 9 ∨ k = 13 then decide (n = 3) else if k = 5 then decide (n = 4) else if k = 1 then decide (n = 6)
  else if k = 11 then decide (3 ≤ n) else if k = 14 then false else decide (2 ≤ n)
def sent (r : ByteArray × Int) : List ByteArray := if r.2 = 0 then [r.1] else [errL r.2]
def nmb (r : Int × Int) : List ByteArray := if r.2 = 0 then [dec r.1] else [errL r.2]
/-- numbers of words -/
def numsOf (ws : List ByteArray) : Option (List Int) := if ws.all numB then some (ws.map sval) else none
/-- the words from one on, as they stood -/
def restW (ws : List ByteArray) (k : Nat) : ByteArray := ⟨(joinL 32 (ws.drop k)).toArray⟩
def okLine (n : Nat) : ByteArray := (⟨#[111, 107, 32]⟩ : ByteArray) ++ dec n
def hasName (l : List Drill) (n : ByteArray) : Bool := l.any fun x => decide (x.name = n)
def addD (l : List Drill) (d : Drill) : List Drill × Int :=
  if vDrills l then (if vDrill d then (if hasName l d.name then ([], 4) else if l.length = 10 then ([], 5) else (l ++ [d], 0)) else ([], 2)) else ([], 1)
/-- 'two' tells what TwoReadings answers where the words are a code -/
def TwoOk (two : List ByteArray → ByteArray × Int) : Prop := ∀ ws, (vCode ws = true → IsTwo (lists ws) (two ws).1.data.toList (two ws).2) ∧ (vCode ws = false → two ws = (⟨#[]⟩, 1))
def codeOut (r : ByteArray × Int) : List ByteArray := if r.2 = 3 then [⟨#[117, 110, 105, 113, 117, 101]⟩] else sent r
def sumI : List Int → Int
  | [] => 0
  | x :: l => x + sumI l
def findD (l : List Drill) (n : ByteArray) : Option Drill := l.find? fun x => decide (x.name = n)
/-- what a command that fits does, and what it says -/
def doK (two : List ByteArray → ByteArray × Int) (d : DeskD) (ws : List ByteArray) (k : Nat) : DeskD × List ByteArray :=
  match k with
  | 0 => (d, sent (alnR (wd ws 1) (wd ws 2)))
  | 1 => match numsOf (ws.drop 1) with
    | none => (d, [errL 7])
    | some l => if vBsk ⟨num l 0, num l 1, num l 2, num l 3, num l 4⟩ then ({ d with b := ⟨num l 0, num l 1, num l 2, num l 3, num l 4⟩ }, [dkText { d with b := ⟨num l 0, num l 1, num l 2, num l 3, num l 4⟩ }]) else (d, [errL 1])
  | 2 => (d, codeOut (two (wordsA [] (restW ws 1).data.toList)))
  | 3 => match rdDrill (restW ws 1) with
    | none => (d, [errL 7])
    | some x => if (addD d.drills x).2 = 0 then ({ d with drills := (addD d.drills x).1 }, [dkText { d with drills := (addD d.drills x).1 }]) else (d, [errL (addD d.drills x).2])
  | 4 => (d, d.drills.map drText ++ [okLine d.drills.length])
  | 5 => match numsOf [wd ws 1, wd ws 3] with
    | none => (d, [errL 7])
    | some l => if (adR d.log ⟨num l 0, wd ws 2, num l 1⟩).2 = 0 then ({ d with log := (adR d.log ⟨num l 0, wd ws 2, num l 1⟩).1 }, nmb (sumI (vaR (adR d.log ⟨num l 0, wd ws 2, num l 1⟩).1 (wd ws 2)).1, (vaR (adR d.log ⟨num l 0, wd ws 2, num l 1⟩).1 (wd ws 2)).2)) else (d, [errL (adR d.log ⟨num l 0, wd ws 2, num l 1⟩).2])
  | 6 => match numsOf (ws.drop 1) with
    | none => (d, [errL 7])
    | some l => (d, nmb (tfR d.b l))
  | 7 => if numB (wd ws 2) then (match findD d.drills (wd ws 1) with | none => (d, [errL 3]) | some x => (d, sent (dlR x (sval (wd ws 2))))) else (d, [errL 7])
  | 8 => (d, (entsL d.log).map ewords ++ [okLine (entsL d.log).length])
  | 9 => (d, nmb (mrkR (wd ws 1) (wd ws 2)))
  | 10 => (d, sent (rowR d.stops (restW ws 1)))
  | 11 => if numB (wd ws 1) then (d, sent (setR (wordsA [] (restW ws 2).data.toList) (sval (wd ws 1)))) else (d, [errL 7])
  | 12 => match numsOf (ws.drop 1) with
    | none => (d, [errL 7])
    | some l => if vStops l then ({ d with stops := l }, [dkText { d with stops := l }]) else (d, [errL 1])
  | _ => match numsOf (ws.drop 1) with
    | none => (d, [errL 7])
    | some l => (d, nmb (mwR d.b (num l 0) (num l 1)))
/-- a line, done; none: it is no command -/
def doL (two : List ByteArray → ByteArray × Int) (d : DeskD) (line : ByteArray) : Option (DeskD × List ByteArray) :=
  if fitK (kindOf (wd (splitA 32 [] line.data.toList) 0)) (splitA 32 [] line.data.toList).length then some (doK two d (splitA 32 [] line.data.toList) (kindOf (wd (splitA 32 [] line.data.toList) 0))) else none
def outB (l : List ByteArray) : List UInt8 := l.flatMap fun s => s.data.toList ++ [10]
/-- lines, one after the other; 'n' more are allowed -/
def runL (two : List ByteArray → ByteArray × Int) : Nat → DeskD → List ByteArray → List UInt8
  | _, _, [] => []
  | 0, _, _ :: _ => outB [errL 5]
  | n + 1, d, x :: l => match doL two d x with
    | none => outB [⟨#[63]⟩] ++ runL two n d l
    | some r => outB r.2 ++ runL two n r.1 l
/-- the lines of a text -/
def linesOf (s : ByteArray) : List ByteArray := if (splitA 10 [] s.data.toList).getLast? = some ⟨#[]⟩ then (splitA 10 [] s.data.toList).dropLast else splitA 10 [] s.data.toList
def runR (two : List ByteArray → ByteArray × Int) (s : ByteArray) : ByteArray := ⟨(runL two 60 dk0 (linesOf s)).toArray⟩
end Go.Proofs.YtbianlkenallaaaGreatDoor
namespace Go.Proofs.YtbianlkenallaaaGreatDoor
open Go.RowKit
/-- a fresh list of texts -/
def txPost (l : List ByteArray) (w : World) (e : Ending) (w' : World) : Prop :=
  ∃ A c, e = .returned (.slice A l.length c) ∧ w'.ownsRow w.heap.size 9 1 (.slice A l.length c) l.length (strs l) ∧ UpOf w w'
theorem tx_one (w : World) (s : ByteArray) : txPost [s] w (.returned (.slice (some ⟨w.heap.size, 0, none⟩) 1 1)) (w.alloc (.cells #[.string s] 9)) :=
  ⟨_, _, rfl, World.ownsRow_lit (base := w.heap.size) (e := 9) (size := 1) w #[.string s] 1 (Nat.le_refl _) (by unfold maxLen; omega) rfl, UpOf.of (BL.o (by repeat constructor))⟩
theorem tx_up {l : List ByteArray} {w w1 : World} {e : Ending} {w' : World} (hu : UpOf w w1) (h : txPost l w1 e w') : txPost l w e w' := by
  obtain ⟨A, c, h1, h2, h3⟩ := h
  exact ⟨A, c, h1, own_mono h2 hu.below.size, hu.tr h3.below⟩
set_option maxRecDepth 10000 in
set_option maxHeartbeats 1000000 in
theorem codeName_any (c : Int) (w : World) : Calls Tryz.prog 121 #[i64 c] w fun e w' => e = .returned (.string (cnm c)) ∧ UpOf w w' := by
  go_enter Tryz.func121, Tryz.ntmps121
  go_upto_region 2 with (fail)
  refine wpg (R := fun V => (∀ i, i < 11 → V.cell? ⟨w.heap.size, i, none⟩ = some (.string (wd cnms i))) ∧ w.heap.size < V.heap.size ∧ UpOf w V) ⟨fun i hi => ?_, by simp, UpOf.of (BL.o (by repeat constructor))⟩ (fun V z => ?_)
  · rw [World.cell?_alloc_new]
    have : i = 0 ∨ i = 1 ∨ i = 2 ∨ i = 3 ∨ i = 4 ∨ i = 5 ∨ i = 6 ∨ i = 7 ∨ i = 8 ∨ i = 9 ∨ i = 10 := by omega
    rcases this with rfl | rfl | rfl | rfl | rfl | rfl | rfl | rfl | rfl | rfl | rfl <;> rfl
  obtain ⟨hc, hq, hu⟩ := z
  have HU := Lib.hid hu
  have HC := Lib.hid hc
  clear hc hu
  generalize w.heap.size = q at *
  by_cases h0 : c < 0
  · have hr : Hid (cnm c = ⟨#[]⟩) := Lib.hid (by rw [cnm, btw, decide_eq_false (by omega)]; rfl)
    have h0' : decide (c < 0) = true := decide_eq_true h0
    go_wp2_with (first | ((with_reducible refine wp_region_up (by kernel_rfl) (by kernel_rfl) ?_); (repeat (go_big_quiet_step (fail))); refine wpQuiet_nil ?_; intro _ hw'; obtain ⟨nq, hw''⟩ := hw'; subst hw''))
    go_ret
    rw [hr.out]
    exact ⟨rfl, HU.out.tr (BL.o (by repeat constructor))⟩
  · have h0' : decide (c < 0) = false := decide_eq_false h0
    by_cases h1 : (11 : Int) ≤ c
    · have hr : Hid (cnm c = ⟨#[]⟩) := Lib.hid (by rw [cnm, btw, decide_eq_false (by omega)]; rfl)
      have h1' : decide ((11 : Int) ≤ c) = true := decide_eq_true h1
      go_wp2_with (first | ((with_reducible refine wp_region_up (by kernel_rfl) (by kernel_rfl) ?_); (repeat (go_big_quiet_step (fail))); refine wpQuiet_nil ?_; intro _ hw'; obtain ⟨nq, hw''⟩ := hw'; subst hw''))
      go_ret
      rw [hr.out]
      exact ⟨rfl, HU.out.tr (BL.o (by repeat constructor))⟩
    · have h1' : decide ((11 : Int) ≤ c) = false := decide_eq_false h1
      obtain ⟨n, rfl⟩ : ∃ n : Nat, c = (n : Int) := ⟨c.toNat, by omega⟩
      have hn : n < 11 := by omega
      have hn' : (n : Int) < 11 := by omega
      have hx := HC.out n hn
      have hr : Hid (cnm n = wd cnms n) := Lib.hid (by rw [cnm, btw, decide_eq_true (by omega)]; rfl)
      go_wp2_with (first | ((with_reducible refine wp_region_up (by kernel_rfl) (by kernel_rfl) ?_); (repeat (go_big_quiet_step (fail))); refine wpQuiet_nil ?_; intro _ hw'; obtain ⟨nq, hw''⟩ := hw'; subst hw''))
      go_ret
      rw [hr.out]
      exact ⟨rfl, HU.out.tr (BL.o (by repeat constructor))⟩
theorem cnm_size (c : Int) : (cnm c).size ≤ 9 := by
  rw [cnm]
  split
  · rename_i h
    have hb := btw_true h
    obtain ⟨n, rfl⟩ : ∃ n : Nat, c = (n : Int) := ⟨c.toNat, by omega⟩
    have : n = 0 ∨ n = 1 ∨ n = 2 ∨ n = 3 ∨ n = 4 ∨ n = 5 ∨ n = 6 ∨ n = 7 ∨ n = 8 ∨ n = 9 ∨ n = 10 := by omega
    rcases this with rfl | rfl | rfl | rfl | rfl | rfl | rfl | rfl | rfl | rfl | rfl <;> decide
  · decide
set_option maxRecDepth 10000 in
theorem report_any (c : Int) (w : World) : Calls Tryz.prog 70 #[i64 c] w fun e w' => txPost [errL c] w e w' := by
  have hs := cnm_size c
  go_enter Tryz.func70, Tryz.ntmps70
  go_wp2_with (first | (go_at_call 121; refine (codeName_any c _).mono ?_; rintro e w' ⟨rfl, g, rfl⟩) | ((with_reducible refine wp_region_up (by kernel_rfl) (by kernel_rfl) ?_); (repeat (go_big_quiet_step (first | (go_at_call 121; first | exact upq_tr (codeName_any c _) | exact upq (codeName_any c _))))); refine wpQuiet_nil ?_; intro _ hw'; obtain ⟨nq, hw''⟩ := hw'; subst hw''))
  go_ret
  exact tx_up (UpOf.of (BL.o (by repeat constructor))) (tx_one _ _)
set_option maxRecDepth 10000 in
theorem sentence_any (s : ByteArray) (c : Int) (w : World) : Calls Tryz.prog 33 #[.string s, i64 c] w fun e w' => txPost (sent (s, c)) w e w' := by
  by_cases h : c = 0
  · subst h
    have hr := Lib.hid (show sent (s, 0) = [s] from rfl)
    rw [hr.out]
    go_enter Tryz.func33, Tryz.ntmps33
    go_wp2_with (first | ((with_reducible refine wp_region_up (by kernel_rfl) (by kernel_rfl) ?_); (repeat (go_big_quiet_step (fail))); refine wpQuiet_nil ?_; intro _ hw'; obtain ⟨nq, hw''⟩ := hw'; subst hw''))
    go_ret
    exact tx_one _ _
  · have h1 : (c != 0) = true := by rw [bne_iff_ne]; exact h
    have hr : sent (s, c) = [errL c] := by rw [sent, if_neg h]
    rw [hr]
    clear hr h
    go_enter Tryz.func33, Tryz.ntmps33
    go_wp2_with fail
    refine (report_any c _).mono ?_
    rintro e w' ⟨A, c', rfl, o, g, rfl⟩
    go_wp2_with fail
    go_ret
    exact ⟨A, c', rfl, o, UpOf.of (BL.o (by repeat constructor))⟩
set_option maxRecDepth 10000 in
theorem number_any (n : Int) (c : Int) (w : World) (h0 : -9223372036854775808 ≤ n) (h1 : n ≤ 9223372036854775807) (ht : Tab w) : Calls Tryz.prog 35 #[i64 n, i64 c] w fun e w' => txPost (nmb (n, c)) w e w' := by
  have HT := Lib.hid ht
  clear ht
  by_cases h : c = 0
  · subst h
    have hr := Lib.hid (show nmb (n, 0) = [dec n] from rfl)
    rw [hr.out]
    go_enter Tryz.func35, Tryz.ntmps35
    go_wp2_with (first | (go_at_call 41; refine (decI_any n _ h0 h1 (HT.out.below (BL.o (by repeat constructor)))).mono ?_; rintro e w' ⟨rfl, g, rfl⟩) | ((with_reducible refine wp_region_up (by kernel_rfl) (by kernel_rfl) ?_); (repeat (go_big_quiet_step (first | (go_at_call 41; first | exact upq_tr (decI_any n _ h0 h1 (HT.out.below (BL.o (by repeat constructor)))) | exact upq (decI_any n _ h0 h1 (HT.out.below (BL.o (by repeat constructor)))))))); refine wpQuiet_nil ?_; intro _ hw'; obtain ⟨nq, hw''⟩ := hw'; subst hw''))
    go_ret
    exact tx_up (UpOf.of (BL.o (by repeat constructor))) (tx_one _ _)
  · have h2 : (c != 0) = true := by rw [bne_iff_ne]; exact h
    have hr : nmb (n, c) = [errL c] := by rw [nmb, if_neg h]
    rw [hr]
    clear hr h
    go_enter Tryz.func35, Tryz.ntmps35
    go_wp2_with fail
    refine (report_any c _).mono ?_
    rintro e w' ⟨A, c', rfl, o, g, rfl⟩
    go_wp2_with fail
    go_ret
    exact ⟨A, c', rfl, o, UpOf.of (BL.o (by repeat constructor))⟩
end Go.Proofs.YtbianlkenallaaaGreatDoor
namespace Go.Proofs.YtbianlkenallaaaGreatDoor
open Go.RowKit
theorem el_int64 : ElemOf Tryz.prog 28 2 (i64 0) 1 8 := elem_of Tryz.underlying28 (by kernel_rfl) rfl (by omega)
set_option maxRecDepth 10000 in
set_option maxHeartbeats 1000000 in
theorem listed_any (base : Nat) (A : Option Addr) (c : Nat) (l : List ByteArray) (w : World) (hb : base ≤ w.heap.size) (h : w.ownsRow base 9 1 (.slice A l.length c) l.length (strs l)) (hn : l.length ≤ 100000000) (ht : Tab w) (W : World) (hW : Below W.heap.size W w) (hWb : W.heap.size ≤ base) :
    Calls Tryz.prog 89 #[.slice A l.length c] w fun e w' => ∃ A' c', e = .returned (.slice A' (l.length + 1) c') ∧ w'.ownsRow base 9 1 (.slice A' (l.length + 1) c') (l.length + 1) (strs (l ++ [okLine l.length])) ∧ UpOf W w' := by
  have HT := Lib.hid ht
  have HO := Lib.hid h
  have hd := (dec_bytes (n := (l.length : Int)) (by omega) (by omega)).2.2
  have HWw := Lib.hid hW
  clear ht h hW
  go_enter Tryz.func89, Tryz.ntmps89
  go_wp2_with (first | (go_at_call 41; refine (decI_any (l.length : Int) _ (by omega) (by omega) (HT.out.below (BL.o (by repeat constructor)))).mono ?_; rintro e w' ⟨rfl, g, rfl⟩) | (at_builtin; go_must (refine wpl_appU rfl _ _ 24 rfl W base 9 _ 1 16 el_str (.slice A l.length c) l.length (strs l) rfl (own_below HO.out (BL.o (by repeat constructor))) _ 1 1 [.string (okLine l.length)] rfl (rds_new _ _ _ 1 1 rfl) (fun u hu => by simp at hu; subst hu; rfl) (by unfold maxLen; omega) (by omega) (Nat.le_trans hb (show Below w.heap.size w _ from (BL.o (by repeat constructor))).size) (HWw.out.trans (Below.mono (BL.o (by repeat constructor)) HWw.out.size)) hWb ?_; intro A2 c2 g2 o2)) | ((with_reducible refine wp_region_up (by kernel_rfl) (by kernel_rfl) ?_); (repeat (go_big_quiet_step (first | (go_at_call 41; first | exact upq_tr (decI_any (l.length : Int) _ (by omega) (by omega) (HT.out.below (BL.o (by repeat constructor)))) | exact upq (decI_any (l.length : Int) _ (by omega) (by omega) (HT.out.below (BL.o (by repeat constructor)))))))); refine wpQuiet_nil ?_; intro _ hw'; obtain ⟨nq, hw''⟩ := hw'; subst hw''))
  go_ret
  exact ⟨A2, c2, rfl, by rw [strs_app]; exact o2, UpOf.of (up_below _ _)⟩
def sumI' (l : List Int) (k : Nat) : Int := sumI (l.take k)
theorem sumI_app (a b : List Int) : sumI (a ++ b) = sumI a + sumI b := by
  induction a with
  | nil => simp [sumI]
  | cons x a ih => rw [List.cons_append, sumI, ih, sumI]; omega
theorem sumI'_step {l : List Int} {k : Nat} (h : k < l.length) : sumI' l (k + 1) = sumI' l k + num l k := by
  rw [sumI', sumI', List.take_succ, sumI_app, List.getElem?_eq_getElem h, num_eq h]
  show sumI _ + sumI [num l k] = _
  rw [sumI, sumI]; omega
theorem sumI'_bd {l : List Int} {B : Int} (hB : 0 ≤ B) (h : ∀ i, i < l.length → -B ≤ num l i ∧ num l i ≤ B) : ∀ k, k ≤ l.length → -(B * k) ≤ sumI' l k ∧ sumI' l k ≤ B * k
  | 0, _ => by rw [sumI', List.take_zero, sumI]; simp
  | k + 1, hk => by
    have h1 := sumI'_bd hB h k (by omega)
    have h2 := h k (by omega)
    rw [sumI'_step (by omega)]
    have : B * ((k + 1 : Nat) : Int) = B * k + B := by push_cast; rw [Int.mul_add, Int.mul_one]
    rw [this]
    omega
set_option maxRecDepth 10000 in
set_option maxHeartbeats 1000000 in
theorem sumOf_any (A : Option Addr) (c : Nat) (l : List Int) (w : World) (h : Rds w 1 A l.length (ics l)) (hn : l.length ≤ 1000000) (hv : ∀ i, i < l.length → -1000000000 ≤ num l i ∧ num l i ≤ 1000000000) :
    Calls Tryz.prog 87 #[.slice A l.length c] w fun e w' => e = .returned (i64 (sumI l)) ∧ w = w' := by
  have HV := Lib.hid hv
  have HR := Lib.hid h
  clear hv h
  go_enter Tryz.func87, Tryz.ntmps87
  go_wp2_with fail
  go_loopw [3, 8] (fun t3 t8 wr => ∃ (k : Nat) (z : Int), k ≤ l.length ∧ t8 = i64 k ∧ t3 = .int .i64 z ∧ Hid (z = sumI' l k) ∧ wr = w) (fun _ t8 _ => l.length - (intOf t8).toNat)
  case atStart => exact ⟨0, 0, by omega, rfl, rfl, Lib.hid rfl, rfl⟩
  case round =>
    obtain ⟨k, z, hk, rfl, rfl, HZ, rfl⟩ := hrel
    have hb0 := sumI'_bd (B := 1000000000) (by omega) HV.out k hk
    have hz1 : -1000000000000000 ≤ z := by rw [HZ.out]; omega
    have hz2 : z ≤ 1000000000000000 := by rw [HZ.out]; omega
    clear hb0
    by_cases hlt : k < l.length
    · obtain ⟨b, off, rfl, hb, c0⟩ := num_at HR.out hlt
      have hx := HV.out k hlt
      obtain ⟨x, hx0⟩ : ∃ x, num l k = x := ⟨_, rfl⟩
      have HZ2 := Lib.hid (show z + x = sumI' l (k + 1) by rw [sumI'_step hlt, HZ.out, hx0])
      rw [hx0] at hx c0
      obtain ⟨hx1, hx2⟩ := hx
      clear HZ hx0
      go_wp2_with fail
      refine ⟨⟨k + 1, _, by omega, by go_num, rfl, HZ2, by first | rfl | trivial⟩, by simp [intOf]; try omega⟩
    · obtain rfl : k = l.length := by omega
      have HL : Hid (sumI l = z) := Lib.hid (by rw [HZ.out, sumI', List.take_length])
      clear HZ
      go_wp2_with fail
      go_ret
      rw [HL.out]
      exact ⟨rfl, rfl⟩
/-- numbers of words, or none -/
def rnPost (ws : List ByteArray) (w : World) (e : Ending) (w' : World) : Prop := match numsOf ws with
  | none => e = .returned (.tuple #[.slice none 0 0, .bool false]) ∧ UpOf w w'
  | some l => ∃ A c, e = .returned (.tuple #[.slice A l.length c, .bool true]) ∧ w'.ownsRow w.heap.size 2 1 (.slice A l.length c) l.length (ics l) ∧ UpOf w w'
theorem numsOf_no {ws : List ByteArray} {i : Nat} (hi : i < ws.length) (h : numB (wd ws i) = false) : numsOf ws = none := by
  rw [numsOf, if_neg]
  intro ha
  rw [List.all_eq_true] at ha
  have := ha (wd ws i) (by rw [← wd_eq hi]; exact List.getElem_mem hi)
  rw [h] at this
  cases this
theorem numsOf_yes {ws : List ByteArray} (h : ∀ i, i < ws.length → numB (wd ws i) = true) : numsOf ws = some (ws.map sval) := by
  rw [numsOf, if_pos]
  rw [List.all_eq_true]
  intro x hx
  obtain ⟨i, hi, rfl⟩ := List.getElem_of_mem hx
  rw [wd_eq hi]
  exact h i hi
set_option maxRecDepth 10000 in
set_option maxHeartbeats 1000000 in
theorem readNumbers_any (A : Option Addr) (c : Nat) (ws : List ByteArray) (w : World) (h : Rds w 1 A ws.length (strs ws)) (hn : ws.length ≤ 10000000) (hf : ∀ i, i < ws.length → (wd ws i).size ≤ 100000000) (ht : Tab w) :
    Calls Tryz.prog 69 #[.slice A ws.length c] w fun e w' => rnPost ws w e w' := by
  have HT := Lib.hid ht
  have HF := Lib.hid hf
  have HR := Lib.hid h
  have hOwn := Lib.hid (World.ownsRow_lit (base := w.heap.size) (e := 2) (size := 1) w #[] 0 (Nat.le_refl _) (by unfold maxLen; omega) rfl)
  clear ht hf h
  go_enter Tryz.func69, Tryz.ntmps69
  go_wp2_with (first | ((with_reducible refine wp_region_up (by kernel_rfl) (by kernel_rfl) ?_); (repeat (go_big_quiet_step (fail))); refine wpQuiet_nil ?_; intro _ hw'; obtain ⟨nq, hw''⟩ := hw'; subst hw''))
  go_loopw [4, 12] (fun t4 t12 wr => ∃ (k : Nat) (L : List Int) (A1 : Option Addr) (c1 : Nat), k ≤ ws.length ∧ t12 = i64 k ∧ t4 = .slice A1 L.length c1 ∧ Hid (L = (ws.take k).map sval) ∧ Hid (∀ j, j < k → numB (wd ws j) = true) ∧ Hid (wr.ownsRow w.heap.size 2 1 (.slice A1 L.length c1) L.length (ics L)) ∧ ∃ g : Up w, wr = up w g) (fun _ t12 _ => ws.length - (intOf t12).toNat)
  case atStart => exact ⟨0, [], _, _, by omega, rfl, rfl, Lib.hid rfl, Lib.hid (fun j hj => by omega), Lib.hid hOwn.out, ex_up (BL.o (by repeat constructor))⟩
  case round =>
    obtain ⟨k, L, A1, c1, hk, rfl, rfl, HE, HK, HO, g, rfl⟩ := hrel
    clear hOwn
    by_cases hlt : k < ws.length
    · obtain ⟨b, off, rfl, hb, c0⟩ := wd_at HR.out hlt
      have c0 := c0 k hlt
      have f1 := HF.out k hlt
      cases hv : numB (wd ws k) with
      | false =>
        have HC : Hid (∀ V, Tab V → Calls Tryz.prog 79 #[.string (wd ws k)] V fun e w' => e = .returned (.tuple #[i64 0, .bool false]) ∧ UpOf V w') := Lib.hid fun V hV => by
          have := readDecimal_any (wd ws k) V (by omega) hV
          rw [rdR_no hv] at this
          exact this
        have hf := Lib.hid (numsOf_no hlt hv)
        clear hv
        go_wp2_with (first | (go_at_call 79; refine (HC.out _ (HT.out.below (BL.o (by repeat constructor)))).mono ?_; rintro e w' ⟨rfl, g, rfl⟩) | ((with_reducible refine wp_region_up (by kernel_rfl) (by kernel_rfl) ?_); (repeat (go_big_quiet_step (first | (go_at_call 79; first | exact upq_tr (HC.out _ (HT.out.below (BL.o (by repeat constructor)))) | exact upq (HC.out _ (HT.out.below (BL.o (by repeat constructor)))))))); refine wpQuiet_nil ?_; intro _ hw'; obtain ⟨nq, hw''⟩ := hw'; subst hw''))
        go_ret2
        unfold rnPost
        rw [hf.out]
        exact ⟨rfl, UpOf.of (BL.o (by repeat constructor))⟩
      | true =>
        obtain ⟨x, hx⟩ : ∃ x, sval (wd ws k) = x := ⟨_, rfl⟩
        have HC : Hid (∀ V, Tab V → Calls Tryz.prog 79 #[.string (wd ws k)] V fun e w' => e = .returned (.tuple #[i64 x, .bool true]) ∧ UpOf V w') := Lib.hid fun V hV => by
          have := readDecimal_any (wd ws k) V (by omega) hV
          rw [rdR_ok hv, hx] at this
          exact this
        have HK2 := Lib.hid (lt_ext (P := fun j => numB (wd ws j) = true) HK.out hv)
        have HE2 := Lib.hid (show L ++ [x] = (ws.take (k + 1)).map sval by
          rw [List.take_succ, List.map_append, ← HE.out, List.getElem?_eq_getElem hlt, wd_eq hlt, ← hx]; rfl)
        have hL : L.length ≤ 10000000 := by rw [HE.out, List.length_map, List.length_take]; omega
        clear hv hx HE
        go_wp2_with (first | (go_at_call 79; refine (HC.out _ (HT.out.below (BL.o (by repeat constructor)))).mono ?_; rintro e w' ⟨rfl, g, rfl⟩) | (at_builtin; go_must (refine wpl_appU rfl _ _ 28 rfl w w.heap.size 2 _ 1 8 el_int64 (.slice A1 L.length c1) L.length (ics L) rfl (own_below HO.out (BL.o (by repeat constructor))) _ 1 1 [i64 x] rfl (rds_new _ _ _ 1 1 rfl) (fun u hu => by simp at hu; subst hu; rfl) (by unfold maxLen; omega) (by omega) (up_below w _).size (BL.o (by repeat constructor)) (Nat.le_refl _) ?_; intro A2 c2 g2 o2)) | ((with_reducible refine wp_region_up (by kernel_rfl) (by kernel_rfl) ?_); (repeat (go_big_quiet_step (first | (go_at_call 79; first | exact upq_tr (HC.out _ (HT.out.below (BL.o (by repeat constructor)))) | exact upq (HC.out _ (HT.out.below (BL.o (by repeat constructor)))))))); refine wpQuiet_nil ?_; intro _ hw'; obtain ⟨nq, hw''⟩ := hw'; subst hw''))
        go_roundw
        case rel => exact ⟨k + 1, L ++ [x], A2, c2, by omega, by go_num, congrArg (fun n => Value.slice A2 n c2) (by simp), HE2, HK2, Lib.hid (by rw [List.length_append]; simpa [ics] using o2), ex_up (BL.o (by repeat constructor))⟩
        case measure => simp [intOf]; try omega
    · obtain rfl : k = ws.length := by omega
      have hf := Lib.hid (show numsOf ws = some L by rw [numsOf_yes HK.out, HE.out, List.take_length])
      clear HE
      go_wp2_with (first | ((with_reducible refine wp_region_up (by kernel_rfl) (by kernel_rfl) ?_); (repeat (go_big_quiet_step (fail))); refine wpQuiet_nil ?_; intro _ hw'; obtain ⟨nq, hw''⟩ := hw'; subst hw''))
      go_ret2
      unfold rnPost
      rw [hf.out]
      exact ⟨A1, c1, rfl, own_below HO.out (BL.o (by repeat constructor)), UpOf.of (BL.o (by repeat constructor))⟩
end Go.Proofs.YtbianlkenallaaaGreatDoor
namespace Go.Proofs.YtbianlkenallaaaGreatDoor
open Go.RowKit
def WBd (ws : List ByteArray) : Prop := ∀ i, i < ws.length → (wd ws i).size ≤ 100000000
theorem sizes_bd {ws : List ByteArray} (h : WBd ws) : ∀ n, n ≤ ws.length → 0 ≤ sizes ws n ∧ sizes ws n ≤ 100000000 * (n : Int)
  | 0, _ => ⟨Int.le_refl _, Int.le_refl _⟩
  | n + 1, hn => by
    have h1 := sizes_bd h n (by omega)
    have h2 := h n (by omega)
    rw [sizes]
    constructor <;> (push_cast; omega)
set_option maxRecDepth 10000 in
set_option maxHeartbeats 1000000 in
theorem lineLength_any (A : Option Addr) (c : Nat) (ws : List ByteArray) (w : World) (h : Rds w 1 A ws.length (strs ws)) (hn : ws.length ≤ 100000000) (hf : WBd ws) :
    Calls Tryz.prog 132 #[.slice A ws.length c] w fun e w' => e = .returned (i64 (longL ws)) ∧ w = w' := by
  have HF := Lib.hid hf
  clear hf
  go_enter Tryz.func132, Tryz.ntmps132
  go_wp2_with fail
  go_loopw [3, 11] (fun t3 t11 wr => ∃ (k : Nat) (z : Int), k ≤ ws.length ∧ t11 = i64 k ∧ t3 = .int .i64 z ∧ Hid (z = (ws.length : Int) - 1 + sizes ws k) ∧ wr = w) (fun _ t11 _ => ws.length - (intOf t11).toNat)
  case atStart => exact ⟨0, _, by omega, rfl, rfl, Lib.hid (by rw [sizes]; omega), rfl⟩
  case round =>
    obtain ⟨k, z, hk, rfl, rfl, HZ, rfl⟩ := hrel
    have hsz := sizes_bd HF.out k hk
    have hz1 : -1 ≤ z := by rw [HZ.out]; omega
    have hz2 : z ≤ 20000000000000000 := by rw [HZ.out]; omega
    by_cases hlt : k < ws.length
    · obtain ⟨b, off, rfl, hb, c0⟩ := wd_at h hlt
      have c0 := c0 k hlt
      have f1 := HF.out k hlt
      have HZ2 := Lib.hid (show z + ((wd ws k).size : Int) = (ws.length : Int) - 1 + sizes ws (k + 1) from by rw [HZ.out, sizes]; omega)
      clear HZ hsz h
      go_wp2_with fail
      refine ⟨⟨k + 1, _, by omega, by go_num, rfl, HZ2, by first | rfl | trivial⟩, by simp [intOf]; try omega⟩
    · obtain rfl : k = ws.length := by omega
      obtain ⟨v, hv⟩ : ∃ v, (if z < 0 then 0 else z) = v := ⟨_, rfl⟩
      have hv2 : max z 0 = v := by rw [← hv]; split <;> omega
      have HL : Hid (longL ws = v) := Lib.hid (by rw [longL, ← HZ.out, ← hv]; (repeat' split) <;> omega)
      clear HZ hsz h
      go_wp2_with fail
      go_ret
      rw [HL.out]
      exact ⟨rfl, rfl⟩
set_option maxRecDepth 10000 in
set_option maxHeartbeats 1000000 in
theorem repeat_any (b : UInt8) (n : Int) (w : World) (hn : n ≤ 100000) (h0 : -1000000000 ≤ n) :
    Calls Tryz.prog 136 #[.string (bs [b]), i64 n] w fun e w' => e = .returned (.string (bs (List.replicate n.toNat b))) ∧ UpOf w w' := by
  have hOwn := Lib.hid (World.ownsRow_lit (base := w.heap.size) (e := 5) (size := 1) w #[] 0 (Nat.le_refl _) (by unfold maxLen; omega) rfl)
  obtain ⟨s, hs⟩ : ∃ s, bs [b] = s := ⟨_, rfl⟩
  have HS : Hid (s.data.toList = [b]) := Lib.hid (by rw [← hs, bs_list])
  have hs1 : s.size = 1 := by rw [← hs]; rfl
  rw [hs]
  clear hs
  obtain ⟨N, hN⟩ : ∃ N : Nat, n.toNat = N := ⟨_, rfl⟩
  have hmx : (if n < 0 then 0 else n) = (N : Int) := by split <;> omega
  have hN1 : N ≤ 100000 := by omega
  rw [hN]
  clear hN
  go_enter Tryz.func136, Tryz.ntmps136
  go_wp2_with (first | ((with_reducible refine wp_region_up (by kernel_rfl) (by kernel_rfl) ?_); (repeat (go_big_quiet_step (fail))); refine wpQuiet_nil ?_; intro _ hw'; obtain ⟨nq, hw''⟩ := hw'; subst hw''))
  go_loopw [5, 9] (fun t5 t9 wr => ∃ (k : Nat) (L : List UInt8) (A1 : Option Addr) (c1 : Nat), k ≤ N ∧ t9 = i64 k ∧ t5 = .slice A1 L.length c1 ∧ Hid (L = List.replicate k b) ∧ Hid (wr.ownsRow w.heap.size 5 1 (.slice A1 L.length c1) L.length (Lib.byteCells L)) ∧ ∃ g : Up w, wr = up w g) (fun _ t9 _ => N - (intOf t9).toNat)
  case atStart => exact ⟨0, [], _, _, by omega, rfl, rfl, Lib.hid rfl, Lib.hid hOwn.out, ex_up (BL.o (by repeat constructor))⟩
  case round =>
    obtain ⟨k, L, A1, c1, hk, rfl, rfl, HE, HO, g, rfl⟩ := hrel
    clear hOwn
    by_cases hlt : k < N
    · have hL : L.length ≤ 100000 := by rw [HE.out, List.length_replicate]; omega
      go_wp2_with (first | (at_builtin; go_must (refine wpl_appS rfl _ _ 22 9 rfl w w.heap.size 5 el_byte Tryz.underlying9 A1 c1 L rfl (own_below HO.out (BL.o (by repeat constructor))) s rfl (by omega) (up_below w _).size (BL.o (by repeat constructor)) (Nat.le_refl _) ?_; intro A2 c2 g2 o2)) | ((with_reducible refine wp_region_up (by kernel_rfl) (by kernel_rfl) ?_); (repeat (go_big_quiet_step (fail))); refine wpQuiet_nil ?_; intro _ hw'; obtain ⟨nq, hw''⟩ := hw'; subst hw''))
      refine ⟨⟨k + 1, L ++ s.data.toList, A2, c2, by omega, by go_num, congrArg (fun n => Value.slice A2 n c2) (by rw [List.length_append, HS.out]; rfl), Lib.hid (by rw [HE.out, HS.out, List.replicate_succ']), Lib.hid o2, ex_up (BL.o (by repeat constructor))⟩, by simp [intOf]; try omega⟩
    · obtain rfl : k = N := by omega
      have hcv := conv_own HO.out rfl (Below.refl _ _)
      have hfin := Lib.hid HE.out
      clear HE
      go_wp2_with (first | ((with_reducible refine wp_region_up (by kernel_rfl) (by kernel_rfl) ?_); (repeat (go_big_quiet_step (fail))); refine wpQuiet_nil ?_; intro _ hw'; obtain ⟨nq, hw''⟩ := hw'; subst hw''))
      go_ret
      rw [← hfin.out]
      exact ⟨rfl, UpOf.of (BL.o (by repeat constructor))⟩
end Go.Proofs.YtbianlkenallaaaGreatDoor
namespace Go.Proofs.YtbianlkenallaaaGreatDoor
open Go.RowKit
set_option maxRecDepth 10000 in
set_option maxHeartbeats 1000000 in
theorem drillText_any (d : Drill) (w : World) (h1 : d.name.size ≤ 9223372036854775807) (h2 : d.letters.size ≤ 9223372036854775807) (ht : Tab w) :
    Calls Tryz.prog 88 #[drv d] w fun e w' => e = .returned (.string (drText d)) ∧ UpOf w w' := by
  have HT := Lib.hid ht
  clear ht
  cases hv : vDrill d with
  | false =>
    have hr := Lib.hid (show drText d = ⟨#[]⟩ by rw [drText, hv]; rfl)
    go_enter Tryz.func88, Tryz.ntmps88
    go_upto_region 1 with (fail)
    refine wpg (R := fun V => Box V w.heap.size #[.string d.name, .string d.letters, i64 d.minutes] ∧ UpOf w V) ⟨Box.new _ _ _, UpOf.of (BL.o (by repeat constructor))⟩ (fun V z => ?_)
    obtain ⟨⟨hq, hc⟩, hB⟩ := z
    have c0 := hc 0 _ rfl
    have c1 := hc 1 _ rfl
    have c2 := hc 2 _ rfl
    have HB := Lib.hid hB
    clear hc hB
    generalize w.heap.size = q at *
    go_wp2_with (first | (go_at_call 119; refine (ret_as (validDrill_any d _ h1 h2) hv).mono ?_; rintro e w' ⟨rfl, g, rfl⟩) | ((with_reducible refine wp_region_up (by kernel_rfl) (by kernel_rfl) ?_); (repeat (go_big_quiet_step (first | (go_at_call 119; first | exact upq_tr (ret_as (validDrill_any d _ h1 h2) hv) | exact upq (ret_as (validDrill_any d _ h1 h2) hv))))); refine wpQuiet_nil ?_; intro _ hw'; obtain ⟨nq, hw''⟩ := hw'; subst hw''))
    go_ret
    rw [hr.out]
    exact ⟨rfl, HB.out.tr (BL.o (by repeat constructor))⟩
  | true =>
    have hr := Lib.hid (show drText d = drTextV d by rw [drText, hv]; rfl)
    obtain ⟨a, b, c, e, _⟩ := vDrill_inv hv
    have s1 := (nameB_bd a).2
    have s2 := (txtB_inv c).1
    have s3 := (dec_bytes (n := d.minutes) (by omega) (by omega)).2.2
    have e1 := e.1
    have e2 := e.2
    clear a b c e
    go_enter Tryz.func88, Tryz.ntmps88
    go_upto_region 1 with (fail)
    refine wpg (R := fun V => Box V w.heap.size #[.string d.name, .string d.letters, i64 d.minutes] ∧ UpOf w V) ⟨Box.new _ _ _, UpOf.of (BL.o (by repeat constructor))⟩ (fun V z => ?_)
    obtain ⟨⟨hq, hc⟩, hB⟩ := z
    have c0 := hc 0 _ rfl
    have c1 := hc 1 _ rfl
    have c2 := hc 2 _ rfl
    have HB := Lib.hid hB
    clear hc hB
    generalize w.heap.size = q at *
    have HTV := Lib.hid (HT.out.below HB.out.below)
    go_wp2_with (first | (go_at_call 119; refine (ret_as (validDrill_any d _ h1 h2) hv).mono ?_; rintro e w' ⟨rfl, g, rfl⟩) | (go_at_call 41; refine (decI_any d.minutes _ (by omega) (by omega) (HTV.out.below (BL.o (by repeat constructor)))).mono ?_; rintro e w' ⟨rfl, g, rfl⟩) | ((with_reducible refine wp_region_up (by kernel_rfl) (by kernel_rfl) ?_); (repeat (go_big_quiet_step (first | (go_at_call 119; first | exact upq_tr (ret_as (validDrill_any d _ h1 h2) hv) | exact upq (ret_as (validDrill_any d _ h1 h2) hv)) | (go_at_call 41; first | exact upq_tr (decI_any d.minutes _ (by omega) (by omega) (HTV.out.below (BL.o (by repeat constructor)))) | exact upq (decI_any d.minutes _ (by omega) (by omega) (HTV.out.below (BL.o (by repeat constructor)))))))); refine wpQuiet_nil ?_; intro _ hw'; obtain ⟨nq, hw''⟩ := hw'; subst hw''))
    go_ret
    rw [hr.out]
    exact ⟨rfl, HB.out.tr (BL.o (by repeat constructor))⟩
set_option maxRecDepth 10000 in
set_option maxHeartbeats 1000000 in
theorem trimRight_any (s : ByteArray) (e : Nat) (w : World) (hs : s.size ≤ 1000000) (he : e ≤ s.size) (h1 : e = 0 ∨ byteAt s (e - 1) ≠ 32) (h2 : ∀ i, e ≤ i → i < s.size → byteAt s i = 32) :
    Calls Tryz.prog 137 #[.string s] w fun r w' => r = .returned (.string (s.extract 0 e)) ∧ UpOf w w' := by
  have H1 := Lib.hid h1
  have H2 := Lib.hid h2
  clear h1 h2
  go_enter Tryz.func137, Tryz.ntmps137
  go_wp2_with (first | ((with_reducible refine wp_region_up (by kernel_rfl) (by kernel_rfl) ?_); (repeat (go_big_quiet_step (fail))); refine wpQuiet_nil ?_; intro _ hw'; obtain ⟨nq, hw''⟩ := hw'; subst hw''))
  go_loopw [3] (fun t3 wr => ∃ k : Nat, e ≤ k ∧ k ≤ s.size ∧ t3 = i64 k ∧ ∃ g : Up w, wr = up w g) (fun t3 _ => (intOf t3).toNat)
  case atStart => exact ⟨s.size, he, Nat.le_refl _, rfl, ex_up (BL.o (by repeat constructor))⟩
  case round =>
    obtain ⟨k, hk, hks, rfl, g, rfl⟩ := hrel
    by_cases hk0 : k = 0
    · have he0 : e = 0 := by omega
      subst hk0
      subst he0
      go_wp2_with (first | ((with_reducible refine wp_region_up (by kernel_rfl) (by kernel_rfl) ?_); (repeat (go_big_quiet_step (fail))); refine wpQuiet_nil ?_; intro _ hw'; obtain ⟨nq, hw''⟩ := hw'; subst hw''))
      go_ret
      exact ⟨rfl, UpOf.of (BL.o (by repeat constructor))⟩
    · obtain ⟨j, rfl⟩ : ∃ j, k = j + 1 := ⟨k - 1, by omega⟩
      have hjs : j < s.size := by omega
      have eb := byteAt_eq hjs
      have hpos : (0 : Int) < ((j + 1 : Nat) : Int) := by omega
      have hj1 : (((j + 1 : Nat) : Int) - 1).toNat = j := by omega
      by_cases hlt : e ≤ j
      · have hb : byteAt s j = 32 := H2.out j hlt hjs
        have hb2 : (((byteAt s j).toNat : Int) == 32) = true := by rw [hb]; rfl
        clear hb hk0
        go_wp2_with (first | ((with_reducible refine wp_region_up (by kernel_rfl) (by kernel_rfl) ?_); (repeat (go_big_quiet_step (fail))); refine wpQuiet_nil ?_; intro _ hw'; obtain ⟨nq, hw''⟩ := hw'; subst hw''))
        go_roundw
        case rel => exact ⟨j, hlt, by omega, by go_num, ex_up (BL.o (by repeat constructor))⟩
        case measure => simp [intOf]; try omega
      · have hej : e = j + 1 := by omega
        have hb : byteAt s j ≠ 32 := by
          rcases H1.out with h | h
          · omega
          · rwa [hej] at h
        have hb2 : (((byteAt s j).toNat : Int) == 32) = false := by
          rw [beq_eq_false_iff_ne]
          intro h
          exact hb (UInt8.toNat_inj.1 (by show (byteAt s j).toNat = 32; omega))
        have HE := Lib.hid hej
        clear hb hk0 hej
        go_wp2_with (first | ((with_reducible refine wp_region_up (by kernel_rfl) (by kernel_rfl) ?_); (repeat (go_big_quiet_step (fail))); refine wpQuiet_nil ?_; intro _ hw'; obtain ⟨nq, hw''⟩ := hw'; subst hw''))
        go_ret
        rw [HE.out]
        exact ⟨rfl, UpOf.of (BL.o (by repeat constructor))⟩
end Go.Proofs.YtbianlkenallaaaGreatDoor
namespace Go.Proofs.YtbianlkenallaaaGreatDoor
open Go.RowKit
end Go.Proofs.YtbianlkenallaaaGreatDoor
namespace Go.Proofs.YtbianlkenallaaaGreatDoor
open Go.RowKit
theorem post_gen {P : Program} {F : Func} {Q : Ending → World → Prop} {x : Exit} {a : Act} {w : World} {R : World → Prop} (st : R w) (h : ∀ W, R W → bodyPost P F Q x a W) : bodyPost P F Q x a w := h w st
abbrev zc : Array Value := #[i64 0, i64 0, i64 0, i64 0, i64 0, .slice none 0 0, .slice none 0 0, .string ⟨#[]⟩]
theorem own_setOld {w : World} {base : Nat} {e : TypeId} {size : Nat} {v : Value} {n : Nat} {xs : List Value} (h : w.ownsRow base e size v n xs) {p : Addr} (hp : p.block < base) (u : Value) : (w.setCell p u).ownsRow base e size v n xs := by
  refine h.kept (row := some p.block) ⟨rfl, rfl, rfl, by simp [World.setCell], fun k _ hne => Below.heap_setCell w p u k (fun e => hne (by rw [e]))⟩ ?_
  cases hv : v.ownBlock with
  | none => exact .inl rfl
  | some k =>
    refine .inr fun he => ?_
    injection he with he
    have := (h.lt k hv).1
    omega
theorem own_all {W : World} {q base : Nat} {e : TypeId} {size : Nat} {v : Value} {n : Nat} {xs : List Value} (h : W.ownsRow base e size v n xs) (hp : q < base) (u0 u1 u2 u3 u4 u5 u6 u7 : Value) : (((((((((W.setCell ⟨q, 0, none⟩ u0).setCell ⟨q, 1, none⟩ u1).setCell ⟨q, 2, none⟩ u2).setCell ⟨q, 3, none⟩ u3).setCell ⟨q, 4, none⟩ u4).setCell ⟨q, 5, none⟩ u5).setCell ⟨q, 6, none⟩ u6).setCell ⟨q, 7, none⟩ u7)).ownsRow base e size v n xs := by
  have h0 := own_setOld (p := ⟨q, 0, none⟩) h hp u0
  have h1 := own_setOld (p := ⟨q, 1, none⟩) h0 hp u1
  have h2 := own_setOld (p := ⟨q, 2, none⟩) h1 hp u2
  have h3 := own_setOld (p := ⟨q, 3, none⟩) h2 hp u3
  have h4 := own_setOld (p := ⟨q, 4, none⟩) h3 hp u4
  have h5 := own_setOld (p := ⟨q, 5, none⟩) h4 hp u5
  have h6 := own_setOld (p := ⟨q, 6, none⟩) h5 hp u6
  have h7 := own_setOld (p := ⟨q, 7, none⟩) h6 hp u7
  exact h7
/-- the desk's slices are the call's own -/
def DOwn (base : Nat) (w : World) (d : DeskD) (A B : Option Addr) (c e : Nat) : Prop := w.ownsRow base 2 1 (.slice A d.stops.length c) d.stops.length (ics d.stops) ∧ w.ownsRow base 112 3 (.slice B d.drills.length e) d.drills.length (drcs d.drills)
theorem DOwn.see {base : Nat} {w : World} {d : DeskD} {A B : Option Addr} {c e : Nat} (h : DOwn base w d A B c e) : DSee w d A B := ⟨Rds.of_own h.1, Rds.of_own h.2⟩
end Go.Proofs.YtbianlkenallaaaGreatDoor
namespace Go.Proofs.YtbianlkenallaaaGreatDoor
open Go.RowKit
theorem exit_genD {Q : Exit → Act → World → Prop} {x : Exit} {a : Act} {w : World} {R : World → Prop} (st : R w) (h : ∀ W, R W → Q x a W) : Q x a w := h w st
def dr0 : Drill := ⟨⟨#[]⟩, ⟨#[]⟩, 0⟩
def rdV (o : Option Drill) : Value := match o with
  | none => .tuple #[drv dr0, .bool false]
  | some d => .tuple #[drv d, .bool true]
theorem drTextV_pos (d : Drill) : 0 < (drTextV d).size := by
  have z : (⟨#[32]⟩ : ByteArray).size = 1 := rfl
  simp only [drTextV, ByteArray.size_append]
  omega
theorem Below.sets3d {rb : Nat} {a V w : World} (hr : a.heap.size ≤ rb) (h1 : Below a.heap.size a V) (h2 : Below V.heap.size V w) (u0 u1 u2 : Value) : Below a.heap.size a (((w.setCell ⟨rb, 0, none⟩ u0).setCell ⟨rb, 1, none⟩ u1).setCell ⟨rb, 2, none⟩ u2) :=
  (((h1.trans (h2.mono h1.size)).setCell (p := ⟨rb, 0, none⟩) hr u0).setCell (p := ⟨rb, 1, none⟩) hr u1).setCell (p := ⟨rb, 2, none⟩) hr u2
set_option maxRecDepth 10000 in
set_option maxHeartbeats 2000000 in
theorem readDrillI_any (s : ByteArray) (w : World) (hs : s.size ≤ 1048576) (ht : Tab w) :
    Calls Tryz.prog 77 #[.string s] w fun e w' => e = .returned (rdV (rdDrill s)) ∧ UpOf w w' := by
  have HT := Lib.hid ht
  clear ht
  obtain ⟨W, hW⟩ : ∃ W, wordsA [] s.data.toList = W := ⟨_, rfl⟩
  have HW : Hid (∀ V, Calls Tryz.prog 76 #[.string s] V fun e w' => ∃ A c, e = .returned (.slice A W.length c) ∧ w'.ownsRow V.heap.size 9 1 (.slice A W.length c) W.length (strs W) ∧ UpOf V w') := Lib.hid fun V => by
    rw [← hW]; exact splitWords_any s V (by omega)
  have hWs : ∀ i, i < W.length → (wd W i).size ≤ 1048576 := fun i hi => by
    have := words_size s.data.toList [] (wd W i) (by rw [hW, ← wd_eq hi]; exact List.getElem_mem hi)
    rw [bsz] at this
    simp at this
    omega
  have hrd : rdDrill s = if drillB s W then some (drOf W) else none := by rw [rdDrill, hW]
  clear hW
  by_cases h3 : W.length = 3
  · have h3' : ((W.length : Int) != 3) = false := by rw [h3]; rfl
    have s0 := hWs 0 (by omega)
    have s1 := hWs 1 (by omega)
    have s2 := hWs 2 (by omega)
    have H3 := Lib.hid h3
    cases hn : numB (wd W 2) with
    | false =>
      have hf := Lib.hid (show rdDrill s = none by rw [hrd, drillB_2 hn]; rfl)
      have HR : Hid (∀ V, Tab V → Calls Tryz.prog 79 #[.string (wd W 2)] V fun e w' => e = .returned (.tuple #[i64 0, .bool false]) ∧ UpOf V w') := Lib.hid fun V hV => by
        have := readDecimal_any (wd W 2) V (by omega) hV
        rw [rdR_no hn] at this
        exact this
      clear hrd hWs hn
      go_enter Tryz.func77, Tryz.ntmps77
      go_wp2_with fail
      refine cg (R := fun V => Blk V w.heap.size 112 #[.string ⟨#[]⟩, .string ⟨#[]⟩, i64 0] ∧ UpOf w V) ⟨Blk.new _ _ _, UpOf.of (BL.o (by repeat constructor))⟩ (fun V z => ?_)
      have HTV := Lib.hid (HT.out.below z.2.below)
      have HU := Lib.hid z.2
      have q0 := z.1.cell 0
      have q1 := z.1.cell 1
      have q2 := z.1.cell 2
      have f0 := z.1.free 0
      have f1 := z.1.free 1
      have f2 := z.1.free 2
      have hq := z.1.lt
      simp only [List.getElem?_toArray, List.getElem?_cons_zero, List.getElem?_cons_succ] at q0 q1 q2
      clear z
      obtain ⟨q, hqq⟩ : ∃ q, w.heap.size = q := ⟨_, rfl⟩
      have HQ := Lib.hid (show w.heap.size ≤ q from Nat.le_of_eq hqq)
      rw [hqq] at q0 q1 q2 f0 f1 f2 hq ⊢
      clear hqq
      refine (HW.out _).mono ?_
      rintro e w' ⟨A, c, rfl, o1, g1, rfl⟩
      obtain ⟨b, off, rfl, hb, cw⟩ := wd_at (Rds.of_own o1) (i := 0) (by omega)
      have cw0 := cw 0 (by omega)
      have cw1 := cw 1 (by omega)
      have cw2 := cw 2 (by omega)
      rw [Nat.add_zero] at cw0
      rw [h3]
      clear cw o1 h3 h3'
      go_wp2_with (first | (go_at_call 79; refine (HR.out _ (HTV.out.below (BL.o (by repeat constructor)))).mono ?_; rintro e w' ⟨rfl, g, rfl⟩) | ((with_reducible refine wp_region_up (by kernel_rfl) (by kernel_rfl) ?_); (repeat (go_big_quiet_step (first | (go_at_call 79; first | exact upq_tr (HR.out _ (HTV.out.below (BL.o (by repeat constructor)))) | exact upq (HR.out _ (HTV.out.below (BL.o (by repeat constructor)))))))); refine wpQuiet_nil ?_; intro _ hw'; obtain ⟨nq, hw''⟩ := hw'; subst hw''))
      refine wpg (R := fun U => UpOf V U ∧ b < U.heap.size ∧ U.cell? ⟨b, off, none⟩ = some (.string (wd W 0)) ∧ U.cell? ⟨b, off + 1, none⟩ = some (.string (wd W 1))) ⟨UpOf.of (BL.o (by repeat constructor)), Nat.lt_of_lt_of_le hb (up_below _ _).size, ((up_below (up V g1) g).cell (p := ⟨b, off, none⟩) hb).trans cw0, ((up_below (up V g1) g).cell (p := ⟨b, off + 1, none⟩) hb).trans cw1⟩ (fun V2 z => ?_)
      obtain ⟨z1, hb2, d0, d1⟩ := z
      have HU2 := Lib.hid z1
      clear z1 cw0 cw1 cw2 hb
      go_region_held3 (fun w' => (V2).heap.size ≤ w'.heap.size ∧ ∀ b o, b < (V2).heap.size → w'.cell? ⟨b, o, none⟩ = (V2).cell? ⟨b, o, none⟩) (exact sm_of (BL.o (by repeat constructor))) (first | fail)
      refine exit_genD (R := fun U => Box U V2.heap.size #[.string (wd W 0), .string (wd W 1), i64 0] ∧ UpOf V2 U) ⟨(Box.new V2 _ _).below (Below.drew (Below.refl _ _)), UpOf.of (BL.o (by repeat constructor))⟩ (fun V3 z => ?_)
      obtain ⟨⟨hp3, hbx⟩, hU3⟩ := z
      have x0 := hbx 0 _ rfl
      have x1 := hbx 1 _ rfl
      have x2 := hbx 2 _ rfl
      have HU3 := Lib.hid (HU2.out.tr hU3.below)
      have hq3 : q < V3.heap.size := Nat.lt_of_lt_of_le hq HU3.out.below.size
      have q0 := (HU3.out.below.cell (p := ⟨q, 0, none⟩) hq).trans q0
      have q1 := (HU3.out.below.cell (p := ⟨q, 1, none⟩) hq).trans q1
      have q2 := (HU3.out.below.cell (p := ⟨q, 2, none⟩) hq).trans q2
      have f0 := (HU3.out.below.frozen (p := ⟨q, 0, none⟩) hq).trans f0
      have f1 := (HU3.out.below.frozen (p := ⟨q, 1, none⟩) hq).trans f1
      have f2 := (HU3.out.below.frozen (p := ⟨q, 2, none⟩) hq).trans f2
      have HTV3 := Lib.hid (HTV.out.below HU3.out.below)
      have hpq : ¬ V2.heap.size = q := fun h => by
        have := Nat.lt_of_lt_of_le hq HU2.out.below.size
        omega
      clear d0 d1 hb2 hbx hU3 HU2
      generalize V2.heap.size = p at *
      go_wp2_with fail
      exact bodyPost_ret (v := .tuple #[drv dr0, .bool false]) (by simp [results, Tryz.results77, go_sem, hq3, q0, q1, q2, dr0]) rfl ⟨by rw [hf.out]; rfl, UpOf.of (Below.sets3d HQ.out (HU.out.below.trans (HU3.out.below.mono HU.out.below.size)) (BL.o (by repeat constructor)) _ _ _)⟩
    | true =>
      have hinv := numB_inv hn
      have hbd := sval_bd hinv.1.2 hinv.2.1
      obtain ⟨N, hN⟩ : ∃ N, sval (wd W 2) = N := ⟨_, rfl⟩
      rw [hN] at hbd
      have HR : Hid (∀ V, Tab V → Calls Tryz.prog 79 #[.string (wd W 2)] V fun e w' => e = .returned (.tuple #[i64 N, .bool true]) ∧ UpOf V w') := Lib.hid fun V hV => by
        have := readDecimal_any (wd W 2) V (by omega) hV
        rw [rdR_ok hn, hN] at this
        exact this
      have hdo : drOf W = ⟨wd W 0, wd W 1, N⟩ := by rw [drOf, hN]
      obtain ⟨T, hT⟩ : ∃ T, drText ⟨wd W 0, wd W 1, N⟩ = T := ⟨_, rfl⟩
      have HDT : Hid (∀ V, Tab V → Calls Tryz.prog 88 #[.agg #[.string (wd W 0), .string (wd W 1), i64 N]] V fun e w' => e = .returned (.string T) ∧ UpOf V w') := Lib.hid fun V hV => by
        have := drillText_any ⟨wd W 0, wd W 1, N⟩ V (by show (wd W 0).size ≤ _; omega) (by show (wd W 1).size ≤ _; omega) hV
        rw [hT] at this
        exact this
      by_cases hTs : T = s
      · have htt := tl_teq hTs
        have htn : (!(T.toList == s.toList)) = false := by rw [htt]; rfl
        by_cases h0 : s.size = 0
        · have hz := isEmpty_yes h0
          have hf := Lib.hid (show rdDrill s = none by
            have : vDrill (drOf W) = false := by
              cases hv : vDrill (drOf W)
              · rfl
              · rw [drText, ← hdo, hv, if_pos rfl] at hT
                have := drTextV_pos (drOf W)
                rw [hT, hTs] at this
                omega
            rw [hrd, drillB_3 this]; rfl)
          clear hrd hWs hn hinv hdo hN hT hTs h0
          go_enter Tryz.func77, Tryz.ntmps77
          go_wp2_with fail
          refine cg (R := fun V => Blk V w.heap.size 112 #[.string ⟨#[]⟩, .string ⟨#[]⟩, i64 0] ∧ UpOf w V) ⟨Blk.new _ _ _, UpOf.of (BL.o (by repeat constructor))⟩ (fun V z => ?_)
          have HTV := Lib.hid (HT.out.below z.2.below)
          have HU := Lib.hid z.2
          have q0 := z.1.cell 0
          have q1 := z.1.cell 1
          have q2 := z.1.cell 2
          have f0 := z.1.free 0
          have f1 := z.1.free 1
          have f2 := z.1.free 2
          have hq := z.1.lt
          simp only [List.getElem?_toArray, List.getElem?_cons_zero, List.getElem?_cons_succ] at q0 q1 q2
          clear z
          obtain ⟨q, hqq⟩ : ∃ q, w.heap.size = q := ⟨_, rfl⟩
          have HQ := Lib.hid (show w.heap.size ≤ q from Nat.le_of_eq hqq)
          rw [hqq] at q0 q1 q2 f0 f1 f2 hq ⊢
          clear hqq
          refine (HW.out _).mono ?_
          rintro e w' ⟨A, c, rfl, o1, g1, rfl⟩
          obtain ⟨b, off, rfl, hb, cw⟩ := wd_at (Rds.of_own o1) (i := 0) (by omega)
          have cw0 := cw 0 (by omega)
          have cw1 := cw 1 (by omega)
          have cw2 := cw 2 (by omega)
          rw [Nat.add_zero] at cw0
          rw [h3]
          clear cw o1 h3 h3'
          go_wp2_with (first | (go_at_call 79; refine (HR.out _ (HTV.out.below (BL.o (by repeat constructor)))).mono ?_; rintro e w' ⟨rfl, g, rfl⟩) | ((with_reducible refine wp_region_up (by kernel_rfl) (by kernel_rfl) ?_); (repeat (go_big_quiet_step (first | (go_at_call 79; first | exact upq_tr (HR.out _ (HTV.out.below (BL.o (by repeat constructor)))) | exact upq (HR.out _ (HTV.out.below (BL.o (by repeat constructor)))))))); refine wpQuiet_nil ?_; intro _ hw'; obtain ⟨nq, hw''⟩ := hw'; subst hw''))
          refine wpg (R := fun U => UpOf V U ∧ b < U.heap.size ∧ U.cell? ⟨b, off, none⟩ = some (.string (wd W 0)) ∧ U.cell? ⟨b, off + 1, none⟩ = some (.string (wd W 1))) ⟨UpOf.of (BL.o (by repeat constructor)), Nat.lt_of_lt_of_le hb (up_below _ _).size, ((up_below (up V g1) g).cell (p := ⟨b, off, none⟩) hb).trans cw0, ((up_below (up V g1) g).cell (p := ⟨b, off + 1, none⟩) hb).trans cw1⟩ (fun V2 z => ?_)
          obtain ⟨z1, hb2, d0, d1⟩ := z
          have HU2 := Lib.hid z1
          clear z1 cw0 cw1 cw2 hb
          go_region_held3 (fun w' => (V2).heap.size ≤ w'.heap.size ∧ ∀ b o, b < (V2).heap.size → w'.cell? ⟨b, o, none⟩ = (V2).cell? ⟨b, o, none⟩) (exact sm_of (BL.o (by repeat constructor))) (first | fail)
          refine exit_genD (R := fun U => Box U V2.heap.size #[.string (wd W 0), .string (wd W 1), i64 N] ∧ UpOf V2 U) ⟨(Box.new V2 _ _).below (Below.drew (Below.refl _ _)), UpOf.of (BL.o (by repeat constructor))⟩ (fun V3 z => ?_)
          obtain ⟨⟨hp3, hbx⟩, hU3⟩ := z
          have x0 := hbx 0 _ rfl
          have x1 := hbx 1 _ rfl
          have x2 := hbx 2 _ rfl
          have HU3 := Lib.hid (HU2.out.tr hU3.below)
          have hq3 : q < V3.heap.size := Nat.lt_of_lt_of_le hq HU3.out.below.size
          have q0 := (HU3.out.below.cell (p := ⟨q, 0, none⟩) hq).trans q0
          have q1 := (HU3.out.below.cell (p := ⟨q, 1, none⟩) hq).trans q1
          have q2 := (HU3.out.below.cell (p := ⟨q, 2, none⟩) hq).trans q2
          have f0 := (HU3.out.below.frozen (p := ⟨q, 0, none⟩) hq).trans f0
          have f1 := (HU3.out.below.frozen (p := ⟨q, 1, none⟩) hq).trans f1
          have f2 := (HU3.out.below.frozen (p := ⟨q, 2, none⟩) hq).trans f2
          have HTV3 := Lib.hid (HTV.out.below HU3.out.below)
          have hpq : ¬ V2.heap.size = q := fun h => by
            have := Nat.lt_of_lt_of_le hq HU2.out.below.size
            omega
          clear d0 d1 hb2 hbx hU3 HU2
          generalize V2.heap.size = p at *
          go_wp2_with (first | (go_at_call 88; refine (HDT.out _ (HTV3.out.below (BL.o (by repeat constructor)))).mono ?_; rintro e w' ⟨rfl, g, rfl⟩) | ((with_reducible refine wp_region_up (by kernel_rfl) (by kernel_rfl) ?_); (repeat (go_big_quiet_step (first | (go_at_call 88; first | exact upq_tr (HDT.out _ (HTV3.out.below (BL.o (by repeat constructor)))) | exact upq (HDT.out _ (HTV3.out.below (BL.o (by repeat constructor)))))))); refine wpQuiet_nil ?_; intro _ hw'; obtain ⟨nq, hw''⟩ := hw'; subst hw''))
          exact bodyPost_ret (v := .tuple #[drv dr0, .bool false]) (by simp [results, Tryz.results77, go_sem, hq3, q0, q1, q2, dr0]) rfl ⟨by rw [hf.out]; rfl, UpOf.of (Below.sets3d HQ.out (HU.out.below.trans (HU3.out.below.mono HU.out.below.size)) (BL.o (by repeat constructor)) _ _ _)⟩
        · have hz := isEmpty_no (s := s) (by omega)
          have hf := Lib.hid (show rdDrill s = some ⟨wd W 0, wd W 1, N⟩ by
            have hv : vDrill (drOf W) = true := by
              cases hv : vDrill (drOf W)
              · rw [drText, ← hdo, hv] at hT
                rw [← hTs, ← hT] at h0
                exact absurd rfl h0
              · rfl
            have : drillB s W = true := drillB_0 h3 hn hv (by rw [drText, ← hdo, hv, if_pos rfl] at hT; rw [hT, hTs])
            rw [hrd, this, if_pos rfl, hdo])
          clear hrd hWs hn hinv hdo hN hT hTs h0
          go_enter Tryz.func77, Tryz.ntmps77
          go_wp2_with fail
          refine cg (R := fun V => Blk V w.heap.size 112 #[.string ⟨#[]⟩, .string ⟨#[]⟩, i64 0] ∧ UpOf w V) ⟨Blk.new _ _ _, UpOf.of (BL.o (by repeat constructor))⟩ (fun V z => ?_)
          have HTV := Lib.hid (HT.out.below z.2.below)
          have HU := Lib.hid z.2
          have q0 := z.1.cell 0
          have q1 := z.1.cell 1
          have q2 := z.1.cell 2
          have f0 := z.1.free 0
          have f1 := z.1.free 1
          have f2 := z.1.free 2
          have hq := z.1.lt
          simp only [List.getElem?_toArray, List.getElem?_cons_zero, List.getElem?_cons_succ] at q0 q1 q2
          clear z
          obtain ⟨q, hqq⟩ : ∃ q, w.heap.size = q := ⟨_, rfl⟩
          have HQ := Lib.hid (show w.heap.size ≤ q from Nat.le_of_eq hqq)
          rw [hqq] at q0 q1 q2 f0 f1 f2 hq ⊢
          clear hqq
          refine (HW.out _).mono ?_
          rintro e w' ⟨A, c, rfl, o1, g1, rfl⟩
          obtain ⟨b, off, rfl, hb, cw⟩ := wd_at (Rds.of_own o1) (i := 0) (by omega)
          have cw0 := cw 0 (by omega)
          have cw1 := cw 1 (by omega)
          have cw2 := cw 2 (by omega)
          rw [Nat.add_zero] at cw0
          rw [h3]
          clear cw o1 h3 h3'
          go_wp2_with (first | (go_at_call 79; refine (HR.out _ (HTV.out.below (BL.o (by repeat constructor)))).mono ?_; rintro e w' ⟨rfl, g, rfl⟩) | ((with_reducible refine wp_region_up (by kernel_rfl) (by kernel_rfl) ?_); (repeat (go_big_quiet_step (first | (go_at_call 79; first | exact upq_tr (HR.out _ (HTV.out.below (BL.o (by repeat constructor)))) | exact upq (HR.out _ (HTV.out.below (BL.o (by repeat constructor)))))))); refine wpQuiet_nil ?_; intro _ hw'; obtain ⟨nq, hw''⟩ := hw'; subst hw''))
          refine wpg (R := fun U => UpOf V U ∧ b < U.heap.size ∧ U.cell? ⟨b, off, none⟩ = some (.string (wd W 0)) ∧ U.cell? ⟨b, off + 1, none⟩ = some (.string (wd W 1))) ⟨UpOf.of (BL.o (by repeat constructor)), Nat.lt_of_lt_of_le hb (up_below _ _).size, ((up_below (up V g1) g).cell (p := ⟨b, off, none⟩) hb).trans cw0, ((up_below (up V g1) g).cell (p := ⟨b, off + 1, none⟩) hb).trans cw1⟩ (fun V2 z => ?_)
          obtain ⟨z1, hb2, d0, d1⟩ := z
          have HU2 := Lib.hid z1
          clear z1 cw0 cw1 cw2 hb
          go_region_held3 (fun w' => (V2).heap.size ≤ w'.heap.size ∧ ∀ b o, b < (V2).heap.size → w'.cell? ⟨b, o, none⟩ = (V2).cell? ⟨b, o, none⟩) (exact sm_of (BL.o (by repeat constructor))) (first | fail)
          refine exit_genD (R := fun U => Box U V2.heap.size #[.string (wd W 0), .string (wd W 1), i64 N] ∧ UpOf V2 U) ⟨(Box.new V2 _ _).below (Below.drew (Below.refl _ _)), UpOf.of (BL.o (by repeat constructor))⟩ (fun V3 z => ?_)
          obtain ⟨⟨hp3, hbx⟩, hU3⟩ := z
          have x0 := hbx 0 _ rfl
          have x1 := hbx 1 _ rfl
          have x2 := hbx 2 _ rfl
          have HU3 := Lib.hid (HU2.out.tr hU3.below)
          have hq3 : q < V3.heap.size := Nat.lt_of_lt_of_le hq HU3.out.below.size
          have q0 := (HU3.out.below.cell (p := ⟨q, 0, none⟩) hq).trans q0
          have q1 := (HU3.out.below.cell (p := ⟨q, 1, none⟩) hq).trans q1
          have q2 := (HU3.out.below.cell (p := ⟨q, 2, none⟩) hq).trans q2
          have f0 := (HU3.out.below.frozen (p := ⟨q, 0, none⟩) hq).trans f0
          have f1 := (HU3.out.below.frozen (p := ⟨q, 1, none⟩) hq).trans f1
          have f2 := (HU3.out.below.frozen (p := ⟨q, 2, none⟩) hq).trans f2
          have HTV3 := Lib.hid (HTV.out.below HU3.out.below)
          have hpq : ¬ V2.heap.size = q := fun h => by
            have := Nat.lt_of_lt_of_le hq HU2.out.below.size
            omega
          clear d0 d1 hb2 hbx hU3 HU2
          generalize V2.heap.size = p at *
          go_wp2_with (first | (go_at_call 88; refine (HDT.out _ (HTV3.out.below (BL.o (by repeat constructor)))).mono ?_; rintro e w' ⟨rfl, g, rfl⟩) | ((with_reducible refine wp_region_up (by kernel_rfl) (by kernel_rfl) ?_); (repeat (go_big_quiet_step (first | (go_at_call 88; first | exact upq_tr (HDT.out _ (HTV3.out.below (BL.o (by repeat constructor)))) | exact upq (HDT.out _ (HTV3.out.below (BL.o (by repeat constructor)))))))); refine wpQuiet_nil ?_; intro _ hw'; obtain ⟨nq, hw''⟩ := hw'; subst hw''))
          exact bodyPost_ret (v := .tuple #[drv ⟨wd W 0, wd W 1, N⟩, .bool true]) (by simp [results, Tryz.results77, go_sem, hq3, q0, q1, q2]) rfl ⟨by rw [hf.out]; rfl, UpOf.of (Below.sets3d HQ.out (HU.out.below.trans (HU3.out.below.mono HU.out.below.size)) (BL.o (by repeat constructor)) _ _ _)⟩
      · have htt := tl_tne hTs
        have htn : (!(T.toList == s.toList)) = true := by rw [htt]; rfl
        have hf := Lib.hid (show rdDrill s = none by
          cases hv : vDrill (drOf W)
          · rw [hrd, drillB_3 hv]; rfl
          · rw [drText, ← hdo, hv, if_pos rfl] at hT
            rw [hrd, drillB_4 (by rw [hT]; exact hTs)]; rfl)
        clear hrd hWs hn hinv hdo hN hT hTs
        go_enter Tryz.func77, Tryz.ntmps77
        go_wp2_with fail
        refine cg (R := fun V => Blk V w.heap.size 112 #[.string ⟨#[]⟩, .string ⟨#[]⟩, i64 0] ∧ UpOf w V) ⟨Blk.new _ _ _, UpOf.of (BL.o (by repeat constructor))⟩ (fun V z => ?_)
        have HTV := Lib.hid (HT.out.below z.2.below)
        have HU := Lib.hid z.2
        have q0 := z.1.cell 0
        have q1 := z.1.cell 1
        have q2 := z.1.cell 2
        have f0 := z.1.free 0
        have f1 := z.1.free 1
        have f2 := z.1.free 2
        have hq := z.1.lt
        simp only [List.getElem?_toArray, List.getElem?_cons_zero, List.getElem?_cons_succ] at q0 q1 q2
        clear z
        obtain ⟨q, hqq⟩ : ∃ q, w.heap.size = q := ⟨_, rfl⟩
        have HQ := Lib.hid (show w.heap.size ≤ q from Nat.le_of_eq hqq)
        rw [hqq] at q0 q1 q2 f0 f1 f2 hq ⊢
        clear hqq
        refine (HW.out _).mono ?_
        rintro e w' ⟨A, c, rfl, o1, g1, rfl⟩
        obtain ⟨b, off, rfl, hb, cw⟩ := wd_at (Rds.of_own o1) (i := 0) (by omega)
        have cw0 := cw 0 (by omega)
        have cw1 := cw 1 (by omega)
        have cw2 := cw 2 (by omega)
        rw [Nat.add_zero] at cw0
        rw [h3]
        clear cw o1 h3 h3'
        go_wp2_with (first | (go_at_call 79; refine (HR.out _ (HTV.out.below (BL.o (by repeat constructor)))).mono ?_; rintro e w' ⟨rfl, g, rfl⟩) | ((with_reducible refine wp_region_up (by kernel_rfl) (by kernel_rfl) ?_); (repeat (go_big_quiet_step (first | (go_at_call 79; first | exact upq_tr (HR.out _ (HTV.out.below (BL.o (by repeat constructor)))) | exact upq (HR.out _ (HTV.out.below (BL.o (by repeat constructor)))))))); refine wpQuiet_nil ?_; intro _ hw'; obtain ⟨nq, hw''⟩ := hw'; subst hw''))
        refine wpg (R := fun U => UpOf V U ∧ b < U.heap.size ∧ U.cell? ⟨b, off, none⟩ = some (.string (wd W 0)) ∧ U.cell? ⟨b, off + 1, none⟩ = some (.string (wd W 1))) ⟨UpOf.of (BL.o (by repeat constructor)), Nat.lt_of_lt_of_le hb (up_below _ _).size, ((up_below (up V g1) g).cell (p := ⟨b, off, none⟩) hb).trans cw0, ((up_below (up V g1) g).cell (p := ⟨b, off + 1, none⟩) hb).trans cw1⟩ (fun V2 z => ?_)
        obtain ⟨z1, hb2, d0, d1⟩ := z
        have HU2 := Lib.hid z1
        clear z1 cw0 cw1 cw2 hb
        go_region_held3 (fun w' => (V2).heap.size ≤ w'.heap.size ∧ ∀ b o, b < (V2).heap.size → w'.cell? ⟨b, o, none⟩ = (V2).cell? ⟨b, o, none⟩) (exact sm_of (BL.o (by repeat constructor))) (first | fail)
        refine exit_genD (R := fun U => Box U V2.heap.size #[.string (wd W 0), .string (wd W 1), i64 N] ∧ UpOf V2 U) ⟨(Box.new V2 _ _).below (Below.drew (Below.refl _ _)), UpOf.of (BL.o (by repeat constructor))⟩ (fun V3 z => ?_)
        obtain ⟨⟨hp3, hbx⟩, hU3⟩ := z
        have x0 := hbx 0 _ rfl
        have x1 := hbx 1 _ rfl
        have x2 := hbx 2 _ rfl
        have HU3 := Lib.hid (HU2.out.tr hU3.below)
        have hq3 : q < V3.heap.size := Nat.lt_of_lt_of_le hq HU3.out.below.size
        have q0 := (HU3.out.below.cell (p := ⟨q, 0, none⟩) hq).trans q0
        have q1 := (HU3.out.below.cell (p := ⟨q, 1, none⟩) hq).trans q1
        have q2 := (HU3.out.below.cell (p := ⟨q, 2, none⟩) hq).trans q2
        have f0 := (HU3.out.below.frozen (p := ⟨q, 0, none⟩) hq).trans f0
        have f1 := (HU3.out.below.frozen (p := ⟨q, 1, none⟩) hq).trans f1
        have f2 := (HU3.out.below.frozen (p := ⟨q, 2, none⟩) hq).trans f2
        have HTV3 := Lib.hid (HTV.out.below HU3.out.below)
        have hpq : ¬ V2.heap.size = q := fun h => by
          have := Nat.lt_of_lt_of_le hq HU2.out.below.size
          omega
        clear d0 d1 hb2 hbx hU3 HU2
        generalize V2.heap.size = p at *
        go_wp2_with (first | (go_at_call 88; refine (HDT.out _ (HTV3.out.below (BL.o (by repeat constructor)))).mono ?_; rintro e w' ⟨rfl, g, rfl⟩) | ((with_reducible refine wp_region_up (by kernel_rfl) (by kernel_rfl) ?_); (repeat (go_big_quiet_step (first | (go_at_call 88; first | exact upq_tr (HDT.out _ (HTV3.out.below (BL.o (by repeat constructor)))) | exact upq (HDT.out _ (HTV3.out.below (BL.o (by repeat constructor)))))))); refine wpQuiet_nil ?_; intro _ hw'; obtain ⟨nq, hw''⟩ := hw'; subst hw''))
        exact bodyPost_ret (v := .tuple #[drv dr0, .bool false]) (by simp [results, Tryz.results77, go_sem, hq3, q0, q1, q2, dr0]) rfl ⟨by rw [hf.out]; rfl, UpOf.of (Below.sets3d HQ.out (HU.out.below.trans (HU3.out.below.mono HU.out.below.size)) (BL.o (by repeat constructor)) _ _ _)⟩
  · have h3' : ((W.length : Int) != 3) = true := by rw [bne_iff_ne]; omega
    have hf := Lib.hid (show rdDrill s = none by rw [hrd, drillB_1 h3]; rfl)
    clear hrd hWs
    go_enter Tryz.func77, Tryz.ntmps77
    go_wp2_with fail
    refine cg (R := fun V => Blk V w.heap.size 112 #[.string ⟨#[]⟩, .string ⟨#[]⟩, i64 0] ∧ UpOf w V) ⟨Blk.new _ _ _, UpOf.of (BL.o (by repeat constructor))⟩ (fun V z => ?_)
    have HTV := Lib.hid (HT.out.below z.2.below)
    have HU := Lib.hid z.2
    have q0 := z.1.cell 0
    have q1 := z.1.cell 1
    have q2 := z.1.cell 2
    have f0 := z.1.free 0
    have f1 := z.1.free 1
    have f2 := z.1.free 2
    have hq := z.1.lt
    simp only [List.getElem?_toArray, List.getElem?_cons_zero, List.getElem?_cons_succ] at q0 q1 q2
    clear z
    obtain ⟨q, hqq⟩ : ∃ q, w.heap.size = q := ⟨_, rfl⟩
    have HQ := Lib.hid (show w.heap.size ≤ q from Nat.le_of_eq hqq)
    rw [hqq] at q0 q1 q2 f0 f1 f2 hq ⊢
    clear hqq
    refine (HW.out _).mono ?_
    rintro e w' ⟨A, c, rfl, o1, g1, rfl⟩
    go_wp2_with (first | ((with_reducible refine wp_region_up (by kernel_rfl) (by kernel_rfl) ?_); (repeat (go_big_quiet_step (fail))); refine wpQuiet_nil ?_; intro _ hw'; obtain ⟨nq, hw''⟩ := hw'; subst hw''))
    exact bodyPost_ret (v := .tuple #[drv dr0, .bool false]) (by simp [results, Tryz.results77, go_sem, hq, q0, q1, q2, dr0]) rfl ⟨by rw [hf.out]; rfl, UpOf.of (Below.sets3d HQ.out HU.out.below (BL.o (by repeat constructor)) _ _ _)⟩
end Go.Proofs.YtbianlkenallaaaGreatDoor
namespace Go.Proofs.YtbianlkenallaaaGreatDoor
open Go.RowKit
theorem el_drl : ElemOf Tryz.prog 29 112 (.agg #[.string ByteArray.empty, .string ByteArray.empty, i64 0]) 3 40 := elem_of Tryz.underlying29 (by kernel_rfl) rfl (by omega)
/-- 'append(own, xs...)' at an operation of a region that draws; the other blocks are kept -/
theorem step_appK {P : Program} {ops : Array Oper} {o : Oper} {a : Act} {w : World} {K : Act → World → Prop} {Q : Exit → Act → World → Prop} {E : Prop} (hgd : o.guard = none) (s x : Operand) (t : TypeId)
    (ho : o.op = .call { callee := .builtin .append, args := #[s, x], argTypes := #[t, t] })
    (W : World) (base : Nat) (e : TypeId) (z : Value) (size bytes : Nat) (el : ElemOf P t e z size bytes)
    (v : Value) (n : Nat) (xs : List Value) (hs : a.eval s = v) (hown : w.ownsRow base e size v n xs)
    (A : Option Addr) (m c : Nat) (news : List Value) (hx : a.eval x = .slice A m c) (hr : Rds w size A m news) (h1 : ∀ u ∈ news, u.oneCell' = true)
    (h63 : n + m ≤ maxLen) (hbytes : (n + m) * bytes ≤ 140737488355328) (hbase : base ≤ w.heap.size) (hW : Below W.heap.size W w) (hWb : W.heap.size ≤ base) {N : Nat} (hN : n + m = N)
    (h : ∀ A' c' (g : Up W), (up W g).ownsRow base e size (.slice A' N c') N (xs ++ news) → (∀ b t cs, Blk w b t cs → some b ≠ v.ownBlock → Blk (up W g) b t cs) → K (a.put o.dst (.slice A' N c')) (up W g)) :
    if Region.wanted o (yielded ops a.tmps) = true then Oper.wp P o a w K Q else E := by
  subst hN
  exact step_app hgd s x t ho base e z size bytes el v n xs hs hown A m c news hx hr h1 h63 hbytes hbase fun A' c' w' h2 h3 => by
    obtain ⟨g, rfl⟩ := own_grown hown hW hWb h3
    exact h A' c' g h2 fun b t cs hb hne => hb.grown h3 hne
theorem blk_new1' (w : World) (o : Obj) (t : TypeId) (cs : Array Value) : Blk ((w.alloc o).alloc (.cells cs t)) (w.heap.size + 1) t cs := by
  have := Blk.new (w.alloc o) t cs
  rwa [World.size_alloc] at this
theorem own_lit1 (w : World) (o : Obj) (e : TypeId) (size base : Nat) (h : base ≤ w.heap.size) : ((w.alloc o).alloc (.cells #[] e)).ownsRow base e size (.slice (some ⟨w.heap.size + 1, 0, none⟩) 0 0) 0 [] := by
  have := World.ownsRow_lit (base := base) (e := e) (size := size) (w.alloc o) #[] 0 (by rw [World.size_alloc]; omega) (by unfold maxLen; omega) (by simp)
  rw [World.size_alloc] at this
  exact this
theorem own_capD {w : World} {base e size n c : Nat} {A : Option Addr} {xs : List Value} (h : w.ownsRow base e size (.slice A n c) n xs) : n ≤ c := by
  obtain ⟨_, ⟨h1, h2⟩ | ⟨g, cap, cur, h1, _, _, h3, _⟩⟩ := h
  · omega
  · injection h1 with _ _ h1
    omega
theorem rds_blk {w : World} {b : Nat} {t : TypeId} {cs : Array Value} (h : Blk w b t cs) (sz m : Nat) (hc : cs.size = m * sz) : Rds w sz (some ⟨b, 0, none⟩) m cs.toList :=
  ⟨by simpa using hc, fun _ => ⟨_, _, rfl, h.lt, fun j u hu => by rw [Nat.zero_add, h.cell]; simpa using hu⟩⟩
/-- what the console says of a list that it makes -/
def drsPost (n : Nat) (xs : List Drill) (c : Int) (w : World) (e : Ending) (w' : World) : Prop :=
  ∃ A' c', e = .returned (.tuple #[.slice A' n c', i64 c]) ∧ n ≤ c' ∧ w'.ownsRow w.heap.size 112 3 (.slice A' n c') n (drcs xs) ∧ UpOf w w'
theorem drcs_snoc (l : List Drill) (d : Drill) : drcs (l ++ [d]) = drcs l ++ [.string d.name, .string d.letters, i64 d.minutes] := by
  simp [drcs, Drill.cells]
theorem own_nil (w : World) (e : TypeId) (sz base : Nat) : w.ownsRow base e sz (.slice none 0 0) 0 [] := ⟨by simp, .inl ⟨rfl, rfl⟩⟩
theorem hasName_no {l : List Drill} {n : ByteArray} (h : ∀ i, i < l.length → (drl l i).name ≠ n) : hasName l n = false := by
  rw [hasName, List.any_eq_false]
  intro x hx
  obtain ⟨i, hi, rfl⟩ := List.getElem_of_mem hx
  have := h i hi
  rw [drl, List.getD_eq_getElem?_getD, List.getElem?_eq_getElem hi] at this
  simpa using this
theorem hasName_yes {l : List Drill} {n : ByteArray} {i : Nat} (hi : i < l.length) (h : (drl l i).name = n) : hasName l n = true := by
  rw [hasName, List.any_eq_true]
  refine ⟨l[i], List.getElem_mem hi, decide_eq_true ?_⟩
  rw [← h, drl, List.getD_eq_getElem?_getD, List.getElem?_eq_getElem hi]; rfl
set_option maxRecDepth 10000 in
set_option maxHeartbeats 4000000 in
theorem addDrill_any (A : Option Addr) (c : Nat) (l : List Drill) (d : Drill) (w : World) (h : Rds w 3 A l.length (drcs l)) (hn : l.length ≤ 100000000) (hf : DBd l) (h1 : d.name.size ≤ 100000000) (h2 : d.letters.size ≤ 100000000) :
    Calls Tryz.prog 78 #[.slice A l.length c, drv d] w fun e w' => drsPost (addD l d).1.length (addD l d).1 (addD l d).2 w e w' := by
  have HR := Lib.hid h
  have HF := Lib.hid hf
  clear h hf
  cases q1 : vDrills l with
  | false =>
    have hr : addD l d = ([], 1) := by rw [addD, q1]; rfl
    rw [hr]
    go_enter Tryz.func78, Tryz.ntmps78
    go_upto_region 1 with (fail)
    refine wpg (R := fun V => Box V w.heap.size #[.string d.name, .string d.letters, i64 d.minutes] ∧ UpOf w V) ⟨Box.new _ _ _, UpOf.of (BL.o (by repeat constructor))⟩ (fun V z => ?_)
    obtain ⟨⟨hq, hc⟩, hB⟩ := z
    have c0 := hc 0 _ rfl
    have c1 := hc 1 _ rfl
    have c2 := hc 2 _ rfl
    have HB := Lib.hid hB
    clear hc hB
    generalize w.heap.size = q at *
    go_wp2_with (first | (go_at_call 67; refine (ret_as (validDrills_any A c l _ ((HR.out.below HB.out.below).below (BL.o (by repeat constructor))) hn HF.out) q1).mono ?_; rintro e w' ⟨rfl, g, rfl⟩) | ((with_reducible refine wp_region_up (by kernel_rfl) (by kernel_rfl) ?_); (repeat (go_big_quiet_step (first | (go_at_call 67; first | exact upq_tr (ret_as (validDrills_any A c l _ ((HR.out.below HB.out.below).below (BL.o (by repeat constructor))) hn HF.out) q1) | exact upq (ret_as (validDrills_any A c l _ ((HR.out.below HB.out.below).below (BL.o (by repeat constructor))) hn HF.out) q1))))); refine wpQuiet_nil ?_; intro _ hw'; obtain ⟨nq, hw''⟩ := hw'; subst hw''))
    go_ret2
    refine ⟨none, 0, ?_, Nat.le_refl _, ?_, HB.out.tr (BL.o (by repeat constructor))⟩
    · rfl
    · exact own_nil _ _ _ _
  | true =>
    cases q2 : vDrill d with
    | false =>
      have hr : addD l d = ([], 2) := by rw [addD, q1, q2]; rfl
      rw [hr]
      go_enter Tryz.func78, Tryz.ntmps78
      go_upto_region 1 with (fail)
      refine wpg (R := fun V => Box V w.heap.size #[.string d.name, .string d.letters, i64 d.minutes] ∧ UpOf w V) ⟨Box.new _ _ _, UpOf.of (BL.o (by repeat constructor))⟩ (fun V z => ?_)
      obtain ⟨⟨hq, hc⟩, hB⟩ := z
      have c0 := hc 0 _ rfl
      have c1 := hc 1 _ rfl
      have c2 := hc 2 _ rfl
      have HB := Lib.hid hB
      clear hc hB
      generalize w.heap.size = q at *
      go_wp2_with (first | (go_at_call 67; refine (ret_as (validDrills_any A c l _ ((HR.out.below HB.out.below).below (BL.o (by repeat constructor))) hn HF.out) q1).mono ?_; rintro e w' ⟨rfl, g, rfl⟩) | (go_at_call 119; refine (ret_as (validDrill_any d _ (by omega) (by omega)) q2).mono ?_; rintro e w' ⟨rfl, g, rfl⟩) | ((with_reducible refine wp_region_up (by kernel_rfl) (by kernel_rfl) ?_); (repeat (go_big_quiet_step (first | (go_at_call 67; first | exact upq_tr (ret_as (validDrills_any A c l _ ((HR.out.below HB.out.below).below (BL.o (by repeat constructor))) hn HF.out) q1) | exact upq (ret_as (validDrills_any A c l _ ((HR.out.below HB.out.below).below (BL.o (by repeat constructor))) hn HF.out) q1)) | (go_at_call 119; first | exact upq_tr (ret_as (validDrill_any d _ (by omega) (by omega)) q2) | exact upq (ret_as (validDrill_any d _ (by omega) (by omega)) q2))))); refine wpQuiet_nil ?_; intro _ hw'; obtain ⟨nq, hw''⟩ := hw'; subst hw''))
      go_ret2
      refine ⟨none, 0, ?_, Nat.le_refl _, ?_, HB.out.tr (BL.o (by repeat constructor))⟩
      · rfl
      · exact own_nil _ _ _ _
    | true =>
      have hinv := vDrills_inv q1
      have hl10 := hinv.1
      have hnm := Lib.hid (show ∀ i, i < l.length → (drl l i).name.size ≤ 100000000 from fun i hi => (HF.out i hi).1)
      obtain ⟨R, hR⟩ : ∃ R, addD l d = R := ⟨_, rfl⟩
      have HRR := Lib.hid (show R = if hasName l d.name then ([], 4) else if l.length = 10 then ([], 5) else (l ++ [d], 0) by rw [← hR, addD, q1, q2, if_pos rfl, if_pos rfl])
      rw [hR]
      clear hR hinv
      go_enter Tryz.func78, Tryz.ntmps78
      go_upto_region 1 with (fail)
      refine wpg (R := fun V => Box V w.heap.size #[.string d.name, .string d.letters, i64 d.minutes] ∧ UpOf w V) ⟨Box.new _ _ _, UpOf.of (BL.o (by repeat constructor))⟩ (fun V z => ?_)
      obtain ⟨⟨hq, hc⟩, hB⟩ := z
      have c0 := hc 0 _ rfl
      have c1 := hc 1 _ rfl
      have c2 := hc 2 _ rfl
      have HB := Lib.hid hB
      clear hc hB
      generalize w.heap.size = q at *
      go_wp2_with (first | (go_at_call 67; refine (ret_as (validDrills_any A c l _ ((HR.out.below HB.out.below).below (BL.o (by repeat constructor))) hn HF.out) q1).mono ?_; rintro e w' ⟨rfl, g, rfl⟩) | (go_at_call 119; refine (ret_as (validDrill_any d _ (by omega) (by omega)) q2).mono ?_; rintro e w' ⟨rfl, g, rfl⟩) | ((with_reducible refine wp_region_up (by kernel_rfl) (by kernel_rfl) ?_); (repeat (go_big_quiet_step (first | (go_at_call 67; first | exact upq_tr (ret_as (validDrills_any A c l _ ((HR.out.below HB.out.below).below (BL.o (by repeat constructor))) hn HF.out) q1) | exact upq (ret_as (validDrills_any A c l _ ((HR.out.below HB.out.below).below (BL.o (by repeat constructor))) hn HF.out) q1)) | (go_at_call 119; first | exact upq_tr (ret_as (validDrill_any d _ (by omega) (by omega)) q2) | exact upq (ret_as (validDrill_any d _ (by omega) (by omega)) q2))))); refine wpQuiet_nil ?_; intro _ hw'; obtain ⟨nq, hw''⟩ := hw'; subst hw''))
      clear q1 q2
      refine wpg (R := fun U => UpOf V U) (UpOf.of (BL.o (by repeat constructor))) (fun V1 z => ?_)
      have HV1 := Lib.hid (HB.out.tr z.below)
      have c0 := (z.below.cell (p := ⟨q, 0, none⟩) hq).trans c0
      have c1 := (z.below.cell (p := ⟨q, 1, none⟩) hq).trans c1
      have c2 := (z.below.cell (p := ⟨q, 2, none⟩) hq).trans c2
      have hq := Nat.lt_of_lt_of_le hq z.below.size
      clear z
      go_loopw [16] (fun i wr => ∃ k : Nat, k ≤ l.length ∧ i = i64 k ∧ Hid (∀ i, i < k → (drl l i).name ≠ d.name) ∧ ∃ g : Up V1, wr = up V1 g) (fun i _ => l.length - (intOf i).toNat)
      case atStart => exact ⟨0, by omega, rfl, Lib.hid (fun i hi => by omega), ex_up (BL.o (by repeat constructor))⟩
      case round =>
        obtain ⟨k, hk, rfl, HK, g, rfl⟩ := hrel
        by_cases hlt : k < l.length
        · obtain ⟨b, off, rfl, hb, x0, x1, x2⟩ := drl_at ((HR.out.below HV1.out.below).below (up_below V1 g)) hlt
          have f1 := hnm.out k hlt
          by_cases he : (drl l k).name = d.name
          · have ht := tl_teq he
            have hr := Lib.hid (show R = ([], 4) by rw [HRR.out, hasName_yes hlt he, if_pos rfl])
            clear he
            go_wp2_with (first | ((with_reducible refine wp_region_up (by kernel_rfl) (by kernel_rfl) ?_); (repeat (go_big_quiet_step (fail))); refine wpQuiet_nil ?_; intro _ hw'; obtain ⟨nq, hw''⟩ := hw'; subst hw''))
            go_ret2
            rw [hr.out]
            exact ⟨none, 0, rfl, Nat.le_refl _, own_nil _ _ _ _, HV1.out.tr (BL.o (by repeat constructor))⟩
          · have ht := tl_tne he
            have HK2 := Lib.hid (lt_ext (P := fun j => (drl l j).name ≠ d.name) HK.out he)
            clear he
            go_wp2_with (first | ((with_reducible refine wp_region_up (by kernel_rfl) (by kernel_rfl) ?_); (repeat (go_big_quiet_step (fail))); refine wpQuiet_nil ?_; intro _ hw'; obtain ⟨nq, hw''⟩ := hw'; subst hw''))
            go_roundw
            case rel => exact ⟨k + 1, by omega, by go_num, HK2, ex_up (BL.o (by repeat constructor))⟩
            case measure => simp [intOf]; try omega
        · obtain rfl : k = l.length := by omega
          have hno := Lib.hid (hasName_no HK.out)
          by_cases h10 : l.length = 10
          · have hr := Lib.hid (show R = ([], 5) by rw [HRR.out, hno.out, if_neg (by simp), if_pos h10])
            have ht : ((l.length : Int) == 10) = true := by rw [beq_iff_eq]; omega
            clear h10
            go_wp2_with (first | ((with_reducible refine wp_region_up (by kernel_rfl) (by kernel_rfl) ?_); (repeat (go_big_quiet_step (fail))); refine wpQuiet_nil ?_; intro _ hw'; obtain ⟨nq, hw''⟩ := hw'; subst hw''))
            go_ret2
            rw [hr.out]
            exact ⟨none, 0, rfl, Nat.le_refl _, own_nil _ _ _ _, HV1.out.tr (BL.o (by repeat constructor))⟩
          · have hr := Lib.hid (show R = (l ++ [d], 0) by rw [HRR.out, hno.out, if_neg (by simp), if_neg h10])
            have ht : ((l.length : Int) == 10) = false := by rw [beq_eq_false_iff_ne]; omega
            have hll : l.length ≤ 9 := by omega
            clear h10
            go_wp2_with (first | ((with_reducible refine wp_region_up (by kernel_rfl) (by kernel_rfl) ?_); (repeat (go_big_quiet_step (fail))); refine wpQuiet_nil ?_; intro _ hw'; obtain ⟨nq, hw''⟩ := hw'; subst hw''))
            refine wpg (R := fun U => UpOf V1 U) (UpOf.of (BL.o (by repeat constructor))) (fun V2 z => ?_)
            have HV2 := Lib.hid (HV1.out.tr z.below)
            have d0 := (z.below.cell (p := ⟨q, 0, none⟩) hq).trans c0
            have d1 := (z.below.cell (p := ⟨q, 1, none⟩) hq).trans c1
            have d2 := (z.below.cell (p := ⟨q, 2, none⟩) hq).trans c2
            have hq2 := Nat.lt_of_lt_of_le hq z.below.size
            have HRd := HR.out.below HV2.out.below
            clear z c0 c1 c2 hq
            go_region_held3 (fun w' => (V2).heap.size ≤ w'.heap.size ∧ ∀ b o, b < (V2).heap.size → w'.cell? ⟨b, o, none⟩ = (V2).cell? ⟨b, o, none⟩) (exact sm_of (BL.o (by repeat constructor))) (first | (refine step_appK rfl _ _ 29 (by rfl) V2 V2.heap.size 112 _ 3 40 el_drl _ 0 [] (by rfl) (by first | exact (own_lit1 V2 _ _ _ _ (Nat.le_refl _)).drew | exact own_lit1 V2 _ _ _ _ (Nat.le_refl _) | exact World.ownsRow_lit _ #[] 0 (show Below V2.heap.size V2 _ from (BL.o (by repeat constructor))).size (by unfold maxLen; omega) rfl | exact own_below (World.ownsRow_lit _ #[] 0 (show Below V2.heap.size V2 _ from (BL.o (by repeat constructor))).size (by unfold maxLen; omega) rfl) (BL.o (by repeat constructor))) _ l.length _ _ (by rfl) (HRd.below (BL.o (by repeat constructor))) (dr_one l) (by unfold maxLen; omega) (by omega) (show Below V2.heap.size V2 _ from (BL.o (by repeat constructor))).size (BL.o (by repeat constructor)) (Nat.le_refl _) (Nat.zero_add _) ?_; intro A1 c1' g1 o1 k1; simp only [List.nil_append] at o1) | (refine step_appU rfl _ _ 29 (by rfl) V2 V2.heap.size 112 _ 3 40 el_drl _ l.length _ (by rfl) (own_below o1 (BL.o (by repeat constructor))) _ 1 1 [.string d.name, .string d.letters, i64 d.minutes] (by rfl) (by first | exact rds_new _ _ _ 3 1 rfl | exact (rds_new _ _ _ 3 1 rfl).below (BL.o (by repeat constructor)) | exact rds_blk (k1 _ 112 #[.string d.name, .string d.letters, i64 d.minutes] (by repeat (first | exact Blk.new _ _ _ | exact blk_new1' _ _ _ _ | refine Blk.drew ?_ | refine Blk.alloc ?_ _)) (by intro hq; injection hq with hq; first | omega | (simp at hq))) 3 1 rfl) (fun u hu => by simp at hu; obtain rfl | rfl | rfl := hu <;> rfl) (by unfold maxLen; omega) (by omega) (show Below V2.heap.size V2 _ from (BL.o (by repeat constructor))).size (BL.o (by repeat constructor)) (Nat.le_refl _) ?_; intro A2 c2' g2 o2))
            all_goals
              rw [← drcs_snoc] at o2
              have hL : (l ++ [d]).length = l.length + 1 := by simp
              have O2 := Lib.hid o2
              clear o1 o2 k1
              go_wp2_with fail
              go_ret2
              rw [hr.out]
              unfold drsPost
              rw [hL]
              exact ⟨A2, c2', rfl, own_capD O2.out, own_mono O2.out HV2.out.below.size, HV2.out.tr (up_below V2 g2)⟩
end Go.Proofs.YtbianlkenallaaaGreatDoor
namespace Go.Proofs.YtbianlkenallaaaGreatDoor
open Go
section
variable {P : Program} {ops : Array Oper} {Q : Exit → Act → World → Prop} {md : Region.Mode} {C : World → Prop} {app : Nat}
/-- whatever order is picked from here on, and C holds behind every operation as long as number app is not listed -/
def wpAnyT (P : Program) (md : Region.Mode) (ops : Array Oper) (Q : Exit → Act → World → Prop) (C : World → Prop) (app : Nat) : Nat → Array Bool → Act → World → Prop
  | 0, listed, a, w => Region.ready md ops listed = [] ∧ Q .normal a w
  | fuel + 1, listed, a, w =>
    (Region.ready md ops listed = [] → Q .normal a w) ∧
    ∀ i ∈ Region.ready md ops listed, wpOp P ops Q i (fun a' w' => ((listed.setIfInBounds i true).getD app true = false → C w') ∧ wpAnyT P md ops Q C app fuel (listed.setIfInBounds i true) a' w') a w
theorem wpAny_of_T : ∀ (fuel : Nat) (listed : Array Bool) (a : Act) (w : World), wpAnyT P md ops Q C app fuel listed a w → wpAny P md ops Q fuel listed a w
  | 0, _, _, _, h => h
  | fuel + 1, _, _, _, h => ⟨h.1, fun i hi => wpOp_mono (fun a' w' h' => wpAny_of_T fuel _ a' w' h'.2) (h.2 i hi)⟩
theorem wpAnyT_first {S : World → Prop} {Inv : Array Bool → Prop} {i : Nat} {oi : Oper} {v : Value} (hi : ops[i]? = some oi) (hsel : ∀ (j : Nat) (o : Oper) cs b, ops[j]? = some o → o.op ≠ .select cs b)
    (hQ : ∀ c a w, Q (.panic c) (a.put oi.dst v) w → Q (.panic c) a w) (hia : i ≠ app)
    (hCS : ∀ listed w, Inv listed → (listed.getD app true = false → C w) → S w) (hInv : ∀ listed j, Inv listed → listed.getD i true = false → j ≠ i → j ∈ Region.ready md ops listed → Inv (listed.setIfInBounds j true)) :
    ∀ (fuel : Nat) (listed : Array Bool) (a : Act) (w : World),
      (∀ j oj, ops[j]? = some oj → j ≠ i → listed.getD j true = false → (∀ e ∈ oj.after, Region.binds md e = true → e.on ≠ i) → oi.apart ops oj = true) →
      i ∈ Region.ready md ops listed → Inv listed → YieldsIf P ops S oi v a → (listed.getD app true = false → C w) →
      wpAnyT P md ops Q C app fuel (listed.setIfInBounds i true) (a.put oi.dst v) w → wpAnyT P md ops Q C app (fuel + 1) listed a w := by
  intro fuel
  have eqv : ∀ (listed : Array Bool), (listed.setIfInBounds i true).getD app true = false → listed.getD app true = false := fun listed h => by rwa [getD_set_ne true hia] at h
  induction fuel with
  | zero =>
    intro listed a w _ hr hv hy hC H
    refine ⟨fun h => (by rw [h] at hr; cases hr), fun j hj => ?_⟩
    by_cases hji : j = i
    · subst hji; exact hy.wpOp hi (hCS _ _ hv hC) ⟨fun h => hC (eqv _ h), H⟩
    · have := ready_mono hj hji
      rw [H.1] at this
      cases this
  | succ fuel ih =>
    intro listed a w hfree hr hv hy hC H
    have hun := (mem_ready.1 hr).1
    refine ⟨fun h => (by rw [h] at hr; cases hr), fun j hj => ?_⟩
    by_cases hji : j = i
    · subst hji; exact hy.wpOp hi (hCS _ _ hv hC) ⟨fun h => hC (eqv _ h), H⟩
    · have h1 := H.2 j (ready_mono hj hji)
      obtain ⟨hjun, oj, hoj, hall⟩ := mem_ready.1 hj
      have hnot : ∀ e ∈ oj.after, Region.binds md e = true → e.on ≠ i := fun e he hb heq => by
        have h1 := hall e he hb
        rw [heq, getD_both hun] at h1
        cases h1
      have h2 := wpOp_putIf hoj (hfree j oj hoj hji hjun hnot) (fun cs b => hsel i oi cs b hi) (fun cs b => hsel j oj cs b hoj) hQ hy h1
      have hfree' : ∀ k ok, ops[k]? = some ok → k ≠ i → (listed.setIfInBounds j true).getD k true = false →
          (∀ e ∈ ok.after, Region.binds md e = true → e.on ≠ i) → oi.apart ops ok = true := fun k ok hk hki hun hno => by
        refine hfree k ok hk hki ?_ hno
        by_cases hjk : j = k
        · subst hjk; exact hjun
        · rw [getD_set_ne true hjk] at hun; exact hun
      refine wpOp_mono (fun a' w' h3 => ?_) h2
      have hC' : (listed.setIfInBounds j true).getD app true = false → C w' := fun h => h3.2.1 (by
        rw [Array.setIfInBounds_comm _ _ (Ne.symm hji), getD_set_ne true hia]; exact h)
      refine ⟨hC', ih (listed.setIfInBounds j true) a' w' hfree' (ready_mono hr (Ne.symm hji)) (hInv _ _ hv hun hji hj) h3.1 hC' ?_⟩
      rw [Array.setIfInBounds_comm _ _ hji]
      exact h3.2.2
/-- an operation that yields its value in whatever world is taken first -/
theorem wpAnyT_pure {i : Nat} {oi : Oper} {v : Value} {fuel : Nat} {listed : Array Bool} {a : Act} {w : World} (hi : ops[i]? = some oi)
    (hs : Region.noSelect ops = true) (hf : Region.free md ops listed i = true) (hr : (Region.ready md ops listed).contains i = true) (hia : i ≠ app)
    (hQ : ∀ c a w, Q (.panic c) (a.put oi.dst v) w → Q (.panic c) a w) (hy : YieldsIf P ops (fun _ => True) oi v a) (hC : listed.getD app true = false → C w)
    (h : wpAnyT P md ops Q C app fuel (listed.setIfInBounds i true) (a.put oi.dst v) w) : wpAnyT P md ops Q C app (fuel + 1) listed a w :=
  wpAnyT_first (Inv := fun _ => True) hi (Region.noSelect_spec hs) hQ hia (fun _ _ _ _ => trivial) (fun _ _ _ _ _ _ => trivial) fuel listed a w (Region.free_spec hi hf) (by simpa using hr) trivial hy hC h
/-- the load, for which number app waits -/
theorem wpAnyT_load {i : Nat} {oi : Oper} {v : Value} {fuel : Nat} {listed : Array Bool} {a : Act} {w : World} (hi : ops[i]? = some oi)
    (hs : Region.noSelect ops = true) (hf : Region.free md ops listed i = true) (hr : (Region.ready md ops listed).contains i = true) (hia : i ≠ app) (hw : Region.waitsFor md ops app i = true) (hl : listed.getD app true = false)
    (hQ : ∀ c a w, Q (.panic c) (a.put oi.dst v) w → Q (.panic c) a w) (hy : YieldsIf P ops C oi v a) (hC : C w)
    (h : wpAnyT P md ops Q C app fuel (listed.setIfInBounds i true) (a.put oi.dst v) w) : wpAnyT P md ops Q C app (fuel + 1) listed a w := by
  obtain ⟨oa, hoa, e, he, hb, hon⟩ := Region.waitsFor_spec hw
  refine wpAnyT_first (Inv := fun l => l.getD app true = false) hi (Region.noSelect_spec hs) hQ hia (fun _ _ h1 h2 => h2 h1) (fun l j h1 h2 h3 h4 => ?_) fuel listed a w (Region.free_spec hi hf) (by simpa using hr) hl hy (fun _ => hC) h
  have hja : j ≠ app := fun e9 => by
    subst e9
    obtain ⟨_, oj, hoj, hall⟩ := mem_ready.1 h4
    have : oj = oa := Option.some.inj (hoj.symm.trans hoa)
    subst this
    have h5 := hall e he hb
    rw [hon, getD_both h2] at h5
    cases h5
  rw [getD_set_ne true hja]; exact h1
def AllReadyT (P : Program) (md : Region.Mode) (ops : Array Oper) (Q : Exit → Act → World → Prop) (C : World → Prop) (app : Nat) (fuel : Nat) (listed : Array Bool) (a : Act) (w : World) (rs : List Nat) : Prop :=
  ∀ i ∈ rs, wpOp P ops Q i (fun a' w' => ((listed.setIfInBounds i true).getD app true = false → C w') ∧ wpAnyT P md ops Q C app fuel (listed.setIfInBounds i true) a' w') a w
theorem AllReadyT.nil {fuel : Nat} {listed : Array Bool} {a : Act} {w : World} : AllReadyT P md ops Q C app fuel listed a w [] := fun _ h => by cases h
theorem AllReadyT.cons {fuel : Nat} {listed : Array Bool} {a : Act} {w : World} {i : Nat} {o : Oper} {rs : List Nat} (ho : ops[i]? = some o)
    (h : ∀ K' : Act → World → Prop, Shut (∀ a w, ((listed.setIfInBounds i true).getD app true = false → C w) → wpAnyT P md ops Q C app fuel (listed.setIfInBounds i true) a w → K' a w) → if Region.wanted o (yielded ops a.tmps) = true then Oper.wp P o a w K' Q else K' (a.put o.dst undef) w)
    (hs : AllReadyT P md ops Q C app fuel listed a w rs) : AllReadyT P md ops Q C app fuel listed a w (i :: rs) := fun j hj => by
  rcases List.mem_cons.1 hj with rfl | hj
  · exact wpOp_step ho (fun K' hK => h K' (fun a w hS hW => hK a w ⟨hS, hW⟩))
  · exact hs j hj
theorem wpAnyT_ready {rs : List Nat} {fuel : Nat} {listed : Array Bool} {a : Act} {w : World} (hr : Region.ready md ops listed = rs) (hne : rs ≠ [])
    (h : AllReadyT P md ops Q C app fuel listed a w rs) : wpAnyT P md ops Q C app (fuel + 1) listed a w := ⟨fun h0 => absurd (hr ▸ h0) hne, hr ▸ h⟩
theorem wpAnyT_done {listed : Array Bool} {a : Act} {w : World} (hr : Region.ready md ops listed = []) (h : Q .normal a w) : ∀ fuel, wpAnyT P md ops Q C app fuel listed a w
  | 0 => ⟨hr, h⟩
  | _ + 1 => ⟨fun _ => h, by rw [hr]; simp⟩
theorem wp_region_T {id : Nat} {a : Act} {w : World} (C : World → Prop) (app : Nat) (hm : P.follows .mixedOrders = true)
    (h : wpAnyT P .any ops Q C app ops.size (Array.replicate ops.size false) a w.drew) : (Code.region id ops true).wp P Q a w :=
  wp_region_any hm (wpAny_of_T _ _ _ _ h)
/-- several steps told at once: where just one operation may come up -/
theorem wpAnyT_one {i : Nat} {o : Oper} {fuel : Nat} {listed : Array Bool} {a : Act} {w : World} (hr : Region.ready md ops listed = [i]) (ho : ops[i]? = some o)
    (h : ∀ K' : Act → World → Prop, Shut (∀ a w, ((listed.setIfInBounds i true).getD app true = false → C w) → wpAnyT P md ops Q C app fuel (listed.setIfInBounds i true) a w → K' a w) → if Region.wanted o (yielded ops a.tmps) = true then Oper.wp P o a w K' Q else K' (a.put o.dst undef) w) :
    wpAnyT P md ops Q C app (fuel + 1) listed a w := wpAnyT_ready hr (by simp) (AllReadyT.cons ho h AllReadyT.nil)
/-- the world put away on the way -/
theorem wpAnyT_gen {fuel : Nat} {listed : Array Bool} {a : Act} {w : World} {R : World → Prop} (st : R w) (h : ∀ V, R V → wpAnyT P md ops Q C app fuel listed a V) : wpAnyT P md ops Q C app fuel listed a w := h w st
end
end Go.Proofs.YtbianlkenallaaaGreatDoor
namespace Go.Proofs.YtbianlkenallaaaGreatDoor
open Go.RowKit
/-- the method's copy at p, its result at q -/
structure MD (w V : World) (p q : Nat) (x : Array Value) : Prop where
  bx : Blk V p 31 x
  rs : Blk V q 31 zc
  up : UpOf w V
  hp : w.heap.size ≤ p
  hq : w.heap.size ≤ q
  ne : p ≠ q
section
variable {w V V' : World} {p q : Nat} {x : Array Value}
theorem MD.below (h : MD w V p q x) (hb : Below V.heap.size V V') : MD w V' p q x := ⟨h.bx.up ⟨V', hb⟩, h.rs.up ⟨V', hb⟩, h.up.tr hb, h.hp, h.hq, h.ne⟩
theorem MD.new (w : World) (x : Array Value) : MD w ((w.alloc (.cells x 31)).alloc (.cells zc 31)) w.heap.size (w.heap.size + 1) x :=
  ⟨(Blk.new w _ _).alloc _, blk_new1' _ _ _ _, UpOf.of (BL.o (by repeat constructor)), Nat.le_refl _, by omega, by omega⟩
theorem MD.put (h : MD w V p q x) (i : Nat) (u : Value) : MD w (V.setCell ⟨p, i, none⟩ u) p q (x.setIfInBounds i u) :=
  ⟨h.bx.put i u, h.rs.far (p := ⟨p, i, none⟩) h.ne.symm u, UpOf.of (h.up.below.setCell (p := ⟨p, i, none⟩) h.hp u), h.hp, h.hq, h.ne⟩
/-- cell facts of a copy -/
theorem Blk.eight {t : TypeId} {x0 x1 x2 x3 x4 x5 x6 x7 : Value} (h : Blk V p t #[x0, x1, x2, x3, x4, x5, x6, x7]) : p < V.heap.size ∧ V.cell? ⟨p, 0, none⟩ = some x0 ∧ V.cell? ⟨p, 1, none⟩ = some x1 ∧ V.cell? ⟨p, 2, none⟩ = some x2 ∧ V.cell? ⟨p, 3, none⟩ = some x3 ∧
    V.cell? ⟨p, 4, none⟩ = some x4 ∧ V.cell? ⟨p, 5, none⟩ = some x5 ∧ V.cell? ⟨p, 6, none⟩ = some x6 ∧ V.cell? ⟨p, 7, none⟩ = some x7 :=
  ⟨h.lt, h.cell 0, h.cell 1, h.cell 2, h.cell 3, h.cell 4, h.cell 5, h.cell 6, h.cell 7⟩
theorem Blk.open8 {t : TypeId} {x : Array Value} (h : Blk V p t x) : V.frozen? ⟨p, 0, none⟩ = false ∧ V.frozen? ⟨p, 1, none⟩ = false ∧ V.frozen? ⟨p, 2, none⟩ = false ∧ V.frozen? ⟨p, 3, none⟩ = false ∧ V.frozen? ⟨p, 4, none⟩ = false ∧ V.frozen? ⟨p, 5, none⟩ = false ∧ V.frozen? ⟨p, 6, none⟩ = false ∧ V.frozen? ⟨p, 7, none⟩ = false :=
  ⟨h.free 0, h.free 1, h.free 2, h.free 3, h.free 4, h.free 5, h.free 6, h.free 7⟩
end
/-- the world behind the result's store -/
def put8 (V : World) (q : Nat) (u0 u1 u2 u3 u4 u5 u6 u7 : Value) : World := (((((((V.setCell ⟨q, 0, none⟩ u0).setCell ⟨q, 1, none⟩ u1).setCell ⟨q, 2, none⟩ u2).setCell ⟨q, 3, none⟩ u3).setCell ⟨q, 4, none⟩ u4).setCell ⟨q, 5, none⟩ u5).setCell ⟨q, 6, none⟩ u6).setCell ⟨q, 7, none⟩ u7
theorem put8_up {w V : World} {q : Nat} (hu : UpOf w V) (hq : w.heap.size ≤ q) (u0 u1 u2 u3 u4 u5 u6 u7 : Value) : UpOf w ((((((((V.setCell ⟨q, 0, none⟩ u0).setCell ⟨q, 1, none⟩ u1).setCell ⟨q, 2, none⟩ u2).setCell ⟨q, 3, none⟩ u3).setCell ⟨q, 4, none⟩ u4).setCell ⟨q, 5, none⟩ u5).setCell ⟨q, 6, none⟩ u6).setCell ⟨q, 7, none⟩ u7) := by
  have h0 := hu.below.setCell (p := ⟨q, 0, none⟩) hq u0
  have h1 := h0.setCell (p := ⟨q, 1, none⟩) hq u1
  have h2 := h1.setCell (p := ⟨q, 2, none⟩) hq u2
  have h3 := h2.setCell (p := ⟨q, 3, none⟩) hq u3
  have h4 := h3.setCell (p := ⟨q, 4, none⟩) hq u4
  have h5 := h4.setCell (p := ⟨q, 5, none⟩) hq u5
  have h6 := h5.setCell (p := ⟨q, 6, none⟩) hq u6
  exact UpOf.of (h6.setCell (p := ⟨q, 7, none⟩) hq u7)
/-- a state and what is said: the state's slices and the list of lines -/
def mdPost (d : DeskD) (l : List ByteArray) (A B : Option Addr) (c e : Nat) (w : World) (r : Ending) (w' : World) : Prop :=
  ∃ X n, r = .returned (.tuple #[dkv d A B c e, .slice X l.length n]) ∧ w'.ownsRow w.heap.size 9 1 (.slice X l.length n) l.length (strs l) ∧ UpOf w w'
end Go.Proofs.YtbianlkenallaaaGreatDoor
namespace Go.Proofs.YtbianlkenallaaaGreatDoor
open Go.RowKit
def slLen (v : Value) : Nat := match v with
  | .slice _ n _ => n
  | _ => 0
/-- the words of a text, at most m cuts; the last one has the rest -/
def spl : Nat → List UInt8 → List ByteArray
  | 0, l => [bs l]
  | m + 1, l => if (cutA 32 [] l).2.2 then (cutA 32 [] l).1 :: spl m (cutA 32 [] l).2.1.data.toList else [bs l]
theorem cutA_no (b : UInt8) : ∀ (l cur : List UInt8), (cutA b cur l).2.2 = false → ∀ c ∈ l, c ≠ b
  | [], _, _ => fun c hc => by cases hc
  | c :: t, cur, h => by
    rw [cutA] at h
    split at h
    · cases h
    · rename_i hc
      intro d hd
      rcases List.mem_cons.1 hd with rfl | hd
      · exact hc
      · exact cutA_no b t _ h d hd
theorem spl_split : ∀ (m : Nat) (l : List UInt8), spl m l = if m < (splitA 32 [] l).length then (splitA 32 [] l).take m ++ [⟨(joinL 32 ((splitA 32 [] l).drop m)).toArray⟩] else splitA 32 [] l
  | 0, l => by
    have h := List.length_pos_iff.2 (splitA_ne 32 l [])
    rw [spl, if_pos h, List.take_zero, List.drop_zero, join_split, List.nil_append, List.nil_append]
  | m + 1, l => by
    rw [spl]
    cases hc : (cutA 32 [] l).2.2 with
    | false =>
      have h1 := splitA_last l (cutA_no 32 l [] hc)
      rw [if_neg (by simp), h1, if_neg (by simp)]
    | true =>
      rw [if_pos rfl]
      have h1 := cutA_join 32 l [] hc
      have h2 := cutA_free 32 l [] (by simp)
      generalize (cutA 32 [] l).1 = a at *
      generalize (cutA 32 [] l).2.1 = r at *
      rw [List.nil_append] at h1
      rw [← h1, splitA_part _ _ h2, bs_of, spl_split m]
      rw [List.length_cons, List.take_succ_cons, List.drop_succ_cons]
      by_cases hm : m < (splitA 32 [] r.data.toList).length
      · rw [if_pos hm, if_pos (by omega)]; rfl
      · rw [if_neg hm, if_neg (by omega)]
theorem spl_size : ∀ (m : Nat) (l : List UInt8), ∀ p ∈ spl m l, p.size ≤ l.length
  | 0, l, p, hp => by rw [spl, List.mem_singleton] at hp; rw [hp, bs_size]; exact Nat.le_refl _
  | m + 1, l, p, hp => by
    rw [spl] at hp
    have h := cutA_size 32 l []
    split at hp
    · rcases List.mem_cons.1 hp with rfl | hp
      · simpa using h.1
      · have := spl_size m _ p hp
        rw [bsz] at this
        omega
    · rw [List.mem_singleton] at hp; rw [hp, bs_size]; exact Nat.le_refl _
theorem spl_len : ∀ (m : Nat) (l : List UInt8), (spl m l).length ≤ m + 1
  | 0, l => by simp [spl]
  | m + 1, l => by
    rw [spl]
    split
    · rw [List.length_cons]; have := spl_len m (cutA 32 [] l).2.1.data.toList; omega
    · simp
set_option maxRecDepth 10000 in
set_option maxHeartbeats 1000000 in
theorem splitAt_any (s : ByteArray) (m : Nat) (w : World) (hs : s.size ≤ 1000000000) (hm : m ≤ 1000000000) :
    Calls Tryz.prog 27 #[.string s, .int .i64 ((m : Int) + 1)] w fun e w' => txPost (spl m s.data.toList) w e w' := by
  have hOwn := Lib.hid (World.ownsRow_lit (base := w.heap.size) (e := 9) (size := 1) w #[] 0 (Nat.le_refl _) (by unfold maxLen; omega) rfl)
  obtain ⟨R, hR⟩ : ∃ R, spl m s.data.toList = R := ⟨_, rfl⟩
  have HR := Lib.hid hR
  have hRl : Hid (R.length ≤ m + 1) := Lib.hid (by rw [← hR]; exact spl_len m _)
  rw [hR]
  clear hR
  go_enter Tryz.func27, Tryz.ntmps27
  go_wp2_with (first | ((with_reducible refine wp_region_up (by kernel_rfl) (by kernel_rfl) ?_); (repeat (go_big_quiet_step (fail))); refine wpQuiet_nil ?_; intro _ hw'; obtain ⟨nq, hw''⟩ := hw'; subst hw''))
  go_loopw [0, 5] (fun t0 t5 wr => ∃ (S : ByteArray) (L : List ByteArray) (A1 : Option Addr) (c1 : Nat), L.length ≤ m ∧ S.size ≤ 1000000000 ∧ t0 = .string S ∧ t5 = .slice A1 L.length c1 ∧ Hid (R = L ++ spl (m - L.length) S.data.toList) ∧ Hid (wr.ownsRow w.heap.size 9 1 (.slice A1 L.length c1) L.length (strs L)) ∧ ∃ g : Up w, wr = up w g) (fun _ t5 _ => m - slLen t5)
  case atStart => exact ⟨s, [], _, _, by simp, hs, rfl, rfl, Lib.hid (by rw [HR.out.symm]; simp), Lib.hid hOwn.out, ex_up (BL.o (by repeat constructor))⟩
  case round =>
    obtain ⟨S, L, A1, c1, hL, hS, rfl, rfl, HE, HO, g, rfl⟩ := hrel
    clear hOwn
    have hLN : L.length ≤ 1000000000 := by omega
    by_cases hlt : L.length < m
    · have hlt' : (L.length : Int) < (m : Int) := by omega
      have hlt2 : (L.length : Int) + 1 < (m : Int) + 1 := by omega
      obtain ⟨j, hj⟩ : ∃ j, m - L.length = j + 1 := ⟨m - L.length - 1, by omega⟩
      have hcs := cutA_size 32 S.data.toList []
      cases hc : (cutA 32 [] S.data.toList).2.2 with
      | false =>
        obtain ⟨X, hX⟩ : ∃ X, (cutA 32 [] S.data.toList).1 = X := ⟨_, rfl⟩
        obtain ⟨Y, hY⟩ : ∃ Y, (cutA 32 [] S.data.toList).2.1 = Y := ⟨_, rfl⟩
        have HC : Hid (∀ V, Calls Tryz.prog 42 #[.string S, .string ⟨#[32]⟩] V fun e w' => e = .returned (.tuple #[.string X, .string Y, .bool false]) ∧ UpOf V w') := Lib.hid fun V => by
          have := cut_any S ⟨#[32]⟩ 32 rfl V (by omega)
          rw [hc, hX, hY] at this
          exact this
        have hfin : Hid (R = L ++ [S]) := Lib.hid (by rw [HE.out, hj, spl, hc, if_neg (by simp), bs_of])
        clear hc hX hY hcs hj HE
        go_wp2_with (first | (go_at_call 42; refine (HC.out _).mono ?_; rintro e w' ⟨rfl, g, rfl⟩) | (at_builtin; go_must (refine wpl_appU rfl _ _ 24 rfl w w.heap.size 9 _ 1 16 el_str (.slice A1 L.length c1) L.length (strs L) rfl (own_below HO.out (BL.o (by repeat constructor))) _ 1 1 [.string S] rfl (rds_new _ _ _ 1 1 rfl) (fun u hu => by simp at hu; subst hu; rfl) (by unfold maxLen; omega) (by omega) (up_below w _).size (BL.o (by repeat constructor)) (Nat.le_refl _) ?_; intro A2 c2 g2 o2)) | ((with_reducible refine wp_region_up (by kernel_rfl) (by kernel_rfl) ?_); (repeat (go_big_quiet_step (first | (go_at_call 42; first | exact upq_tr (HC.out _) | exact upq (HC.out _))))); refine wpQuiet_nil ?_; intro _ hw'; obtain ⟨nq, hw''⟩ := hw'; subst hw''))
        go_ret
        refine ⟨A2, c2, ?_, ?_, UpOf.of (BL.o (by repeat constructor))⟩
        · rw [hfin.out, List.length_append]; rfl
        · rw [hfin.out, List.length_append, strs_app]; exact o2
      | true =>
        obtain ⟨X, hX⟩ : ∃ X, (cutA 32 [] S.data.toList).1 = X := ⟨_, rfl⟩
        obtain ⟨Y, hY⟩ : ∃ Y, (cutA 32 [] S.data.toList).2.1 = Y := ⟨_, rfl⟩
        have HC : Hid (∀ V, Calls Tryz.prog 42 #[.string S, .string ⟨#[32]⟩] V fun e w' => e = .returned (.tuple #[.string X, .string Y, .bool true]) ∧ UpOf V w') := Lib.hid fun V => by
          have := cut_any S ⟨#[32]⟩ 32 rfl V (by omega)
          rw [hc, hX, hY] at this
          exact this
        have hYs : Y.size ≤ 1000000000 := by
          rw [← hY]
          have := hcs.2
          rw [bsz] at this
          omega
        have HE2 : Hid (R = (L ++ [X]) ++ spl (m - (L ++ [X]).length) Y.data.toList) := Lib.hid (by
          rw [HE.out, hj, spl, hc, if_pos rfl, hX, hY, List.append_assoc, List.length_append]
          have e : m - (L.length + [X].length) = j := by simp; omega
          rw [e]; rfl)
        clear hc hX hY hcs hj HE
        go_wp2_with (first | (go_at_call 42; refine (HC.out _).mono ?_; rintro e w' ⟨rfl, g, rfl⟩) | (at_builtin; go_must (refine wpl_appU rfl _ _ 24 rfl w w.heap.size 9 _ 1 16 el_str (.slice A1 L.length c1) L.length (strs L) rfl (own_below HO.out (BL.o (by repeat constructor))) _ 1 1 [.string X] rfl (rds_new _ _ _ 1 1 rfl) (fun u hu => by simp at hu; subst hu; rfl) (by unfold maxLen; omega) (by omega) (up_below w _).size (BL.o (by repeat constructor)) (Nat.le_refl _) ?_; intro A2 c2 g2 o2)) | ((with_reducible refine wp_region_up (by kernel_rfl) (by kernel_rfl) ?_); (repeat (go_big_quiet_step (first | (go_at_call 42; first | exact upq_tr (HC.out _) | exact upq (HC.out _))))); refine wpQuiet_nil ?_; intro _ hw'; obtain ⟨nq, hw''⟩ := hw'; subst hw''))
        refine ⟨⟨Y, L ++ [X], A2, c2, by simp; omega, hYs, rfl, congrArg (fun n => Value.slice A2 n c2) (by simp), HE2, Lib.hid (by rw [List.length_append, strs_app]; exact o2), ex_up (BL.o (by repeat constructor))⟩, ?_⟩
        show m - (L.length + 1) < m - L.length
        omega
    · have hLm : L.length = m := by omega
      have hfin : Hid (R = L ++ [S]) := Lib.hid (by rw [HE.out, hLm, Nat.sub_self, spl, bs_of])
      have hlt' : ¬ (L.length : Int) < (m : Int) := by omega
      have hlt2 : ¬ (L.length : Int) + 1 < (m : Int) + 1 := by omega
      clear HE hLm
      go_wp2_with (first | (at_builtin; go_must (refine wpl_appU rfl _ _ 24 rfl w w.heap.size 9 _ 1 16 el_str (.slice A1 L.length c1) L.length (strs L) rfl (own_below HO.out (BL.o (by repeat constructor))) _ 1 1 [.string S] rfl (rds_new _ _ _ 1 1 rfl) (fun u hu => by simp at hu; subst hu; rfl) (by unfold maxLen; omega) (by omega) (up_below w _).size (BL.o (by repeat constructor)) (Nat.le_refl _) ?_; intro A2 c2 g2 o2)) | ((with_reducible refine wp_region_up (by kernel_rfl) (by kernel_rfl) ?_); (repeat (go_big_quiet_step (fail))); refine wpQuiet_nil ?_; intro _ hw'; obtain ⟨nq, hw''⟩ := hw'; subst hw''))
      go_ret
      refine ⟨A2, c2, ?_, ?_, UpOf.of (BL.o (by repeat constructor))⟩
      · rw [hfin.out, List.length_append]; rfl
      · rw [hfin.out, List.length_append, strs_app]; exact o2
end Go.Proofs.YtbianlkenallaaaGreatDoor
namespace Go.Proofs.YtbianlkenallaaaGreatDoor
open Go.RowKit
theorem kind_le (s : ByteArray) : kindOf s ≤ 14 := by
  unfold kindOf
  cases h : cmds.findIdx? fun x => decide (x = s) with
  | none => exact Nat.le_refl _
  | some i =>
    have := (List.findIdx?_eq_some_iff_getElem.1 h).1
    show i ≤ 14
    have h14 : cmds.length = 14 := rfl
    omega
theorem kind_iff (s : ByteArray) {i : Nat} (hi : i < 14) : kindOf s = i ↔ s = wd cmds i := by
  have hnd : ∀ i, i < 14 → ∀ j, j < 14 → wd cmds i = wd cmds j → i = j := by decide
  have h14 : cmds.length = 14 := rfl
  unfold kindOf
  cases h : cmds.findIdx? fun x => decide (x = s) with
  | none =>
    rw [List.findIdx?_eq_none_iff] at h
    constructor
    · intro he
      have he' : 14 = i := he
      omega
    · intro he
      have := h (wd cmds i) (by rw [← wd_eq (by omega)]; exact List.getElem_mem (by omega))
      rw [he] at this
      simp at this
  | some j =>
    obtain ⟨hj, h1, _⟩ := List.findIdx?_eq_some_iff_getElem.1 h
    have h1 := of_decide_eq_true h1
    rw [wd_eq hj] at h1
    show j = i ↔ _
    constructor
    · intro e; rw [← e]; exact h1.symm
    · intro e
      exact hnd j (by omega) i hi (by rw [h1, e])
theorem kind_test (s : ByteArray) {i : Nat} (hi : i < 14) : (s.toList == (wd cmds i).toList) = decide (kindOf s = i) := by
  by_cases h : kindOf s = i
  · rw [decide_eq_true h]; exact tl_teq ((kind_iff s hi).1 h)
  · rw [decide_eq_false h]; exact tl_tne (fun e => h ((kind_iff s hi).2 e))
theorem kind_test2 (s : ByteArray) {i : Nat} (hi : i < 14) : (s.toList == (wd cmds i).data.toList) = decide (kindOf s = i) := by
  rw [← kind_test s hi, ByteArray.toList_eq (wd cmds i)]
/-- how many words a command has at least, and whether it may have more -/
def wcR (k : Nat) : Int × Bool :=
  if k = 4 ∨ k = 8 then (1, false) else if k = 0 ∨ k = 7 ∨ k = 9 ∨ k = 13 then (3, false) else if k = 5 then (4, false) else if k = 1 then (6, false)
  else if k = 11 then (3, true) else if k = 14 then (0, false) else (2, true)
set_option maxRecDepth 10000 in
set_option maxHeartbeats 4000000 in
theorem wordCounts_any (s : ByteArray) (w : World) : Calls Tryz.prog 28 #[.string s] w fun e w' => e = .returned (.tuple #[i64 (wcR (kindOf s)).1, .bool (wcR (kindOf s)).2]) ∧ w = w' := by
  have q0 : (s.toList == [97, 108, 105, 103, 110]) = decide (kindOf s = 0) := kind_test2 s (i := 0) (by omega)
  have q1 : (s.toList == [98, 97, 115, 107, 101, 116]) = decide (kindOf s = 1) := kind_test2 s (i := 1) (by omega)
  have q2 : (s.toList == [99, 111, 100, 101]) = decide (kindOf s = 2) := kind_test2 s (i := 2) (by omega)
  have q3 : (s.toList == [100, 114, 105, 108, 108]) = decide (kindOf s = 3) := kind_test2 s (i := 3) (by omega)
  have q4 : (s.toList == [100, 114, 105, 108, 108, 115]) = decide (kindOf s = 4) := kind_test2 s (i := 4) (by omega)
  have q5 : (s.toList == [101, 110, 116, 101, 114]) = decide (kindOf s = 5) := kind_test2 s (i := 5) (by omega)
  have q6 : (s.toList == [102, 97, 115, 116]) = decide (kindOf s = 6) := kind_test2 s (i := 6) (by omega)
  have q7 : (s.toList == [108, 105, 110, 101]) = decide (kindOf s = 7) := kind_test2 s (i := 7) (by omega)
  have q8 : (s.toList == [108, 111, 103]) = decide (kindOf s = 8) := kind_test2 s (i := 8) (by omega)
  have q9 : (s.toList == [109, 97, 114, 107]) = decide (kindOf s = 9) := kind_test2 s (i := 9) (by omega)
  have q10 : (s.toList == [114, 111, 119]) = decide (kindOf s = 10) := kind_test2 s (i := 10) (by omega)
  have q11 : (s.toList == [115, 101, 116]) = decide (kindOf s = 11) := kind_test2 s (i := 11) (by omega)
  have q12 : (s.toList == [115, 116, 111, 112, 115]) = decide (kindOf s = 12) := kind_test2 s (i := 12) (by omega)
  have q13 : (s.toList == [119, 97, 105, 116]) = decide (kindOf s = 13) := kind_test2 s (i := 13) (by omega)
  have hk := kind_le s
  obtain ⟨k, hkk⟩ : ∃ k, kindOf s = k := ⟨_, rfl⟩
  rw [hkk] at hk q0 q1 q2 q3 q4 q5 q6 q7 q8 q9 q10 q11 q12 q13 ⊢
  clear hkk
  have h15 : k = 0 ∨ k = 1 ∨ k = 2 ∨ k = 3 ∨ k = 4 ∨ k = 5 ∨ k = 6 ∨ k = 7 ∨ k = 8 ∨ k = 9 ∨ k = 10 ∨ k = 11 ∨ k = 12 ∨ k = 13 ∨ k = 14 := by omega
  clear hk
  rcases h15 with rfl | rfl | rfl | rfl | rfl | rfl | rfl | rfl | rfl | rfl | rfl | rfl | rfl | rfl | rfl
  all_goals
    simp only [Nat.reduceEqDiff, eq_self, decide_true, decide_false] at q0 q1 q2 q3 q4 q5 q6 q7 q8 q9 q10 q11 q12 q13
    go_enter Tryz.func28, Tryz.ntmps28
    go_wp2_with fail
    go_ret2
    exact ⟨rfl, rfl⟩
end Go.Proofs.YtbianlkenallaaaGreatDoor
namespace Go.Proofs.YtbianlkenallaaaGreatDoor
open Go.RowKit
theorem blk_far8 {V : World} {p q : Nat} {t : TypeId} {x : Array Value} (h : Blk V p t x) (hne : p ≠ q) (u0 u1 u2 u3 u4 u5 u6 u7 : Value) : Blk ((((((((V.setCell ⟨q, 0, none⟩ u0).setCell ⟨q, 1, none⟩ u1).setCell ⟨q, 2, none⟩ u2).setCell ⟨q, 3, none⟩ u3).setCell ⟨q, 4, none⟩ u4).setCell ⟨q, 5, none⟩ u5).setCell ⟨q, 6, none⟩ u6).setCell ⟨q, 7, none⟩ u7) p t x := by
  have h0 := h.far (p := ⟨q, 0, none⟩) hne u0
  have h1 := h0.far (p := ⟨q, 1, none⟩) hne u1
  have h2 := h1.far (p := ⟨q, 2, none⟩) hne u2
  have h3 := h2.far (p := ⟨q, 3, none⟩) hne u3
  have h4 := h3.far (p := ⟨q, 4, none⟩) hne u4
  have h5 := h4.far (p := ⟨q, 5, none⟩) hne u5
  have h6 := h5.far (p := ⟨q, 6, none⟩) hne u6
  exact h6.far (p := ⟨q, 7, none⟩) hne u7
theorem blk_put8 {V : World} {q : Nat} {t : TypeId} (h : Blk V q t zc) (u0 u1 u2 u3 u4 u5 u6 u7 : Value) : Blk ((((((((V.setCell ⟨q, 0, none⟩ u0).setCell ⟨q, 1, none⟩ u1).setCell ⟨q, 2, none⟩ u2).setCell ⟨q, 3, none⟩ u3).setCell ⟨q, 4, none⟩ u4).setCell ⟨q, 5, none⟩ u5).setCell ⟨q, 6, none⟩ u6).setCell ⟨q, 7, none⟩ u7) q t #[u0, u1, u2, u3, u4, u5, u6, u7] := by
  have h0 : Blk _ q t #[u0, i64 0, i64 0, i64 0, i64 0, .slice none 0 0, .slice none 0 0, .string ⟨#[]⟩] := h.put 0 u0
  have h1 : Blk _ q t #[u0, u1, i64 0, i64 0, i64 0, .slice none 0 0, .slice none 0 0, .string ⟨#[]⟩] := h0.put 1 u1
  have h2 : Blk _ q t #[u0, u1, u2, i64 0, i64 0, .slice none 0 0, .slice none 0 0, .string ⟨#[]⟩] := h1.put 2 u2
  have h3 : Blk _ q t #[u0, u1, u2, u3, i64 0, .slice none 0 0, .slice none 0 0, .string ⟨#[]⟩] := h2.put 3 u3
  have h4 : Blk _ q t #[u0, u1, u2, u3, u4, .slice none 0 0, .slice none 0 0, .string ⟨#[]⟩] := h3.put 4 u4
  have h5 : Blk _ q t #[u0, u1, u2, u3, u4, u5, .slice none 0 0, .string ⟨#[]⟩] := h4.put 5 u5
  have h6 : Blk _ q t #[u0, u1, u2, u3, u4, u5, u6, .string ⟨#[]⟩] := h5.put 6 u6
  have h7 : Blk _ q t #[u0, u1, u2, u3, u4, u5, u6, u7] := h6.put 7 u7
  exact h7
/-- a list of one text that has just been laid -/
theorem own_txt {w V : World} (hu : UpOf w V) (s : ByteArray) {n : Nat} (hn : n = V.heap.size) : (V.alloc (.cells #[.string s] 9)).ownsRow w.heap.size 9 1 (.slice (some ⟨n, 0, none⟩) 1 1) 1 (strs [s]) := by
  subst hn
  exact World.ownsRow_lit (base := w.heap.size) (e := 9) (size := 1) V #[.string s] 1 hu.below.size (by unfold maxLen; omega) rfl
/-- the cells of a state's copy -/
abbrev cel8 (U : World) (p : Nat) (d : DeskD) (A B : Option Addr) (c e : Nat) : Prop :=
  U.cell? ⟨p, 0, none⟩ = some (i64 d.b.bars) ∧ U.cell? ⟨p, 1, none⟩ = some (i64 d.b.rise) ∧ U.cell? ⟨p, 2, none⟩ = some (i64 d.b.fall) ∧ U.cell? ⟨p, 3, none⟩ = some (i64 d.b.clr) ∧ U.cell? ⟨p, 4, none⟩ = some (i64 d.b.near) ∧ U.cell? ⟨p, 5, none⟩ = some (.slice A d.stops.length c) ∧ U.cell? ⟨p, 6, none⟩ = some (.slice B d.drills.length e) ∧ U.cell? ⟨p, 7, none⟩ = some (.string d.log)
theorem MD.cel {w V : World} {p q : Nat} {d : DeskD} {A B : Option Addr} {c e : Nat} (h : MD w V p q (dkcs d A B c e)) : cel8 V p d A B c e := h.bx.eight.2
set_option maxRecDepth 10000 in
set_option maxHeartbeats 4000000 in
theorem bnNo_any (d : DeskD) (A B : Option Addr) (c e : Nat) (ws : List ByteArray) (W : Option Addr) (wc : Nat) (s : ByteArray) (w : World) (h : Rds w 1 W ws.length (strs ws)) (hn : ws.length ≤ 10000000) (hf : ∀ i, i < ws.length → (wd ws i).size ≤ 100000000) (ht : Tab w) (hno : numsOf ws = none) :
    Calls Tryz.prog 30 #[dkv d A B c e, .string s, .slice W ws.length wc] w fun r w' => mdPost d [errL 7] A B c e w r w' := by
  have HR := Lib.hid h
  have HF := Lib.hid hf
  have HT := Lib.hid ht
  clear h hf ht
  go_enter Tryz.func30, Tryz.ntmps30
  go_upto_region 1 with (fail)
  refine wpg (R := fun V => Hid (MD w V w.heap.size (w.heap.size + 1) (dkcs d A B c e))) (Lib.hid (MD.new _ _)) (fun V z => ?_)
  generalize hp9 : w.heap.size = p at z ⊢
  generalize hq9 : p + 1 = q at z ⊢
  clear hp9 hq9
  go_wp2_with fail
  refine (readNumbers_any W wc ws _ (HR.out.below z.out.up.below) hn HF.out (HT.out.below z.out.up.below)).mono ?_
  rintro r w' hr
  unfold rnPost at hr
  rw [hno] at hr
  obtain ⟨rfl, g1, rfl⟩ := hr
  have z1 := Lib.hid (z.out.below (up_below V g1))
  go_upto_region 3 with (fail)
  refine wpg (R := fun U => Hid (MD w U p q (dkcs d A B c e))) z1 (fun U z => ?_)
  have hC : cel8 U.drew p d A B c e := z.out.cel
  refine wp_region_T (fun U => U.cell? ⟨p, 0, none⟩ = some (i64 (d).b.bars) ∧ U.cell? ⟨p, 1, none⟩ = some (i64 (d).b.rise) ∧ U.cell? ⟨p, 2, none⟩ = some (i64 (d).b.fall) ∧ U.cell? ⟨p, 3, none⟩ = some (i64 (d).b.clr) ∧ U.cell? ⟨p, 4, none⟩ = some (i64 (d).b.near) ∧ U.cell? ⟨p, 5, none⟩ = some (.slice A (d).stops.length c) ∧ U.cell? ⟨p, 6, none⟩ = some (.slice B (d).drills.length e) ∧ U.cell? ⟨p, 7, none⟩ = some (.string (d).log)) 2 (by kernel_rfl) ?_
  
  refine wpAnyT_load (i := 0) (v := ?_) rfl (by kernel_rfl) (by kernel_rfl) (by kernel_rfl) (by decide) (by kernel_rfl) (by kernel_rfl) (fun _ _ _ h => h) (Or.inl ⟨by rfl, ?_⟩) hC ?_
  rotate_left
  · intro w hSw; (try dsimp only at hSw); go_simp; try (with_reducible rfl)
  try simp only [Act.put, List.setIfInBounds_toArray, List.set_cons_zero, List.set_cons_succ]
  refine wpAnyT_one (i := 1) (by kernel_rfl) rfl (fun K hK => ?_)
  go_simp
  go_at_call 70
  refine (report_any 7 _).mono ?_
  rintro r w' ⟨X, n, rfl, ox, gx, rfl⟩
  have z2 := Lib.hid (z.out.below (V' := up U.drew gx) (bl_up (Below.drew (Below.refl _ _)) gx))
  have OX := Lib.hid ox
  clear ox
  refine hK.out _ _ (fun _ => z2.out.cel) ?_
  clear hK K
  try simp only [Act.put, List.setIfInBounds_toArray, List.set_cons_zero, List.set_cons_succ]
  obtain ⟨hqT, r0, r1, r2, r3, r4, r5, r6, r7⟩ := z2.out.rs.eight
  obtain ⟨f0, f1, f2, f3, f4, f5, f6, f7⟩ := z2.out.rs.open8
  refine wpAnyT_one (i := 2) (by kernel_rfl) rfl (fun K hK => ?_)
  go_simp
  refine hK.out _ _ (fun h9 => absurd (show true = false from h9) (by decide)) ?_
  clear hK K
  try simp only [Act.put, List.setIfInBounds_toArray, List.set_cons_zero, List.set_cons_succ]
  refine wpAnyT_pure (i := 3) (v := ?_) rfl (by kernel_rfl) (by kernel_rfl) (by kernel_rfl) (by decide) (fun _ _ _ h => h) (Or.inl ⟨by rfl, ?_⟩) (fun h9 => absurd (show true = false from h9) (by decide)) ?_
  rotate_left
  · intro w _; go_simp; try (with_reducible rfl)
  try simp only [Act.put, List.setIfInBounds_toArray, List.set_cons_zero, List.set_cons_succ]
  refine wpAnyT_done (by kernel_rfl) ?_ _
  (try simp only [Act.put, List.getElem_toArray, List.getElem_cons_succ, List.getElem_cons_zero, List.setIfInBounds_toArray, List.set_cons_zero, List.set_cons_succ])
  have hqU := z.out.rs.lt
  go_wp2_with fail
  refine bodyPost_ret (v := .tuple #[dkv (d) A B c e, .slice X 1 n]) (by simp [results, Tryz.results30, go_sem, hqT, r0, r1, r2, r3, r4, r5, r6, r7]) rfl ?_
  exact ⟨X, n, rfl, own_mono (own_all OX.out hqU _ _ _ _ _ _ _ _) z.out.up.below.size, put8_up z2.out.up z2.out.hq _ _ _ _ _ _ _ _⟩
end Go.Proofs.YtbianlkenallaaaGreatDoor

/-
  SameWares, of the program and of the reference. The bounds stand at each.
-/
import Derived.Test.YtiibpldfnnhhlaaWare2
namespace Go.Proofs.Ytiibpldfnnhhlaa
open Go.RowKit
def brkEq (x y : Ware) (k : Nat) : Bool := decide ((brk x k).fr = (brk y k).fr ∧ (brk x k).pr = (brk y k).pr)
def nmEq (s t : ByteArray) : Bool := decide (s.data.toList = t.data.toList)
theorem nmEq_no {s t : ByteArray} (h : s ≠ t) : nmEq s t = false := decide_eq_false fun e => h (ba_ext e)
theorem nmEq_yes {s t : ByteArray} (h : s = t) : nmEq s t = true := by subst h; exact decide_eq_true rfl
def sameAt (a b : List Ware) (i : Nat) : Bool := nmEq (wat a i).name (wat b i).name && decide ((wat a i).brs.length = (wat b i).brs.length) && (List.range (wat a i).brs.length).all (brkEq (wat a i) (wat b i))
def sameR (a b : List Ware) : Bool := decide (a.length = b.length) && (List.range a.length).all (sameAt a b)
theorem sameR_len {a b : List Ware} (h : ¬ a.length = b.length) : sameR a b = false := by rw [sameR, decide_eq_false h, Bool.false_and]
theorem sameR_at {a b : List Ware} {i : Nat} (hi : i < a.length) (h : sameAt a b i = false) : sameR a b = false := by
  simp only [sameR, Bool.and_eq_false_iff]
  refine .inr ?_
  rw [← Bool.not_eq_true]
  intro hc
  rw [List.all_eq_true] at hc
  have := hc i (List.mem_range.2 hi)
  simp [h] at this
theorem sameR_true {a b : List Ware} (h1 : a.length = b.length) (h : ∀ i, i < a.length → sameAt a b i = true) : sameR a b = true := by
  have : ((List.range a.length).all (sameAt a b)) = true := by
    simp only [List.all_eq_true, List.mem_range]
    exact h
  rw [sameR, decide_eq_true h1, this]; rfl
theorem sameAt_1 {a b : List Ware} {i : Nat} (h : (wat a i).name ≠ (wat b i).name) : sameAt a b i = false := by rw [sameAt, nmEq_no h]; rfl
theorem sameAt_2 {a b : List Ware} {i : Nat} (h : ¬ (wat a i).brs.length = (wat b i).brs.length) : sameAt a b i = false := by rw [sameAt, decide_eq_false h, Bool.and_false, Bool.false_and]
theorem sameAt_3 {a b : List Ware} {i k : Nat} (hk : k < (wat a i).brs.length) (h : brkEq (wat a i) (wat b i) k = false) : sameAt a b i = false := by
  simp only [sameAt, Bool.and_eq_false_iff]
  refine .inr ?_
  rw [← Bool.not_eq_true]
  intro hc
  rw [List.all_eq_true] at hc
  have := hc k (List.mem_range.2 hk)
  simp [h] at this
theorem sameAt_0 {a b : List Ware} {i : Nat} (h1 : (wat a i).name = (wat b i).name) (h2 : (wat a i).brs.length = (wat b i).brs.length) (h : ∀ k, k < (wat a i).brs.length → brkEq (wat a i) (wat b i) k = true) : sameAt a b i = true := by
  have : ((List.range (wat a i).brs.length).all (brkEq (wat a i) (wat b i))) = true := by
    simp only [List.all_eq_true, List.mem_range]
    exact h
  rw [sameAt, nmEq_yes h1, decide_eq_true h2, this]; rfl
set_option maxRecDepth 10000 in
set_option maxHeartbeats 2000000 in
theorem sameI_any (A B : Option Addr) (c d : Nat) (a b : List Ware) (w : World) (ha : WSee w A a) (hb : WSee w B b) (hn : a.length ≤ 100000000) (_hm : b.length ≤ 100000000) (hfa : WBd a) (hfb : WBd b) :
    Calls Try.prog 18 #[.slice A a.length c, .slice B b.length d] w fun e w' => e = .returned (.bool (sameR a b)) ∧ UpOf w w' := by
  have HFA := Lib.hid hfa
  have HFB := Lib.hid hfb
  clear hfa hfb
  cases h1 : ((a.length : Int) != (b.length : Int))
  · have hle := Lib.hid (show a.length = b.length by have h : (a.length : Int) = b.length := (by simpa using h1); omega)
    go_enter Try.func18, Try.ntmps18
    go_wp2_with (first | ((with_reducible refine wp_region_up (by kernel_rfl) (by kernel_rfl) ?_); (repeat (go_big_quiet_step (fail))); refine wpQuiet_nil ?_; intro _ hw'; obtain ⟨nq, hw''⟩ := hw'; subst hw''))
    clear h1
    go_loopw [15] (fun i wr => ∃ k : Nat, k ≤ a.length ∧ i = i64 k ∧ Hid (∀ j, j < k → sameAt a b j = true) ∧ ∃ g : Up w, wr = up w g) (fun i _ => a.length - (intOf i).toNat)
    case atStart => exact ⟨0, by omega, rfl, fun i hi => by omega, ex_up (by repeat (first | exact Below.refl _ _ | refine bl_tr ?_ _ | refine bl_al ?_ _ | refine bl_dr ?_ | refine bl_up ?_ _ | refine Below.drew ?_ | refine bl_alloc ?_ _ | refine Below.setCell ?_ (by first | (simp; done) | (simp; omega)) _))⟩
    case round =>
      obtain ⟨k, hk, rfl, hok, g, rfl⟩ := hrel
      by_cases hlt : k < a.length
      · have hlt2 : k < b.length := by have := hle.out; omega
        obtain ⟨b1, off1, A1, c1, rfl, hb1, x0, x1, r1⟩ := ware_at ha hlt
        obtain ⟨b2, off2, A2, c2, rfl, hb2, y0, y1, r2⟩ := ware_at hb hlt2
        have ha' := Lib.hid ha
        have hb' := Lib.hid hb
        have HFk := (HFA.out k hlt).2
        have HFk2 := (HFB.out k hlt2).2
        cases q1 : ((wat a k).name.toList == (wat b k).name.toList)
        rotate_left
        · have n1 := Lib.hid (text_eq (s := (wat a k).name) (t := (wat b k).name) q1)
          have q1' : ((wat a k).name.toList != (wat b k).name.toList) = false := by rw [bne, q1]; rfl
          cases q2 : (((wat a k).brs.length : Int) != ((wat b k).brs.length : Int))
          · have n2 := Lib.hid (show (wat a k).brs.length = (wat b k).brs.length by have h : ((wat a k).brs.length : Int) = (wat b k).brs.length := (by simpa using q2); omega)
            clear ha hb
            go_wp2_with (first | ((with_reducible refine wp_region_up (by kernel_rfl) (by kernel_rfl) ?_); (repeat (go_big_quiet_step (fail))); refine wpQuiet_nil ?_; intro _ hw'; obtain ⟨nq, hw''⟩ := hw'; subst hw''))
            go_loopw [43] (fun i wr => ∃ j : Nat, j ≤ (wat a k).brs.length ∧ i = i64 j ∧ Hid (∀ i, i < j → brkEq (wat a k) (wat b k) i = true) ∧ ∃ g' : Up (up w (g.al (.cells #[.string (wat a k).name, .slice A1 (wat a k).brs.length c1] 74))), wr = up w ((g.al (.cells #[.string (wat a k).name, .slice A1 (wat a k).brs.length c1] 74)).tr g')) (fun i _ => (wat a k).brs.length - (intOf i).toNat)
            case atStart => exact ⟨0, by omega, rfl, fun i hi => by omega, ex_tr (by repeat (first | exact Below.refl _ _ | refine bl_tr ?_ _ | refine bl_al ?_ _ | refine bl_dr ?_ | refine bl_up ?_ _ | refine Below.drew ?_ | refine bl_alloc ?_ _ | refine Below.setCell ?_ (by first | (simp; done) | (simp; omega)) _))⟩
            case round =>
              obtain ⟨j, hj, rfl, hbe, g', rfl⟩ := hrel
              by_cases hlt3 : j < (wat a k).brs.length
              · obtain ⟨p1, o1, rfl, hp1, hz1⟩ := brk_all r1 (by omega)
                obtain ⟨p2, o2, rfl, hp2, hz2⟩ := brk_all r2 (by have := n2.out; omega)
                obtain ⟨u0, u1⟩ := hz1 j hlt3
                obtain ⟨v0, v1⟩ := hz2 j (by have := n2.out; omega)
                have hj2 : (j : Int) < ((wat b k).brs.length : Int) := by have := n2.out; omega
                clear hz1 hz2
                cases q5 : ((brk (wat a k) j).fr == (brk (wat b k) j).fr)
                · have hf := Lib.hid (sameR_at hlt (sameAt_3 hlt3 (show brkEq (wat a k) (wat b k) j = false from decide_eq_false (fun h => by rw [beq_eq_false_iff_ne] at q5; exact q5 h.1))))
                  go_wp2_with (first | ((with_reducible refine wp_region_up (by kernel_rfl) (by kernel_rfl) ?_); (repeat (go_big_quiet_step (fail))); refine wpQuiet_nil ?_; intro _ hw'; obtain ⟨nq, hw''⟩ := hw'; subst hw''))
                  go_ret
                  exact ⟨ret_bool hf.out.symm, UpOf.of (by repeat (first | exact Below.refl _ _ | refine bl_tr ?_ _ | refine bl_al ?_ _ | refine bl_dr ?_ | refine bl_up ?_ _ | refine Below.drew ?_ | refine bl_alloc ?_ _ | refine Below.setCell ?_ (by first | (simp; done) | (simp; omega)) _))⟩
                cases q6 : ((brk (wat a k) j).pr == (brk (wat b k) j).pr)
                · have hf := Lib.hid (sameR_at hlt (sameAt_3 hlt3 (show brkEq (wat a k) (wat b k) j = false from decide_eq_false (fun h => by rw [beq_eq_false_iff_ne] at q6; exact q6 h.2))))
                  go_wp2_with (first | ((with_reducible refine wp_region_up (by kernel_rfl) (by kernel_rfl) ?_); (repeat (go_big_quiet_step (fail))); refine wpQuiet_nil ?_; intro _ hw'; obtain ⟨nq, hw''⟩ := hw'; subst hw''))
                  go_ret
                  exact ⟨ret_bool hf.out.symm, UpOf.of (by repeat (first | exact Below.refl _ _ | refine bl_tr ?_ _ | refine bl_al ?_ _ | refine bl_dr ?_ | refine bl_up ?_ _ | refine Below.drew ?_ | refine bl_alloc ?_ _ | refine Below.setCell ?_ (by first | (simp; done) | (simp; omega)) _))⟩
                · have hq := Lib.hid (show brkEq (wat a k) (wat b k) j = true from decide_eq_true ⟨by rw [beq_iff_eq] at q5; exact q5, by rw [beq_iff_eq] at q6; exact q6⟩)
                  go_wp2_with (first | ((with_reducible refine wp_region_up (by kernel_rfl) (by kernel_rfl) ?_); (repeat (go_big_quiet_step (fail))); refine wpQuiet_nil ?_; intro _ hw'; obtain ⟨nq, hw''⟩ := hw'; subst hw''))
                  go_roundw
                  case rel => have hx := lt_ext (P := fun i => brkEq (wat a k) (wat b k) i = true) hbe.out hq.out; exact ⟨j + 1, by omega, by go_num, hx, ex_tr (by repeat (first | exact Below.refl _ _ | refine bl_tr ?_ _ | refine bl_al ?_ _ | refine bl_dr ?_ | refine bl_up ?_ _ | refine Below.drew ?_ | refine bl_alloc ?_ _ | refine Below.setCell ?_ (by first | (simp; done) | (simp; omega)) _))⟩
                  case measure => (simp [intOf]; try omega)
              · obtain rfl : j = (wat a k).brs.length := by omega
                have hq := Lib.hid (sameAt_0 n1.out n2.out hbe.out)
                go_wp2_with (first | ((with_reducible refine wp_region_up (by kernel_rfl) (by kernel_rfl) ?_); (repeat (go_big_quiet_step (fail))); refine wpQuiet_nil ?_; intro _ hw'; obtain ⟨nq, hw''⟩ := hw'; subst hw''))
                go_roundw
                case rel => have hx := lt_ext (P := fun j => sameAt a b j = true) hok.out hq.out; exact ⟨k + 1, by omega, by go_num, hx, ex_up (by repeat (first | exact Below.refl _ _ | refine bl_tr ?_ _ | refine bl_al ?_ _ | refine bl_dr ?_ | refine bl_up ?_ _ | refine Below.drew ?_ | refine bl_alloc ?_ _ | refine Below.setCell ?_ (by first | (simp; done) | (simp; omega)) _))⟩
                case measure => (simp [intOf]; try omega)
          · have hf := Lib.hid (sameR_at hlt (sameAt_2 (show ¬ (wat a k).brs.length = (wat b k).brs.length by have h : ¬ ((wat a k).brs.length : Int) = (wat b k).brs.length := (by simpa using q2); omega)))
            go_wp2_with (first | ((with_reducible refine wp_region_up (by kernel_rfl) (by kernel_rfl) ?_); (repeat (go_big_quiet_step (fail))); refine wpQuiet_nil ?_; intro _ hw'; obtain ⟨nq, hw''⟩ := hw'; subst hw''))
            go_ret
            exact ⟨ret_bool hf.out.symm, UpOf.of (by repeat (first | exact Below.refl _ _ | refine bl_tr ?_ _ | refine bl_al ?_ _ | refine bl_dr ?_ | refine bl_up ?_ _ | refine Below.drew ?_ | refine bl_alloc ?_ _ | refine Below.setCell ?_ (by first | (simp; done) | (simp; omega)) _))⟩
        · have hf := Lib.hid (sameR_at hlt (sameAt_1 (text_ne (s := (wat a k).name) (t := (wat b k).name) q1)))
          have q1' : ((wat a k).name.toList != (wat b k).name.toList) = true := by rw [bne, q1]; rfl
          go_wp2_with (first | ((with_reducible refine wp_region_up (by kernel_rfl) (by kernel_rfl) ?_); (repeat (go_big_quiet_step (fail))); refine wpQuiet_nil ?_; intro _ hw'; obtain ⟨nq, hw''⟩ := hw'; subst hw''))
          go_ret
          exact ⟨ret_bool hf.out.symm, UpOf.of (by repeat (first | exact Below.refl _ _ | refine bl_tr ?_ _ | refine bl_al ?_ _ | refine bl_dr ?_ | refine bl_up ?_ _ | refine Below.drew ?_ | refine bl_alloc ?_ _ | refine Below.setCell ?_ (by first | (simp; done) | (simp; omega)) _))⟩
      · obtain rfl : k = a.length := by omega
        have hf := Lib.hid (sameR_true hle.out hok.out)
        go_wp2_with (first | ((with_reducible refine wp_region_up (by kernel_rfl) (by kernel_rfl) ?_); (repeat (go_big_quiet_step (fail))); refine wpQuiet_nil ?_; intro _ hw'; obtain ⟨nq, hw''⟩ := hw'; subst hw''))
        go_ret
        exact ⟨ret_bool hf.out.symm, UpOf.of (by repeat (first | exact Below.refl _ _ | refine bl_tr ?_ _ | refine bl_al ?_ _ | refine bl_dr ?_ | refine bl_up ?_ _ | refine Below.drew ?_ | refine bl_alloc ?_ _ | refine Below.setCell ?_ (by first | (simp; done) | (simp; omega)) _))⟩
  · have hf := Lib.hid (sameR_len (a := a) (b := b) (show ¬ a.length = b.length by have h : ¬ (a.length : Int) = b.length := (by simpa using h1); omega))
    go_enter Try.func18, Try.ntmps18
    go_wp2_with (first | ((with_reducible refine wp_region_up (by kernel_rfl) (by kernel_rfl) ?_); (repeat (go_big_quiet_step (fail))); refine wpQuiet_nil ?_; intro _ hw'; obtain ⟨nq, hw''⟩ := hw'; subst hw''))
    go_ret
    exact ⟨ret_bool hf.out.symm, UpOf.of (by repeat (first | exact Below.refl _ _ | refine bl_tr ?_ _ | refine bl_al ?_ _ | refine bl_dr ?_ | refine bl_up ?_ _ | refine Below.drew ?_ | refine bl_alloc ?_ _ | refine Below.setCell ?_ (by first | (simp; done) | (simp; omega)) _))⟩
set_option maxRecDepth 10000 in
set_option maxHeartbeats 2000000 in
theorem sameS_any (A B : Option Addr) (c d : Nat) (a b : List Ware) (w : World) (ha : WSee w A a) (hb : WSee w B b) (hn : a.length ≤ 100000000) (_hm : b.length ≤ 100000000) (hfa : WBd a) (hfb : WBd b) :
    Calls Try.prog 16 #[.slice A a.length c, .slice B b.length d] w fun e w' => e = .returned (.bool (sameR a b)) ∧ UpOf w w' := by
  have HFA := Lib.hid hfa
  have HFB := Lib.hid hfb
  clear hfa hfb
  cases h1 : ((a.length : Int) != (b.length : Int))
  · have hle := Lib.hid (show a.length = b.length by have h : (a.length : Int) = b.length := (by simpa using h1); omega)
    go_enter Try.func16, Try.ntmps16
    go_wp2_with (first | ((with_reducible refine wp_region_up (by kernel_rfl) (by kernel_rfl) ?_); (repeat (go_big_quiet_step (fail))); refine wpQuiet_nil ?_; intro _ hw'; obtain ⟨nq, hw''⟩ := hw'; subst hw''))
    clear h1
    go_loopw [5] (fun i wr => ∃ k : Nat, k ≤ a.length ∧ i = i64 k ∧ Hid (∀ j, j < k → sameAt a b j = true) ∧ ∃ g : Up w, wr = up w g) (fun i _ => a.length - (intOf i).toNat)
    case atStart => exact ⟨0, by omega, rfl, fun i hi => by omega, ex_up (by repeat (first | exact Below.refl _ _ | refine bl_tr ?_ _ | refine bl_al ?_ _ | refine bl_dr ?_ | refine bl_up ?_ _ | refine Below.drew ?_ | refine bl_alloc ?_ _ | refine Below.setCell ?_ (by first | (simp; done) | (simp; omega)) _))⟩
    case round =>
      obtain ⟨k, hk, rfl, hok, g, rfl⟩ := hrel
      by_cases hlt : k < a.length
      · have hlt2 : k < b.length := by have := hle.out; omega
        obtain ⟨b1, off1, A1, c1, rfl, hb1, x0, x1, r1⟩ := ware_at ha hlt
        obtain ⟨b2, off2, A2, c2, rfl, hb2, y0, y1, r2⟩ := ware_at hb hlt2
        have ha' := Lib.hid ha
        have hb' := Lib.hid hb
        have HFk := (HFA.out k hlt).2
        have HFk2 := (HFB.out k hlt2).2
        cases q1 : ((wat a k).name.toList == (wat b k).name.toList)
        rotate_left
        · have n1 := Lib.hid (text_eq (s := (wat a k).name) (t := (wat b k).name) q1)
          have q1' : ((wat a k).name.toList != (wat b k).name.toList) = false := by rw [bne, q1]; rfl
          cases q2 : (((wat a k).brs.length : Int) != ((wat b k).brs.length : Int))
          · have n2 := Lib.hid (show (wat a k).brs.length = (wat b k).brs.length by have h : ((wat a k).brs.length : Int) = (wat b k).brs.length := (by simpa using q2); omega)
            clear ha hb
            go_wp2_with (first | ((with_reducible refine wp_region_up (by kernel_rfl) (by kernel_rfl) ?_); (repeat (go_big_quiet_step (fail))); refine wpQuiet_nil ?_; intro _ hw'; obtain ⟨nq, hw''⟩ := hw'; subst hw''))
            go_loopw [6] (fun i wr => ∃ j : Nat, j ≤ (wat a k).brs.length ∧ i = i64 j ∧ Hid (∀ i, i < j → brkEq (wat a k) (wat b k) i = true) ∧ ∃ g' : Up w, wr = up w g') (fun i _ => (wat a k).brs.length - (intOf i).toNat)
            case atStart => exact ⟨0, by omega, rfl, fun i hi => by omega, ex_up (by repeat (first | exact Below.refl _ _ | refine bl_tr ?_ _ | refine bl_al ?_ _ | refine bl_dr ?_ | refine bl_up ?_ _ | refine Below.drew ?_ | refine bl_alloc ?_ _ | refine Below.setCell ?_ (by first | (simp; done) | (simp; omega)) _))⟩
            case round =>
              obtain ⟨j, hj, rfl, hbe, g', rfl⟩ := hrel
              by_cases hlt3 : j < (wat a k).brs.length
              · obtain ⟨p1, o1, rfl, hp1, hz1⟩ := brk_all r1 (by omega)
                obtain ⟨p2, o2, rfl, hp2, hz2⟩ := brk_all r2 (by have := n2.out; omega)
                obtain ⟨u0, u1⟩ := hz1 j hlt3
                obtain ⟨v0, v1⟩ := hz2 j (by have := n2.out; omega)
                have hj2 : (j : Int) < ((wat b k).brs.length : Int) := by have := n2.out; omega
                clear hz1 hz2
                cases q5 : ((brk (wat a k) j).fr == (brk (wat b k) j).fr)
                · have hf := Lib.hid (sameR_at hlt (sameAt_3 hlt3 (show brkEq (wat a k) (wat b k) j = false from decide_eq_false (fun h => by rw [beq_eq_false_iff_ne] at q5; exact q5 h.1))))
                  go_wp2_with (first | ((with_reducible refine wp_region_up (by kernel_rfl) (by kernel_rfl) ?_); (repeat (go_big_quiet_step (fail))); refine wpQuiet_nil ?_; intro _ hw'; obtain ⟨nq, hw''⟩ := hw'; subst hw''))
                  go_ret
                  exact ⟨ret_bool hf.out.symm, UpOf.of (by repeat (first | exact Below.refl _ _ | refine bl_tr ?_ _ | refine bl_al ?_ _ | refine bl_dr ?_ | refine bl_up ?_ _ | refine Below.drew ?_ | refine bl_alloc ?_ _ | refine Below.setCell ?_ (by first | (simp; done) | (simp; omega)) _))⟩
                cases q6 : ((brk (wat a k) j).pr == (brk (wat b k) j).pr)
                · have hf := Lib.hid (sameR_at hlt (sameAt_3 hlt3 (show brkEq (wat a k) (wat b k) j = false from decide_eq_false (fun h => by rw [beq_eq_false_iff_ne] at q6; exact q6 h.2))))
                  go_wp2_with (first | ((with_reducible refine wp_region_up (by kernel_rfl) (by kernel_rfl) ?_); (repeat (go_big_quiet_step (fail))); refine wpQuiet_nil ?_; intro _ hw'; obtain ⟨nq, hw''⟩ := hw'; subst hw''))
                  go_ret
                  exact ⟨ret_bool hf.out.symm, UpOf.of (by repeat (first | exact Below.refl _ _ | refine bl_tr ?_ _ | refine bl_al ?_ _ | refine bl_dr ?_ | refine bl_up ?_ _ | refine Below.drew ?_ | refine bl_alloc ?_ _ | refine Below.setCell ?_ (by first | (simp; done) | (simp; omega)) _))⟩
                · have hq := Lib.hid (show brkEq (wat a k) (wat b k) j = true from decide_eq_true ⟨by rw [beq_iff_eq] at q5; exact q5, by rw [beq_iff_eq] at q6; exact q6⟩)
                  go_wp2_with (first | ((with_reducible refine wp_region_up (by kernel_rfl) (by kernel_rfl) ?_); (repeat (go_big_quiet_step (fail))); refine wpQuiet_nil ?_; intro _ hw'; obtain ⟨nq, hw''⟩ := hw'; subst hw''))
                  go_roundw
                  case rel => have hx := lt_ext (P := fun i => brkEq (wat a k) (wat b k) i = true) hbe.out hq.out; exact ⟨j + 1, by omega, by go_num, hx, ex_up (by repeat (first | exact Below.refl _ _ | refine bl_tr ?_ _ | refine bl_al ?_ _ | refine bl_dr ?_ | refine bl_up ?_ _ | refine Below.drew ?_ | refine bl_alloc ?_ _ | refine Below.setCell ?_ (by first | (simp; done) | (simp; omega)) _))⟩
                  case measure => (simp [intOf]; try omega)
              · obtain rfl : j = (wat a k).brs.length := by omega
                have hq := Lib.hid (sameAt_0 n1.out n2.out hbe.out)
                go_wp2_with (first | ((with_reducible refine wp_region_up (by kernel_rfl) (by kernel_rfl) ?_); (repeat (go_big_quiet_step (fail))); refine wpQuiet_nil ?_; intro _ hw'; obtain ⟨nq, hw''⟩ := hw'; subst hw''))
                go_roundw
                case rel => have hx := lt_ext (P := fun j => sameAt a b j = true) hok.out hq.out; exact ⟨k + 1, by omega, by go_num, hx, ex_up (by repeat (first | exact Below.refl _ _ | refine bl_tr ?_ _ | refine bl_al ?_ _ | refine bl_dr ?_ | refine bl_up ?_ _ | refine Below.drew ?_ | refine bl_alloc ?_ _ | refine Below.setCell ?_ (by first | (simp; done) | (simp; omega)) _))⟩
                case measure => (simp [intOf]; try omega)
          · have hf := Lib.hid (sameR_at hlt (sameAt_2 (show ¬ (wat a k).brs.length = (wat b k).brs.length by have h : ¬ ((wat a k).brs.length : Int) = (wat b k).brs.length := (by simpa using q2); omega)))
            go_wp2_with (first | ((with_reducible refine wp_region_up (by kernel_rfl) (by kernel_rfl) ?_); (repeat (go_big_quiet_step (fail))); refine wpQuiet_nil ?_; intro _ hw'; obtain ⟨nq, hw''⟩ := hw'; subst hw''))
            go_ret
            exact ⟨ret_bool hf.out.symm, UpOf.of (by repeat (first | exact Below.refl _ _ | refine bl_tr ?_ _ | refine bl_al ?_ _ | refine bl_dr ?_ | refine bl_up ?_ _ | refine Below.drew ?_ | refine bl_alloc ?_ _ | refine Below.setCell ?_ (by first | (simp; done) | (simp; omega)) _))⟩
        · have hf := Lib.hid (sameR_at hlt (sameAt_1 (text_ne (s := (wat a k).name) (t := (wat b k).name) q1)))
          have q1' : ((wat a k).name.toList != (wat b k).name.toList) = true := by rw [bne, q1]; rfl
          go_wp2_with (first | ((with_reducible refine wp_region_up (by kernel_rfl) (by kernel_rfl) ?_); (repeat (go_big_quiet_step (fail))); refine wpQuiet_nil ?_; intro _ hw'; obtain ⟨nq, hw''⟩ := hw'; subst hw''))
          go_ret
          exact ⟨ret_bool hf.out.symm, UpOf.of (by repeat (first | exact Below.refl _ _ | refine bl_tr ?_ _ | refine bl_al ?_ _ | refine bl_dr ?_ | refine bl_up ?_ _ | refine Below.drew ?_ | refine bl_alloc ?_ _ | refine Below.setCell ?_ (by first | (simp; done) | (simp; omega)) _))⟩
      · obtain rfl : k = a.length := by omega
        have hf := Lib.hid (sameR_true hle.out hok.out)
        go_wp2_with (first | ((with_reducible refine wp_region_up (by kernel_rfl) (by kernel_rfl) ?_); (repeat (go_big_quiet_step (fail))); refine wpQuiet_nil ?_; intro _ hw'; obtain ⟨nq, hw''⟩ := hw'; subst hw''))
        go_ret
        exact ⟨ret_bool hf.out.symm, UpOf.of (by repeat (first | exact Below.refl _ _ | refine bl_tr ?_ _ | refine bl_al ?_ _ | refine bl_dr ?_ | refine bl_up ?_ _ | refine Below.drew ?_ | refine bl_alloc ?_ _ | refine Below.setCell ?_ (by first | (simp; done) | (simp; omega)) _))⟩
  · have hf := Lib.hid (sameR_len (a := a) (b := b) (show ¬ a.length = b.length by have h : ¬ (a.length : Int) = b.length := (by simpa using h1); omega))
    go_enter Try.func16, Try.ntmps16
    go_wp2_with (first | ((with_reducible refine wp_region_up (by kernel_rfl) (by kernel_rfl) ?_); (repeat (go_big_quiet_step (fail))); refine wpQuiet_nil ?_; intro _ hw'; obtain ⟨nq, hw''⟩ := hw'; subst hw''))
    go_ret
    exact ⟨ret_bool hf.out.symm, UpOf.of (by repeat (first | exact Below.refl _ _ | refine bl_tr ?_ _ | refine bl_al ?_ _ | refine bl_dr ?_ | refine bl_up ?_ _ | refine Below.drew ?_ | refine bl_alloc ?_ _ | refine Below.setCell ?_ (by first | (simp; done) | (simp; omega)) _))⟩
end Go.Proofs.Ytiibpldfnnhhlaa

/-
  SameDesk, of the program and of the reference. The bounds stand at each.
-/
import Derived.Test.YtbianlkenallaaaDesk0
namespace Go.Proofs.Ytbianlkenallaaa
open Go.RowKit
theorem rall_true {n : Nat} {p : Nat → Bool} (h : ∀ i, i < n → p i = true) : (List.range n).all p = true := by
  simp only [List.all_eq_true, List.mem_range]
  exact h
theorem rall_at {n i : Nat} {p : Nat → Bool} (hi : i < n) (h : p i = false) : (List.range n).all p = false := by
  rw [← Bool.not_eq_true]
  intro hc
  rw [List.all_eq_true] at hc
  have := hc i (List.mem_range.2 hi)
  simp [h] at this
theorem lt_ext {P : Nat → Prop} {j : Nat} (h : ∀ i, i < j → P i) (hj : P j) : ∀ i, i < j + 1 → P i := fun i hi => by
  rcases Nat.lt_succ_iff_lt_or_eq.1 hi with h' | h'
  · exact h i h'
  · rw [h']; exact hj
def num (ps : List Int) (i : Nat) : Int := ps.getD i 0
theorem num_eq {ps : List Int} {i : Nat} (h : i < ps.length) : ps[i] = num ps i := by simp [num, h]
theorem num_at {w : World} {A : Option Addr} {l : List Int} (h : Rds w 1 A l.length (ics l)) {k : Nat} (hk : k < l.length) :
    ∃ b off, A = some ⟨b, off, none⟩ ∧ b < w.heap.size ∧ w.cell? ⟨b, off + k, none⟩ = some (i64 (num l k)) := by
  obtain ⟨b, off, e, hb, c0⟩ := int_at h rfl hk
  rw [num_eq hk] at c0
  exact ⟨b, off, e, hb, c0⟩
def drl (l : List Drill) (i : Nat) : Drill := l.getD i ⟨ByteArray.empty, ByteArray.empty, 0⟩
theorem drl_eq {l : List Drill} {i : Nat} (h : i < l.length) : l[i] = drl l i := by simp [drl, h]
theorem drl_at {w : World} {A : Option Addr} {l : List Drill} (h : Rds w 3 A l.length (drcs l)) {k : Nat} (hk : k < l.length) :
    ∃ b off, A = some ⟨b, off, none⟩ ∧ b < w.heap.size ∧ w.cell? ⟨b, off + k * 3, none⟩ = some (.string (drl l k).name) ∧ w.cell? ⟨b, off + k * 3 + 1, none⟩ = some (.string (drl l k).letters) ∧ w.cell? ⟨b, off + k * 3 + 2, none⟩ = some (i64 (drl l k).minutes) := by
  have := dr_at h hk
  rw [drl_eq hk] at this
  exact this
def eqNums (a b : List Int) : Bool := decide (a.length = b.length) && (List.range a.length).all fun i => decide (num a i = num b i)
theorem eqNums_len {a b : List Int} (h : ¬ a.length = b.length) : eqNums a b = false := by rw [eqNums, decide_eq_false h]; rfl
theorem eqNums_at {a b : List Int} {i : Nat} (hi : i < a.length) (h : ¬ num a i = num b i) : eqNums a b = false := by rw [eqNums, rall_at hi (decide_eq_false h), Bool.and_false]
theorem eqNums_true {a b : List Int} (h : a.length = b.length) (h2 : ∀ i, i < a.length → num a i = num b i) : eqNums a b = true := by
  rw [eqNums, decide_eq_true h, rall_true fun i hi => decide_eq_true (h2 i hi)]; rfl
set_option maxRecDepth 10000 in
theorem sameNumbers_any (A B : Option Addr) (c d : Nat) (a b : List Int) (w : World) (ha : Rds w 1 A a.length (ics a)) (hb : Rds w 1 B b.length (ics b)) (hn : a.length ≤ 100000000) (_hm : b.length ≤ 100000000) :
    Calls Try.prog 28 #[.slice A a.length c, .slice B b.length d] w fun e w' => e = .returned (.bool (eqNums a b)) ∧ UpOf w w' := by
  cases h1 : ((a.length : Int) != (b.length : Int))
  · have hle : a.length = b.length := by have h : (a.length : Int) = b.length := (by simpa using h1); omega
    have HLE := Lib.hid hle
    clear hle
    go_enter Try.func28, Try.ntmps28
    go_wp2_with (first | ((with_reducible refine wp_region_up (by kernel_rfl) (by kernel_rfl) ?_); (repeat (go_big_quiet_step (fail))); refine wpQuiet_nil ?_; intro _ hw'; obtain ⟨nq, hw''⟩ := hw'; subst hw''))
    clear h1
    go_loopw [13] (fun i wr => ∃ k : Nat, k ≤ a.length ∧ i = i64 k ∧ Hid (∀ j, j < k → num a j = num b j) ∧ ∃ g : Up w, wr = up w g) (fun i _ => a.length - (intOf i).toNat)
    case atStart => exact ⟨0, by omega, rfl, fun i hi => by omega, ex_up (by repeat (first | exact Below.refl _ _ | refine bl_tr ?_ _ | refine bl_al ?_ _ | refine bl_dr ?_ | refine bl_up ?_ _ | refine Below.drew ?_ | refine bl_alloc ?_ _ | refine Below.setCell ?_ (by first | (simp; done) | (simp; omega)) _))⟩
    case round =>
      obtain ⟨k, hk, rfl, hok, g, rfl⟩ := hrel
      by_cases hlt : k < a.length
      · have hlt2 : k < b.length := by have := HLE.out; omega
        obtain ⟨b1, o1, rfl, hb1, c1⟩ := num_at ha hlt
        obtain ⟨b2, o2, rfl, hb2, c2⟩ := num_at hb hlt2
        cases q : (num a k == num b k)
        · have hf := Lib.hid (eqNums_at hlt (show ¬ num a k = num b k by simpa using q))
          go_wp2_with (first | ((with_reducible refine wp_region_up (by kernel_rfl) (by kernel_rfl) ?_); (repeat (go_big_quiet_step (fail))); refine wpQuiet_nil ?_; intro _ hw'; obtain ⟨nq, hw''⟩ := hw'; subst hw''))
          go_ret
          exact ⟨ret_bool hf.out.symm, UpOf.of (by repeat (first | exact Below.refl _ _ | refine bl_tr ?_ _ | refine bl_al ?_ _ | refine bl_dr ?_ | refine bl_up ?_ _ | refine Below.drew ?_ | refine bl_alloc ?_ _ | refine Below.setCell ?_ (by first | (simp; done) | (simp; omega)) _))⟩
        · have hq := Lib.hid (show num a k = num b k by simpa using q)
          go_wp2_with (first | ((with_reducible refine wp_region_up (by kernel_rfl) (by kernel_rfl) ?_); (repeat (go_big_quiet_step (fail))); refine wpQuiet_nil ?_; intro _ hw'; obtain ⟨nq, hw''⟩ := hw'; subst hw''))
          go_roundw
          case rel => have hx := lt_ext (P := fun j => num a j = num b j) hok.out hq.out; exact ⟨k + 1, by omega, by go_num, hx, ex_up (by repeat (first | exact Below.refl _ _ | refine bl_tr ?_ _ | refine bl_al ?_ _ | refine bl_dr ?_ | refine bl_up ?_ _ | refine Below.drew ?_ | refine bl_alloc ?_ _ | refine Below.setCell ?_ (by first | (simp; done) | (simp; omega)) _))⟩
          case measure => (simp [intOf]; try omega)
      · have hf := Lib.hid (eqNums_true HLE.out (fun i hi => hok.out i (by omega)))
        go_wp2_with (first | ((with_reducible refine wp_region_up (by kernel_rfl) (by kernel_rfl) ?_); (repeat (go_big_quiet_step (fail))); refine wpQuiet_nil ?_; intro _ hw'; obtain ⟨nq, hw''⟩ := hw'; subst hw''))
        go_ret
        exact ⟨ret_bool hf.out.symm, UpOf.of (by repeat (first | exact Below.refl _ _ | refine bl_tr ?_ _ | refine bl_al ?_ _ | refine bl_dr ?_ | refine bl_up ?_ _ | refine Below.drew ?_ | refine bl_alloc ?_ _ | refine Below.setCell ?_ (by first | (simp; done) | (simp; omega)) _))⟩
  · have hf := Lib.hid (eqNums_len (a := a) (b := b) (show ¬ a.length = b.length by have h : ¬ (a.length : Int) = b.length := (by simpa using h1); omega))
    go_enter Try.func28, Try.ntmps28
    go_wp2_with (first | ((with_reducible refine wp_region_up (by kernel_rfl) (by kernel_rfl) ?_); (repeat (go_big_quiet_step (fail))); refine wpQuiet_nil ?_; intro _ hw'; obtain ⟨nq, hw''⟩ := hw'; subst hw''))
    go_ret
    exact ⟨ret_bool hf.out.symm, UpOf.of (by repeat (first | exact Below.refl _ _ | refine bl_tr ?_ _ | refine bl_al ?_ _ | refine bl_dr ?_ | refine bl_up ?_ _ | refine Below.drew ?_ | refine bl_alloc ?_ _ | refine Below.setCell ?_ (by first | (simp; done) | (simp; omega)) _))⟩
set_option maxRecDepth 10000 in
theorem l00Same_any (A B : Option Addr) (c d : Nat) (a b : List Int) (w : World) (ha : Rds w 1 A a.length (ics a)) (hb : Rds w 1 B b.length (ics b)) (hn : a.length ≤ 100000000) (_hm : b.length ≤ 100000000) :
    Calls Try.prog 24 #[.slice A a.length c, .slice B b.length d] w fun e w' => e = .returned (.bool (eqNums a b)) ∧ UpOf w w' := by
  cases h1 : ((a.length : Int) != (b.length : Int))
  · have hle : a.length = b.length := by have h : (a.length : Int) = b.length := (by simpa using h1); omega
    have HLE := Lib.hid hle
    clear hle
    go_enter Try.func24, Try.ntmps24
    go_wp2_with (first | ((with_reducible refine wp_region_up (by kernel_rfl) (by kernel_rfl) ?_); (repeat (go_big_quiet_step (fail))); refine wpQuiet_nil ?_; intro _ hw'; obtain ⟨nq, hw''⟩ := hw'; subst hw''))
    clear h1
    go_loopw [5] (fun i wr => ∃ k : Nat, k ≤ a.length ∧ i = i64 k ∧ Hid (∀ j, j < k → num a j = num b j) ∧ ∃ g : Up w, wr = up w g) (fun i _ => a.length - (intOf i).toNat)
    case atStart => exact ⟨0, by omega, rfl, fun i hi => by omega, ex_up (by repeat (first | exact Below.refl _ _ | refine bl_tr ?_ _ | refine bl_al ?_ _ | refine bl_dr ?_ | refine bl_up ?_ _ | refine Below.drew ?_ | refine bl_alloc ?_ _ | refine Below.setCell ?_ (by first | (simp; done) | (simp; omega)) _))⟩
    case round =>
      obtain ⟨k, hk, rfl, hok, g, rfl⟩ := hrel
      by_cases hlt : k < a.length
      · have hlt2 : k < b.length := by have := HLE.out; omega
        obtain ⟨b1, o1, rfl, hb1, c1⟩ := num_at ha hlt
        obtain ⟨b2, o2, rfl, hb2, c2⟩ := num_at hb hlt2
        cases q : (num a k == num b k)
        · have hf := Lib.hid (eqNums_at hlt (show ¬ num a k = num b k by simpa using q))
          go_wp2_with (first | ((with_reducible refine wp_region_up (by kernel_rfl) (by kernel_rfl) ?_); (repeat (go_big_quiet_step (fail))); refine wpQuiet_nil ?_; intro _ hw'; obtain ⟨nq, hw''⟩ := hw'; subst hw''))
          go_ret
          exact ⟨ret_bool hf.out.symm, UpOf.of (by repeat (first | exact Below.refl _ _ | refine bl_tr ?_ _ | refine bl_al ?_ _ | refine bl_dr ?_ | refine bl_up ?_ _ | refine Below.drew ?_ | refine bl_alloc ?_ _ | refine Below.setCell ?_ (by first | (simp; done) | (simp; omega)) _))⟩
        · have hq := Lib.hid (show num a k = num b k by simpa using q)
          go_wp2_with (first | ((with_reducible refine wp_region_up (by kernel_rfl) (by kernel_rfl) ?_); (repeat (go_big_quiet_step (fail))); refine wpQuiet_nil ?_; intro _ hw'; obtain ⟨nq, hw''⟩ := hw'; subst hw''))
          go_roundw
          case rel => have hx := lt_ext (P := fun j => num a j = num b j) hok.out hq.out; exact ⟨k + 1, by omega, by go_num, hx, ex_up (by repeat (first | exact Below.refl _ _ | refine bl_tr ?_ _ | refine bl_al ?_ _ | refine bl_dr ?_ | refine bl_up ?_ _ | refine Below.drew ?_ | refine bl_alloc ?_ _ | refine Below.setCell ?_ (by first | (simp; done) | (simp; omega)) _))⟩
          case measure => (simp [intOf]; try omega)
      · have hf := Lib.hid (eqNums_true HLE.out (fun i hi => hok.out i (by omega)))
        go_wp2_with (first | ((with_reducible refine wp_region_up (by kernel_rfl) (by kernel_rfl) ?_); (repeat (go_big_quiet_step (fail))); refine wpQuiet_nil ?_; intro _ hw'; obtain ⟨nq, hw''⟩ := hw'; subst hw''))
        go_ret
        exact ⟨ret_bool hf.out.symm, UpOf.of (by repeat (first | exact Below.refl _ _ | refine bl_tr ?_ _ | refine bl_al ?_ _ | refine bl_dr ?_ | refine bl_up ?_ _ | refine Below.drew ?_ | refine bl_alloc ?_ _ | refine Below.setCell ?_ (by first | (simp; done) | (simp; omega)) _))⟩
  · have hf := Lib.hid (eqNums_len (a := a) (b := b) (show ¬ a.length = b.length by have h : ¬ (a.length : Int) = b.length := (by simpa using h1); omega))
    go_enter Try.func24, Try.ntmps24
    go_wp2_with (first | ((with_reducible refine wp_region_up (by kernel_rfl) (by kernel_rfl) ?_); (repeat (go_big_quiet_step (fail))); refine wpQuiet_nil ?_; intro _ hw'; obtain ⟨nq, hw''⟩ := hw'; subst hw''))
    go_ret
    exact ⟨ret_bool hf.out.symm, UpOf.of (by repeat (first | exact Below.refl _ _ | refine bl_tr ?_ _ | refine bl_al ?_ _ | refine bl_dr ?_ | refine bl_up ?_ _ | refine Below.drew ?_ | refine bl_alloc ?_ _ | refine Below.setCell ?_ (by first | (simp; done) | (simp; omega)) _))⟩
def nmEq (s t : ByteArray) : Bool := decide (s.data.toList = t.data.toList)
theorem nmEq_of {s t : ByteArray} : nmEq s t = (s.toList == t.toList) := by
  rw [nmEq, ByteArray.toList_eq, ByteArray.toList_eq, Bool.eq_iff_iff]
  simp
def bEq (x y : Bsk) : Bool := x.bars == y.bars && x.rise == y.rise && x.fall == y.fall && x.clr == y.clr && x.near == y.near
def drlEq (x y : Drill) : Bool := x.name.toList == y.name.toList && x.letters.toList == y.letters.toList && x.minutes == y.minutes
def eqDrl (a b : List Drill) : Bool := decide (a.length = b.length) && (List.range a.length).all fun i => drlEq (drl a i) (drl b i)
theorem eqDrl_len {a b : List Drill} (h : ¬ a.length = b.length) : eqDrl a b = false := by rw [eqDrl, decide_eq_false h]; rfl
theorem eqDrl_at {a b : List Drill} {i : Nat} (hi : i < a.length) (h : drlEq (drl a i) (drl b i) = false) : eqDrl a b = false := by rw [eqDrl, rall_at hi h, Bool.and_false]
theorem eqDrl_true {a b : List Drill} (h : a.length = b.length) (h2 : ∀ i, i < a.length → drlEq (drl a i) (drl b i) = true) : eqDrl a b = true := by
  rw [eqDrl, decide_eq_true h, rall_true h2]; rfl
def deskEq (x y : DeskD) : Bool := bEq x.b y.b && eqNums x.stops y.stops && eqDrl x.drills y.drills && (x.log.toList == y.log.toList)
theorem deskEq_1 {x y : DeskD} (h : bEq x.b y.b = false) : deskEq x y = false := by rw [deskEq, h]; rfl
theorem deskEq_2 {x y : DeskD} (h : eqNums x.stops y.stops = false) : deskEq x y = false := by rw [deskEq, h, Bool.and_false]; rfl
theorem deskEq_3 {x y : DeskD} (h : eqDrl x.drills y.drills = false) : deskEq x y = false := by rw [deskEq, h, Bool.and_false]; rfl
theorem deskEq_4 {x y : DeskD} (h : (x.log.toList == y.log.toList) = false) : deskEq x y = false := by rw [deskEq, h, Bool.and_false]
theorem deskEq_0 {x y : DeskD} (h1 : bEq x.b y.b = true) (h2 : eqNums x.stops y.stops = true) (h3 : eqDrl x.drills y.drills = true) (h4 : (x.log.toList == y.log.toList) = true) : deskEq x y = true := by rw [deskEq, h1, h2, h3, h4]; rfl
set_option maxRecDepth 10000 in
set_option maxHeartbeats 4000000 in
theorem sameDeskI_any (x y : DeskD) (A B A' B' : Option Addr) (c e c' e' : Nat) (w : World) (h : DSee w x A B) (h' : DSee w y A' B') (hn : x.stops.length ≤ 100000000) (hm : x.drills.length ≤ 100000000) (hn' : y.stops.length ≤ 100000000) (_hm' : y.drills.length ≤ 100000000) : Calls Try.prog 13 #[dkv x A B c e, dkv y A' B' c' e'] w fun e w' => e = .returned (.bool (deskEq x y)) ∧ UpOf w w' := by
  cases q1 : (x.b.bars == y.b.bars)
  · have hf := Lib.hid (deskEq_1 (x := x) (y := y) (by simp only [bEq, *]; simp))
    go_enter Try.func13, Try.ntmps13
    go_wp2_with (first | ((with_reducible refine wp_region_up (by kernel_rfl) (by kernel_rfl) ?_); (repeat (go_big_quiet_step (fail))); refine wpQuiet_nil ?_; intro _ hw'; obtain ⟨nq, hw''⟩ := hw'; subst hw''))
    go_ret
    exact ⟨ret_bool hf.out.symm, UpOf.of (by repeat (first | exact Below.refl _ _ | refine bl_tr ?_ _ | refine bl_al ?_ _ | refine bl_dr ?_ | refine bl_up ?_ _ | refine Below.drew ?_ | refine bl_alloc ?_ _ | refine Below.setCell ?_ (by first | (simp; done) | (simp; omega)) _))⟩
  cases q2 : (x.b.rise == y.b.rise)
  · have hf := Lib.hid (deskEq_1 (x := x) (y := y) (by simp only [bEq, *]; simp))
    go_enter Try.func13, Try.ntmps13
    go_wp2_with (first | ((with_reducible refine wp_region_up (by kernel_rfl) (by kernel_rfl) ?_); (repeat (go_big_quiet_step (fail))); refine wpQuiet_nil ?_; intro _ hw'; obtain ⟨nq, hw''⟩ := hw'; subst hw''))
    go_ret
    exact ⟨ret_bool hf.out.symm, UpOf.of (by repeat (first | exact Below.refl _ _ | refine bl_tr ?_ _ | refine bl_al ?_ _ | refine bl_dr ?_ | refine bl_up ?_ _ | refine Below.drew ?_ | refine bl_alloc ?_ _ | refine Below.setCell ?_ (by first | (simp; done) | (simp; omega)) _))⟩
  cases q3 : (x.b.fall == y.b.fall)
  · have hf := Lib.hid (deskEq_1 (x := x) (y := y) (by simp only [bEq, *]; simp))
    go_enter Try.func13, Try.ntmps13
    go_wp2_with (first | ((with_reducible refine wp_region_up (by kernel_rfl) (by kernel_rfl) ?_); (repeat (go_big_quiet_step (fail))); refine wpQuiet_nil ?_; intro _ hw'; obtain ⟨nq, hw''⟩ := hw'; subst hw''))
    go_ret
    exact ⟨ret_bool hf.out.symm, UpOf.of (by repeat (first | exact Below.refl _ _ | refine bl_tr ?_ _ | refine bl_al ?_ _ | refine bl_dr ?_ | refine bl_up ?_ _ | refine Below.drew ?_ | refine bl_alloc ?_ _ | refine Below.setCell ?_ (by first | (simp; done) | (simp; omega)) _))⟩
  cases q4 : (x.b.clr == y.b.clr)
  · have hf := Lib.hid (deskEq_1 (x := x) (y := y) (by simp only [bEq, *]; simp))
    go_enter Try.func13, Try.ntmps13
    go_wp2_with (first | ((with_reducible refine wp_region_up (by kernel_rfl) (by kernel_rfl) ?_); (repeat (go_big_quiet_step (fail))); refine wpQuiet_nil ?_; intro _ hw'; obtain ⟨nq, hw''⟩ := hw'; subst hw''))
    go_ret
    exact ⟨ret_bool hf.out.symm, UpOf.of (by repeat (first | exact Below.refl _ _ | refine bl_tr ?_ _ | refine bl_al ?_ _ | refine bl_dr ?_ | refine bl_up ?_ _ | refine Below.drew ?_ | refine bl_alloc ?_ _ | refine Below.setCell ?_ (by first | (simp; done) | (simp; omega)) _))⟩
  cases q5 : (x.b.near == y.b.near)
  · have hf := Lib.hid (deskEq_1 (x := x) (y := y) (by simp only [bEq, *]; simp))
    go_enter Try.func13, Try.ntmps13
    go_wp2_with (first | ((with_reducible refine wp_region_up (by kernel_rfl) (by kernel_rfl) ?_); (repeat (go_big_quiet_step (fail))); refine wpQuiet_nil ?_; intro _ hw'; obtain ⟨nq, hw''⟩ := hw'; subst hw''))
    go_ret
    exact ⟨ret_bool hf.out.symm, UpOf.of (by repeat (first | exact Below.refl _ _ | refine bl_tr ?_ _ | refine bl_al ?_ _ | refine bl_dr ?_ | refine bl_up ?_ _ | refine Below.drew ?_ | refine bl_alloc ?_ _ | refine Below.setCell ?_ (by first | (simp; done) | (simp; omega)) _))⟩
  have HBE := Lib.hid (show bEq x.b y.b = true by simp only [bEq, q1, q2, q3, q4, q5]; rfl)
  go_enter Try.func13, Try.ntmps13
  go_wp2_with fail
  clear q1 q2 q3 q4 q5
  obtain ⟨x0, y0, hs, hB⟩ := box2 w (dkcs x A B c e) (dkcs y A' B' c' e') 27 27
  have x5 := x0 5
  have x6 := x0 6
  have x7 := x0 7
  have y5 := y0 5
  have y6 := y0 6
  have y7 := y0 7
  have k1 : w.heap.size < w.heap.size + 2 := by omega
  have k2 : w.heap.size + 1 < w.heap.size + 2 := by omega
  rw [← hs] at k1 k2
  have h1 := h.below hB
  have h2 := h'.below hB
  have HB := Lib.hid hB
  clear x0 y0 hs hB h h'
  simp only [List.getElem?_toArray, List.getElem?_cons_succ, List.getElem?_cons_zero] at x5 x6 x7 y5 y6 y7
  revert x5 x6 x7 y5 y6 y7 k1 k2 h1 h2 HB
  generalize (w.alloc (.cells (dkcs x A B c e) 27)).alloc (.cells (dkcs y A' B' c' e') 27) = W
  intro k1 k2 h1 h2 HB x5 x6 x7 y5 y6 y7
  cases b2 : eqNums x.stops y.stops
  · have hf := Lib.hid (deskEq_2 b2)
    go_wp2_with (first | (go_at_call 28; refine (ret_as (sameNumbers_any _ _ _ _ _ _ _ (h1.1.below (by repeat (first | exact Below.refl _ _ | refine bl_tr ?_ _ | refine bl_al ?_ _ | refine bl_dr ?_ | refine bl_up ?_ _ | refine Below.drew ?_ | refine bl_alloc ?_ _ | refine Below.setCell ?_ (by first | (simp; done) | (simp; omega)) _))) (h2.1.below (by repeat (first | exact Below.refl _ _ | refine bl_tr ?_ _ | refine bl_al ?_ _ | refine bl_dr ?_ | refine bl_up ?_ _ | refine Below.drew ?_ | refine bl_alloc ?_ _ | refine Below.setCell ?_ (by first | (simp; done) | (simp; omega)) _))) hn hn') b2).mono ?_; rintro e w' ⟨rfl, g, rfl⟩) | ((with_reducible refine wp_region_up (by kernel_rfl) (by kernel_rfl) ?_); (repeat (go_big_quiet_step (first | (go_at_call 28; first | exact upq_tr (ret_as (sameNumbers_any _ _ _ _ _ _ _ (h1.1.below (by repeat (first | exact Below.refl _ _ | refine bl_tr ?_ _ | refine bl_al ?_ _ | refine bl_dr ?_ | refine bl_up ?_ _ | refine Below.drew ?_ | refine bl_alloc ?_ _ | refine Below.setCell ?_ (by first | (simp; done) | (simp; omega)) _))) (h2.1.below (by repeat (first | exact Below.refl _ _ | refine bl_tr ?_ _ | refine bl_al ?_ _ | refine bl_dr ?_ | refine bl_up ?_ _ | refine Below.drew ?_ | refine bl_alloc ?_ _ | refine Below.setCell ?_ (by first | (simp; done) | (simp; omega)) _))) hn hn') b2) | exact upq (ret_as (sameNumbers_any _ _ _ _ _ _ _ (h1.1.below (by repeat (first | exact Below.refl _ _ | refine bl_tr ?_ _ | refine bl_al ?_ _ | refine bl_dr ?_ | refine bl_up ?_ _ | refine Below.drew ?_ | refine bl_alloc ?_ _ | refine Below.setCell ?_ (by first | (simp; done) | (simp; omega)) _))) (h2.1.below (by repeat (first | exact Below.refl _ _ | refine bl_tr ?_ _ | refine bl_al ?_ _ | refine bl_dr ?_ | refine bl_up ?_ _ | refine Below.drew ?_ | refine bl_alloc ?_ _ | refine Below.setCell ?_ (by first | (simp; done) | (simp; omega)) _))) hn hn') b2))))); refine wpQuiet_nil ?_; intro _ hw'; obtain ⟨nq, hw''⟩ := hw'; subst hw''))
    go_ret
    exact ⟨ret_bool hf.out.symm, UpOf.of (HB.out.trans (Below.mono (by repeat (first | exact Below.refl _ _ | refine bl_tr ?_ _ | refine bl_al ?_ _ | refine bl_dr ?_ | refine bl_up ?_ _ | refine Below.drew ?_ | refine bl_alloc ?_ _ | refine Below.setCell ?_ (by first | (simp; done) | (simp; omega)) _)) HB.out.size))⟩
  cases q6 : ((x.drills.length : Int) != (y.drills.length : Int))
  rotate_left
  · have hf := Lib.hid (deskEq_3 (eqDrl_len (show ¬ x.drills.length = y.drills.length by have h : ¬ (x.drills.length : Int) = y.drills.length := (by simpa using q6); omega)))
    go_wp2_with (first | (go_at_call 28; refine (ret_as (sameNumbers_any _ _ _ _ _ _ _ (h1.1.below (by repeat (first | exact Below.refl _ _ | refine bl_tr ?_ _ | refine bl_al ?_ _ | refine bl_dr ?_ | refine bl_up ?_ _ | refine Below.drew ?_ | refine bl_alloc ?_ _ | refine Below.setCell ?_ (by first | (simp; done) | (simp; omega)) _))) (h2.1.below (by repeat (first | exact Below.refl _ _ | refine bl_tr ?_ _ | refine bl_al ?_ _ | refine bl_dr ?_ | refine bl_up ?_ _ | refine Below.drew ?_ | refine bl_alloc ?_ _ | refine Below.setCell ?_ (by first | (simp; done) | (simp; omega)) _))) hn hn') b2).mono ?_; rintro e w' ⟨rfl, g, rfl⟩) | ((with_reducible refine wp_region_up (by kernel_rfl) (by kernel_rfl) ?_); (repeat (go_big_quiet_step (first | (go_at_call 28; first | exact upq_tr (ret_as (sameNumbers_any _ _ _ _ _ _ _ (h1.1.below (by repeat (first | exact Below.refl _ _ | refine bl_tr ?_ _ | refine bl_al ?_ _ | refine bl_dr ?_ | refine bl_up ?_ _ | refine Below.drew ?_ | refine bl_alloc ?_ _ | refine Below.setCell ?_ (by first | (simp; done) | (simp; omega)) _))) (h2.1.below (by repeat (first | exact Below.refl _ _ | refine bl_tr ?_ _ | refine bl_al ?_ _ | refine bl_dr ?_ | refine bl_up ?_ _ | refine Below.drew ?_ | refine bl_alloc ?_ _ | refine Below.setCell ?_ (by first | (simp; done) | (simp; omega)) _))) hn hn') b2) | exact upq (ret_as (sameNumbers_any _ _ _ _ _ _ _ (h1.1.below (by repeat (first | exact Below.refl _ _ | refine bl_tr ?_ _ | refine bl_al ?_ _ | refine bl_dr ?_ | refine bl_up ?_ _ | refine Below.drew ?_ | refine bl_alloc ?_ _ | refine Below.setCell ?_ (by first | (simp; done) | (simp; omega)) _))) (h2.1.below (by repeat (first | exact Below.refl _ _ | refine bl_tr ?_ _ | refine bl_al ?_ _ | refine bl_dr ?_ | refine bl_up ?_ _ | refine Below.drew ?_ | refine bl_alloc ?_ _ | refine Below.setCell ?_ (by first | (simp; done) | (simp; omega)) _))) hn hn') b2))))); refine wpQuiet_nil ?_; intro _ hw'; obtain ⟨nq, hw''⟩ := hw'; subst hw''))
    go_ret
    exact ⟨ret_bool hf.out.symm, UpOf.of (HB.out.trans (Below.mono (by repeat (first | exact Below.refl _ _ | refine bl_tr ?_ _ | refine bl_al ?_ _ | refine bl_dr ?_ | refine bl_up ?_ _ | refine Below.drew ?_ | refine bl_alloc ?_ _ | refine Below.setCell ?_ (by first | (simp; done) | (simp; omega)) _)) HB.out.size))⟩
  have hle := Lib.hid (show x.drills.length = y.drills.length by have h : (x.drills.length : Int) = y.drills.length := (by simpa using q6); omega)
  cases q7 : (x.log.toList == y.log.toList)
  · have hf := Lib.hid (deskEq_4 q7)
    go_wp2_with (first | (go_at_call 28; refine (ret_as (sameNumbers_any _ _ _ _ _ _ _ (h1.1.below (by repeat (first | exact Below.refl _ _ | refine bl_tr ?_ _ | refine bl_al ?_ _ | refine bl_dr ?_ | refine bl_up ?_ _ | refine Below.drew ?_ | refine bl_alloc ?_ _ | refine Below.setCell ?_ (by first | (simp; done) | (simp; omega)) _))) (h2.1.below (by repeat (first | exact Below.refl _ _ | refine bl_tr ?_ _ | refine bl_al ?_ _ | refine bl_dr ?_ | refine bl_up ?_ _ | refine Below.drew ?_ | refine bl_alloc ?_ _ | refine Below.setCell ?_ (by first | (simp; done) | (simp; omega)) _))) hn hn') b2).mono ?_; rintro e w' ⟨rfl, g, rfl⟩) | ((with_reducible refine wp_region_up (by kernel_rfl) (by kernel_rfl) ?_); (repeat (go_big_quiet_step (first | (go_at_call 28; first | exact upq_tr (ret_as (sameNumbers_any _ _ _ _ _ _ _ (h1.1.below (by repeat (first | exact Below.refl _ _ | refine bl_tr ?_ _ | refine bl_al ?_ _ | refine bl_dr ?_ | refine bl_up ?_ _ | refine Below.drew ?_ | refine bl_alloc ?_ _ | refine Below.setCell ?_ (by first | (simp; done) | (simp; omega)) _))) (h2.1.below (by repeat (first | exact Below.refl _ _ | refine bl_tr ?_ _ | refine bl_al ?_ _ | refine bl_dr ?_ | refine bl_up ?_ _ | refine Below.drew ?_ | refine bl_alloc ?_ _ | refine Below.setCell ?_ (by first | (simp; done) | (simp; omega)) _))) hn hn') b2) | exact upq (ret_as (sameNumbers_any _ _ _ _ _ _ _ (h1.1.below (by repeat (first | exact Below.refl _ _ | refine bl_tr ?_ _ | refine bl_al ?_ _ | refine bl_dr ?_ | refine bl_up ?_ _ | refine Below.drew ?_ | refine bl_alloc ?_ _ | refine Below.setCell ?_ (by first | (simp; done) | (simp; omega)) _))) (h2.1.below (by repeat (first | exact Below.refl _ _ | refine bl_tr ?_ _ | refine bl_al ?_ _ | refine bl_dr ?_ | refine bl_up ?_ _ | refine Below.drew ?_ | refine bl_alloc ?_ _ | refine Below.setCell ?_ (by first | (simp; done) | (simp; omega)) _))) hn hn') b2))))); refine wpQuiet_nil ?_; intro _ hw'; obtain ⟨nq, hw''⟩ := hw'; subst hw''))
    go_ret
    exact ⟨ret_bool hf.out.symm, UpOf.of (HB.out.trans (Below.mono (by repeat (first | exact Below.refl _ _ | refine bl_tr ?_ _ | refine bl_al ?_ _ | refine bl_dr ?_ | refine bl_up ?_ _ | refine Below.drew ?_ | refine bl_alloc ?_ _ | refine Below.setCell ?_ (by first | (simp; done) | (simp; omega)) _)) HB.out.size))⟩
  have HB2 := Lib.hid b2
  have HQ7 := Lib.hid q7
  go_wp2_with (first | (go_at_call 28; refine (ret_as (sameNumbers_any _ _ _ _ _ _ _ (h1.1.below (by repeat (first | exact Below.refl _ _ | refine bl_tr ?_ _ | refine bl_al ?_ _ | refine bl_dr ?_ | refine bl_up ?_ _ | refine Below.drew ?_ | refine bl_alloc ?_ _ | refine Below.setCell ?_ (by first | (simp; done) | (simp; omega)) _))) (h2.1.below (by repeat (first | exact Below.refl _ _ | refine bl_tr ?_ _ | refine bl_al ?_ _ | refine bl_dr ?_ | refine bl_up ?_ _ | refine Below.drew ?_ | refine bl_alloc ?_ _ | refine Below.setCell ?_ (by first | (simp; done) | (simp; omega)) _))) hn hn') b2).mono ?_; rintro e w' ⟨rfl, g, rfl⟩) | ((with_reducible refine wp_region_up (by kernel_rfl) (by kernel_rfl) ?_); (repeat (go_big_quiet_step (first | (go_at_call 28; first | exact upq_tr (ret_as (sameNumbers_any _ _ _ _ _ _ _ (h1.1.below (by repeat (first | exact Below.refl _ _ | refine bl_tr ?_ _ | refine bl_al ?_ _ | refine bl_dr ?_ | refine bl_up ?_ _ | refine Below.drew ?_ | refine bl_alloc ?_ _ | refine Below.setCell ?_ (by first | (simp; done) | (simp; omega)) _))) (h2.1.below (by repeat (first | exact Below.refl _ _ | refine bl_tr ?_ _ | refine bl_al ?_ _ | refine bl_dr ?_ | refine bl_up ?_ _ | refine Below.drew ?_ | refine bl_alloc ?_ _ | refine Below.setCell ?_ (by first | (simp; done) | (simp; omega)) _))) hn hn') b2) | exact upq (ret_as (sameNumbers_any _ _ _ _ _ _ _ (h1.1.below (by repeat (first | exact Below.refl _ _ | refine bl_tr ?_ _ | refine bl_al ?_ _ | refine bl_dr ?_ | refine bl_up ?_ _ | refine Below.drew ?_ | refine bl_alloc ?_ _ | refine Below.setCell ?_ (by first | (simp; done) | (simp; omega)) _))) (h2.1.below (by repeat (first | exact Below.refl _ _ | refine bl_tr ?_ _ | refine bl_al ?_ _ | refine bl_dr ?_ | refine bl_up ?_ _ | refine Below.drew ?_ | refine bl_alloc ?_ _ | refine Below.setCell ?_ (by first | (simp; done) | (simp; omega)) _))) hn hn') b2))))); refine wpQuiet_nil ?_; intro _ hw'; obtain ⟨nq, hw''⟩ := hw'; subst hw''))
  clear b2 q6 q7
  go_loopw [38] (fun i wr => ∃ k : Nat, k ≤ x.drills.length ∧ i = i64 k ∧ Hid (∀ j, j < k → drlEq (drl x.drills j) (drl y.drills j) = true) ∧ ∃ g : Up W, wr = up W g) (fun i _ => x.drills.length - (intOf i).toNat)
  case atStart => exact ⟨0, by omega, rfl, fun i hi => by omega, ex_up (by repeat (first | exact Below.refl _ _ | refine bl_tr ?_ _ | refine bl_al ?_ _ | refine bl_dr ?_ | refine bl_up ?_ _ | refine Below.drew ?_ | refine bl_alloc ?_ _ | refine Below.setCell ?_ (by first | (simp; done) | (simp; omega)) _))⟩
  case round =>
    obtain ⟨k, hk, rfl, hok, g', rfl⟩ := hrel
    by_cases hlt : k < x.drills.length
    · have hlt2 : k < y.drills.length := by have := hle.out; omega
      obtain ⟨b1, o1, rfl, hb1, u0, u1, u2⟩ := drl_at h1.2 hlt
      obtain ⟨b2, o2, rfl, hb2, v0, v1, v2⟩ := drl_at h2.2 hlt2
      cases r1 : ((drl x.drills k).name.toList == (drl y.drills k).name.toList)
      · have hf := Lib.hid (deskEq_3 (x := x) (y := y) (eqDrl_at hlt (by simp only [drlEq, r1]; rfl)))
        go_wp2_with (first | ((with_reducible refine wp_region_up (by kernel_rfl) (by kernel_rfl) ?_); (repeat (go_big_quiet_step (fail))); refine wpQuiet_nil ?_; intro _ hw'; obtain ⟨nq, hw''⟩ := hw'; subst hw''))
        go_ret
        exact ⟨ret_bool hf.out.symm, UpOf.of (HB.out.trans (Below.mono (by repeat (first | exact Below.refl _ _ | refine bl_tr ?_ _ | refine bl_al ?_ _ | refine bl_dr ?_ | refine bl_up ?_ _ | refine Below.drew ?_ | refine bl_alloc ?_ _ | refine Below.setCell ?_ (by first | (simp; done) | (simp; omega)) _)) HB.out.size))⟩
      cases r2 : ((drl x.drills k).letters.toList == (drl y.drills k).letters.toList)
      · have hf := Lib.hid (deskEq_3 (x := x) (y := y) (eqDrl_at hlt (by simp only [drlEq, r1, r2]; rfl)))
        go_wp2_with (first | ((with_reducible refine wp_region_up (by kernel_rfl) (by kernel_rfl) ?_); (repeat (go_big_quiet_step (fail))); refine wpQuiet_nil ?_; intro _ hw'; obtain ⟨nq, hw''⟩ := hw'; subst hw''))
        go_ret
        exact ⟨ret_bool hf.out.symm, UpOf.of (HB.out.trans (Below.mono (by repeat (first | exact Below.refl _ _ | refine bl_tr ?_ _ | refine bl_al ?_ _ | refine bl_dr ?_ | refine bl_up ?_ _ | refine Below.drew ?_ | refine bl_alloc ?_ _ | refine Below.setCell ?_ (by first | (simp; done) | (simp; omega)) _)) HB.out.size))⟩
      cases r3 : ((drl x.drills k).minutes == (drl y.drills k).minutes)
      · have hf := Lib.hid (deskEq_3 (x := x) (y := y) (eqDrl_at hlt (by simp only [drlEq, r1, r2, r3]; rfl)))
        go_wp2_with (first | ((with_reducible refine wp_region_up (by kernel_rfl) (by kernel_rfl) ?_); (repeat (go_big_quiet_step (fail))); refine wpQuiet_nil ?_; intro _ hw'; obtain ⟨nq, hw''⟩ := hw'; subst hw''))
        go_ret
        exact ⟨ret_bool hf.out.symm, UpOf.of (HB.out.trans (Below.mono (by repeat (first | exact Below.refl _ _ | refine bl_tr ?_ _ | refine bl_al ?_ _ | refine bl_dr ?_ | refine bl_up ?_ _ | refine Below.drew ?_ | refine bl_alloc ?_ _ | refine Below.setCell ?_ (by first | (simp; done) | (simp; omega)) _)) HB.out.size))⟩
      have hq := Lib.hid (show drlEq (drl x.drills k) (drl y.drills k) = true by simp only [drlEq, r1, r2, r3]; rfl)
      go_wp2_with (first | ((with_reducible refine wp_region_up (by kernel_rfl) (by kernel_rfl) ?_); (repeat (go_big_quiet_step (fail))); refine wpQuiet_nil ?_; intro _ hw'; obtain ⟨nq, hw''⟩ := hw'; subst hw''))
      go_roundw
      case rel => have hx := lt_ext (P := fun j => drlEq (drl x.drills j) (drl y.drills j) = true) hok.out hq.out; exact ⟨k + 1, by omega, by go_num, hx, ex_up (by repeat (first | exact Below.refl _ _ | refine bl_tr ?_ _ | refine bl_al ?_ _ | refine bl_dr ?_ | refine bl_up ?_ _ | refine Below.drew ?_ | refine bl_alloc ?_ _ | refine Below.setCell ?_ (by first | (simp; done) | (simp; omega)) _))⟩
      case measure => (simp [intOf]; try omega)
    · have hf := Lib.hid (deskEq_0 HBE.out HB2.out (eqDrl_true hle.out (fun i hi => hok.out i (by omega))) HQ7.out)
      go_wp2_with (first | ((with_reducible refine wp_region_up (by kernel_rfl) (by kernel_rfl) ?_); (repeat (go_big_quiet_step (fail))); refine wpQuiet_nil ?_; intro _ hw'; obtain ⟨nq, hw''⟩ := hw'; subst hw''))
      go_ret
      exact ⟨ret_bool hf.out.symm, UpOf.of (HB.out.trans (Below.mono (by repeat (first | exact Below.refl _ _ | refine bl_tr ?_ _ | refine bl_al ?_ _ | refine bl_dr ?_ | refine bl_up ?_ _ | refine Below.drew ?_ | refine bl_alloc ?_ _ | refine Below.setCell ?_ (by first | (simp; done) | (simp; omega)) _)) HB.out.size))⟩
set_option maxRecDepth 10000 in
set_option maxHeartbeats 4000000 in
theorem sameDeskS_any (x y : DeskD) (A B A' B' : Option Addr) (c e c' e' : Nat) (w : World) (h : DSee w x A B) (h' : DSee w y A' B') (hn : x.stops.length ≤ 100000000) (hm : x.drills.length ≤ 100000000) (hn' : y.stops.length ≤ 100000000) (_hm' : y.drills.length ≤ 100000000) : Calls Try.prog 11 #[dkv x A B c e, dkv y A' B' c' e'] w fun e w' => e = .returned (.bool (deskEq x y)) ∧ UpOf w w' := by
  cases q6 : ((x.drills.length : Int) != (y.drills.length : Int))
  rotate_left
  · have hf := Lib.hid (deskEq_3 (eqDrl_len (show ¬ x.drills.length = y.drills.length by have h : ¬ (x.drills.length : Int) = y.drills.length := (by simpa using q6); omega)))
    go_enter Try.func11, Try.ntmps11
    go_wp2_with (first | ((with_reducible refine wp_region_up (by kernel_rfl) (by kernel_rfl) ?_); (repeat (go_big_quiet_step (fail))); refine wpQuiet_nil ?_; intro _ hw'; obtain ⟨nq, hw''⟩ := hw'; subst hw''))
    go_ret
    exact ⟨ret_bool hf.out.symm, UpOf.of (by repeat (first | exact Below.refl _ _ | refine bl_tr ?_ _ | refine bl_al ?_ _ | refine bl_dr ?_ | refine bl_up ?_ _ | refine Below.drew ?_ | refine bl_alloc ?_ _ | refine Below.setCell ?_ (by first | (simp; done) | (simp; omega)) _))⟩
  have hle := Lib.hid (show x.drills.length = y.drills.length by have h : (x.drills.length : Int) = y.drills.length := (by simpa using q6); omega)
  cases q1 : (x.b.bars == y.b.bars)
  · have hf := Lib.hid (deskEq_1 (x := x) (y := y) (by simp only [bEq, *]; simp))
    go_enter Try.func11, Try.ntmps11
    go_wp2_with (first | ((with_reducible refine wp_region_up (by kernel_rfl) (by kernel_rfl) ?_); (repeat (go_big_quiet_step (fail))); refine wpQuiet_nil ?_; intro _ hw'; obtain ⟨nq, hw''⟩ := hw'; subst hw''))
    go_ret
    exact ⟨ret_bool hf.out.symm, UpOf.of (by repeat (first | exact Below.refl _ _ | refine bl_tr ?_ _ | refine bl_al ?_ _ | refine bl_dr ?_ | refine bl_up ?_ _ | refine Below.drew ?_ | refine bl_alloc ?_ _ | refine Below.setCell ?_ (by first | (simp; done) | (simp; omega)) _))⟩
  cases q2 : (x.b.rise == y.b.rise)
  · have hf := Lib.hid (deskEq_1 (x := x) (y := y) (by simp only [bEq, *]; simp))
    go_enter Try.func11, Try.ntmps11
    go_wp2_with (first | ((with_reducible refine wp_region_up (by kernel_rfl) (by kernel_rfl) ?_); (repeat (go_big_quiet_step (fail))); refine wpQuiet_nil ?_; intro _ hw'; obtain ⟨nq, hw''⟩ := hw'; subst hw''))
    go_ret
    exact ⟨ret_bool hf.out.symm, UpOf.of (by repeat (first | exact Below.refl _ _ | refine bl_tr ?_ _ | refine bl_al ?_ _ | refine bl_dr ?_ | refine bl_up ?_ _ | refine Below.drew ?_ | refine bl_alloc ?_ _ | refine Below.setCell ?_ (by first | (simp; done) | (simp; omega)) _))⟩
  cases q3 : (x.b.fall == y.b.fall)
  · have hf := Lib.hid (deskEq_1 (x := x) (y := y) (by simp only [bEq, *]; simp))
    go_enter Try.func11, Try.ntmps11
    go_wp2_with (first | ((with_reducible refine wp_region_up (by kernel_rfl) (by kernel_rfl) ?_); (repeat (go_big_quiet_step (fail))); refine wpQuiet_nil ?_; intro _ hw'; obtain ⟨nq, hw''⟩ := hw'; subst hw''))
    go_ret
    exact ⟨ret_bool hf.out.symm, UpOf.of (by repeat (first | exact Below.refl _ _ | refine bl_tr ?_ _ | refine bl_al ?_ _ | refine bl_dr ?_ | refine bl_up ?_ _ | refine Below.drew ?_ | refine bl_alloc ?_ _ | refine Below.setCell ?_ (by first | (simp; done) | (simp; omega)) _))⟩
  cases q4 : (x.b.clr == y.b.clr)
  · have hf := Lib.hid (deskEq_1 (x := x) (y := y) (by simp only [bEq, *]; simp))
    go_enter Try.func11, Try.ntmps11
    go_wp2_with (first | ((with_reducible refine wp_region_up (by kernel_rfl) (by kernel_rfl) ?_); (repeat (go_big_quiet_step (fail))); refine wpQuiet_nil ?_; intro _ hw'; obtain ⟨nq, hw''⟩ := hw'; subst hw''))
    go_ret
    exact ⟨ret_bool hf.out.symm, UpOf.of (by repeat (first | exact Below.refl _ _ | refine bl_tr ?_ _ | refine bl_al ?_ _ | refine bl_dr ?_ | refine bl_up ?_ _ | refine Below.drew ?_ | refine bl_alloc ?_ _ | refine Below.setCell ?_ (by first | (simp; done) | (simp; omega)) _))⟩
  cases q5 : (x.b.near == y.b.near)
  · have hf := Lib.hid (deskEq_1 (x := x) (y := y) (by simp only [bEq, *]; simp))
    go_enter Try.func11, Try.ntmps11
    go_wp2_with (first | ((with_reducible refine wp_region_up (by kernel_rfl) (by kernel_rfl) ?_); (repeat (go_big_quiet_step (fail))); refine wpQuiet_nil ?_; intro _ hw'; obtain ⟨nq, hw''⟩ := hw'; subst hw''))
    go_ret
    exact ⟨ret_bool hf.out.symm, UpOf.of (by repeat (first | exact Below.refl _ _ | refine bl_tr ?_ _ | refine bl_al ?_ _ | refine bl_dr ?_ | refine bl_up ?_ _ | refine Below.drew ?_ | refine bl_alloc ?_ _ | refine Below.setCell ?_ (by first | (simp; done) | (simp; omega)) _))⟩
  have HBE := Lib.hid (show bEq x.b y.b = true by simp only [bEq, q1, q2, q3, q4, q5]; rfl)
  go_enter Try.func11, Try.ntmps11
  go_wp2_with fail
  clear q1 q2 q3 q4 q5
  obtain ⟨x0, y0, hs, hB⟩ := box2 w (dkcs x A B c e) (dkcs y A' B' c' e') 27 27
  have x5 := x0 5
  have x6 := x0 6
  have x7 := x0 7
  have y5 := y0 5
  have y6 := y0 6
  have y7 := y0 7
  have k1 : w.heap.size < w.heap.size + 2 := by omega
  have k2 : w.heap.size + 1 < w.heap.size + 2 := by omega
  rw [← hs] at k1 k2
  have h1 := h.below hB
  have h2 := h'.below hB
  have HB := Lib.hid hB
  clear x0 y0 hs hB h h'
  simp only [List.getElem?_toArray, List.getElem?_cons_succ, List.getElem?_cons_zero] at x5 x6 x7 y5 y6 y7
  revert x5 x6 x7 y5 y6 y7 k1 k2 h1 h2 HB
  generalize (w.alloc (.cells (dkcs x A B c e) 27)).alloc (.cells (dkcs y A' B' c' e') 27) = W
  intro k1 k2 h1 h2 HB x5 x6 x7 y5 y6 y7
  cases b2 : eqNums x.stops y.stops
  · have hf := Lib.hid (deskEq_2 b2)
    go_wp2_with (first | (go_at_call 24; refine (ret_as (l00Same_any _ _ _ _ _ _ _ (h1.1.below (by repeat (first | exact Below.refl _ _ | refine bl_tr ?_ _ | refine bl_al ?_ _ | refine bl_dr ?_ | refine bl_up ?_ _ | refine Below.drew ?_ | refine bl_alloc ?_ _ | refine Below.setCell ?_ (by first | (simp; done) | (simp; omega)) _))) (h2.1.below (by repeat (first | exact Below.refl _ _ | refine bl_tr ?_ _ | refine bl_al ?_ _ | refine bl_dr ?_ | refine bl_up ?_ _ | refine Below.drew ?_ | refine bl_alloc ?_ _ | refine Below.setCell ?_ (by first | (simp; done) | (simp; omega)) _))) hn hn') b2).mono ?_; rintro e w' ⟨rfl, g, rfl⟩) | ((with_reducible refine wp_region_up (by kernel_rfl) (by kernel_rfl) ?_); (repeat (go_big_quiet_step (first | (go_at_call 24; first | exact upq_tr (ret_as (l00Same_any _ _ _ _ _ _ _ (h1.1.below (by repeat (first | exact Below.refl _ _ | refine bl_tr ?_ _ | refine bl_al ?_ _ | refine bl_dr ?_ | refine bl_up ?_ _ | refine Below.drew ?_ | refine bl_alloc ?_ _ | refine Below.setCell ?_ (by first | (simp; done) | (simp; omega)) _))) (h2.1.below (by repeat (first | exact Below.refl _ _ | refine bl_tr ?_ _ | refine bl_al ?_ _ | refine bl_dr ?_ | refine bl_up ?_ _ | refine Below.drew ?_ | refine bl_alloc ?_ _ | refine Below.setCell ?_ (by first | (simp; done) | (simp; omega)) _))) hn hn') b2) | exact upq (ret_as (l00Same_any _ _ _ _ _ _ _ (h1.1.below (by repeat (first | exact Below.refl _ _ | refine bl_tr ?_ _ | refine bl_al ?_ _ | refine bl_dr ?_ | refine bl_up ?_ _ | refine Below.drew ?_ | refine bl_alloc ?_ _ | refine Below.setCell ?_ (by first | (simp; done) | (simp; omega)) _))) (h2.1.below (by repeat (first | exact Below.refl _ _ | refine bl_tr ?_ _ | refine bl_al ?_ _ | refine bl_dr ?_ | refine bl_up ?_ _ | refine Below.drew ?_ | refine bl_alloc ?_ _ | refine Below.setCell ?_ (by first | (simp; done) | (simp; omega)) _))) hn hn') b2))))); refine wpQuiet_nil ?_; intro _ hw'; obtain ⟨nq, hw''⟩ := hw'; subst hw''))
    go_ret
    exact ⟨ret_bool hf.out.symm, UpOf.of (HB.out.trans (Below.mono (by repeat (first | exact Below.refl _ _ | refine bl_tr ?_ _ | refine bl_al ?_ _ | refine bl_dr ?_ | refine bl_up ?_ _ | refine Below.drew ?_ | refine bl_alloc ?_ _ | refine Below.setCell ?_ (by first | (simp; done) | (simp; omega)) _)) HB.out.size))⟩
  cases q7 : (x.log.toList == y.log.toList)
  · have hf := Lib.hid (deskEq_4 q7)
    go_wp2_with (first | (go_at_call 24; refine (ret_as (l00Same_any _ _ _ _ _ _ _ (h1.1.below (by repeat (first | exact Below.refl _ _ | refine bl_tr ?_ _ | refine bl_al ?_ _ | refine bl_dr ?_ | refine bl_up ?_ _ | refine Below.drew ?_ | refine bl_alloc ?_ _ | refine Below.setCell ?_ (by first | (simp; done) | (simp; omega)) _))) (h2.1.below (by repeat (first | exact Below.refl _ _ | refine bl_tr ?_ _ | refine bl_al ?_ _ | refine bl_dr ?_ | refine bl_up ?_ _ | refine Below.drew ?_ | refine bl_alloc ?_ _ | refine Below.setCell ?_ (by first | (simp; done) | (simp; omega)) _))) hn hn') b2).mono ?_; rintro e w' ⟨rfl, g, rfl⟩) | ((with_reducible refine wp_region_up (by kernel_rfl) (by kernel_rfl) ?_); (repeat (go_big_quiet_step (first | (go_at_call 24; first | exact upq_tr (ret_as (l00Same_any _ _ _ _ _ _ _ (h1.1.below (by repeat (first | exact Below.refl _ _ | refine bl_tr ?_ _ | refine bl_al ?_ _ | refine bl_dr ?_ | refine bl_up ?_ _ | refine Below.drew ?_ | refine bl_alloc ?_ _ | refine Below.setCell ?_ (by first | (simp; done) | (simp; omega)) _))) (h2.1.below (by repeat (first | exact Below.refl _ _ | refine bl_tr ?_ _ | refine bl_al ?_ _ | refine bl_dr ?_ | refine bl_up ?_ _ | refine Below.drew ?_ | refine bl_alloc ?_ _ | refine Below.setCell ?_ (by first | (simp; done) | (simp; omega)) _))) hn hn') b2) | exact upq (ret_as (l00Same_any _ _ _ _ _ _ _ (h1.1.below (by repeat (first | exact Below.refl _ _ | refine bl_tr ?_ _ | refine bl_al ?_ _ | refine bl_dr ?_ | refine bl_up ?_ _ | refine Below.drew ?_ | refine bl_alloc ?_ _ | refine Below.setCell ?_ (by first | (simp; done) | (simp; omega)) _))) (h2.1.below (by repeat (first | exact Below.refl _ _ | refine bl_tr ?_ _ | refine bl_al ?_ _ | refine bl_dr ?_ | refine bl_up ?_ _ | refine Below.drew ?_ | refine bl_alloc ?_ _ | refine Below.setCell ?_ (by first | (simp; done) | (simp; omega)) _))) hn hn') b2))))); refine wpQuiet_nil ?_; intro _ hw'; obtain ⟨nq, hw''⟩ := hw'; subst hw''))
    go_ret
    exact ⟨ret_bool hf.out.symm, UpOf.of (HB.out.trans (Below.mono (by repeat (first | exact Below.refl _ _ | refine bl_tr ?_ _ | refine bl_al ?_ _ | refine bl_dr ?_ | refine bl_up ?_ _ | refine Below.drew ?_ | refine bl_alloc ?_ _ | refine Below.setCell ?_ (by first | (simp; done) | (simp; omega)) _)) HB.out.size))⟩
  have HB2 := Lib.hid b2
  have HQ7 := Lib.hid q7
  go_wp2_with (first | (go_at_call 24; refine (ret_as (l00Same_any _ _ _ _ _ _ _ (h1.1.below (by repeat (first | exact Below.refl _ _ | refine bl_tr ?_ _ | refine bl_al ?_ _ | refine bl_dr ?_ | refine bl_up ?_ _ | refine Below.drew ?_ | refine bl_alloc ?_ _ | refine Below.setCell ?_ (by first | (simp; done) | (simp; omega)) _))) (h2.1.below (by repeat (first | exact Below.refl _ _ | refine bl_tr ?_ _ | refine bl_al ?_ _ | refine bl_dr ?_ | refine bl_up ?_ _ | refine Below.drew ?_ | refine bl_alloc ?_ _ | refine Below.setCell ?_ (by first | (simp; done) | (simp; omega)) _))) hn hn') b2).mono ?_; rintro e w' ⟨rfl, g, rfl⟩) | ((with_reducible refine wp_region_up (by kernel_rfl) (by kernel_rfl) ?_); (repeat (go_big_quiet_step (first | (go_at_call 24; first | exact upq_tr (ret_as (l00Same_any _ _ _ _ _ _ _ (h1.1.below (by repeat (first | exact Below.refl _ _ | refine bl_tr ?_ _ | refine bl_al ?_ _ | refine bl_dr ?_ | refine bl_up ?_ _ | refine Below.drew ?_ | refine bl_alloc ?_ _ | refine Below.setCell ?_ (by first | (simp; done) | (simp; omega)) _))) (h2.1.below (by repeat (first | exact Below.refl _ _ | refine bl_tr ?_ _ | refine bl_al ?_ _ | refine bl_dr ?_ | refine bl_up ?_ _ | refine Below.drew ?_ | refine bl_alloc ?_ _ | refine Below.setCell ?_ (by first | (simp; done) | (simp; omega)) _))) hn hn') b2) | exact upq (ret_as (l00Same_any _ _ _ _ _ _ _ (h1.1.below (by repeat (first | exact Below.refl _ _ | refine bl_tr ?_ _ | refine bl_al ?_ _ | refine bl_dr ?_ | refine bl_up ?_ _ | refine Below.drew ?_ | refine bl_alloc ?_ _ | refine Below.setCell ?_ (by first | (simp; done) | (simp; omega)) _))) (h2.1.below (by repeat (first | exact Below.refl _ _ | refine bl_tr ?_ _ | refine bl_al ?_ _ | refine bl_dr ?_ | refine bl_up ?_ _ | refine Below.drew ?_ | refine bl_alloc ?_ _ | refine Below.setCell ?_ (by first | (simp; done) | (simp; omega)) _))) hn hn') b2))))); refine wpQuiet_nil ?_; intro _ hw'; obtain ⟨nq, hw''⟩ := hw'; subst hw''))
  clear b2 q6 q7
  go_loopw [5] (fun i wr => ∃ k : Nat, k ≤ x.drills.length ∧ i = i64 k ∧ Hid (∀ j, j < k → drlEq (drl x.drills j) (drl y.drills j) = true) ∧ ∃ g : Up W, wr = up W g) (fun i _ => x.drills.length - (intOf i).toNat)
  case atStart => exact ⟨0, by omega, rfl, fun i hi => by omega, ex_up (by repeat (first | exact Below.refl _ _ | refine bl_tr ?_ _ | refine bl_al ?_ _ | refine bl_dr ?_ | refine bl_up ?_ _ | refine Below.drew ?_ | refine bl_alloc ?_ _ | refine Below.setCell ?_ (by first | (simp; done) | (simp; omega)) _))⟩
  case round =>
    obtain ⟨k, hk, rfl, hok, g', rfl⟩ := hrel
    by_cases hlt : k < x.drills.length
    · have hlt2 : k < y.drills.length := by have := hle.out; omega
      obtain ⟨b1, o1, rfl, hb1, u0, u1, u2⟩ := drl_at h1.2 hlt
      obtain ⟨b2, o2, rfl, hb2, v0, v1, v2⟩ := drl_at h2.2 hlt2
      cases r1 : ((drl x.drills k).name.toList == (drl y.drills k).name.toList)
      · have hf := Lib.hid (deskEq_3 (x := x) (y := y) (eqDrl_at hlt (by simp only [drlEq, r1]; rfl)))
        go_wp2_with (first | ((with_reducible refine wp_region_up (by kernel_rfl) (by kernel_rfl) ?_); (repeat (go_big_quiet_step (fail))); refine wpQuiet_nil ?_; intro _ hw'; obtain ⟨nq, hw''⟩ := hw'; subst hw''))
        go_ret
        exact ⟨ret_bool hf.out.symm, UpOf.of (HB.out.trans (Below.mono (by repeat (first | exact Below.refl _ _ | refine bl_tr ?_ _ | refine bl_al ?_ _ | refine bl_dr ?_ | refine bl_up ?_ _ | refine Below.drew ?_ | refine bl_alloc ?_ _ | refine Below.setCell ?_ (by first | (simp; done) | (simp; omega)) _)) HB.out.size))⟩
      cases r2 : ((drl x.drills k).letters.toList == (drl y.drills k).letters.toList)
      · have hf := Lib.hid (deskEq_3 (x := x) (y := y) (eqDrl_at hlt (by simp only [drlEq, r1, r2]; rfl)))
        go_wp2_with (first | ((with_reducible refine wp_region_up (by kernel_rfl) (by kernel_rfl) ?_); (repeat (go_big_quiet_step (fail))); refine wpQuiet_nil ?_; intro _ hw'; obtain ⟨nq, hw''⟩ := hw'; subst hw''))
        go_ret
        exact ⟨ret_bool hf.out.symm, UpOf.of (HB.out.trans (Below.mono (by repeat (first | exact Below.refl _ _ | refine bl_tr ?_ _ | refine bl_al ?_ _ | refine bl_dr ?_ | refine bl_up ?_ _ | refine Below.drew ?_ | refine bl_alloc ?_ _ | refine Below.setCell ?_ (by first | (simp; done) | (simp; omega)) _)) HB.out.size))⟩
      cases r3 : ((drl x.drills k).minutes == (drl y.drills k).minutes)
      · have hf := Lib.hid (deskEq_3 (x := x) (y := y) (eqDrl_at hlt (by simp only [drlEq, r1, r2, r3]; rfl)))
        go_wp2_with (first | ((with_reducible refine wp_region_up (by kernel_rfl) (by kernel_rfl) ?_); (repeat (go_big_quiet_step (fail))); refine wpQuiet_nil ?_; intro _ hw'; obtain ⟨nq, hw''⟩ := hw'; subst hw''))
        go_ret
        exact ⟨ret_bool hf.out.symm, UpOf.of (HB.out.trans (Below.mono (by repeat (first | exact Below.refl _ _ | refine bl_tr ?_ _ | refine bl_al ?_ _ | refine bl_dr ?_ | refine bl_up ?_ _ | refine Below.drew ?_ | refine bl_alloc ?_ _ | refine Below.setCell ?_ (by first | (simp; done) | (simp; omega)) _)) HB.out.size))⟩
      have hq := Lib.hid (show drlEq (drl x.drills k) (drl y.drills k) = true by simp only [drlEq, r1, r2, r3]; rfl)
      go_wp2_with (first | ((with_reducible refine wp_region_up (by kernel_rfl) (by kernel_rfl) ?_); (repeat (go_big_quiet_step (fail))); refine wpQuiet_nil ?_; intro _ hw'; obtain ⟨nq, hw''⟩ := hw'; subst hw''))
      go_roundw
      case rel => have hx := lt_ext (P := fun j => drlEq (drl x.drills j) (drl y.drills j) = true) hok.out hq.out; exact ⟨k + 1, by omega, by go_num, hx, ex_up (by repeat (first | exact Below.refl _ _ | refine bl_tr ?_ _ | refine bl_al ?_ _ | refine bl_dr ?_ | refine bl_up ?_ _ | refine Below.drew ?_ | refine bl_alloc ?_ _ | refine Below.setCell ?_ (by first | (simp; done) | (simp; omega)) _))⟩
      case measure => (simp [intOf]; try omega)
    · have hf := Lib.hid (deskEq_0 HBE.out HB2.out (eqDrl_true hle.out (fun i hi => hok.out i (by omega))) HQ7.out)
      go_wp2_with (first | ((with_reducible refine wp_region_up (by kernel_rfl) (by kernel_rfl) ?_); (repeat (go_big_quiet_step (fail))); refine wpQuiet_nil ?_; intro _ hw'; obtain ⟨nq, hw''⟩ := hw'; subst hw''))
      go_ret
      exact ⟨ret_bool hf.out.symm, UpOf.of (HB.out.trans (Below.mono (by repeat (first | exact Below.refl _ _ | refine bl_tr ?_ _ | refine bl_al ?_ _ | refine bl_dr ?_ | refine bl_up ?_ _ | refine Below.drew ?_ | refine bl_alloc ?_ _ | refine Below.setCell ?_ (by first | (simp; done) | (simp; omega)) _)) HB.out.size))⟩
end Go.Proofs.Ytbianlkenallaaa

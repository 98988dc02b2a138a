/-
  Valid hires: the loops of the program and of the reference.
-/
import Derived.Test.YtiagckbdofeecaaHire1
import Derived.Test.YtiagckbdofeecaaHires
namespace Go.Proofs.Ytiagckbdofeecaa
open Go.RowKit
def hat (l : List Hire) (i : Nat) : Hire := l.getD i ⟨0, 0, 0⟩
theorem hat_eq {l : List Hire} {i : Nat} (h : i < l.length) : l[i] = hat l i := by simp [hat, h]
def okHead (l : List Hire) (n : Int) (i : Nat) : Bool := vHire (hat l i) && decide ((hat l i).m < n) && (decide (i = 0) || before (hat l (i - 1)) (hat l i))
def okAt (l : List Hire) (n : Int) (i : Nat) : Bool := okHead l n i && (List.range i).all (fun k => !meet (hat l k) (hat l i))
def vHires (l : List Hire) (n : Int) : Bool := btw n 1 20 && decide (l.length ≤ 60) && (List.range l.length).all (okAt l n)
theorem okAt_true {l : List Hire} {n : Int} {i : Nat} (h : okHead l n i = true) (hk : ∀ k, k < i → meet (hat l k) (hat l i) = false) : okAt l n i = true := by
  simp only [okAt, h, Bool.true_and, List.all_eq_true, List.mem_range]
  intro k hki
  simp [hk k hki]
theorem okAt_head {l : List Hire} {n : Int} {i : Nat} (h : okHead l n i = false) : okAt l n i = false := by simp [okAt, h]
theorem okAt_meet {l : List Hire} {n : Int} {i k : Nat} (hk : k < i) (h : meet (hat l k) (hat l i) = true) : okAt l n i = false := by
  simp only [okAt, Bool.and_eq_false_iff]
  refine .inr ?_
  rw [← Bool.not_eq_true]
  intro hc
  rw [List.all_eq_true] at hc
  have := hc k (List.mem_range.2 hk)
  simp [h] at this
theorem vHires_true {l : List Hire} {n : Int} (h1 : btw n 1 20 = true) (h2 : l.length ≤ 60) (h : ∀ i, i < l.length → okAt l n i = true) : vHires l n = true := by
  simp only [vHires, h1, Bool.true_and, Bool.and_eq_true, decide_eq_true_eq, List.all_eq_true, List.mem_range]
  exact ⟨h2, h⟩
theorem vHires_at {l : List Hire} {n : Int} {i : Nat} (hi : i < l.length) (h : okAt l n i = false) : vHires l n = false := by
  simp only [vHires, Bool.and_eq_false_iff]
  refine .inr ?_
  rw [← Bool.not_eq_true]
  intro hc
  rw [List.all_eq_true] at hc
  have := hc i (List.mem_range.2 hi)
  simp [h] at this
theorem vHires_n {l : List Hire} {n : Int} (h : btw n 1 20 = false) : vHires l n = false := by simp [vHires, h]
theorem vHires_len {l : List Hire} {n : Int} (h : 60 < l.length) : vHires l n = false := by simp [vHires]; omega
theorem hire_at' {w : World} {A : Option Addr} {l : List Hire} (h : Rds w 3 A l.length (hcs l)) {k : Nat} (hk : k < l.length) :
    ∃ b off, A = some ⟨b, off, none⟩ ∧ b < w.heap.size ∧ ∀ i, i < l.length → At w b (off + i * 3) (hat l i) := by
  obtain ⟨b, off, rfl, hb, _⟩ := hire_at h hk
  refine ⟨b, off, rfl, hb, fun i hi => ?_⟩
  obtain ⟨b', off', e, _, c0, c1, c2⟩ := hire_at h hi
  injection e with e
  injection e with e1 e2
  subst e1 e2
  rw [hat_eq hi] at c0 c1 c2
  exact ⟨hb, c0, c1, c2⟩

theorem ext_lt {P : Nat → Prop} {j : Nat} (h : ∀ i, i < j → P i) (hj : P j) : ∀ i, i < j + 1 → P i := fun i hi => by
  rcases Nat.lt_succ_iff_lt_or_eq.1 hi with h' | h'
  · exact h i h'
  · rw [h']; exact hj
theorem meet_of {x y : Hire} (h1 : (x.m == y.m) = true) (h2 : ovl x y.f y.t = true) : meet y x = true := by
  simp [ovl] at h2
  simp at h1
  simp [meet]
  omega
theorem meet_no1 {x y : Hire} (h1 : (x.m == y.m) = false) : meet y x = false := by
  simp at h1
  simp [meet]
  intro h
  exact absurd h.symm h1
theorem meet_no2 {x y : Hire} (h2 : ovl x y.f y.t = false) : meet y x = false := by
  simp [ovl] at h2
  simp [meet]
  omega
set_option maxRecDepth 10000 in
set_option maxHeartbeats 1000000 in
theorem validHires_any (A : Option Addr) (c : Nat) (l : List Hire) (n : Int) (w : World) (h : Rds w 3 A l.length (hcs l)) (hn : l.length ≤ 100000000) (hcap : l.length ≤ c) :
    Calls Try.prog 16 #[.slice A l.length c, i64 n] w fun e w' => e = .returned (.bool (vHires l n)) ∧ UpOf w w' := by
  by_cases h1 : btw n 1 20 = true
  · by_cases h2 : l.length ≤ 60
    · go_enter Try.func16, Try.ntmps16
      go_wp2_with (first | (go_at_call 50; refine (between_any _ _ _ _).mono ?_; rintro e w' ⟨rfl, rfl⟩) | ((with_reducible refine wp_region_up (by kernel_rfl) (by kernel_rfl) ?_); (repeat (go_big_quiet_step (first | (go_at_call 50; first | exact upq_tr_same (between_any _ _ _ _) | exact upq_same (between_any _ _ _ _))))); refine wpQuiet_nil ?_; intro _ hw'; obtain ⟨nq, hw''⟩ := hw'; subst hw''))
      go_loopw [19] (fun i wr => ∃ k : Nat, k ≤ l.length ∧ i = i64 k ∧ Hid (∀ i, i < k → okAt l n i = true) ∧ ∃ g : Up w, wr = up w g) (fun i _ => l.length - (intOf i).toNat)
      case atStart => exact ⟨0, by omega, rfl, fun i hi => by omega, ⟨w, Below.refl _ _⟩, rfl⟩
      case round =>
        obtain ⟨k, hk, rfl, hok, g, rfl⟩ := hrel
        by_cases hlt : k < l.length
        · obtain ⟨b, off, rfl, hb, ha⟩ := hire_at' h hlt
          obtain ⟨_, c0, c1, c2⟩ := ha k hlt
          by_cases g1 : vHire (hat l k) = true
          · by_cases g2 : (hat l k).m < n
            · have g2' : decide (n ≤ (hat l k).m) = false := by simp; omega
              by_cases g3 : k = 0
              · have hh := Lib.hid (show okHead l n k = true by rw [okHead, g1, decide_eq_true g2, decide_eq_true g3]; rfl)
                have hk0 : decide (0 < k) = false := by simp; omega
                clear g3
                go_wp2_with (first | (go_at_call 51; refine (validHire_any _ _).mono ?_; rintro e w' ⟨rfl, g, rfl⟩) | (go_at_call 52; refine (before_any _ _ _).mono ?_; rintro e w' ⟨rfl, g, rfl⟩) | (go_at_call 53; refine (overlaps_any _ _ _ _).mono ?_; rintro e w' ⟨rfl, g, rfl⟩) | ((with_reducible refine wp_region_up (by kernel_rfl) (by kernel_rfl) ?_); (repeat (go_big_quiet_step (first | (go_at_call 51; first | exact upq_tr (validHire_any _ _) | exact upq (validHire_any _ _)) | (go_at_call 52; first | exact upq_tr (before_any _ _ _) | exact upq (before_any _ _ _)) | (go_at_call 53; first | exact upq_tr (overlaps_any _ _ _ _) | exact upq (overlaps_any _ _ _ _))))); refine wpQuiet_nil ?_; intro _ hw'; obtain ⟨nq, hw''⟩ := hw'; subst hw''))
                clear g1 g2'
                go_loopw [51] (fun i wr => ∃ j : Nat, j ≤ k ∧ i = i64 j ∧ Hid (∀ i, i < j → meet (hat l i) (hat l k) = false) ∧ ∃ g' : Up (up w (g.al (.cells #[i64 (hat l k).m, i64 (hat l k).f, i64 (hat l k).t] 47))), wr = up w ((g.al (.cells #[i64 (hat l k).m, i64 (hat l k).f, i64 (hat l k).t] 47)).tr g')) (fun i _ => k - (intOf i).toNat)
                case atStart => exact ⟨0, by omega, rfl, fun i hi => by omega, _, rfl⟩
                case round =>
                  obtain ⟨j, hj, rfl, hme, g', rfl⟩ := hrel
                  by_cases hjk : j < k
                  · obtain ⟨_, d0, d1, d2⟩ := ha j (by omega)
                    by_cases q1 : (hat l k).m = (hat l j).m
                    · have q1' : ((hat l k).m == (hat l j).m) = true := by simpa using q1
                      clear q1
                      by_cases q2 : ovl (hat l k) (hat l j).f (hat l j).t = true
                      · have hf := Lib.hid (vHires_at (n := n) hlt (okAt_meet (n := n) hjk (meet_of q1' q2)))
                        go_wp2_with (first | (go_at_call 51; refine (validHire_any _ _).mono ?_; rintro e w' ⟨rfl, g, rfl⟩) | (go_at_call 52; refine (before_any _ _ _).mono ?_; rintro e w' ⟨rfl, g, rfl⟩) | (go_at_call 53; refine (overlaps_any _ _ _ _).mono ?_; rintro e w' ⟨rfl, g, rfl⟩) | ((with_reducible refine wp_region_up (by kernel_rfl) (by kernel_rfl) ?_); (repeat (go_big_quiet_step (first | (go_at_call 51; first | exact upq_tr (validHire_any _ _) | exact upq (validHire_any _ _)) | (go_at_call 52; first | exact upq_tr (before_any _ _ _) | exact upq (before_any _ _ _)) | (go_at_call 53; first | exact upq_tr (overlaps_any _ _ _ _) | exact upq (overlaps_any _ _ _ _))))); refine wpQuiet_nil ?_; intro _ hw'; obtain ⟨nq, hw''⟩ := hw'; subst hw''))
                        go_ret
                        exact ⟨ret_bool hf.out.symm, UpOf.of (by repeat (first | exact Below.refl _ _ | refine bl_tr ?_ _ | refine bl_al ?_ _ | refine bl_dr ?_ | refine bl_up ?_ _ | refine Below.drew ?_ | refine bl_alloc ?_ _ | refine Below.setCell ?_ (by first | (simp; done) | (simp; omega)) _))⟩
                      · have q2' : ovl (hat l k) (hat l j).f (hat l j).t = false := by simpa using q2
                        have hm' := Lib.hid (meet_no2 (y := hat l j) (x := hat l k) q2')
                        clear q2
                        go_wp2_with (first | (go_at_call 51; refine (validHire_any _ _).mono ?_; rintro e w' ⟨rfl, g, rfl⟩) | (go_at_call 52; refine (before_any _ _ _).mono ?_; rintro e w' ⟨rfl, g, rfl⟩) | (go_at_call 53; refine (overlaps_any _ _ _ _).mono ?_; rintro e w' ⟨rfl, g, rfl⟩) | ((with_reducible refine wp_region_up (by kernel_rfl) (by kernel_rfl) ?_); (repeat (go_big_quiet_step (first | (go_at_call 51; first | exact upq_tr (validHire_any _ _) | exact upq (validHire_any _ _)) | (go_at_call 52; first | exact upq_tr (before_any _ _ _) | exact upq (before_any _ _ _)) | (go_at_call 53; first | exact upq_tr (overlaps_any _ _ _ _) | exact upq (overlaps_any _ _ _ _))))); refine wpQuiet_nil ?_; intro _ hw'; obtain ⟨nq, hw''⟩ := hw'; subst hw''))
                        go_roundw
                        case rel => have hx := ext_lt (P := fun i => meet (hat l i) (hat l k) = false) hme.out hm'.out; exact ⟨j + 1, by omega, by go_num, hx, ex_tr (by repeat (first | exact Below.refl _ _ | refine bl_tr ?_ _ | refine bl_al ?_ _ | refine bl_dr ?_ | refine bl_up ?_ _ | refine Below.drew ?_ | refine bl_alloc ?_ _ | refine Below.setCell ?_ (by first | (simp; done) | (simp; omega)) _))⟩
                        case measure => (simp [intOf]; try omega)
                    · have q1' : ((hat l k).m == (hat l j).m) = false := by simpa using q1
                      have hm' := Lib.hid (meet_no1 (y := hat l j) (x := hat l k) q1')
                      clear q1
                      go_wp2_with (first | (go_at_call 51; refine (validHire_any _ _).mono ?_; rintro e w' ⟨rfl, g, rfl⟩) | (go_at_call 52; refine (before_any _ _ _).mono ?_; rintro e w' ⟨rfl, g, rfl⟩) | (go_at_call 53; refine (overlaps_any _ _ _ _).mono ?_; rintro e w' ⟨rfl, g, rfl⟩) | ((with_reducible refine wp_region_up (by kernel_rfl) (by kernel_rfl) ?_); (repeat (go_big_quiet_step (first | (go_at_call 51; first | exact upq_tr (validHire_any _ _) | exact upq (validHire_any _ _)) | (go_at_call 52; first | exact upq_tr (before_any _ _ _) | exact upq (before_any _ _ _)) | (go_at_call 53; first | exact upq_tr (overlaps_any _ _ _ _) | exact upq (overlaps_any _ _ _ _))))); refine wpQuiet_nil ?_; intro _ hw'; obtain ⟨nq, hw''⟩ := hw'; subst hw''))
                      go_roundw
                      case rel => have hx := ext_lt (P := fun i => meet (hat l i) (hat l k) = false) hme.out hm'.out; exact ⟨j + 1, by omega, by go_num, hx, ex_tr (by repeat (first | exact Below.refl _ _ | refine bl_tr ?_ _ | refine bl_al ?_ _ | refine bl_dr ?_ | refine bl_up ?_ _ | refine Below.drew ?_ | refine bl_alloc ?_ _ | refine Below.setCell ?_ (by first | (simp; done) | (simp; omega)) _))⟩
                      case measure => (simp [intOf]; try omega)
                  · obtain rfl : j = k := by omega
                    have hnew := Lib.hid (okAt_true hh.out hme.out)
                    go_wp2_with (first | (go_at_call 51; refine (validHire_any _ _).mono ?_; rintro e w' ⟨rfl, g, rfl⟩) | (go_at_call 52; refine (before_any _ _ _).mono ?_; rintro e w' ⟨rfl, g, rfl⟩) | (go_at_call 53; refine (overlaps_any _ _ _ _).mono ?_; rintro e w' ⟨rfl, g, rfl⟩) | ((with_reducible refine wp_region_up (by kernel_rfl) (by kernel_rfl) ?_); (repeat (go_big_quiet_step (first | (go_at_call 51; first | exact upq_tr (validHire_any _ _) | exact upq (validHire_any _ _)) | (go_at_call 52; first | exact upq_tr (before_any _ _ _) | exact upq (before_any _ _ _)) | (go_at_call 53; first | exact upq_tr (overlaps_any _ _ _ _) | exact upq (overlaps_any _ _ _ _))))); refine wpQuiet_nil ?_; intro _ hw'; obtain ⟨nq, hw''⟩ := hw'; subst hw''))
                    go_roundw
                    case rel => have hx := ext_lt (P := fun i => okAt l n i = true) hok.out hnew.out; exact ⟨j + 1, by omega, by go_num, hx, ex_up (by repeat (first | exact Below.refl _ _ | refine bl_tr ?_ _ | refine bl_al ?_ _ | refine bl_dr ?_ | refine bl_up ?_ _ | refine Below.drew ?_ | refine bl_alloc ?_ _ | refine Below.setCell ?_ (by first | (simp; done) | (simp; omega)) _))⟩
                    case measure => (simp [intOf]; try omega)
              · obtain ⟨_, p0, p1, p2⟩ := ha (k - 1) (by omega)
                have hk0 : decide (0 < k) = true := by simp; omega
                have hk1 : (1 : Int) ≤ (k : Int) := by omega
                by_cases g4 : before (hat l (k - 1)) (hat l k) = true
                · have hh := Lib.hid (show okHead l n k = true by rw [okHead, g1, decide_eq_true g2, g4]; simp)
                  go_wp2_with (first | (go_at_call 51; refine (validHire_any _ _).mono ?_; rintro e w' ⟨rfl, g, rfl⟩) | (go_at_call 52; refine (before_any _ _ _).mono ?_; rintro e w' ⟨rfl, g, rfl⟩) | (go_at_call 53; refine (overlaps_any _ _ _ _).mono ?_; rintro e w' ⟨rfl, g, rfl⟩) | ((with_reducible refine wp_region_up (by kernel_rfl) (by kernel_rfl) ?_); (repeat (go_big_quiet_step (first | (go_at_call 51; first | exact upq_tr (validHire_any _ _) | exact upq (validHire_any _ _)) | (go_at_call 52; first | exact upq_tr (before_any _ _ _) | exact upq (before_any _ _ _)) | (go_at_call 53; first | exact upq_tr (overlaps_any _ _ _ _) | exact upq (overlaps_any _ _ _ _))))); refine wpQuiet_nil ?_; intro _ hw'; obtain ⟨nq, hw''⟩ := hw'; subst hw''))
                  clear g1 g4 g2'
                  go_loopw [51] (fun i wr => ∃ j : Nat, j ≤ k ∧ i = i64 j ∧ Hid (∀ i, i < j → meet (hat l i) (hat l k) = false) ∧ ∃ g' : Up (up w (g.al (.cells #[i64 (hat l k).m, i64 (hat l k).f, i64 (hat l k).t] 47))), wr = up w ((g.al (.cells #[i64 (hat l k).m, i64 (hat l k).f, i64 (hat l k).t] 47)).tr g')) (fun i _ => k - (intOf i).toNat)
                  case atStart => exact ⟨0, by omega, rfl, fun i hi => by omega, _, rfl⟩
                  case round =>
                    obtain ⟨j, hj, rfl, hme, g', rfl⟩ := hrel
                    by_cases hjk : j < k
                    · obtain ⟨_, d0, d1, d2⟩ := ha j (by omega)
                      by_cases q1 : (hat l k).m = (hat l j).m
                      · have q1' : ((hat l k).m == (hat l j).m) = true := by simpa using q1
                        clear q1
                        by_cases q2 : ovl (hat l k) (hat l j).f (hat l j).t = true
                        · have hf := Lib.hid (vHires_at (n := n) hlt (okAt_meet (n := n) hjk (meet_of q1' q2)))
                          go_wp2_with (first | (go_at_call 51; refine (validHire_any _ _).mono ?_; rintro e w' ⟨rfl, g, rfl⟩) | (go_at_call 52; refine (before_any _ _ _).mono ?_; rintro e w' ⟨rfl, g, rfl⟩) | (go_at_call 53; refine (overlaps_any _ _ _ _).mono ?_; rintro e w' ⟨rfl, g, rfl⟩) | ((with_reducible refine wp_region_up (by kernel_rfl) (by kernel_rfl) ?_); (repeat (go_big_quiet_step (first | (go_at_call 51; first | exact upq_tr (validHire_any _ _) | exact upq (validHire_any _ _)) | (go_at_call 52; first | exact upq_tr (before_any _ _ _) | exact upq (before_any _ _ _)) | (go_at_call 53; first | exact upq_tr (overlaps_any _ _ _ _) | exact upq (overlaps_any _ _ _ _))))); refine wpQuiet_nil ?_; intro _ hw'; obtain ⟨nq, hw''⟩ := hw'; subst hw''))
                          go_ret
                          exact ⟨ret_bool hf.out.symm, UpOf.of (by repeat (first | exact Below.refl _ _ | refine bl_tr ?_ _ | refine bl_al ?_ _ | refine bl_dr ?_ | refine bl_up ?_ _ | refine Below.drew ?_ | refine bl_alloc ?_ _ | refine Below.setCell ?_ (by first | (simp; done) | (simp; omega)) _))⟩
                        · have q2' : ovl (hat l k) (hat l j).f (hat l j).t = false := by simpa using q2
                          have hm' := Lib.hid (meet_no2 (y := hat l j) (x := hat l k) q2')
                          clear q2
                          go_wp2_with (first | (go_at_call 51; refine (validHire_any _ _).mono ?_; rintro e w' ⟨rfl, g, rfl⟩) | (go_at_call 52; refine (before_any _ _ _).mono ?_; rintro e w' ⟨rfl, g, rfl⟩) | (go_at_call 53; refine (overlaps_any _ _ _ _).mono ?_; rintro e w' ⟨rfl, g, rfl⟩) | ((with_reducible refine wp_region_up (by kernel_rfl) (by kernel_rfl) ?_); (repeat (go_big_quiet_step (first | (go_at_call 51; first | exact upq_tr (validHire_any _ _) | exact upq (validHire_any _ _)) | (go_at_call 52; first | exact upq_tr (before_any _ _ _) | exact upq (before_any _ _ _)) | (go_at_call 53; first | exact upq_tr (overlaps_any _ _ _ _) | exact upq (overlaps_any _ _ _ _))))); refine wpQuiet_nil ?_; intro _ hw'; obtain ⟨nq, hw''⟩ := hw'; subst hw''))
                          go_roundw
                          case rel => have hx := ext_lt (P := fun i => meet (hat l i) (hat l k) = false) hme.out hm'.out; exact ⟨j + 1, by omega, by go_num, hx, ex_tr (by repeat (first | exact Below.refl _ _ | refine bl_tr ?_ _ | refine bl_al ?_ _ | refine bl_dr ?_ | refine bl_up ?_ _ | refine Below.drew ?_ | refine bl_alloc ?_ _ | refine Below.setCell ?_ (by first | (simp; done) | (simp; omega)) _))⟩
                          case measure => (simp [intOf]; try omega)
                      · have q1' : ((hat l k).m == (hat l j).m) = false := by simpa using q1
                        have hm' := Lib.hid (meet_no1 (y := hat l j) (x := hat l k) q1')
                        clear q1
                        go_wp2_with (first | (go_at_call 51; refine (validHire_any _ _).mono ?_; rintro e w' ⟨rfl, g, rfl⟩) | (go_at_call 52; refine (before_any _ _ _).mono ?_; rintro e w' ⟨rfl, g, rfl⟩) | (go_at_call 53; refine (overlaps_any _ _ _ _).mono ?_; rintro e w' ⟨rfl, g, rfl⟩) | ((with_reducible refine wp_region_up (by kernel_rfl) (by kernel_rfl) ?_); (repeat (go_big_quiet_step (first | (go_at_call 51; first | exact upq_tr (validHire_any _ _) | exact upq (validHire_any _ _)) | (go_at_call 52; first | exact upq_tr (before_any _ _ _) | exact upq (before_any _ _ _)) | (go_at_call 53; first | exact upq_tr (overlaps_any _ _ _ _) | exact upq (overlaps_any _ _ _ _))))); refine wpQuiet_nil ?_; intro _ hw'; obtain ⟨nq, hw''⟩ := hw'; subst hw''))
                        go_roundw
                        case rel => have hx := ext_lt (P := fun i => meet (hat l i) (hat l k) = false) hme.out hm'.out; exact ⟨j + 1, by omega, by go_num, hx, ex_tr (by repeat (first | exact Below.refl _ _ | refine bl_tr ?_ _ | refine bl_al ?_ _ | refine bl_dr ?_ | refine bl_up ?_ _ | refine Below.drew ?_ | refine bl_alloc ?_ _ | refine Below.setCell ?_ (by first | (simp; done) | (simp; omega)) _))⟩
                        case measure => (simp [intOf]; try omega)
                    · obtain rfl : j = k := by omega
                      have hnew := Lib.hid (okAt_true hh.out hme.out)
                      go_wp2_with (first | (go_at_call 51; refine (validHire_any _ _).mono ?_; rintro e w' ⟨rfl, g, rfl⟩) | (go_at_call 52; refine (before_any _ _ _).mono ?_; rintro e w' ⟨rfl, g, rfl⟩) | (go_at_call 53; refine (overlaps_any _ _ _ _).mono ?_; rintro e w' ⟨rfl, g, rfl⟩) | ((with_reducible refine wp_region_up (by kernel_rfl) (by kernel_rfl) ?_); (repeat (go_big_quiet_step (first | (go_at_call 51; first | exact upq_tr (validHire_any _ _) | exact upq (validHire_any _ _)) | (go_at_call 52; first | exact upq_tr (before_any _ _ _) | exact upq (before_any _ _ _)) | (go_at_call 53; first | exact upq_tr (overlaps_any _ _ _ _) | exact upq (overlaps_any _ _ _ _))))); refine wpQuiet_nil ?_; intro _ hw'; obtain ⟨nq, hw''⟩ := hw'; subst hw''))
                      go_roundw
                      case rel => have hx := ext_lt (P := fun i => okAt l n i = true) hok.out hnew.out; exact ⟨j + 1, by omega, by go_num, hx, ex_up (by repeat (first | exact Below.refl _ _ | refine bl_tr ?_ _ | refine bl_al ?_ _ | refine bl_dr ?_ | refine bl_up ?_ _ | refine Below.drew ?_ | refine bl_alloc ?_ _ | refine Below.setCell ?_ (by first | (simp; done) | (simp; omega)) _))⟩
                      case measure => (simp [intOf]; try omega)
                · have g4' : before (hat l (k - 1)) (hat l k) = false := by simpa using g4
                  have hf := Lib.hid (vHires_at (n := n) hlt (okAt_head (by simp [okHead, g4', g3])))
                  clear g4
                  go_wp2_with (first | (go_at_call 51; refine (validHire_any _ _).mono ?_; rintro e w' ⟨rfl, g, rfl⟩) | (go_at_call 52; refine (before_any _ _ _).mono ?_; rintro e w' ⟨rfl, g, rfl⟩) | (go_at_call 53; refine (overlaps_any _ _ _ _).mono ?_; rintro e w' ⟨rfl, g, rfl⟩) | ((with_reducible refine wp_region_up (by kernel_rfl) (by kernel_rfl) ?_); (repeat (go_big_quiet_step (first | (go_at_call 51; first | exact upq_tr (validHire_any _ _) | exact upq (validHire_any _ _)) | (go_at_call 52; first | exact upq_tr (before_any _ _ _) | exact upq (before_any _ _ _)) | (go_at_call 53; first | exact upq_tr (overlaps_any _ _ _ _) | exact upq (overlaps_any _ _ _ _))))); refine wpQuiet_nil ?_; intro _ hw'; obtain ⟨nq, hw''⟩ := hw'; subst hw''))
                  go_ret
                  exact ⟨ret_bool hf.out.symm, UpOf.of (by repeat (first | exact Below.refl _ _ | refine bl_tr ?_ _ | refine bl_al ?_ _ | refine bl_dr ?_ | refine bl_up ?_ _ | refine Below.drew ?_ | refine bl_alloc ?_ _ | refine Below.setCell ?_ (by first | (simp; done) | (simp; omega)) _))⟩
            · have g2' : decide (n ≤ (hat l k).m) = true := by simp; omega
              have hf := Lib.hid (vHires_at (n := n) hlt (okAt_head (by simp [okHead, g2])))
              go_wp2_with (first | (go_at_call 51; refine (validHire_any _ _).mono ?_; rintro e w' ⟨rfl, g, rfl⟩) | (go_at_call 52; refine (before_any _ _ _).mono ?_; rintro e w' ⟨rfl, g, rfl⟩) | (go_at_call 53; refine (overlaps_any _ _ _ _).mono ?_; rintro e w' ⟨rfl, g, rfl⟩) | ((with_reducible refine wp_region_up (by kernel_rfl) (by kernel_rfl) ?_); (repeat (go_big_quiet_step (first | (go_at_call 51; first | exact upq_tr (validHire_any _ _) | exact upq (validHire_any _ _)) | (go_at_call 52; first | exact upq_tr (before_any _ _ _) | exact upq (before_any _ _ _)) | (go_at_call 53; first | exact upq_tr (overlaps_any _ _ _ _) | exact upq (overlaps_any _ _ _ _))))); refine wpQuiet_nil ?_; intro _ hw'; obtain ⟨nq, hw''⟩ := hw'; subst hw''))
              go_ret
              exact ⟨ret_bool hf.out.symm, UpOf.of (by repeat (first | exact Below.refl _ _ | refine bl_tr ?_ _ | refine bl_al ?_ _ | refine bl_dr ?_ | refine bl_up ?_ _ | refine Below.drew ?_ | refine bl_alloc ?_ _ | refine Below.setCell ?_ (by first | (simp; done) | (simp; omega)) _))⟩
          · have g1' : vHire (hat l k) = false := by simpa using g1
            have hf := Lib.hid (vHires_at (n := n) hlt (okAt_head (by simp [okHead, g1'])))
            clear g1
            go_wp2_with (first | (go_at_call 51; refine (validHire_any _ _).mono ?_; rintro e w' ⟨rfl, g, rfl⟩) | (go_at_call 52; refine (before_any _ _ _).mono ?_; rintro e w' ⟨rfl, g, rfl⟩) | (go_at_call 53; refine (overlaps_any _ _ _ _).mono ?_; rintro e w' ⟨rfl, g, rfl⟩) | ((with_reducible refine wp_region_up (by kernel_rfl) (by kernel_rfl) ?_); (repeat (go_big_quiet_step (first | (go_at_call 51; first | exact upq_tr (validHire_any _ _) | exact upq (validHire_any _ _)) | (go_at_call 52; first | exact upq_tr (before_any _ _ _) | exact upq (before_any _ _ _)) | (go_at_call 53; first | exact upq_tr (overlaps_any _ _ _ _) | exact upq (overlaps_any _ _ _ _))))); refine wpQuiet_nil ?_; intro _ hw'; obtain ⟨nq, hw''⟩ := hw'; subst hw''))
            go_ret
            exact ⟨ret_bool hf.out.symm, UpOf.of (by repeat (first | exact Below.refl _ _ | refine bl_tr ?_ _ | refine bl_al ?_ _ | refine bl_dr ?_ | refine bl_up ?_ _ | refine Below.drew ?_ | refine bl_alloc ?_ _ | refine Below.setCell ?_ (by first | (simp; done) | (simp; omega)) _))⟩
        · obtain rfl : k = l.length := by omega
          have hf := Lib.hid (vHires_true h1 h2 hok.out)
          go_wp2_with (first | (go_at_call 51; refine (validHire_any _ _).mono ?_; rintro e w' ⟨rfl, g, rfl⟩) | (go_at_call 52; refine (before_any _ _ _).mono ?_; rintro e w' ⟨rfl, g, rfl⟩) | (go_at_call 53; refine (overlaps_any _ _ _ _).mono ?_; rintro e w' ⟨rfl, g, rfl⟩) | ((with_reducible refine wp_region_up (by kernel_rfl) (by kernel_rfl) ?_); (repeat (go_big_quiet_step (first | (go_at_call 51; first | exact upq_tr (validHire_any _ _) | exact upq (validHire_any _ _)) | (go_at_call 52; first | exact upq_tr (before_any _ _ _) | exact upq (before_any _ _ _)) | (go_at_call 53; first | exact upq_tr (overlaps_any _ _ _ _) | exact upq (overlaps_any _ _ _ _))))); refine wpQuiet_nil ?_; intro _ hw'; obtain ⟨nq, hw''⟩ := hw'; subst hw''))
          go_ret
          exact ⟨ret_bool hf.out.symm, UpOf.of (by repeat (first | exact Below.refl _ _ | refine bl_tr ?_ _ | refine bl_al ?_ _ | refine bl_dr ?_ | refine bl_up ?_ _ | refine Below.drew ?_ | refine bl_alloc ?_ _ | refine Below.setCell ?_ (by first | (simp; done) | (simp; omega)) _))⟩
    · have h2' : ¬ ((l.length : Int) ≤ 60) := by omega
      go_enter Try.func16, Try.ntmps16
      go_wp2_with (first | (go_at_call 50; refine (between_any _ _ _ _).mono ?_; rintro e w' ⟨rfl, rfl⟩) | ((with_reducible refine wp_region_up (by kernel_rfl) (by kernel_rfl) ?_); (repeat (go_big_quiet_step (first | (go_at_call 50; first | exact upq_tr_same (between_any _ _ _ _) | exact upq_same (between_any _ _ _ _))))); refine wpQuiet_nil ?_; intro _ hw'; obtain ⟨nq, hw''⟩ := hw'; subst hw''))
      go_ret
      exact ⟨ret_bool (vHires_len (by omega)).symm, UpOf.of (by repeat (first | exact Below.refl _ _ | refine bl_tr ?_ _ | refine bl_al ?_ _ | refine bl_dr ?_ | refine bl_up ?_ _ | refine Below.drew ?_ | refine bl_alloc ?_ _ | refine Below.setCell ?_ (by first | (simp; done) | (simp; omega)) _))⟩
  · have h1' : btw n 1 20 = false := by simpa using h1
    clear h1
    go_enter Try.func16, Try.ntmps16
    go_wp2_with (first | (go_at_call 50; refine (between_any _ _ _ _).mono ?_; rintro e w' ⟨rfl, rfl⟩) | ((with_reducible refine wp_region_up (by kernel_rfl) (by kernel_rfl) ?_); (repeat (go_big_quiet_step (first | (go_at_call 50; first | exact upq_tr_same (between_any _ _ _ _) | exact upq_same (between_any _ _ _ _))))); refine wpQuiet_nil ?_; intro _ hw'; obtain ⟨nq, hw''⟩ := hw'; subst hw''))
    go_ret
    exact ⟨ret_bool (vHires_n h1').symm, UpOf.of (by repeat (first | exact Below.refl _ _ | refine bl_tr ?_ _ | refine bl_al ?_ _ | refine bl_dr ?_ | refine bl_up ?_ _ | refine Below.drew ?_ | refine bl_alloc ?_ _ | refine Below.setCell ?_ (by first | (simp; done) | (simp; omega)) _))⟩
set_option maxRecDepth 10000 in
set_option maxHeartbeats 1000000 in
theorem l25Ok_any (A : Option Addr) (c : Nat) (l : List Hire) (n : Int) (w : World) (h : Rds w 3 A l.length (hcs l)) (hn : l.length ≤ 100000000) :
    Calls Try.prog 49 #[.slice A l.length c, i64 n] w fun e w' => e = .returned (.bool (vHires l n)) ∧ UpOf w w' := by
  go_enter Try.func49, Try.ntmps49
  go_wp2_with (first | ((with_reducible refine wp_region_up (by kernel_rfl) (by kernel_rfl) ?_); (repeat (go_big_quiet_step (fail))); refine wpQuiet_nil ?_; intro _ hw'; obtain ⟨nq, hw''⟩ := hw'; subst hw''))
  go_loopw [5] (fun i wr => ∃ k : Nat, k ≤ l.length ∧ i = i64 k ∧ Hid (∀ i, i < k → okAt l n i = true) ∧ ∃ g : Up w, wr = up w g) (fun i _ => l.length - (intOf i).toNat)
  case atStart => exact ⟨0, by omega, rfl, fun i hi => by omega, ⟨w, Below.refl _ _⟩, rfl⟩
  case round =>
    obtain ⟨k, hk, rfl, hok, g, rfl⟩ := hrel
    by_cases hlt : k < l.length
    · obtain ⟨b, off, rfl, hb, ha⟩ := hire_at' h hlt
      obtain ⟨_, c0, c1, c2⟩ := ha k hlt
      by_cases g1 : vHire (hat l k) = true
      · by_cases g2 : (hat l k).m < n
        · have g2' : decide (n ≤ (hat l k).m) = false := by simp; omega
          by_cases g3 : k = 0
          · have hh := Lib.hid (show okHead l n k = true by rw [okHead, g1, decide_eq_true g2, decide_eq_true g3]; rfl)
            have hk0 : decide (0 < k) = false := by simp; omega
            clear g3
            go_wp2_with (first | (go_at_call 61; refine (l25One_any _ _ _ _ ((ha k hlt).up _)).mono ?_; rintro e w' ⟨rfl, g, rfl⟩) | ((with_reducible refine wp_region_up (by kernel_rfl) (by kernel_rfl) ?_); (repeat (go_big_quiet_step (first | (go_at_call 61; first | exact upq_tr (l25One_any _ _ _ _ ((ha k hlt).up _)) | exact upq (l25One_any _ _ _ _ ((ha k hlt).up _)))))); refine wpQuiet_nil ?_; intro _ hw'; obtain ⟨nq, hw''⟩ := hw'; subst hw''))
            clear g1 g2'
            go_loopw [6] (fun i wr => ∃ j : Nat, j ≤ k ∧ i = i64 j ∧ Hid (∀ i, i < j → meet (hat l i) (hat l k) = false) ∧ ∃ g' : Up w, wr = up w g') (fun i _ => k - (intOf i).toNat)
            case atStart => exact ⟨0, by omega, rfl, fun i hi => by omega, ex_up (by repeat (first | exact Below.refl _ _ | refine bl_tr ?_ _ | refine bl_al ?_ _ | refine bl_dr ?_ | refine bl_up ?_ _ | refine Below.drew ?_ | refine bl_alloc ?_ _ | refine Below.setCell ?_ (by first | (simp; done) | (simp; omega)) _))⟩
            case round =>
              obtain ⟨j, hj, rfl, hme, g', rfl⟩ := hrel
              by_cases hjk : j < k
              · by_cases q2 : meet (hat l j) (hat l k) = true
                · have hf := Lib.hid (vHires_at (n := n) hlt (okAt_meet (n := n) hjk q2))
                  go_wp2_with (first | (go_at_call 74; refine (ret_as (l25Meet_any _ _ _ _ _ _ _ ((ha j (by omega)).up _) ((ha k hlt).up _)) q2).mono ?_; rintro e w' ⟨rfl, g, rfl⟩) | ((with_reducible refine wp_region_up (by kernel_rfl) (by kernel_rfl) ?_); (repeat (go_big_quiet_step (first | (go_at_call 74; first | exact upq_tr (ret_as (l25Meet_any _ _ _ _ _ _ _ ((ha j (by omega)).up _) ((ha k hlt).up _)) q2) | exact upq (ret_as (l25Meet_any _ _ _ _ _ _ _ ((ha j (by omega)).up _) ((ha k hlt).up _)) q2))))); refine wpQuiet_nil ?_; intro _ hw'; obtain ⟨nq, hw''⟩ := hw'; subst hw''))
                  go_ret
                  exact ⟨ret_bool hf.out.symm, UpOf.of (by repeat (first | exact Below.refl _ _ | refine bl_tr ?_ _ | refine bl_al ?_ _ | refine bl_dr ?_ | refine bl_up ?_ _ | refine Below.drew ?_ | refine bl_alloc ?_ _ | refine Below.setCell ?_ (by first | (simp; done) | (simp; omega)) _))⟩
                · have q2' : meet (hat l j) (hat l k) = false := by simpa using q2
                  have hm' := Lib.hid q2'
                  clear q2
                  go_wp2_with (first | (go_at_call 74; refine (ret_as (l25Meet_any _ _ _ _ _ _ _ ((ha j (by omega)).up _) ((ha k hlt).up _)) hm'.out).mono ?_; rintro e w' ⟨rfl, g, rfl⟩) | ((with_reducible refine wp_region_up (by kernel_rfl) (by kernel_rfl) ?_); (repeat (go_big_quiet_step (first | (go_at_call 74; first | exact upq_tr (ret_as (l25Meet_any _ _ _ _ _ _ _ ((ha j (by omega)).up _) ((ha k hlt).up _)) hm'.out) | exact upq (ret_as (l25Meet_any _ _ _ _ _ _ _ ((ha j (by omega)).up _) ((ha k hlt).up _)) hm'.out))))); refine wpQuiet_nil ?_; intro _ hw'; obtain ⟨nq, hw''⟩ := hw'; subst hw''))
                  go_roundw
                  case rel => have hx := ext_lt (P := fun i => meet (hat l i) (hat l k) = false) hme.out hm'.out; exact ⟨j + 1, by omega, by go_num, hx, ex_up (by repeat (first | exact Below.refl _ _ | refine bl_tr ?_ _ | refine bl_al ?_ _ | refine bl_dr ?_ | refine bl_up ?_ _ | refine Below.drew ?_ | refine bl_alloc ?_ _ | refine Below.setCell ?_ (by first | (simp; done) | (simp; omega)) _))⟩
                  case measure => (simp [intOf]; try omega)
              · obtain rfl : j = k := by omega
                have hnew := Lib.hid (okAt_true hh.out hme.out)
                go_wp2_with (first | ((with_reducible refine wp_region_up (by kernel_rfl) (by kernel_rfl) ?_); (repeat (go_big_quiet_step (fail))); refine wpQuiet_nil ?_; intro _ hw'; obtain ⟨nq, hw''⟩ := hw'; subst hw''))
                go_roundw
                case rel => have hx := ext_lt (P := fun i => okAt l n i = true) hok.out hnew.out; exact ⟨j + 1, by omega, by go_num, hx, ex_up (by repeat (first | exact Below.refl _ _ | refine bl_tr ?_ _ | refine bl_al ?_ _ | refine bl_dr ?_ | refine bl_up ?_ _ | refine Below.drew ?_ | refine bl_alloc ?_ _ | refine Below.setCell ?_ (by first | (simp; done) | (simp; omega)) _))⟩
                case measure => (simp [intOf]; try omega)
          · have hk0 : decide (0 < k) = true := by simp; omega
            have hk1 : (1 : Int) ≤ (k : Int) := by omega
            by_cases g4 : before (hat l (k - 1)) (hat l k) = true
            · have hh := Lib.hid (show okHead l n k = true by rw [okHead, g1, decide_eq_true g2, g4]; simp)
              go_wp2_with (first | (go_at_call 61; refine (l25One_any _ _ _ _ ((ha k hlt).up _)).mono ?_; rintro e w' ⟨rfl, g, rfl⟩) | (go_at_call 73; refine (l25Before_any _ _ _ _ _ _ _ ((ha (k - 1) (by omega)).up _) ((ha k hlt).up _)).mono ?_; rintro e w' ⟨rfl, g, rfl⟩) | ((with_reducible refine wp_region_up (by kernel_rfl) (by kernel_rfl) ?_); (repeat (go_big_quiet_step (first | (go_at_call 61; first | exact upq_tr (l25One_any _ _ _ _ ((ha k hlt).up _)) | exact upq (l25One_any _ _ _ _ ((ha k hlt).up _))) | (go_at_call 73; first | exact upq_tr (l25Before_any _ _ _ _ _ _ _ ((ha (k - 1) (by omega)).up _) ((ha k hlt).up _)) | exact upq (l25Before_any _ _ _ _ _ _ _ ((ha (k - 1) (by omega)).up _) ((ha k hlt).up _)))))); refine wpQuiet_nil ?_; intro _ hw'; obtain ⟨nq, hw''⟩ := hw'; subst hw''))
              clear g1 g4 g2'
              go_loopw [6] (fun i wr => ∃ j : Nat, j ≤ k ∧ i = i64 j ∧ Hid (∀ i, i < j → meet (hat l i) (hat l k) = false) ∧ ∃ g' : Up w, wr = up w g') (fun i _ => k - (intOf i).toNat)
              case atStart => exact ⟨0, by omega, rfl, fun i hi => by omega, ex_up (by repeat (first | exact Below.refl _ _ | refine bl_tr ?_ _ | refine bl_al ?_ _ | refine bl_dr ?_ | refine bl_up ?_ _ | refine Below.drew ?_ | refine bl_alloc ?_ _ | refine Below.setCell ?_ (by first | (simp; done) | (simp; omega)) _))⟩
              case round =>
                obtain ⟨j, hj, rfl, hme, g', rfl⟩ := hrel
                by_cases hjk : j < k
                · by_cases q2 : meet (hat l j) (hat l k) = true
                  · have hf := Lib.hid (vHires_at (n := n) hlt (okAt_meet (n := n) hjk q2))
                    go_wp2_with (first | (go_at_call 74; refine (ret_as (l25Meet_any _ _ _ _ _ _ _ ((ha j (by omega)).up _) ((ha k hlt).up _)) q2).mono ?_; rintro e w' ⟨rfl, g, rfl⟩) | ((with_reducible refine wp_region_up (by kernel_rfl) (by kernel_rfl) ?_); (repeat (go_big_quiet_step (first | (go_at_call 74; first | exact upq_tr (ret_as (l25Meet_any _ _ _ _ _ _ _ ((ha j (by omega)).up _) ((ha k hlt).up _)) q2) | exact upq (ret_as (l25Meet_any _ _ _ _ _ _ _ ((ha j (by omega)).up _) ((ha k hlt).up _)) q2))))); refine wpQuiet_nil ?_; intro _ hw'; obtain ⟨nq, hw''⟩ := hw'; subst hw''))
                    go_ret
                    exact ⟨ret_bool hf.out.symm, UpOf.of (by repeat (first | exact Below.refl _ _ | refine bl_tr ?_ _ | refine bl_al ?_ _ | refine bl_dr ?_ | refine bl_up ?_ _ | refine Below.drew ?_ | refine bl_alloc ?_ _ | refine Below.setCell ?_ (by first | (simp; done) | (simp; omega)) _))⟩
                  · have q2' : meet (hat l j) (hat l k) = false := by simpa using q2
                    have hm' := Lib.hid q2'
                    clear q2
                    go_wp2_with (first | (go_at_call 74; refine (ret_as (l25Meet_any _ _ _ _ _ _ _ ((ha j (by omega)).up _) ((ha k hlt).up _)) hm'.out).mono ?_; rintro e w' ⟨rfl, g, rfl⟩) | ((with_reducible refine wp_region_up (by kernel_rfl) (by kernel_rfl) ?_); (repeat (go_big_quiet_step (first | (go_at_call 74; first | exact upq_tr (ret_as (l25Meet_any _ _ _ _ _ _ _ ((ha j (by omega)).up _) ((ha k hlt).up _)) hm'.out) | exact upq (ret_as (l25Meet_any _ _ _ _ _ _ _ ((ha j (by omega)).up _) ((ha k hlt).up _)) hm'.out))))); refine wpQuiet_nil ?_; intro _ hw'; obtain ⟨nq, hw''⟩ := hw'; subst hw''))
                    go_roundw
                    case rel => have hx := ext_lt (P := fun i => meet (hat l i) (hat l k) = false) hme.out hm'.out; exact ⟨j + 1, by omega, by go_num, hx, ex_up (by repeat (first | exact Below.refl _ _ | refine bl_tr ?_ _ | refine bl_al ?_ _ | refine bl_dr ?_ | refine bl_up ?_ _ | refine Below.drew ?_ | refine bl_alloc ?_ _ | refine Below.setCell ?_ (by first | (simp; done) | (simp; omega)) _))⟩
                    case measure => (simp [intOf]; try omega)
                · obtain rfl : j = k := by omega
                  have hnew := Lib.hid (okAt_true hh.out hme.out)
                  go_wp2_with (first | ((with_reducible refine wp_region_up (by kernel_rfl) (by kernel_rfl) ?_); (repeat (go_big_quiet_step (fail))); refine wpQuiet_nil ?_; intro _ hw'; obtain ⟨nq, hw''⟩ := hw'; subst hw''))
                  go_roundw
                  case rel => have hx := ext_lt (P := fun i => okAt l n i = true) hok.out hnew.out; exact ⟨j + 1, by omega, by go_num, hx, ex_up (by repeat (first | exact Below.refl _ _ | refine bl_tr ?_ _ | refine bl_al ?_ _ | refine bl_dr ?_ | refine bl_up ?_ _ | refine Below.drew ?_ | refine bl_alloc ?_ _ | refine Below.setCell ?_ (by first | (simp; done) | (simp; omega)) _))⟩
                  case measure => (simp [intOf]; try omega)
            · have g4' : before (hat l (k - 1)) (hat l k) = false := by simpa using g4
              have hf := Lib.hid (vHires_at (n := n) hlt (okAt_head (by simp [okHead, g4', g3])))
              clear g4
              go_wp2_with (first | (go_at_call 61; refine (l25One_any _ _ _ _ ((ha k hlt).up _)).mono ?_; rintro e w' ⟨rfl, g, rfl⟩) | (go_at_call 73; refine (l25Before_any _ _ _ _ _ _ _ ((ha (k - 1) (by omega)).up _) ((ha k hlt).up _)).mono ?_; rintro e w' ⟨rfl, g, rfl⟩) | ((with_reducible refine wp_region_up (by kernel_rfl) (by kernel_rfl) ?_); (repeat (go_big_quiet_step (first | (go_at_call 61; first | exact upq_tr (l25One_any _ _ _ _ ((ha k hlt).up _)) | exact upq (l25One_any _ _ _ _ ((ha k hlt).up _))) | (go_at_call 73; first | exact upq_tr (l25Before_any _ _ _ _ _ _ _ ((ha (k - 1) (by omega)).up _) ((ha k hlt).up _)) | exact upq (l25Before_any _ _ _ _ _ _ _ ((ha (k - 1) (by omega)).up _) ((ha k hlt).up _)))))); refine wpQuiet_nil ?_; intro _ hw'; obtain ⟨nq, hw''⟩ := hw'; subst hw''))
              go_ret
              exact ⟨ret_bool hf.out.symm, UpOf.of (by repeat (first | exact Below.refl _ _ | refine bl_tr ?_ _ | refine bl_al ?_ _ | refine bl_dr ?_ | refine bl_up ?_ _ | refine Below.drew ?_ | refine bl_alloc ?_ _ | refine Below.setCell ?_ (by first | (simp; done) | (simp; omega)) _))⟩
        · have g2' : decide (n ≤ (hat l k).m) = true := by simp; omega
          have hf := Lib.hid (vHires_at (n := n) hlt (okAt_head (by simp [okHead, g2])))
          go_wp2_with (first | (go_at_call 61; refine (l25One_any _ _ _ _ ((ha k hlt).up _)).mono ?_; rintro e w' ⟨rfl, g, rfl⟩) | ((with_reducible refine wp_region_up (by kernel_rfl) (by kernel_rfl) ?_); (repeat (go_big_quiet_step (first | (go_at_call 61; first | exact upq_tr (l25One_any _ _ _ _ ((ha k hlt).up _)) | exact upq (l25One_any _ _ _ _ ((ha k hlt).up _)))))); refine wpQuiet_nil ?_; intro _ hw'; obtain ⟨nq, hw''⟩ := hw'; subst hw''))
          go_ret
          exact ⟨ret_bool hf.out.symm, UpOf.of (by repeat (first | exact Below.refl _ _ | refine bl_tr ?_ _ | refine bl_al ?_ _ | refine bl_dr ?_ | refine bl_up ?_ _ | refine Below.drew ?_ | refine bl_alloc ?_ _ | refine Below.setCell ?_ (by first | (simp; done) | (simp; omega)) _))⟩
      · have g1' : vHire (hat l k) = false := by simpa using g1
        have hf := Lib.hid (vHires_at (n := n) hlt (okAt_head (by simp [okHead, g1'])))
        clear g1
        go_wp2_with (first | (go_at_call 61; refine (l25One_any _ _ _ _ ((ha k hlt).up _)).mono ?_; rintro e w' ⟨rfl, g, rfl⟩) | ((with_reducible refine wp_region_up (by kernel_rfl) (by kernel_rfl) ?_); (repeat (go_big_quiet_step (first | (go_at_call 61; first | exact upq_tr (l25One_any _ _ _ _ ((ha k hlt).up _)) | exact upq (l25One_any _ _ _ _ ((ha k hlt).up _)))))); refine wpQuiet_nil ?_; intro _ hw'; obtain ⟨nq, hw''⟩ := hw'; subst hw''))
        go_ret
        exact ⟨ret_bool hf.out.symm, UpOf.of (by repeat (first | exact Below.refl _ _ | refine bl_tr ?_ _ | refine bl_al ?_ _ | refine bl_dr ?_ | refine bl_up ?_ _ | refine Below.drew ?_ | refine bl_alloc ?_ _ | refine Below.setCell ?_ (by first | (simp; done) | (simp; omega)) _))⟩
    · obtain rfl : k = l.length := by omega
      by_cases h1 : btw n 1 20 = true
      · by_cases h2 : l.length ≤ 60
        · have hf := Lib.hid (vHires_true h1 h2 hok.out)
          have h2' : decide ((l.length : Int) ≤ 60) = true := by simp; omega
          go_wp2_with (first | (go_at_call 55; refine (in_any _ _ _ _).mono ?_; rintro e w' ⟨rfl, rfl⟩) | ((with_reducible refine wp_region_up (by kernel_rfl) (by kernel_rfl) ?_); (repeat (go_big_quiet_step (first | (go_at_call 55; first | exact upq_tr_same (in_any _ _ _ _) | exact upq_same (in_any _ _ _ _))))); refine wpQuiet_nil ?_; intro _ hw'; obtain ⟨nq, hw''⟩ := hw'; subst hw''))
          go_ret
          exact ⟨ret_bool hf.out.symm, UpOf.of (by repeat (first | exact Below.refl _ _ | refine bl_tr ?_ _ | refine bl_al ?_ _ | refine bl_dr ?_ | refine bl_up ?_ _ | refine Below.drew ?_ | refine bl_alloc ?_ _ | refine Below.setCell ?_ (by first | (simp; done) | (simp; omega)) _))⟩
        · have hf := Lib.hid (vHires_len (n := n) (show 60 < l.length by omega))
          have h2' : decide ((l.length : Int) ≤ 60) = false := by simp; omega
          go_wp2_with (first | (go_at_call 55; refine (in_any _ _ _ _).mono ?_; rintro e w' ⟨rfl, rfl⟩) | ((with_reducible refine wp_region_up (by kernel_rfl) (by kernel_rfl) ?_); (repeat (go_big_quiet_step (first | (go_at_call 55; first | exact upq_tr_same (in_any _ _ _ _) | exact upq_same (in_any _ _ _ _))))); refine wpQuiet_nil ?_; intro _ hw'; obtain ⟨nq, hw''⟩ := hw'; subst hw''))
          go_ret
          exact ⟨ret_bool hf.out.symm, UpOf.of (by repeat (first | exact Below.refl _ _ | refine bl_tr ?_ _ | refine bl_al ?_ _ | refine bl_dr ?_ | refine bl_up ?_ _ | refine Below.drew ?_ | refine bl_alloc ?_ _ | refine Below.setCell ?_ (by first | (simp; done) | (simp; omega)) _))⟩
      · have h1' : btw n 1 20 = false := by simpa using h1
        have hf := Lib.hid (vHires_n (l := l) h1')
        clear h1
        go_wp2_with (first | (go_at_call 55; refine (in_any _ _ _ _).mono ?_; rintro e w' ⟨rfl, rfl⟩) | ((with_reducible refine wp_region_up (by kernel_rfl) (by kernel_rfl) ?_); (repeat (go_big_quiet_step (first | (go_at_call 55; first | exact upq_tr_same (in_any _ _ _ _) | exact upq_same (in_any _ _ _ _))))); refine wpQuiet_nil ?_; intro _ hw'; obtain ⟨nq, hw''⟩ := hw'; subst hw''))
        go_ret
        exact ⟨ret_bool hf.out.symm, UpOf.of (by repeat (first | exact Below.refl _ _ | refine bl_tr ?_ _ | refine bl_al ?_ _ | refine bl_dr ?_ | refine bl_up ?_ _ | refine Below.drew ?_ | refine bl_alloc ?_ _ | refine Below.setCell ?_ (by first | (simp; done) | (simp; omega)) _))⟩
theorem specValidHires_any (A : Option Addr) (c : Nat) (l : List Hire) (n : Int) (w : World) (h : Rds w 3 A l.length (hcs l)) (hn : l.length ≤ 100000000) :
    Calls Try.prog 14 #[.slice A l.length c, i64 n] w fun e w' => e = .returned (.bool (vHires l n)) ∧ UpOf w w' := by
  go_enter Try.func14, Try.ntmps14
  go_wp2_with (first | (go_at_call 49; refine (l25Ok_any _ _ _ _ _ h hn).mono ?_; rintro e w' ⟨rfl, g, rfl⟩) | ((with_reducible refine wp_region_up (by kernel_rfl) (by kernel_rfl) ?_); (repeat (go_big_quiet_step (first | (go_at_call 49; first | exact upq_tr (l25Ok_any _ _ _ _ _ h hn) | exact upq (l25Ok_any _ _ _ _ _ h hn))))); refine wpQuiet_nil ?_; intro _ hw'; obtain ⟨nq, hw''⟩ := hw'; subst hw''))
  go_ret
  exact ⟨rfl, UpOf.of (by repeat (first | exact Below.refl _ _ | refine bl_tr ?_ _ | refine bl_al ?_ _ | refine bl_dr ?_ | refine bl_up ?_ _ | refine Below.drew ?_ | refine bl_alloc ?_ _ | refine Below.setCell ?_ (by first | (simp; done) | (simp; omega)) _))⟩
end Go.Proofs.Ytiagckbdofeecaa

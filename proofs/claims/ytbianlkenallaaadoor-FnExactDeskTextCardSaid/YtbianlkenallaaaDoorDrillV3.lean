/-
  Valid drills: of the program and of the reference. The bounds stand at each.
-/
import Derived.Test.YtbianlkenallaaaDoorDrillV2
namespace Go.Proofs.YtbianlkenallaaaDoor
open Go.RowKit
/-- texts short enough for the model -/
def DBd (l : List Drill) : Prop := ∀ i, i < l.length → (drl l i).name.size ≤ 100000000 ∧ (drl l i).letters.size ≤ 100000000
def namesD (l : List Drill) (k : Nat) (S : List ByteArray) : Prop := ∀ s, s ∈ S ↔ ∃ j, j < k ∧ (drl l j).name = s
theorem namesD_step {l : List Drill} {k : Nat} {S : List ByteArray} (h : namesD l k S) : namesD l (k + 1) ((drl l k).name :: S) := by
  intro s
  rw [List.mem_cons, h s]
  constructor
  · rintro (rfl | ⟨j, hj, e⟩)
    · exact ⟨k, by omega, rfl⟩
    · exact ⟨j, by omega, e⟩
  · rintro ⟨j, hj, e⟩
    rcases Nat.lt_succ_iff_lt_or_eq.1 hj with h' | h'
    · exact .inr ⟨j, h', e⟩
    · subst h'; exact .inl e.symm
theorem okD_memB {l : List Drill} {k : Nat} {S : List ByteArray} (h : namesD l k S) (hm : memB S (drl l k).name = true) : okD l k = false := by
  obtain ⟨j, hj, e⟩ := (h _).1 (memB_iff.1 hm)
  exact okD_name hj e
theorem okD_fresh {l : List Drill} {k : Nat} {S : List ByteArray} (h : namesD l k S) (hv : vDrill (drl l k) = true) (hm : memB S (drl l k).name = false) : okD l k = true := by
  refine okD_true hv fun j hj e => ?_
  have := memB_iff.2 ((h _).2 ⟨j, hj, e⟩)
  rw [hm] at this
  cases this
theorem zeroBoolD (w : World) : (zeroValue 4).run Tryd.prog w = .ok (.bool false) w := by kernel_rfl
set_option maxRecDepth 10000 in
set_option maxHeartbeats 2000000 in
theorem validDrills_any (A : Option Addr) (c : Nat) (l : List Drill) (w : World) (h : Rds w 3 A l.length (drcs l)) (hn : l.length ≤ 100000000) (hf : DBd l) :
    Calls Tryd.prog 20 #[.slice A l.length c] w fun e w' => e = .returned (.bool (vDrills l)) ∧ UpOf w w' := by
  have HF := Lib.hid hf
  clear hf
  have hmm := @run_makeMap Tryd.prog
  go_enter Tryd.func20, Tryd.ntmps20
  go_wp2_with (first | ((with_reducible refine wp_region_up (by kernel_rfl) (by kernel_rfl) ?_); (repeat (go_big_quiet_step (fail))); refine wpQuiet_nil ?_; intro _ hw'; obtain ⟨nq, hw''⟩ := hw'; subst hw''))
  go_loopw [9] (fun i wr => ∃ k : Nat, k ≤ l.length ∧ i = i64 k ∧ Hid (∀ j, j < k → okD l j = true) ∧ ∃ S, SetAt wr Tryd.prog 9 4 w.heap.size k S ∧ Hid (namesD l k S) ∧ Below w.heap.size w wr) (fun i _ => l.length - (intOf i).toNat)
  case atStart => exact ⟨0, by omega, rfl, fun i hi => by omega, [], SetAt.made _ _ _ _, fun s => by simp, (by repeat (first | exact Below.refl _ _ | refine bl_tr ?_ _ | refine bl_al ?_ _ | refine bl_dr ?_ | refine bl_up ?_ _ | refine Below.drew ?_ | refine bl_alloc ?_ _ | refine Below.setCell ?_ (by first | (simp; done) | (simp; omega)) _))⟩
  case round =>
    obtain ⟨k, hk, rfl, hok, S, hset, hnm, hbel⟩ := hrel
    by_cases hlt : k < l.length
    · obtain ⟨b, off, rfl, hb, c0, c1, c2⟩ := drl_at (h.below hbel) hlt
      obtain ⟨f1, f2⟩ := HF.out k hlt
      have hBl := hset.lt
      have HSET := Lib.hid hset
      have HBEL := Lib.hid hbel
      cases b1 : vDrill (drl l k)
      · have hf := Lib.hid (vDrills_at hlt (okD_no b1))
        clear h hset hbel
        refine as_up fun g0 => ?_
        go_wp2_with (first | (go_at_call 34; refine (ret_as (validDrill_any (drl l k) _ (by omega) (by omega)) b1).mono ?_; rintro e w' ⟨rfl, g, rfl⟩))
        go_ret
        exact ⟨ret_bool hf.out.symm, UpOf.of (HBEL.out.trans (Below.mono (by repeat (first | exact Below.refl _ _ | refine bl_tr ?_ _ | refine bl_al ?_ _ | refine bl_dr ?_ | refine bl_up ?_ _ | refine Below.drew ?_ | refine bl_alloc ?_ _ | refine Below.setCell ?_ (by first | (simp; done) | (simp; omega)) _)) HBEL.out.size))⟩
      · cases b2 : memB S (drl l k).name
        · have hq := Lib.hid (okD_fresh hnm.out b1 b2)
          have hlook : ∀ g : Up wr, (Instr.lookup 65 (.map (some w.heap.size)) (.string (drl l k).name) false).run Tryd.prog (up wr g) = .ok (.bool false) (up wr g) := fun g => ((HSET.out.up g).look Tryd.underlying65 Tryd.underlying9 Tryd.underlying4 (zeroBoolD _) (drl l k).name (by unfold maxLen; omega)).trans (by rw [b2])
          clear h hset hbel
          refine as_up fun g0 => ?_
          go_wp2_with (first | (go_at_call 34; refine (ret_as (validDrill_any (drl l k) _ (by omega) (by omega)) b1).mono ?_; rintro e w' ⟨rfl, g, rfl⟩) | (at_mapUpdate; refine wpl_setPut _ rfl _ _ _ 65 rfl 9 4 Tryd.underlying65 Tryd.underlying9 Tryd.underlying4 w.heap.size k S rfl (HSET.out.below (by repeat (first | exact Below.refl _ _ | refine bl_tr ?_ _ | refine bl_al ?_ _ | refine bl_dr ?_ | refine bl_up ?_ _ | refine Below.drew ?_ | refine bl_alloc ?_ _ | refine Below.setCell ?_ (by first | (simp; done) | (simp; omega)) _))) (by unfold maxLen; omega) (drl l k).name (by unfold maxLen; omega) rfl rfl ?_; intro w1 hset1 hgr1))
          go_roundw
          case rel =>
            have hx := lt_ext (P := fun j => okD l j = true) hok.out hq.out
            exact ⟨k + 1, by omega, by go_num, hx, _, hset1, namesD_step hnm.out, (HBEL.out.trans (Below.mono (by repeat (first | exact Below.refl _ _ | refine bl_tr ?_ _ | refine bl_al ?_ _ | refine bl_dr ?_ | refine bl_up ?_ _ | refine Below.drew ?_ | refine bl_alloc ?_ _ | refine Below.setCell ?_ (by first | (simp; done) | (simp; omega)) _)) HBEL.out.size)).grown hgr1 (Nat.le_trans HBEL.out.size (up_below _ _).size) (fun j hj => by injection hj with hj; omega)⟩
          case measure => (simp [intOf]; try omega)
        · have hf := Lib.hid (vDrills_at hlt (okD_memB hnm.out b2))
          have hlook : ∀ g : Up wr, (Instr.lookup 65 (.map (some w.heap.size)) (.string (drl l k).name) false).run Tryd.prog (up wr g) = .ok (.bool true) (up wr g) := fun g => ((HSET.out.up g).look Tryd.underlying65 Tryd.underlying9 Tryd.underlying4 (zeroBoolD _) (drl l k).name (by unfold maxLen; omega)).trans (by rw [b2])
          clear h hset hbel
          refine as_up fun g0 => ?_
          go_wp2_with (first | (go_at_call 34; refine (ret_as (validDrill_any (drl l k) _ (by omega) (by omega)) b1).mono ?_; rintro e w' ⟨rfl, g, rfl⟩))
          go_ret
          exact ⟨ret_bool hf.out.symm, UpOf.of (HBEL.out.trans (Below.mono (by repeat (first | exact Below.refl _ _ | refine bl_tr ?_ _ | refine bl_al ?_ _ | refine bl_dr ?_ | refine bl_up ?_ _ | refine Below.drew ?_ | refine bl_alloc ?_ _ | refine Below.setCell ?_ (by first | (simp; done) | (simp; omega)) _)) HBEL.out.size))⟩
    · obtain rfl : k = l.length := by omega
      by_cases q : l.length ≤ 10
      · have hf := Lib.hid (vDrills_true q hok.out)
        go_wp2_with (first | ((with_reducible refine wp_region_up (by kernel_rfl) (by kernel_rfl) ?_); (repeat (go_big_quiet_step (fail))); refine wpQuiet_nil ?_; intro _ hw'; obtain ⟨nq, hw''⟩ := hw'; subst hw''))
        go_ret
        exact ⟨ret_bool (by rw [hf.out]; exact decide_eq_true (by omega)), UpOf.of hbel⟩
      · have hf := Lib.hid (vDrills_len (l := l) (by omega))
        have q' : decide (l.length ≤ 10) = false := decide_eq_false q
        go_wp2_with (first | ((with_reducible refine wp_region_up (by kernel_rfl) (by kernel_rfl) ?_); (repeat (go_big_quiet_step (fail))); refine wpQuiet_nil ?_; intro _ hw'; obtain ⟨nq, hw''⟩ := hw'; subst hw''))
        go_ret
        exact ⟨ret_bool (by rw [hf.out]; exact decide_eq_false (by omega)), UpOf.of hbel⟩
theorem text_eqD {s t : ByteArray} (h : (s.toList == t.toList) = true) : s = t := by
  rw [beq_iff_eq, ByteArray.toList_eq, ByteArray.toList_eq] at h
  exact ba_ext h
theorem text_neD {s t : ByteArray} (h : (s.toList == t.toList) = false) : s ≠ t := by
  intro e
  subst e
  simp at h
/-- the first drill with a name, of the first n ones; -1 if there is none -/
def idxD (l : List Drill) (n : Nat) (s : ByteArray) : Int := match (List.range n).find? (fun i => decide ((drl l i).name = s)) with | some i => i | none => -1
theorem idxD_at {l : List Drill} {n k : Nat} {s : ByteArray} (hk : k < n) (h : (drl l k).name = s) (hn : ∀ j, j < k → (drl l j).name ≠ s) : idxD l n s = k := by
  rw [idxD, find_first hk (decide_eq_true h) (fun j hj => decide_eq_false (hn j hj))]
theorem idxD_no {l : List Drill} {n : Nat} {s : ByteArray} (hn : ∀ j, j < n → (drl l j).name ≠ s) : idxD l n s = -1 := by
  rw [idxD, List.find?_eq_none.2 (fun j hj => by rw [List.mem_range] at hj; simpa using hn j hj)]
theorem idxD_some (l : List Drill) (n : Nat) (s : ByteArray) : idxD l n s = -1 ∧ (∀ j, j < n → (drl l j).name ≠ s) ∨ ∃ k, k < n ∧ idxD l n s = (k : Nat) ∧ (drl l k).name = s ∧ ∀ j, j < k → (drl l j).name ≠ s := by
  by_cases h : ∃ j, j < n ∧ decide ((drl l j).name = s) = true
  · obtain ⟨m, h1, h2, h3, h4⟩ := find_rangeD (p := fun j => decide ((drl l j).name = s)) h
    exact .inr ⟨m, h2, by rw [idxD, h1], of_decide_eq_true h3, fun j hj => of_decide_eq_false (h4 j hj)⟩
  · have : ∀ j, j < n → (drl l j).name ≠ s := fun j hj e => h ⟨j, hj, decide_eq_true e⟩
    exact .inl ⟨idxD_no this, this⟩
set_option maxRecDepth 10000 in
theorem l21Find_any (A : Option Addr) (n c : Nat) (l : List Drill) (s : ByteArray) (w : World) (h : Rds w 3 A l.length (drcs l)) (hn : n ≤ l.length) (hl : l.length ≤ 100000000) :
    Calls Tryd.prog 43 #[.slice A n c, .string s] w fun e w' => e = .returned (i64 (idxD l n s)) ∧ w = w' := by
  go_enter Tryd.func43, Tryd.ntmps43
  go_wp2_with fail
  go_loop [5] (fun i => ∃ k : Nat, k ≤ n ∧ i = i64 k ∧ Hid (∀ j, j < k → (drl l j).name ≠ s)) (fun i => n - (intOf i).toNat)
  case atStart => exact ⟨0, by omega, rfl, fun i hi => by omega⟩
  case round =>
    obtain ⟨k, hk, rfl, hok⟩ := hrel
    by_cases hlt : k < n
    · obtain ⟨b, off, rfl, hb, c0, c1, c2⟩ := drl_at h (show k < l.length by omega)
      cases p1 : ((drl l k).name.toList == s.toList)
      · have hq := Lib.hid (text_neD p1)
        go_wp2_with fail
        go_round
        case rel => have hy := lt_ext (P := fun j => (drl l j).name ≠ s) hok.out hq.out; exact ⟨k + 1, by omega, by go_num, hy⟩
        case measure => (simp [intOf]; try omega)
      · have hf := Lib.hid (idxD_at hlt (text_eqD p1) hok.out)
        go_wp2_with fail
        go_ret
        exact ⟨by rw [hf.out] <;> rfl, rfl⟩
    · have hf := Lib.hid (idxD_no (l := l) (n := n) (s := s) (fun i hi => hok.out i (by omega)))
      go_wp2_with fail
      go_ret
      exact ⟨by rw [hf.out] <;> rfl, rfl⟩
set_option maxRecDepth 10000 in
set_option maxHeartbeats 1000000 in
theorem l21Ok_any (A : Option Addr) (c : Nat) (l : List Drill) (w : World) (h : Rds w 3 A l.length (drcs l)) (hc : l.length ≤ c) (hn : l.length ≤ 100000000) (hf : DBd l) :
    Calls Tryd.prog 31 #[.slice A l.length c] w fun e w' => e = .returned (.bool (vDrills l)) ∧ UpOf w w' := by
  have HF := Lib.hid hf
  clear hf
  go_enter Tryd.func31, Tryd.ntmps31
  go_wp2_with (first | ((with_reducible refine wp_region_up (by kernel_rfl) (by kernel_rfl) ?_); (repeat (go_big_quiet_step (fail))); refine wpQuiet_nil ?_; intro _ hw'; obtain ⟨nq, hw''⟩ := hw'; subst hw''))
  go_loopw [3] (fun i wr => ∃ k : Nat, k ≤ l.length ∧ i = i64 k ∧ Hid (∀ j, j < k → okD l j = true) ∧ ∃ g : Up w, wr = up w g) (fun i _ => l.length - (intOf i).toNat)
  case atStart => exact ⟨0, by omega, rfl, fun i hi => by omega, ex_up (by repeat (first | exact Below.refl _ _ | refine bl_tr ?_ _ | refine bl_al ?_ _ | refine bl_dr ?_ | refine bl_up ?_ _ | refine Below.drew ?_ | refine bl_alloc ?_ _ | refine Below.setCell ?_ (by first | (simp; done) | (simp; omega)) _))⟩
  case round =>
    obtain ⟨k, hk, rfl, hok, g, rfl⟩ := hrel
    by_cases hlt : k < l.length
    · have HR := Lib.hid h
      obtain ⟨b, off, rfl, hb, c0, c1, c2⟩ := drl_at h hlt
      obtain ⟨f1, f2⟩ := HF.out k hlt
      clear h
      cases b1 : vDrill (drl l k)
      · have hf := Lib.hid (vDrills_at hlt (okD_no b1))
        go_wp2_with (first | (go_at_call 42; refine (ret_as (l21One_any (drl l k) _ (by omega) (by omega)) b1).mono ?_; rintro e w' ⟨rfl, g, rfl⟩) | ((with_reducible refine wp_region_up (by kernel_rfl) (by kernel_rfl) ?_); (repeat (go_big_quiet_step (first | (go_at_call 42; first | exact upq_tr (ret_as (l21One_any (drl l k) _ (by omega) (by omega)) b1) | exact upq (ret_as (l21One_any (drl l k) _ (by omega) (by omega)) b1))))); refine wpQuiet_nil ?_; intro _ hw'; obtain ⟨nq, hw''⟩ := hw'; subst hw''))
        go_ret
        exact ⟨ret_bool hf.out.symm, UpOf.of (by repeat (first | exact Below.refl _ _ | refine bl_tr ?_ _ | refine bl_al ?_ _ | refine bl_dr ?_ | refine bl_up ?_ _ | refine Below.drew ?_ | refine bl_alloc ?_ _ | refine Below.setCell ?_ (by first | (simp; done) | (simp; omega)) _))⟩
      · have B1 := Lib.hid b1
        rcases idxD_some l k (drl l k).name with ⟨e1, e2⟩ | ⟨m, m1, e1, e2, _⟩
        · have hq := Lib.hid (okD_true b1 e2)
          have hcl := Lib.hid (fun (W : World) (hW : Below w.heap.size w W) => show Calls Tryd.prog 43 #[.slice (some ⟨b, off, none⟩) k c, .string (drl l k).name] W fun e w' => e = .returned (i64 (-1)) ∧ W = w' from by have := l21Find_any (some ⟨b, off, none⟩) k c l (drl l k).name W (HR.out.below hW) (by omega) hn; rwa [e1] at this)
          clear e1 e2 b1
          go_wp2_with (first | (go_at_call 42; refine (ret_as (l21One_any (drl l k) _ (by omega) (by omega)) B1.out).mono ?_; rintro e w' ⟨rfl, g, rfl⟩) | (go_at_call 43; refine (hcl.out _ (by repeat (first | exact Below.refl _ _ | refine bl_tr ?_ _ | refine bl_al ?_ _ | refine bl_dr ?_ | refine bl_up ?_ _ | refine Below.drew ?_ | refine bl_alloc ?_ _ | refine Below.setCell ?_ (by first | (simp; done) | (simp; omega)) _))).mono ?_; rintro e w' ⟨rfl, rfl⟩) | ((with_reducible refine wp_region_up (by kernel_rfl) (by kernel_rfl) ?_); (repeat (go_big_quiet_step (first | (go_at_call 42; first | exact upq_tr (ret_as (l21One_any (drl l k) _ (by omega) (by omega)) B1.out) | exact upq (ret_as (l21One_any (drl l k) _ (by omega) (by omega)) B1.out)) | (go_at_call 43; first | exact upq_tr_same (hcl.out _ (by repeat (first | exact Below.refl _ _ | refine bl_tr ?_ _ | refine bl_al ?_ _ | refine bl_dr ?_ | refine bl_up ?_ _ | refine Below.drew ?_ | refine bl_alloc ?_ _ | refine Below.setCell ?_ (by first | (simp; done) | (simp; omega)) _))) | exact upq_same (hcl.out _ (by repeat (first | exact Below.refl _ _ | refine bl_tr ?_ _ | refine bl_al ?_ _ | refine bl_dr ?_ | refine bl_up ?_ _ | refine Below.drew ?_ | refine bl_alloc ?_ _ | refine Below.setCell ?_ (by first | (simp; done) | (simp; omega)) _))))))); refine wpQuiet_nil ?_; intro _ hw'; obtain ⟨nq, hw''⟩ := hw'; subst hw''))
          go_roundw
          case rel => have hx := lt_ext (P := fun j => okD l j = true) hok.out hq.out; exact ⟨k + 1, by omega, by go_num, hx, ex_up (by repeat (first | exact Below.refl _ _ | refine bl_tr ?_ _ | refine bl_al ?_ _ | refine bl_dr ?_ | refine bl_up ?_ _ | refine Below.drew ?_ | refine bl_alloc ?_ _ | refine Below.setCell ?_ (by first | (simp; done) | (simp; omega)) _))⟩
          case measure => (simp [intOf]; try omega)
        · have hf := Lib.hid (vDrills_at hlt (okD_name m1 e2))
          have hcl := Lib.hid (fun (W : World) (hW : Below w.heap.size w W) => show Calls Tryd.prog 43 #[.slice (some ⟨b, off, none⟩) k c, .string (drl l k).name] W fun e w' => e = .returned (i64 m) ∧ W = w' from by have := l21Find_any (some ⟨b, off, none⟩) k c l (drl l k).name W (HR.out.below hW) (by omega) hn; rwa [e1] at this)
          clear e1 e2 b1
          go_wp2_with (first | (go_at_call 42; refine (ret_as (l21One_any (drl l k) _ (by omega) (by omega)) B1.out).mono ?_; rintro e w' ⟨rfl, g, rfl⟩) | (go_at_call 43; refine (hcl.out _ (by repeat (first | exact Below.refl _ _ | refine bl_tr ?_ _ | refine bl_al ?_ _ | refine bl_dr ?_ | refine bl_up ?_ _ | refine Below.drew ?_ | refine bl_alloc ?_ _ | refine Below.setCell ?_ (by first | (simp; done) | (simp; omega)) _))).mono ?_; rintro e w' ⟨rfl, rfl⟩) | ((with_reducible refine wp_region_up (by kernel_rfl) (by kernel_rfl) ?_); (repeat (go_big_quiet_step (first | (go_at_call 42; first | exact upq_tr (ret_as (l21One_any (drl l k) _ (by omega) (by omega)) B1.out) | exact upq (ret_as (l21One_any (drl l k) _ (by omega) (by omega)) B1.out)) | (go_at_call 43; first | exact upq_tr_same (hcl.out _ (by repeat (first | exact Below.refl _ _ | refine bl_tr ?_ _ | refine bl_al ?_ _ | refine bl_dr ?_ | refine bl_up ?_ _ | refine Below.drew ?_ | refine bl_alloc ?_ _ | refine Below.setCell ?_ (by first | (simp; done) | (simp; omega)) _))) | exact upq_same (hcl.out _ (by repeat (first | exact Below.refl _ _ | refine bl_tr ?_ _ | refine bl_al ?_ _ | refine bl_dr ?_ | refine bl_up ?_ _ | refine Below.drew ?_ | refine bl_alloc ?_ _ | refine Below.setCell ?_ (by first | (simp; done) | (simp; omega)) _))))))); refine wpQuiet_nil ?_; intro _ hw'; obtain ⟨nq, hw''⟩ := hw'; subst hw''))
          go_ret
          exact ⟨ret_bool hf.out.symm, UpOf.of (by repeat (first | exact Below.refl _ _ | refine bl_tr ?_ _ | refine bl_al ?_ _ | refine bl_dr ?_ | refine bl_up ?_ _ | refine Below.drew ?_ | refine bl_alloc ?_ _ | refine Below.setCell ?_ (by first | (simp; done) | (simp; omega)) _))⟩
    · obtain rfl : k = l.length := by omega
      by_cases q : l.length ≤ 10
      · have hf := Lib.hid (vDrills_true q hok.out)
        go_wp2_with (first | ((with_reducible refine wp_region_up (by kernel_rfl) (by kernel_rfl) ?_); (repeat (go_big_quiet_step (fail))); refine wpQuiet_nil ?_; intro _ hw'; obtain ⟨nq, hw''⟩ := hw'; subst hw''))
        go_ret
        exact ⟨ret_bool (by rw [hf.out]; exact decide_eq_true (by omega)), UpOf.of (by repeat (first | exact Below.refl _ _ | refine bl_tr ?_ _ | refine bl_al ?_ _ | refine bl_dr ?_ | refine bl_up ?_ _ | refine Below.drew ?_ | refine bl_alloc ?_ _ | refine Below.setCell ?_ (by first | (simp; done) | (simp; omega)) _))⟩
      · have hf := Lib.hid (vDrills_len (l := l) (by omega))
        have q' : decide (l.length ≤ 10) = false := decide_eq_false q
        go_wp2_with (first | ((with_reducible refine wp_region_up (by kernel_rfl) (by kernel_rfl) ?_); (repeat (go_big_quiet_step (fail))); refine wpQuiet_nil ?_; intro _ hw'; obtain ⟨nq, hw''⟩ := hw'; subst hw''))
        go_ret
        exact ⟨ret_bool (by rw [hf.out]; exact decide_eq_false (by omega)), UpOf.of (by repeat (first | exact Below.refl _ _ | refine bl_tr ?_ _ | refine bl_al ?_ _ | refine bl_dr ?_ | refine bl_up ?_ _ | refine Below.drew ?_ | refine bl_alloc ?_ _ | refine Below.setCell ?_ (by first | (simp; done) | (simp; omega)) _))⟩
end Go.Proofs.YtbianlkenallaaaDoor

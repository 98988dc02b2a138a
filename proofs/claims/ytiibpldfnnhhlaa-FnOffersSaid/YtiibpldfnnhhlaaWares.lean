/-
  Lists of wares (each with a list of its own): contracts of the laws' own functions on them (measured, copied, equal). The bounds stand at each.
-/
import Derived.Test.YtiibpldfnnhhlaaWareP
import Derived.Test.YtiibpldfnnhhlaaWare0
import Derived.Test.YtiibpldfnnhhlaaApp
namespace Go.Proofs.Ytiibpldfnnhhlaa
open Go.RowKit
abbrev Ptr := Option Addr × Nat
def wcell (x : Ware × Ptr) : List Value := [.string x.1.name, .slice x.2.1 x.1.brs.length x.2.2]
def wcs (l : List Ware) (ps : List Ptr) : List Value := (l.zip ps).flatMap wcell
theorem wcell_len (x : Ware × Ptr) : (wcell x).length = 2 := rfl
/-- the list of wares is read at A -/
def WSee (w : World) (A : Option Addr) (l : List Ware) : Prop :=
  ∃ ps : List Ptr, ps.length = l.length ∧ Rds w 2 A l.length (wcs l ps) ∧ ∀ i (h : i < l.length) (h2 : i < ps.length), Rds w 2 ps[i].1 l[i].brs.length (bkcs l[i].brs)
theorem WSee.below {w w' : World} {A : Option Addr} {l : List Ware} (h : WSee w A l) (hb : Below w.heap.size w w') : WSee w' A l := by
  obtain ⟨ps, h1, h2, h3⟩ := h
  exact ⟨ps, h1, h2.below hb, fun i a b => (h3 i a b).below hb⟩
theorem WSee.nil (w : World) (A : Option Addr) : WSee w A [] := ⟨[], rfl, Rds.empty _ _ _, fun i h => by simp at h⟩
/-- the cells of the wares, and the lists that they lead to -/
theorem ware_all {w : World} {A : Option Addr} {l : List Ware} (h : WSee w A l) (hl : 0 < l.length) :
    ∃ b off, A = some ⟨b, off, none⟩ ∧ b < w.heap.size ∧ ∀ i, i < l.length → ∃ Ai ci, w.cell? ⟨b, off + i * 2, none⟩ = some (.string (wat l i).name) ∧ w.cell? ⟨b, off + i * 2 + 1, none⟩ = some (.slice Ai (wat l i).brs.length ci) ∧ Rds w 2 Ai (wat l i).brs.length (bkcs (wat l i).brs) := by
  obtain ⟨ps, h1, h2, h3⟩ := h
  have hz : (l.zip ps).length = l.length := by rw [List.length_zip]; omega
  have h2' : Rds w 2 A (l.zip ps).length ((l.zip ps).flatMap wcell) := by rw [hz]; exact h2
  obtain ⟨b, off, rfl, hb, _⟩ := rds_elem wcell_len h2' (k := 0) (by omega) (by omega)
  refine ⟨b, off, rfl, hb, fun i hi => ?_⟩
  obtain ⟨b', off', e, _, hc⟩ := rds_elem wcell_len h2' (k := i) (by omega) (by omega)
  injection e with e
  injection e with e1 e2
  subst e1 e2
  have c0 := hc 0 _ rfl
  have c1 := hc 1 _ rfl
  simp only [List.getElem_zip] at c0 c1
  rw [wat_eq hi] at c0 c1
  have h3' := h3 i hi (by omega)
  rw [wat_eq hi] at h3'
  exact ⟨_, _, c0, c1, h3'⟩
theorem ware_at {w : World} {A : Option Addr} {l : List Ware} (h : WSee w A l) {k : Nat} (hk : k < l.length) :
    ∃ b off Ai ci, A = some ⟨b, off, none⟩ ∧ b < w.heap.size ∧ w.cell? ⟨b, off + k * 2, none⟩ = some (.string (wat l k).name) ∧ w.cell? ⟨b, off + k * 2 + 1, none⟩ = some (.slice Ai (wat l k).brs.length ci) ∧ Rds w 2 Ai (wat l k).brs.length (bkcs (wat l k).brs) := by
  obtain ⟨b, off, e, hb, h⟩ := ware_all h (by omega)
  obtain ⟨Ai, ci, r⟩ := h k hk
  exact ⟨b, off, Ai, ci, e, hb, r⟩
def wTotN (l : List Ware) : Nat → Nat
  | 0 => 0
  | k + 1 => wTotN l k + wTot1 (wat l k)
theorem wTotN_mono (l : List Ware) (i j : Nat) : wTotN l i ≤ wTotN l (i + j) := by
  induction j with
  | zero => exact Nat.le_refl _
  | succ j ih => exact Nat.le_trans ih (by rw [← Nat.add_assoc, wTotN]; omega)
def wTot (l : List Ware) : Nat := l.length + wTotN l l.length
theorem wTot_len (l : List Ware) : l.length ≤ wTot l := by simp [wTot]
theorem wTot_at {l : List Ware} {k : Nat} (hk : k < l.length) : wTot1 (wat l k) ≤ wTot l := by
  have h := wTotN_mono l (k + 1) (l.length - (k + 1))
  rw [show k + 1 + (l.length - (k + 1)) = l.length by omega, wTotN] at h
  unfold wTot
  omega
/-- no more than can be counted on -/
def WBd (l : List Ware) : Prop := ∀ i, i < l.length → (wat l i).name.size ≤ 100000000 ∧ (wat l i).brs.length ≤ 100000000
theorem wTot_bd {l : List Ware} (h : wTot l ≤ 1048576) : WBd l := fun i hi => by
  have := wTot_at hi
  unfold wTot1 at this
  omega
theorem wTot_in {l : List Ware} (h : WBd l) : ∀ i, i < l.length → (wat l i).brs.length ≤ 100000000 := fun i hi => (h i hi).2
/-- what the machine's reach gives: each text and each list has a length -/
def WFit (l : List Ware) : Prop := ∀ i, i < l.length → (wat l i).name.size ≤ 9223372036854775807 ∧ (wat l i).brs.length ≤ 9223372036854775807
set_option maxRecDepth 10000 in
theorem szWareS_any (A : Option Addr) (c : Nat) (l : List Ware) (k : Int) (w : World) (h : WSee w A l) (hk : 0 ≤ k) (hk1 : k ≤ 1048576) (hn : l.length ≤ 9223372036854775807) (hf : WFit l) :
    Calls Try.prog 15 #[.slice A l.length c, i64 k] w fun e w' => e = .returned (i64 (szR k (wTot l))) ∧ UpOf w w' := by
  have HF := Lib.hid hf
  have ht : Hid ((wTot l : Int) = l.length + wTotN l l.length) := by show (wTot l : Int) = _; simp [wTot]
  clear hf
  by_cases q : k < l.length
  · go_enter Try.func15, Try.ntmps15
    go_wp2_with (first | ((with_reducible refine wp_region_up (by kernel_rfl) (by kernel_rfl) ?_); (repeat (go_big_quiet_step (fail))); refine wpQuiet_nil ?_; intro _ hw'; obtain ⟨nq, hw''⟩ := hw'; subst hw''))
    go_ret
    exact ⟨ret_int (by rw [szR_no (by have := ht.out; omega)]), UpOf.of (by repeat (first | exact Below.refl _ _ | refine bl_tr ?_ _ | refine bl_al ?_ _ | refine bl_dr ?_ | refine bl_up ?_ _ | refine Below.drew ?_ | refine bl_alloc ?_ _ | refine Below.setCell ?_ (by first | (simp; done) | (simp; omega)) _))⟩
  · go_enter Try.func15, Try.ntmps15
    go_wp2_with (first | ((with_reducible refine wp_region_up (by kernel_rfl) (by kernel_rfl) ?_); (repeat (go_big_quiet_step (fail))); refine wpQuiet_nil ?_; intro _ hw'; obtain ⟨nq, hw''⟩ := hw'; subst hw''))
    go_loopw [1, 5] (fun lf i wr => ∃ j : Nat, j ≤ l.length ∧ i = i64 j ∧ lf = i64 (k - l.length - wTotN l j) ∧ (l.length : Int) + wTotN l j ≤ k ∧ ∃ g : Up w, wr = up w g) (fun _ i _ => l.length - (intOf i).toNat)
    case atStart => exact ⟨0, by omega, rfl, by simp [wTotN], by simp [wTotN]; omega, ex_up (by repeat (first | exact Below.refl _ _ | refine bl_tr ?_ _ | refine bl_al ?_ _ | refine bl_dr ?_ | refine bl_up ?_ _ | refine Below.drew ?_ | refine bl_alloc ?_ _ | refine Below.setCell ?_ (by first | (simp; done) | (simp; omega)) _))⟩
    case round =>
      obtain ⟨j, hj, rfl, rfl, hle, g, rfl⟩ := hrel
      by_cases hlt : j < l.length
      · obtain ⟨b, off, Ai, ci, rfl, hb, c0, c1, _⟩ := ware_at h hlt
        have hN := Lib.hid (show wTotN l (j + 1) = wTotN l j + wTot1 (wat l j) from rfl)
        have hm := Lib.hid (wTotN_mono l (j + 1) (l.length - (j + 1)))
        by_cases q2 : k - l.length - wTotN l j < wTot1 (wat l j)
        · have hs2 : szR (k - (l.length : Int) - wTotN l j) (wTot1 (wat l j)) = -1 := szR_no q2
          go_wp2_with (first | (go_at_call 54; refine (szWare_any _ _ _ _ _ (by omega) (by omega) (HF.out j hlt).1 (HF.out j hlt).2).mono ?_; rintro e w' ⟨rfl, g, rfl⟩) | ((with_reducible refine wp_region_up (by kernel_rfl) (by kernel_rfl) ?_); (repeat (go_big_quiet_step (first | (go_at_call 54; first | exact upq_tr (szWare_any _ _ _ _ _ (by omega) (by omega) (HF.out j hlt).1 (HF.out j hlt).2) | exact upq (szWare_any _ _ _ _ _ (by omega) (by omega) (HF.out j hlt).1 (HF.out j hlt).2))))); refine wpQuiet_nil ?_; intro _ hw'; obtain ⟨nq, hw''⟩ := hw'; subst hw''))
          go_ret
          refine ⟨ret_int ?_, UpOf.of (by repeat (first | exact Below.refl _ _ | refine bl_tr ?_ _ | refine bl_al ?_ _ | refine bl_dr ?_ | refine bl_up ?_ _ | refine Below.drew ?_ | refine bl_alloc ?_ _ | refine Below.setCell ?_ (by first | (simp; done) | (simp; omega)) _))⟩
          have h1 := hN.out
          have h2 := hm.out
          have h3 := ht.out
          rw [show j + 1 + (l.length - (j + 1)) = l.length by omega] at h2
          rw [szR_no (by omega)]
        · have hs2 : szR (k - (l.length : Int) - wTotN l j) (wTot1 (wat l j)) = k - (l.length : Int) - wTotN l j - wTot1 (wat l j) := szR_ok q2
          go_wp2_with (first | (go_at_call 54; refine (szWare_any _ _ _ _ _ (by omega) (by omega) (HF.out j hlt).1 (HF.out j hlt).2).mono ?_; rintro e w' ⟨rfl, g, rfl⟩) | ((with_reducible refine wp_region_up (by kernel_rfl) (by kernel_rfl) ?_); (repeat (go_big_quiet_step (first | (go_at_call 54; first | exact upq_tr (szWare_any _ _ _ _ _ (by omega) (by omega) (HF.out j hlt).1 (HF.out j hlt).2) | exact upq (szWare_any _ _ _ _ _ (by omega) (by omega) (HF.out j hlt).1 (HF.out j hlt).2))))); refine wpQuiet_nil ?_; intro _ hw'; obtain ⟨nq, hw''⟩ := hw'; subst hw''))
          go_roundw
          case rel =>
            have h1 := hN.out
            exact ⟨j + 1, by omega, by go_num, by rw [h1]; go_num, by omega, ex_up (by repeat (first | exact Below.refl _ _ | refine bl_tr ?_ _ | refine bl_al ?_ _ | refine bl_dr ?_ | refine bl_up ?_ _ | refine Below.drew ?_ | refine bl_alloc ?_ _ | refine Below.setCell ?_ (by first | (simp; done) | (simp; omega)) _))⟩
          case measure => (simp [intOf]; try omega)
      · obtain rfl : j = l.length := by omega
        go_wp2_with (first | ((with_reducible refine wp_region_up (by kernel_rfl) (by kernel_rfl) ?_); (repeat (go_big_quiet_step (fail))); refine wpQuiet_nil ?_; intro _ hw'; obtain ⟨nq, hw''⟩ := hw'; subst hw''))
        go_ret
        refine ⟨ret_int ?_, UpOf.of (by repeat (first | exact Below.refl _ _ | refine bl_tr ?_ _ | refine bl_al ?_ _ | refine bl_dr ?_ | refine bl_up ?_ _ | refine Below.drew ?_ | refine bl_alloc ?_ _ | refine Below.setCell ?_ (by first | (simp; done) | (simp; omega)) _))⟩
        have h3 := ht.out
        rw [szR_ok (by omega)]
        omega
/-- list l lies from block lo on, each ware's own list in a block of its own -/
def WOwn (lo : Nat) (w : World) (b : Nat) (l : List Ware) (ps : List Ptr) : Prop :=
  ps.length = l.length ∧ lo ≤ b ∧ w.ownsRow lo 74 2 (.slice (some ⟨b, 0, none⟩) l.length l.length) l.length (wcs l ps) ∧
  (∀ i (h : i < l.length) (h2 : i < ps.length), w.ownsRow (b + 1) 76 2 (.slice ps[i].1 l[i].brs.length ps[i].2) l[i].brs.length (bkcs l[i].brs)) ∧
  ∀ i j (hi : i < ps.length) (hj : j < ps.length), i ≠ j → ∀ k off, ps[i].1 = some ⟨k, off, none⟩ → ∀ off', ps[j].1 ≠ some ⟨k, off', none⟩
theorem WOwn.see {lo : Nat} {w : World} {b : Nat} {l : List Ware} {ps : List Ptr} (h : WOwn lo w b l ps) : WSee w (some ⟨b, 0, none⟩) l :=
  ⟨ps, h.1, Rds.of_own h.2.2.1, fun i a c => Rds.of_own (h.2.2.2.1 i a c)⟩
/-- the first k elements are there, as pointers ps tell -/
def wFirst (w : World) (b : Nat) (l : List Ware) (k : Nat) (ps : List Ptr) : Prop :=
  ps.length = k ∧ (∀ i (h : i < l.length) (h2 : i < ps.length), w.ownsRow (b + 1) 76 2 (.slice ps[i].1 l[i].brs.length ps[i].2) l[i].brs.length (bkcs l[i].brs)) ∧
  ∀ i j (hi : i < ps.length) (hj : j < ps.length), i ≠ j → ∀ k off, ps[i].1 = some ⟨k, off, none⟩ → ∀ off', ps[j].1 ≠ some ⟨k, off', none⟩
theorem wset {l : List Ware} {ps : List Ptr} {ys : List Value} {k : Nat} {p : Ptr} (hps : ps.length = k) (hk : k < l.length) (hlen : ys.length = l.length * 2)
    (hys : ∀ i (hi : i < (l.zip ps).length) j, j < 2 → ys[i * 2 + j]? = (wcell (l.zip ps)[i])[j]?) :
    ∀ i (hi : i < (l.zip (ps ++ [p])).length) j, j < 2 → ((ys.set (k * 2) (.string (wat l k).name)).set (k * 2 + 1) (.slice p.1 (wat l k).brs.length p.2))[i * 2 + j]? = (wcell (l.zip (ps ++ [p]))[i])[j]? := by
  intro i hi j hj
  have hz : i < k + 1 := by rw [List.length_zip, List.length_append, List.length_singleton] at hi; omega
  by_cases hik : i = k
  · subst hik
    have e : (l.zip (ps ++ [p]))[i] = (wat l i, p) := by
      rw [List.getElem_zip, wat_eq hk, List.getElem_append_right (by omega)]
      simp [hps]
    rw [e]
    match j, hj with
    | 0, _ => rw [List.getElem?_set_ne (by omega), Nat.add_zero, List.getElem?_set_self (by omega)]; rfl
    | 1, _ => rw [List.getElem?_set_self (by rw [List.length_set]; omega)]; rfl
  · have h1 : i < (l.zip ps).length := by rw [List.length_zip]; omega
    rw [List.getElem?_set_ne (by omega), List.getElem?_set_ne (by omega), hys i h1 j hj, List.getElem_zip, List.getElem_zip, List.getElem_append_left (by omega)]
theorem wfirst_step {w w' : World} {b k b9 : Nat} {l : List Ware} {ps : List Ptr} (h : wFirst w b l k ps) (hk : k < l.length) (hb : b < w.heap.size)
    (ho : ∀ (base : Nat) (e : TypeId) (size : Nat) (v : Value) (n : Nat) (xs : List Value), b < base → w.ownsRow base e size v n xs → w'.ownsRow base e size v n xs)
    (o9 : w'.ownsRow w.heap.size 76 2 (.slice (some ⟨b9, 0, none⟩) (wat l k).brs.length (wat l k).brs.length) (wat l k).brs.length (bkcs (wat l k).brs)) :
    wFirst w' b l (k + 1) (ps ++ [(some ⟨b9, 0, none⟩, (wat l k).brs.length)]) := by
  obtain ⟨h1, h2, h3⟩ := h
  refine ⟨by simp [h1], fun i hi hi2 => ?_, fun i j hi hj hne => ?_⟩
  · rw [List.length_append, List.length_singleton] at hi2
    by_cases hik : i = k
    · subst hik
      have e : (ps ++ [((some ⟨b9, 0, none⟩, (wat l i).brs.length) : Ptr)])[i] = (some ⟨b9, 0, none⟩, (wat l i).brs.length) := by
        rw [List.getElem_append_right (by omega)]; simp [h1]
      rw [e, wat_eq hi]
      exact own_mono o9 hb
    · rw [List.getElem_append_left (by omega)]
      exact ho _ _ _ _ _ _ (Nat.lt_succ_self _) (h2 i hi (by omega))
  · rw [List.length_append, List.length_singleton] at hi hj
    have hnew : ∀ i (hi : i < ps.length) k off, ps[i].1 = some ⟨k, off, none⟩ → k < w.heap.size := fun i hi k off e => by
      have := h2 i (by omega) hi
      rw [e] at this
      exact (own_block this rfl).2.1
    have hb9 := (own_block o9 rfl).1
    intro k' off e off' e'
    by_cases hik : i = k
    · have hjk : j < ps.length := by omega
      rw [List.getElem_append_left hjk] at e'
      have := hnew j hjk _ _ e'
      rw [List.getElem_append_right (by omega)] at e
      (simp at e; try omega)
    · have hil : i < ps.length := by omega
      rw [List.getElem_append_left hil] at e
      by_cases hjk : j = k
      · have := hnew i hil _ _ e
        rw [List.getElem_append_right (by omega)] at e'
        (simp at e'; try omega)
      · have hjl : j < ps.length := by omega
        rw [List.getElem_append_left hjl] at e'
        exact h3 i j hil hjl hne _ _ e _ e'
set_option maxRecDepth 10000 in
theorem toWareS_any (A : Option Addr) (c : Nat) (l : List Ware) (w : World) (h : WSee w A l) (hn : l.length ≤ 100000000) (hf : ∀ i, i < l.length → (wat l i).brs.length ≤ 100000000) :
    Calls Try.prog 17 #[.slice A l.length c] w fun e w' => ∃ (b : Nat) (ps : List Ptr), e = .returned (.slice (some ⟨b, 0, none⟩) l.length l.length) ∧ WOwn w.heap.size w' b l ps ∧ UpOf w w' := by
  have HF := Lib.hid hf
  clear hf
  have hi : (Try.prog.info? 74).map (fun i => (i.zero, i.size, i.bytes)) = some (some (.agg #[.string ByteArray.empty, .slice none 0 0]), 2, 40) := by kernel_rfl
  obtain ⟨i0, hi, hz0, hz1, hz2⟩ := info_parts hi
  have hmk : ∀ u : World, (Instr.makeSlice 25 (i64 l.length) (i64 l.length)).run Try.prog u = .ok (.slice (some ⟨u.heap.size, 0, none⟩) l.length l.length) (u.alloc (.cells (madeCells #[.string ByteArray.empty, .slice none 0 0] (l.length * 2)) 74)) := fun u => by
    have h := run_make (P := Try.prog) u 25 74 i0 _ Try.underlying25 hi hz0 .i64 .i64 l.length l.length (by omega) (Int.le_refl _) (by rw [hz2]; omega) (by omega)
    simpa [hz1, Value.cells] using h
  clear hi hz0 hz1 hz2
  go_enter Try.func17, Try.ntmps17
  go_wp2_with (first | ((with_reducible refine wp_region_up (by kernel_rfl) (by kernel_rfl) ?_); (repeat (go_big_quiet_step (fail))); refine wpQuiet_nil ?_; intro _ hw'; obtain ⟨nq, hw''⟩ := hw'; subst hw''))
  go_loopw [4] (fun i wr => ∃ k : Nat, k ≤ l.length ∧ i = i64 k ∧ ∃ ys ps, wr.ownsRow w.heap.size 74 2 (.slice (some ⟨w.heap.size, 0, none⟩) l.length l.length) l.length ys ∧ wFirst wr w.heap.size l k ps ∧
      (∀ i (hi : i < (l.zip ps).length) j, j < 2 → ys[i * 2 + j]? = (wcell (l.zip ps)[i])[j]?) ∧ Below w.heap.size w wr) (fun i _ => l.length - (intOf i).toNat)
  case atStart =>
    exact ⟨0, by omega, rfl, _, [], World.ownsRow_lit w _ l.length (Nat.le_refl _) (by unfold maxLen; omega) (size_madeCells _ _), ⟨rfl, fun i a b => by simp at b, fun i j a b => by simp at a⟩, fun i hi j hj => by simp at hi, (Below.refl _ _).alloc (Nat.le_refl _) _⟩
  case round =>
    obtain ⟨k, hk, rfl, ys, ps, hown, hfst, hys, hbel⟩ := hrel
    by_cases hlt : k < l.length
    · obtain ⟨b, off, Ai, ci, rfl, hb, c0, c1, r⟩ := ware_at (h.below hbel) hlt
      have hwl := (own_block hown rfl).2.1
      have hlen := hown.1
      have d0 := hown.cellAt (k * 2) (by omega)
      have d1 := hown.cellAt (k * 2 + 1) (by omega)
      rw [List.getElem?_eq_getElem (by omega)] at d0 d1
      have f0 := fun i => hown.frozenAt i
      have HY := Lib.hid hys
      have HFS := Lib.hid hfst
      clear hys h hfst
      go_wp2_with fail
      refine (toWare_any (wat l k) _ _ _ (r.below (by repeat (first | exact Below.refl _ _ | refine bl_tr ?_ _ | refine bl_al ?_ _ | refine bl_dr ?_ | refine bl_up ?_ _ | refine Below.drew ?_ | refine bl_alloc ?_ _ | refine Below.setCell ?_ (by first | (simp; done) | (simp; omega)) _))) (HF.out k hlt)).mono ?_
      rintro e w' ⟨b9, rfl, o9, g, rfl⟩
      go_wp2_with fail
      go_roundw
      case rel =>
        go_light
        have s1 := (own_up hown g).stored (k * 2) (.string (wat l k).name)
        have s2 := s1.1.stored (k * 2 + 1) (.slice (some ⟨b9, 0, none⟩) (wat l k).brs.length (wat l k).brs.length)
        refine ⟨k + 1, by omega, by go_num, _, ps ++ [(some ⟨b9, 0, none⟩, (wat l k).brs.length)], s2.1, ?_, ?_, ?_⟩
        · exact wfirst_step HFS.out hlt hwl (fun base e size v n xs hb h => own_setOld (own_setOld (own_up h g) hb _) hb _) (own_setOld (own_setOld o9 hwl _) hwl _)
        · exact wset HFS.out.1 hlt hlen HY.out
        · exact ((hbel.trans (g.below.mono hbel.size)).setCell (Nat.le_refl _) _).setCell (Nat.le_refl _) _
      case measure => simp [intOf]; omega
    · go_wp2_with (first | ((with_reducible refine wp_region_up (by kernel_rfl) (by kernel_rfl) ?_); (repeat (go_big_quiet_step (fail))); refine wpQuiet_nil ?_; intro _ hw'; obtain ⟨nq, hw''⟩ := hw'; subst hw''))
      go_ret
      obtain rfl : k = l.length := by omega
      refine ⟨_, ps, rfl, ⟨hfst.1, Nat.le_refl _, ?_, hfst.2.1, hfst.2.2⟩, UpOf.of hbel⟩
      have hz : (l.zip ps).length = l.length := by rw [List.length_zip, hfst.1]; omega
      have hy : ys = wcs l ps := flat_ext wcell_len _ (by rw [hz]; exact hown.1) (fun i hi j hj => hys i hi j hj)
      rw [hy] at hown
      exact hown
set_option maxRecDepth 10000 in
theorem eqWareS_any (A A' : Option Addr) (c c' : Nat) (l : List Ware) (w : World) (h : WSee w A l) (h' : WSee w A' l) (hn : l.length ≤ 100000000) (hf : ∀ i, i < l.length → (wat l i).brs.length ≤ 100000000) :
    Calls Try.prog 19 #[.slice A l.length c, .slice A' l.length c'] w fun e w' => e = .returned (.bool true) ∧ UpOf w w' := by
  have HF := Lib.hid hf
  clear hf
  go_enter Try.func19, Try.ntmps19
  go_wp2_with (first | ((with_reducible refine wp_region_up (by kernel_rfl) (by kernel_rfl) ?_); (repeat (go_big_quiet_step (fail))); refine wpQuiet_nil ?_; intro _ hw'; obtain ⟨nq, hw''⟩ := hw'; subst hw''))
  go_loopw [5] (fun i wr => ∃ k : Nat, k ≤ l.length ∧ i = .int .i64 k ∧ ∃ g : Up w, wr = up w g) (fun i _ => l.length - (intOf i).toNat)
  case atStart => exact ⟨0, by omega, rfl, ⟨w, Below.refl _ _⟩, rfl⟩
  case round =>
    obtain ⟨k, hk, rfl, g, rfl⟩ := hrel
    by_cases hlt : k < l.length
    · obtain ⟨b, off, Ai, ci, rfl, hb, c0, c1, r⟩ := ware_at h hlt
      obtain ⟨b', off', Ai', ci', rfl, hb', d0, d1, r'⟩ := ware_at h' hlt
      clear h h'
      go_wp2_with (first | (go_at_call 56; refine (eqWare_any _ _ _ _ _ _ (r.below (by repeat (first | exact Below.refl _ _ | refine bl_tr ?_ _ | refine bl_al ?_ _ | refine bl_dr ?_ | refine bl_up ?_ _ | refine Below.drew ?_ | refine bl_alloc ?_ _ | refine Below.setCell ?_ (by first | (simp; done) | (simp; omega)) _))) (r'.below (by repeat (first | exact Below.refl _ _ | refine bl_tr ?_ _ | refine bl_al ?_ _ | refine bl_dr ?_ | refine bl_up ?_ _ | refine Below.drew ?_ | refine bl_alloc ?_ _ | refine Below.setCell ?_ (by first | (simp; done) | (simp; omega)) _))) (HF.out k hlt)).mono ?_; rintro e w' ⟨rfl, g, rfl⟩) | ((with_reducible refine wp_region_up (by kernel_rfl) (by kernel_rfl) ?_); (repeat (go_big_quiet_step (first | (go_at_call 56; first | exact upq_tr (eqWare_any _ _ _ _ _ _ (r.below (by repeat (first | exact Below.refl _ _ | refine bl_tr ?_ _ | refine bl_al ?_ _ | refine bl_dr ?_ | refine bl_up ?_ _ | refine Below.drew ?_ | refine bl_alloc ?_ _ | refine Below.setCell ?_ (by first | (simp; done) | (simp; omega)) _))) (r'.below (by repeat (first | exact Below.refl _ _ | refine bl_tr ?_ _ | refine bl_al ?_ _ | refine bl_dr ?_ | refine bl_up ?_ _ | refine Below.drew ?_ | refine bl_alloc ?_ _ | refine Below.setCell ?_ (by first | (simp; done) | (simp; omega)) _))) (HF.out k hlt)) | exact upq (eqWare_any _ _ _ _ _ _ (r.below (by repeat (first | exact Below.refl _ _ | refine bl_tr ?_ _ | refine bl_al ?_ _ | refine bl_dr ?_ | refine bl_up ?_ _ | refine Below.drew ?_ | refine bl_alloc ?_ _ | refine Below.setCell ?_ (by first | (simp; done) | (simp; omega)) _))) (r'.below (by repeat (first | exact Below.refl _ _ | refine bl_tr ?_ _ | refine bl_al ?_ _ | refine bl_dr ?_ | refine bl_up ?_ _ | refine Below.drew ?_ | refine bl_alloc ?_ _ | refine Below.setCell ?_ (by first | (simp; done) | (simp; omega)) _))) (HF.out k hlt)))))); refine wpQuiet_nil ?_; intro _ hw'; obtain ⟨nq, hw''⟩ := hw'; subst hw''))
      go_roundw
      case rel => exact ⟨k + 1, by omega, by go_num, ex_up (by repeat (first | exact Below.refl _ _ | refine bl_tr ?_ _ | refine bl_al ?_ _ | refine bl_dr ?_ | refine bl_up ?_ _ | refine Below.drew ?_ | refine bl_alloc ?_ _ | refine Below.setCell ?_ (by first | (simp; done) | (simp; omega)) _))⟩
      case measure => simp [intOf]; omega
    · go_wp2_with (first | ((with_reducible refine wp_region_up (by kernel_rfl) (by kernel_rfl) ?_); (repeat (go_big_quiet_step (fail))); refine wpQuiet_nil ?_; intro _ hw'; obtain ⟨nq, hw''⟩ := hw'; subst hw''))
      go_ret
      exact ⟨rfl, UpOf.of (by repeat (first | exact Below.refl _ _ | refine bl_tr ?_ _ | refine bl_al ?_ _ | refine bl_dr ?_ | refine bl_up ?_ _ | refine Below.drew ?_ | refine bl_alloc ?_ _ | refine Below.setCell ?_ (by first | (simp; done) | (simp; omega)) _))⟩
end Go.Proofs.Ytiibpldfnnhhlaa

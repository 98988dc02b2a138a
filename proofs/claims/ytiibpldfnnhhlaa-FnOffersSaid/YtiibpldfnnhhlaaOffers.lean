/-
  Lists of offers (each with a list of numbers of its own): contracts of the laws' own functions on them (measured, copied, equal). The bounds stand at each.
-/
import Derived.Test.YtiibpldfnnhhlaaWares
import Derived.Test.YtiibpldfnnhhlaaBasket
import Derived.Test.YtiibpldfnnhhlaaIntsSz
namespace Go.Proofs.Ytiibpldfnnhhlaa
open Go.RowKit
structure Offer where
  many : List Int
  price : Int
def oat (l : List Offer) (i : Nat) : Offer := l.getD i ⟨[], 0⟩
theorem oat_eq {l : List Offer} {i : Nat} (h : i < l.length) : l[i] = oat l i := by simp [oat, h]
def ocell (x : Offer × Ptr) : List Value := [.slice x.2.1 x.1.many.length x.2.2, i64 x.1.price]
def ocs (l : List Offer) (ps : List Ptr) : List Value := (l.zip ps).flatMap ocell
theorem ocell_len (x : Offer × Ptr) : (ocell x).length = 2 := rfl
/-- the list of offers is read at A -/
def OSee (w : World) (A : Option Addr) (l : List Offer) : Prop :=
  ∃ ps : List Ptr, ps.length = l.length ∧ Rds w 2 A l.length (ocs l ps) ∧ ∀ i (h : i < l.length) (h2 : i < ps.length), Rds w 1 ps[i].1 l[i].many.length (ics l[i].many)
theorem OSee.below {w w' : World} {A : Option Addr} {l : List Offer} (h : OSee w A l) (hb : Below w.heap.size w w') : OSee w' A l := by
  obtain ⟨ps, h1, h2, h3⟩ := h
  exact ⟨ps, h1, h2.below hb, fun i a b => (h3 i a b).below hb⟩
theorem OSee.nil (w : World) (A : Option Addr) : OSee w A [] := ⟨[], rfl, Rds.empty _ _ _, fun i h => by simp at h⟩
theorem offer_all {w : World} {A : Option Addr} {l : List Offer} (h : OSee w A l) (hl : 0 < l.length) :
    ∃ b off, A = some ⟨b, off, none⟩ ∧ b < w.heap.size ∧ ∀ i, i < l.length → ∃ Ai ci, w.cell? ⟨b, off + i * 2, none⟩ = some (.slice Ai (oat l i).many.length ci) ∧ w.cell? ⟨b, off + i * 2 + 1, none⟩ = some (i64 (oat l i).price) ∧ Rds w 1 Ai (oat l i).many.length (ics (oat l i).many) := by
  obtain ⟨ps, h1, h2, h3⟩ := h
  have hz : (l.zip ps).length = l.length := by rw [List.length_zip]; omega
  have h2' : Rds w 2 A (l.zip ps).length ((l.zip ps).flatMap ocell) := by rw [hz]; exact h2
  obtain ⟨b, off, rfl, hb, _⟩ := rds_elem ocell_len h2' (k := 0) (by omega) (by omega)
  refine ⟨b, off, rfl, hb, fun i hi => ?_⟩
  obtain ⟨b', off', e, _, hc⟩ := rds_elem ocell_len h2' (k := i) (by omega) (by omega)
  injection e with e
  injection e with e1 e2
  subst e1 e2
  have c0 := hc 0 _ rfl
  have c1 := hc 1 _ rfl
  simp only [List.getElem_zip] at c0 c1
  rw [oat_eq hi] at c0 c1
  have h3' := h3 i hi (by omega)
  rw [oat_eq hi] at h3'
  exact ⟨_, _, c0, c1, h3'⟩
theorem offer_at {w : World} {A : Option Addr} {l : List Offer} (h : OSee w A l) {k : Nat} (hk : k < l.length) :
    ∃ b off Ai ci, A = some ⟨b, off, none⟩ ∧ b < w.heap.size ∧ w.cell? ⟨b, off + k * 2, none⟩ = some (.slice Ai (oat l k).many.length ci) ∧ w.cell? ⟨b, off + k * 2 + 1, none⟩ = some (i64 (oat l k).price) ∧ Rds w 1 Ai (oat l k).many.length (ics (oat l k).many) := by
  obtain ⟨b, off, e, hb, h⟩ := offer_all h (by omega)
  obtain ⟨Ai, ci, r⟩ := h k hk
  exact ⟨b, off, Ai, ci, e, hb, r⟩
def oTotN (l : List Offer) : Nat → Nat
  | 0 => 0
  | k + 1 => oTotN l k + (oat l k).many.length
theorem oTotN_mono (l : List Offer) (i j : Nat) : oTotN l i ≤ oTotN l (i + j) := by
  induction j with
  | zero => exact Nat.le_refl _
  | succ j ih => exact Nat.le_trans ih (by rw [← Nat.add_assoc, oTotN]; omega)
def oTot (l : List Offer) : Nat := l.length + oTotN l l.length
theorem oTot_len (l : List Offer) : l.length ≤ oTot l := by simp [oTot]
theorem oTot_at {l : List Offer} {k : Nat} (hk : k < l.length) : (oat l k).many.length ≤ oTot l := by
  have h := oTotN_mono l (k + 1) (l.length - (k + 1))
  rw [show k + 1 + (l.length - (k + 1)) = l.length by omega, oTotN] at h
  unfold oTot
  omega
/-- no more than can be counted on -/
def OBd (l : List Offer) : Prop := ∀ i, i < l.length → (oat l i).many.length ≤ 100000000
theorem oTot_bd {l : List Offer} (h : oTot l ≤ 1048576) : OBd l := fun i hi => by
  have := oTot_at hi
  omega
theorem oTot_in {l : List Offer} (h : OBd l) : ∀ i, i < l.length → (oat l i).many.length ≤ 100000000 := h
/-- what the machine's reach gives: each list has a length -/
def OFit (l : List Offer) : Prop := ∀ i, i < l.length → (oat l i).many.length ≤ 9223372036854775807
theorem szOffer_any (x : Offer) (A : Option Addr) (c : Nat) (k : Int) (w : World) (hk : 0 ≤ k) (hk1 : k ≤ 1048576) (h2 : x.many.length ≤ 9223372036854775807) :
    Calls Try.prog 75 #[.agg #[.slice A x.many.length c, i64 x.price], i64 k] w fun e w' => e = .returned (i64 (szR k x.many.length)) ∧ UpOf w w' := by
  by_cases q2 : k < x.many.length
  · have hs : szR k x.many.length = -1 := szR_no q2
    have hs' := Lib.hid hs
    go_enter Try.func75, Try.ntmps75
    go_wp2_with (first | (go_at_call 93; refine (szInt64S_any _ _ _ _ _ (by omega) (by omega) h2).mono ?_; rintro e w' ⟨rfl, g, rfl⟩) | ((with_reducible refine wp_region_up (by kernel_rfl) (by kernel_rfl) ?_); (repeat (go_big_quiet_step (first | (go_at_call 93; first | exact upq_tr (szInt64S_any _ _ _ _ _ (by omega) (by omega) h2) | exact upq (szInt64S_any _ _ _ _ _ (by omega) (by omega) h2))))); refine wpQuiet_nil ?_; intro _ hw'; obtain ⟨nq, hw''⟩ := hw'; subst hw''))
    go_ret
    exact ⟨ret_int (by first | rfl | exact hs'.out.symm), UpOf.of (by repeat (first | exact Below.refl _ _ | refine bl_tr ?_ _ | refine bl_al ?_ _ | refine bl_dr ?_ | refine bl_up ?_ _ | refine Below.drew ?_ | refine bl_alloc ?_ _ | refine Below.setCell ?_ (by first | (simp; done) | (simp; omega)) _))⟩
  · have hs : szR k x.many.length = k - (x.many.length : Int) := szR_ok q2
    have hs' := Lib.hid hs
    go_enter Try.func75, Try.ntmps75
    go_wp2_with (first | (go_at_call 93; refine (szInt64S_any _ _ _ _ _ (by omega) (by omega) h2).mono ?_; rintro e w' ⟨rfl, g, rfl⟩) | ((with_reducible refine wp_region_up (by kernel_rfl) (by kernel_rfl) ?_); (repeat (go_big_quiet_step (first | (go_at_call 93; first | exact upq_tr (szInt64S_any _ _ _ _ _ (by omega) (by omega) h2) | exact upq (szInt64S_any _ _ _ _ _ (by omega) (by omega) h2))))); refine wpQuiet_nil ?_; intro _ hw'; obtain ⟨nq, hw''⟩ := hw'; subst hw''))
    go_ret
    exact ⟨ret_int (by first | rfl | exact hs'.out.symm), UpOf.of (by repeat (first | exact Below.refl _ _ | refine bl_tr ?_ _ | refine bl_al ?_ _ | refine bl_dr ?_ | refine bl_up ?_ _ | refine Below.drew ?_ | refine bl_alloc ?_ _ | refine Below.setCell ?_ (by first | (simp; done) | (simp; omega)) _))⟩
set_option maxRecDepth 10000 in
theorem szOfferS_any (A : Option Addr) (c : Nat) (l : List Offer) (k : Int) (w : World) (h : OSee w A l) (hk : 0 ≤ k) (hk1 : k ≤ 1048576) (hn : l.length ≤ 9223372036854775807) (hf : OFit l) :
    Calls Try.prog 40 #[.slice A l.length c, i64 k] w fun e w' => e = .returned (i64 (szR k (oTot l))) ∧ UpOf w w' := by
  have HF := Lib.hid hf
  have ht : Hid ((oTot l : Int) = l.length + oTotN l l.length) := by show (oTot l : Int) = _; simp [oTot]
  clear hf
  by_cases q : k < l.length
  · go_enter Try.func40, Try.ntmps40
    go_wp2_with (first | ((with_reducible refine wp_region_up (by kernel_rfl) (by kernel_rfl) ?_); (repeat (go_big_quiet_step (fail))); refine wpQuiet_nil ?_; intro _ hw'; obtain ⟨nq, hw''⟩ := hw'; subst hw''))
    go_ret
    exact ⟨ret_int (by rw [szR_no (by have := ht.out; omega)]), UpOf.of (by repeat (first | exact Below.refl _ _ | refine bl_tr ?_ _ | refine bl_al ?_ _ | refine bl_dr ?_ | refine bl_up ?_ _ | refine Below.drew ?_ | refine bl_alloc ?_ _ | refine Below.setCell ?_ (by first | (simp; done) | (simp; omega)) _))⟩
  · go_enter Try.func40, Try.ntmps40
    go_wp2_with (first | ((with_reducible refine wp_region_up (by kernel_rfl) (by kernel_rfl) ?_); (repeat (go_big_quiet_step (fail))); refine wpQuiet_nil ?_; intro _ hw'; obtain ⟨nq, hw''⟩ := hw'; subst hw''))
    go_loopw [1, 5] (fun lf i wr => ∃ j : Nat, j ≤ l.length ∧ i = i64 j ∧ lf = i64 (k - l.length - oTotN l j) ∧ (l.length : Int) + oTotN l j ≤ k ∧ ∃ g : Up w, wr = up w g) (fun _ i _ => l.length - (intOf i).toNat)
    case atStart => exact ⟨0, by omega, rfl, by simp [oTotN], by simp [oTotN]; omega, ex_up (by repeat (first | exact Below.refl _ _ | refine bl_tr ?_ _ | refine bl_al ?_ _ | refine bl_dr ?_ | refine bl_up ?_ _ | refine Below.drew ?_ | refine bl_alloc ?_ _ | refine Below.setCell ?_ (by first | (simp; done) | (simp; omega)) _))⟩
    case round =>
      obtain ⟨j, hj, rfl, rfl, hle, g, rfl⟩ := hrel
      by_cases hlt : j < l.length
      · obtain ⟨b, off, Ai, ci, rfl, hb, c0, c1, _⟩ := offer_at h hlt
        have hN := Lib.hid (show oTotN l (j + 1) = oTotN l j + (oat l j).many.length from rfl)
        have hm := Lib.hid (oTotN_mono l (j + 1) (l.length - (j + 1)))
        by_cases q2 : k - l.length - oTotN l j < (oat l j).many.length
        · have hs2 : szR (k - (l.length : Int) - oTotN l j) (oat l j).many.length = -1 := szR_no q2
          go_wp2_with (first | (go_at_call 75; refine (szOffer_any _ _ _ _ _ (by omega) (by omega) (HF.out j hlt)).mono ?_; rintro e w' ⟨rfl, g, rfl⟩) | ((with_reducible refine wp_region_up (by kernel_rfl) (by kernel_rfl) ?_); (repeat (go_big_quiet_step (first | (go_at_call 75; first | exact upq_tr (szOffer_any _ _ _ _ _ (by omega) (by omega) (HF.out j hlt)) | exact upq (szOffer_any _ _ _ _ _ (by omega) (by omega) (HF.out j hlt)))))); refine wpQuiet_nil ?_; intro _ hw'; obtain ⟨nq, hw''⟩ := hw'; subst hw''))
          go_ret
          refine ⟨ret_int ?_, UpOf.of (by repeat (first | exact Below.refl _ _ | refine bl_tr ?_ _ | refine bl_al ?_ _ | refine bl_dr ?_ | refine bl_up ?_ _ | refine Below.drew ?_ | refine bl_alloc ?_ _ | refine Below.setCell ?_ (by first | (simp; done) | (simp; omega)) _))⟩
          have h1 := hN.out
          have h2 := hm.out
          have h3 := ht.out
          rw [show j + 1 + (l.length - (j + 1)) = l.length by omega] at h2
          rw [szR_no (by omega)]
        · have hs2 : szR (k - (l.length : Int) - oTotN l j) (oat l j).many.length = k - (l.length : Int) - oTotN l j - (oat l j).many.length := szR_ok q2
          go_wp2_with (first | (go_at_call 75; refine (szOffer_any _ _ _ _ _ (by omega) (by omega) (HF.out j hlt)).mono ?_; rintro e w' ⟨rfl, g, rfl⟩) | ((with_reducible refine wp_region_up (by kernel_rfl) (by kernel_rfl) ?_); (repeat (go_big_quiet_step (first | (go_at_call 75; first | exact upq_tr (szOffer_any _ _ _ _ _ (by omega) (by omega) (HF.out j hlt)) | exact upq (szOffer_any _ _ _ _ _ (by omega) (by omega) (HF.out j hlt)))))); refine wpQuiet_nil ?_; intro _ hw'; obtain ⟨nq, hw''⟩ := hw'; subst hw''))
          go_roundw
          case rel =>
            have h1 := hN.out
            exact ⟨j + 1, by omega, by go_num, by rw [h1]; go_num, by omega, ex_up (by repeat (first | exact Below.refl _ _ | refine bl_tr ?_ _ | refine bl_al ?_ _ | refine bl_dr ?_ | refine bl_up ?_ _ | refine Below.drew ?_ | refine bl_alloc ?_ _ | refine Below.setCell ?_ (by first | (simp; done) | (simp; omega)) _))⟩
          case measure => (simp [intOf]; try omega)
      · obtain rfl : j = l.length := by omega
        go_wp2_with (first | ((with_reducible refine wp_region_up (by kernel_rfl) (by kernel_rfl) ?_); (repeat (go_big_quiet_step (fail))); refine wpQuiet_nil ?_; intro _ hw'; obtain ⟨nq, hw''⟩ := hw'; subst hw''))
        go_ret
        refine ⟨ret_int ?_, UpOf.of (by repeat (first | exact Below.refl _ _ | refine bl_tr ?_ _ | refine bl_al ?_ _ | refine bl_dr ?_ | refine bl_up ?_ _ | refine Below.drew ?_ | refine bl_alloc ?_ _ | refine Below.setCell ?_ (by first | (simp; done) | (simp; omega)) _))⟩
        have h3 := ht.out
        rw [szR_ok (by omega)]
        omega
set_option maxHeartbeats 2000000 in
theorem toOffer_any (x : Offer) (A : Option Addr) (c : Nat) (w : World) (h : Rds w 1 A x.many.length (ics x.many)) (hn : x.many.length ≤ 100000000) :
    Calls Try.prog 77 #[.agg #[.slice A x.many.length c, i64 x.price]] w fun e w' => ∃ b : Nat, e = .returned (.agg #[.slice (some ⟨b, 0, none⟩) x.many.length x.many.length, i64 x.price]) ∧ w'.ownsRow w.heap.size 2 1 (.slice (some ⟨b, 0, none⟩) x.many.length x.many.length) x.many.length (ics x.many) ∧ UpOf w w' := by
  go_enter Try.func77, Try.ntmps77
  go_wp2_with fail
  refine (toInt64S_any _ _ x.many _ (h.below (by repeat (first | exact Below.refl _ _ | refine bl_tr ?_ _ | refine bl_al ?_ _ | refine bl_dr ?_ | refine bl_up ?_ _ | refine Below.drew ?_ | refine bl_alloc ?_ _ | refine Below.setCell ?_ (by first | (simp; done) | (simp; omega)) _))) hn).mono ?_
  rintro e w' ⟨b, rfl, o, g, rfl⟩
  have o' := own_from o (B := w.heap.size + 3) (by simp)
  clear o
  obtain ⟨B, hB, o'⟩ := o'
  go_wp2_with fail
  refine bodyPost_ret (v := .agg #[.slice (some ⟨b, 0, none⟩) x.many.length x.many.length, i64 x.price]) (by simp [results, Try.results77, go_sem]) rfl ⟨b, rfl, ?_, UpOf.of (by repeat (first | exact Below.refl _ _ | refine bl_tr ?_ _ | refine bl_al ?_ _ | refine bl_dr ?_ | refine bl_up ?_ _ | refine Below.drew ?_ | refine bl_alloc ?_ _ | refine Below.setCell ?_ (by first | (simp; done) | (simp; omega)) _))⟩
  exact own_mono (by repeat (first | exact o' | refine own_setOld ?_ (by show _ < B; simp; omega) _)) (show w.heap.size ≤ B by omega)
/-- list l lies from block lo on, each offer's own list in a block of its own -/
def OOwn (lo : Nat) (w : World) (b : Nat) (l : List Offer) (ps : List Ptr) : Prop :=
  ps.length = l.length ∧ lo ≤ b ∧ w.ownsRow lo 67 2 (.slice (some ⟨b, 0, none⟩) l.length l.length) l.length (ocs l ps) ∧
  (∀ i (h : i < l.length) (h2 : i < ps.length), w.ownsRow (b + 1) 2 1 (.slice ps[i].1 l[i].many.length ps[i].2) l[i].many.length (ics l[i].many)) ∧
  ∀ i j (hi : i < ps.length) (hj : j < ps.length), i ≠ j → ∀ k off, ps[i].1 = some ⟨k, off, none⟩ → ∀ off', ps[j].1 ≠ some ⟨k, off', none⟩
theorem OOwn.see {lo : Nat} {w : World} {b : Nat} {l : List Offer} {ps : List Ptr} (h : OOwn lo w b l ps) : OSee w (some ⟨b, 0, none⟩) l :=
  ⟨ps, h.1, Rds.of_own h.2.2.1, fun i a c => Rds.of_own (h.2.2.2.1 i a c)⟩
/-- the first k elements are there, as pointers ps tell -/
def oFirst (w : World) (b : Nat) (l : List Offer) (k : Nat) (ps : List Ptr) : Prop :=
  ps.length = k ∧ (∀ i (h : i < l.length) (h2 : i < ps.length), w.ownsRow (b + 1) 2 1 (.slice ps[i].1 l[i].many.length ps[i].2) l[i].many.length (ics l[i].many)) ∧
  ∀ i j (hi : i < ps.length) (hj : j < ps.length), i ≠ j → ∀ k off, ps[i].1 = some ⟨k, off, none⟩ → ∀ off', ps[j].1 ≠ some ⟨k, off', none⟩
theorem oset {l : List Offer} {ps : List Ptr} {ys : List Value} {k : Nat} {p : Ptr} (hps : ps.length = k) (hk : k < l.length) (hlen : ys.length = l.length * 2)
    (hys : ∀ i (hi : i < (l.zip ps).length) j, j < 2 → ys[i * 2 + j]? = (ocell (l.zip ps)[i])[j]?) :
    ∀ i (hi : i < (l.zip (ps ++ [p])).length) j, j < 2 → ((ys.set (k * 2) (.slice p.1 (oat l k).many.length p.2)).set (k * 2 + 1) (i64 (oat l k).price))[i * 2 + j]? = (ocell (l.zip (ps ++ [p]))[i])[j]? := by
  intro i hi j hj
  have hz : i < k + 1 := by rw [List.length_zip, List.length_append, List.length_singleton] at hi; omega
  by_cases hik : i = k
  · subst hik
    have e : (l.zip (ps ++ [p]))[i] = (oat l i, p) := by
      rw [List.getElem_zip, oat_eq hk, List.getElem_append_right (by omega)]
      simp [hps]
    rw [e]
    match j, hj with
    | 0, _ => rw [List.getElem?_set_ne (by omega), Nat.add_zero, List.getElem?_set_self (by omega)]; rfl
    | 1, _ => rw [List.getElem?_set_self (by rw [List.length_set]; omega)]; rfl
  · have h1 : i < (l.zip ps).length := by rw [List.length_zip]; omega
    rw [List.getElem?_set_ne (by omega), List.getElem?_set_ne (by omega), hys i h1 j hj, List.getElem_zip, List.getElem_zip, List.getElem_append_left (by omega)]
theorem ofirst_step {w w' : World} {b k b9 : Nat} {l : List Offer} {ps : List Ptr} (h : oFirst w b l k ps) (hk : k < l.length) (hb : b < w.heap.size)
    (ho : ∀ (base : Nat) (e : TypeId) (size : Nat) (v : Value) (n : Nat) (xs : List Value), b < base → w.ownsRow base e size v n xs → w'.ownsRow base e size v n xs)
    (o9 : w'.ownsRow w.heap.size 2 1 (.slice (some ⟨b9, 0, none⟩) (oat l k).many.length (oat l k).many.length) (oat l k).many.length (ics (oat l k).many)) :
    oFirst w' b l (k + 1) (ps ++ [(some ⟨b9, 0, none⟩, (oat l k).many.length)]) := by
  obtain ⟨h1, h2, h3⟩ := h
  refine ⟨by simp [h1], fun i hi hi2 => ?_, fun i j hi hj hne => ?_⟩
  · rw [List.length_append, List.length_singleton] at hi2
    by_cases hik : i = k
    · subst hik
      have e : (ps ++ [((some ⟨b9, 0, none⟩, (oat l i).many.length) : Ptr)])[i] = (some ⟨b9, 0, none⟩, (oat l i).many.length) := by
        rw [List.getElem_append_right (by omega)]; simp [h1]
      rw [e, oat_eq hi]
      exact own_mono o9 hb
    · rw [List.getElem_append_left (by omega)]
      exact ho _ _ _ _ _ _ (Nat.lt_succ_self _) (h2 i hi (by omega))
  · rw [List.length_append, List.length_singleton] at hi hj
    have hnew : ∀ i (hi : i < ps.length) k off, ps[i].1 = some ⟨k, off, none⟩ → k < w.heap.size := fun i hi k off e => by
      have := h2 i (by omega) hi
      rw [e] at this
      exact (own_block this rfl).2.1
    have hb9 := (own_block o9 rfl).1
    intro k' off e off' e'
    by_cases hik : i = k
    · have hjk : j < ps.length := by omega
      rw [List.getElem_append_left hjk] at e'
      have := hnew j hjk _ _ e'
      rw [List.getElem_append_right (by omega)] at e
      (simp at e; try omega)
    · have hil : i < ps.length := by omega
      rw [List.getElem_append_left hil] at e
      by_cases hjk : j = k
      · have := hnew i hil _ _ e
        rw [List.getElem_append_right (by omega)] at e'
        (simp at e'; try omega)
      · have hjl : j < ps.length := by omega
        rw [List.getElem_append_left hjl] at e'
        exact h3 i j hil hjl hne _ _ e _ e'
set_option maxRecDepth 10000 in
theorem toOfferS_any (A : Option Addr) (c : Nat) (l : List Offer) (w : World) (h : OSee w A l) (hn : l.length ≤ 100000000) (hf : ∀ i, i < l.length → (oat l i).many.length ≤ 100000000) :
    Calls Try.prog 42 #[.slice A l.length c] w fun e w' => ∃ (b : Nat) (ps : List Ptr), e = .returned (.slice (some ⟨b, 0, none⟩) l.length l.length) ∧ OOwn w.heap.size w' b l ps ∧ UpOf w w' := by
  have HF := Lib.hid hf
  clear hf
  have hi : (Try.prog.info? 67).map (fun i => (i.zero, i.size, i.bytes)) = some (some (.agg #[.slice none 0 0, i64 0]), 2, 32) := by kernel_rfl
  obtain ⟨i0, hi, hz0, hz1, hz2⟩ := info_parts hi
  have hmk : ∀ u : World, (Instr.makeSlice 50 (i64 l.length) (i64 l.length)).run Try.prog u = .ok (.slice (some ⟨u.heap.size, 0, none⟩) l.length l.length) (u.alloc (.cells (madeCells #[.slice none 0 0, i64 0] (l.length * 2)) 67)) := fun u => by
    have h := run_make (P := Try.prog) u 50 67 i0 _ Try.underlying50 hi hz0 .i64 .i64 l.length l.length (by omega) (Int.le_refl _) (by rw [hz2]; omega) (by omega)
    simpa [hz1, Value.cells] using h
  clear hi hz0 hz1 hz2
  go_enter Try.func42, Try.ntmps42
  go_wp2_with (first | ((with_reducible refine wp_region_up (by kernel_rfl) (by kernel_rfl) ?_); (repeat (go_big_quiet_step (fail))); refine wpQuiet_nil ?_; intro _ hw'; obtain ⟨nq, hw''⟩ := hw'; subst hw''))
  go_loopw [4] (fun i wr => ∃ k : Nat, k ≤ l.length ∧ i = i64 k ∧ ∃ ys ps, wr.ownsRow w.heap.size 67 2 (.slice (some ⟨w.heap.size, 0, none⟩) l.length l.length) l.length ys ∧ oFirst wr w.heap.size l k ps ∧
      (∀ i (hi : i < (l.zip ps).length) j, j < 2 → ys[i * 2 + j]? = (ocell (l.zip ps)[i])[j]?) ∧ Below w.heap.size w wr) (fun i _ => l.length - (intOf i).toNat)
  case atStart =>
    exact ⟨0, by omega, rfl, _, [], World.ownsRow_lit w _ l.length (Nat.le_refl _) (by unfold maxLen; omega) (size_madeCells _ _), ⟨rfl, fun i a b => by simp at b, fun i j a b => by simp at a⟩, fun i hi j hj => by simp at hi, (Below.refl _ _).alloc (Nat.le_refl _) _⟩
  case round =>
    obtain ⟨k, hk, rfl, ys, ps, hown, hfst, hys, hbel⟩ := hrel
    by_cases hlt : k < l.length
    · obtain ⟨b, off, Ai, ci, rfl, hb, c0, c1, r⟩ := offer_at (h.below hbel) hlt
      have hwl := (own_block hown rfl).2.1
      have hlen := hown.1
      have d0 := hown.cellAt (k * 2) (by omega)
      have d1 := hown.cellAt (k * 2 + 1) (by omega)
      rw [List.getElem?_eq_getElem (by omega)] at d0 d1
      have f0 := fun i => hown.frozenAt i
      have HY := Lib.hid hys
      have HFS := Lib.hid hfst
      clear hys h hfst
      go_wp2_with fail
      refine (toOffer_any (oat l k) _ _ _ (r.below (by repeat (first | exact Below.refl _ _ | refine bl_tr ?_ _ | refine bl_al ?_ _ | refine bl_dr ?_ | refine bl_up ?_ _ | refine Below.drew ?_ | refine bl_alloc ?_ _ | refine Below.setCell ?_ (by first | (simp; done) | (simp; omega)) _))) (HF.out k hlt)).mono ?_
      rintro e w' ⟨b9, rfl, o9, g, rfl⟩
      go_wp2_with fail
      go_roundw
      case rel =>
        go_light
        have s1 := (own_up hown g).stored (k * 2) (.slice (some ⟨b9, 0, none⟩) (oat l k).many.length (oat l k).many.length)
        have s2 := s1.1.stored (k * 2 + 1) (i64 (oat l k).price)
        refine ⟨k + 1, by omega, by go_num, _, ps ++ [(some ⟨b9, 0, none⟩, (oat l k).many.length)], s2.1, ?_, ?_, ?_⟩
        · exact ofirst_step HFS.out hlt hwl (fun base e size v n xs hb h => own_setOld (own_setOld (own_up h g) hb _) hb _) (own_setOld (own_setOld o9 hwl _) hwl _)
        · exact oset HFS.out.1 hlt hlen HY.out
        · exact ((hbel.trans (g.below.mono hbel.size)).setCell (Nat.le_refl _) _).setCell (Nat.le_refl _) _
      case measure => simp [intOf]; omega
    · go_wp2_with (first | ((with_reducible refine wp_region_up (by kernel_rfl) (by kernel_rfl) ?_); (repeat (go_big_quiet_step (fail))); refine wpQuiet_nil ?_; intro _ hw'; obtain ⟨nq, hw''⟩ := hw'; subst hw''))
      go_ret
      obtain rfl : k = l.length := by omega
      refine ⟨_, ps, rfl, ⟨hfst.1, Nat.le_refl _, ?_, hfst.2.1, hfst.2.2⟩, UpOf.of hbel⟩
      have hz : (l.zip ps).length = l.length := by rw [List.length_zip, hfst.1]; omega
      have hy : ys = ocs l ps := flat_ext ocell_len _ (by rw [hz]; exact hown.1) (fun i hi j hj => hys i hi j hj)
      rw [hy] at hown
      exact hown
theorem eqOffer_any (x : Offer) (A A' : Option Addr) (c c' : Nat) (w : World) (h : Rds w 1 A x.many.length (ics x.many)) (h' : Rds w 1 A' x.many.length (ics x.many)) (hn : x.many.length ≤ 100000000) :
    Calls Try.prog 79 #[.agg #[.slice A x.many.length c, i64 x.price], .agg #[.slice A' x.many.length c', i64 x.price]] w fun e w' => e = .returned (.bool true) ∧ UpOf w w' := by
  go_enter Try.func79, Try.ntmps79
  go_wp2_with (first | (go_at_call 31; refine (eqInt64S_any _ _ _ _ x.many _ (h.below (by repeat (first | exact Below.refl _ _ | refine bl_tr ?_ _ | refine bl_al ?_ _ | refine bl_dr ?_ | refine bl_up ?_ _ | refine Below.drew ?_ | refine bl_alloc ?_ _ | refine Below.setCell ?_ (by first | (simp; done) | (simp; omega)) _))) (h'.below (by repeat (first | exact Below.refl _ _ | refine bl_tr ?_ _ | refine bl_al ?_ _ | refine bl_dr ?_ | refine bl_up ?_ _ | refine Below.drew ?_ | refine bl_alloc ?_ _ | refine Below.setCell ?_ (by first | (simp; done) | (simp; omega)) _))) hn).mono ?_; rintro e w' ⟨rfl, g, rfl⟩) | ((with_reducible refine wp_region_up (by kernel_rfl) (by kernel_rfl) ?_); (repeat (go_big_quiet_step (first | (go_at_call 31; first | exact upq_tr (eqInt64S_any _ _ _ _ x.many _ (h.below (by repeat (first | exact Below.refl _ _ | refine bl_tr ?_ _ | refine bl_al ?_ _ | refine bl_dr ?_ | refine bl_up ?_ _ | refine Below.drew ?_ | refine bl_alloc ?_ _ | refine Below.setCell ?_ (by first | (simp; done) | (simp; omega)) _))) (h'.below (by repeat (first | exact Below.refl _ _ | refine bl_tr ?_ _ | refine bl_al ?_ _ | refine bl_dr ?_ | refine bl_up ?_ _ | refine Below.drew ?_ | refine bl_alloc ?_ _ | refine Below.setCell ?_ (by first | (simp; done) | (simp; omega)) _))) hn) | exact upq (eqInt64S_any _ _ _ _ x.many _ (h.below (by repeat (first | exact Below.refl _ _ | refine bl_tr ?_ _ | refine bl_al ?_ _ | refine bl_dr ?_ | refine bl_up ?_ _ | refine Below.drew ?_ | refine bl_alloc ?_ _ | refine Below.setCell ?_ (by first | (simp; done) | (simp; omega)) _))) (h'.below (by repeat (first | exact Below.refl _ _ | refine bl_tr ?_ _ | refine bl_al ?_ _ | refine bl_dr ?_ | refine bl_up ?_ _ | refine Below.drew ?_ | refine bl_alloc ?_ _ | refine Below.setCell ?_ (by first | (simp; done) | (simp; omega)) _))) hn))))); refine wpQuiet_nil ?_; intro _ hw'; obtain ⟨nq, hw''⟩ := hw'; subst hw''))
  go_ret
  exact ⟨rfl, UpOf.of (by repeat (first | exact Below.refl _ _ | refine bl_tr ?_ _ | refine bl_al ?_ _ | refine bl_dr ?_ | refine bl_up ?_ _ | refine Below.drew ?_ | refine bl_alloc ?_ _ | refine Below.setCell ?_ (by first | (simp; done) | (simp; omega)) _))⟩
set_option maxRecDepth 10000 in
theorem eqOfferS_any (A A' : Option Addr) (c c' : Nat) (l : List Offer) (w : World) (h : OSee w A l) (h' : OSee w A' l) (hn : l.length ≤ 100000000) (hf : ∀ i, i < l.length → (oat l i).many.length ≤ 100000000) :
    Calls Try.prog 44 #[.slice A l.length c, .slice A' l.length c'] w fun e w' => e = .returned (.bool true) ∧ UpOf w w' := by
  have HF := Lib.hid hf
  clear hf
  go_enter Try.func44, Try.ntmps44
  go_wp2_with (first | ((with_reducible refine wp_region_up (by kernel_rfl) (by kernel_rfl) ?_); (repeat (go_big_quiet_step (fail))); refine wpQuiet_nil ?_; intro _ hw'; obtain ⟨nq, hw''⟩ := hw'; subst hw''))
  go_loopw [5] (fun i wr => ∃ k : Nat, k ≤ l.length ∧ i = .int .i64 k ∧ ∃ g : Up w, wr = up w g) (fun i _ => l.length - (intOf i).toNat)
  case atStart => exact ⟨0, by omega, rfl, ⟨w, Below.refl _ _⟩, rfl⟩
  case round =>
    obtain ⟨k, hk, rfl, g, rfl⟩ := hrel
    by_cases hlt : k < l.length
    · obtain ⟨b, off, Ai, ci, rfl, hb, c0, c1, r⟩ := offer_at h hlt
      obtain ⟨b', off', Ai', ci', rfl, hb', d0, d1, r'⟩ := offer_at h' hlt
      clear h h'
      go_wp2_with (first | (go_at_call 79; refine (eqOffer_any _ _ _ _ _ _ (r.below (by repeat (first | exact Below.refl _ _ | refine bl_tr ?_ _ | refine bl_al ?_ _ | refine bl_dr ?_ | refine bl_up ?_ _ | refine Below.drew ?_ | refine bl_alloc ?_ _ | refine Below.setCell ?_ (by first | (simp; done) | (simp; omega)) _))) (r'.below (by repeat (first | exact Below.refl _ _ | refine bl_tr ?_ _ | refine bl_al ?_ _ | refine bl_dr ?_ | refine bl_up ?_ _ | refine Below.drew ?_ | refine bl_alloc ?_ _ | refine Below.setCell ?_ (by first | (simp; done) | (simp; omega)) _))) (HF.out k hlt)).mono ?_; rintro e w' ⟨rfl, g, rfl⟩) | ((with_reducible refine wp_region_up (by kernel_rfl) (by kernel_rfl) ?_); (repeat (go_big_quiet_step (first | (go_at_call 79; first | exact upq_tr (eqOffer_any _ _ _ _ _ _ (r.below (by repeat (first | exact Below.refl _ _ | refine bl_tr ?_ _ | refine bl_al ?_ _ | refine bl_dr ?_ | refine bl_up ?_ _ | refine Below.drew ?_ | refine bl_alloc ?_ _ | refine Below.setCell ?_ (by first | (simp; done) | (simp; omega)) _))) (r'.below (by repeat (first | exact Below.refl _ _ | refine bl_tr ?_ _ | refine bl_al ?_ _ | refine bl_dr ?_ | refine bl_up ?_ _ | refine Below.drew ?_ | refine bl_alloc ?_ _ | refine Below.setCell ?_ (by first | (simp; done) | (simp; omega)) _))) (HF.out k hlt)) | exact upq (eqOffer_any _ _ _ _ _ _ (r.below (by repeat (first | exact Below.refl _ _ | refine bl_tr ?_ _ | refine bl_al ?_ _ | refine bl_dr ?_ | refine bl_up ?_ _ | refine Below.drew ?_ | refine bl_alloc ?_ _ | refine Below.setCell ?_ (by first | (simp; done) | (simp; omega)) _))) (r'.below (by repeat (first | exact Below.refl _ _ | refine bl_tr ?_ _ | refine bl_al ?_ _ | refine bl_dr ?_ | refine bl_up ?_ _ | refine Below.drew ?_ | refine bl_alloc ?_ _ | refine Below.setCell ?_ (by first | (simp; done) | (simp; omega)) _))) (HF.out k hlt)))))); refine wpQuiet_nil ?_; intro _ hw'; obtain ⟨nq, hw''⟩ := hw'; subst hw''))
      go_roundw
      case rel => exact ⟨k + 1, by omega, by go_num, ex_up (by repeat (first | exact Below.refl _ _ | refine bl_tr ?_ _ | refine bl_al ?_ _ | refine bl_dr ?_ | refine bl_up ?_ _ | refine Below.drew ?_ | refine bl_alloc ?_ _ | refine Below.setCell ?_ (by first | (simp; done) | (simp; omega)) _))⟩
      case measure => simp [intOf]; omega
    · go_wp2_with (first | ((with_reducible refine wp_region_up (by kernel_rfl) (by kernel_rfl) ?_); (repeat (go_big_quiet_step (fail))); refine wpQuiet_nil ?_; intro _ hw'; obtain ⟨nq, hw''⟩ := hw'; subst hw''))
      go_ret
      exact ⟨rfl, UpOf.of (by repeat (first | exact Below.refl _ _ | refine bl_tr ?_ _ | refine bl_al ?_ _ | refine bl_dr ?_ | refine bl_up ?_ _ | refine Below.drew ?_ | refine bl_alloc ?_ _ | refine Below.setCell ?_ (by first | (simp; done) | (simp; omega)) _))⟩
end Go.Proofs.Ytiibpldfnnhhlaa

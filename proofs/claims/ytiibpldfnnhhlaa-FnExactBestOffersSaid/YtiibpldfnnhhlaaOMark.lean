/-
  The laws' marks on a list of offers: only its own blocks change. The bounds stand at it.
-/
import Derived.Test.YtiibpldfnnhhlaaWMark
import Derived.Test.YtiibpldfnnhhlaaOffers
namespace Go.Proofs.Ytiibpldfnnhhlaa
open Go.RowKit
/-- a list of offers that may be written: all its blocks lie from lo to hi -/
structure OShape (lo hi : Nat) (w : World) (b : Nat) (l : List Offer) (ps : List Ptr) : Prop where
  len : ps.length = l.length
  blo : lo ≤ b
  bhi : b < hi
  phi : ∀ i (h : i < ps.length) k off, ps[i].1 = some ⟨k, off, none⟩ → k < hi
  row : ∃ ys, w.ownsRow lo 67 2 (.slice (some ⟨b, 0, none⟩) l.length l.length) l.length ys ∧ ∀ i (h : i < l.length) (h2 : i < ps.length), ys[i * 2]? = some (.slice ps[i].1 l[i].many.length ps[i].2)
  inner : ∀ i (h : i < l.length) (h2 : i < ps.length), ∃ xs, w.ownsRow (b + 1) 2 1 (.slice ps[i].1 l[i].many.length ps[i].2) l[i].many.length xs
  apart : ∀ i j (hi : i < ps.length) (hj : j < ps.length), i ≠ j → ∀ k off, ps[i].1 = some ⟨k, off, none⟩ → ∀ off', ps[j].1 ≠ some ⟨k, off', none⟩
theorem OOwn.shape {lo : Nat} {w : World} {b : Nat} {l : List Offer} {ps : List Ptr} (h : OOwn lo w b l ps) : OShape lo w.heap.size w b l ps := by
  obtain ⟨h1, h2, h3, h4, h5⟩ := h
  refine ⟨h1, h2, (own_block h3 rfl).2.1, fun i hi k off e => ?_, ⟨_, h3, fun i hi hi2 => ?_⟩, fun i hi hi2 => ⟨_, h4 i hi hi2⟩, h5⟩
  · have := h4 i (by omega) hi
    rw [e] at this
    exact (own_block this rfl).2.1
  · have hz : i < (l.zip ps).length := by rw [List.length_zip]; omega
    have := flat_get ocell_len (l.zip ps) hz (j := 0) (by omega)
    rw [Nat.add_zero] at this
    rw [ocs, this, List.getElem_zip]
    rfl
theorem OShape.up {lo hi : Nat} {w : World} {b : Nat} {l : List Offer} {ps : List Ptr} (h : OShape lo hi w b l ps) (g : Up w) : OShape lo hi (up w g) b l ps := by
  obtain ⟨h1, h2, h3, h4, ⟨ys, h5, h6⟩, h7, h8⟩ := h
  exact ⟨h1, h2, h3, h4, ⟨ys, own_up h5 g, h6⟩, fun i a c => by obtain ⟨xs, hx⟩ := h7 i a c; exact ⟨xs, own_up hx g⟩, h8⟩
theorem OShape.below {lo hi : Nat} {w w' : World} {b : Nat} {l : List Offer} {ps : List Ptr} (h : OShape lo hi w b l ps) (g : Below w.heap.size w w') : OShape lo hi w' b l ps := h.up ⟨w', g⟩
theorem OShape.only {lo hi lo' hi' : Nat} {w w' : World} {b : Nat} {l : List Offer} {ps : List Ptr} (h : OShape lo hi w b l ps) (g : Only lo' hi' w w') (hh : hi' ≤ lo) : OShape lo hi w' b l ps := by
  obtain ⟨h1, h2, h3, h4, ⟨ys, h5, h6⟩, h7, h8⟩ := h
  exact ⟨h1, h2, h3, h4, ⟨ys, g.own h5 (.inl hh), h6⟩, fun i a c => by obtain ⟨xs, hx⟩ := h7 i a c; exact ⟨xs, g.own hx (.inl (by omega))⟩, h8⟩
/-- how many marks k offers take -/
def oMk (l : List Offer) : Nat → Nat
  | 0 => 0
  | k + 1 => oMk l k + (oat l k).many.length + 1
theorem oMk_bd (l : List Offer) (k : Nat) : oMk l k ≤ k + oTotN l k := by
  induction k with
  | zero => simp [oMk]
  | succ k ih => rw [oMk, oTotN]; omega
theorem oMk_bd1 {l : List Offer} (h : oTot l ≤ 1048576) : oMk l l.length ≤ 10000000 := by
  have := oMk_bd l l.length
  unfold oTot at h
  omega
theorem oMk_mono (l : List Offer) (i j : Nat) : oMk l i ≤ oMk l (i + j) := by
  induction j with
  | zero => exact Nat.le_refl _
  | succ j ih => exact Nat.le_trans ih (by rw [← Nat.add_assoc, oMk]; omega)
/-- one offer marked: its own list written, its price stored -/
theorem omark_step {lo hi b k : Nat} {l : List Offer} {ps : List Ptr} {w w2 : World} (HS : OShape lo hi w b l ps) (hk : k < l.length) (hkp : k < ps.length) (g : Up w) (u : Value) {xs' : List Value}
    (m2 : w2.ownsRow (b + 1) 2 1 (.slice ps[k].1 l[k].many.length ps[k].2) l[k].many.length xs') (hg2 : (up w g).grownBy w2 (Value.slice ps[k].1 l[k].many.length ps[k].2).ownBlock) :
    OShape lo hi (w2.setCell ⟨b, k * 2 + 1, none⟩ u) b l ps ∧ Only lo hi w (w2.setCell ⟨b, k * 2 + 1, none⟩ u) := by
  obtain ⟨h1, h2, h3, h4, ⟨ys, h5, h6⟩, h7, h8⟩ := HS
  have hbl : ∀ j, (Value.slice ps[k].1 l[k].many.length ps[k].2).ownBlock = some j → b + 1 ≤ j ∧ j < hi := fun j hj => by
    refine ⟨(m2.lt j hj).1, ?_⟩
    match hA : ps[k].1, hj with
    | some ⟨q, o, s⟩, hj =>
      have hj' : q = j := by simpa [Value.ownBlock] using hj
      have hs : s = none := by
        rcases m2.2 with ⟨hv, _⟩ | ⟨g', cap, cur, hv, _⟩
        · rw [hA] at hv; simp at hv
        · rw [hA] at hv; simp at hv; exact hv.1.2.2
      subst hj'; subst hs
      exact h4 k hkp q o hA
    | none, hj => simp [Value.ownBlock] at hj
  have o5 := (own_up h5 g).kept hg2 (by
    cases hv : (Value.slice ps[k].1 l[k].many.length ps[k].2).ownBlock with
    | none => exact .inr (by simp [Value.ownBlock])
    | some j =>
      have := (hbl j hv).1
      exact .inr (by simp [Value.ownBlock]; omega))
  refine ⟨⟨h1, h2, h3, h4, ⟨_, (o5.stored (k * 2 + 1) u).1, fun i hi hi2 => ?_⟩, fun i hi hi2 => ?_, h8⟩, ?_⟩
  · rw [set_other (by omega)]
    exact h6 i hi hi2
  · by_cases hik : i = k
    · subst hik
      exact ⟨_, own_setOld m2 (p := ⟨b, i * 2 + 1, none⟩) (by show b < b + 1; omega) u⟩
    · obtain ⟨xs, hx⟩ := h7 i hi hi2
      refine ⟨xs, own_setOld ((own_up hx g).kept hg2 ?_) (p := ⟨b, k * 2 + 1, none⟩) (by show b < b + 1; omega) u⟩
      cases hv : (Value.slice ps[i].1 l[i].many.length ps[i].2).ownBlock with
      | none => exact .inl rfl
      | some j =>
        refine .inr fun he => ?_
        have form : ∀ n (hn : n < ps.length) (hnl : n < l.length) c, (Value.slice ps[n].1 l[n].many.length ps[n].2).ownBlock = some c → ∃ o s, ps[n].1 = some ⟨c, o, s⟩ := fun n hn hnl c hc => by
          match hA : ps[n].1 with
          | some ⟨q, o, s⟩ => rw [hA] at hc; simp [Value.ownBlock] at hc; subst hc; exact ⟨o, s, rfl⟩
          | none => rw [hA] at hc; simp [Value.ownBlock] at hc
        obtain ⟨o, s, e1⟩ := form i hi2 hi j hv
        obtain ⟨o', s', e2⟩ := form k hkp hk j he.symm
        have hs : s = none := by
          rcases hx.2 with ⟨hv', _⟩ | ⟨g', cap, cur, hv', _⟩
          · rw [e1] at hv'; simp at hv'
          · rw [e1] at hv'; simp at hv'; exact hv'.1.2.2
        have hs' : s' = none := by
          rcases m2.2 with ⟨hv', _⟩ | ⟨g', cap, cur, hv', _⟩
          · rw [e2] at hv'; simp at hv'
          · rw [e2] at hv'; simp at hv'; exact hv'.1.2.2
        subst hs hs'
        exact h8 i k hi2 hkp hik j o e1 o' e2
  · exact ((((Only.refl lo hi w).up g).grown hg2 fun j hj => by have := hbl j hj; omega)).set (p := ⟨b, k * 2 + 1, none⟩) ⟨h2, h3⟩ u
set_option maxRecDepth 10000 in
set_option maxHeartbeats 1000000 in
theorem markOfferS_any (lo hi b k0 : Nat) (l : List Offer) (ps : List Ptr) (w : World) (h : OShape lo hi w b l ps) (hk0 : 1 ≤ k0) (hn : k0 + oMk l l.length < 1000000000) (hl : l.length ≤ 100000000) :
    Calls Try.prog 49 #[.slice (some ⟨b, 0, none⟩) l.length l.length, i64 k0] w fun e w' => e = .returned (i64 ((k0 + oMk l l.length : Nat) : Int)) ∧ OShape lo hi w' b l ps ∧ Only lo hi w w' := by
  go_enter Try.func49, Try.ntmps49
  go_wp2_with (first | ((with_reducible refine wp_region_up (by kernel_rfl) (by kernel_rfl) ?_); (repeat (go_big_quiet_step (fail))); refine wpQuiet_nil ?_; intro _ hw'; obtain ⟨nq, hw''⟩ := hw'; subst hw''))
  go_loopw [1, 5] (fun kk i wr => ∃ k : Nat, k ≤ l.length ∧ i = i64 k ∧ kk = i64 ((k0 + oMk l k : Nat) : Int) ∧ OShape lo hi wr b l ps ∧ Only lo hi w wr) (fun _ i _ => l.length - (intOf i).toNat)
  case atStart => exact ⟨0, by omega, rfl, by simp [oMk], h, Only.refl _ _ _⟩
  case round =>
    obtain ⟨k, hk, rfl, rfl, hsh, hon⟩ := hrel
    clear h
    by_cases hlt : k < l.length
    · have HS := Lib.hid hsh
      have HO := Lib.hid hon
      have hN := Lib.hid (show oMk l (k + 1) = oMk l k + (oat l k).many.length + 1 from rfl)
      have hM := oMk_mono l (k + 1) (l.length - (k + 1))
      rw [show k + 1 + (l.length - (k + 1)) = l.length by omega, hN.out] at hM
      obtain ⟨h1, h2, h3, h4, ⟨ys, h5, h6⟩, h7, h8⟩ := hsh
      have hlen := h5.1
      have hkp : k < ps.length := by omega
      obtain ⟨xs, o7⟩ := h7 k hlt hkp
      have e6 := h6 k hlt hkp
      rw [oat_eq hlt] at o7 e6
      have O7 := Lib.hid o7
      have d0 := h5.cellAt (k * 2) (by omega)
      have d1 := h5.cellAt (k * 2 + 1) (by omega)
      rw [e6] at d0
      rw [List.getElem?_eq_getElem (by omega)] at d1
      have f0 := fun i => h5.frozenAt i
      have hbw := (own_block h5 rfl).2.1
      have H5 := Lib.hid h5
      have H6 := Lib.hid h6
      clear h5 h6 h7 h8 hon o7
      go_wp2_with fail
      refine (markInt64S_any (b + 1) _ _ _ (k0 + oMk l k) xs _ (own_below O7.out (by repeat (first | exact Below.refl _ _ | refine bl_tr ?_ _ | refine bl_al ?_ _ | refine bl_dr ?_ | refine bl_up ?_ _ | refine Below.drew ?_ | refine bl_alloc ?_ _ | refine Below.setCell ?_ (by first | (simp; done) | (simp; omega)) _))) (by omega) (by omega)).mono ?_
      rintro e w' ⟨rfl, m2, hg2⟩
      rw [← oat_eq hlt] at m2 hg2
      have hgb : ∀ j, (Value.slice ps[k].1 l[k].many.length ps[k].2).ownBlock = some j → b + 1 ≤ j := fun j hj => (m2.lt j hj).1
      have st := Lib.hid (fun u => omark_step HS.out hlt hkp ⟨wr, Below.refl _ _⟩ u m2 hg2)
      have d1' : ∃ u, w'.cell? ⟨b, k * 2 + 1, none⟩ = some u := ⟨_, (hg2.cell_far ⟨b, k * 2 + 1, none⟩ hbw (fun e => by have := hgb b e.symm; omega)).trans d1⟩
      obtain ⟨u1, d1'⟩ := d1'
      have f1 : w'.frozen? ⟨b, k * 2 + 1, none⟩ = false := (World.frozen?_of_block (w := wr) (a := ⟨b, k * 2 + 1, none⟩) (hg2.block b hbw (fun e => by have := hgb b e.symm; omega))).trans (f0 _)
      have hbw2 : b < w'.heap.size := Nat.lt_of_lt_of_le hbw hg2.size
      clear m2 hg2 d0 d1 f0 hbw hgb
      go_wp2_with fail
      go_roundw
      case rel => exact ⟨k + 1, by omega, by go_num, by rw [hN.out]; go_num, (st.out _).1, HO.out.trans (st.out _).2⟩
      case measure => (simp [intOf]; try omega)
    · go_wp2_with (first | ((with_reducible refine wp_region_up (by kernel_rfl) (by kernel_rfl) ?_); (repeat (go_big_quiet_step (fail))); refine wpQuiet_nil ?_; intro _ hw'; obtain ⟨nq, hw''⟩ := hw'; subst hw''))
      go_ret
      obtain rfl : k = l.length := by omega
      exact ⟨rfl, hsh, hon⟩
end Go.Proofs.Ytiibpldfnnhhlaa

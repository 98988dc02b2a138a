/-
  The laws' marks on a list of wares: only its own blocks change. The bounds stand at it.
-/
import Derived.Test.YtiibpldfnnhhlaaWares
import Derived.Test.YtiibpldfnnhhlaaOnly
import Derived.Test.YtiibpldfnnhhlaaMark
namespace Go.Proofs.Ytiibpldfnnhhlaa
open Go.RowKit
/-- a list of wares that may be written: all its blocks lie from lo to hi -/
structure WShape (lo hi : Nat) (w : World) (b : Nat) (l : List Ware) (ps : List Ptr) : Prop where
  len : ps.length = l.length
  blo : lo ≤ b
  bhi : b < hi
  phi : ∀ i (h : i < ps.length) k off, ps[i].1 = some ⟨k, off, none⟩ → k < hi
  row : ∃ ys, w.ownsRow lo 74 2 (.slice (some ⟨b, 0, none⟩) l.length l.length) l.length ys ∧ ∀ i (h : i < l.length) (h2 : i < ps.length), ys[i * 2 + 1]? = some (.slice ps[i].1 l[i].brs.length ps[i].2)
  inner : ∀ i (h : i < l.length) (h2 : i < ps.length), ∃ xs, w.ownsRow (b + 1) 76 2 (.slice ps[i].1 l[i].brs.length ps[i].2) l[i].brs.length xs
  apart : ∀ i j (hi : i < ps.length) (hj : j < ps.length), i ≠ j → ∀ k off, ps[i].1 = some ⟨k, off, none⟩ → ∀ off', ps[j].1 ≠ some ⟨k, off', none⟩
theorem WOwn.shape {lo : Nat} {w : World} {b : Nat} {l : List Ware} {ps : List Ptr} (h : WOwn lo w b l ps) : WShape lo w.heap.size w b l ps := by
  obtain ⟨h1, h2, h3, h4, h5⟩ := h
  refine ⟨h1, h2, (own_block h3 rfl).2.1, fun i hi k off e => ?_, ⟨_, h3, fun i hi hi2 => ?_⟩, fun i hi hi2 => ⟨_, h4 i hi hi2⟩, h5⟩
  · have := h4 i (by omega) hi
    rw [e] at this
    exact (own_block this rfl).2.1
  · have hz : i < (l.zip ps).length := by rw [List.length_zip]; omega
    have := flat_get wcell_len (l.zip ps) hz (j := 1) (by omega)
    rw [wcs, this, List.getElem_zip]
    rfl
theorem WShape.up {lo hi : Nat} {w : World} {b : Nat} {l : List Ware} {ps : List Ptr} (h : WShape lo hi w b l ps) (g : Up w) : WShape lo hi (up w g) b l ps := by
  obtain ⟨h1, h2, h3, h4, ⟨ys, h5, h6⟩, h7, h8⟩ := h
  exact ⟨h1, h2, h3, h4, ⟨ys, own_up h5 g, h6⟩, fun i a c => by obtain ⟨xs, hx⟩ := h7 i a c; exact ⟨xs, own_up hx g⟩, h8⟩
theorem WShape.below {lo hi : Nat} {w w' : World} {b : Nat} {l : List Ware} {ps : List Ptr} (h : WShape lo hi w b l ps) (g : Below w.heap.size w w') : WShape lo hi w' b l ps := h.up ⟨w', g⟩
/-- how many marks k wares take -/
def wMk (l : List Ware) : Nat → Nat
  | 0 => 0
  | k + 1 => wMk l k + 1 + 2 * (wat l k).brs.length
theorem wMk_bd (l : List Ware) (k : Nat) : wMk l k ≤ k + 2 * wTotN l k := by
  induction k with
  | zero => simp [wMk]
  | succ k ih => rw [wMk, wTotN]; unfold wTot1; omega
theorem wMk_bd1 {l : List Ware} (h : wTot l ≤ 1048576) : wMk l l.length ≤ 10000000 := by
  have := wMk_bd l l.length
  unfold wTot at h
  omega
theorem wMk_mono (l : List Ware) (i j : Nat) : wMk l i ≤ wMk l (i + j) := by
  induction j with
  | zero => exact Nat.le_refl _
  | succ j ih => exact Nat.le_trans ih (by rw [← Nat.add_assoc, wMk]; omega)
theorem set_other {ys : List Value} {i j : Nat} {u : Value} (h : i ≠ j) : (ys.set i u)[j]? = ys[j]? := List.getElem?_set_ne h
/-- one ware marked: its name stored, its own list written -/
theorem wmark_step {lo hi b k : Nat} {l : List Ware} {ps : List Ptr} {w w2 : World} (HS : WShape lo hi w b l ps) (hk : k < l.length) (hkp : k < ps.length) (g : Up w) (u : Value) {xs' : List Value}
    (m2 : w2.ownsRow (b + 1) 76 2 (.slice ps[k].1 l[k].brs.length ps[k].2) l[k].brs.length xs') (hg2 : ((up w g).setCell ⟨b, k * 2, none⟩ u).grownBy w2 (Value.slice ps[k].1 l[k].brs.length ps[k].2).ownBlock) :
    WShape lo hi w2 b l ps ∧ Only lo hi w w2 := by
  obtain ⟨h1, h2, h3, h4, ⟨ys, h5, h6⟩, h7, h8⟩ := HS
  have hbl : ∀ j, (Value.slice ps[k].1 l[k].brs.length ps[k].2).ownBlock = some j → b + 1 ≤ j ∧ j < hi := fun j hj => by
    refine ⟨(m2.lt j hj).1, ?_⟩
    match hA : ps[k].1, hj with
    | some ⟨q, o, s⟩, hj =>
      have hj' : q = j := by simpa [Value.ownBlock] using hj
      have hs : s = none := by
        rcases m2.2 with ⟨hv, _⟩ | ⟨g', cap, cur, hv, _⟩
        · rw [hA] at hv; simp at hv
        · rw [hA] at hv; simp at hv; exact hv.1.2.2
      subst hj'; subst hs
      exact h4 k hkp q o hA
    | none, hj => simp [Value.ownBlock] at hj
  refine ⟨⟨h1, h2, h3, h4, ⟨_, ((own_up h5 g).stored (k * 2) u).1.kept hg2 ?_, fun i hi hi2 => ?_⟩, fun i hi hi2 => ?_, h8⟩, ?_⟩
  · cases hv : (Value.slice ps[k].1 l[k].brs.length ps[k].2).ownBlock with
    | none => exact .inr (by simp [Value.ownBlock])
    | some j =>
      have := (hbl j hv).1
      exact .inr (by simp [Value.ownBlock]; omega)
  · rw [set_other (by omega)]
    exact h6 i hi hi2
  · by_cases hik : i = k
    · subst hik
      exact ⟨_, m2⟩
    · obtain ⟨xs, hx⟩ := h7 i hi hi2
      refine ⟨xs, (own_setOld (own_up hx g) (p := ⟨b, k * 2, none⟩) (by show b < b + 1; omega) u).kept hg2 ?_⟩
      cases hv : (Value.slice ps[i].1 l[i].brs.length ps[i].2).ownBlock with
      | none => exact .inl rfl
      | some j =>
        refine .inr fun he => ?_
        have form : ∀ n (hn : n < ps.length) (hnl : n < l.length) c, (Value.slice ps[n].1 l[n].brs.length ps[n].2).ownBlock = some c → ∃ o s, ps[n].1 = some ⟨c, o, s⟩ := fun n hn hnl c hc => by
          match hA : ps[n].1 with
          | some ⟨q, o, s⟩ => rw [hA] at hc; simp [Value.ownBlock] at hc; subst hc; exact ⟨o, s, rfl⟩
          | none => rw [hA] at hc; simp [Value.ownBlock] at hc
        obtain ⟨o, s, e1⟩ := form i hi2 hi j hv
        obtain ⟨o', s', e2⟩ := form k hkp hk j he.symm
        have hs : s = none := by
          rcases hx.2 with ⟨hv', _⟩ | ⟨g', cap, cur, hv', _⟩
          · rw [e1] at hv'; simp at hv'
          · rw [e1] at hv'; simp at hv'; exact hv'.1.2.2
        have hs' : s' = none := by
          rcases m2.2 with ⟨hv', _⟩ | ⟨g', cap, cur, hv', _⟩
          · rw [e2] at hv'; simp at hv'
          · rw [e2] at hv'; simp at hv'; exact hv'.1.2.2
        subst hs hs'
        exact h8 i k hi2 hkp hik j o e1 o' e2
  · exact (((Only.refl lo hi w).up g).set (p := ⟨b, k * 2, none⟩) ⟨h2, h3⟩ u).grown hg2 fun j hj => by have := hbl j hj; omega
set_option maxRecDepth 10000 in
set_option maxHeartbeats 1000000 in
theorem markWareS_any (lo hi b k0 : Nat) (l : List Ware) (ps : List Ptr) (w : World) (h : WShape lo hi w b l ps) (hk0 : 1 ≤ k0) (hn : k0 + wMk l l.length < 1000000000) (hl : l.length ≤ 100000000) :
    Calls Try.prog 34 #[.slice (some ⟨b, 0, none⟩) l.length l.length, i64 k0] w fun e w' => e = .returned (i64 ((k0 + wMk l l.length : Nat) : Int)) ∧ WShape lo hi w' b l ps ∧ Only lo hi w w' := by
  go_enter Try.func34, Try.ntmps34
  go_wp2_with (first | ((with_reducible refine wp_region_up (by kernel_rfl) (by kernel_rfl) ?_); (repeat (go_big_quiet_step (fail))); refine wpQuiet_nil ?_; intro _ hw'; obtain ⟨nq, hw''⟩ := hw'; subst hw''))
  go_loopw [1, 5] (fun kk i wr => ∃ k : Nat, k ≤ l.length ∧ i = i64 k ∧ kk = i64 ((k0 + wMk l k : Nat) : Int) ∧ WShape lo hi wr b l ps ∧ Only lo hi w wr) (fun _ i _ => l.length - (intOf i).toNat)
  case atStart => exact ⟨0, by omega, rfl, by simp [wMk], h, Only.refl _ _ _⟩
  case round =>
    obtain ⟨k, hk, rfl, rfl, hsh, hon⟩ := hrel
    clear h
    by_cases hlt : k < l.length
    · have HS := Lib.hid hsh
      have HO := Lib.hid hon
      have hN := Lib.hid (show wMk l (k + 1) = wMk l k + 1 + 2 * (wat l k).brs.length from rfl)
      have hM := wMk_mono l (k + 1) (l.length - (k + 1))
      rw [show k + 1 + (l.length - (k + 1)) = l.length by omega, hN.out] at hM
      obtain ⟨h1, h2, h3, h4, ⟨ys, h5, h6⟩, h7, h8⟩ := hsh
      have hlen := h5.1
      have hkp : k < ps.length := by omega
      obtain ⟨xs, o7⟩ := h7 k hlt hkp
      have e6 := h6 k hlt hkp
      rw [wat_eq hlt] at o7 e6
      have O7 := Lib.hid o7
      have d0 := h5.cellAt (k * 2) (by omega)
      have d1 := h5.cellAt (k * 2 + 1) (by omega)
      rw [e6] at d1
      rw [List.getElem?_eq_getElem (by omega)] at d0
      have f0 := fun i => h5.frozenAt i
      have hbw := (own_block h5 rfl).2.1
      have H5 := Lib.hid h5
      have H6 := Lib.hid h6
      clear h5 h6 h7 h8 hon o7
      go_wp2_with fail
      refine (markText_any _ _ (by omega) (by omega)).mono ?_
      rintro e w' ⟨rfl, g1, rfl⟩
      go_wp2_with fail
      refine (markBreakS_any (b + 1) _ _ _ (k0 + wMk l k + 1) xs _ (own_setOld (own_up O7.out g1) (p := ⟨b, k * 2, none⟩) (by show b < b + 1; omega) (.string (mt ((k0 + wMk l k : Nat) : Int)))) (by omega) (by omega)).mono ?_
      rintro e w' ⟨rfl, m2, hg2⟩
      rw [← wat_eq hlt] at m2 hg2
      have st := Lib.hid (wmark_step HS.out hlt hkp g1 _ m2 hg2)
      clear m2 hg2
      go_wp2_with fail
      go_roundw
      case rel => exact ⟨k + 1, by omega, by go_num, by rw [hN.out]; go_num, st.out.1, HO.out.trans st.out.2⟩
      case measure => (simp [intOf]; try omega)
    · go_wp2_with (first | ((with_reducible refine wp_region_up (by kernel_rfl) (by kernel_rfl) ?_); (repeat (go_big_quiet_step (fail))); refine wpQuiet_nil ?_; intro _ hw'; obtain ⟨nq, hw''⟩ := hw'; subst hw''))
      go_ret
      obtain rfl : k = l.length := by omega
      exact ⟨rfl, hsh, hon⟩
end Go.Proofs.Ytiibpldfnnhhlaa

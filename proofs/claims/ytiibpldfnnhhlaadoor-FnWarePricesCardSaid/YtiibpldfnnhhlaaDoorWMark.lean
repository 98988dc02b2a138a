/-
  The laws' marks on a list of wares: only its own blocks change. The bounds stand at it.
-/
import Derived.Test.YtiibpldfnnhhlaaDoorMgA
import Derived.Test.YtiibpldfnnhhlaaDoorOnly
import Derived.Test.YtiibpldfnnhhlaaDoorMark
namespace Go.Proofs.YtiibpldfnnhhlaaDoor
open Go.RowKit
/-- a list of wares that may be written: all its blocks lie from lo to hi -/
structure WShape (lo hi : Nat) (w : World) (b : Nat) (l : List Ware) (ps : List Ptr) : Prop where
  len : ps.length = l.length
  blo : lo ≤ b
  bhi : b < hi
  phi : ∀ i (h : i < ps.length) k off, ps[i].1 = some ⟨k, off, none⟩ → k < hi
  row : ∃ ys, w.ownsRow lo 29 2 (.slice (some ⟨b, 0, none⟩) l.length l.length) l.length ys ∧ ∀ i (h : i < l.length) (h2 : i < ps.length), ys[i * 2 + 1]? = some (.slice ps[i].1 l[i].brs.length ps[i].2)
  inner : ∀ i (h : i < l.length) (h2 : i < ps.length), ∃ xs, w.ownsRow (b + 1) 69 2 (.slice ps[i].1 l[i].brs.length ps[i].2) l[i].brs.length xs
  apart : ∀ i j (hi : i < ps.length) (hj : j < ps.length), i ≠ j → ∀ k off, ps[i].1 = some ⟨k, off, none⟩ → ∀ off', ps[j].1 ≠ some ⟨k, off', none⟩
theorem WOwn.shape {lo : Nat} {w : World} {b : Nat} {l : List Ware} {ps : List Ptr} (h : WOwn lo w b l ps) : WShape lo w.heap.size w b l ps := by
  obtain ⟨h1, h2, h3, h4, h5⟩ := h
  refine ⟨h1, h2, (own_block h3 rfl).2.1, fun i hi k off e => ?_, ⟨_, h3, fun i hi hi2 => ?_⟩, fun i hi hi2 => ⟨_, h4 i hi hi2⟩, h5⟩
  · have := h4 i (by omega) hi
    rw [e] at this
    exact (own_block this rfl).2.1
  · have hz : i < (l.zip ps).length := by rw [List.length_zip]; omega
    have := flat_get wcell_len (l.zip ps) hz (j := 1) (by omega)
    rw [wcs, this, List.getElem_zip]
    rfl
theorem WShape.up {lo hi : Nat} {w : World} {b : Nat} {l : List Ware} {ps : List Ptr} (h : WShape lo hi w b l ps) (g : Up w) : WShape lo hi (up w g) b l ps := by
  obtain ⟨h1, h2, h3, h4, ⟨ys, h5, h6⟩, h7, h8⟩ := h
  exact ⟨h1, h2, h3, h4, ⟨ys, own_up h5 g, h6⟩, fun i a c => by obtain ⟨xs, hx⟩ := h7 i a c; exact ⟨xs, own_up hx g⟩, h8⟩
theorem WShape.below {lo hi : Nat} {w w' : World} {b : Nat} {l : List Ware} {ps : List Ptr} (h : WShape lo hi w b l ps) (g : Below w.heap.size w w') : WShape lo hi w' b l ps := h.up ⟨w', g⟩
/-- how many marks k wares take -/
def wMk (l : List Ware) : Nat → Nat
  | 0 => 0
  | k + 1 => wMk l k + 1 + 2 * (wat l k).brs.length
theorem wMk_bd (l : List Ware) (k : Nat) : wMk l k ≤ k + 2 * wTotN l k := by
  induction k with
  | zero => simp [wMk]
  | succ k ih => rw [wMk, wTotN]; unfold wTot1; omega
theorem wMk_bd1 {l : List Ware} (h : wTot l ≤ 1048576) : wMk l l.length ≤ 10000000 := by
  have := wMk_bd l l.length
  unfold wTot at h
  omega
theorem wMk_mono (l : List Ware) (i j : Nat) : wMk l i ≤ wMk l (i + j) := by
  induction j with
  | zero => exact Nat.le_refl _
  | succ j ih => exact Nat.le_trans ih (by rw [← Nat.add_assoc, wMk]; omega)
theorem set_other {ys : List Value} {i j : Nat} {u : Value} (h : i ≠ j) : (ys.set i u)[j]? = ys[j]? := List.getElem?_set_ne h
/-- one ware marked: its name stored, its own list written -/
theorem wmark_step {lo hi b k : Nat} {l : List Ware} {ps : List Ptr} {w w2 : World} (HS : WShape lo hi w b l ps) (hk : k < l.length) (hkp : k < ps.length) (g : Up w) (u : Value) {xs' : List Value}
    (m2 : w2.ownsRow (b + 1) 69 2 (.slice ps[k].1 l[k].brs.length ps[k].2) l[k].brs.length xs') (hg2 : ((up w g).setCell ⟨b, k * 2, none⟩ u).grownBy w2 (Value.slice ps[k].1 l[k].brs.length ps[k].2).ownBlock) :
    WShape lo hi w2 b l ps ∧ Only lo hi w w2 := by
  obtain ⟨h1, h2, h3, h4, ⟨ys, h5, h6⟩, h7, h8⟩ := HS
  have hbl : ∀ j, (Value.slice ps[k].1 l[k].brs.length ps[k].2).ownBlock = some j → b + 1 ≤ j ∧ j < hi := fun j hj => by
    refine ⟨(m2.lt j hj).1, ?_⟩
    match hA : ps[k].1, hj with
    | some ⟨q, o, s⟩, hj =>
      have hj' : q = j := by simpa [Value.ownBlock] using hj
      have hs : s = none := by
        rcases m2.2 with ⟨hv, _⟩ | ⟨g', cap, cur, hv, _⟩
        · rw [hA] at hv; simp at hv
        · rw [hA] at hv; simp at hv; exact hv.1.2.2
      subst hj'; subst hs
      exact h4 k hkp q o hA
    | none, hj => simp [Value.ownBlock] at hj
  refine ⟨⟨h1, h2, h3, h4, ⟨_, ((own_up h5 g).stored (k * 2) u).1.kept hg2 ?_, fun i hi hi2 => ?_⟩, fun i hi hi2 => ?_, h8⟩, ?_⟩
  · cases hv : (Value.slice ps[k].1 l[k].brs.length ps[k].2).ownBlock with
    | none => exact .inr (by simp [Value.ownBlock])
    | some j =>
      have := (hbl j hv).1
      exact .inr (by simp [Value.ownBlock]; omega)
  · rw [set_other (by omega)]
    exact h6 i hi hi2
  · by_cases hik : i = k
    · subst hik
      exact ⟨_, m2⟩
    · obtain ⟨xs, hx⟩ := h7 i hi hi2
      refine ⟨xs, (own_setOld (own_up hx g) (p := ⟨b, k * 2, none⟩) (by show b < b + 1; omega) u).kept hg2 ?_⟩
      cases hv : (Value.slice ps[i].1 l[i].brs.length ps[i].2).ownBlock with
      | none => exact .inl rfl
      | some j =>
        refine .inr fun he => ?_
        have form : ∀ n (hn : n < ps.length) (hnl : n < l.length) c, (Value.slice ps[n].1 l[n].brs.length ps[n].2).ownBlock = some c → ∃ o s, ps[n].1 = some ⟨c, o, s⟩ := fun n hn hnl c hc => by
          match hA : ps[n].1 with
          | some ⟨q, o, s⟩ => rw [hA] at hc; simp [Value.ownBlock] at hc; subst hc; exact ⟨o, s, rfl⟩
          | none => rw [hA] at hc; simp [Value.ownBlock] at hc
        obtain ⟨o, s, e1⟩ := form i hi2 hi j hv
        obtain ⟨o', s', e2⟩ := form k hkp hk j he.symm
        have hs : s = none := by
          rcases hx.2 with ⟨hv', _⟩ | ⟨g', cap, cur, hv', _⟩
          · rw [e1] at hv'; simp at hv'
          · rw [e1] at hv'; simp at hv'; exact hv'.1.2.2
        have hs' : s' = none := by
          rcases m2.2 with ⟨hv', _⟩ | ⟨g', cap, cur, hv', _⟩
          · rw [e2] at hv'; simp at hv'
          · rw [e2] at hv'; simp at hv'; exact hv'.1.2.2
        subst hs hs'
        exact h8 i k hi2 hkp hik j o e1 o' e2
  · exact (((Only.refl lo hi w).up g).set (p := ⟨b, k * 2, none⟩) ⟨h2, h3⟩ u).grown hg2 fun j hj => by have := hbl j hj; omega
end Go.Proofs.YtiibpldfnnhhlaaDoor

/-
  The cheapest way to take offers: plain facts (all ways are gone through, the first cheapest one is kept). No program.
-/
import Derived.Test.YtiibpldfnnhhlaaOffer2
namespace Go.Proofs.Ytiibpldfnnhhlaa
open Go.RowKit
def subM (r m : List Int) : List Int := (List.range r.length).map fun i => iat r i - iat m i
theorem subM_len (r m : List Int) : (subM r m).length = r.length := by simp [subM]
theorem subM_at {r m : List Int} {i : Nat} (h : i < r.length) : iat (subM r m) i = iat r i - iat m i := by simp [iat, subM, h]
def fitsM (r m : List Int) : Bool := (List.range m.length).all fun i => decide (iat m i ≤ iat r i)
theorem fitsM_inv {r m : List Int} (h : fitsM r m = true) : ∀ i, i < m.length → iat m i ≤ iat r i := by
  simpa only [fitsM, List.all_eq_true, List.mem_range, decide_eq_true_eq] using h
theorem fitsM_true {r m : List Int} (h : ∀ i, i < m.length → iat m i ≤ iat r i) : fitsM r m = true := by
  simpa only [fitsM, List.all_eq_true, List.mem_range, decide_eq_true_eq] using h
theorem fitsM_at {r m : List Int} {i : Nat} (hi : i < m.length) (h : iat r i < iat m i) : fitsM r m = false := by
  rw [← Bool.not_eq_true]
  intro hc
  have := fitsM_inv hc i hi
  omega
abbrev BSt := List Int × Int
/-- the rounds with one offer: taken n times, n + 1 times and so on, as long as it fits -/
def lop (f : Nat → List Int → BSt → BSt) (m : List Int) : Nat → Nat → List Int → BSt → BSt
  | 0, _, _, st => st
  | g + 1, n, r, st => if fitsM r m = true then lop f m g (n + 1) (subM r m) (f n r st) else f n r st
/-- what a way costs, if it is cheaper than the best so far -/
def leafB (l : List Ware) (r tk : List Int) (cost : Int) (st : BSt) : BSt := if st.2 < 0 ∨ cost + bsk l r l.length < st.2 then (tk, cost + bsk l r l.length) else st
/-- all ways with the last j offers -/
def wlk (l : List Ware) (os : List Offer) : Nat → List Int → List Int → Int → BSt → BSt
  | 0, r, tk, cost, st => leafB l r tk cost st
  | j + 1, r, tk, cost, st => lop (fun n r' st' => wlk l os j r' (tk ++ [(n : Int)]) (cost + (n : Int) * (oat os (os.length - (j + 1))).price) st') (oat os (os.length - (j + 1))).many 41 0 r st
/-- what is left: a number for each ware, all together at most s -/
def restOk (l : List Ware) (r : List Int) (s : Int) : Prop := r.length = l.length ∧ (∀ i, i < r.length → 0 ≤ iat r i ∧ iat r i ≤ 20) ∧ sumI r ≤ s
theorem sumN_sub (r m : List Int) (hl : m.length = r.length) : ∀ k, k ≤ r.length → sumN (subM r m) k = sumN r k - sumN m k
  | 0, _ => by simp [sumN]
  | k + 1, hk => by
    have ih := sumN_sub r m hl k (by omega)
    rw [sumN, sumN, sumN, ih, subM_at (by omega)]
    omega
theorem restOk_sub {l : List Ware} {r m : List Int} {s : Int} (h : restOk l r s) (hl : m.length = r.length) (hm : ∀ i, i < m.length → 0 ≤ iat m i) (hs : 1 ≤ sumI m) (hf : fitsM r m = true) : restOk l (subM r m) (s - 1) := by
  obtain ⟨h1, h2, h3⟩ := h
  have hf := fitsM_inv hf
  refine ⟨by rw [subM_len, h1], fun i hi => ?_, ?_⟩
  · rw [subM_len] at hi
    rw [subM_at hi]
    have := h2 i hi
    have := hm i (by omega)
    have := hf i (by omega)
    omega
  · have e := sumN_sub r m hl r.length (Nat.le_refl _)
    unfold sumI at hs h3 ⊢
    rw [subM_len, e, ← hl]
    rw [hl]
    rw [hl] at hs
    omega
theorem restOk_pos {l : List Ware} {r : List Int} {s : Int} (h : restOk l r s) : 0 ≤ s := by
  obtain ⟨h1, h2, h3⟩ := h
  have := (sumN_bd (many := r) (fun i hi => by have := h2 i hi; omega) r.length (Nat.le_refl _)).1
  unfold sumI at h3
  omega
theorem restOk_bsk {l : List Ware} (hv : vWares l = true) {r : List Int} {s : Int} (h : restOk l r s) : 0 ≤ bsk l r l.length ∧ bsk l r l.length ≤ 30000000000 := by
  obtain ⟨h1, h2, h3⟩ := h
  obtain ⟨h30, hw⟩ := vWares_inv hv
  have := bsk_bd (many := r) hw (fun i hi => by have := h2 i (by omega); omega) l.length (Nat.le_refl _)
  omega
def bestC (l : List Ware) (os : List Offer) (many : List Int) : Int := if vOffers l os = true then if isMany l many 20 = true then if os.length ≤ 4 ∧ sumI many ≤ 40 then 0 else 5 else 2 else 1
def bestW (l : List Ware) (os : List Offer) (many : List Int) : BSt := wlk l os os.length many [] 0 ([], -1)
def bestR (l : List Ware) (os : List Offer) (many : List Int) : List Int × Int × Int := if bestC l os many = 0 then ((bestW l os many).1, (bestW l os many).2, 0) else ([], 0, bestC l os many)
theorem bestR_1 {l : List Ware} {os : List Offer} {many : List Int} (h : vOffers l os = false) : bestR l os many = ([], 0, 1) := by
  have : bestC l os many = 1 := by rw [bestC, if_neg (by simp [h])]
  rw [bestR, this, if_neg (by omega)]
theorem bestR_2 {l : List Ware} {os : List Offer} {many : List Int} (h : vOffers l os = true) (h2 : isMany l many 20 = false) : bestR l os many = ([], 0, 2) := by
  have : bestC l os many = 2 := by rw [bestC, if_pos h, if_neg (by simp [h2])]
  rw [bestR, this, if_neg (by omega)]
theorem bestR_5 {l : List Ware} {os : List Offer} {many : List Int} (h : vOffers l os = true) (h2 : isMany l many 20 = true) (h3 : ¬ (os.length ≤ 4 ∧ sumI many ≤ 40)) : bestR l os many = ([], 0, 5) := by
  have : bestC l os many = 5 := by rw [bestC, if_pos h, if_pos h2, if_neg h3]
  rw [bestR, this, if_neg (by omega)]
theorem bestR_0 {l : List Ware} {os : List Offer} {many : List Int} (h : vOffers l os = true) (h2 : isMany l many 20 = true) (h3 : os.length ≤ 4 ∧ sumI many ≤ 40) : bestR l os many = ((bestW l os many).1, (bestW l os many).2, 0) := by
  have : bestC l os many = 0 := by rw [bestC, if_pos h, if_pos h2, if_pos h3]
  rw [bestR, if_pos this]
theorem rest_many {l : List Ware} {many : List Int} (h2 : isMany l many 20 = true) (h3 : sumI many ≤ 40) : restOk l many 40 := by
  obtain ⟨h4, h5⟩ := isMany_inv h2
  exact ⟨h4, h5, h3⟩
end Go.Proofs.Ytiibpldfnnhhlaa

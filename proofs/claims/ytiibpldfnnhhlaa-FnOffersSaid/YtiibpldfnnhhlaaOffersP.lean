/-
  The best way to take offers keeps the law: plain facts (what is left is not negative, the cost is the sum, no more than without offers). No program.
-/
import Derived.Test.YtiibpldfnnhhlaaBestP
namespace Go.Proofs.Ytiibpldfnnhhlaa
open Go.RowKit
/-- what is left of r after an offer of m has been taken x times -/
def subX (r : List Int) (x : Int) (m : List Int) : List Int := (List.range r.length).map fun i => iat r i - x * iat m i
theorem subX_len (r : List Int) (x : Int) (m : List Int) : (subX r x m).length = r.length := by simp [subX]
theorem subX_at {r m : List Int} {x : Int} {i : Nat} (h : i < r.length) : iat (subX r x m) i = iat r i - x * iat m i := by simp [iat, subX, h]
theorem iats_ext {a b : List Int} (h : a.length = b.length) (h2 : ∀ i, i < a.length → iat a i = iat b i) : a = b := by
  refine List.ext_getElem h fun i h3 h4 => ?_
  rw [iat_eq h3, iat_eq h4]
  exact h2 i h3
theorem subX_0 (r m : List Int) : subX r 0 m = r := iats_ext (subX_len _ _ _) fun i hi => by
  rw [subX_len] at hi
  rw [subX_at hi]; omega
theorem subX_succ (r m : List Int) (n : Nat) : subM (subX r (n : Int) m) m = subX r ((n + 1 : Nat) : Int) m := iats_ext (by rw [subM_len, subX_len, subX_len]) fun i hi => by
  rw [subM_len, subX_len] at hi
  rw [subM_at (by rw [subX_len]; exact hi), subX_at hi, subX_at hi, Int.natCast_succ, Int.add_mul]
  omega
/-- what the first k offers cost, taken as often as told -/
def sumC (os : List Offer) (tk : List Int) : Nat → Int
  | 0 => 0
  | k + 1 => sumC os tk k + iat tk k * (oat os k).price
/-- what is left after the first k offers -/
def remT (os : List Offer) (many tk : List Int) : Nat → List Int
  | 0 => many
  | k + 1 => subX (remT os many tk k) (iat tk k) (oat os k).many
theorem remT_len (os : List Offer) (many tk : List Int) : ∀ k, (remT os many tk k).length = many.length
  | 0 => rfl
  | k + 1 => by rw [remT, subX_len, remT_len os many tk k]
theorem iat_snoc {tk : List Int} {x : Int} {i : Nat} (h : i < tk.length) : iat (tk ++ [x]) i = iat tk i := by simp [iat, List.getElem?_append_left h]
theorem iat_last (tk : List Int) (x : Int) : iat (tk ++ [x]) tk.length = x := by simp [iat]
theorem sumC_snoc (os : List Offer) (tk : List Int) (x : Int) : ∀ k, k ≤ tk.length → sumC os (tk ++ [x]) k = sumC os tk k
  | 0, _ => rfl
  | k + 1, h => by rw [sumC, sumC, sumC_snoc os tk x k (by omega), iat_snoc (by omega)]
theorem remT_snoc (os : List Offer) (many tk : List Int) (x : Int) : ∀ k, k ≤ tk.length → remT os many (tk ++ [x]) k = remT os many tk k
  | 0, _ => rfl
  | k + 1, h => by rw [remT, remT, remT_snoc os many tk x k (by omega), iat_snoc (by omega)]
theorem lop_ind {f : Nat → List Int → BSt → BSt} {m : List Int} {P : BSt → Prop} {Q : Nat → List Int → Prop} {N : Nat} (hQ : ∀ n r, Q n r → fitsM r m = true → Q (n + 1) (subM r m)) (hP : ∀ n r st, n < N → Q n r → P st → P (f n r st)) :
    ∀ g n r st, n + g ≤ N → Q n r → P st → P (lop f m g n r st)
  | 0, _, _, _, _, _, h => h
  | g + 1, n, r, st, hn, hq, h => by
    rw [lop]
    split
    · exact lop_ind hQ hP g (n + 1) _ _ (by omega) (hQ n r hq (by assumption)) (hP n r st (by omega) hq h)
    · exact hP n r st (by omega) hq h
/-- a way that keeps the law -/
structure Good (l : List Ware) (os : List Offer) (many : List Int) (st : BSt) : Prop where
  len : st.1.length = os.length
  tk : ∀ i, i < os.length → 0 ≤ iat st.1 i ∧ iat st.1 i ≤ 40
  rem : ∀ i, i < many.length → 0 ≤ iat (remT os many st.1 os.length) i
  cost : st.2 = sumC os st.1 os.length + bsk l (remT os many st.1 os.length) l.length
  pos : 0 ≤ st.2
theorem sumC_pos {l : List Ware} {os : List Offer} (hv : vOffers l os = true) {tk : List Int} : ∀ k, k ≤ os.length → (∀ i, i < k → 0 ≤ iat tk i ∧ iat tk i ≤ 40) → 0 ≤ sumC os tk k ∧ sumC os tk k ≤ 40000000 * (k : Int)
  | 0, _, _ => by simp [sumC]
  | k + 1, hk, h => by
    have ih := sumC_pos hv k (by omega) (fun i hi => h i (by omega))
    have h1 := h k (by omega)
    have h2 := (offerOk_inv ((vOffers_inv hv).2.2 k (by omega)))
    rw [sumC]
    have h3 : 0 ≤ iat tk k * (oat os k).price := Int.mul_nonneg h1.1 h2.2.2.1
    have h4 : iat tk k * (oat os k).price ≤ 40 * 1000000 := Int.mul_le_mul h1.2 h2.2.2.2 h2.2.2.1 (by omega)
    omega
theorem remT_up {l : List Ware} {os : List Offer} (hv : vOffers l os = true) {many tk : List Int} (hm : ∀ i, i < many.length → 0 ≤ iat many i ∧ iat many i ≤ 20) (hl : many.length = l.length) : ∀ k, k ≤ os.length → (∀ i, i < k → 0 ≤ iat tk i ∧ iat tk i ≤ 40) →
    ∀ i, i < many.length → -(800 * (k : Int)) ≤ iat (remT os many tk k) i ∧ iat (remT os many tk k) i ≤ 20
  | 0, _, _, i, hi => by have := hm i hi; rw [remT]; omega
  | k + 1, hk, h, i, hi => by
    have ih := remT_up hv hm hl k (by omega) (fun i hi => h i (by omega)) i hi
    have h1 := h k (by omega)
    have h2 := isMany_inv (offerOk_inv ((vOffers_inv hv).2.2 k (by omega))).1
    have h5 := h2.2 i (by omega)
    rw [remT, subX_at (by rw [remT_len]; exact hi)]
    have h3 : 0 ≤ iat tk k * iat (oat os k).many i := Int.mul_nonneg h1.1 h5.1
    have h4 : iat tk k * iat (oat os k).many i ≤ 40 * 20 := Int.mul_le_mul h1.2 h5.2 h5.1 (by omega)
    omega
theorem leafB_good {l : List Ware} {os : List Offer} {many tk : List Int} {st : BSt} (hlen : tk.length = os.length) (htk : ∀ i, i < os.length → 0 ≤ iat tk i ∧ iat tk i ≤ 40) (hr : ∀ i, i < many.length → 0 ≤ iat (remT os many tk os.length) i) (hc : 0 ≤ sumC os tk os.length + bsk l (remT os many tk os.length) l.length) (hml : many.length = l.length)
    (hst : st.2 < 0 ∨ Good l os many st) :
    Good l os many (leafB l (remT os many tk os.length) tk (sumC os tk os.length) st) ∧ (leafB l (remT os many tk os.length) tk (sumC os tk os.length) st).2 ≤ sumC os tk os.length + bsk l (remT os many tk os.length) l.length ∧ (0 ≤ st.2 → (leafB l (remT os many tk os.length) tk (sumC os tk os.length) st).2 ≤ st.2) := by
  unfold leafB
  split
  · rename_i h
    exact ⟨⟨hlen, htk, hr, rfl, hc⟩, Int.le_refl _, fun h0 => by show _ ≤ st.2; omega⟩
  · rename_i h
    exact ⟨hst.resolve_left (fun e => h (.inl e)), by omega, fun _ => Int.le_refl _⟩
theorem wlk_good {l : List Ware} {os : List Offer} (hv : vOffers l os = true) {many : List Int} (hm : ∀ i, i < many.length → 0 ≤ iat many i ∧ iat many i ≤ 20) (hml : many.length = l.length) : ∀ j (tk : List Int) (st : BSt), tk.length + j = os.length → (∀ i, i < tk.length → 0 ≤ iat tk i ∧ iat tk i ≤ 40) →
    (∀ i, i < many.length → 0 ≤ iat (remT os many tk tk.length) i) → (st.2 < 0 ∨ Good l os many st) →
    Good l os many (wlk l os j (remT os many tk tk.length) tk (sumC os tk tk.length) st) ∧ (wlk l os j (remT os many tk tk.length) tk (sumC os tk tk.length) st).2 ≤ sumC os tk tk.length + bsk l (remT os many tk tk.length) l.length ∧ (0 ≤ st.2 → (wlk l os j (remT os many tk tk.length) tk (sumC os tk tk.length) st).2 ≤ st.2)
  | 0, tk, st, hlen, htk, hr, hst => by
    have e : tk.length = os.length := by omega
    rw [wlk, e]
    rw [e] at htk hr
    have hw := vWares_inv (vOffers_inv hv).1
    have hu := remT_up hv hm hml (tk := tk) os.length (Nat.le_refl _) htk
    have hb := bsk_bd (l := l) (many := remT os many tk os.length) hw.2 (fun i hi => by have := hr i (by omega); have := hu i (by omega); omega) l.length (Nat.le_refl _)
    have hs := sumC_pos hv (tk := tk) os.length (Nat.le_refl _) htk
    exact leafB_good e htk hr (by omega) hml hst
  | j + 1, tk, st, hlen, htk, hr, hst => by
    have ei : os.length - (j + 1) = tk.length := by omega
    rw [wlk, ei]
    have hok := isMany_inv (offerOk_inv ((vOffers_inv hv).2.2 tk.length (by omega))).1
    have hw := vWares_inv (vOffers_inv hv).1
    generalize hR : remT os many tk tk.length = R at *
    have hRl : R.length = many.length := by rw [← hR, remT_len]
    -- one round
    have step : ∀ (n : Nat) (r : List Int) (st : BSt), n < 41 → (r = subX R (n : Int) (oat os tk.length).many ∧ ∀ i, i < many.length → 0 ≤ iat r i) → (st.2 < 0 ∨ Good l os many st) →
        Good l os many (wlk l os j r (tk ++ [(n : Int)]) (sumC os tk tk.length + (n : Int) * (oat os tk.length).price) st) ∧
        (wlk l os j r (tk ++ [(n : Int)]) (sumC os tk tk.length + (n : Int) * (oat os tk.length).price) st).2 ≤ sumC os tk tk.length + (n : Int) * (oat os tk.length).price + bsk l r l.length ∧
        (0 ≤ st.2 → (wlk l os j r (tk ++ [(n : Int)]) (sumC os tk tk.length + (n : Int) * (oat os tk.length).price) st).2 ≤ st.2) := fun n r st hn hq hst => by
      have e1 : (tk ++ [(n : Int)]).length = tk.length + 1 := by simp
      have e2 : sumC os (tk ++ [(n : Int)]) (tk.length + 1) = sumC os tk tk.length + (n : Int) * (oat os tk.length).price := by rw [sumC, sumC_snoc _ _ _ _ (Nat.le_refl _), iat_last]
      have e3 : remT os many (tk ++ [(n : Int)]) (tk.length + 1) = r := by rw [remT, remT_snoc _ _ _ _ _ (Nat.le_refl _), iat_last, hR, hq.1]
      have := wlk_good hv hm hml j (tk ++ [(n : Int)]) st (by rw [e1]; omega) (fun i hi => by
        rw [e1] at hi
        by_cases h9 : i < tk.length
        · rw [iat_snoc h9]; exact htk i h9
        · obtain rfl : i = tk.length := by omega
          rw [iat_last]; omega) (by rw [e1, e3]; exact hq.2) hst
      rw [e1, e2, e3] at this
      exact this
    have hQ : ∀ (n : Nat) (r : List Int), (r = subX R (n : Int) (oat os tk.length).many ∧ ∀ i, i < many.length → 0 ≤ iat r i) → fitsM r (oat os tk.length).many = true → (subM r (oat os tk.length).many = subX R ((n + 1 : Nat) : Int) (oat os tk.length).many ∧ ∀ i, i < many.length → 0 ≤ iat (subM r (oat os tk.length).many) i) := fun n r hq hf => by
      refine ⟨by rw [hq.1, subX_succ], fun i hi => ?_⟩
      have hrl : r.length = many.length := by rw [hq.1, subX_len, hRl]
      rw [subM_at (by omega)]
      have := fitsM_inv hf i (by omega)
      omega
    have q0 : R = subX R ((0 : Nat) : Int) (oat os tk.length).many ∧ ∀ i, i < many.length → 0 ≤ iat R i := ⟨(subX_0 _ _).symm, hr⟩
    have s0 := step 0 R st (by omega) q0 hst
    have e0 : sumC os tk tk.length + ((0 : Nat) : Int) * (oat os tk.length).price = sumC os tk tk.length := by simp
    rw [show (41 : Nat) = 40 + 1 from rfl, lop]
    rw [e0] at s0 ⊢
    split
    · rename_i hf
      have := lop_ind (f := fun n r' st' => wlk l os j r' (tk ++ [(n : Int)]) (sumC os tk tk.length + (n : Int) * (oat os tk.length).price) st') (m := (oat os tk.length).many)
        (P := fun s => Good l os many s ∧ s.2 ≤ sumC os tk tk.length + bsk l R l.length ∧ (0 ≤ st.2 → s.2 ≤ st.2))
        (Q := fun n r => r = subX R (n : Int) (oat os tk.length).many ∧ ∀ i, i < many.length → 0 ≤ iat r i) (N := 41) hQ
        (fun n r s hn hq hs => by
          have h9 := step n r s hn hq (.inr hs.1)
          have h8 := h9.2.2 hs.1.pos
          exact ⟨h9.1, Int.le_trans h8 hs.2.1, fun h0 => Int.le_trans h8 (hs.2.2 h0)⟩)
        40 (0 + 1) (subM R (oat os tk.length).many) _ (by omega) (hQ 0 R q0 hf) s0
      exact this
    · exact s0
/-- the law, of the best way -/
theorem best_law {l : List Ware} {os : List Offer} {many : List Int} (hv : vOffers l os = true) (h2 : isMany l many 20 = true) : Good l os many (bestW l os many) ∧ (bestW l os many).2 ≤ bsk l many l.length := by
  have h3 := isMany_inv h2
  have := wlk_good hv (many := many) h3.2 h3.1 os.length [] ([], -1) (by simp) (fun i hi => by simp at hi) (fun i hi => (h3.2 i hi).1) (.inl (by show (-1 : Int) < 0; omega))
  refine ⟨this.1, ?_⟩
  have h9 := this.2.1
  simp only [sumC, remT, List.length_nil, Int.zero_add] at h9
  exact h9
end Go.Proofs.Ytiibpldfnnhhlaa

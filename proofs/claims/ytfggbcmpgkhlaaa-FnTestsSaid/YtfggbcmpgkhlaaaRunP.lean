/-
  The tests that are done: plain facts (they find the defect, each is done once, and they never cost more than the worst price). No program.
-/
import Derived.Test.YtfggbcmpgkhlaaaTest8
namespace Go.Proofs.Ytfggbcmpgkhlaaa
open Go.RowKit
/-- the prices of some tests -/
def sumT (ps : List Int) : List Int → Int
  | [] => 0
  | x :: l => num ps x.toNat + sumT ps l
theorem sumT_snoc (ps : List Int) (x : Int) : ∀ l : List Int, sumT ps (l ++ [x]) = sumT ps l + num ps x.toNat
  | [] => by simp [sumT]
  | y :: l => by simp only [List.cons_append, sumT, sumT_snoc ps x l]; omega
theorem sumP_sumT (ps ts : List Int) : ∀ k, k ≤ ts.length → sumP ps ts k = sumT ps (ts.take k) := by
  intro k
  induction k with
  | zero => intro _; rfl
  | succ k ih =>
    intro hk
    rw [sumP, ih (by omega), List.take_succ_eq_append_getElem (show k < ts.length by omega), sumT_snoc, num_eq (show k < ts.length by omega)]
theorem sumP_all (ps ts : List Int) : sumP ps ts ts.length = sumT ps ts := by rw [sumP_sumT ps ts _ (Nat.le_refl _), List.take_length]
theorem byte_ext {a b : UInt8} (h : a.toNat = b.toNat) : a = b := UInt8.toNat_inj.1 h
/-- what the tests from some answers on give -/
structure RunOk (l : List Defect) (ps : List Int) (d : Defect) (s : ByteArray) (ts : List Int) (r : ByteArray) : Prop where
  size : r.size = ps.length
  found : foundB l r = true
  fit : ∀ i, i < ps.length → byteAt r i = if (i : Int) ∈ ts then byteAt d.signs i else byteAt s i
  mem : ∀ x ∈ ts, 0 ≤ x ∧ x < ps.length ∧ (byteAt s x.toNat).toNat = 63
  nodup : ts.Nodup
  cost : sumT ps ts ≤ (wst l ps s).1 ∧ 0 ≤ sumT ps ts
theorem runN_ok {l : List Defect} {ps : List Int} {d : Defect} (hv : vDefects l ps = true) (hd : vDef ps.length d = true) : ∀ f s, holes s = f → s.size = ps.length → RunOk l ps d s (runN l ps d f s).1 (runN l ps d f s).2 := by
  intro f
  induction f with
  | zero =>
    intro s hf hs
    have hF := found_full hv hs hf
    exact ⟨hs, hF, fun i hi => by simp [runN], fun x hx => by simp [runN] at hx, by simp [runN], by rw [wst_found hF]; simp [runN, sumT]⟩
  | succ f ih =>
    intro s hf hs
    cases hF : foundB l s with
    | true =>
      have e : runN l ps d (f + 1) s = ([], s) := by rw [runN, if_pos hF]
      rw [e]
      exact ⟨hs, hF, fun i hi => by simp, fun x hx => by simp at hx, by simp, by rw [wst_found hF]; simp [sumT]⟩
    | false =>
      obtain ⟨t, ht, hw, h63, _⟩ := wst_spec hv hs hF
      have e : (wst l ps s).2 = (t : Int) := by rw [hw]
      have hh := holes_put (c := byteAt d.signs t) (show t < s.size by omega) h63 (sign_ne hd ht)
      have hr := ih (put s t (byteAt d.signs t)) (by omega) (by rw [put_size, hs])
      have e2 : runN l ps d (f + 1) s = ((t : Int) :: (runN l ps d f (put s t (byteAt d.signs t))).1, (runN l ps d f (put s t (byteAt d.signs t))).2) := by
        rw [runN, if_neg (by simp [hF]), e]; rfl
      rw [e2]
      generalize runN l ps d f (put s t (byteAt d.signs t)) = R at *
      obtain ⟨ts, r⟩ := R
      dsimp only at *
      have hnt : ¬ ((t : Int) ∈ ts) := fun hm => by
        have := (hr.mem _ hm).2.2
        rw [put_at _ _ _ _ (by omega), if_pos (by simp)] at this
        exact sign_ne hd ht this
      refine ⟨hr.size, hr.found, fun i hi => ?_, fun x hx => ?_, List.nodup_cons.2 ⟨hnt, hr.nodup⟩, ?_⟩
      · rw [hr.fit i hi, put_at _ _ _ _ (by omega)]
        by_cases e : i = t
        · subst e
          rw [if_neg hnt, if_pos rfl, if_pos (by simp)]
        · rw [if_neg e]
          have : ((i : Int) ∈ (t : Int) :: ts) ↔ (i : Int) ∈ ts := by
            rw [List.mem_cons]
            constructor
            · rintro (h | h)
              · exact absurd (by omega) e
              · exact h
            · exact .inr
          simp only [this]
      · rw [List.mem_cons] at hx
        rcases hx with rfl | hx
        · exact ⟨by omega, by omega, by simpa using h63⟩
        · obtain ⟨h1, h2, h3⟩ := hr.mem x hx
          refine ⟨h1, h2, ?_⟩
          rw [put_at _ _ _ _ (by omega)] at h3
          split at h3
          · exact absurd h3 (sign_ne hd ht)
          · exact h3
      · have hb := hr.cost
        have hp := (vDefects_inv hv).2.2.1 t ht
        have hsg : (byteAt d.signs t) = 48 ∨ (byteAt d.signs t) = 49 := by
          obtain ⟨_, _, _, hz, hb⟩ := vDef_inv hd
          have := rall_inv hb t (by omega)
          simp only [signC, Bool.or_eq_true, decide_eq_true_eq] at this
          rcases this with h | h
          · exact .inl (byte_ext (by simpa using (by omega : (byteAt d.signs t).toNat = 48)))
          · exact .inr (byte_ext (by simpa using (by omega : (byteAt d.signs t).toNat = 49)))
        rw [hw]
        simp only [sumT, Int.toNat_natCast, thr]
        rcases hsg with h | h <;> rw [h] at hb <;> omega
theorem runT_ok {l : List Defect} {ps : List Int} {d : Defect} (hv : vDefects l ps = true) (hd : vDef ps.length d = true) (s : ByteArray) (hs : s.size = ps.length) : RunOk l ps d s (runT l ps d s).1 (runT l ps d s).2 := runN_ok hv hd _ s rfl hs
theorem qs_at {n i : Nat} (h : i < n) : byteAt (qs n) i = 63 := by
  rw [byteAt, qs_list]
  simp [h]
theorem run_answers {l : List Defect} {ps : List Int} {d : Defect} {ts : List Int} {r : ByteArray} (hd : vDef ps.length d = true) (h : RunOk l ps d (qs ps.length) ts r) : answersB r ps.length = true := answersB_true h.size fun i hi => by
  have hi' : i < ps.length := by rw [← h.size]; exact hi
  rw [h.fit i hi']
  split
  · obtain ⟨_, _, _, hz, hb⟩ := vDef_inv hd
    have := rall_inv hb i (by omega)
    simp only [signC, Bool.or_eq_true, decide_eq_true_eq] at this
    simp only [ansC, Bool.or_eq_true, decide_eq_true_eq]
    exact .inl this
  · rw [qs_at hi']; rfl
theorem run_fits {l : List Defect} {ps : List Int} {d : Defect} {ts : List Int} {r : ByteArray} (h : RunOk l ps d (qs ps.length) ts r) : fits d r = true := fitsN_of fun i hi => by
  have hi' : i < ps.length := by rw [← h.size]; exact hi
  rw [fitC, h.fit i hi']
  split
  · simp
  · rw [qs_at hi']; rfl
/-- the defect that is there fits, and all that fit have its signs -/
theorem run_same {l : List Defect} {ps : List Int} {D : Nat} {ts : List Int} {r : ByteArray} (hD : D < l.length) (h : RunOk l ps (dat l D) (qs ps.length) ts r) : (D : Int) ∈ fitL l r ∧ ∀ k, k < (fitL l r).length → sgn l r k = (dat l D).signs := by
  have hm : (D : Int) ∈ fitL l r := fitN_mem.2 ⟨by omega, by omega, by simpa using run_fits h⟩
  refine ⟨hm, fun k hk => ?_⟩
  obtain ⟨j, hj, e⟩ := List.getElem_of_mem hm
  have h1 := foundB_inv h.found k hk
  have h2 := foundB_inv h.found j hj
  rw [h1, ← h2, sgn, ← num_eq hj, e]
  rfl
theorem sgn_def (l : List Defect) (s : ByteArray) : ∀ k, sgn l s k = (dat l (num (fitL l s) k).toNat).signs := fun _ => rfl
/-- two defects with the same signs -/
def alikeB (l : List Defect) : Bool := (List.range l.length).any fun i => (List.range i).any fun k => decide ((dat l i).signs = (dat l k).signs)
theorem alikeB_true {l : List Defect} {i k : Nat} (hi : i < l.length) (hk : k < i) (h : (dat l i).signs = (dat l k).signs) : alikeB l = true := by
  rw [alikeB, List.any_eq_true]
  refine ⟨i, List.mem_range.2 hi, ?_⟩
  rw [List.any_eq_true]
  exact ⟨k, List.mem_range.2 hk, by simpa using h⟩
theorem alikeB_false {l : List Defect} (h : ∀ i, i < l.length → ∀ k, k < i → (dat l i).signs ≠ (dat l k).signs) : alikeB l = false := by
  rw [← Bool.not_eq_true, alikeB, List.any_eq_true]
  rintro ⟨i, hi, h2⟩
  rw [List.any_eq_true] at h2
  obtain ⟨k, hk, h3⟩ := h2
  exact h i (List.mem_range.1 hi) k (List.mem_range.1 hk) (by simpa using h3)
/-- where no two are alike, just one fits in the end -/
theorem run_one {l : List Defect} {ps : List Int} {D : Nat} {ts : List Int} {r : ByteArray} (hD : D < l.length) (h : RunOk l ps (dat l D) (qs ps.length) ts r) (ha : alikeB l = false) (hr : (fitL l r).Pairwise (· < ·)) (hb : ∀ x ∈ fitL l r, 0 ≤ x ∧ x < (l.length : Int)) : (fitL l r).length = 1 := by
  obtain ⟨hm, hs⟩ := run_same hD h
  have hpos := List.length_pos_of_mem hm
  rcases Nat.lt_or_ge 1 (fitL l r).length with h1 | h1
  · exfalso
    have hlt := List.pairwise_iff_getElem.1 hr 0 1 (by omega) h1 (by omega)
    have b0 := hb _ (List.getElem_mem (show 0 < (fitL l r).length by omega))
    have b1 := hb _ (List.getElem_mem h1)
    have e0 := hs 0 (by omega)
    have e1 := hs 1 h1
    rw [sgn] at e0 e1
    rw [num_eq (show 0 < (fitL l r).length by omega)] at hlt b0
    rw [num_eq h1] at hlt b1
    have := alikeB_true (l := l) (i := (num (fitL l r) 1).toNat) (k := (num (fitL l r) 0).toNat) (by omega) (by omega) (by rw [e0, e1])
    rw [ha] at this
    cases this
  · omega
end Go.Proofs.Ytfggbcmpgkhlaaa

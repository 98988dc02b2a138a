/-
  Hires that are booked or come back early stay valid; a machine that is booked was free and is not free then: plain facts. No program.
-/
import Derived.Test.YtiagckbdofeecaaDoorBookAny
namespace Go.Proofs.YtiagckbdofeecaaDoor
open Go.RowKit
theorem meet_comm (a b : Hire) : meet a b = meet b a := by
  simp only [meet, decide_eq_decide]
  omega
theorem vHires_all {l : List Hire} {n : Int} (h : vHires l n = true) : (1 ≤ n ∧ n ≤ 20) ∧ l.length ≤ 60 ∧ ∀ i, i < l.length → vHire (hat l i) = true ∧ (hat l i).m < n ∧ (0 < i → before (hat l (i - 1)) (hat l i) = true) ∧ ∀ k, k < i → meet (hat l k) (hat l i) = false := by
  have h20 := vHires_nn h
  have h60 := vHires_len60 h
  simp only [vHires, Bool.and_eq_true, List.all_eq_true, List.mem_range] at h
  refine ⟨h20, h60, fun i hi => ?_⟩
  have h3 := h.2 i hi
  simp only [okAt, okHead, Bool.and_eq_true, Bool.or_eq_true, decide_eq_true_eq, List.all_eq_true, List.mem_range, Bool.not_eq_true'] at h3
  exact ⟨h3.1.1.1, h3.1.1.2, fun h0 => h3.1.2.resolve_left (by omega), h3.2⟩
theorem vHires_mk {l : List Hire} {n : Int} (h1 : 1 ≤ n ∧ n ≤ 20) (h2 : l.length ≤ 60) (h : ∀ i, i < l.length → vHire (hat l i) = true ∧ (hat l i).m < n ∧ (0 < i → before (hat l (i - 1)) (hat l i) = true) ∧ ∀ k, k < i → meet (hat l k) (hat l i) = false) : vHires l n = true := by
  refine vHires_true (by simp only [btw, decide_eq_true_eq]; omega) h2 fun i hi => ?_
  obtain ⟨a, b, c, d⟩ := h i hi
  refine okAt_true ?_ d
  simp only [okHead, Bool.and_eq_true, Bool.or_eq_true, decide_eq_true_eq]
  refine ⟨⟨a, b⟩, ?_⟩
  by_cases h0 : i = 0
  · exact .inl h0
  · exact .inr (c (by omega))
theorem hat_ins {l : List Hire} {k : Nat} {x : Hire} (hk : k ≤ l.length) (i : Nat) : hat (insAt l k x) i = if i < k then hat l i else if i = k then x else hat l (i - 1) := by
  unfold hat insAt
  simp only [List.getD_eq_getElem?_getD]
  have h1 : (l.take k).length = k := by rw [List.length_take]; omega
  by_cases a : i < k
  · rw [if_pos a, List.getElem?_append_left (by rw [List.length_append, List.length_singleton]; omega), List.getElem?_append_left (by omega), List.getElem?_take_of_lt a]
  · rw [if_neg a]
    by_cases b : i = k
    · subst b
      rw [if_pos rfl, List.getElem?_append_left (by rw [List.length_append, List.length_singleton]; omega), List.getElem?_append_right (by omega), h1]
      simp
    · rw [if_neg b, List.getElem?_append_right (by rw [List.length_append, List.length_singleton]; omega), List.length_append, List.length_singleton, h1, List.getElem?_drop]
      rw [show k + (i - (k + 1)) = i - 1 by omega]
theorem insN_spec (l : List Hire) (x : Hire) : insN l x ≤ l.length ∧ (∀ i, i < insN l x → before (hat l i) x = true) ∧ (insN l x < l.length → before (hat l (insN l x)) x = false) := by
  induction l with
  | nil => simp [insN]
  | cons a l ih =>
    by_cases h : before a x = true
    · have e : insN (a :: l) x = insN l x + 1 := by simp [insN, h]
      rw [e]
      refine ⟨by simp; exact ih.1, fun i hi => ?_, fun hi => ?_⟩
      · cases i with
        | zero => simpa [hat] using h
        | succ i => have := ih.2.1 i (by omega); simpa [hat] using this
      · have := ih.2.2 (by simpa using hi); simpa [hat] using this
    · have e : insN (a :: l) x = 0 := by simp [insN, h]
      rw [e]
      exact ⟨by omega, fun i hi => by omega, fun _ => by simpa [hat] using h⟩
theorem before_or {a b : Hire} (h : before a b = false) (hm : meet a b = false) (ha : a.f < a.t) (hb : b.f < b.t) : before b a = true := by
  simp only [before, meet, decide_eq_false_iff_not, decide_eq_true_eq] at *
  omega
/-- a hire that is free, put in, keeps them valid -/
theorem book_valid {l : List Hire} {n : Int} {x : Hire} (h : vHires l n = true) (hx : vHire x = true) (hm : x.m < n) (hf : free l x.m x.f x.t = true) (hl : l.length < 60) : vHires (insAt l (insN l x) x) n = true := by
  obtain ⟨h1, h2, h3⟩ := vHires_all h
  obtain ⟨k1, k2, k3⟩ := insN_spec l x
  have hbx := vHire_bd hx
  have hfr : ∀ j, j < l.length → meet (hat l j) x = false := fun j hj => free_not hf hj
  generalize insN l x = k at *
  have hlen := insAt_len l k x k1
  refine vHires_mk h1 (by omega) fun i hi => ?_
  rw [hlen] at hi
  simp only [hat_ins k1]
  by_cases a : i < k
  · rw [if_pos a]
    obtain ⟨p, q, r, s⟩ := h3 i (by omega)
    refine ⟨p, q, fun h0 => ?_, fun j hj => ?_⟩
    · rw [if_pos (by omega)]; exact r h0
    · rw [if_pos (by omega)]; exact s j hj
  · rw [if_neg a]
    by_cases b : i = k
    · subst b
      rw [if_pos rfl]
      refine ⟨hx, hm, fun h0 => ?_, fun j hj => ?_⟩
      · rw [if_pos (by omega)]; exact k2 (i - 1) (by omega)
      · rw [if_pos hj]; exact hfr j (by omega)
    · rw [if_neg b]
      obtain ⟨p, q, r, s⟩ := h3 (i - 1) (by omega)
      refine ⟨p, q, fun h0 => ?_, fun j hj => ?_⟩
      · rw [if_neg (by omega)]
        by_cases c : i - 1 = k
        · rw [if_pos c]
          have hkl : k < l.length := by omega
          have hv := vHire_bd (h3 k hkl).1
          rw [c]
          exact before_or (k3 hkl) (hfr k hkl) (by omega) (by omega)
        · rw [if_neg c]; exact r (by omega)
      · by_cases c : j < k
        · rw [if_pos c]; exact s j (by omega)
        · rw [if_neg c]
          by_cases e : j = k
          · rw [if_pos e, meet_comm]; exact hfr (i - 1) (by omega)
          · rw [if_neg e]; exact s (j - 1) (by omega)
theorem hat_set {l : List Hire} {K : Nat} (hK : K < l.length) (x : Hire) (i : Nat) : hat (l.set K x) i = if i = K then x else hat l i := by
  unfold hat
  simp only [List.getD_eq_getElem?_getD]
  by_cases h : i = K
  · subst h; rw [List.getElem?_set_self hK, if_pos rfl]; rfl
  · rw [List.getElem?_set_ne (fun e => h e.symm), if_neg h]
/-- a hire that ends earlier keeps them valid -/
theorem early_valid {l : List Hire} {n : Int} {K : Nat} {d : Int} (h : vHires l n = true) (hK : K < l.length) (h1 : (hat l K).f < d) (h2 : d < (hat l K).t) : vHires (l.set K ⟨(hat l K).m, (hat l K).f, d⟩) n = true := by
  obtain ⟨a1, a2, a3⟩ := vHires_all h
  refine vHires_mk a1 (by rw [List.length_set]; exact a2) fun i hi => ?_
  rw [List.length_set] at hi
  simp only [hat_set hK]
  obtain ⟨p, q, r, s⟩ := a3 i hi
  have hb : ∀ y z : Hire, before y ⟨z.m, z.f, d⟩ = before y z ∧ before ⟨z.m, z.f, d⟩ y = before z y := fun y z => ⟨rfl, rfl⟩
  have hm1 : ∀ y : Hire, meet y (hat l K) = false → meet y ⟨(hat l K).m, (hat l K).f, d⟩ = false := fun y hy => by
    simp only [meet, decide_eq_false_iff_not] at hy ⊢
    omega
  have hm2 : ∀ y : Hire, meet (hat l K) y = false → meet ⟨(hat l K).m, (hat l K).f, d⟩ y = false := fun y hy => by
    rw [meet_comm] at hy ⊢
    exact hm1 y hy
  by_cases e : i = K
  · subst e
    rw [if_pos rfl]
    refine ⟨?_, q, fun h0 => ?_, fun j hj => ?_⟩
    · have := vHire_bd p
      simp only [vHire, btw, days, Bool.and_eq_true, decide_eq_true_eq]
      omega
    · rw [if_neg (by omega), (hb _ _).1]; exact r h0
    · rw [if_neg (by omega)]; exact hm1 _ (s j hj)
  · rw [if_neg e]
    refine ⟨p, q, fun h0 => ?_, fun j hj => ?_⟩
    · by_cases e2 : i - 1 = K
      · rw [if_pos e2, (hb _ _).2, ← e2]; exact r h0
      · rw [if_neg e2]; exact r h0
    · by_cases e2 : j = K
      · subst e2
        rw [if_pos rfl]; exact hm2 _ (s j hj)
      · rw [if_neg e2]; exact s j hj
theorem free_ins {l : List Hire} {k : Nat} {x : Hire} (hk : k ≤ l.length) (m f t : Int) : free (insAt l k x) m f t = (free l m f t && !meet x ⟨m, f, t⟩) := by
  rw [Bool.eq_iff_iff, Bool.and_eq_true]
  have hlen := insAt_len l k x hk
  constructor
  · intro h
    refine ⟨free_true fun j hj => ?_, ?_⟩
    · by_cases a : j < k
      · have := free_not h (k := j) (by omega)
        rwa [hat_ins hk, if_pos a] at this
      · have := free_not h (k := j + 1) (by omega)
        rw [hat_ins hk, if_neg (by omega), if_neg (by omega)] at this
        simpa using this
    · have := free_not h (k := k) (by omega)
      rw [hat_ins hk, if_neg (by omega), if_pos rfl] at this
      simp [this]
  · rintro ⟨h1, h2⟩
    have h2 : meet x ⟨m, f, t⟩ = false := by simpa using h2
    refine free_true fun j hj => ?_
    rw [hat_ins hk]
    split
    · exact free_not h1 (by omega)
    · split
      · exact h2
      · exact free_not h1 (by omega)
theorem meet_own (b m f t : Int) (h : f < t) : meet ⟨b, f, t⟩ ⟨m, f, t⟩ = decide (b = m) := by
  simp only [meet, decide_eq_decide]
  omega
/-- after the booking of machine b the free ones are the same without b -/
theorem fL_ins {l : List Hire} {k : Nat} {b : Nat} {f t : Int} (hk : k ≤ l.length) (h : f < t) : ∀ j, fL (insAt l k ⟨(b : Int), f, t⟩) f t j = (fL l f t j).filter fun m => decide (m ≠ (b : Int))
  | 0 => rfl
  | j + 1 => by
    rw [fL, fL, fL_ins hk h j, free_ins hk, meet_own _ _ _ _ h]
    by_cases c : free l (j : Int) f t = true
    · rw [c, Bool.true_and, if_pos rfl, List.filter_append]
      by_cases e : (b : Int) = (j : Int)
      · rw [if_neg (by simp [e])]
        simp [e]
      · rw [if_pos (by simp [e])]
        have : ¬ (j : Int) = (b : Int) := fun h => e h.symm
        simp [this]
    · rw [if_neg c, if_neg (by simp [c])]
theorem fL_mem {l : List Hire} {f t : Int} {x : Nat} : ∀ j, (x : Int) ∈ fL l f t j ↔ x < j ∧ free l (x : Int) f t = true
  | 0 => by simp [fL]
  | j + 1 => by
    rw [fL]
    split
    · rename_i h
      rw [List.mem_append, fL_mem j, List.mem_singleton]
      constructor
      · rintro (⟨a, b⟩ | a)
        · exact ⟨by omega, b⟩
        · have : x = j := by omega
          subst this; exact ⟨by omega, h⟩
      · rintro ⟨a, b⟩
        by_cases e : x = j
        · subst e; exact .inr rfl
        · exact .inl ⟨by omega, b⟩
    · rename_i h
      rw [fL_mem j]
      constructor
      · rintro ⟨a, b⟩; exact ⟨by omega, b⟩
      · rintro ⟨a, b⟩
        by_cases e : x = j
        · subst e; exact absurd b h
        · exact ⟨by omega, b⟩
theorem fL_filter_len {l : List Hire} {f t : Int} {b : Nat} : ∀ j, ((fL l f t j).filter fun m => decide (m ≠ (b : Int))).length + (if (b : Int) ∈ fL l f t j then 1 else 0) = (fL l f t j).length
  | 0 => by simp [fL]
  | j + 1 => by
    have ih := fL_filter_len (l := l) (f := f) (t := t) (b := b) j
    rw [fL]
    by_cases c : free l (j : Int) f t = true
    · rw [if_pos c, List.filter_append, List.length_append, List.length_append, List.length_singleton]
      by_cases e : b = j
      · subst e
        have h1 : ¬ (b : Int) ∈ fL l f t b := fun h => by have := (fL_mem (x := b) b).1 h; omega
        rw [if_neg h1] at ih
        rw [if_pos (by simp)]
        have : (List.filter (fun m => decide (m ≠ (b : Int))) [(b : Int)]).length = 0 := by simp
        omega
      · have h2 : ((b : Int) ∈ fL l f t j ++ [(j : Int)]) ↔ (b : Int) ∈ fL l f t j := by
          rw [List.mem_append, List.mem_singleton]
          constructor
          · rintro (h | h)
            · exact h
            · omega
          · exact .inl
        have h3 : (List.filter (fun m => decide (m ≠ (b : Int))) [(j : Int)]).length = 1 := by
          have : ¬ (j : Int) = (b : Int) := by omega
          simp [this]
        by_cases h4 : (b : Int) ∈ fL l f t j
        · rw [if_pos h4] at ih
          rw [if_pos (h2.2 h4)]; omega
        · rw [if_neg h4] at ih
          rw [if_neg (fun h => h4 (h2.1 h))]; omega
    · rw [if_neg c]; exact ih
/-- the law, of BookAny and FreeMachines -/
theorem any_code {l : List Hire} {n f t : Int} (h : (fmR l n f t).2 = 0) : ((fmR l n f t).1.length = 0 ↔ (anyR l n f t).2.2 = 3) := by
  by_cases hv : vHires l n = true
  · by_cases hd : days f t = true
    · have e1 : fmR l n f t = (fL l f t n.toNat, 0) := by rw [fmR, if_pos hv, if_pos hd]
      rw [e1]
      rcases bst_st hv f t n.toNat with ⟨a, b, _⟩ | ⟨a, b, _⟩
      · have : anyR l n f t = ([], 0, 3) := by rw [anyR, if_pos hv, if_pos hd, if_pos (by omega)]
        rw [this, a]; simp
      · have hne : ¬ (fL l f t n.toNat).length = 0 := fun h => a (List.length_eq_zero_iff.1 h)
        refine ⟨fun h => absurd h hne, fun h => ?_⟩
        rw [anyR, if_pos hv, if_pos hd, if_neg (by omega)] at h
        split at h
        · exact absurd h (by show ¬ (0 : Int) = 3; omega)
        · exact absurd h (by show ¬ (5 : Int) = 3; omega)
    · rw [fmR, if_pos hv, if_neg hd] at h
      exact absurd h (by show ¬ (2 : Int) = 0; omega)
  · rw [fmR, if_neg hv] at h
    exact absurd h (by show ¬ (1 : Int) = 0; omega)
theorem any_law {l : List Hire} {n f t : Int} (h : (anyR l n f t).2.2 = 0) :
    (fmR l n f t).2 = 0 ∧ (fmR l n f t).1.contains (anyR l n f t).2.1 = true ∧ vHires (anyR l n f t).1 n = true ∧ (fmR (anyR l n f t).1 n f t).2 = 0 ∧ (fmR (anyR l n f t).1 n f t).1.length + 1 = (fmR l n f t).1.length ∧ (fmR (anyR l n f t).1 n f t).1.contains (anyR l n f t).2.1 = false := by
  by_cases hv : vHires l n = true
  · by_cases hd : days f t = true
    · have e1 : fmR l n f t = (fL l f t n.toNat, 0) := by rw [fmR, if_pos hv, if_pos hd]
      have hn := vHires_nn hv
      have hbd := bst_bd l f t n.toNat
      have hdd : 0 ≤ f ∧ f < t ∧ t ≤ 3650 := by simpa only [days, decide_eq_true_eq] using hd
      by_cases hb : bst l f t n.toNat < 0
      · rw [anyR, if_pos hv, if_pos hd, if_pos hb] at h
        exact absurd h (by show ¬ (3 : Int) = 0; omega)
      · by_cases hl : l.length < 60
        · have e2 : anyR l n f t = (insAt l (insN l (anyX l n f t)) (anyX l n f t), bst l f t n.toNat, 0) := by rw [anyR, if_pos hv, if_pos hd, if_neg hb, if_pos hl]
          have hxe : anyX l n f t = ⟨bst l f t n.toNat, f, t⟩ := rfl
          have hfree := hbd.2.2 (by omega)
          have hk := (insN_spec l (anyX l n f t)).1
          have hval : vHires (insAt l (insN l (anyX l n f t)) (anyX l n f t)) n = true := book_valid hv (by rw [hxe]; simp only [vHire, btw, Bool.and_eq_true, decide_eq_true_eq]; exact ⟨by omega, hd⟩) (by rw [hxe]; show bst l f t n.toNat < n; omega) (by rw [hxe]; exact hfree) hl
          rw [e1, e2]
          dsimp only
          have e3 : fmR (insAt l (insN l (anyX l n f t)) (anyX l n f t)) n f t = (fL (insAt l (insN l (anyX l n f t)) (anyX l n f t)) f t n.toNat, 0) := by rw [fmR, if_pos hval, if_pos hd]
          rw [e3]
          dsimp only
          generalize insN l (anyX l n f t) = k at *
          rw [hxe] at *
          obtain ⟨b, hbn⟩ : ∃ b : Nat, bst l f t n.toNat = (b : Int) := ⟨(bst l f t n.toNat).toNat, by omega⟩
          have hb1 : (b : Int) < n.toNat := by rw [← hbn]; omega
          have hfree2 : free l (b : Int) f t = true := by rw [← hbn]; exact hfree
          have hmem : (b : Int) ∈ fL l f t n.toNat := (fL_mem _).2 ⟨by omega, hfree2⟩
          rw [hbn] at hval
          rw [hbn]
          rw [fL_ins hk hdd.2.1]
          have hfl := fL_filter_len (l := l) (f := f) (t := t) (b := b) n.toNat
          rw [if_pos hmem] at hfl
          refine ⟨rfl, by rw [List.contains_iff_mem]; exact hmem, hval, rfl, hfl, ?_⟩
          rw [← Bool.not_eq_true, List.contains_iff_mem, List.mem_filter]
          rintro ⟨_, h9⟩
          simp at h9
        · rw [anyR, if_pos hv, if_pos hd, if_neg hb, if_neg hl] at h
          exact absurd h (by show ¬ (5 : Int) = 0; omega)
    · rw [anyR, if_pos hv, if_neg hd] at h
      exact absurd h (by show ¬ (2 : Int) = 0; omega)
  · rw [anyR, if_neg hv] at h
    exact absurd h (by show ¬ (1 : Int) = 0; omega)
end Go.Proofs.YtiagckbdofeecaaDoor

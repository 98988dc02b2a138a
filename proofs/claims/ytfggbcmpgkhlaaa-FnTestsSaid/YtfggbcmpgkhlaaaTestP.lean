/-
  Tests for defects: plain facts (which defects fit, when the defect is found, the worst price and the next test). No program. No condition but what stands at each.
-/
import Derived.Test.YtfggbcmpgkhlaaaDefects
import Derived.Test.YtfggbcmpgkhlaaaName
namespace Go.Proofs.Ytfggbcmpgkhlaaa
open Go.RowKit
theorem rall_true {n : Nat} {p : Nat → Bool} (h : ∀ i, i < n → p i = true) : (List.range n).all p = true := by
  simp only [List.all_eq_true, List.mem_range]
  exact h
theorem rall_at {n i : Nat} {p : Nat → Bool} (hi : i < n) (h : p i = false) : (List.range n).all p = false := by
  rw [← Bool.not_eq_true]
  intro hc
  rw [List.all_eq_true] at hc
  have := hc i (List.mem_range.2 hi)
  simp [h] at this
theorem rall_inv {n : Nat} {p : Nat → Bool} (h : (List.range n).all p = true) : ∀ i, i < n → p i = true := by
  simpa only [List.all_eq_true, List.mem_range] using h
def btw (n lo hi : Int) : Bool := decide (lo ≤ n ∧ n ≤ hi)
theorem btw_true {n lo hi : Int} (h : btw n lo hi = true) : lo ≤ n ∧ n ≤ hi := by simpa [btw] using h
theorem btw_false {n lo hi : Int} (h : btw n lo hi = false) : ¬ (lo ≤ n ∧ n ≤ hi) := by simpa [btw] using h
def num (ps : List Int) (i : Nat) : Int := ps.getD i 0
theorem num_eq {ps : List Int} {i : Nat} (h : i < ps.length) : ps[i] = num ps i := by simp [num, h]
def dat (l : List Defect) (i : Nat) : Defect := l.getD i ⟨ByteArray.empty, 0, ByteArray.empty⟩
theorem dat_eq {l : List Defect} {i : Nat} (h : i < l.length) : l[i] = dat l i := by simp [dat, h]
def signC (c : UInt8) : Bool := decide ((c.toNat : Int) = 48) || decide ((c.toNat : Int) = 49)
def signsB (s : ByteArray) : Bool := (List.range s.size).all fun i => signC (byteAt s i)
def vDef (n : Nat) (d : Defect) : Bool := nameB d.name && btw d.weight 1 1000 && decide (d.signs.size = n) && signsB d.signs
theorem vDef_inv {n : Nat} {d : Defect} (h : vDef n d = true) : nameB d.name = true ∧ 1 ≤ d.weight ∧ d.weight ≤ 1000 ∧ d.signs.size = n ∧ signsB d.signs = true := by
  simp only [vDef, Bool.and_eq_true, decide_eq_true_eq] at h
  have := btw_true h.1.1.2
  exact ⟨h.1.1.1, this.1, this.2, h.1.2, h.2⟩
def okD (l : List Defect) (n i : Nat) : Bool := vDef n (dat l i) && (List.range i).all fun k => !decide ((dat l k).name = (dat l i).name)
theorem okD_true {l : List Defect} {n i : Nat} (h : vDef n (dat l i) = true) (hk : ∀ k, k < i → (dat l k).name ≠ (dat l i).name) : okD l n i = true := by
  rw [okD, h, Bool.true_and]
  exact rall_true fun k hki => by simp [hk k hki]
theorem okD_no {l : List Defect} {n i : Nat} (h : vDef n (dat l i) = false) : okD l n i = false := by rw [okD, h]; rfl
theorem okD_name {l : List Defect} {n i k : Nat} (hk : k < i) (h : (dat l k).name = (dat l i).name) : okD l n i = false := by
  rw [okD, rall_at hk (by simp [h])]
  simp
def pricesB (ps : List Int) : Bool := (List.range ps.length).all fun i => btw (num ps i) 1 100
def vDefects (l : List Defect) (ps : List Int) : Bool := decide (l.length ≤ 10 ∧ ps.length ≤ 6) && pricesB ps && (List.range l.length).all (okD l ps.length)
theorem vDefects_true {l : List Defect} {ps : List Int} (h0 : l.length ≤ 10 ∧ ps.length ≤ 6) (h1 : ∀ i, i < ps.length → btw (num ps i) 1 100 = true) (h2 : ∀ i, i < l.length → okD l ps.length i = true) : vDefects l ps = true := by
  rw [vDefects, decide_eq_true h0, pricesB, rall_true h1, rall_true h2]; rfl
theorem vDefects_len {l : List Defect} {ps : List Int} (h0 : ¬ (l.length ≤ 10 ∧ ps.length ≤ 6)) : vDefects l ps = false := by
  rw [vDefects, decide_eq_false h0]; rfl
theorem vDefects_price {l : List Defect} {ps : List Int} {i : Nat} (hi : i < ps.length) (h : btw (num ps i) 1 100 = false) : vDefects l ps = false := by
  rw [vDefects, pricesB, rall_at hi h]; simp
theorem vDefects_at {l : List Defect} {ps : List Int} {i : Nat} (hi : i < l.length) (h : okD l ps.length i = false) : vDefects l ps = false := by
  rw [vDefects, rall_at hi h]; simp
theorem vDefects_inv {l : List Defect} {ps : List Int} (h : vDefects l ps = true) : l.length ≤ 10 ∧ ps.length ≤ 6 ∧ (∀ i, i < ps.length → 1 ≤ num ps i ∧ num ps i ≤ 100) ∧ ∀ i, i < l.length → vDef ps.length (dat l i) = true := by
  simp only [vDefects, Bool.and_eq_true, decide_eq_true_eq] at h
  obtain ⟨⟨⟨h1, h2⟩, h3⟩, h4⟩ := h
  refine ⟨h1, h2, fun i hi => btw_true (rall_inv h3 i hi), fun i hi => ?_⟩
  have := rall_inv h4 i hi
  simp only [okD, Bool.and_eq_true] at this
  exact this.1
def ansC (c : UInt8) : Bool := decide ((c.toNat : Int) = 48) || decide ((c.toNat : Int) = 49) || decide ((c.toNat : Int) = 63)
def answersB (s : ByteArray) (n : Nat) : Bool := decide (s.size = n) && (List.range s.size).all fun i => ansC (byteAt s i)
theorem answersB_at {s : ByteArray} {n i : Nat} (hi : i < s.size) (h : ansC (byteAt s i) = false) : answersB s n = false := by
  rw [answersB, rall_at hi h, Bool.and_false]
theorem answersB_len {s : ByteArray} {n : Nat} (h : s.size ≠ n) : answersB s n = false := by
  rw [answersB, decide_eq_false h]; rfl
theorem answersB_true {s : ByteArray} {n : Nat} (h : s.size = n) (h2 : ∀ i, i < s.size → ansC (byteAt s i) = true) : answersB s n = true := by
  rw [answersB, decide_eq_true h, rall_true h2]; rfl
theorem answersB_inv {s : ByteArray} {n : Nat} (h : answersB s n = true) : s.size = n ∧ ∀ i, i < s.size → ansC (byteAt s i) = true := by
  simp only [answersB, Bool.and_eq_true, decide_eq_true_eq] at h
  exact ⟨h.1, rall_inv h.2⟩
def codeT (l : List Defect) (ps : List Int) (s : ByteArray) : Int := if vDefects l ps = true then if answersB s ps.length = true then 0 else 2 else 1
theorem codeT_1 {l : List Defect} {ps : List Int} {s : ByteArray} (h : vDefects l ps = false) : codeT l ps s = 1 := by rw [codeT, if_neg (by simp [h])]
theorem codeT_2 {l : List Defect} {ps : List Int} {s : ByteArray} (h : vDefects l ps = true) (h2 : answersB s ps.length = false) : codeT l ps s = 2 := by rw [codeT, if_pos h, if_neg (by simp [h2])]
theorem codeT_0 {l : List Defect} {ps : List Int} {s : ByteArray} (h : vDefects l ps = true) (h2 : answersB s ps.length = true) : codeT l ps s = 0 := by rw [codeT, if_pos h, if_pos h2]
/-- answer k fits to a defect's signs -/
def fitC (d : Defect) (s : ByteArray) (k : Nat) : Bool := decide ((byteAt s k).toNat = 63) || decide ((byteAt s k).toNat = (byteAt d.signs k).toNat)
def fitsN (d : Defect) (s : ByteArray) : Nat → Bool
  | 0 => true
  | k + 1 => fitsN d s k && fitC d s k
def fits (d : Defect) (s : ByteArray) : Bool := fitsN d s s.size
theorem fitsN_inv {d : Defect} {s : ByteArray} {k : Nat} (h : fitsN d s k = true) : ∀ i, i < k → fitC d s i = true := by
  induction k with
  | zero => intro i hi; omega
  | succ k ih =>
    simp only [fitsN, Bool.and_eq_true] at h
    exact lt_ext (P := fun i => fitC d s i = true) (ih h.1) h.2
theorem fitsN_of {d : Defect} {s : ByteArray} {k : Nat} (h : ∀ i, i < k → fitC d s i = true) : fitsN d s k = true := by
  induction k with
  | zero => rfl
  | succ k ih =>
    simp only [fitsN, Bool.and_eq_true]
    exact ⟨ih fun i hi => h i (by omega), h k (by omega)⟩
def fitN (l : List Defect) (s : ByteArray) : Nat → List Int
  | 0 => []
  | k + 1 => if fits (dat l k) s = true then fitN l s k ++ [(k : Int)] else fitN l s k
theorem fitN_len (l : List Defect) (s : ByteArray) (k : Nat) : (fitN l s k).length ≤ k := by
  induction k with
  | zero => simp [fitN]
  | succ k ih => rw [fitN]; split <;> (try rw [List.length_append, List.length_singleton]) <;> omega
theorem fitN_mem {l : List Defect} {s : ByteArray} {k : Nat} {i : Int} : i ∈ fitN l s k ↔ 0 ≤ i ∧ i < k ∧ fits (dat l i.toNat) s = true := by
  induction k with
  | zero => simp [fitN]; omega
  | succ k ih =>
    rw [fitN]
    split
    · rename_i hf
      rw [List.mem_append, List.mem_singleton, ih]
      constructor
      · rintro (⟨h1, h2, h3⟩ | rfl)
        · exact ⟨h1, by omega, h3⟩
        · exact ⟨by omega, by omega, by simpa using hf⟩
      · rintro ⟨h1, h2, h3⟩
        by_cases e : i = k
        · exact .inr e
        · exact .inl ⟨h1, by omega, h3⟩
    · rename_i hf
      rw [ih]
      constructor
      · rintro ⟨h1, h2, h3⟩
        exact ⟨h1, by omega, h3⟩
      · rintro ⟨h1, h2, h3⟩
        refine ⟨h1, ?_, h3⟩
        rcases Int.lt_or_eq_of_le (show i ≤ k by omega) with h | h
        · exact h
        · subst h; exact absurd (by simpa using h3) hf
def fitL (l : List Defect) (s : ByteArray) : List Int := fitN l s l.length
theorem fitL_len (l : List Defect) (s : ByteArray) : (fitL l s).length ≤ l.length := fitN_len _ _ _
theorem fitL_at {l : List Defect} {s : ByteArray} {k : Nat} (hk : k < (fitL l s).length) : 0 ≤ (num (fitL l s) k) ∧ (num (fitL l s) k) < l.length ∧ fits (dat l (num (fitL l s) k).toNat) s = true := by
  rw [← num_eq hk]
  exact fitN_mem.1 (List.getElem_mem hk)
def sgn (l : List Defect) (s : ByteArray) (k : Nat) : ByteArray := (dat l (num (fitL l s) k).toNat).signs
def foundB (l : List Defect) (s : ByteArray) : Bool := (List.range (fitL l s).length).all fun k => decide (sgn l s k = sgn l s 0)
theorem foundB_true {l : List Defect} {s : ByteArray} (h : ∀ k, k < (fitL l s).length → sgn l s k = sgn l s 0) : foundB l s = true := rall_true fun k hk => decide_eq_true (h k hk)
theorem foundB_at {l : List Defect} {s : ByteArray} {k : Nat} (hk : k < (fitL l s).length) (h : sgn l s k ≠ sgn l s 0) : foundB l s = false := rall_at hk (decide_eq_false h)
theorem foundB_inv {l : List Defect} {s : ByteArray} (h : foundB l s = true) : ∀ k, k < (fitL l s).length → sgn l s k = sgn l s 0 := fun k hk => of_decide_eq_true (rall_inv h k hk)
theorem bsz (s : ByteArray) : s.data.toList.length = s.size := rfl
/-- answers with one more -/
def put (s : ByteArray) (t : Nat) (c : UInt8) : ByteArray := ⟨⟨s.data.toList.set t c⟩⟩
theorem put_size (s : ByteArray) (t : Nat) (c : UInt8) : (put s t c).size = s.size := by rw [← bsz, ← bsz]; exact List.length_set
theorem put_at (s : ByteArray) (t : Nat) (c : UInt8) (i : Nat) (ht : t < s.size) : byteAt (put s t c) i = if i = t then c else byteAt s i := by
  have ht' : t < s.data.toList.length := ht
  unfold byteAt put
  simp only [List.getD_eq_getElem?_getD]
  by_cases h : i = t
  · subst h
    rw [List.getElem?_set_self ht', if_pos rfl]; rfl
  · rw [List.getElem?_set_ne (fun e => h e.symm), if_neg h]
def hol (l : List UInt8) : Nat := l.countP fun c => decide (c.toNat = 63)
def holes (s : ByteArray) : Nat := hol s.data.toList
theorem hol_set {l : List UInt8} {t : Nat} {c : UInt8} (ht : t < l.length) (h : (l.getD t 0).toNat = 63) (hc : c.toNat ≠ 63) : hol (l.set t c) + 1 = hol l := by
  induction l generalizing t with
  | nil => simp at ht
  | cons a l ih =>
    cases t with
    | zero =>
      simp at h
      simp [hol, h, hc]
    | succ t =>
      have := ih (t := t) (by simpa using ht) (by simpa using h)
      simp only [hol, List.set_cons_succ, List.countP_cons] at this ⊢
      omega
theorem hol_zero {l : List UInt8} (h : hol l = 0) (i : Nat) (hi : i < l.length) : (l.getD i 0).toNat ≠ 63 := by
  induction l generalizing i with
  | nil => simp at hi
  | cons a l ih =>
    simp only [hol, List.countP_cons] at h
    cases i with
    | zero =>
      simp
      intro e
      simp [e] at h
    | succ i =>
      simpa using ih (by unfold hol; omega) i (by simpa using hi)
theorem hol_le (l : List UInt8) : hol l ≤ l.length := List.countP_le_length
theorem holes_le (s : ByteArray) : holes s ≤ s.size := by
  exact hol_le s.data.toList
theorem holes_put {s : ByteArray} {t : Nat} {c : UInt8} (ht : t < s.size) (h : (byteAt s t).toNat = 63) (hc : c.toNat ≠ 63) : holes (put s t c) + 1 = holes s :=
  hol_set ht h hc
theorem holes_zero {s : ByteArray} (h : holes s = 0) {i : Nat} (hi : i < s.size) : (byteAt s i).toNat ≠ 63 := hol_zero h i hi
theorem bytes_ext {s t : ByteArray} (hs : s.size = t.size) (h : ∀ i, i < s.size → (byteAt s i).toNat = (byteAt t i).toNat) : s = t := by
  cases s with
  | mk s => cases t with
    | mk t =>
      congr 1
      apply Array.ext
      · exact hs
      · intro i h1 h2
        have := h i h1
        simp only [byteAt, List.getD_eq_getElem?_getD, Array.getElem?_toList] at this
        rw [Array.getElem?_eq_getElem h1, Array.getElem?_eq_getElem h2] at this
        exact UInt8.toNat_inj.1 (by simpa using this)
theorem found_full {l : List Defect} {ps : List Int} {s : ByteArray} (hv : vDefects l ps = true) (hs : s.size = ps.length) (h : holes s = 0) : foundB l s = true := by
  obtain ⟨_, _, _, hd⟩ := vDefects_inv hv
  have key : ∀ k, k < (fitL l s).length → sgn l s k = s := fun k hk => by
    obtain ⟨h1, h2, h3⟩ := fitL_at hk
    have hj : (num (fitL l s) k).toNat < l.length := by omega
    have hsz := (vDef_inv (hd _ hj)).2.2.2.1
    refine bytes_ext (by rw [sgn, hsz, hs]) fun i hi => ?_
    have hi' : i < s.size := by rw [hs, ← hsz]; exact hi
    have := fitsN_inv h3 i hi'
    simp only [fitC, Bool.or_eq_true, decide_eq_true_eq] at this
    rcases this with e | e
    · exact absurd e (holes_zero h hi')
    · exact e.symm
  refine foundB_true fun k hk => ?_
  rw [key k hk, key 0 (by omega)]
/-- the least of some costs at the places that are open, and the first place that has it -/
def scan (cost : Nat → Int) (s : ByteArray) : Nat → Int × Int
  | 0 => (0, -1)
  | k + 1 => if (byteAt s k).toNat = 63 then (if (scan cost s k).2 < 0 ∨ cost k < (scan cost s k).1 then (cost k, (k : Int)) else scan cost s k) else scan cost s k
theorem scan_congr {c1 c2 : Nat → Int} {s : ByteArray} {k : Nat} (h : ∀ t, t < k → (byteAt s t).toNat = 63 → c1 t = c2 t) : scan c1 s k = scan c2 s k := by
  induction k with
  | zero => rfl
  | succ k ih =>
    have e := ih fun t ht => h t (by omega)
    simp only [scan, e]
    split
    · rename_i hq
      rw [h k (by omega) hq]
    · rfl
theorem scan_spec (cost : Nat → Int) (s : ByteArray) (k : Nat) : (scan cost s k = (0, -1) ∧ ∀ t, t < k → (byteAt s t).toNat ≠ 63) ∨
    ∃ t, t < k ∧ scan cost s k = (cost t, (t : Int)) ∧ (byteAt s t).toNat = 63 ∧ ∀ u, u < k → (byteAt s u).toNat = 63 → cost t ≤ cost u ∧ (u < t → cost t < cost u) := by
  induction k with
  | zero => exact .inl ⟨rfl, fun t ht => by omega⟩
  | succ k ih =>
    by_cases hq : (byteAt s k).toNat = 63
    · rcases ih with ⟨e, h⟩ | ⟨t, ht, e, h63, h⟩
      · refine .inr ⟨k, by omega, ?_, hq, fun u hu hu63 => ?_⟩
        · simp [scan, hq, e]
        · rcases Nat.lt_succ_iff_lt_or_eq.1 hu with h' | h'
          · exact absurd hu63 (h u h')
          · subst h'; exact ⟨Int.le_refl _, fun h => by omega⟩
      · by_cases hc : cost k < cost t
        · refine .inr ⟨k, by omega, ?_, hq, fun u hu hu63 => ?_⟩
          · simp [scan, hq, e, hc]
          · rcases Nat.lt_succ_iff_lt_or_eq.1 hu with h' | h'
            · have := (h u h' hu63).1; exact ⟨by omega, fun _ => by omega⟩
            · subst h'; exact ⟨Int.le_refl _, fun h => by omega⟩
        · refine .inr ⟨t, by omega, ?_, h63, fun u hu hu63 => ?_⟩
          · simp [scan, hq, e, hc]; omega
          · rcases Nat.lt_succ_iff_lt_or_eq.1 hu with h' | h'
            · exact h u h' hu63
            · subst h'; exact ⟨by omega, fun h => by omega⟩
    · rcases ih with ⟨e, h⟩ | ⟨t, ht, e, h63, h⟩
      · refine .inl ⟨by simp [scan, hq, e], fun t ht => ?_⟩
        rcases Nat.lt_succ_iff_lt_or_eq.1 ht with h' | h'
        · exact h t h'
        · subst h'; exact hq
      · refine .inr ⟨t, by omega, by simp [scan, hq, e], h63, fun u hu hu63 => ?_⟩
        rcases Nat.lt_succ_iff_lt_or_eq.1 hu with h' | h'
        · exact h u h' hu63
        · subst h'; exact absurd hu63 hq
def worstN (l : List Defect) (ps : List Int) : Nat → ByteArray → Int × Int
  | 0, _ => (0, -1)
  | f + 1, s => if foundB l s = true then (0, -1) else scan (fun t => num ps t + max (worstN l ps f (put s t 48)).1 (worstN l ps f (put s t 49)).1) s ps.length
/-- the worst price of answers, and the next test -/
def wst (l : List Defect) (ps : List Int) (s : ByteArray) : Int × Int := worstN l ps (holes s) s
/-- the worst price where test t is done next -/
def thr (l : List Defect) (ps : List Int) (s : ByteArray) (t : Nat) : Int := num ps t + max (wst l ps (put s t 48)).1 (wst l ps (put s t 49)).1
theorem wst_found {l : List Defect} {ps : List Int} {s : ByteArray} (h : foundB l s = true) : wst l ps s = (0, -1) := by
  unfold wst
  cases holes s with
  | zero => rfl
  | succ f => rw [worstN, if_pos h]
theorem wst_eq {l : List Defect} {ps : List Int} {s : ByteArray} (hv : vDefects l ps = true) (hs : s.size = ps.length) (h : foundB l s = false) : wst l ps s = scan (thr l ps s) s ps.length := by
  have hh : holes s ≠ 0 := fun e => by rw [found_full hv hs e] at h; cases h
  obtain ⟨f, hf⟩ : ∃ f, holes s = f + 1 := ⟨holes s - 1, by omega⟩
  rw [wst, hf, worstN, if_neg (by simp [h])]
  refine scan_congr fun t ht h63 => ?_
  have e1 := holes_put (s := s) (t := t) (c := 48) (by omega) h63 (by decide)
  have e2 := holes_put (s := s) (t := t) (c := 49) (by omega) h63 (by decide)
  rw [thr, wst, wst, show holes (put s t 48) = f by omega, show holes (put s t 49) = f by omega]
theorem wst_spec {l : List Defect} {ps : List Int} {s : ByteArray} (hv : vDefects l ps = true) (hs : s.size = ps.length) (h : foundB l s = false) :
    ∃ t, t < ps.length ∧ wst l ps s = (thr l ps s t, (t : Int)) ∧ (byteAt s t).toNat = 63 ∧ ∀ u, u < ps.length → (byteAt s u).toNat = 63 → thr l ps s t ≤ thr l ps s u ∧ (u < t → thr l ps s t < thr l ps s u) := by
  rw [wst_eq hv hs h]
  rcases scan_spec (thr l ps s) s ps.length with ⟨_, h1⟩ | h1
  · exfalso
    have hh : holes s ≠ 0 := fun e => by rw [found_full hv hs e] at h; cases h
    apply hh
    have : ∀ m : List UInt8, (∀ i, i < m.length → (m.getD i 0).toNat ≠ 63) → hol m = 0 := by
      intro m
      induction m with
      | nil => intro _; rfl
      | cons a m ih =>
        intro hm
        have h0 := hm 0 (by simp)
        have h2 := ih fun i hi => by simpa using hm (i + 1) (by simpa using hi)
        simp at h0
        simp only [hol, List.countP_cons] at h2 ⊢
        simp [h2, h0]
    refine this _ fun i hi => h1 i ?_
    rw [← hs]
    exact hi
  · exact h1
theorem wst_bd {l : List Defect} {ps : List Int} (hv : vDefects l ps = true) : ∀ (f : Nat) (s : ByteArray), holes s = f → s.size = ps.length → 0 ≤ (wst l ps s).1 ∧ (wst l ps s).1 ≤ 100 * (f : Int) := by
  intro f
  induction f with
  | zero => intro s hf hs; rw [wst_found (found_full hv hs hf)]; simp
  | succ f ih =>
    intro s hf hs
    cases h : foundB l s with
    | true => rw [wst_found h]; simp; omega
    | false =>
      obtain ⟨t, ht, e, h63, _⟩ := wst_spec hv hs h
      have h1 := ih (put s t 48) (by have := holes_put (s := s) (t := t) (c := 48) (by omega) h63 (by decide); omega) (by rw [put_size, hs])
      have h2 := ih (put s t 49) (by have := holes_put (s := s) (t := t) (c := 49) (by omega) h63 (by decide); omega) (by rw [put_size, hs])
      have hp := (vDefects_inv hv).2.2.1 t ht
      rw [e]
      simp only [thr]
      omega
theorem wst_le {l : List Defect} {ps : List Int} {s : ByteArray} (hv : vDefects l ps = true) (hs : s.size = ps.length) : 0 ≤ (wst l ps s).1 ∧ (wst l ps s).1 ≤ 600 := by
  have := wst_bd hv (holes s) s rfl hs
  have h2 := holes_le s
  have := (vDefects_inv hv).2.1
  omega
theorem thr_le {l : List Defect} {ps : List Int} {s : ByteArray} {t : Nat} (hv : vDefects l ps = true) (hs : s.size = ps.length) (ht : t < ps.length) : 1 ≤ thr l ps s t ∧ thr l ps s t ≤ 700 := by
  have h1 := wst_le (s := put s t 48) hv (by rw [put_size, hs])
  have h2 := wst_le (s := put s t 49) hv (by rw [put_size, hs])
  have hp := (vDefects_inv hv).2.2.1 t ht
  simp only [thr]
  omega
/-- the tests that are done from some answers on, and the answers in the end -/
def runN (l : List Defect) (ps : List Int) (d : Defect) : Nat → ByteArray → List Int × ByteArray
  | 0, s => ([], s)
  | f + 1, s => if foundB l s = true then ([], s) else ((wst l ps s).2 :: (runN l ps d f (put s (wst l ps s).2.toNat (byteAt d.signs (wst l ps s).2.toNat))).1, (runN l ps d f (put s (wst l ps s).2.toNat (byteAt d.signs (wst l ps s).2.toNat))).2)
def runT (l : List Defect) (ps : List Int) (d : Defect) (s : ByteArray) : List Int × ByteArray := runN l ps d (holes s) s
theorem runT_found {l : List Defect} {ps : List Int} {d : Defect} {s : ByteArray} (h : foundB l s = true) : runT l ps d s = ([], s) := by
  unfold runT
  cases holes s with
  | zero => rfl
  | succ f => rw [runN, if_pos h]
theorem sign_ne {d : Defect} {n i : Nat} (h : vDef n d = true) (hi : i < n) : (byteAt d.signs i).toNat ≠ 63 := by
  obtain ⟨_, _, _, hs, hb⟩ := vDef_inv h
  have := rall_inv hb i (by omega)
  simp only [signC, Bool.or_eq_true, decide_eq_true_eq] at this
  omega
theorem runT_step {l : List Defect} {ps : List Int} {d : Defect} {s : ByteArray} (hs : s.size = ps.length) (hd : vDef ps.length d = true) (h : foundB l s = false) {t : Nat} (ht : t < ps.length) (e : (wst l ps s).2 = t) (h63 : (byteAt s t).toNat = 63) :
    runT l ps d s = ((t : Int) :: (runT l ps d (put s t (byteAt d.signs t))).1, (runT l ps d (put s t (byteAt d.signs t))).2) := by
  have e1 := holes_put (s := s) (t := t) (c := byteAt d.signs t) (by omega) h63 (sign_ne hd ht)
  rw [runT, ← e1, runN, if_neg (by simp [h]), e]
  rfl
end Go.Proofs.Ytfggbcmpgkhlaaa

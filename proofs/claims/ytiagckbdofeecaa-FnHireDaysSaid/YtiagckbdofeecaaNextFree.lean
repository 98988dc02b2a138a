/-
  NextFree: the first day and machine that are free, of the program and of the reference; both are the least pair.
-/
import Derived.Test.YtiagckbdofeecaaHire5
namespace Go.Proofs.Ytiagckbdofeecaa
open Go.RowKit
/-- the days d with machine m free -/
def NF (l : List Hire) (n day days d m : Int) : Prop := day ≤ d ∧ d + days ≤ 3650 ∧ 0 ≤ m ∧ m < n ∧ free l m d (d + days) = true
def IsNF (l : List Hire) (n day days : Int) (r : Int × Int × Int) : Prop :=
  (r = (0, 0, 3) ∧ ∀ d m, ¬ NF l n day days d m) ∨ ∃ d m, r = (d, m, 0) ∧ NF l n day days d m ∧ ∀ d' m', NF l n day days d' m' → d < d' ∨ d = d' ∧ m ≤ m'
theorem isNF_one {l : List Hire} {n day days : Int} {r s : Int × Int × Int} (h : IsNF l n day days r) (g : IsNF l n day days s) : r = s := by
  rcases h with ⟨rfl, h⟩ | ⟨d, m, rfl, h, hm⟩
  · rcases g with ⟨rfl, _⟩ | ⟨d, m, rfl, g, _⟩
    · rfl
    · exact absurd g (h _ _)
  · rcases g with ⟨rfl, g⟩ | ⟨d', m', rfl, g, gm⟩
    · exact absurd h (g _ _)
    · have h1 := hm _ _ g
      have h2 := gm _ _ h
      have : d = d' := by omega
      have : m = m' := by omega
      simp_all
/-- the days that the reference looks at -/
def cand (l : List Hire) (day : Int) : Nat → Int
  | 0 => day
  | k + 1 => (hat l k).t
theorem cand_of {l : List Hire} {n day days : Int} (k : Nat) : ∀ {d m : Int}, d = day + k → NF l n day days d m → ∃ j, j ≤ l.length ∧ cand l day j ≤ d ∧ NF l n day days (cand l day j) m := by
  induction k with
  | zero => intro d m hk h; refine ⟨0, by omega, by simp [cand]; omega, ?_⟩; rw [cand]; rw [show day = d by omega] at h ⊢; exact h
  | succ k ih =>
    intro d m hk h
    cases q : free l m (d - 1) (d - 1 + days)
    · obtain ⟨i, hi, hm⟩ := free_some q
      have hn := free_not h.2.2.2.2 hi
      simp [meet] at hm hn
      have ht : (hat l i).t = d := by have := hn hm.1; omega
      exact ⟨i + 1, by omega, by rw [cand]; omega, by rw [cand, ht]; exact h⟩
    · obtain ⟨j, hj, hle, hN⟩ := ih (d := d - 1) (m := m) (by omega) ⟨by omega, by have := h.2.1; omega, h.2.2.1, h.2.2.2.1, q⟩
      exact ⟨j, hj, by omega, hN⟩
/-- the best of what has been seen -/
def Best (S : Int → Int → Prop) (b m : Int) : Prop := (b = -1 ∧ ∀ c x, ¬ S c x) ∨ (0 ≤ b ∧ S b m ∧ ∀ c x, S c x → b < c ∨ b = c ∧ m ≤ x)
def Seen (l : List Hire) (n day days : Int) (k : Nat) (c x : Int) : Prop := (∃ j, j < k ∧ c = cand l day j) ∧ NF l n day days c x
def SeenIn (l : List Hire) (n day days : Int) (k : Nat) (q : Nat) (c x : Int) : Prop := Seen l n day days k c x ∨ (c = cand l day k ∧ x < q ∧ NF l n day days c x)
theorem best_start {l : List Hire} {n day days : Int} : Best (Seen l n day days 0) (-1) 0 := .inl ⟨rfl, fun c x h => by obtain ⟨⟨j, hj, _⟩, _⟩ := h; omega⟩
theorem best_in {l : List Hire} {n day days : Int} {k : Nat} {b m : Int} (h : Best (Seen l n day days k) b m) : Best (SeenIn l n day days k 0) b m := by
  have hs : ∀ c x, SeenIn l n day days k 0 c x ↔ Seen l n day days k c x := fun c x => ⟨fun h => by rcases h with h | ⟨_, h, g⟩; exact h; have := g.2.2.1; omega, .inl⟩
  simpa only [Best, hs] using h
theorem best_out {l : List Hire} {n day days : Int} {k q : Nat} {b m : Int} (hq : n ≤ q) (h : Best (SeenIn l n day days k q) b m) : Best (Seen l n day days (k + 1)) b m := by
  have hs : ∀ c x, SeenIn l n day days k q c x ↔ Seen l n day days (k + 1) c x := fun c x => by
    constructor
    · rintro (⟨⟨j, hj, e⟩, g⟩ | ⟨e, _, g⟩)
      · exact ⟨⟨j, by omega, e⟩, g⟩
      · exact ⟨⟨k, by omega, e⟩, g⟩
    · rintro ⟨⟨j, hj, e⟩, g⟩
      by_cases hjk : j = k
      · exact .inr ⟨by rw [e, hjk], by have := g.2.2.2.1; omega, g⟩
      · exact .inl ⟨⟨j, by omega, e⟩, g⟩
  simpa only [Best, hs] using h
theorem best_skip {l : List Hire} {n day days : Int} {k : Nat} {b m : Int} (h : Best (Seen l n day days k) b m)
    (hs : cand l day k < day ∨ 3650 < cand l day k + days ∨ (0 ≤ b ∧ b < cand l day k)) : Best (Seen l n day days (k + 1)) b m := by
  rcases h with ⟨hb, h⟩ | ⟨hb, h, hm⟩
  · refine .inl ⟨hb, fun c x hc => ?_⟩
    obtain ⟨⟨j, hj, e⟩, g⟩ := hc
    by_cases hjk : j = k
    · subst hjk
      obtain ⟨g1, g2, _⟩ := g
      omega
    · exact h c x ⟨⟨j, by omega, e⟩, g⟩
  · refine .inr ⟨hb, ⟨let ⟨j, hj, e⟩ := h.1; ⟨j, by omega, e⟩, h.2⟩, fun c x hc => ?_⟩
    obtain ⟨⟨j, hj, e⟩, g⟩ := hc
    by_cases hjk : j = k
    · subst hjk
      obtain ⟨g1, g2, _⟩ := g
      omega
    · exact hm c x ⟨⟨j, by omega, e⟩, g⟩
theorem best_keep {l : List Hire} {n day days : Int} {k q : Nat} {b m : Int} (h : Best (SeenIn l n day days k q) b m) (hle : 0 ≤ b → cand l day k ≤ b)
    (hs : free l q (cand l day k) (cand l day k + days) = false ∨ (0 ≤ b ∧ b ≤ cand l day k ∧ m ≤ q)) : Best (SeenIn l n day days k (q + 1)) b m := by
  have hnew : ∀ c x : Int, SeenIn l n day days k (q + 1) c x → SeenIn l n day days k q c x ∨ (c = cand l day k ∧ x = q ∧ NF l n day days c x) := fun c x hc => by
    rcases hc with hc | ⟨e, hx, g⟩
    · exact .inl (.inl hc)
    · by_cases hxq : x = q
      · exact .inr ⟨e, hxq, g⟩
      · exact .inl (.inr ⟨e, by omega, g⟩)
  have hbad : ∀ c x : Int, (c = cand l day k ∧ x = q ∧ NF l n day days c x) → 0 ≤ b ∧ b ≤ cand l day k ∧ m ≤ q := fun c x hc => by
    obtain ⟨e, hx, g⟩ := hc
    rcases hs with hs | hs
    · have := g.2.2.2.2
      rw [e, hx, hs] at this
      simp at this
    · exact hs
  rcases h with ⟨hb, h⟩ | ⟨hb, h, hm⟩
  · refine .inl ⟨hb, fun c x hc => ?_⟩
    rcases hnew c x hc with hc | hc
    · exact h c x hc
    · have := hbad c x hc; omega
  · refine .inr ⟨hb, ?_, fun c x hc => ?_⟩
    · rcases h with h | ⟨e, hx, g⟩
      · exact .inl h
      · exact .inr ⟨e, by omega, g⟩
    · rcases hnew c x hc with hc | hc
      · exact hm c x hc
      · have h1 := hbad c x hc
        obtain ⟨e, hx, _⟩ := hc
        have := hle hb
        omega
theorem best_new {l : List Hire} {n day days : Int} {k q : Nat} {b m : Int} (h : Best (SeenIn l n day days k q) b m) (hle : 0 ≤ b → cand l day k ≤ b) (hd : 0 ≤ day)
    (h1 : day ≤ cand l day k) (h2 : cand l day k + days ≤ 3650) (hq : (q : Int) < n) (hf : free l q (cand l day k) (cand l day k + days) = true)
    (hs : b < 0 ∨ cand l day k < b ∨ q < m) : Best (SeenIn l n day days k (q + 1)) (cand l day k) q := by
  refine .inr ⟨by omega, .inr ⟨rfl, by omega, h1, h2, by omega, hq, hf⟩, fun c x hc => ?_⟩
  have hnew : SeenIn l n day days k q c x ∨ (c = cand l day k ∧ x = q) := by
    rcases hc with hc | ⟨e, hx, g⟩
    · exact .inl (.inl hc)
    · by_cases hxq : x = q
      · exact .inr ⟨e, hxq⟩
      · exact .inl (.inr ⟨e, by omega, g⟩)
  rcases hnew with hc | hc
  · rcases h with ⟨hb, h⟩ | ⟨hb, h, hm⟩
    · exact absurd hc (h c x)
    · have := hm c x hc
      have := hle hb
      omega
  · omega
theorem best_end {l : List Hire} {n day days b m : Int} (h : Best (Seen l n day days (l.length + 1)) b m) : IsNF l n day days (if b < 0 then (0, 0, 3) else (b, m, 0)) := by
  have hc : ∀ d x, NF l n day days d x → ∃ j, j ≤ l.length ∧ cand l day j ≤ d ∧ NF l n day days (cand l day j) x := fun d x g => cand_of (d - day).toNat (by have := g.1; omega) g
  rcases h with ⟨hb, h⟩ | ⟨hb, h, hm⟩
  · rw [if_pos (by omega)]
    refine .inl ⟨rfl, fun d x g => ?_⟩
    obtain ⟨j, hj, _, hN⟩ := hc d x g
    exact h _ _ ⟨⟨j, by omega, rfl⟩, hN⟩
  · rw [if_neg (by omega)]
    refine .inr ⟨b, m, rfl, h.2, fun d x g => ?_⟩
    obtain ⟨j, hj, hle, hN⟩ := hc d x g
    have := hm _ _ ⟨⟨j, by omega, rfl⟩, hN⟩
    omega
end Go.Proofs.Ytiagckbdofeecaa

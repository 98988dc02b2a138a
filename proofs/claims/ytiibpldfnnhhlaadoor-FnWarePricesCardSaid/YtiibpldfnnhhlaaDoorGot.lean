/-
  Lists of wares that a call has made, grown by append: what is owned, marks on it, marks read again. The bounds stand at each.
-/
import Derived.Test.YtiibpldfnnhhlaaDoorWMark
namespace Go.Proofs.YtiibpldfnnhhlaaDoor
open Go.RowKit
def ablk (A : Option Addr) : Option Nat := A.map (·.block)
theorem own_ablk (A : Option Addr) (n c : Nat) : (Value.slice A n c).ownBlock = ablk A := by cases A <;> rfl
/-- the wares' row at A holds ys and leads to ps; row i of ps holds rows i; all in blocks of their own from lo on -/
structure WHas (lo : Nat) (w : World) (A : Option Addr) (c : Nat) (l : List Ware) (ps : List Ptr) (ys : List Value) (rows : Nat → List Value) : Prop where
  len : ps.length = l.length
  row : w.ownsRow lo 29 2 (.slice A l.length c) l.length ys
  ptr : ∀ i (h : i < l.length) (h2 : i < ps.length), ys[i * 2 + 1]? = some (.slice ps[i].1 l[i].brs.length ps[i].2)
  inner : ∀ i (h : i < l.length) (h2 : i < ps.length), w.ownsRow lo 69 2 (.slice ps[i].1 l[i].brs.length ps[i].2) l[i].brs.length (rows i)
  apart : ∀ i j (hi : i < ps.length) (hj : j < ps.length), i ≠ j → ablk ps[i].1 = none ∨ ablk ps[i].1 ≠ ablk ps[j].1
  outer : ∀ i (hi : i < ps.length), ablk ps[i].1 = none ∨ ablk ps[i].1 ≠ ablk A
section
variable {lo : Nat} {w w' : World} {A : Option Addr} {c : Nat} {l : List Ware} {ps : List Ptr} {ys : List Value} {rows : Nat → List Value}
theorem WHas.below (h : WHas lo w A c l ps ys rows) (hb : Below w.heap.size w w') : WHas lo w' A c l ps ys rows :=
  ⟨h.len, own_below h.row hb, h.ptr, fun i a b => own_below (h.inner i a b) hb, h.apart, h.outer⟩
theorem WHas.aLt (h : WHas lo w A c l ps ys rows) {k : Nat} (e : ablk A = some k) : lo ≤ k ∧ k < w.heap.size := h.row.lt k (by rw [own_ablk]; exact e)
theorem WHas.pLt (h : WHas lo w A c l ps ys rows) {i k : Nat} (hi : i < ps.length) (e : ablk ps[i].1 = some k) : lo ≤ k ∧ k < w.heap.size :=
  (h.inner i (by have := h.len; omega) hi).lt k (by rw [own_ablk]; exact e)
theorem ne_flip {a b : Option Nat} (h : a = none ∨ a ≠ b) : b = none ∨ b ≠ a := by
  rcases h with h | h
  · subst h
    cases b with
    | none => exact .inl rfl
    | some _ => exact .inr (by simp)
  · exact .inr fun e => h e.symm
/-- a name stored -/
theorem WHas.name {b k : Nat} (h : WHas lo w (some ⟨b, 0, none⟩) c l ps ys rows) (u : Value) : WHas lo (w.setCell ⟨b, k * 2, none⟩ u) (some ⟨b, 0, none⟩) c l ps (ys.set (k * 2) u) rows := by
  have s := h.row.stored (k * 2) u
  have hg : w.grownBy _ (ablk (some (⟨b, 0, none⟩ : Addr))) := s.2
  refine ⟨h.len, s.1, fun i a b => ?_, fun i a b => (h.inner i a b).kept hg (by rw [own_ablk]; exact h.outer i b), h.apart, h.outer⟩
  rw [set_other (by omega)]
  exact h.ptr i a b
/-- row k written -/
theorem WHas.sub {k : Nat} (h : WHas lo w A c l ps ys rows) (hk : k < l.length) (hkp : k < ps.length) {xs' : List Value}
    (m : w'.ownsRow lo 69 2 (.slice ps[k].1 l[k].brs.length ps[k].2) l[k].brs.length xs') (hg : w.grownBy w' (Value.slice ps[k].1 l[k].brs.length ps[k].2).ownBlock) :
    WHas lo w' A c l ps ys (fun i => if i = k then xs' else rows i) := by
  rw [own_ablk] at hg
  refine ⟨h.len, h.row.kept hg (by rw [own_ablk]; exact ne_flip (h.outer k hkp)), h.ptr, fun i a b => ?_, h.apart, h.outer⟩
  by_cases hik : i = k
  · subst hik
    simp only [if_pos]
    exact m
  · simp only [if_neg hik]
    exact (h.inner i a b).kept hg (by rw [own_ablk]; exact h.apart i k b hkp hik)
end
/-- the list is there, whole -/
def WGot (lo : Nat) (w : World) (A : Option Addr) (c : Nat) (l : List Ware) (ps : List Ptr) : Prop := WHas lo w A c l ps (wcs l ps) (fun i => bkcs (wat l i).brs)
section
variable {lo : Nat} {w w' : World} {A : Option Addr} {c : Nat} {l : List Ware} {ps : List Ptr}
theorem WGot.below (h : WGot lo w A c l ps) (hb : Below w.heap.size w w') : WGot lo w' A c l ps := WHas.below h hb
theorem WGot.see (h : WGot lo w A c l ps) : WSee w A l := by
  refine ⟨ps, h.len, Rds.of_own h.row, fun i a b => ?_⟩
  have := Rds.of_own (h.inner i a b)
  rw [wat_eq a] at this ⊢
  exact this
theorem WGot.nil (lo : Nat) (w : World) : WGot lo w none 0 [] [] :=
  ⟨rfl, World.ownsRow_nil _ _ _ _, fun i a => by simp at a, fun i a => by simp at a, fun i j a => by simp at a, fun i a => by simp at a⟩
theorem WGot.mono {lo' : Nat} (h : WGot lo w A c l ps) (hl : lo' ≤ lo) : WGot lo' w A c l ps :=
  ⟨h.len, own_mono h.row hl, h.ptr, fun i a b => own_mono (h.inner i a b) hl, h.apart, h.outer⟩
theorem WGot.only {lo1 hi1 : Nat} (h : WGot lo w A c l ps) (ho : Only lo1 hi1 w w') (hl : hi1 ≤ lo) : WGot lo w' A c l ps :=
  ⟨h.len, ho.own h.row (.inl hl), h.ptr, fun i a b => ho.own (h.inner i a b) (.inl hl), h.apart, h.outer⟩
theorem wcs_snoc (h : ps.length = l.length) (x : Ware) (p : Ptr) : wcs (l ++ [x]) (ps ++ [p]) = wcs l ps ++ [.string x.name, .slice p.1 x.brs.length p.2] := by
  unfold wcs
  rw [List.zip_append (by omega), List.flatMap_append]
  rfl
/-- one more ware: its own row is made in a block that was not there, then it is appended -/
theorem WGot.step {w0 : World} {B g c' : Nat} {x : Ware} {p : Ptr} (h0 : WGot lo w0 A c l ps) (hbel : Below w0.heap.size w0 w) (hB : w0.heap.size ≤ B) (hlo : lo ≤ B)
    (hx : w.ownsRow B 69 2 (.slice p.1 x.brs.length p.2) x.brs.length (bkcs x.brs))
    (ho : w'.ownsRow lo 29 2 (.slice (some ⟨g, 0, none⟩) (l.length + 1) c') (l.length + 1) (wcs l ps ++ [.string x.name, .slice p.1 x.brs.length p.2]))
    (hg : w.grownBy w' (ablk A)) (hat : ablk A = some g ∨ g = w.heap.size) : WGot lo w' (some ⟨g, 0, none⟩) c' (l ++ [x]) (ps ++ [p]) := by
  have h := h0.below hbel
  have hlen := h.len
  have hA : ∀ k, ablk A = some k → k < w0.heap.size := fun k e => (WHas.aLt h0 e).2
  have hP : ∀ i (hi : i < ps.length) k, ablk ps[i].1 = some k → k < w0.heap.size := fun i hi k e => (WHas.pLt h0 hi e).2
  have hN : ∀ k, ablk p.1 = some k → B ≤ k ∧ k < w.heap.size := fun k e => hx.lt k (by rw [own_ablk]; exact e)
  have hPA : ablk p.1 = none ∨ ablk p.1 ≠ ablk A := by
    cases hq : ablk p.1 with
    | none => exact .inl rfl
    | some k => exact .inr fun e => by have := hN k hq; have := hA k e.symm; omega
  have hPI : ∀ i (hi : i < ps.length), ablk p.1 = none ∨ ablk p.1 ≠ ablk ps[i].1 := fun i hi => by
    cases hq : ablk p.1 with
    | none => exact .inl rfl
    | some k => exact .inr fun e => by have := hN k hq; have := hP i hi k e.symm; omega
  have hG : ∀ a : Option Nat, (a = none ∨ a ≠ ablk A) → (∀ k, a = some k → k < w.heap.size) → a = none ∨ a ≠ ablk (some (⟨g, 0, none⟩ : Addr)) := fun a h1 h2 => by
    rcases hat with e | e
    · have : ablk (some (⟨g, 0, none⟩ : Addr)) = ablk A := e.symm
      rw [this]; exact h1
    · refine .inr fun e2 => ?_
      have := h2 g e2
      omega
  have gl : ∀ i (hi : i < (ps ++ [p]).length), (∃ hi' : i < ps.length, (ps ++ [p])[i] = ps[i]) ∨ (i = ps.length ∧ (ps ++ [p])[i] = p) := fun i hi => by
    by_cases h1 : i < ps.length
    · exact .inl ⟨h1, List.getElem_append_left h1⟩
    · have h2 : i = ps.length := by rw [List.length_append, List.length_singleton] at hi; omega
      subst h2
      exact .inr ⟨rfl, by rw [List.getElem_append_right (Nat.le_refl _)]; simp⟩
  have hrow : w'.ownsRow lo 29 2 (.slice (some ⟨g, 0, none⟩) (l ++ [x]).length c') (l ++ [x]).length (wcs (l ++ [x]) (ps ++ [p])) := by
    rw [wcs_snoc hlen, List.length_append, List.length_singleton]
    exact ho
  refine ⟨by simp [hlen], hrow, fun i a b => ?_, fun i a b => ?_, fun i j hi hj hne => ?_, fun i hi => ?_⟩
  · have hz : i < ((l ++ [x]).zip (ps ++ [p])).length := by rw [List.length_zip]; omega
    have := flat_get wcell_len ((l ++ [x]).zip (ps ++ [p])) hz (j := 1) (by omega)
    rw [wcs, this, List.getElem_zip]
    rfl
  · rcases gl i b with ⟨h1, e⟩ | ⟨h1, e⟩
    · have hl : i < l.length := by omega
      have hi := (h.inner i hl h1).kept hg (by rw [own_ablk]; exact h.outer i h1)
      have e2 : (l ++ [x])[i] = l[i] := List.getElem_append_left hl
      have e3 : wat (l ++ [x]) i = wat l i := by rw [← wat_eq a, ← wat_eq hl]; exact e2
      simp only [e3]
      rw [e, e2]
      exact hi
    · have e2 : (l ++ [x])[i] = x := by rw [List.getElem_append_right (by omega)]; simp
      have e3 : wat (l ++ [x]) i = x := by rw [← wat_eq a]; exact e2
      simp only [e3]
      rw [e, e2]
      exact own_mono (hx.kept hg (by rw [own_ablk]; exact hPA)) hlo
  · rcases gl i hi with ⟨h1, e⟩ | ⟨h1, e⟩ <;> rcases gl j hj with ⟨h2, e2⟩ | ⟨h2, e2⟩ <;> rw [e, e2]
    · exact h.apart i j h1 h2 hne
    · exact ne_flip (hPI i h1)
    · exact hPI j h2
    · omega
  · rcases gl i hi with ⟨h1, e⟩ | ⟨h1, e⟩ <;> rw [e]
    · exact hG _ (h.outer i h1) fun k e => (WHas.pLt h h1 e).2
    · exact hG _ hPA fun k e => (hN k e).2
end
/-- the marks from k0 on are there -/
def WMarked (w : World) (A : Option Addr) (l : List Ware) (k0 : Nat) : Prop :=
  ∀ i, i < l.length → ∃ b Ai ci, A = some ⟨b, 0, none⟩ ∧ b < w.heap.size ∧ w.cell? ⟨b, i * 2, none⟩ = some (.string (mt ((k0 + wMk l i : Nat) : Int))) ∧ w.cell? ⟨b, i * 2 + 1, none⟩ = some (.slice Ai (wat l i).brs.length ci) ∧
    Rds w 2 Ai (wat l i).brs.length (bkcs (bkM (k0 + wMk l i + 1) (wat l i).brs.length))
theorem WMarked.below {w w' : World} {A : Option Addr} {l : List Ware} {k0 : Nat} (h : WMarked w A l k0) (hb : Below w.heap.size w w') : WMarked w' A l k0 := fun i hi => by
  obtain ⟨b, Ai, ci, e, h1, h2, h3, h4⟩ := h i hi
  exact ⟨b, Ai, ci, e, Nat.lt_of_lt_of_le h1 hb.size, (hb.cell (p := ⟨b, i * 2, none⟩) h1).trans h2, (hb.cell (p := ⟨b, i * 2 + 1, none⟩) h1).trans h3, h4.below hb⟩
theorem WHas.marked {lo : Nat} {w : World} {A : Option Addr} {c k0 : Nat} {l : List Ware} {ps : List Ptr} {ys : List Value} {rows : Nat → List Value} (h : WHas lo w A c l ps ys rows)
    (hm : ∀ i, i < l.length → ys[i * 2]? = some (.string (mt ((k0 + wMk l i : Nat) : Int))) ∧ rows i = bkcs (bkM (k0 + wMk l i + 1) (wat l i).brs.length)) : WMarked w A l k0 := fun i hi => by
  obtain ⟨b, cap, e, _, hb⟩ := h.row.form (by omega)
  have e' : A = some ⟨b, 0, none⟩ ∧ c = cap := by simpa using e
  obtain ⟨rfl, rfl⟩ := e'
  have hlen := h.row.1
  have hip : i < ps.length := by have := h.len; omega
  have d0 := h.row.cellAt (i * 2) (by omega)
  have d1 := h.row.cellAt (i * 2 + 1) (by omega)
  have hp := h.ptr i hi hip
  have hr := Rds.of_own (h.inner i hi hip)
  rw [(hm i hi).2] at hr
  rw [(hm i hi).1] at d0
  rw [hp] at d1
  rw [wat_eq hi] at d1 hr
  exact ⟨b, ps[i].1, ps[i].2, rfl, hb, d0, d1, hr⟩
end Go.Proofs.YtiibpldfnnhhlaaDoor

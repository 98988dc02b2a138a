/-
  Lists of offers that a call has made: what is owned; one offer more; a price, a number or a list of numbers written anew. The bounds stand at each.
-/
import Derived.Test.YtiibpldfnnhhlaaSrcK
import Derived.Test.YtiibpldfnnhhlaaGot2
import Derived.Test.YtiibpldfnnhhlaaOffers
namespace Go.Proofs.Ytiibpldfnnhhlaa
open Go.RowKit
theorem el_off : ElemOf Try.prog 50 67 (.agg #[.slice none 0 0, i64 0]) 2 32 := elem_of Try.underlying50 (by kernel_rfl) rfl (by decide)
structure OGot (lo : Nat) (w : World) (A : Option Addr) (c : Nat) (l : List Offer) (ps : List Ptr) : Prop where
  len : ps.length = l.length
  row : w.ownsRow lo 67 2 (.slice A l.length c) l.length (ocs l ps)
  inner : ∀ i (h : i < l.length) (h2 : i < ps.length), w.ownsRow lo 2 1 (.slice ps[i].1 l[i].many.length ps[i].2) l[i].many.length (ics l[i].many)
  apart : ∀ i j (hi : i < ps.length) (hj : j < ps.length), i ≠ j → ablk ps[i].1 = none ∨ ablk ps[i].1 ≠ ablk ps[j].1
  outer : ∀ i (hi : i < ps.length), ablk ps[i].1 = none ∨ ablk ps[i].1 ≠ ablk A
theorem ocs_snoc {l : List Offer} {ps : List Ptr} (h : ps.length = l.length) (x : Offer) (p : Ptr) : ocs (l ++ [x]) (ps ++ [p]) = ocs l ps ++ [.slice p.1 x.many.length p.2, i64 x.price] := by
  unfold ocs
  rw [List.zip_append (by omega), List.flatMap_append]
  rfl
theorem ocs_at {l : List Offer} {ps : List Ptr} {k j : Nat} (hk : k < l.length) (hp : k < ps.length) (hj : j < 2) : (ocs l ps)[k * 2 + j]? = (ocell (l[k], ps[k]))[j]? := by
  have hz : k < (l.zip ps).length := by rw [List.length_zip]; omega
  have := flat_get ocell_len (l.zip ps) hz hj
  rw [ocs, this, List.getElem_zip]
theorem ocs_eq {l : List Offer} {ps : List Ptr} {ys : List Value} (hl : ps.length = l.length) (hy : ys.length = l.length * 2) (h : ∀ k (hk : k < l.length) (hp : k < ps.length) j, j < 2 → ys[k * 2 + j]? = (ocell (l[k], ps[k]))[j]?) : ys = ocs l ps := by
  have hz : (l.zip ps).length = l.length := by rw [List.length_zip]; omega
  refine flat_ext ocell_len (l.zip ps) (by rw [hz]; exact hy) (fun k hk j hj => ?_)
  rw [List.getElem_zip]
  exact h k (by omega) (by omega) j hj
section
variable {lo : Nat} {w w' : World} {A : Option Addr} {c : Nat} {l : List Offer} {ps : List Ptr}
theorem OGot.below (h : OGot lo w A c l ps) (hb : Below w.heap.size w w') : OGot lo w' A c l ps :=
  ⟨h.len, own_below h.row hb, fun i a b => own_below (h.inner i a b) hb, h.apart, h.outer⟩
theorem OGot.mono {lo' : Nat} (h : OGot lo w A c l ps) (hl : lo' ≤ lo) : OGot lo' w A c l ps :=
  ⟨h.len, own_mono h.row hl, fun i a b => own_mono (h.inner i a b) hl, h.apart, h.outer⟩
theorem OGot.aLt (h : OGot lo w A c l ps) {k : Nat} (e : ablk A = some k) : lo ≤ k ∧ k < w.heap.size := h.row.lt k (by rw [own_ablk]; exact e)
theorem OGot.pLt (h : OGot lo w A c l ps) {i k : Nat} (hi : i < ps.length) (e : ablk ps[i].1 = some k) : lo ≤ k ∧ k < w.heap.size :=
  (h.inner i (by have := h.len; omega) hi).lt k (by rw [own_ablk]; exact e)
theorem OGot.see (h : OGot lo w A c l ps) : OSee w A l := ⟨ps, h.len, Rds.of_own h.row, fun i a b => Rds.of_own (h.inner i a b)⟩
theorem OGot.lit (h : w.ownsRow lo 67 2 (.slice A 0 c) 0 []) : OGot lo w A c [] [] :=
  ⟨rfl, h, fun i a => by simp at a, fun i j a => by simp at a, fun i a => by simp at a⟩
theorem OGot.grown {row : Option Nat} (h : OGot lo w A c l ps) (hg : w.grownBy w' row) (hr : ∀ x, row = some x → x < lo) : OGot lo w' A c l ps :=
  ⟨h.len, own_keepK h.row hg (fun x e e2 => by have := hr x e; have := (h.row.lt x e2).1; omega), fun i a b => own_keepK (h.inner i a b) hg (fun x e e2 => by have := hr x e; have := ((h.inner i a b).lt x e2).1; omega), h.apart, h.outer⟩
/-- one offer more: its own row is made in a block that was not there, then it is appended -/
theorem OGot.step2 {B g c' : Nat} {x : Offer} {p : Ptr} (h : OGot lo w A c l ps) (hA : ∀ k, ablk A = some k → k < B) (hP : ∀ i (hi : i < ps.length) k, ablk ps[i].1 = some k → k < B) (hlo : lo ≤ B)
    (hx : w.ownsRow B 2 1 (.slice p.1 x.many.length p.2) x.many.length (ics x.many))
    (ho : w'.ownsRow lo 67 2 (.slice (some ⟨g, 0, none⟩) (l.length + 1) c') (l.length + 1) (ocs l ps ++ [.slice p.1 x.many.length p.2, i64 x.price]))
    (hg : w.grownBy w' (ablk A)) (hat : ablk A = some g ∨ g = w.heap.size) : OGot lo w' (some ⟨g, 0, none⟩) c' (l ++ [x]) (ps ++ [p]) := by
  have hlen := h.len
  have hN : ∀ k, ablk p.1 = some k → B ≤ k ∧ k < w.heap.size := fun k e => hx.lt k (by rw [own_ablk]; exact e)
  have hPA : ablk p.1 = none ∨ ablk p.1 ≠ ablk A := by
    cases hq : ablk p.1 with
    | none => exact .inl rfl
    | some k => exact .inr fun e => by have := hN k hq; have := hA k e.symm; omega
  have hPI : ∀ i (hi : i < ps.length), ablk p.1 = none ∨ ablk p.1 ≠ ablk ps[i].1 := fun i hi => by
    cases hq : ablk p.1 with
    | none => exact .inl rfl
    | some k => exact .inr fun e => by have := hN k hq; have := hP i hi k e.symm; omega
  have hG : ∀ a : Option Nat, (a = none ∨ a ≠ ablk A) → (∀ k, a = some k → k < w.heap.size) → a = none ∨ a ≠ ablk (some (⟨g, 0, none⟩ : Addr)) := fun a h1 h2 => by
    rcases hat with e | e
    · have : ablk (some (⟨g, 0, none⟩ : Addr)) = ablk A := e.symm
      rw [this]; exact h1
    · refine .inr fun e2 => ?_
      have := h2 g e2
      omega
  have gl : ∀ i (hi : i < (ps ++ [p]).length), (∃ hi' : i < ps.length, (ps ++ [p])[i] = ps[i]) ∨ (i = ps.length ∧ (ps ++ [p])[i] = p) := fun i hi => by
    by_cases h1 : i < ps.length
    · exact .inl ⟨h1, List.getElem_append_left h1⟩
    · have h2 : i = ps.length := by rw [List.length_append, List.length_singleton] at hi; omega
      subst h2
      exact .inr ⟨rfl, by rw [List.getElem_append_right (Nat.le_refl _)]; simp⟩
  have hrow : w'.ownsRow lo 67 2 (.slice (some ⟨g, 0, none⟩) (l ++ [x]).length c') (l ++ [x]).length (ocs (l ++ [x]) (ps ++ [p])) := by
    rw [ocs_snoc hlen, List.length_append, List.length_singleton]
    exact ho
  refine ⟨by simp [hlen], hrow, fun i a b => ?_, fun i j hi hj hne => ?_, fun i hi => ?_⟩
  · rcases gl i b with ⟨h1, e⟩ | ⟨h1, e⟩
    · have hl : i < l.length := by omega
      have hi := (h.inner i hl h1).kept hg (by rw [own_ablk]; exact h.outer i h1)
      have e2 : (l ++ [x])[i] = l[i] := List.getElem_append_left hl
      rw [e, e2]
      exact hi
    · have e2 : (l ++ [x])[i] = x := by rw [List.getElem_append_right (by omega)]; simp
      rw [e, e2]
      exact own_mono (hx.kept hg (by rw [own_ablk]; exact hPA)) hlo
  · rcases gl i hi with ⟨h1, e⟩ | ⟨h1, e⟩ <;> rcases gl j hj with ⟨h2, e2⟩ | ⟨h2, e2⟩ <;> rw [e, e2]
    · exact h.apart i j h1 h2 hne
    · exact ne_flip (hPI i h1)
    · exact hPI j h2
    · omega
  · rcases gl i hi with ⟨h1, e⟩ | ⟨h1, e⟩ <;> rw [e]
    · exact hG _ (h.outer i h1) fun k e => (OGot.pLt h h1 e).2
    · exact hG _ hPA fun k e => (hN k e).2
end
section
variable {lo : Nat} {w w1 : World} {a c i : Nat} {l : List Offer} {ps : List Ptr}
theorem OGot.setPrice (h : OGot lo w (some ⟨a, 0, none⟩) c l ps) (hi : i < l.length) (x : Int) : OGot lo (w.setCell ⟨a, i * 2 + 1, none⟩ (i64 x)) (some ⟨a, 0, none⟩) c (l.set i ⟨(oat l i).many, x⟩) ps := by
  have hlen := h.len
  have hrl := h.row.1
  have s := h.row.stored (i * 2 + 1) (i64 x)
  have hg : w.grownBy _ (ablk (some (⟨a, 0, none⟩ : Addr))) := s.2
  have e : (ocs l ps).set (i * 2 + 1) (i64 x) = ocs (l.set i ⟨(oat l i).many, x⟩) ps := by
    refine ocs_eq (by rw [List.length_set]; exact hlen) (by rw [List.length_set, List.length_set]; exact hrl) (fun k hk hp j hj => ?_)
    have hk' : k < l.length := by rwa [List.length_set] at hk
    by_cases hki : k = i
    · subst hki
      match j, hj with
      | 0, _ => rw [List.getElem?_set_ne (by omega), ocs_at hk' hp (by omega), List.getElem_set_self, ← oat_eq hk']; rfl
      | 1, _ => rw [List.getElem?_set_self (by omega), List.getElem_set_self]; rfl
    · rw [List.getElem?_set_ne (by omega), ocs_at hk' hp hj, List.getElem_set_ne (fun e => hki e.symm)]
  have eb : ∀ k (hk : k < l.length), ((l.set i ⟨(oat l i).many, x⟩)[k]'(by rw [List.length_set]; exact hk)).many = l[k].many := fun k hk => by
    by_cases hki : k = i
    · subst hki; rw [List.getElem_set_self, oat_eq hk]
    · rw [List.getElem_set_ne (fun e => hki e.symm)]
  refine ⟨by rw [List.length_set]; exact hlen, ?_, fun k hk hp => ?_, h.apart, h.outer⟩
  · rw [List.length_set, ← e]; exact s.1
  · rw [List.length_set] at hk
    rw [eb k hk]
    exact (h.inner k hk hp).kept hg (by rw [own_ablk]; exact h.outer k hp)
/-- a number of an offer written -/
theorem OGot.put {q j : Nat} (h : OGot lo w (some ⟨a, 0, none⟩) c l ps) (hi : i < l.length) (hip : i < ps.length) (hq : ps[i].1 = some ⟨q, 0, none⟩) (x : Int) : OGot lo (w.setCell ⟨q, j, none⟩ (i64 x)) (some ⟨a, 0, none⟩) c (l.set i ⟨(oat l i).many.set j x, (oat l i).price⟩) ps := by
  have hlen := h.len
  have hrl := h.row.1
  have hin := h.inner i hi hip
  rw [hq] at hin
  have s := hin.stored j (i64 x)
  have hg : w.grownBy (w.setCell ⟨q, j, none⟩ (i64 x)) (some q) := s.2
  have hab : ablk ps[i].1 = some q := by rw [hq]; rfl
  have e : ocs l ps = ocs (l.set i ⟨(oat l i).many.set j x, (oat l i).price⟩) ps := by
    refine ocs_eq (by rw [List.length_set]; exact hlen) (by rw [List.length_set]; exact hrl) (fun k hk hp j' hj => ?_)
    have hk' : k < l.length := by rwa [List.length_set] at hk
    rw [ocs_at hk' hp hj]
    by_cases hki : k = i
    · subst hki
      rw [List.getElem_set_self, oat_eq hk']
      simp only [ocell, List.length_set]
    · rw [List.getElem_set_ne (fun e => hki e.symm)]
  refine ⟨by rw [List.length_set]; exact hlen, ?_, fun k hk hp => ?_, h.apart, h.outer⟩
  · rw [List.length_set, ← e]
    exact h.row.kept hg (by rw [own_ablk, ← hab]; exact ne_flip (h.outer i hip))
  · rw [List.length_set] at hk
    by_cases hki : k = i
    · subst hki
      rw [List.getElem_set_self, hq]
      show World.ownsRow _ _ _ _ (.slice _ ((oat l k).many.set j x).length _) ((oat l k).many.set j x).length (ics ((oat l k).many.set j x))
      rw [List.length_set, ← oat_eq hi]
      have := s.1
      rwa [show (ics l[k].many).set j (i64 x) = ics (l[k].many.set j x) by simp [ics, List.map_set]] at this
    · rw [List.getElem_set_ne (fun e => hki e.symm)]
      exact (h.inner k hk hp).kept hg (by rw [own_ablk, ← hab]; exact h.apart k i hp hip hki)
/-- an offer's list written anew -/
theorem OGot.setMany {P : Option Addr} {cb : Nat} {bs : List Int} (h : OGot lo w (some ⟨a, 0, none⟩) c l ps) (hi : i < l.length) (hip : i < ps.length) (hg : w.grownBy w1 (ablk ps[i].1)) (hx : w1.ownsRow lo 2 1 (.slice P bs.length cb) bs.length (ics bs)) (hat : (∀ k, ablk P = some k → ablk ps[i].1 = some k ∨ w.heap.size ≤ k)) :
    OGot lo (w1.setCell ⟨a, i * 2, none⟩ (.slice P bs.length cb)) (some ⟨a, 0, none⟩) c (l.set i ⟨bs, (oat l i).price⟩) (ps.set i (P, cb)) := by
  have hlen := h.len
  have hrl := h.row.1
  have haw := OGot.aLt h (k := a) rfl
  have hout := h.outer i hip
  have r1 := own_keepK h.row hg (fun x e e2 => by
    have e2 : some a = some x := e2
    rcases hout with h9 | h9
    · rw [h9] at e; cases e
    · exact h9 (by rw [e, ← e2]; rfl))
  have s1 := r1.stored (i * 2) (.slice P bs.length cb)
  have e : (ocs l ps).set (i * 2) (.slice P bs.length cb) = ocs (l.set i ⟨bs, (oat l i).price⟩) (ps.set i (P, cb)) := by
    refine ocs_eq (by rw [List.length_set, List.length_set]; exact hlen) (by rw [List.length_set, List.length_set]; exact hrl) (fun k hk hp j hj => ?_)
    have hk' : k < l.length := by rwa [List.length_set] at hk
    have hp' : k < ps.length := by rwa [List.length_set] at hp
    by_cases hki : k = i
    · subst hki
      match j, hj with
      | 0, _ => rw [Nat.add_zero, List.getElem?_set_self (by omega), List.getElem_set_self, List.getElem_set_self]; rfl
      | 1, _ => rw [List.getElem?_set_ne (by omega), ocs_at hk' hp' (by omega), List.getElem_set_self, ← oat_eq hk']; rfl
    · rw [List.getElem?_set_ne (by omega), ocs_at hk' hp' hj, List.getElem_set_ne (fun e => hki e.symm), List.getElem_set_ne (fun e => hki e.symm)]
  have hPa : ablk P ≠ some a := fun e9 => by
    rcases hat a e9 with h9 | h9
    · rcases hout with h8 | h8
      · rw [h8] at h9; cases h9
      · exact h8 (by rw [h9]; rfl)
    · omega
  have hPk : ∀ k (hk : k < ps.length), k ≠ i → ablk ps[k].1 = none ∨ ablk ps[k].1 ≠ ablk P := fun k hk hne => by
    cases hq : ablk ps[k].1 with
    | none => exact .inl rfl
    | some x =>
      refine .inr fun e9 => ?_
      rcases hat x e9.symm with h9 | h9
      · rcases h.apart k i hk hip hne with h8 | h8
        · rw [h8] at hq; cases hq
        · exact h8 (by rw [hq, h9])
      · have := (OGot.pLt h hk hq).2; omega
  refine ⟨by rw [List.length_set, List.length_set]; exact hlen, ?_, fun k hk hp => ?_, fun k m hk hm hne => ?_, fun k hk => ?_⟩
  · rw [List.length_set, ← e]; exact s1.1
  · rw [List.length_set] at hk hp
    by_cases hki : k = i
    · subst hki
      rw [List.getElem_set_self, List.getElem_set_self]
      exact own_keepK hx s1.2 (fun x e9 e2 => by rw [own_ablk] at e2; injection e9 with e9; exact hPa (by rw [e2, e9]))
    · rw [List.getElem_set_ne (fun e => hki e.symm), List.getElem_set_ne (fun e => hki e.symm)]
      refine own_keepK (own_keepK (h.inner k hk hp) hg (fun x e9 e2 => ?_)) s1.2 (fun x e9 e2 => ?_)
      · rw [own_ablk] at e2
        rcases h.apart k i hp hip hki with h8 | h8
        · rw [h8] at e2; cases e2
        · exact h8 (by rw [e2, e9])
      · rw [own_ablk] at e2
        injection e9 with e9
        rcases h.outer k hp with h8 | h8
        · rw [h8] at e2; cases e2
        · exact h8 (by rw [e2, ← e9]; rfl)
  · have hk' : k < ps.length := by rwa [List.length_set] at hk
    have hm' : m < ps.length := by rwa [List.length_set] at hm
    by_cases hki : k = i
    · subst hki
      rw [List.getElem_set_self, List.getElem_set_ne hne]
      exact ne_flip (hPk m hm' (fun e => hne e.symm))
    · rw [List.getElem_set_ne (fun e => hki e.symm)]
      by_cases hmi : m = i
      · subst hmi
        rw [List.getElem_set_self]
        exact hPk k hk' hki
      · rw [List.getElem_set_ne (fun e => hmi e.symm)]
        exact h.apart k m hk' hm' hne
  · have hk' : k < ps.length := by rwa [List.length_set] at hk
    by_cases hki : k = i
    · subst hki
      rw [List.getElem_set_self]
      exact .inr (fun e => hPa (by rw [show ablk P = ablk (some ⟨a, 0, none⟩) from e]; rfl))
    · rw [List.getElem_set_ne (fun e => hki e.symm)]
      exact h.outer k hk'
end
end Go.Proofs.Ytiibpldfnnhhlaa

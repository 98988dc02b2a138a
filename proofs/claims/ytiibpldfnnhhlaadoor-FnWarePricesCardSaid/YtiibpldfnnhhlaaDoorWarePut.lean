/-
  Lists of wares that a call has made: what stays where the world grows elsewhere; the first break of a ware written anew. The bounds stand at each.
-/
import Derived.Test.YtiibpldfnnhhlaaDoorBentP
namespace Go.Proofs.YtiibpldfnnhhlaaDoor
open Go.RowKit
theorem own_addrK {V : World} {base e size n c : Nat} {A : Option Addr} {xs : List Value} (h : V.ownsRow base e size (.slice A n c) n xs) (hn : 0 < n) : ∃ a, A = some ⟨a, 0, none⟩ := by
  rcases h.2 with ⟨e, e0⟩ | ⟨g, cap, cur, e, _⟩
  · omega
  · injection e with e1 _ _
    exact ⟨g, e1⟩
section
variable {lo : Nat} {w w' : World} {A : Option Addr} {c a i : Nat} {l : List Ware} {ps : List Ptr}
theorem WGot.far {row : Option Nat} (h : WGot lo w A c l ps) (hg : w.grownBy w' row) (hA : ∀ x, row = some x → ablk A ≠ some x) (hP : ∀ x, row = some x → ∀ i (hi : i < ps.length), ablk ps[i].1 ≠ some x) : WGot lo w' A c l ps :=
  ⟨h.len, own_keepK h.row hg (fun x e e2 => hA x e (by rw [← e2, own_ablk])), h.ptr, fun i a b => own_keepK (h.inner i a b) hg (fun x e e2 => hP x e i b (by rw [← e2, own_ablk])), h.apart, h.outer⟩
theorem bkcs_set0 {bs : List Brk} (h : 0 < bs.length) (x : Brk) : ((bkcs bs).set 0 (i64 x.fr)).set 1 (i64 x.pr) = bkcs (bs.set 0 x) := by
  cases bs with
  | nil => simp at h
  | cons y t => simp [bkcs, Brk.cells]
theorem WGot.put2 {q : Nat} (h : WGot lo w (some ⟨a, 0, none⟩) c l ps) (hi : i < l.length) (hip : i < ps.length) (hq : ps[i].1 = some ⟨q, 0, none⟩) (hb : 0 < (wat l i).brs.length) (x : Brk) :
    WGot lo ((w.setCell ⟨q, 0, none⟩ (i64 x.fr)).setCell ⟨q, 1, none⟩ (i64 x.pr)) (some ⟨a, 0, none⟩) c (l.set i ⟨(wat l i).name, (wat l i).brs.set 0 x⟩) ps := by
  have hlen := h.len
  have hrl := h.row.1
  have hin := h.inner i hi hip
  rw [hq] at hin
  have s1 := hin.stored 0 (i64 x.fr)
  have s2 := s1.1.stored 1 (i64 x.pr)
  have hg : w.grownBy ((w.setCell ⟨q, 0, none⟩ (i64 x.fr)).setCell ⟨q, 1, none⟩ (i64 x.pr)) (some q) := grown_trans s1.2 s2.2
  have hab : ablk ps[i].1 = some q := by rw [hq]; rfl
  have e : wcs l ps = wcs (l.set i ⟨(wat l i).name, (wat l i).brs.set 0 x⟩) ps := by
    refine wcs_eq (by rw [List.length_set]; exact hlen) (by rw [List.length_set]; exact hrl) (fun k hk hp j' hj => ?_)
    have hk' : k < l.length := by rwa [List.length_set] at hk
    rw [wcs_at hk' hp hj]
    by_cases hki : k = i
    · subst hki
      rw [List.getElem_set_self, wat_eq hk']
      simp only [wcell, List.length_set]
    · rw [List.getElem_set_ne (fun e => hki e.symm)]
  have elen : ∀ k (hk : k < l.length), ((l.set i ⟨(wat l i).name, (wat l i).brs.set 0 x⟩)[k]'(by rw [List.length_set]; exact hk)).brs.length = l[k].brs.length := fun k hk => by
    by_cases hki : k = i
    · subst hki; rw [List.getElem_set_self, wat_eq hk, List.length_set]
    · rw [List.getElem_set_ne (fun e => hki e.symm)]
  refine ⟨by rw [List.length_set]; exact hlen, ?_, fun k hk hp => ?_, fun k hk hp => ?_, h.apart, h.outer⟩
  · rw [List.length_set, ← e]
    exact h.row.kept hg (by rw [own_ablk, ← hab]; exact ne_flip (h.outer i hip))
  · rw [List.length_set] at hk
    rw [← e, elen k hk]; exact h.ptr k hk hp
  · rw [List.length_set] at hk
    rw [elen k hk]
    show World.ownsRow _ _ _ _ _ _ (bkcs (wat (l.set i ⟨(wat l i).name, (wat l i).brs.set 0 x⟩) k).brs)
    rw [wat_set hi]
    by_cases hki : k = i
    · subst hki
      rw [if_pos rfl, hq]
      have h9 := s2.1
      rwa [bkcs_set0 hb] at h9
    · rw [if_neg hki]
      exact (h.inner k hk hp).kept hg (by rw [own_ablk, ← hab]; exact h.apart k i hp hip hki)
end
theorem TS.put2 {w V : World} {b : Nat} {A : Option Addr} {n c a ct k i q : Nat} {l : List Ware} {ps : List Ptr} (h : TS w V b A n c a ct l ps i k) (hq : (pat ps i).1 = some ⟨q, 0, none⟩) (hb : 0 < (wat l i).brs.length) (x : Brk) :
    TS w ((V.setCell ⟨q, 0, none⟩ (i64 x.fr)).setCell ⟨q, 1, none⟩ (i64 x.pr)) b A n c a ct (l.set i ⟨(wat l i).name, (wat l i).brs.set 0 x⟩) ps i k := by
  have h1 := (h.inn.lt q (by rw [own_ablk, hq]; rfl)).1
  have h2 := h.lt
  have hg := grown_trans (grown_put V q 0 (i64 x.fr)) (grown_put (V.setCell ⟨q, 0, none⟩ (i64 x.fr)) q 1 (i64 x.pr))
  exact ⟨h.src.kept hg (fun e => by injection e with e; omega), h.byt.kept hg (fun j hj => by injection hj with hj; omega), WGot.put2 h.got h.i h.lenp (by rw [pat_eq h.lenp]; exact hq) hb x, gr_far h.gr hg (fun j hj => by injection hj with hj; omega), h.lt, by rw [List.length_set]; exact h.i⟩
theorem TS.rawq {w V : World} {b : Nat} {A : Option Addr} {n c a ct k i q : Nat} {l : List Ware} {ps : List Ptr} (h : TS w V b A n c a ct l ps i k) (hq : (pat ps i).1 = some ⟨q, 0, none⟩) (hb : 0 < (wat l i).brs.length) :
    q < V.heap.size ∧ (∃ u, V.cell? ⟨q, 0, none⟩ = some u) ∧ (∃ u, V.cell? ⟨q, 1, none⟩ = some u) ∧ V.frozen? ⟨q, 0, none⟩ = false ∧ V.frozen? ⟨q, 1, none⟩ = false := by
  have hi := h.inn
  rw [hq] at hi
  obtain ⟨b', off, e, _, hc⟩ := (Rds.of_own hi).at (by omega)
  injection e with e
  injection e with e1 e2 _
  subst e1 e2
  have hl : (bkcs (wat l i).brs).length = (wat l i).brs.length * 2 := hi.1
  have c0 := hc 0 _ (List.getElem?_eq_getElem (show 0 < (bkcs (wat l i).brs).length by omega))
  have c1 := hc 1 _ (List.getElem?_eq_getElem (show 1 < (bkcs (wat l i).brs).length by omega))
  exact ⟨(hi.lt q rfl).2, ⟨_, c0⟩, ⟨_, c1⟩, hi.frozenAt 0, hi.frozenAt 1⟩
end Go.Proofs.YtiibpldfnnhhlaaDoor

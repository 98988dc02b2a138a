/-
  The state while one ware of a drawn price list is bent: the list at a, its ware i. The bounds stand at it.
-/
import Derived.Test.YtiibpldfnnhhlaaDoorGotSet
namespace Go.Proofs.YtiibpldfnnhhlaaDoor
open Go.RowKit
def pat (ps : List Ptr) (i : Nat) : Ptr := ps.getD i (none, 0)
theorem pat_eq {ps : List Ptr} {i : Nat} (h : i < ps.length) : ps[i] = pat ps i := by simp [pat, h]
structure TS (w V : World) (b : Nat) (A : Option Addr) (n c a ct : Nat) (l : List Ware) (ps : List Ptr) (i k : Nat) : Prop where
  src : SrcAt V b A n c k
  byt : Byt V b A n
  got : WGot w.heap.size V (some ⟨a, 0, none⟩) ct l ps
  gr : w.grownBy V (some b)
  lt : b < w.heap.size
  i : i < l.length
section
variable {w V V' : World} {b : Nat} {A : Option Addr} {n c a ct i k k' : Nat} {l : List Ware} {ps : List Ptr}
theorem TS.lenp (h : TS w V b A n c a ct l ps i k) : i < ps.length := by have := h.got.len; have := h.i; omega
theorem TS.lo (h : TS w V b A n c a ct l ps i k) : w.heap.size ≤ a ∧ a < V.heap.size := WHas.aLt h.got rfl
theorem TS.bel (h : TS w V b A n c a ct l ps i k) (hb : Below V.heap.size V V') : TS w V' b A n c a ct l ps i k :=
  ⟨h.src.bel hb, h.byt.bel hb, h.got.below hb, gr_up h.gr ⟨V', hb⟩, h.lt, h.i⟩
theorem TS.alloc (h : TS w V b A n c a ct l ps i k) (o : Obj) : TS w (V.alloc o) b A n c a ct l ps i k :=
  ⟨h.src.alloc o, h.byt.alloc o, h.got.below ((Below.refl _ _).alloc (Nat.le_refl _) _), gr_alloc h.gr o, h.lt, h.i⟩
theorem TS.call (h : TS w V b A n c a ct l ps i k) (hg : V.grownBy V' (some b)) (hs : SrcAt V' b A n c k') : TS w V' b A n c a ct l ps i k' :=
  ⟨hs, h.byt.grown hg, h.got.grown hg (fun x e => by injection e with e; have := h.lt; omega), grown_trans h.gr hg, h.lt, h.i⟩
theorem TS.raw (h : TS w V b A n c a ct l ps i k) : a < V.heap.size ∧ V.cell? ⟨a, i * 2 + 1, none⟩ = some (.slice (pat ps i).1 (wat l i).brs.length (pat ps i).2) ∧ V.frozen? ⟨a, i * 2, none⟩ = false ∧ V.frozen? ⟨a, i * 2 + 1, none⟩ = false ∧ V.cell? ⟨a, i * 2, none⟩ = some (.string (wat l i).name) := by
  refine ⟨h.lo.2, ?_, h.got.row.frozenAt _, h.got.row.frozenAt _, ?_⟩
  rotate_left
  · have e : (wcs l ps)[i * 2]? = _ := wcs_at h.i h.lenp (j := 0) (by omega)
    have := h.got.row.cells (g := a) rfl _ _ e
    rw [show (⟨a, 0, none⟩ : Addr).add (i * 2) = ⟨a, i * 2, none⟩ by unfold Addr.add; split <;> simp_all] at this
    rw [this, wat_eq h.i]
  have e := h.got.ptr i h.i h.lenp
  have := h.got.row.cells (g := a) rfl _ _ e
  rw [show (⟨a, 0, none⟩ : Addr).add (i * 2 + 1) = ⟨a, i * 2 + 1, none⟩ by unfold Addr.add; simp] at this
  rw [this, pat_eq h.lenp, wat_eq h.i]
theorem TS.inn (h : TS w V b A n c a ct l ps i k) : V.ownsRow w.heap.size 69 2 (.slice (pat ps i).1 (wat l i).brs.length (pat ps i).2) (wat l i).brs.length (bkcs (wat l i).brs) := by
  have := h.got.inner i h.i h.lenp
  rw [pat_eq h.lenp, wat_eq h.i] at this
  exact this
theorem TS.name (h : TS w V b A n c a ct l ps i k) (s : ByteArray) : TS w (V.setCell ⟨a, i * 2, none⟩ (.string s)) b A n c a ct (l.set i ⟨s, (wat l i).brs⟩) ps i k := by
  have h1 := h.lo.1
  have h2 := h.lt
  exact ⟨h.src.far (p := ⟨a, i * 2, none⟩) (by show b ≠ a; omega) _, h.byt.kept (grown_put V a (i * 2) (.string s)) (fun j hj => by injection hj with hj; omega), h.got.setName h.i s, gr_new h.gr (p := ⟨a, i * 2, none⟩) h1 _, h.lt, by rw [List.length_set]; exact h.i⟩
theorem TS.brs {P : Option Addr} {cb : Nat} {bs : List Brk} (h : TS w V b A n c a ct l ps i k) (hg : V.grownBy V' (ablk (pat ps i).1)) (hx : V'.ownsRow w.heap.size 69 2 (.slice P bs.length cb) bs.length (bkcs bs)) (hat : ∀ k, ablk P = some k → ablk (pat ps i).1 = some k ∨ V.heap.size ≤ k) :
    TS w (V'.setCell ⟨a, i * 2 + 1, none⟩ (.slice P bs.length cb)) b A n c a ct (l.set i ⟨(wat l i).name, bs⟩) (ps.set i (P, cb)) i k := by
  have h1 := h.lo.1
  have h2 := h.lt
  have hlb : ∀ x, ablk (pat ps i).1 = some x → w.heap.size ≤ x := fun x e => (h.inn.lt x (by rw [own_ablk]; exact e)).1
  have s2 := h.src.kept hg (fun e => by have := hlb b e.symm; omega)
  have y2 := h.byt.kept hg (fun j hj => by have := hlb j hj; omega)
  have gr2 : w.grownBy V' (some b) := gr_far h.gr hg (fun j hj => hlb j hj)
  have gp := grown_put V' a (i * 2 + 1) (.slice P bs.length cb)
  refine ⟨s2.kept gp (fun e => by injection e with e; omega), y2.kept gp (fun j hj => by injection hj with hj; omega), ?_, gr_new gr2 (p := ⟨a, i * 2 + 1, none⟩) h1 _, h.lt, by rw [List.length_set]; exact h.i⟩
  refine h.got.setBrs h.i h.lenp ?_ hx ?_
  · rw [pat_eq h.lenp]; exact hg
  · rw [pat_eq h.lenp]; exact hat
theorem TS.keepA (h : TS w V b A n c a ct l ps i k) (hg : V.grownBy V' (Value.slice (pat ps i).1 (wat l i).brs.length (pat ps i).2).ownBlock) : a < V'.heap.size ∧ V'.cell? ⟨a, i * 2 + 1, none⟩ = some (.slice (pat ps i).1 (wat l i).brs.length (pat ps i).2) ∧ V'.frozen? ⟨a, i * 2 + 1, none⟩ = false := by
  rw [own_ablk] at hg
  have ho := h.got.outer i h.lenp
  rw [pat_eq h.lenp] at ho
  have hr := h.raw.2.1
  have r1 := own_keepK h.got.row hg (fun x e e2 => by
    have e2 : some a = some x := e2
    rcases ho with h9 | h9
    · rw [h9] at e; cases e
    · exact h9 (by rw [e, ← e2]; rfl))
  refine ⟨Nat.lt_of_lt_of_le h.lo.2 hg.size, ?_, r1.frozenAt _⟩
  refine hg.cell hr (fun e => ?_)
  have e : some a = ablk (pat ps i).1 := e
  rcases ho with h9 | h9
  · rw [h9] at e; cases e
  · exact h9 e.symm
theorem TS.app (h : TS w V b A n c a ct l ps i k) {g cap : Nat} {x : Brk} (hg : V.grownBy V' (Value.slice (pat ps i).1 (wat l i).brs.length (pat ps i).2).ownBlock) (o : V'.ownsRow w.heap.size 69 2 (.slice (some ⟨g, 0, none⟩) ((wat l i).brs.length + 1) cap) ((wat l i).brs.length + 1) (bkcs (wat l i).brs ++ [i64 x.fr, i64 x.pr])) (hat : (Value.slice (pat ps i).1 (wat l i).brs.length (pat ps i).2).ownBlock = some g ∨ g = V.heap.size) :
    TS w (V'.setCell ⟨a, i * 2 + 1, none⟩ (.slice (some ⟨g, 0, none⟩) ((wat l i).brs.length + 1) cap)) b A n c a ct (l.set i ⟨(wat l i).name, (wat l i).brs ++ [x]⟩) (ps.set i (some ⟨g, 0, none⟩, cap)) i k := by
  rw [own_ablk] at hg hat
  have hl : ((wat l i).brs ++ [x]).length = (wat l i).brs.length + 1 := by simp
  have := h.brs (P := some ⟨g, 0, none⟩) (cb := cap) (bs := (wat l i).brs ++ [x]) hg (by
    rw [hl, show bkcs ((wat l i).brs ++ [x]) = bkcs (wat l i).brs ++ [i64 x.fr, i64 x.pr] by simp [bkcs, Brk.cells]]
    exact o) (fun k e => by
      injection e with e
      have e : g = k := e
      rcases hat with h9 | h9
      · exact .inl (by rw [h9, e])
      · exact .inr (by omega))
  rw [hl] at this
  exact this
theorem wat_set_same {x : Ware} (h : i < l.length) : wat (l.set i x) i = x := by simp [wat, h]
theorem pat_set {x : Ptr} (h : i < ps.length) : pat (ps.set i x) i = x := by simp [pat, h]
end
end Go.Proofs.YtiibpldfnnhhlaaDoor

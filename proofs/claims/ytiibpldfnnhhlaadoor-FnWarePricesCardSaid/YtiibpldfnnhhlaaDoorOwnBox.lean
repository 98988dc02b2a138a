/-
  A ware of the call's own in a box whose list of breaks grows by append (apart from other texts). The bounds stand at each.
-/
import Derived.Test.YtiibpldfnnhhlaaDoorAppAt
import Derived.Test.YtiibpldfnnhhlaaDoorMgA
namespace Go.Proofs.YtiibpldfnnhhlaaDoor
open Go.RowKit
def oblk (A : Option Addr) : Option Nat := A.map (·.block)
theorem own_oblk (A : Option Addr) (n c : Nat) : (Value.slice A n c).ownBlock = oblk A := by cases A <;> rfl
theorem el_bk : ElemOf Tryd.prog 27 69 (.agg #[i64 0, i64 0]) 2 16 := elem_of Tryd.underlying27 (by kernel_rfl) rfl (by decide)
/-- box o holds a ware of this name with the breaks l, which lie in a row of their own from lo on; w0 is as it was -/
structure OBox (w0 w : World) (o lo : Nat) (nm : ByteArray) (A : Option Addr) (c : Nat) (l : List Brk) : Prop where
  box : Blk w o 29 #[.string nm, .slice A l.length c]
  row : w.ownsRow lo 69 2 (.slice A l.length c) l.length (bkcs l)
  far : oblk A = none ∨ oblk A ≠ some o
  bel : Below w0.heap.size w0 w
section
variable {w0 w w' : World} {o lo : Nat} {nm : ByteArray} {A : Option Addr} {c : Nat} {l : List Brk}
theorem OBox.below (h : OBox w0 w o lo nm A c l) (hb : Below w.heap.size w w') : OBox w0 w' o lo nm A c l :=
  ⟨(hb.block o h.box.lt).trans h.box, own_below h.row hb, h.far, h.bel.trans (hb.mono h.bel.size)⟩
theorem OBox.c0 (h : OBox w0 w o lo nm A c l) : w.cell? ⟨o, 0, none⟩ = some (.string nm) := by rw [h.box.cell]; rfl
theorem OBox.c1 (h : OBox w0 w o lo nm A c l) : w.cell? ⟨o, 1, none⟩ = some (.slice A l.length c) := by rw [h.box.cell]; rfl
theorem bk_snoc (l : List Brk) (b : Brk) : bkcs (l ++ [b]) = bkcs l ++ [i64 b.fr, i64 b.pr] := by simp [bkcs, Brk.cells]
/-- one break more: what stands behind the append -/
theorem OBox.app (h : OBox w0 w o lo nm A c l) (hlo : w0.heap.size ≤ lo) (hg : w.grownBy w' (oblk A)) : Blk w' o 29 #[.string nm, .slice A l.length c] ∧ Below w0.heap.size w0 w' := by
  refine ⟨h.box.grown hg ?_, h.bel.grown hg h.bel.size fun k hk => Nat.le_trans hlo (h.row.lt k (by rw [own_oblk]; exact hk)).1⟩
  rcases h.far with e | e
  · rw [e]; simp
  · exact fun e' => e e'.symm
/-- and behind the store -/
theorem OBox.put {g c' : Nat} {b : Brk} (h : OBox w0 w o lo nm A c l) (hlo : w0.heap.size ≤ lo) (ho0 : w0.heap.size ≤ o) (hg : w.grownBy w' (oblk A))
    (hr : w'.ownsRow lo 69 2 (.slice (some ⟨g, 0, none⟩) (l.length + 1) c') (l.length + 1) (bkcs l ++ [i64 b.fr, i64 b.pr])) (hat : oblk A = some g ∨ g = w.heap.size) :
    OBox w0 (w'.setCell ⟨o, 1, none⟩ (.slice (some ⟨g, 0, none⟩) (l.length + 1) c')) o lo nm (some ⟨g, 0, none⟩) c' (l ++ [b]) := by
  obtain ⟨h1, h2⟩ := h.app hlo hg
  have hfar : oblk (some (⟨g, 0, none⟩ : Addr)) ≠ some o := by
    intro e
    injection e with e
    have e' : g = o := e
    rcases hat with h3 | h3
    · rcases h.far with h4 | h4
      · rw [h4] at h3; cases h3
      · exact h4 (by rw [h3, e'])
    · have := h.box.lt
      omega
  refine ⟨?_, ?_, .inr hfar, h2.setCell (p := ⟨o, 1, none⟩) (by show w0.heap.size ≤ o; omega) _⟩
  · have := h1.put 1 (.slice (some ⟨g, 0, none⟩) (l.length + 1) c')
    rw [List.length_append, List.length_singleton]
    exact this
  · rw [bk_snoc, List.length_append, List.length_singleton]
    exact hr.kept (grown_put _ _ _ _) (.inr (by rw [own_oblk]; exact hfar))
end
end Go.Proofs.YtiibpldfnnhhlaaDoor

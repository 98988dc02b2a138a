/-
  A ware of the call's own in a box whose list of breaks grows by append. The bounds stand at each.
-/
import Derived.Test.YtiibpldfnnhhlaaDoorGot2
import Derived.Test.YtiibpldfnnhhlaaDoorMgA
namespace Go.Proofs.YtiibpldfnnhhlaaDoor
open Go.RowKit
theorem raisR_1 {l : List Ware} {m : Int} (h : vWares l = false) : raisR l m = ([], 1) := by simp [raisR, h]
theorem raisR_2 {l : List Ware} {m : Int} (h : vWares l = true) (h2 : btw m 0 1000 = false) : raisR l m = ([], 2) := by simp [raisR, h, h2]
theorem raisR_5 {l : List Ware} {m : Int} (h : vWares l = true) (h2 : btw m 0 1000 = true) (h3 : vWares (raisL m l) = false) : raisR l m = ([], 5) := by simp [raisR, h, h2, h3]
theorem raisR_0 {l : List Ware} {m : Int} (h : vWares l = true) (h2 : btw m 0 1000 = true) (h3 : vWares (raisL m l) = true) : raisR l m = (raisL m l, 0) := by simp [raisR, h, h2, h3]
theorem raisL_bd {l : List Ware} {m : Int} (h : vWares l = true) : WBd (raisL m l) := fun i hi => by
  rw [raisL_len] at hi
  obtain ⟨h1, _, h3, _⟩ := vWare_inv ((vWares_inv h).2 i hi)
  have := (nameB_bd h1).2
  rw [raisL_at hi, rais_len]
  exact ⟨by show (wat l i).name.size ≤ _; omega, by omega⟩
/-- box o holds a ware of this name with the breaks l, which lie in a row of their own from lo on; w0 is as it was -/
structure OwnBox (w0 w : World) (o lo : Nat) (nm : ByteArray) (A : Option Addr) (c : Nat) (l : List Brk) : Prop where
  box : Blk w o 29 #[.string nm, .slice A l.length c]
  row : w.ownsRow lo 69 2 (.slice A l.length c) l.length (bkcs l)
  far : ablk A = none ∨ ablk A ≠ some o
  bel : Below w0.heap.size w0 w
section
variable {w0 w w' : World} {o lo : Nat} {nm : ByteArray} {A : Option Addr} {c : Nat} {l : List Brk}
theorem OwnBox.below (h : OwnBox w0 w o lo nm A c l) (hb : Below w.heap.size w w') : OwnBox w0 w' o lo nm A c l :=
  ⟨(hb.block o h.box.lt).trans h.box, own_below h.row hb, h.far, h.bel.trans (hb.mono h.bel.size)⟩
theorem OwnBox.c0 (h : OwnBox w0 w o lo nm A c l) : w.cell? ⟨o, 0, none⟩ = some (.string nm) := by rw [h.box.cell]; rfl
theorem OwnBox.c1 (h : OwnBox w0 w o lo nm A c l) : w.cell? ⟨o, 1, none⟩ = some (.slice A l.length c) := by rw [h.box.cell]; rfl
theorem bkcs_snoc (l : List Brk) (b : Brk) : bkcs (l ++ [b]) = bkcs l ++ [i64 b.fr, i64 b.pr] := by simp [bkcs, Brk.cells]
/-- one break more: what stands behind the append -/
theorem OwnBox.app (h : OwnBox w0 w o lo nm A c l) (hlo : w0.heap.size ≤ lo) (hg : w.grownBy w' (ablk A)) : Blk w' o 29 #[.string nm, .slice A l.length c] ∧ Below w0.heap.size w0 w' := by
  refine ⟨h.box.grown hg ?_, h.bel.grown hg h.bel.size fun k hk => Nat.le_trans hlo (h.row.lt k (by rw [own_ablk]; exact hk)).1⟩
  rcases h.far with e | e
  · rw [e]; simp
  · exact fun e' => e e'.symm
/-- and behind the store -/
theorem OwnBox.put {g c' : Nat} {b : Brk} (h : OwnBox w0 w o lo nm A c l) (hlo : w0.heap.size ≤ lo) (ho0 : w0.heap.size ≤ o) (hg : w.grownBy w' (ablk A))
    (hr : w'.ownsRow lo 69 2 (.slice (some ⟨g, 0, none⟩) (l.length + 1) c') (l.length + 1) (bkcs l ++ [i64 b.fr, i64 b.pr])) (hat : ablk A = some g ∨ g = w.heap.size) :
    OwnBox w0 (w'.setCell ⟨o, 1, none⟩ (.slice (some ⟨g, 0, none⟩) (l.length + 1) c')) o lo nm (some ⟨g, 0, none⟩) c' (l ++ [b]) := by
  obtain ⟨h1, h2⟩ := h.app hlo hg
  have hfar : ablk (some (⟨g, 0, none⟩ : Addr)) ≠ some o := by
    intro e
    injection e with e
    have e' : g = o := e
    rcases hat with h3 | h3
    · rcases h.far with h4 | h4
      · rw [h4] at h3; cases h3
      · exact h4 (by rw [h3, e'])
    · have := h.box.lt
      omega
  refine ⟨?_, ?_, .inr hfar, h2.setCell (p := ⟨o, 1, none⟩) (by show w0.heap.size ≤ o; omega) _⟩
  · have := h1.put 1 (.slice (some ⟨g, 0, none⟩) (l.length + 1) c')
    rw [List.length_append, List.length_singleton]
    exact this
  · rw [bkcs_snoc, List.length_append, List.length_singleton]
    exact hr.kept (grown_put _ _ _ _) (.inr (by rw [own_ablk]; exact hfar))
end
end Go.Proofs.YtiibpldfnnhhlaaDoor

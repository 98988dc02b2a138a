/-
  Wares that came in: what the form's reading gives the laws' walks.
-/
import Derived.Test.YtiibpldfnnhhlaaInBreaks
import Derived.Test.YtiibpldfnnhhlaaWares
namespace Go.Proofs.Ytiibpldfnnhhlaa
open Go.ChangeShapes Go.WideShapes Go.ChangeAt Go.RowKit Go.Joins Go.Deep
set_option linter.unusedVariables false
set_option maxRecDepth 10000
theorem choose_upto {α : Type} {n : Nat} {P : Nat → α → Prop} (d : α) (h : ∀ i, i < n → ∃ y, P i y) : ∃ f : Nat → α, ∀ i, i < n → P i (f i) :=
  ⟨fun i => if hi : i < n then Classical.choose (h i hi) else d, fun i hi => by simp only [hi, dif_pos]; exact Classical.choose_spec (h i hi)⟩
def WPart (W : World) (x : Addr) (i : Nat) (y : Ware × Ptr) : Prop :=
  W.cell? (x.add (i * 2)) = some (.string y.1.name) ∧ W.cell? ((x.add (i * 2)).add 1) = some (.slice y.2.1 y.1.brs.length y.2.2) ∧ Rds W 2 y.2.1 y.1.brs.length (bkcs y.1.brs) ∧ y.1.name.size ≤ 9223372036854775807 ∧ y.1.brs.length ≤ 9223372036854775807
theorem in_wares {W : World} {base : Nat} {held : Bool} {H : Type} {enc : TypeId × Value → H} {v : Value} {d : DataW H} {p : List MemPlace}
    (hv : Value.okWide Try.prog W .any base 22 v) (h : DataW.Trod enc Try.prog W 0 (fun _ => true) held 22 v d p) :
    ∃ (A : Option Addr) (c : Nat) (l : List Ware), v = .slice A l.length c ∧ WSee W A l ∧ l.length ≤ 9223372036854775807 ∧ WFit l := by
  obtain ⟨A, n, c, rfl⟩ := okWide_slice Try.underlying22 hv
  obtain ⟨fuel, hf⟩ := h
  rcases open_slice Try.underlying22 hf with ⟨hcs, _⟩ | ⟨x, n', c', m, k, D, Pl, hcs, _, hl, hm, hmm, _, hi⟩
  · simp [Value.cells] at hcs
    obtain ⟨rfl, rfl, rfl⟩ := hcs
    exact ⟨none, 0, [], rfl, WSee.nil _ _, by simp, fun i h => by simp at h⟩
  · simp [Value.cells] at hcs
    obtain ⟨rfl, rfl, rfl⟩ := hcs
    unfold maxLen at hm
    have hC : Try.prog.cellsOf 71 = 2 := by kernel_rfl
    have hs : ∀ i, i < n → ∃ y, WPart W x i y := by
      intro i hin
      obtain ⟨cs', hcs, ht⟩ := hi i (by rw [hmm]; simp; omega)
      rw [hC] at hcs
      obtain ⟨_, hcl, hat⟩ := World.cells?_some hcs
      have h0 := hat 0 (by omega)
      have h1 := hat 1 (by omega)
      match cs', hcl with
      | [v0, v1], _ =>
        obtain ⟨y0, y1, k', _, _, t0, t1⟩ := trod_struct2 Try.underlying71 ht
        have hc1 : Try.prog.cellsOf 9 = 1 := by kernel_rfl
        have hc2 : Try.prog.cellsOf 69 = 1 := by kernel_rfl
        simp only [hc1, hc2, List.drop_zero, List.drop_succ_cons, List.take_succ_cons, List.take_zero] at t0 t1
        obtain ⟨s, e0, _, z0⟩ := DataW.trod_string Try.underlying9 t0
        obtain ⟨A1, c1, l1, e1, r1, q1, _⟩ := open_bk t1
        simp only [List.cons.injEq, and_true] at e0 e1
        subst e0 e1
        unfold maxLen at z0
        refine ⟨(⟨s, l1⟩, (A1, c1)), ?_, h1, r1, z0, q1⟩
        have hz : ((x.add (i * 2)).add 0) = x.add (i * 2) := by simp [Addr.add]
        rw [hz] at h0
        exact h0
    obtain ⟨f, hff⟩ := choose_upto (⟨⟨ByteArray.empty, []⟩, none, 0⟩ : Ware × Ptr) hs
    have hg : ∀ i (h : i < ((List.range n).map fun i => (f i).1).length), ((List.range n).map fun i => (f i).1)[i] = (f i).1 := fun i h => by simp
    refine ⟨some x, c, (List.range n).map fun i => (f i).1, by simp, ⟨(List.range n).map fun i => (f i).2, by simp, ?_, fun i h1 h2 => ?_⟩, by simp; omega, fun i hi => ?_⟩
    · refine ⟨?_, fun hn0 => ?_⟩
      · rw [wcs, flat_len wcell_len, List.length_zip]; simp
      · simp only [List.length_map, List.length_range] at hn0
        obtain ⟨b, off, spot⟩ := x
        have hq := (hff 0 (by omega)).1
        have hspot : spot = none := by simpa [Addr.add] using World.cell?_spot hq
        subst hspot
        simp only [bk_addlit] at hq
        have hr := rds_of_elems wcell_len (l := ((List.range n).map fun i => (f i).1).zip ((List.range n).map fun i => (f i).2)) (World.block_lt_of_cell? W _ hq) (w := W) (b := b) (off := off) (fun k hk j u hu => by
          have hk' : k < n := by simpa using hk
          obtain ⟨e0, e1, _⟩ := hff k hk'
          simp only [bk_addlit] at e0 e1
          simp only [List.getElem_zip, List.getElem_map, List.getElem_range] at hu
          match j, hu with
          | 0, hu => injection hu with hu; rw [← hu]; exact e0
          | 1, hu => injection hu with hu; rw [← hu]; exact e1)
        exact hr.2 (by rw [List.length_zip]; simp; omega)
    · have hi' : i < n := by simpa using h1
      have := (hff i hi').2.2.1
      simpa using this
    · have hi' : i < n := by simpa using hi
      rw [← wat_eq hi, hg i hi]
      exact ⟨(hff i hi').2.2.2.1, (hff i hi').2.2.2.2⟩
end Go.Proofs.Ytiibpldfnnhhlaa

/-
  Offers that came in: what the form's reading gives the laws' walks.
-/
import Derived.Test.YtiibpldfnnhhlaaInWares
import Derived.Test.YtiibpldfnnhhlaaInInts
import Derived.Test.YtiibpldfnnhhlaaOffers
namespace Go.Proofs.Ytiibpldfnnhhlaa
open Go.ChangeShapes Go.WideShapes Go.ChangeAt Go.RowKit Go.Joins Go.Deep
set_option linter.unusedVariables false
set_option maxRecDepth 10000
def OPart (W : World) (x : Addr) (i : Nat) (y : Offer × Ptr) : Prop :=
  W.cell? (x.add (i * 2)) = some (.slice y.2.1 y.1.many.length y.2.2) ∧ W.cell? ((x.add (i * 2)).add 1) = some (i64 y.1.price) ∧ Rds W 1 y.2.1 y.1.many.length (ics y.1.many) ∧ y.1.many.length ≤ 9223372036854775807
theorem in_offers {W : World} {base : Nat} {held : Bool} {H : Type} {enc : TypeId × Value → H} {v : Value} {d : DataW H} {p : List MemPlace}
    (hv : Value.okWide Try.prog W .any base 47 v) (h : DataW.Trod enc Try.prog W 0 (fun _ => true) held 47 v d p) :
    ∃ (A : Option Addr) (c : Nat) (l : List Offer), v = .slice A l.length c ∧ OSee W A l ∧ l.length ≤ 9223372036854775807 ∧ OFit l := by
  obtain ⟨A, n, c, rfl⟩ := okWide_slice Try.underlying47 hv
  obtain ⟨fuel, hf⟩ := h
  rcases open_slice Try.underlying47 hf with ⟨hcs, _⟩ | ⟨x, n', c', m, k, D, Pl, hcs, _, hl, hm, hmm, _, hi⟩
  · simp [Value.cells] at hcs
    obtain ⟨rfl, rfl, rfl⟩ := hcs
    exact ⟨none, 0, [], rfl, OSee.nil _ _, by simp, fun i h => by simp at h⟩
  · simp [Value.cells] at hcs
    obtain ⟨rfl, rfl, rfl⟩ := hcs
    unfold maxLen at hm
    have hC : Try.prog.cellsOf 95 = 2 := by kernel_rfl
    have hs : ∀ i, i < n → ∃ y, OPart W x i y := by
      intro i hin
      obtain ⟨cs', hcs, ht⟩ := hi i (by rw [hmm]; simp; omega)
      rw [hC] at hcs
      obtain ⟨_, hcl, hat⟩ := World.cells?_some hcs
      have h0 := hat 0 (by omega)
      have h1 := hat 1 (by omega)
      match cs', hcl with
      | [v0, v1], _ =>
        obtain ⟨y0, y1, k', _, _, t0, t1⟩ := trod_struct2 Try.underlying95 ht
        have hc1 : Try.prog.cellsOf 35 = 1 := by kernel_rfl
        have hc2 : Try.prog.cellsOf 2 = 1 := by kernel_rfl
        simp only [hc1, hc2, List.drop_zero, List.drop_succ_cons, List.take_succ_cons, List.take_zero] at t0 t1
        obtain ⟨A1, c1, l1, e0, r1, q1, _⟩ := open_i64 t0
        obtain ⟨s, e1, _, _⟩ := DataW.trod_int Try.underlying2 t1
        simp only [List.cons.injEq, and_true] at e0 e1
        subst e0 e1
        refine ⟨(⟨l1, s⟩, (A1, c1)), ?_, h1, r1, q1⟩
        have hz : ((x.add (i * 2)).add 0) = x.add (i * 2) := by simp [Addr.add]
        rw [hz] at h0
        exact h0
    obtain ⟨f, hff⟩ := choose_upto (⟨⟨[], 0⟩, none, 0⟩ : Offer × Ptr) hs
    have hg : ∀ i (h : i < ((List.range n).map fun i => (f i).1).length), ((List.range n).map fun i => (f i).1)[i] = (f i).1 := fun i h => by simp
    refine ⟨some x, c, (List.range n).map fun i => (f i).1, by simp, ⟨(List.range n).map fun i => (f i).2, by simp, ?_, fun i h1 h2 => ?_⟩, by simp; omega, fun i hi => ?_⟩
    · refine ⟨?_, fun hn0 => ?_⟩
      · rw [ocs, flat_len ocell_len, List.length_zip]; simp
      · simp only [List.length_map, List.length_range] at hn0
        obtain ⟨b, off, spot⟩ := x
        have hq := (hff 0 (by omega)).1
        have hspot : spot = none := by simpa [Addr.add] using World.cell?_spot hq
        subst hspot
        simp only [bk_addlit] at hq
        have hr := rds_of_elems ocell_len (l := ((List.range n).map fun i => (f i).1).zip ((List.range n).map fun i => (f i).2)) (World.block_lt_of_cell? W _ hq) (w := W) (b := b) (off := off) (fun k hk j u hu => by
          have hk' : k < n := by simpa using hk
          obtain ⟨e0, e1, _⟩ := hff k hk'
          simp only [bk_addlit] at e0 e1
          simp only [List.getElem_zip, List.getElem_map, List.getElem_range] at hu
          match j, hu with
          | 0, hu => injection hu with hu; rw [← hu]; exact e0
          | 1, hu => injection hu with hu; rw [← hu]; exact e1)
        exact hr.2 (by rw [List.length_zip]; simp; omega)
    · have hi' : i < n := by simpa using h1
      have := (hff i hi').2.2.1
      simpa using this
    · have hi' : i < n := by simpa using hi
      rw [← oat_eq hi, hg i hi]
      exact (hff i hi').2.2.2
end Go.Proofs.Ytiibpldfnnhhlaa

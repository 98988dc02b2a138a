/-
  A ware that came in: what the form's reading gives the laws' walks.
-/
import Derived.Test.YtiibpldfnnhhlaaDoorWare0
import Derived.Test.YtiibpldfnnhhlaaDoorInBreaks
namespace Go.Proofs.YtiibpldfnnhhlaaDoor
open Go.ChangeShapes Go.WideShapes Go.ChangeAt Go.RowKit Go.Joins Go.Deep
set_option linter.unusedVariables false
set_option maxRecDepth 10000
theorem in_ware {W : World} {base : Nat} {held : Bool} {H : Type} {enc : TypeId × Value → H} {v : Value} {d : DataW H} {p : List MemPlace}
    (hv : Value.okWide Tryd.prog W .any base 24 v) (h : DataW.Trod enc Tryd.prog W 0 (fun _ => true) held 24 v d p) :
    ∃ (x : Ware) (A : Option Addr) (c : Nat), v = .agg #[.string x.name, .slice A x.brs.length c] ∧ Rds W 2 A x.brs.length (bkcs x.brs) ∧ x.brs.length ≤ 9223372036854775807 ∧ x.name.size ≤ 9223372036854775807 := by
  obtain ⟨v0, v1, y0, y1, n, rfl, _, _, t0, t1⟩ := open_agg2 Tryd.underlying24 (by kernel_rfl) (by kernel_rfl) hv h
  obtain ⟨a0, e0, _, z0⟩ := DataW.trod_string Tryd.underlying9 t0
  unfold maxLen at z0
  obtain ⟨A, c, l, e1, rl, nl, _⟩ := open_bk t1
  simp only [List.cons.injEq, and_true] at e0 e1
  subst e0 e1
  exact ⟨⟨a0, l⟩, A, c, rfl, rl, nl, z0⟩
end Go.Proofs.YtiibpldfnnhhlaaDoor

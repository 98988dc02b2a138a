/-
  A desk that came in: what the form's reading gives the laws' walks.
-/
import Derived.Test.YtbianlkenallaaaDoorLawSameDesk
import Derived.Test.YtbianlkenallaaaDoorInDrills
import Derived.Test.YtbianlkenallaaaDoorInInts
namespace Go.Proofs.YtbianlkenallaaaDoor
open Go.ChangeShapes Go.WideShapes Go.ChangeAt Go.RowKit Go.Joins Go.Deep
set_option linter.unusedVariables false
set_option maxRecDepth 10000
theorem array8 {α : Type} {cs : Array α} (h : cs.size = 8) : ∃ c0 c1 c2 c3 c4 c5 c6 c7, cs = #[c0, c1, c2, c3, c4, c5, c6, c7] := by
  obtain ⟨l⟩ := cs
  match l, h with
  | [c0, c1, c2, c3, c4, c5, c6, c7], _ => exact ⟨c0, c1, c2, c3, c4, c5, c6, c7, rfl⟩
theorem trod_struct5 {H : Type} {enc : TypeId × Value → H} {P : Program} {w : World} {base : Nat} {spare : Nat → Bool} {held : Bool} {t : TypeId} {f0 f1 f2 f3 f4 : Field} {fuel : Nat} {cs : List Value} {x : DataW H × List MemPlace} (ht : P.underlying t = some (.struct #[f0, f1, f2, f3, f4])) (h : DataW.trod enc P w base spare held fuel t cs = some x) :
    ∃ y0 y1 y2 y3 y4 n, cs.length = P.cellsOf t ∧ DataW.trod enc P w base spare held n f0.type ((cs.drop f0.offset).take (P.cellsOf f0.type)) = some y0 ∧
      DataW.trod enc P w base spare held n f1.type ((cs.drop f1.offset).take (P.cellsOf f1.type)) = some y1 ∧ DataW.trod enc P w base spare held n f2.type ((cs.drop f2.offset).take (P.cellsOf f2.type)) = some y2 ∧
      DataW.trod enc P w base spare held n f3.type ((cs.drop f3.offset).take (P.cellsOf f3.type)) = some y3 ∧ DataW.trod enc P w base spare held n f4.type ((cs.drop f4.offset).take (P.cellsOf f4.type)) = some y4 := by
  obtain ⟨xs, n, _, rfl, hl, hlen, hf⟩ := DataW.trod_struct ht h
  match xs, hlen with
  | [y0, y1, y2, y3, y4], _ => exact ⟨y0, y1, y2, y3, y4, n, hl, by simpa using hf 0 f0 rfl, by simpa using hf 1 f1 rfl, by simpa using hf 2 f2 rfl, by simpa using hf 3 f3 rfl, by simpa using hf 4 f4 rfl⟩
theorem in_desk {W : World} {base : Nat} {held : Bool} {H : Type} {enc : TypeId × Value → H} {v : Value} {d : DataW H} {p : List MemPlace}
    (hv : Value.okWide Tryd.prog W .any base 27 v) (h : DataW.Trod enc Tryd.prog W 0 (fun _ => true) held 27 v d p) :
    ∃ (x : DeskD) (A B : Option Addr) (c e : Nat), v = dkv x A B c e ∧ DSee W x A B ∧ DkBnd x := by
  obtain ⟨cs, rfl, hsz⟩ := okWide_struct Tryd.underlying27 hv
  have hC : Tryd.prog.cellsOf 27 = 8 := by kernel_rfl
  rw [hC] at hsz
  obtain ⟨c0, c1, c2, c3, c4, c5, c6, c7, rfl⟩ := array8 hsz
  clear hv hsz
  obtain ⟨fuel, hf⟩ := h
  obtain ⟨y0, y1, y2, y3, n, _, _, t0, t1, t2, t3⟩ := trod_struct4 Tryd.underlying27 hf
  have hc0 : Tryd.prog.cellsOf 23 = 5 := by kernel_rfl
  have hc1 : Tryd.prog.cellsOf 24 = 1 := by kernel_rfl
  have hc2 : Tryd.prog.cellsOf 25 = 1 := by kernel_rfl
  have hc3 : Tryd.prog.cellsOf 9 = 1 := by kernel_rfl
  have hc4 : Tryd.prog.cellsOf 2 = 1 := by kernel_rfl
  simp only [Value.cells, hc0, hc1, hc2, hc3, List.drop_zero, List.drop_succ_cons, List.take_succ_cons, List.take_zero] at t0 t1 t2 t3
  obtain ⟨z0, z1, z2, z3, z4, m, _, u0, u1, u2, u3, u4⟩ := trod_struct5 Tryd.underlying23 t0
  simp only [hc4, List.drop_zero, List.drop_succ_cons, List.take_succ_cons, List.take_zero] at u0 u1 u2 u3 u4
  obtain ⟨a0, e0, _, _⟩ := DataW.trod_int Tryd.underlying2 u0
  obtain ⟨a1, e1, _, _⟩ := DataW.trod_int Tryd.underlying2 u1
  obtain ⟨a2, e2, _, _⟩ := DataW.trod_int Tryd.underlying2 u2
  obtain ⟨a3, e3, _, _⟩ := DataW.trod_int Tryd.underlying2 u3
  obtain ⟨a4, e4, _, _⟩ := DataW.trod_int Tryd.underlying2 u4
  obtain ⟨A, c, ss, e5, rs, ns, _⟩ := open_i64 t1
  obtain ⟨B, e, ds, e6, rd, nd, _, hd⟩ := open_dr t2
  obtain ⟨a7, e7, _, n7⟩ := DataW.trod_string Tryd.underlying9 t3
  unfold maxLen at n7
  simp only [List.cons.injEq, and_true] at e0 e1 e2 e3 e4 e5 e6 e7
  subst e0 e1 e2 e3 e4 e5 e6 e7
  exact ⟨⟨⟨a0, a1, a2, a3, a4⟩, ss, ds, a7⟩, A, B, c, e, rfl, ⟨rs, rd⟩, ns, nd, hd, n7⟩
end Go.Proofs.YtbianlkenallaaaDoor

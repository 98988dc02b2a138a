/-
  Bytes of the call's own: a text appended to them, and a text made of them. No condition but what stands at each.
-/
import Derived.Test.YtiagckbdofeecaaDoorApp
import Derived.Test.YtiagckbdofeecaaDoorRows
import Derived.Lib.AppendStr
import Derived.Lib.UnsafeStr
import Derived.Laws.IdiomStrings
namespace Go.Proofs.YtiagckbdofeecaaDoor
open Go.RowKit
theorem wpl_appS {P : Program} {w : World} {ops : Array Oper} {rest : List Oper} {o : Oper} {a : Act} {Q : Exit → Act → World → Prop} (hgd : o.guard = none) (sl x : Operand) (t u : TypeId)
    (ho : o.op = .call { callee := .builtin .append, args := #[sl, x], argTypes := #[t, u] })
    (W : World) (base : Nat) (e : TypeId) (el : ElemOf P t e (.int .u8 0) 1 1) (hu : P.underlying u = some .string)
    (A : Option Addr) (c : Nat) (l : List UInt8) (hs : a.eval sl = .slice A l.length c) (hown : w.ownsRow base e 1 (.slice A l.length c) l.length (Lib.byteCells l)) (s : ByteArray) (hx : a.eval x = .string s)
    (h63 : l.length + s.size ≤ 100000000) (hbase : base ≤ w.heap.size) (hW : Below W.heap.size W w) (hWb : W.heap.size ≤ base)
    (h : ∀ A' c' (g : Up W), (up W g).ownsRow base e 1 (.slice A' (l ++ s.data.toList).length c') (l ++ s.data.toList).length (Lib.byteCells (l ++ s.data.toList)) → wpList P ops Q rest (a.put o.dst (.slice A' (l ++ s.data.toList).length c')) (up W g)) : wpList P ops Q (o :: rest) a w := by
  obtain ⟨ht, _, _, i, hi, hz, hsize, hby⟩ := el
  refine Lib.wpList_append_own_string (w := w) hgd sl x t u ho base e i ht hu hi hz hsize hby _ _ _ hs hown s hx (by unfold maxLen; omega) (by omega) hbase fun v' w' h2 h3 _ => ?_
  obtain ⟨g, rfl⟩ := own_grown hown hW hWb h3
  obtain ⟨A', c', rfl⟩ := own_shape h2
  have e1 : l.length + s.size = (l ++ s.data.toList).length := by rw [List.length_append]; rfl
  have e2 : Lib.byteCells l ++ Lib.strCells s = Lib.byteCells (l ++ s.data.toList) := by
    rw [Lib.strCells_eq]; simp [Lib.byteCells]
  rw [e1, e2] at h2
  rw [e1]
  exact h A' c' g h2
theorem byteCells_one (l : List UInt8) : ∀ u ∈ Lib.byteCells l, u.oneCell' = true := by
  intro u hu
  simp only [Lib.byteCells, List.mem_map] at hu
  obtain ⟨b, _, rfl⟩ := hu
  rfl
theorem el_byte : ElemOf Tryd.prog 32 5 (.int .u8 0) 1 1 := elem_of Tryd.underlying32 (by kernel_rfl) rfl (by omega)
set_option maxRecDepth 100000 in
/-- bytes of the call's own, as a text -/
theorem conv_own {w w1 : World} {base n c : Nat} {A : Option Addr} {l : List UInt8} (h : w.ownsRow base 5 1 (.slice A n c) n (Lib.byteCells l)) (hn : n = l.length) (hb : Below w.heap.size w w1) :
    (convert 32 9 (.slice A n c)).run Tryd.prog w1 = .ok (.string ⟨l.toArray⟩) w1 := by
  subst hn
  have h1 := own_below h hb
  rcases h1.2 with ⟨hv, h0⟩ | ⟨g, cap, cur, hv, _⟩
  · injection hv with hA _ hc
    subst hA hc
    have hl : l = [] := List.eq_nil_of_length_eq_zero h0
    subst hl
    exact run_convert_bytes_nil _ 32 5 Tryd.underlying32 Tryd.underlying5 0 0 _ Tryd.underlying9
  · injection hv with hA hc
    subst hA
    exact run_convert_bytes_back w1 _ _ 5 ⟨g, 0, none⟩ c l Tryd.underlying32 Tryd.underlying5 Tryd.underlying9 (fun j hj => h1.cells (g := g) rfl j _ (by simp [Lib.byteCells, hj]))
end Go.Proofs.YtiagckbdofeecaaDoor

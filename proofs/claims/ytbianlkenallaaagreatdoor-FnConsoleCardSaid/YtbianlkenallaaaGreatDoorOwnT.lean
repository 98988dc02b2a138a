/-
  Own rows that lie apart, and bytes of the call's own that grow. No condition but what stands at each.
-/
import Derived.Test.YtbianlkenallaaaGreatDoorMgA
import Derived.Deep.DeepMust
set_option linter.all false
namespace Go.Proofs.YtbianlkenallaaaGreatDoor
open Go.RowKit
/-- rows of different element types lie in different blocks -/
theorem own_tne {w : World} {B B' e e' size size' n n' : Nat} {v v' : Value} {xs xs' : List Value} (h : w.ownsRow B e size v n xs) (h' : w.ownsRow B' e' size' v' n' xs') (hne : e ≠ e') : v.ownBlock = none ∨ v.ownBlock ≠ v'.ownBlock := by
  rcases h.2 with ⟨rfl, _⟩ | ⟨g, cap, cur, rfl, _, hgg, _⟩
  · exact .inl rfl
  · rcases h'.2 with ⟨rfl, _⟩ | ⟨g', cap', cur', rfl, _, hgg', _⟩
    · exact .inr (by simp [Value.ownBlock])
    · refine .inr fun he => ?_
      simp only [Value.ownBlock, Option.some.injEq] at he
      subst he
      rw [hgg] at hgg'
      simp only [Option.some.injEq, Obj.cells.injEq] at hgg'
      exact hne hgg'.2.1
theorem blk_tne {w : World} {B e size n p : Nat} {t : TypeId} {v : Value} {xs : List Value} {cs : Array Value} (hb : Blk w p t cs) (h : w.ownsRow B e size v n xs) (hne : e ≠ t) : some p ≠ v.ownBlock := by
  rcases h.2 with ⟨rfl, _⟩ | ⟨g, cap, cur, rfl, _, hgg, _⟩
  · simp [Value.ownBlock]
  · intro he
    simp only [Value.ownBlock, Option.some.injEq] at he
    subst he
    unfold Blk at hb
    rw [hgg] at hb
    simp only [Option.some.injEq, Obj.cells.injEq] at hb
    exact hne hb.2.1
/-- a text appended to bytes of the call's own -/
theorem wpl_appG {P : Program} {w : World} {ops : Array Oper} {rest : List Oper} {o : Oper} {a : Act} {Q : Exit → Act → World → Prop} (hgd : o.guard = none) (sl x : Operand) (t u : TypeId)
    (ho : o.op = .call { callee := .builtin .append, args := #[sl, x], argTypes := #[t, u] })
    (base : Nat) (e : TypeId) (el : ElemOf P t e (.int .u8 0) 1 1) (hu : P.underlying u = some .string)
    (A : Option Addr) (c : Nat) (l : List UInt8) (hs : a.eval sl = .slice A l.length c) (hown : w.ownsRow base e 1 (.slice A l.length c) l.length (Lib.byteCells l)) (s : ByteArray) (hx : a.eval x = .string s)
    (h63 : l.length + s.size ≤ 100000000) (hbase : base ≤ w.heap.size)
    (h : ∀ A' c' l' w', Hid (l' = l ++ s.data.toList) → w'.ownsRow base e 1 (.slice A' l'.length c') l'.length (Lib.byteCells l') → w.grownBy w' (Value.slice A l.length c).ownBlock → wpList P ops Q rest (a.put o.dst (.slice A' l'.length c')) w') : wpList P ops Q (o :: rest) a w := by
  obtain ⟨ht, _, _, i, hi, hz, hsize, hby⟩ := el
  refine Lib.wpList_append_own_string (w := w) hgd sl x t u ho base e i ht hu hi hz hsize hby _ _ _ hs hown s hx (by unfold maxLen; omega) (by omega) hbase fun v' w' h2 h3 _ => ?_
  obtain ⟨A', c', rfl⟩ := own_shape h2
  have e1 : l.length + s.size = (l ++ s.data.toList).length := by rw [List.length_append]; rfl
  have e2 : Lib.byteCells l ++ Lib.strCells s = Lib.byteCells (l ++ s.data.toList) := by
    rw [Lib.strCells_eq]; simp [Lib.byteCells]
  rw [e1, e2] at h2
  rw [e1]
  exact h A' c' _ w' (Lib.hid rfl) h2 h3
end Go.Proofs.YtbianlkenallaaaGreatDoor

/-
  A map of texts to numbers that a call makes, in which each number is what a plain function says of its text. No condition but what stands at each.
-/
import Derived.Test.YtfggbcmpgkhlaaaSet
namespace Go.Proofs.Ytfggbcmpgkhlaaa
open Go.RowKit Go.Maps
def MemoAt (w : World) (P : Program) (k e : TypeId) (b n : Nat) (V : ByteArray → Int) : Prop :=
  ∃ D : DataW Unit, w.ownsMap P k (plainElem P e) b n D ∧ IsMap D ∧ ∀ s : ByteArray, Maps.has D (.string s.data.toList) = true → D.atKey (.string s.data.toList) (.lit (.int .i64 0)) = .lit (.int .i64 (V s))
section
variable {w w' : World} {P : Program} {k e t : TypeId} {b n : Nat} {V : ByteArray → Int}
theorem MemoAt.made (w : World) (P : Program) (k e : TypeId) (V : ByteArray → Int) : MemoAt (w.alloc (.map #[] 0)) P k e w.heap.size 0 V :=
  ⟨.map [], World.ownsMap_made _ _ _ _, isMap_empty, fun s h => by cases h⟩
theorem MemoAt.lt (h : MemoAt w P k e b n V) : b < w.heap.size := by obtain ⟨D, h, _⟩ := h; exact h.lt
theorem MemoAt.kept {row : Option Nat} (h : MemoAt w P k e b n V) (hg : w.grownBy w' row) (hne : some b ≠ row) : MemoAt w' P k e b n V := by
  obtain ⟨D, h1, h2, h3⟩ := h
  exact ⟨D, h1.kept hg hne, h2, h3⟩
theorem MemoAt.below (h : MemoAt w P k e b n V) (hb : Below w.heap.size w w') : MemoAt w' P k e b n V :=
  h.kept (row := none) (grown_up ⟨w', hb⟩ none) (by simp)
theorem MemoAt.mono (h : MemoAt w P k e b n V) {n' : Nat} (hn : n ≤ n') : MemoAt w P k e b n' V := by
  obtain ⟨D, h1, h2, h3⟩ := h
  exact ⟨D, h1.mono hn, h2, h3⟩
/-- the look-up's run in every world that has grown, ahead of a walk -/
theorem MemoAt.look (h : MemoAt w P k e b n V) (ht : P.underlying t = some (.map k e)) (hk : P.underlying k = some .string) (he : P.underlying e = some (.int .i64)) (hz : ∀ w, (zeroValue e).run P w = .ok (.int .i64 0) w)
    (s : ByteArray) (hs : s.size ≤ maxLen) : ∃ (f : Bool) (x : Int), (f = true → x = V s) ∧ ∀ g : Up w, (Instr.lookup t (.map (some b)) (.string s) true).run P (up w g) = .ok (.tuple #[.int .i64 x, .bool f]) (up w g) := by
  obtain ⟨D, h1, h2, h3⟩ := h
  have key : ∀ g : Up w, ∃ c : Int, (Instr.lookup t (.map (some b)) (.string s) true).run P (up w g) = .ok (.tuple #[.int .i64 c, .bool (Maps.has D (.string s.data.toList))]) (up w g) ∧ D.atKey (.string s.data.toList) (.lit (.int .i64 0)) = .lit (.int .i64 c) := fun g => by
    obtain ⟨v, ps, hrun, hv⟩ := (h1.kept (grown_up g none) (by simp)).look_ok (string_keyed hk) ht (hz _) (plainElem_int he (by decide)) (WideMaps.keyOf_string_mk hk hs)
    obtain ⟨c, rfl, hc, _⟩ := plainElem_int_inv he hv
    exact ⟨c, hrun, congrArg Prod.fst hc⟩
  obtain ⟨c, _, hc⟩ := key ⟨w, Below.refl _ _⟩
  refine ⟨Maps.has D (.string s.data.toList), c, fun hf => ?_, fun g => ?_⟩
  · have := h3 s hf
    rw [hc] at this
    injection this with this
    injection this
  · obtain ⟨c', hrun, hc'⟩ := key g
    rw [hc] at hc'
    injection hc' with hc'
    injection hc' with _ hc'
    rw [hrun, hc']
theorem MemoAt.put (h : MemoAt w P k e b n V) (ht : P.underlying t = some (.map k e)) (hk : P.underlying k = some .string) (he : P.underlying e = some (.int .i64)) (hn : n < maxLen) (s : ByteArray) (hs : s.size ≤ maxLen) (hv : (Lit.int .i64 (V s)).wf = true) :
    ∃ w', (Instr.mapUpdate t (.map (some b)) (.string s) (.int .i64 (V s))).run P w = .ok () w' ∧ MemoAt w' P k e b (n + 1) V ∧ w.grownBy w' (some b) := by
  obtain ⟨D, h1, h2, h3⟩ := h
  obtain ⟨w', hrun, r1, r2⟩ := h1.update (string_keyed hk) ht hn (WideMaps.keyOf_string_mk hk hs) (plainElem_int he hv)
  refine ⟨w', hrun, ⟨_, r1, h2.put _ _, fun s' => ?_⟩, r2⟩
  by_cases hh : s' = s
  · subst hh
    rw [atKey_put_same h2 (by simp [WideAt.IsKeyLit])]
    intro _; rfl
  · rw [atKey_put_other (lit_ne hh), has_put_other (lit_ne hh)]
    exact h3 s'
end
/-- the store at the operation -/
theorem wpl_memoPut {P : Program} (w : World) {ops : Array Oper} {rest : List Oper} {o : Oper} {a : Act} {Q : Exit → Act → World → Prop}
    (hg : o.guard = none) (m x v : Operand) (t : TypeId) (hop : o.op = Op.mapUpdate t m x v)
    (k e : TypeId) (ht : P.underlying t = some (.map k e)) (hk : P.underlying k = some .string) (he : P.underlying e = some (.int .i64)) (b n : Nat) (V : ByteArray → Int)
    (hm : a.eval m = .map (some b)) (hown : MemoAt w P k e b n V) (hn : n < maxLen) (s : ByteArray) (hs : s.size ≤ maxLen) (hx : a.eval x = .string s) (hv : a.eval v = .int .i64 (V s)) (hw : (Lit.int .i64 (V s)).wf = true)
    (hK : ∀ w', MemoAt w' P k e b (n + 1) V → w.grownBy w' (some b) → wpList P ops Q rest (a.put o.dst undef) w') :
    wpList P ops Q (o :: rest) a w := by
  refine wpList_plain hg fun K' hK' => ?_
  obtain ⟨w', hrun, r1, r2⟩ := hown.put ht hk he hn s hs hw
  unfold Oper.wp
  simp [execOp, hop, hm, hx, hv, hrun, Result.andThen]
  exact hK' _ _ (hK w' r1 r2)
end Go.Proofs.Ytfggbcmpgkhlaaa

/-
  A map of texts to bools that a call makes and fills with true alone: what it holds is a list of texts. No condition but what stands at each.
-/
import Derived.Test.YtiagckbdofeecaaDoorMgA
import Derived.Maps.OwnOps
import Derived.Maps.OwnSet
namespace Go.Proofs.YtiagckbdofeecaaDoor
open Go.RowKit Go.Maps
/-- is the text one of these -/
def memB (S : List ByteArray) (s : ByteArray) : Bool := S.any fun x => decide (x.data.toList = s.data.toList)
theorem ba_ext {s t : ByteArray} (h : s.data.toList = t.data.toList) : s = t := by
  cases s; cases t
  simp at h
  rw [h]
theorem memB_iff {S : List ByteArray} {s : ByteArray} : memB S s = true ↔ s ∈ S := by
  simp only [memB, List.any_eq_true, decide_eq_true_eq]
  constructor
  · rintro ⟨x, hx, he⟩
    rwa [← ba_ext he]
  · intro h
    exact ⟨s, h, rfl⟩
/-- block b is a map of at most n texts, in which just the texts of S are true -/
def SetAt (w : World) (P : Program) (k e : TypeId) (b n : Nat) (S : List ByteArray) : Prop :=
  ∃ D : DataW Unit, w.ownsMap P k (plainElem P e) b n D ∧ IsMap D ∧ ∀ s : ByteArray, D.atKey (.string s.data.toList) (.lit (.bool false)) = .lit (.bool (memB S s))
section
variable {w w' : World} {P : Program} {k e t : TypeId} {b n : Nat} {S : List ByteArray}
theorem SetAt.made (w : World) (P : Program) (k e : TypeId) : SetAt (w.alloc (.map #[] 0)) P k e w.heap.size 0 [] :=
  ⟨.map [], World.ownsMap_made _ _ _ _, isMap_empty, fun _ => rfl⟩
theorem SetAt.lt (h : SetAt w P k e b n S) : b < w.heap.size := by obtain ⟨D, h, _⟩ := h; exact h.lt
theorem SetAt.kept {row : Option Nat} (h : SetAt w P k e b n S) (hg : w.grownBy w' row) (hne : some b ≠ row) : SetAt w' P k e b n S := by
  obtain ⟨D, h1, h2, h3⟩ := h
  exact ⟨D, h1.kept hg hne, h2, h3⟩
theorem SetAt.below (h : SetAt w P k e b n S) (hb : Below w.heap.size w w') : SetAt w' P k e b n S :=
  h.kept (row := none) (grown_up ⟨w', hb⟩ none) (by simp)
theorem SetAt.up (h : SetAt w P k e b n S) (g : Up w) : SetAt (Go.Proofs.YtiagckbdofeecaaDoor.up w g) P k e b n S := h.below g.below
theorem SetAt.mono (h : SetAt w P k e b n S) {n' : Nat} (hn : n ≤ n') : SetAt w P k e b n' S := by
  obtain ⟨D, h1, h2, h3⟩ := h
  exact ⟨D, h1.mono hn, h2, h3⟩
theorem plainElem_bool_inv {P : Program} {e : TypeId} (he : P.underlying e = some .bool) {v : Value} {z : DataW Unit × List MemPlace} (h : plainElem P e v = some z) : ∃ x, v = .bool x ∧ z = (.lit (.bool x), []) := by
  cases v <;> simp [plainElem, he] at h
  exact ⟨_, rfl, h.symm⟩
/-- the look-up's run, ahead of a walk -/
theorem SetAt.look (h : SetAt w P k e b n S) (ht : P.underlying t = some (.map k e)) (hk : P.underlying k = some .string) (he : P.underlying e = some .bool) (hz : (zeroValue e).run P w = .ok (.bool false) w)
    (s : ByteArray) (hs : s.size ≤ maxLen) : (Instr.lookup t (.map (some b)) (.string s) false).run P w = .ok (.bool (memB S s)) w := by
  obtain ⟨D, h1, h2, h3⟩ := h
  obtain ⟨v, ps, hrun, hv⟩ := h1.lookup (string_keyed hk) ht hz (plainElem_bool he false) (WideMaps.keyOf_string_mk hk hs)
  obtain ⟨x, rfl, hx⟩ := plainElem_bool_inv he hv
  have h4 := congrArg Prod.fst hx
  rw [hrun]
  have h5 := (h3 s).symm.trans h4
  injection h5 with h5
  injection h5 with h5
  rw [h5]
theorem lit_ne {s s' : ByteArray} (h : s' ≠ s) : (Lit.string s'.data.toList) ≠ Lit.string s.data.toList := by
  intro he
  injection he with he
  exact h (ba_ext he)
theorem SetAt.put (h : SetAt w P k e b n S) (ht : P.underlying t = some (.map k e)) (hk : P.underlying k = some .string) (he : P.underlying e = some .bool) (hn : n < maxLen) (s : ByteArray) (hs : s.size ≤ maxLen) :
    ∃ w', (Instr.mapUpdate t (.map (some b)) (.string s) (.bool true)).run P w = .ok () w' ∧ SetAt w' P k e b (n + 1) (s :: S) ∧ w.grownBy w' (some b) := by
  obtain ⟨D, h1, h2, h3⟩ := h
  obtain ⟨w', hrun, r1, r2⟩ := h1.update (string_keyed hk) ht hn (WideMaps.keyOf_string_mk hk hs) (plainElem_bool he true)
  refine ⟨w', hrun, ⟨_, r1, h2.put _ _, fun s' => ?_⟩, r2⟩
  by_cases hh : s' = s
  · subst hh
    rw [atKey_put_same h2 (by simp [WideAt.IsKeyLit])]
    simp [memB]
  · rw [atKey_put_other (lit_ne hh), h3]
    simp [memB]
    intro he
    exact absurd (ba_ext (congrArg Array.toList he)).symm hh
end
/-- the store at the operation -/
theorem wpl_setPut {P : Program} (w : World) {ops : Array Oper} {rest : List Oper} {o : Oper} {a : Act} {Q : Exit → Act → World → Prop}
    (hg : o.guard = none) (m x v : Operand) (t : TypeId) (hop : o.op = Op.mapUpdate t m x v)
    (k e : TypeId) (ht : P.underlying t = some (.map k e)) (hk : P.underlying k = some .string) (he : P.underlying e = some .bool) (b n : Nat) (S : List ByteArray)
    (hm : a.eval m = .map (some b)) (hown : SetAt w P k e b n S) (hn : n < maxLen) (s : ByteArray) (hs : s.size ≤ maxLen) (hx : a.eval x = .string s) (hv : a.eval v = .bool true)
    (hK : ∀ w', SetAt w' P k e b (n + 1) (s :: S) → w.grownBy w' (some b) → wpList P ops Q rest (a.put o.dst undef) w') :
    wpList P ops Q (o :: rest) a w := by
  refine wpList_plain hg fun K' hK' => ?_
  obtain ⟨w', hrun, r1, r2⟩ := hown.put ht hk he hn s hs
  unfold Oper.wp
  simp [execOp, hop, hm, hx, hv, hrun, Result.andThen]
  exact hK' _ _ (hK w' r1 r2)
end Go.Proofs.YtiagckbdofeecaaDoor

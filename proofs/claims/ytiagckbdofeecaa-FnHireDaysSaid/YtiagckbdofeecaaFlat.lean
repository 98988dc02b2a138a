/-
  Lists of elements of a fixed number of cells: plain facts. No condition.
-/
import Derived.Test.YtiagckbdofeecaaSlices
namespace Go.Proofs.Ytiagckbdofeecaa
open Go.RowKit
abbrev i64 (n : Int) : Value := .int .i64 n
theorem ret_bool {a b : Bool} (h : a = b) : Ending.returned (.bool a) = .returned (.bool b) := by rw [h]
theorem ret_int {k : IntKind} {a b : Int} (h : a = b) : Ending.returned (.int k a) = .returned (.int k b) := by rw [h]
section
variable {α : Type} {enc : α → List Value} {sz : Nat}
theorem flat_len (he : ∀ a, (enc a).length = sz) (l : List α) : (l.flatMap enc).length = l.length * sz := by
  induction l with
  | nil => simp
  | cons a l ih => simp [he, ih, Nat.add_mul]; omega
theorem flat_get (he : ∀ a, (enc a).length = sz) (l : List α) {k j : Nat} (hk : k < l.length) (hj : j < sz) : (l.flatMap enc)[k * sz + j]? = (enc l[k])[j]? := by
  induction l generalizing k with
  | nil => simp at hk
  | cons a l ih =>
    rw [List.flatMap_cons]
    cases k with
    | zero => simp [List.getElem?_append, he, hj]
    | succ k =>
      rw [List.getElem?_append_right (by rw [he, Nat.add_mul]; omega), he]
      have : (k + 1) * sz + j - sz = k * sz + j := by rw [Nat.add_mul]; omega
      rw [this, ih (by simpa using hk)]
      simp
theorem flat_ext (he : ∀ a, (enc a).length = sz) (l : List α) {ys : List Value} (hl : ys.length = l.length * sz) (h : ∀ k (hk : k < l.length) j, j < sz → ys[k * sz + j]? = (enc l[k])[j]?) : ys = l.flatMap enc := by
  apply List.ext_getElem?
  intro i
  by_cases hi : i < l.length * sz
  · have hsz : 0 < sz := by
      rcases Nat.eq_zero_or_pos sz with h0 | h0
      · subst h0; omega
      · exact h0
    have hk : i / sz < l.length := (Nat.div_lt_iff_lt_mul hsz).2 hi
    have hj : i % sz < sz := Nat.mod_lt _ hsz
    have hi' : i = i / sz * sz + i % sz := by rw [Nat.mul_comm]; exact (Nat.div_add_mod i sz).symm
    rw [hi', h _ hk _ hj, flat_get he l hk hj]
  · rw [List.getElem?_eq_none (by omega), List.getElem?_eq_none (by rw [flat_len he]; omega)]
/-- a list's cells, element by element, make a slice that reads as it -/
theorem rds_of_elems (he : ∀ a, (enc a).length = sz) {w : World} {b off : Nat} {l : List α} (hb : b < w.heap.size)
    (h : ∀ k (hk : k < l.length) j u, (enc l[k])[j]? = some u → w.cell? ⟨b, off + k * sz + j, none⟩ = some u) : Rds w sz (some ⟨b, off, none⟩) l.length (l.flatMap enc) := by
  refine ⟨flat_len he l, fun hn => ⟨b, off, rfl, hb, fun i u hu => ?_⟩⟩
  have hi : i < l.length * sz := by
    rcases Nat.lt_or_ge i (l.length * sz) with h | h
    · exact h
    · rw [List.getElem?_eq_none (by rw [flat_len he]; exact h)] at hu; cases hu
  have hsz : 0 < sz := by
    rcases Nat.eq_zero_or_pos sz with h0 | h0
    · subst h0; omega
    · exact h0
  have hk : i / sz < l.length := (Nat.div_lt_iff_lt_mul hsz).2 hi
  have hi' : i = i / sz * sz + i % sz := by rw [Nat.mul_comm]; exact (Nat.div_add_mod i sz).symm
  rw [hi', flat_get he l hk (Nat.mod_lt _ hsz)] at hu
  have := h (i / sz) hk (i % sz) u hu
  rw [Nat.add_assoc, ← hi'] at this
  exact this
/-- element k's cells -/
theorem rds_elem (he : ∀ a, (enc a).length = sz) {w : World} {A : Option Addr} {l : List α} (h : Rds w sz A l.length (l.flatMap enc)) {k : Nat} (hk : k < l.length) (hsz : 0 < sz) :
    ∃ b off, A = some ⟨b, off, none⟩ ∧ b < w.heap.size ∧ ∀ j u, (enc l[k])[j]? = some u → w.cell? ⟨b, off + k * sz + j, none⟩ = some u := by
  obtain ⟨b, off, e, hb, hc⟩ := h.at (Nat.mul_pos (by omega) hsz)
  refine ⟨b, off, e, hb, fun j u hu => Nat.add_assoc off (k * sz) j ▸ hc _ u ?_⟩
  have hj : j < sz := by
    rcases Nat.lt_or_ge j sz with h | h
    · exact h
    · rw [List.getElem?_eq_none (by rw [he]; exact h)] at hu; cases hu
  rw [flat_get he l hk hj]
  exact hu
end
/-- what is left of k where tot is taken off, -1 where that is too much -/
def szR (k : Int) (tot : Nat) : Int := if k < tot then -1 else k - tot
theorem szR_no {k : Int} {tot : Nat} (h : k < tot) : szR k tot = -1 := if_pos h
theorem szR_ok {k : Int} {tot : Nat} (h : ¬ k < tot) : szR k tot = k - tot := if_neg h
end Go.Proofs.Ytiagckbdofeecaa

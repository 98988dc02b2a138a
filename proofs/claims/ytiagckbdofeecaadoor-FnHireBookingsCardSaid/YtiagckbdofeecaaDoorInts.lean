/-
  Contracts of the laws' own functions on lists of numbers (equal, marked, held). No condition but the bounds that stand at each.
-/
import Derived.Test.YtiagckbdofeecaaDoorRows
import Derived.Test.YtiagckbdofeecaaDoorMgA
namespace Go.Proofs.YtiagckbdofeecaaDoor
open Go.RowKit
def ics (l : List Int) : List Value := l.map i64
theorem ics_len (l : List Int) : (ics l).length = l.length := by simp [ics]
theorem ics_get {l : List Int} {k : Nat} (h : k < l.length) : (ics l)[k]? = some (i64 l[k]) := by simp [ics, h]
theorem int_at {w : World} {A : Option Addr} {l : List Int} {n : Nat} (h : Rds w 1 A n (ics l)) (hn : n = l.length) {k : Nat} (hk : k < l.length) :
    ∃ b off, A = some ⟨b, off, none⟩ ∧ b < w.heap.size ∧ w.cell? ⟨b, off + k, none⟩ = some (i64 l[k]) := by
  obtain ⟨b, off, e, hb, hc⟩ := h.at (by omega)
  exact ⟨b, off, e, hb, hc k _ (ics_get hk)⟩
theorem ics_ext {ys : List Value} {l : List Int} (hl : ys.length = l.length) (h : ∀ i (hi : i < l.length), ys[i]? = some (i64 l[i])) : ys = ics l := by
  refine List.ext_getElem? fun i => ?_
  by_cases hi : i < l.length
  · rw [h i hi, ics_get hi]
  · rw [List.getElem?_eq_none (by omega), List.getElem?_eq_none (by rw [ics_len]; omega)]
/-- the numbers that mark n places, from number k on -/
def mi (k n : Nat) : List Int := (List.range n).map fun (i : Nat) => (k : Int) + i
theorem mi_len (k n : Nat) : (mi k n).length = n := by simp [mi]
theorem mi_get {k n i : Nat} (h : i < (mi k n).length) : (mi k n)[i] = (k : Int) + i := by simp [mi]
theorem set1_get {l : List Int} {ys : List Value} {k i n : Nat} (hys : ∀ i (hi : i < l.length), i < k → ys[i]? = some (i64 l[i])) (hlen : ys.length = n) (hi : i < l.length) (hik : i < k + 1) (hk : k < n) {x : Int}
    (he : ∀ (hk : k < l.length), l[k] = x) : (ys.set k (i64 x))[i]? = some (i64 l[i]) := by
  by_cases hik' : i = k
  · subst hik'
    rw [he hi, List.getElem?_set_self (by omega)]
  · rw [List.getElem?_set_ne (by omega)]
    exact hys i hi (by omega)
end Go.Proofs.YtiagckbdofeecaaDoor

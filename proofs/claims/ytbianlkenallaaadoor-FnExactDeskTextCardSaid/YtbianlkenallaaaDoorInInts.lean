/-
  A list of numbers that came in: what the form's reading gives the laws' walks.
-/
import Derived.Test.YtbianlkenallaaaDoorMgA
import Derived.OpenShut
import Derived.Lib.SmallJoins
import Derived.ChangeOld
import Derived.Deep.Slices
namespace Go.Proofs.YtbianlkenallaaaDoor
open Go.ChangeShapes Go.WideShapes Go.ChangeAt Go.RowKit Go.Joins Go.Deep
set_option linter.unusedVariables false
set_option maxRecDepth 10000
theorem open_i64 {W : World} {sp : Nat → Bool} {held : Bool} {H : Type} {enc : TypeId × Value → H} {fuel : Nat} {cs0 : List Value} {d : DataW H × List MemPlace}
    (hf : DataW.trod enc Tryd.prog W 0 sp held fuel 24 cs0 = some d) :
    ∃ (A : Option Addr) (c : Nat) (l : List Int), cs0 = [.slice A l.length c] ∧ Rds W 1 A l.length (ics l) ∧ l.length ≤ 9223372036854775807 ∧ l.length ≤ c := by
  rcases open_ints Tryd.underlying24 Tryd.underlying2 (by kernel_rfl) hf with ⟨rfl, _⟩ | ⟨x, n, c, zs, rfl, _, hl, hm, hz, _, hcell, _⟩
  · exact ⟨none, 0, [], rfl, Rds.empty _ _ _, by simp, by simp⟩
  · unfold maxLen at hm
    have hzn : n ≤ zs.length := by rw [hz]; split <;> omega
    have hlen : (zs.take n).length = n := by rw [List.length_take]; omega
    refine ⟨some x, c, zs.take n, by rw [hlen], ⟨by simp [ics], fun hn => ?_⟩, by omega, by omega⟩
    rw [hlen] at hn
    obtain ⟨b, off, spot⟩ := x
    have hc0 := hcell 0 (by omega)
    have hspot : spot = none := by simpa [Addr.add] using World.cell?_spot hc0
    subst hspot
    have hadd : ∀ j : Nat, (⟨b, off, none⟩ : Addr).add j = ⟨b, off + j, none⟩ := fun j => by unfold Addr.add; split <;> simp_all
    rw [hadd] at hc0
    refine ⟨b, off, rfl, World.block_lt_of_cell? W _ hc0, fun j u hu => ?_⟩
    have hj : j < n := by
      rcases Nat.lt_or_ge j n with h | h
      · exact h
      · rw [List.getElem?_eq_none (by rw [ics_len, hlen]; omega)] at hu
        cases hu
    rw [← hadd, hcell j (by omega)]
    simp [ics, hj, List.getElem?_eq_getElem (show j < zs.length by omega)] at hu
    rw [← hu]
    simp [List.getD, List.getElem?_eq_getElem (show j < zs.length by omega)]
theorem in_ints {W : World} {base : Nat} {held : Bool} {H : Type} {enc : TypeId × Value → H} {v : Value} {d : DataW H} {p : List MemPlace}
    (hv : Value.okWide Tryd.prog W .any base 24 v) (h : DataW.Trod enc Tryd.prog W 0 (fun _ => true) held 24 v d p) :
    ∃ (A : Option Addr) (c : Nat) (l : List Int), v = .slice A l.length c ∧ Rds W 1 A l.length (ics l) ∧ l.length ≤ 9223372036854775807 ∧ l.length ≤ c := by
  obtain ⟨A, n, c, rfl⟩ := okWide_slice Tryd.underlying24 hv
  obtain ⟨fuel, hf⟩ := h
  obtain ⟨A', c', l, hcs, r⟩ := open_i64 hf
  simp [Value.cells] at hcs
  obtain ⟨rfl, rfl, rfl⟩ := hcs
  exact ⟨A, c, l, rfl, r⟩
end Go.Proofs.YtbianlkenallaaaDoor

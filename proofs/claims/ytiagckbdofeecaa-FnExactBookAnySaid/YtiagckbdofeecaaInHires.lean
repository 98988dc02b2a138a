/-
  A list of hires that came in: what the form's reading gives the laws' walks.
-/
import Derived.Test.YtiagckbdofeecaaHires
import Derived.OpenShut
import Derived.Lib.SmallJoins
import Derived.ChangeOld
import Derived.Deep.Slices
import Derived.Deep.Fields
import Derived.Deep.Strs
namespace Go.Proofs.Ytiagckbdofeecaa
open Go.ChangeShapes Go.WideShapes Go.ChangeAt Go.RowKit Go.Joins Go.Deep
set_option linter.unusedVariables false
theorem add_lit (b off j : Nat) : (⟨b, off, none⟩ : Addr).add j = ⟨b, off + j, none⟩ := by unfold Addr.add; split <;> simp_all
def num : Option Value → Int
  | some (.int _ q) => q
  | _ => 0
theorem in_hires {W : World} {base : Nat} {held : Bool} {H : Type} {enc : TypeId × Value → H} {v : Value} {d : DataW H} {p : List MemPlace}
    (hv : Value.okWide Try.prog W .any base 22 v) (h : DataW.Trod enc Try.prog W 0 (fun _ => true) held 22 v d p) :
    ∃ (A : Option Addr) (c : Nat) (l : List Hire), v = .slice A l.length c ∧ Rds W 3 A l.length (hcs l) ∧ l.length ≤ 9223372036854775807 ∧ l.length ≤ c := by
  obtain ⟨A, n, c, rfl⟩ := okWide_slice Try.underlying22 hv
  obtain ⟨fuel, hf⟩ := h
  rcases open_slice Try.underlying22 hf with ⟨hcs, _⟩ | ⟨x, l, c', m, k, D, Pl, hcs, _, hl, hm, hmm, _, hi⟩
  · simp [Value.cells] at hcs
    obtain ⟨rfl, rfl, rfl⟩ := hcs
    exact ⟨none, 0, [], rfl, Rds.empty _ _ _, by simp, by simp⟩
  · simp [Value.cells] at hcs
    obtain ⟨rfl, rfl, rfl⟩ := hcs
    unfold maxLen at hm
    obtain ⟨b, off, spot⟩ := x
    have hC : Try.prog.cellsOf 45 = 3 := by kernel_rfl
    have hs : ∀ i, i < n → ∃ a b' c0 : Int, W.cell? ((⟨b, off, spot⟩ : Addr).add (i * 3)) = some (i64 a) ∧ W.cell? (((⟨b, off, spot⟩ : Addr).add (i * 3)).add 1) = some (i64 b') ∧ W.cell? (((⟨b, off, spot⟩ : Addr).add (i * 3)).add 2) = some (i64 c0) := by
      intro i hin
      obtain ⟨cs', hcs, ht⟩ := hi i (by rw [hmm]; simp; omega)
      rw [hC] at hcs
      obtain ⟨_, hcl, hat⟩ := World.cells?_some hcs
      have h0 := hat 0 (by omega)
      have h1 := hat 1 (by omega)
      have h2 := hat 2 (by omega)
      match cs', hcl with
      | [v0, v1, v2], _ =>
        obtain ⟨y0, y1, y2, k', _, _, t0, t1, t2⟩ := trod_struct3 Try.underlying45 ht
        have hc1 : Try.prog.cellsOf 2 = 1 := by kernel_rfl
        simp only [hc1, List.drop_zero, List.drop_succ_cons, List.take_succ_cons, List.take_zero] at t0 t1 t2
        obtain ⟨a0, e0, _, _⟩ := DataW.trod_int Try.underlying2 t0
        obtain ⟨a1, e1, _, _⟩ := DataW.trod_int Try.underlying2 t1
        obtain ⟨a2, e2, _, _⟩ := DataW.trod_int Try.underlying2 t2
        simp only [List.cons.injEq, and_true] at e0 e1 e2
        subst e0 e1 e2
        refine ⟨a0, a1, a2, ?_, h1, h2⟩
        have hz : (((⟨b, off, spot⟩ : Addr).add (i * 3)).add 0) = (⟨b, off, spot⟩ : Addr).add (i * 3) := by simp [Addr.add]
        rw [hz] at h0
        exact h0
    by_cases hn0 : n = 0
    · subst hn0
      exact ⟨_, c, [], rfl, Rds.empty _ _ _, by simp, by simp⟩
    · obtain ⟨q0, _, _, hq, _⟩ := hs 0 (by omega)
      have hspot : spot = none := by simpa [Addr.add] using World.cell?_spot hq
      subst hspot
      simp only [add_lit] at hs hq
      obtain ⟨l, rfl, hl'⟩ : ∃ l : List Hire, l.length = n ∧ ∀ i (hi : i < l.length), W.cell? ⟨b, off + i * 3, none⟩ = some (i64 l[i].m) ∧ W.cell? ⟨b, off + i * 3 + 1, none⟩ = some (i64 l[i].f) ∧ W.cell? ⟨b, off + i * 3 + 2, none⟩ = some (i64 l[i].t) := by
        refine ⟨(List.range n).map (fun i => ⟨num (W.cell? ⟨b, off + i * 3, none⟩), num (W.cell? ⟨b, off + i * 3 + 1, none⟩), num (W.cell? ⟨b, off + i * 3 + 2, none⟩)⟩), by simp, fun i hi => ?_⟩
        obtain ⟨a0, a1, a2, e0, e1, e2⟩ := hs i (by simpa using hi)
        simp [e0, e1, e2, num]
      refine ⟨_, c, l, rfl, rds_of_elems hcells_len (World.block_lt_of_cell? W _ hq) fun k hk j u hu => ?_, by omega, hl⟩
      obtain ⟨e0, e1, e2⟩ := hl' k hk
      match j, hu with
      | 0, hu => injection hu with hu; rw [← hu]; exact e0
      | 1, hu => injection hu with hu; rw [← hu]; exact e1
      | 2, hu => injection hu with hu; rw [← hu]; exact e2
end Go.Proofs.Ytiagckbdofeecaa

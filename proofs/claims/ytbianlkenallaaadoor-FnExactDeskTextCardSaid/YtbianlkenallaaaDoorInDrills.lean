/-
  Drills that came in: what the form's reading gives the laws' walks.
-/
import Derived.Test.YtbianlkenallaaaDoorMgA
import Derived.OpenShut
import Derived.Lib.SmallJoins
import Derived.ChangeOld
import Derived.Deep.Slices
import Derived.Deep.Fields
import Derived.Deep.Strs
namespace Go.Proofs.YtbianlkenallaaaDoor
open Go.ChangeShapes Go.WideShapes Go.ChangeAt Go.RowKit Go.Joins Go.Deep
set_option linter.unusedVariables false
set_option maxRecDepth 10000
theorem dr_addlit (b off j : Nat) : (⟨b, off, none⟩ : Addr).add j = ⟨b, off + j, none⟩ := by unfold Addr.add; split <;> simp_all
def dr_num : Option Value → Int
  | some (.int _ q) => q
  | _ => 0
def dr_str : Option Value → ByteArray
  | some (.string q) => q
  | _ => ByteArray.empty
theorem open_dr {W : World} {sp : Nat → Bool} {held : Bool} {H : Type} {enc : TypeId × Value → H} {fuel : Nat} {cs0 : List Value} {d : DataW H × List MemPlace}
    (hf : DataW.trod enc Tryd.prog W 0 sp held fuel 25 cs0 = some d) :
    ∃ (A : Option Addr) (c : Nat) (l : List Drill), cs0 = [.slice A l.length c] ∧ Rds W 3 A l.length (drcs l) ∧ l.length ≤ 9223372036854775807 ∧ l.length ≤ c ∧ (∀ h ∈ l, h.name.size ≤ 9223372036854775807 ∧ h.letters.size ≤ 9223372036854775807) := by
  rcases open_slice Tryd.underlying25 hf with ⟨rfl, _⟩ | ⟨x, n, c, m, k, D, Pl, rfl, _, hl, hm, hmm, _, hi⟩
  · exact ⟨none, 0, [], rfl, Rds.empty _ _ _, by simp, by simp, by simp⟩
  · unfold maxLen at hm
    obtain ⟨b, off, spot⟩ := x
    have hC : Tryd.prog.cellsOf 58 = 3 := by kernel_rfl
    have hs : ∀ i, i < n → ∃ (a0 : ByteArray) (a1 : ByteArray) (a2 : Int), W.cell? ((⟨b, off, spot⟩ : Addr).add (i * 3)) = some (.string a0) ∧ W.cell? (((⟨b, off, spot⟩ : Addr).add (i * 3)).add 1) = some (.string a1) ∧ W.cell? (((⟨b, off, spot⟩ : Addr).add (i * 3)).add 2) = some (i64 a2) ∧ a0.size ≤ 9223372036854775807 ∧ a1.size ≤ 9223372036854775807 := by
      intro i hin
      obtain ⟨cs', hcs, ht⟩ := hi i (by rw [hmm]; split <;> omega)
      rw [hC] at hcs
      obtain ⟨_, hcl, hat⟩ := World.cells?_some hcs
      have h0 := hat 0 (by omega)
      have h1 := hat 1 (by omega)
      have h2 := hat 2 (by omega)
      match cs', hcl with
      | [v0, v1, v2], _ =>
        obtain ⟨y0, y1, y2, k', _, _, t0, t1, t2⟩ := trod_struct3 Tryd.underlying58 ht
        have hc1 : Tryd.prog.cellsOf 2 = 1 := by kernel_rfl
        have hc2 : Tryd.prog.cellsOf 9 = 1 := by kernel_rfl
        simp only [hc1, hc2, List.drop_zero, List.drop_succ_cons, List.take_succ_cons, List.take_zero] at t0 t1 t2
        obtain ⟨a0, e0, _, z0⟩ := DataW.trod_string Tryd.underlying9 t0
        unfold maxLen at z0
        obtain ⟨a1, e1, _, z1⟩ := DataW.trod_string Tryd.underlying9 t1
        unfold maxLen at z1
        obtain ⟨a2, e2, _, _⟩ := DataW.trod_int Tryd.underlying2 t2
        simp only [List.cons.injEq, and_true] at e0 e1 e2
        subst e0 e1 e2
        refine ⟨a0, a1, a2, ?_, h1, h2, z0, z1⟩
        have hz : (((⟨b, off, spot⟩ : Addr).add (i * 3)).add 0) = ((⟨b, off, spot⟩ : Addr).add (i * 3)) := by simp [Addr.add]
        rw [hz] at h0
        exact h0
    by_cases hn0 : n = 0
    · subst hn0
      exact ⟨_, c, [], rfl, Rds.empty _ _ _, by simp, by simp, by simp⟩
    · obtain ⟨q0, q1, q2, hq, _⟩ := hs 0 (by omega)
      have hspot : spot = none := by simpa [Addr.add] using World.cell?_spot hq
      subst hspot
      simp only [dr_addlit] at hs hq
      obtain ⟨l, rfl, hl'⟩ : ∃ l : List Drill, l.length = n ∧ ∀ i (hi : i < l.length), W.cell? ⟨b, off + i * 3, none⟩ = some (.string l[i].name) ∧ W.cell? ⟨b, off + i * 3 + 1, none⟩ = some (.string l[i].letters) ∧ W.cell? ⟨b, off + i * 3 + 2, none⟩ = some (i64 l[i].minutes) ∧ l[i].name.size ≤ 9223372036854775807 ∧ l[i].letters.size ≤ 9223372036854775807 := by
        refine ⟨(List.range n).map (fun i => ⟨dr_str (W.cell? ⟨b, off + i * 3, none⟩), dr_str (W.cell? ⟨b, off + i * 3 + 1, none⟩), dr_num (W.cell? ⟨b, off + i * 3 + 2, none⟩)⟩), by simp, fun i hi => ?_⟩
        obtain ⟨a0, a1, a2, e0, e1, e2, z0, z1⟩ := hs i (by simpa using hi)
        simp [e0, e1, e2, dr_num, dr_str]
        exact ⟨z0, z1⟩
      refine ⟨_, c, l, rfl, rds_of_elems dr_clen (World.block_lt_of_cell? W _ hq) fun k hk j u hu => ?_, by omega, hl, fun h hh => ?_⟩
      · obtain ⟨e0, e1, e2, _, _⟩ := hl' k hk
        match j, hu with
        | 0, hu => injection hu with hu; rw [← hu]; exact e0
        | 1, hu => injection hu with hu; rw [← hu]; exact e1
        | 2, hu => injection hu with hu; rw [← hu]; exact e2
      · obtain ⟨i, hi, rfl⟩ := List.getElem_of_mem hh
        have := hl' i hi
        exact ⟨this.2.2.2.1, this.2.2.2.2⟩
theorem in_dr {W : World} {base : Nat} {held : Bool} {H : Type} {enc : TypeId × Value → H} {v : Value} {d : DataW H} {p : List MemPlace}
    (hv : Value.okWide Tryd.prog W .any base 25 v) (h : DataW.Trod enc Tryd.prog W 0 (fun _ => true) held 25 v d p) :
    ∃ (A : Option Addr) (c : Nat) (l : List Drill), v = .slice A l.length c ∧ Rds W 3 A l.length (drcs l) ∧ l.length ≤ 9223372036854775807 ∧ l.length ≤ c ∧ (∀ h ∈ l, h.name.size ≤ 9223372036854775807 ∧ h.letters.size ≤ 9223372036854775807) := by
  obtain ⟨A, n, c, rfl⟩ := okWide_slice Tryd.underlying25 hv
  obtain ⟨fuel, hf⟩ := h
  obtain ⟨A', c', l, hcs, r⟩ := open_dr hf
  simp [Value.cells] at hcs
  obtain ⟨rfl, rfl, rfl⟩ := hcs
  exact ⟨A, c, l, rfl, r⟩
end Go.Proofs.YtbianlkenallaaaDoor

/-
  Breaks that came in: what the form's reading gives the laws' walks.
-/
import Derived.Test.YtiibpldfnnhhlaaBreaks
import Derived.OpenShut
import Derived.Lib.SmallJoins
import Derived.ChangeOld
import Derived.Deep.Slices
import Derived.Deep.Fields
import Derived.Deep.Strs
namespace Go.Proofs.Ytiibpldfnnhhlaa
open Go.ChangeShapes Go.WideShapes Go.ChangeAt Go.RowKit Go.Joins Go.Deep
set_option linter.unusedVariables false
set_option maxRecDepth 10000
theorem bk_addlit (b off j : Nat) : (⟨b, off, none⟩ : Addr).add j = ⟨b, off + j, none⟩ := by unfold Addr.add; split <;> simp_all
def bk_num : Option Value → Int
  | some (.int _ q) => q
  | _ => 0
def bk_str : Option Value → ByteArray
  | some (.string q) => q
  | _ => ByteArray.empty
theorem open_bk {W : World} {sp : Nat → Bool} {held : Bool} {H : Type} {enc : TypeId × Value → H} {fuel : Nat} {cs0 : List Value} {d : DataW H × List MemPlace}
    (hf : DataW.trod enc Try.prog W 0 sp held fuel 69 cs0 = some d) :
    ∃ (A : Option Addr) (c : Nat) (l : List Brk), cs0 = [.slice A l.length c] ∧ Rds W 2 A l.length (bkcs l) ∧ l.length ≤ 9223372036854775807 ∧ l.length ≤ c := by
  rcases open_slice Try.underlying69 hf with ⟨rfl, _⟩ | ⟨x, n, c, m, k, D, Pl, rfl, _, hl, hm, hmm, _, hi⟩
  · exact ⟨none, 0, [], rfl, Rds.empty _ _ _, by simp, by simp⟩
  · unfold maxLen at hm
    obtain ⟨b, off, spot⟩ := x
    have hC : Try.prog.cellsOf 124 = 2 := by kernel_rfl
    have hs : ∀ i, i < n → ∃ (a0 : Int) (a1 : Int), W.cell? ((⟨b, off, spot⟩ : Addr).add (i * 2)) = some (i64 a0) ∧ W.cell? (((⟨b, off, spot⟩ : Addr).add (i * 2)).add 1) = some (i64 a1) := by
      intro i hin
      obtain ⟨cs', hcs, ht⟩ := hi i (by rw [hmm]; split <;> omega)
      rw [hC] at hcs
      obtain ⟨_, hcl, hat⟩ := World.cells?_some hcs
      have h0 := hat 0 (by omega)
      have h1 := hat 1 (by omega)
      match cs', hcl with
      | [v0, v1], _ =>
        obtain ⟨y0, y1, k', _, _, t0, t1⟩ := trod_struct2 Try.underlying124 ht
        have hc1 : Try.prog.cellsOf 2 = 1 := by kernel_rfl
        simp only [hc1, List.drop_zero, List.drop_succ_cons, List.take_succ_cons, List.take_zero] at t0 t1
        obtain ⟨a0, e0, _, _⟩ := DataW.trod_int Try.underlying2 t0
        obtain ⟨a1, e1, _, _⟩ := DataW.trod_int Try.underlying2 t1
        simp only [List.cons.injEq, and_true] at e0 e1
        subst e0 e1
        refine ⟨a0, a1, ?_, h1⟩
        have hz : (((⟨b, off, spot⟩ : Addr).add (i * 2)).add 0) = ((⟨b, off, spot⟩ : Addr).add (i * 2)) := by simp [Addr.add]
        rw [hz] at h0
        exact h0
    by_cases hn0 : n = 0
    · subst hn0
      exact ⟨_, c, [], rfl, Rds.empty _ _ _, by simp, by simp⟩
    · obtain ⟨q0, q1, hq, _⟩ := hs 0 (by omega)
      have hspot : spot = none := by simpa [Addr.add] using World.cell?_spot hq
      subst hspot
      simp only [bk_addlit] at hs hq
      obtain ⟨l, rfl, hl'⟩ : ∃ l : List Brk, l.length = n ∧ ∀ i (hi : i < l.length), W.cell? ⟨b, off + i * 2, none⟩ = some (i64 l[i].fr) ∧ W.cell? ⟨b, off + i * 2 + 1, none⟩ = some (i64 l[i].pr) := by
        refine ⟨(List.range n).map (fun i => ⟨bk_num (W.cell? ⟨b, off + i * 2, none⟩), bk_num (W.cell? ⟨b, off + i * 2 + 1, none⟩)⟩), by simp, fun i hi => ?_⟩
        obtain ⟨a0, a1, e0, e1⟩ := hs i (by simpa using hi)
        simp [e0, e1, bk_num]
      refine ⟨_, c, l, rfl, rds_of_elems bk_clen (World.block_lt_of_cell? W _ hq) fun k hk j u hu => ?_, by omega, hl⟩
      obtain ⟨e0, e1⟩ := hl' k hk
      match j, hu with
      | 0, hu => injection hu with hu; rw [← hu]; exact e0
      | 1, hu => injection hu with hu; rw [← hu]; exact e1
theorem in_bk {W : World} {base : Nat} {held : Bool} {H : Type} {enc : TypeId × Value → H} {v : Value} {d : DataW H} {p : List MemPlace}
    (hv : Value.okWide Try.prog W .any base 69 v) (h : DataW.Trod enc Try.prog W 0 (fun _ => true) held 69 v d p) :
    ∃ (A : Option Addr) (c : Nat) (l : List Brk), v = .slice A l.length c ∧ Rds W 2 A l.length (bkcs l) ∧ l.length ≤ 9223372036854775807 ∧ l.length ≤ c := by
  obtain ⟨A, n, c, rfl⟩ := okWide_slice Try.underlying69 hv
  obtain ⟨fuel, hf⟩ := h
  obtain ⟨A', c', l, hcs, r⟩ := open_bk hf
  simp [Value.cells] at hcs
  obtain ⟨rfl, rfl, rfl⟩ := hcs
  exact ⟨A, c, l, rfl, r⟩
end Go.Proofs.Ytiibpldfnnhhlaa

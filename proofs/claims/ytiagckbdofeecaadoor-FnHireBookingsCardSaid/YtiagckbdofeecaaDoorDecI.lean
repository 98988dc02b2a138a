/-
  The program's Decimal writes what strconv writes: 'dec n'. Premise on the world: the laid table of powers of ten.
-/
import Derived.Test.YtiagckbdofeecaaDoorDecP
import Derived.Test.YtiagckbdofeecaaDoorMgA
import Derived.Test.YtiagckbdofeecaaDoorShelf
namespace Go.Proofs.YtiagckbdofeecaaDoor
open Go.RowKit
/-- the laid table -/
def Tab (w : World) : Prop := Lib.TabIs Tryd.prog w "internal/strconv.uint64pow10" .u64 Lib.pow10Tab
theorem Tab.below {w w' : World} (h : Tab w) (hb : Below w.heap.size w w') : Tab w' := by
  unfold Tab Lib.TabIs World.var? at *
  generalize Tryd.prog.globalNamed "internal/strconv.uint64pow10" = o at *
  cases o with
  | none => cases h
  | some g =>
    simp only [Option.bind_some] at h ⊢
    have hlt : g < w.heap.size := by
      rcases Nat.lt_or_ge g w.heap.size with h' | h'
      · exact h'
      · rw [Array.getElem?_eq_none h'] at h; cases h
    rw [hb.block g hlt]
    exact h
theorem below_grow (w : World) (k : Nat) (os : Array Obj) : Below w.heap.size w (Sort.grow (w.drewN k) os) :=
  ⟨rfl, rfl, rfl, by simp [Sort.grow, World.drewN], fun i hi => by
    simp [Sort.grow, World.drewN]
    rw [Array.getElem?_append_left (by simpa using hi)]⟩
theorem decI_any (n : Int) (w : World) (h0 : -9223372036854775808 ≤ n) (h1 : n ≤ 9223372036854775807) (ht : Tab w) :
    Calls Tryd.prog 36 #[i64 n] w fun e w' => e = .returned (.string (dec n)) ∧ UpOf w w' := by
  go_enter Tryd.func36, Tryd.ntmps36
  go_wp2_with fail
  refine (Tryd.strconv_FormatInt_10 n h0 h1 _ ht).mono ?_
  rintro e w' ⟨rfl, k, os, rfl⟩
  go_wp2_with fail
  go_ret
  exact ⟨rfl, UpOf.of (below_grow w k os)⟩
end Go.Proofs.YtiagckbdofeecaaDoor

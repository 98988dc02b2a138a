/-
  The texts that the laws' marks are: the law's own markText. The bounds stand at it.
-/
import Derived.Test.YtiibpldfnnhhlaaDoorRows
import Derived.Test.YtiibpldfnnhhlaaDoorMgA
namespace Go.Proofs.YtiibpldfnnhhlaaDoor
open Go.RowKit
/-- the letters of a mark's number, before those that are there -/
def mtGo : Nat → Int → ByteArray → ByteArray
  | 0, _, s => s
  | f + 1, n, s => if 0 < n then mtGo f (n / 10) (⟨#[UInt8.ofNat (48 + n % 10).toNat]⟩ ++ s) else s
def mt (k : Int) : ByteArray := if k ≤ 0 then ⟨#[109, 48]⟩ else ⟨#[109]⟩ ++ mtGo 9 k ⟨#[]⟩
def pow10 : Nat → Int
  | 0 => 1
  | f + 1 => 10 * pow10 f
theorem pow10_pos (f : Nat) : 1 ≤ pow10 f := by induction f with
  | zero => simp [pow10]
  | succ f ih => simp only [pow10]; omega

theorem mtGo_end {f : Nat} {n : Int} {s : ByteArray} (h : ¬ 0 < n) : mtGo f n s = s := by
  cases f with
  | zero => rfl
  | succ f => rw [mtGo, if_neg h]
end Go.Proofs.YtiibpldfnnhhlaaDoor

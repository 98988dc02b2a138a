/-
  The reference's console: whether a form fits, and the words of a text. The bounds stand at each.
-/
import Derived.Test.YtbianlkenallaaaGreatDoorConsR0
set_option linter.all false
set_option maxHeartbeats 4000000
set_option maxRecDepth 10000
namespace Go.Proofs.YtbianlkenallaaaGreatDoor
open Go.RowKit
theorem l28Fits_any (k n : Nat) (hk : k < 14) (hn : n ≤ 2000000) (w : World) : Calls Tryz.prog 98 #[.string (formK k), i64 n] w fun e w' => e = .returned (.bool (fitK k (n + 1))) ∧ w = w' := by
 have h14 : k = 0 ∨ k = 1 ∨ k = 2 ∨ k = 3 ∨ k = 4 ∨ k = 5 ∨ k = 6 ∨ k = 7 ∨ k = 8 ∨ k = 9 ∨ k = 10 ∨ k = 11 ∨ k = 12 ∨ k = 13 := by omega
 clear hk
 obtain ⟨B, hB⟩ : ∃ B, fitK k (n + 1) = B := ⟨_, rfl⟩
 obtain ⟨F, hF⟩ : ∃ F, formK k = F := ⟨_, rfl⟩
 rw [hB, hF]
 have HB := hd_ hB
 have HN := hd_ hn
 clear hB hn
 rcases h14 with rfl | rfl | rfl | rfl | rfl | rfl | rfl | rfl | rfl | rfl | rfl | rfl | rfl | rfl
 all_goals
  simp [formK] at hF
  subst hF
  go_enter Tryz.func98, Tryz.ntmps98
  go_wp2_with fail
  all_goals go_ret
  all_goals first
   | (exfalso; rename_i h9; exact absurd h9 (by decide))
   | (exfalso; rename_i h9 h8; exact absurd h9 (by decide))
   | (refine ⟨?_, rfl⟩; rw [← HB.out]; simp [fitK]; done)
   | (refine ⟨?_, rfl⟩; rw [← HB.out]; simp [fitK]; omega)
   | (refine ⟨?_, rfl⟩; rw [← HB.out]; simp [fitK]; rw [Bool.eq_iff_iff]; simp; done)
   | (refine ⟨?_, rfl⟩; rw [← HB.out]; simp [fitK]; rw [Bool.eq_iff_iff]; simp; omega)
end Go.Proofs.YtbianlkenallaaaGreatDoor

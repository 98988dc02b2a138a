/-
  The law on RunDesk: its walk. Premise on the world: the laid table.
-/
import Derived.Test.YtbianlkenallaaaGreatDoorMgL
import Derived.Test.YtbianlkenallaaaGreatDoorMgK
set_option linter.all false
set_option maxRecDepth 10000
namespace Go.Proofs.YtbianlkenallaaaGreatDoor
open Go.RowKit
theorem law_runDesk (s : ByteArray) (w : World) (hn : s.size ≤ 9223372036854775807) (ht : Tab w) :
 Calls Tryz.prog 4 #[.string s] w fun e w' => e = .returned (.bool true) ∧ UpOf w w' := by
 by_cases hl : (1048576 : Int) < (s.size : Int)
 ·go_enter Tryz.func4, Tryz.ntmps4
  go_wp2_with fail
  go_ret
  exact ⟨rfl, uw_⟩
 ·obtain ⟨two, h2⟩ := two_ex
  have HT := hd_ ht
  obtain ⟨R, hR⟩ : ∃ R, runR two s = R := ⟨_, rfl⟩
  have HS := hd_ (fun V => runDeskS_any h2 (k0 two) (k9 two) s V (by omega))
  have HI := hd_ (fun V hV => runDesk_any h2 s V (by omega) hV)
  rw [hR] at HS HI
  have htest : (!(R.toList == R.toList)) = false := by simp
  clear ht hR
  go_enter Tryz.func4, Tryz.ntmps4
  go_wp2_with fail
  refine (HS.out _).mono ?_
  rintro r w' ⟨rfl, g1, rfl⟩
  go_wp2_with fail
  refine (HI.out _ (HT.out.below bw_)).mono ?_
  rintro r w' ⟨rfl, g2, rfl⟩
  go_wp2_with fail
  go_ret
  exact ⟨rfl, uw_⟩
end Go.Proofs.YtbianlkenallaaaGreatDoor

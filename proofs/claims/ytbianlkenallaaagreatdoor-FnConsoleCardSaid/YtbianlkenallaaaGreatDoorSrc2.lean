/-
  The reference's source of choices: a number or a text out of a list. The bounds stand at each.
-/
import Derived.Test.YtbianlkenallaaaGreatDoorSrc
import Derived.Test.YtbianlkenallaaaGreatDoorMgA
set_option linter.all false
namespace Go.Proofs.YtbianlkenallaaaGreatDoor
open Go.RowKit
def OfPost (w : World) (b : Nat) (A : Option Addr) (n c k : Nat) (P : Value → Prop) (e : Ending) (w' : World) : Prop :=
  ∃ (v : Value) (k' : Nat), e = .returned v ∧ P v ∧ k' ≤ k + 2 ∧ SrcAt w' b A n c k' ∧ w.grownBy w' (some b)
set_option maxRecDepth 10000 in
theorem text_any (b : Nat) (A : Option Addr) (n c k : Nat) (B : Option Addr) (d : Nat) (l : List ByteArray) (w : World) (h : SrcAt w b A n c k) (hb : Byt w b A n) (hk : k ≤ 900000) (hn : n ≤ 1000000)
    (hl : Rds w 1 B l.length (strs l)) (h1 : 1 ≤ l.length) (h2 : l.length ≤ 1000) (hne : ∀ b' off, B = some ⟨b', off, none⟩ → b' ≠ b) :
    Calls Tryz.prog 64 #[.pointer (some ⟨b, 0, none⟩), .slice B l.length d] w (OfPost w b A n c k (fun v => ∃ x ∈ l, v = .string x)) := by
  obtain ⟨bb, off, rfl, hbb, hcc⟩ := str_at hl (i := 0) (by omega)
  have hne' := hne bb off rfl
  clear hne
  go_enter Tryz.func64, Tryz.ntmps64
  go_wp2_with fail
  refine (pick_any b A n c k (l.length : Int) _ h hb hk hn (by omega)).mono ?_
  rintro e w1 ⟨x, k', rfl, x0, x1, hk', hs, hg⟩
  obtain ⟨y, rfl⟩ : ∃ y : Nat, x = (y : Int) := ⟨x.toNat, by omega⟩
  have hy : y < l.length := by omega
  have hy' : (y : Int) < (l.length : Int) := by omega
  have c0 : w1.cell? ⟨bb, off + y, none⟩ = some (.string (l.getD y ByteArray.empty)) := (hg.cell_far ⟨bb, off + y, none⟩ hbb (fun e => hne' (by injection e))).trans (hcc y hy)
  have hget : l.getD y ByteArray.empty = l[y] := by simp [hy]
  rw [hget] at c0
  clear hcc hget x1
  go_wp2_with fail
  go_ret
  exact ⟨_, k', rfl, ⟨l[y], List.getElem_mem hy, rfl⟩, hk', hs, hg⟩
end Go.Proofs.YtbianlkenallaaaGreatDoor

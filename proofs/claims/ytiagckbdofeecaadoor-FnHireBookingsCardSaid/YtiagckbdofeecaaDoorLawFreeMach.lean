/-
  The law on FreeMachines: its walk.
-/
import Derived.Test.YtiagckbdofeecaaDoorFreeMach
namespace Go.Proofs.YtiagckbdofeecaaDoor
open Go.RowKit
theorem fmR_len {l : List Hire} {n f t : Int} {L : List Int} {cd : Int} (h : fmR l n f t = (L, cd)) : L.length ≤ 20 := by
  unfold fmR at h
  split at h
  · rename_i h1
    have := vHires_nn h1
    split at h
    · injection h with h _
      have := fL_len l f t n.toNat
      rw [← h]
      omega
    · injection h with h _
      rw [← h]
      simp
  · injection h with h _
    rw [← h]
    simp
theorem freeMachI' {l : List Hire} {n f t : Int} {L : List Int} {cd : Int} (hL : fmR l n f t = (L, cd)) (A : Option Addr) (c : Nat) (w : World) (h : Rds w 3 A l.length (hcs l)) (hn : l.length ≤ 100000000) (hcap : l.length ≤ c) :
    Calls Tryd.prog 16 #[.slice A l.length c, i64 n, i64 f, i64 t] w fun e w' => ∃ A' c', e = .returned (.tuple #[.slice A' L.length c', i64 cd]) ∧ w'.ownsRow w.heap.size 2 1 (.slice A' L.length c') L.length (ics L) ∧ UpOf w w' := by
  have := freeMachI_any A c l n f t w h hn hcap
  rw [hL] at this
  exact this
theorem freeMachS' {l : List Hire} {n f t : Int} {L : List Int} {cd : Int} (hL : fmR l n f t = (L, cd)) (A : Option Addr) (c : Nat) (w : World) (h : Rds w 3 A l.length (hcs l)) (hn : l.length ≤ 100000000) :
    Calls Tryd.prog 17 #[.slice A l.length c, i64 n, i64 f, i64 t] w fun e w' => ∃ A' c', e = .returned (.tuple #[.slice A' L.length c', i64 cd]) ∧ w'.ownsRow w.heap.size 2 1 (.slice A' L.length c') L.length (ics L) ∧ UpOf w w' := by
  have := freeMachS_any A c l n f t w h hn
  rw [hL] at this
  exact this
end Go.Proofs.YtiagckbdofeecaaDoor

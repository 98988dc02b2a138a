/-
  Lists of numbers: contracts of the laws' own copy of them, and what the form's reading of one gives. The bounds stand at each.
-/
import Derived.Test.YtbianlkenallaaaDoorMgA
import Derived.OpenShut
import Derived.Lib.SmallJoins
import Derived.ChangeOld
import Derived.Deep.Slices
namespace Go.Proofs.YtbianlkenallaaaDoor
open Go.RowKit
set_option maxRecDepth 10000 in
theorem toInt64S_any (A : Option Addr) (c : Nat) (l : List Int) (w : World) (h : Rds w 1 A l.length (ics l)) (hn : l.length ≤ 100000000) :
    Calls Tryd.prog 16 #[.slice A l.length c] w fun e w' => ∃ b : Nat, e = .returned (.slice (some ⟨b, 0, none⟩) l.length l.length) ∧ w'.ownsRow w.heap.size 2 1 (.slice (some ⟨b, 0, none⟩) l.length l.length) l.length (ics l) ∧ UpOf w w' := by
  have hi : (Tryd.prog.info? 2).map (fun i => (i.zero, i.size, i.bytes)) = some (some (i64 0), 1, 8) := by kernel_rfl
  obtain ⟨i0, hi, hz0, hz1, hz2⟩ := info_parts hi
  have hmk : ∀ u : World, (Instr.makeSlice 24 (i64 l.length) (i64 l.length)).run Tryd.prog u = .ok (.slice (some ⟨u.heap.size, 0, none⟩) l.length l.length) (u.alloc (.cells (madeCells #[i64 0] (l.length * 1)) 2)) := fun u => by
    have h := run_make (P := Tryd.prog) u 24 2 i0 _ Tryd.underlying24 hi hz0 .i64 .i64 l.length l.length (by omega) (Int.le_refl _) (by rw [hz2]; omega) (by omega)
    simpa [hz1, Value.cells] using h
  clear hi hz0 hz1 hz2
  go_enter Tryd.func16, Tryd.ntmps16
  go_wp2_with (first | ((with_reducible refine wp_region_up (by kernel_rfl) (by kernel_rfl) ?_); (repeat (go_big_quiet_step (fail))); refine wpQuiet_nil ?_; intro _ hw'; obtain ⟨nq, hw''⟩ := hw'; subst hw''))
  go_loopw [4] (fun i wr => ∃ k : Nat, k ≤ l.length ∧ i = i64 k ∧ ∃ ys, wr.ownsRow w.heap.size 2 1 (.slice (some ⟨w.heap.size, 0, none⟩) l.length l.length) l.length ys ∧
      (∀ i (hi : i < l.length), i < k → ys[i]? = some (i64 l[i])) ∧ Below w.heap.size w wr) (fun i _ => l.length - (intOf i).toNat)
  case atStart =>
    refine ⟨0, by omega, rfl, _, World.ownsRow_lit w _ l.length (Nat.le_refl _) (by unfold maxLen; omega) (by first | exact size_madeCells _ _ | (rw [size_madeCells]; simp)), fun i hi h0 => by omega, (Below.refl _ _).alloc (Nat.le_refl _) _⟩
  case round =>
    obtain ⟨k, hk, rfl, ys, hown, hys, hbel⟩ := hrel
    by_cases hlt : k < l.length
    · obtain ⟨b, off, rfl, hb, c0⟩ := int_at (h.below hbel) rfl hlt
      have hwl := (own_block hown rfl).2.1
      have hlen := hown.1
      have d0 := hown.cellAt k (by omega)
      rw [List.getElem?_eq_getElem (by omega)] at d0
      have f0 := fun i => hown.frozenAt i
      have HY := Lib.hid hys
      clear hys h
      go_wp2_with (first | ((with_reducible refine wp_region_up (by kernel_rfl) (by kernel_rfl) ?_); (repeat (go_big_quiet_step (fail))); refine wpQuiet_nil ?_; intro _ hw'; obtain ⟨nq, hw''⟩ := hw'; subst hw''))
      all_goals go_roundw
      all_goals first
        | (case measure => (simp [intOf]; try omega))
        | (go_light
           have s1 := hown.stored k (i64 l[k])
           exact ⟨k + 1, by omega, by go_num, _, s1.1, fun i hi hik => set1_get HY.out (by omega) hi hik hlt (fun _ => rfl), hbel.setCell (Nat.le_refl _) _⟩)
        | (go_light
           have s1 := (own_up hown nq).stored k (i64 l[k])
           exact ⟨k + 1, by omega, by go_num, _, s1.1, fun i hi hik => set1_get HY.out (by omega) hi hik hlt (fun _ => rfl), (hbel.trans (nq.below.mono hbel.size)).setCell (Nat.le_refl _) _⟩)
    · go_wp2_with (first | ((with_reducible refine wp_region_up (by kernel_rfl) (by kernel_rfl) ?_); (repeat (go_big_quiet_step (fail))); refine wpQuiet_nil ?_; intro _ hw'; obtain ⟨nq, hw''⟩ := hw'; subst hw''))
      go_ret
      obtain rfl : k = l.length := by omega
      have hy : ys = ics l := ics_ext (by have := hown.1; omega) (fun i hi => hys i hi hi)
      rw [hy] at hown
      exact ⟨_, rfl, hown, UpOf.of hbel⟩
end Go.Proofs.YtbianlkenallaaaDoor

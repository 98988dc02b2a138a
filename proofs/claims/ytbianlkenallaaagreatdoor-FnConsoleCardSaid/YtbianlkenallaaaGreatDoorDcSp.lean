/-
  DeskCommand of the program: the rest of a line behind its first words. The bounds stand at each.
-/
import Derived.Test.YtbianlkenallaaaGreatDoorDcNP
set_option linter.all false
namespace Go.Proofs.YtbianlkenallaaaGreatDoor
open Go.RowKit
theorem spl_rest {W : List ByteArray} {l : List UInt8} {m : Nat} (hW : splitA 32 [] l = W) (hm : m < W.length) : spl m l = W.take m ++ [restW W m] := by
  rw [spl_split, hW, if_pos hm]; rfl
theorem restW_size {W : List ByteArray} {l : List UInt8} {m : Nat} (hW : splitA 32 [] l = W) (hm : m < W.length) : (restW W m).size ≤ l.length := by
  refine spl_size m l _ ?_
  rw [spl_rest hW hm]
  exact List.mem_append_right _ (List.mem_singleton.2 rfl)
theorem vDesk_n {d : DeskD} (h : vDesk d = true) : d.drills.length ≤ 10 := by
  have := (vDesk_inv h).2.2.1
  rw [vDrills, Bool.and_eq_true, decide_eq_true_eq] at this
  exact this.1
theorem splRest_any {s : ByteArray} {W : List ByteArray} {m : Nat} (hs : s.size ≤ 1048576) (hW : splitA 32 [] s.data.toList = W) (hm : m < W.length) (hm2 : m ≤ 1000) (V : World) :
    Calls Tryz.prog 27 #[.string s, .int .i64 ((m : Int) + 1)] V fun e w' => ∃ b n, e = .returned (.slice (some ⟨b, 0, none⟩) (m + 1) n) ∧ w'.cell? ⟨b, m, none⟩ = some (.string (restW W m)) ∧ UpOf V w' := by
  refine (splitAt_any s m V (by omega) (by omega)).mono ?_
  rintro e w' ⟨A, c, rfl, ow, g, rfl⟩
  have hl : (W.take m).length = m := by rw [List.length_take]; omega
  rw [spl_rest hW hm] at ow ⊢
  have hL : (W.take m ++ [restW W m]).length = m + 1 := by rw [List.length_append, hl]; rfl
  obtain ⟨b, rfl⟩ := own_some ow (by rw [hL]; omega)
  obtain ⟨b9, o9, e9, _, hc9⟩ := wd_at (Rds.of_own ow) (i := m) (by rw [hL]; omega)
  injection e9 with e9
  injection e9 with e91 e92 e93
  subst e91 e92
  have h9 := hc9 m (by rw [hL]; omega)
  rw [Nat.zero_add, wd, List.getD_eq_getElem?_getD, List.getElem?_append_right (by omega), hl, Nat.sub_self] at h9
  exact ⟨b, c, by rw [hL], h9, g, rfl⟩
end Go.Proofs.YtbianlkenallaaaGreatDoor

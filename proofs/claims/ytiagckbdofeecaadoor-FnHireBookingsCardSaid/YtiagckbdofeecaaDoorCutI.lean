/-
  The program's cut at one byte. The bound stands at it.
-/
import Derived.Test.YtiagckbdofeecaaDoorNumL
import Derived.Test.YtiagckbdofeecaaDoorSplitS
import Derived.Test.YtiagckbdofeecaaDoorRows
namespace Go.Proofs.YtiagckbdofeecaaDoor
open Go.RowKit
theorem tl_teq {a b : ByteArray} (h : a = b) : (a.toList == b.toList) = true := by subst h; simp
theorem tl_tne {a b : ByteArray} (h : ¬ a = b) : (a.toList == b.toList) = false := by
  have := tl_ne h
  simpa using this
theorem one_byte (s : ByteArray) {L : List UInt8} (hL : s.data.toList = L) {k : Nat} (hk : k < L.length) : s.extract k (k + 1) = bs [L.getD k 0] := by
  rw [bs_extract, hL, drop_at hk, show k + 1 - k = 1 by omega]; rfl
set_option maxRecDepth 10000 in
set_option maxHeartbeats 1000000 in
theorem cut_any (s t : ByteArray) (b : UInt8) (ht : t = ⟨#[b]⟩) (w : World) (hs : s.size ≤ 1000000000) :
    Calls Tryd.prog 39 #[.string s, .string t] w fun e w' => e = .returned (.tuple #[.string (cutA b [] s.data.toList).1, .string (cutA b [] s.data.toList).2.1, .bool (cutA b [] s.data.toList).2.2]) ∧ UpOf w w' := by
  have hts : t.size = 1 := by rw [ht]; rfl
  have htb : t = bs [b] := ht
  obtain ⟨L, hL⟩ : ∃ L, s.data.toList = L := ⟨_, rfl⟩
  have hLn := Lib.hid (show L.length = s.size by rw [← hL]; rfl)
  have HL := Lib.hid hL
  rw [hL]
  obtain ⟨R, hR⟩ : ∃ R, cutA b [] L = R := ⟨_, rfl⟩
  have HR := Lib.hid hR
  rw [hR]
  have HT := Lib.hid htb
  clear hR hL ht htb
  go_enter Tryd.func39, Tryd.ntmps39
  go_wp2_with (first | ((with_reducible refine wp_region_up (by kernel_rfl) (by kernel_rfl) ?_); (repeat (go_big_quiet_step (fail))); refine wpQuiet_nil ?_; intro _ hw'; obtain ⟨nq, hw''⟩ := hw'; subst hw''))
  go_loopw [7] (fun i wr => ∃ (k : Nat), k ≤ s.size ∧ i = i64 k ∧ Hid (cutA b [] L = cutA b (L.take k) (L.drop k)) ∧ ∃ g : Up w, wr = up w g) (fun i _ => s.size - (intOf i).toNat)
  case atStart => exact ⟨0, by omega, rfl, rfl, ex_up (by repeat (first | exact Below.refl _ _ | refine bl_tr ?_ _ | refine bl_al ?_ _ | refine bl_dr ?_ | refine bl_up ?_ _ | refine Below.drew ?_ | refine bl_alloc ?_ _ | refine Below.setCell ?_ (by first | (simp; done) | (simp; omega)) _))⟩
  case round =>
    obtain ⟨k, hk, rfl, hsp, g, rfl⟩ := hrel
    by_cases hlt : k < s.size
    · have hkl : k < L.length := by rw [hLn.out]; exact hlt
      have h1 : (k : Int) + 1 ≤ (s.size : Int) := by omega
      have hob := Lib.hid (one_byte s HL.out hkl)
      have hdr := Lib.hid (drop_at hkl)
      have hsl : ∀ wx : World, (Instr.slice 9 (.string s) (some (i64 k)) (some (.int .i64 ((k : Int) + 1))) none).run Tryd.prog wx = .ok (.string (s.extract k (k + 1))) wx := fun wx => by
        have := run_slice_string (P := Tryd.prog) wx 9 s .i64 .i64 (k : Int) ((k + 1 : Nat) : Int) Tryd.underlying9 (by omega) (by omega) (by omega)
        simpa using this
      by_cases q : L.getD k 0 = b
      · have qe := tl_teq (show s.extract k (k + 1) = t by rw [hob.out, q, HT.out])
        have hR2 := Lib.hid (show R = (s.extract 0 k, s.extract (k + 1) s.size, true) by
          rw [← HR.out, hsp.out, hdr.out, cutA, if_pos q, bs_extract, bs_extract, HL.out, List.drop_zero, Nat.sub_zero, List.take_of_length_le (l := L.drop (k + 1)) (by rw [List.length_drop, hLn.out]; omega)])
        clear q hkl
        go_wp2_with (first | ((with_reducible refine wp_region_up (by kernel_rfl) (by kernel_rfl) ?_); (repeat (go_big_quiet_step (fail))); refine wpQuiet_nil ?_; intro _ hw'; obtain ⟨nq, hw''⟩ := hw'; subst hw''))
        go_ret3
        rw [hR2.out]
        exact ⟨rfl, UpOf.of (by repeat (first | exact Below.refl _ _ | refine bl_tr ?_ _ | refine bl_al ?_ _ | refine bl_dr ?_ | refine bl_up ?_ _ | refine Below.drew ?_ | refine bl_alloc ?_ _ | refine Below.setCell ?_ (by first | (simp; done) | (simp; omega)) _))⟩
      · have qe := tl_tne (show ¬ s.extract k (k + 1) = t by rw [hob.out, HT.out]; intro he; exact q (by have := bs_inj he; injection this))
        have hsp2 := Lib.hid (show cutA b [] L = cutA b (L.take (k + 1)) (L.drop (k + 1)) by
          rw [hsp.out, hdr.out, cutA, if_neg q, take_snoc hkl])
        clear q hkl
        go_wp2_with (first | ((with_reducible refine wp_region_up (by kernel_rfl) (by kernel_rfl) ?_); (repeat (go_big_quiet_step (fail))); refine wpQuiet_nil ?_; intro _ hw'; obtain ⟨nq, hw''⟩ := hw'; subst hw''))
        go_roundw
        case rel => exact ⟨k + 1, by omega, by go_num, hsp2, ex_up (by repeat (first | exact Below.refl _ _ | refine bl_tr ?_ _ | refine bl_al ?_ _ | refine bl_dr ?_ | refine bl_up ?_ _ | refine Below.drew ?_ | refine bl_alloc ?_ _ | refine Below.setCell ?_ (by first | (simp; done) | (simp; omega)) _))⟩
        case measure => (simp [intOf]; try omega)
    · obtain rfl : k = s.size := by omega
      have e0 : L.drop s.size = [] := List.drop_eq_nil_of_le (by rw [hLn.out]; exact Nat.le_refl _)
      have e1 : L.take s.size = L := List.take_of_length_le (by rw [hLn.out]; exact Nat.le_refl _)
      have hR2 := Lib.hid (show R = (s, ⟨#[]⟩, false) by
        rw [← HR.out, hsp.out, e0, e1, cutA, ← HL.out, bs_of])
      clear e0 e1
      go_wp2_with (first | ((with_reducible refine wp_region_up (by kernel_rfl) (by kernel_rfl) ?_); (repeat (go_big_quiet_step (fail))); refine wpQuiet_nil ?_; intro _ hw'; obtain ⟨nq, hw''⟩ := hw'; subst hw''))
      go_ret3
      rw [hR2.out]
      exact ⟨rfl, UpOf.of (by repeat (first | exact Below.refl _ _ | refine bl_tr ?_ _ | refine bl_al ?_ _ | refine bl_dr ?_ | refine bl_up ?_ _ | refine Below.drew ?_ | refine bl_alloc ?_ _ | refine Below.setCell ?_ (by first | (simp; done) | (simp; omega)) _))⟩
end Go.Proofs.YtiagckbdofeecaaDoor

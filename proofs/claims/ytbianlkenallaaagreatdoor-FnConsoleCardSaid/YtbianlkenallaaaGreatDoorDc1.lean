/-
  A command of the console: which lines are none. Plain facts, and the program's walk up to the command. The bounds stand at each.
-/
import Derived.Test.YtbianlkenallaaaGreatDoorMgE
import Derived.Test.YtbianlkenallaaaGreatDoorDk6
set_option linter.all false
namespace Go.Proofs.YtbianlkenallaaaGreatDoor
open Go.RowKit
theorem fit_no {k n : Nat} (hk : k ≤ 14) (h : fitK k n = false) : (wcR k).1 = 0 ∨ (n : Int) < (wcR k).1 ∨ ((wcR k).1 < (n : Int) ∧ (wcR k).2 = false) := by
  have h15 : k = 0 ∨ k = 1 ∨ k = 2 ∨ k = 3 ∨ k = 4 ∨ k = 5 ∨ k = 6 ∨ k = 7 ∨ k = 8 ∨ k = 9 ∨ k = 10 ∨ k = 11 ∨ k = 12 ∨ k = 13 ∨ k = 14 := by omega
  rcases h15 with rfl | rfl | rfl | rfl | rfl | rfl | rfl | rfl | rfl | rfl | rfl | rfl | rfl | rfl | rfl <;> simp [fitK, wcR] at h ⊢ <;> omega
theorem fit_yes {k n : Nat} (hk : k ≤ 14) (h : fitK k n = true) : 1 ≤ (wcR k).1 ∧ (wcR k).1 ≤ (n : Int) ∧ ((wcR k).1 = (n : Int) ∨ (wcR k).2 = true) := by
  have h15 : k = 0 ∨ k = 1 ∨ k = 2 ∨ k = 3 ∨ k = 4 ∨ k = 5 ∨ k = 6 ∨ k = 7 ∨ k = 8 ∨ k = 9 ∨ k = 10 ∨ k = 11 ∨ k = 12 ∨ k = 13 ∨ k = 14 := by omega
  rcases h15 with rfl | rfl | rfl | rfl | rfl | rfl | rfl | rfl | rfl | rfl | rfl | rfl | rfl | rfl | rfl <;> simp [fitK, wcR] at h ⊢ <;> omega
/-- all words of a line -/
theorem spl_all (s : ByteArray) : spl (s.size + 1) s.data.toList = splitA 32 [] s.data.toList := by
  rw [spl_split, if_neg]
  have := split_len 32 s.data.toList []
  rw [bsz] at this
  omega
/-- what DeskCommand answers -/
def dcNo (w : World) (r : Ending) (w' : World) : Prop := r = .returned (.tuple #[.agg zc, .slice none 0 0, i64 7]) ∧ UpOf w w'
def dcYes (D : DeskD) (l : List ByteArray) (w : World) (r : Ending) (w' : World) : Prop :=
  ∃ A B c e X n, r = .returned (.tuple #[dkv D A B c e, .slice X l.length n, i64 0]) ∧ DOwn w.heap.size w' D A B c e ∧ w'.ownsRow w.heap.size 9 1 (.slice X l.length n) l.length (strs l) ∧ UpOf w w'
set_option maxRecDepth 10000 in
set_option maxHeartbeats 4000000 in
theorem dcNo_any (d : DeskD) (A B : Option Addr) (c e : Nat) (s : ByteArray) (w : World) (hs : s.size ≤ 1048576) (hS : DSee w d A B) (hz : DkSz d e) (hv : vDesk d = true) (ht : Tab w)
    (hf : fitK (kindOf (wd (splitA 32 [] s.data.toList) 0)) (splitA 32 [] s.data.toList).length = false) :
    Calls Tryz.prog 9 #[dkv d A B c e, .string s] w fun r w' => dcNo w r w' := by
  have HS := Lib.hid hS
  have HZ := Lib.hid hz
  have HV := Lib.hid hv
  have HT := Lib.hid ht
  obtain ⟨W, hW⟩ : ∃ W, splitA 32 [] s.data.toList = W := ⟨_, rfl⟩
  have HSP : Hid (∀ V, Calls Tryz.prog 27 #[.string s, .int .i64 ((s.size : Int) + 2)] V fun e w' => txPost W V e w') := Lib.hid fun V => by
    have := splitAt_any s (s.size + 1) V (by omega) (by omega)
    rw [spl_all, hW, show (((s.size + 1 : Nat) : Int) + 1) = (s.size : Int) + 2 by omega] at this
    exact this
  have hW1 : 0 < W.length := by rw [← hW]; exact List.length_pos_iff.2 (splitA_ne 32 _ _)
  have hWl : W.length ≤ 2000000 := by
    have := split_len 32 s.data.toList []
    rw [hW, bsz] at this
    omega
  rw [hW] at hf
  have hno := fit_no (kind_le _) hf
  obtain ⟨L, hL⟩ : ∃ L, (wcR (kindOf (wd W 0))).1 = L := ⟨_, rfl⟩
  obtain ⟨M, hM⟩ : ∃ M, (wcR (kindOf (wd W 0))).2 = M := ⟨_, rfl⟩
  have HWC : Hid (∀ V, Calls Tryz.prog 28 #[.string (wd W 0)] V fun e w' => e = .returned (.tuple #[i64 L, .bool M]) ∧ V = w') := Lib.hid fun V => by
    have := wordCounts_any (wd W 0) V
    rw [hL, hM] at this
    exact this
  rw [hL, hM] at hno
  clear hS hz hv ht hW hf hL hM
  go_enter Tryz.func9, Tryz.ntmps9
  go_upto_region 1 with (fail)
  refine wpg (R := fun V => Hid (MD w V w.heap.size (w.heap.size + 1) (dkcs d A B c e))) (Lib.hid (MD.new _ _)) (fun V z => ?_)
  generalize hp9 : w.heap.size = p at z ⊢
  generalize hq9 : p + 1 = q at z ⊢
  clear hp9 hq9
  obtain ⟨hpV, x0, x1, x2, x3, x4, x5, x6, x7⟩ := z.out.bx.eight
  go_wp2_with fail
  refine (ret_as (validDeskI_any d A B c e _ (HS.out.below z.out.up.below) HZ.out (HT.out.below z.out.up.below)) HV.out).mono ?_
  rintro r w' ⟨rfl, g1, rfl⟩
  go_wp2_with fail
  refine (HSP.out _).mono ?_
  rintro r w' ⟨AW, cW, rfl, ow, g2, rfl⟩
  have z2 := Lib.hid (z.out.below (V' := up V (g1.tr g2)) (up_below V _))
  have OW : Hid ((up V (g1.tr g2)).ownsRow (up V g1).heap.size 9 1 (.slice AW W.length cW) W.length (strs W)) := Lib.hid ow
  have HBV := Lib.hid (show p < (up V g1).heap.size ∧ q < (up V g1).heap.size ∧ w.heap.size ≤ (up V g1).heap.size from ⟨Nat.lt_of_lt_of_le z.out.bx.lt (up_below V g1).size, Nat.lt_of_lt_of_le z.out.rs.lt (up_below V g1).size, Nat.le_trans z.out.up.below.size (up_below V g1).size⟩)
  generalize (up V g1).heap.size = base at OW HBV
  obtain ⟨bW, oW, eW, hbW, cw⟩ := wd_at (Rds.of_own OW.out) (i := 0) hW1
  subst eW
  have cw0 := cw 0 hW1
  rw [Nat.add_zero] at cw0
  clear ow cw x0 x1 x2 x3 x4 x5 x6 x7 hpV z
  go_upto_region 6 with (go_at_call 28; refine (HWC.out _).mono ?_; rintro r w' ⟨rfl, rfl⟩)
  have hqb := z2.out.rs.lt
  obtain ⟨hqT, r0, r1, r2, r3, r4, r5, r6, r7⟩ := z2.out.rs.eight
  obtain ⟨f0, f1, f2, f3, f4, f5, f6, f7⟩ := z2.out.rs.open8
  have HNO := Lib.hid hno
  by_cases t1 : L = 0
  · have t1' : (L == 0) = true := by rw [beq_iff_eq]; exact t1
    clear hno t1
    go_wp2_with fail
    refine post_gen (R := fun W => Blk W q 31 zc ∧ UpOf w W) ⟨blk_put8 z2.out.rs _ _ _ _ _ _ _ _, put8_up z2.out.up z2.out.hq _ _ _ _ _ _ _ _⟩ (fun W st => ?_)
    obtain ⟨s1, s3⟩ := st
    obtain ⟨hqW, w0, w1, w2, w3, w4, w5, w6, w7⟩ := s1.eight
    exact bodyPost_ret (v := .tuple #[.agg zc, .slice none 0 0, i64 7]) (by simp [results, Tryz.results9, go_sem, hqW, w0, w1, w2, w3, w4, w5, w6, w7]) rfl ⟨rfl, s3⟩
  · have t1' : (L == 0) = false := by rw [beq_eq_false_iff_ne]; exact t1
    by_cases t2 : (W.length : Int) < L
    · have t2' : decide ((W.length : Int) < L) = true := decide_eq_true t2
      clear hno t1
      go_wp2_with fail
      refine post_gen (R := fun W => Blk W q 31 zc ∧ UpOf w W) ⟨blk_put8 z2.out.rs _ _ _ _ _ _ _ _, put8_up z2.out.up z2.out.hq _ _ _ _ _ _ _ _⟩ (fun W st => ?_)
      obtain ⟨s1, s3⟩ := st
      obtain ⟨hqW, w0, w1, w2, w3, w4, w5, w6, w7⟩ := s1.eight
      exact bodyPost_ret (v := .tuple #[.agg zc, .slice none 0 0, i64 7]) (by simp [results, Tryz.results9, go_sem, hqW, w0, w1, w2, w3, w4, w5, w6, w7]) rfl ⟨rfl, s3⟩
    · have t2' : decide ((W.length : Int) < L) = false := decide_eq_false t2
      have t3 : L < (W.length : Int) ∧ M = false := by
        rcases hno with h | h | h
        · exact absurd h t1
        · exact absurd h t2
        · exact h
      obtain ⟨t3, rfl⟩ := t3
      have t3' : decide (L < (W.length : Int)) = true := decide_eq_true t3
      clear hno t1
      go_wp2_with fail
      refine post_gen (R := fun W => Blk W q 31 zc ∧ UpOf w W) ⟨blk_put8 z2.out.rs _ _ _ _ _ _ _ _, put8_up z2.out.up z2.out.hq _ _ _ _ _ _ _ _⟩ (fun W st => ?_)
      obtain ⟨s1, s3⟩ := st
      obtain ⟨hqW, w0, w1, w2, w3, w4, w5, w6, w7⟩ := s1.eight
      exact bodyPost_ret (v := .tuple #[.agg zc, .slice none 0 0, i64 7]) (by simp [results, Tryz.results9, go_sem, hqW, w0, w1, w2, w3, w4, w5, w6, w7]) rfl ⟨rfl, s3⟩
end Go.Proofs.YtbianlkenallaaaGreatDoor

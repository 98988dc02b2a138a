/-
  The commands set and line: the program's. The bounds stand at each; they lean on the laid table.
-/
import Derived.Test.YtbianlkenallaaaGreatDoorMgD
import Derived.Test.YtbianlkenallaaaGreatDoorSetL3
import Derived.Test.YtbianlkenallaaaGreatDoorDrill2
set_option linter.all false
namespace Go.Proofs.YtbianlkenallaaaGreatDoor
open Go.RowKit
set_option maxRecDepth 10000 in
set_option maxHeartbeats 2000000 in
theorem setLineOf_any (d : DeskD) (A B : Option Addr) (c e : Nat) (s t : ByteArray) (w : World) (hs : s.size ≤ 1048576) (hts : t.size ≤ 1048576) (ht : Tab w) :
    Calls Tryz.prog 32 #[dkv d A B c e, .string s, .string t] w fun r w' => txPost (if numB s then sent (setR (wordsA [] t.data.toList) (sval s)) else [errL 7]) w r w' := by
  have HT := Lib.hid ht
  clear ht
  cases hv : numB s with
  | false =>
    have HC : Hid (∀ V, Tab V → Calls Tryz.prog 79 #[.string s] V fun e w' => e = .returned (.tuple #[i64 0, .bool false]) ∧ UpOf V w') := Lib.hid fun V hV => by
      have := readDecimal_any s V (by omega) hV
      rw [rdR_no hv] at this
      exact this
    show Calls _ _ _ _ fun r w' => txPost [errL 7] w r w'
    clear hv
    go_enter Tryz.func32, Tryz.ntmps32
    go_wp2_with fail
    refine (HC.out _ (HT.out.below (BL.o (by repeat constructor)))).mono ?_
    rintro r w' ⟨rfl, g1, rfl⟩
    go_wp2_with fail
    refine (report_any 7 _).mono ?_
    rintro r w' ⟨X, n, rfl, ox, g2, rfl⟩
    go_wp2_with fail
    go_ret
    exact ⟨X, n, rfl, own_mono ox (show Below w.heap.size w _ from (BL.o (by repeat constructor))).size, UpOf.of (BL.o (by repeat constructor))⟩
  | true =>
    obtain ⟨N, hN⟩ : ∃ N, sval s = N := ⟨_, rfl⟩
    have HC : Hid (∀ V, Tab V → Calls Tryz.prog 79 #[.string s] V fun e w' => e = .returned (.tuple #[i64 N, .bool true]) ∧ UpOf V w') := Lib.hid fun V hV => by
      have := readDecimal_any s V (by omega) hV
      rw [rdR_ok hv, hN] at this
      exact this
    obtain ⟨W, hW⟩ : ∃ W, wordsA [] t.data.toList = W := ⟨_, rfl⟩
    have HW : Hid (∀ V, Calls Tryz.prog 76 #[.string t] V fun e w' => ∃ A c, e = .returned (.slice A W.length c) ∧ w'.ownsRow V.heap.size 9 1 (.slice A W.length c) W.length (strs W) ∧ UpOf V w') := Lib.hid fun V => by
      rw [← hW]; exact splitWords_any t V (by omega)
    have hWl : W.length ≤ 2000000 := by
      have := words_len t.data.toList []
      rw [hW, bsz] at this
      omega
    have HWB : Hid (WBd W) := Lib.hid fun i hi => by
      have := words_size t.data.toList [] (wd W i) (by rw [hW, ← wd_eq hi]; exact List.getElem_mem hi)
      rw [bsz] at this
      simp at this
      omega
    obtain ⟨R1, hR1⟩ : ∃ R1, (setR W N).1 = R1 := ⟨_, rfl⟩
    obtain ⟨R2, hR2⟩ : ∃ R2, (setR W N).2 = R2 := ⟨_, rfl⟩
    have HSL : Hid (∀ V A1 c1, Rds V 1 A1 W.length (strs W) → W.length ≤ c1 → Calls Tryz.prog 80 #[.slice A1 W.length c1, i64 N] V fun e w' => e = .returned (.tuple #[.string R1, i64 R2]) ∧ UpOf V w') := Lib.hid fun V A1 c1 hr hc => by
      have := setLineR_any N A1 c1 W V hr hc (by omega) HWB.out
      rw [hR1, hR2] at this
      exact this
    have hfin : (if (true : Bool) = true then sent (setR (wordsA [] t.data.toList) (sval s)) else [errL 7]) = sent (R1, R2) := by
      rw [if_pos rfl, hW, hN, ← hR1, ← hR2]
    rw [hfin]
    clear hfin hv hN hW hR1 hR2
    go_enter Tryz.func32, Tryz.ntmps32
    go_wp2_with fail
    refine (HC.out _ (HT.out.below (BL.o (by repeat constructor)))).mono ?_
    rintro r w' ⟨rfl, g1, rfl⟩
    go_wp2_with fail
    refine (HW.out _).mono ?_
    rintro r w' ⟨A1, c1, rfl, o1, g2, rfl⟩
    have hcap := own_capD o1
    go_wp2_with fail
    refine (HSL.out _ A1 c1 (Rds.of_own o1) hcap).mono ?_
    rintro r w' ⟨rfl, g3, rfl⟩
    go_wp2_with fail
    refine (sentence_any R1 R2 _).mono ?_
    rintro r w' ⟨X, n, rfl, ox, g4, rfl⟩
    go_wp2_with fail
    go_ret
    exact ⟨X, n, rfl, own_mono ox (show Below w.heap.size w _ from (BL.o (by repeat constructor))).size, UpOf.of (BL.o (by repeat constructor))⟩
def lineR (l : List Drill) (nm s : ByteArray) : List ByteArray := if numB s then (match findD l nm with | none => [errL 3] | some x => sent (dlR x (sval s))) else [errL 7]
theorem findD_at {l : List Drill} {nm : ByteArray} {k : Nat} (hk : k < l.length) (h : (drl l k).name = nm) (hn : ∀ j, j < k → (drl l j).name ≠ nm) : findD l nm = some (drl l k) := by
  induction l generalizing k with
  | nil => simp at hk
  | cons a l ih =>
    cases k with
    | zero =>
      have e : drl (a :: l) 0 = a := rfl
      rw [e] at h ⊢
      simp [findD, h]
    | succ k =>
      have h0 := hn 0 (by omega)
      have e0 : drl (a :: l) 0 = a := rfl
      have ek : ∀ j, drl (a :: l) (j + 1) = drl l j := fun j => rfl
      rw [e0] at h0
      rw [ek] at h ⊢
      have := ih (k := k) (by simpa using hk) h (fun j hj => by have := hn (j + 1) (by omega); rwa [ek] at this)
      rw [findD] at this ⊢
      rw [List.find?_cons_of_neg (by simpa using h0)]
      exact this
theorem findD_no {l : List Drill} {nm : ByteArray} (hn : ∀ j, j < l.length → (drl l j).name ≠ nm) : findD l nm = none := by
  rw [findD, List.find?_eq_none]
  intro x hx
  obtain ⟨i, hi, rfl⟩ := List.getElem_of_mem hx
  have := hn i hi
  rw [drl, List.getD_eq_getElem?_getD, List.getElem?_eq_getElem hi] at this
  simpa using this
set_option maxRecDepth 10000 in
set_option maxHeartbeats 4000000 in
theorem drillLineC_any (d : DeskD) (A B : Option Addr) (c e : Nat) (nm s : ByteArray) (w : World) (h : DSee w d A B) (hz : DkSz d e) (hs : s.size ≤ 1048576) (ht : Tab w) :
    Calls Tryz.prog 37 #[dkv d A B c e, .string nm, .string s] w fun r w' => txPost (lineR d.drills nm s) w r w' := by
  have HT := Lib.hid ht
  have HS := Lib.hid h
  have HZ := Lib.hid hz
  clear ht h hz
  cases hv : numB s with
  | false =>
    have HC : Hid (∀ V, Tab V → Calls Tryz.prog 79 #[.string s] V fun e w' => e = .returned (.tuple #[i64 0, .bool false]) ∧ UpOf V w') := Lib.hid fun V hV => by
      have := readDecimal_any s V (by omega) hV
      rw [rdR_no hv] at this
      exact this
    have hfin : lineR d.drills nm s = [errL 7] := by rw [lineR, hv]; rfl
    rw [hfin]
    clear hfin hv
    go_enter Tryz.func37, Tryz.ntmps37
    go_wp2_with fail
    refine (HC.out _ (HT.out.below (BL.o (by repeat constructor)))).mono ?_
    rintro r w' ⟨rfl, g1, rfl⟩
    go_wp2_with fail
    refine (report_any 7 _).mono ?_
    rintro r w' ⟨X, n, rfl, ox, g2, rfl⟩
    go_wp2_with fail
    go_ret
    exact ⟨X, n, rfl, own_mono ox (show Below w.heap.size w _ from (BL.o (by repeat constructor))).size, UpOf.of (BL.o (by repeat constructor))⟩
  | true =>
    obtain ⟨N, hN⟩ : ∃ N, sval s = N := ⟨_, rfl⟩
    have HC : Hid (∀ V, Tab V → Calls Tryz.prog 79 #[.string s] V fun e w' => e = .returned (.tuple #[i64 N, .bool true]) ∧ UpOf V w') := Lib.hid fun V hV => by
      have := readDecimal_any s V (by omega) hV
      rw [rdR_ok hv, hN] at this
      exact this
    obtain ⟨R, hR⟩ : ∃ R, lineR d.drills nm s = R := ⟨_, rfl⟩
    have HR := Lib.hid (show R = (match findD d.drills nm with | none => [errL 3] | some x => sent (dlR x N)) by rw [← hR, lineR, hv, if_pos rfl, hN])
    rw [hR]
    clear hv hN hR
    go_enter Tryz.func37, Tryz.ntmps37
    go_upto_region 1 with (fail)
    refine wpg (R := fun V => Box V w.heap.size (dkcs d A B c e) ∧ UpOf w V) ⟨Box.new _ _ _, UpOf.of (BL.o (by repeat constructor))⟩ (fun V z => ?_)
    obtain ⟨hb, hB⟩ := z
    have HU := Lib.hid hB
    have HX := Lib.hid hb
    clear hb hB
    generalize w.heap.size = p at *
    go_wp2_with fail
    refine (HC.out _ (HT.out.below HU.out.below)).mono ?_
    rintro r w' ⟨rfl, g1, rfl⟩
    have x6 : (up V g1).cell? ⟨p, 6, none⟩ = some (.slice B d.drills.length e) := (HX.out.below (up_below V g1)).2 6 _ rfl
    have hp6 := (HX.out.below (up_below V g1)).1
    go_wp2_with fail
    clear x6 hp6
    go_loopw [22] (fun t22 wr => ∃ k : Nat, k ≤ d.drills.length ∧ t22 = i64 k ∧ Hid (∀ i, i < k → (drl d.drills i).name ≠ nm) ∧ ∃ g : Up V, wr = up V g) (fun t22 _ => d.drills.length - (intOf t22).toNat)
    case atStart => exact ⟨0, by omega, rfl, Lib.hid (fun i hi => by omega), ex_up (BL.o (by repeat constructor))⟩
    case round =>
      obtain ⟨k, hk, rfl, HK, g, rfl⟩ := hrel
      have hdn := HZ.out.n
      by_cases hlt : k < d.drills.length
      · obtain ⟨b, off, rfl, hb, x0, x1, x2⟩ := drl_at ((HS.out.2.below HU.out.below).below (up_below V g)) hlt
        obtain ⟨f1, f2⟩ := HZ.out.b k hlt
        by_cases he : (drl d.drills k).name = nm
        · have ht := tl_teq he
          have hr := Lib.hid (show R = sent (dlR (drl d.drills k) N) by rw [HR.out, findD_at hlt he HK.out])
          have HDL : Hid (∀ V, Calls Tryz.prog 84 #[.agg #[.string (drl d.drills k).name, .string (drl d.drills k).letters, i64 (drl d.drills k).minutes], i64 N] V fun e w' => e = .returned (.tuple #[.string (dlR (drl d.drills k) N).1, i64 (dlR (drl d.drills k) N).2]) ∧ UpOf V w') := Lib.hid fun V => drillLine_any (drl d.drills k) N V (by omega) (by omega)
          obtain ⟨R1, hR1⟩ : ∃ R1, (dlR (drl d.drills k) N).1 = R1 := ⟨_, rfl⟩
          obtain ⟨R2, hR2⟩ : ∃ R2, (dlR (drl d.drills k) N).2 = R2 := ⟨_, rfl⟩
          have hr2 := Lib.hid (show R = sent (R1, R2) by rw [hr.out, ← hR1, ← hR2])
          rw [hR1, hR2] at HDL
          have HE := Lib.hid he
          clear he hR1 hR2 hr
          go_wp2_with fail
          refine (HDL.out _).mono ?_
          rintro r w' ⟨rfl, g3, rfl⟩
          go_wp2_with fail
          refine (sentence_any R1 R2 _).mono ?_
          rintro r w' ⟨X, n, rfl, ox, g4, rfl⟩
          go_wp2_with fail
          go_ret
          rw [hr2.out]
          exact ⟨X, n, rfl, own_mono ox (Nat.le_trans HU.out.below.size (show Below V.heap.size V _ from (BL.o (by repeat constructor))).size), HU.out.tr (BL.o (by repeat constructor))⟩
        · have ht := tl_tne he
          have HK2 := Lib.hid (lt_ext (P := fun j => (drl d.drills j).name ≠ nm) HK.out he)
          clear he
          go_wp2_with (first | ((with_reducible refine wp_region_up (by kernel_rfl) (by kernel_rfl) ?_); (repeat (go_big_quiet_step (fail))); refine wpQuiet_nil ?_; intro _ hw'; obtain ⟨nq, hw''⟩ := hw'; subst hw''))
          go_roundw
          case rel => exact ⟨k + 1, by omega, by go_num, HK2, ex_up (BL.o (by repeat constructor))⟩
          case measure => simp [intOf]; try omega
      · obtain rfl : k = d.drills.length := by omega
        have hr := Lib.hid (show R = [errL 3] by rw [HR.out, findD_no HK.out])
        go_wp2_with fail
        refine (report_any 3 _).mono ?_
        rintro r w' ⟨X, n, rfl, ox, g4, rfl⟩
        go_wp2_with fail
        go_ret
        rw [hr.out]
        exact ⟨X, n, rfl, own_mono ox (Nat.le_trans HU.out.below.size (show Below V.heap.size V _ from (BL.o (by repeat constructor))).size), HU.out.tr (BL.o (by repeat constructor))⟩
end Go.Proofs.YtbianlkenallaaaGreatDoor

/-
  Defects: contracts of the laws' own functions on lists of them (measured, copied, equal, marked, held). The bounds stand at each.
-/
import Derived.Test.YtfggbcmpgkhlaaaRows
import Derived.Test.YtfggbcmpgkhlaaaFlat
import Derived.Test.YtfggbcmpgkhlaaaMark
namespace Go.Proofs.Ytfggbcmpgkhlaaa
open Go.RowKit
structure Defect where
  name : ByteArray
  weight : Int
  signs : ByteArray
def Defect.cells (h : Defect) : List Value := [.string h.name, i64 h.weight, .string h.signs]
abbrev dfv (h : Defect) : Value := .agg #[.string h.name, i64 h.weight, .string h.signs]
def dfcs (l : List Defect) : List Value := l.flatMap Defect.cells
theorem df_clen (h : Defect) : h.cells.length = 3 := rfl
theorem df_len (l : List Defect) : (dfcs l).length = l.length * 3 := flat_len df_clen l
theorem df_one (l : List Defect) : ∀ u ∈ dfcs l, u.oneCell' = true := by
  intro u hu
  simp only [dfcs, List.mem_flatMap, Defect.cells, List.mem_cons, List.not_mem_nil, or_false] at hu
  obtain ⟨a, _, rfl | rfl | rfl⟩ := hu <;> rfl
theorem df_at {w : World} {A : Option Addr} {l : List Defect} (h : Rds w 3 A l.length (dfcs l)) {k : Nat} (hk : k < l.length) :
    ∃ b off, A = some ⟨b, off, none⟩ ∧ b < w.heap.size ∧ w.cell? ⟨b, off + k * 3, none⟩ = some (.string l[k].name) ∧ w.cell? ⟨b, off + k * 3 + 1, none⟩ = some (i64 l[k].weight) ∧ w.cell? ⟨b, off + k * 3 + 2, none⟩ = some (.string l[k].signs) := by
  obtain ⟨b, off, e, hb, hc⟩ := rds_elem df_clen h hk (by omega)
  exact ⟨b, off, e, hb, hc 0 _ rfl, hc 1 _ rfl, hc 2 _ rfl⟩
theorem df_set {l : List Defect} {ys : List Value} {k i j n : Nat} (hys : ∀ i (hi : i < l.length) j, j < 3 → i < k → ys[i * 3 + j]? = (l[i].cells)[j]?) (hlen : ys.length = n * 3) (hi : i < l.length) (hj : j < 3) (hik : i < k + 1) (hk : k < n)
    {h : Defect} (he : ∀ (hk : k < l.length), l[k] = h := by intro; rfl) :
    (((ys.set (k * 3) (.string h.name)).set (k * 3 + 1) (i64 h.weight)).set (k * 3 + 2) (.string h.signs))[i * 3 + j]? = (l[i].cells)[j]? := by
  by_cases hik' : i = k
  · subst hik'
    rw [he hi]
    match j, hj with
    | 0, _ => rw [List.getElem?_set_ne (by omega), List.getElem?_set_ne (by omega), Nat.add_zero, List.getElem?_set_self (by first | omega | (simp only [List.length_set]; omega))]; rfl
    | 1, _ => rw [List.getElem?_set_ne (by omega), List.getElem?_set_self (by first | omega | (simp only [List.length_set]; omega))]; rfl
    | 2, _ => rw [List.getElem?_set_self (by first | omega | (simp only [List.length_set]; omega))]; rfl
  · rw [List.getElem?_set_ne (by omega), List.getElem?_set_ne (by omega), List.getElem?_set_ne (by omega)]
    exact hys i hi j hj (by omega)
def dfTot1 (h : Defect) : Nat := h.name.size + h.signs.size
theorem szDefect_any (h : Defect) (k : Int) (w : World) (hk : 0 ≤ k) (hk1 : k ≤ 1048576) (hname : h.name.size ≤ 9223372036854775807) (hsigns : h.signs.size ≤ 9223372036854775807) :
    Calls Try.prog 52 #[dfv h, i64 k] w fun e w' => e = .returned (i64 (szR k (dfTot1 h))) ∧ UpOf w w' := by
  have hs : (dfTot1 h : Int) = h.name.size + h.signs.size := by simp [dfTot1]
  by_cases q : k < h.name.size
  · go_enter Try.func52, Try.ntmps52
    go_wp2_with (first | ((with_reducible refine wp_region_up (by kernel_rfl) (by kernel_rfl) ?_); (repeat (go_big_quiet_step (fail))); refine wpQuiet_nil ?_; intro _ hw'; obtain ⟨nq, hw''⟩ := hw'; subst hw''))
    go_ret
    exact ⟨ret_int (by rw [szR_no (by omega)]), UpOf.of (by repeat (first | exact Below.refl _ _ | refine bl_tr ?_ _ | refine bl_al ?_ _ | refine bl_dr ?_ | refine bl_up ?_ _ | refine Below.drew ?_ | refine bl_alloc ?_ _ | refine Below.setCell ?_ (by first | (simp; done) | (simp; omega)) _))⟩
  · by_cases q2 : k - h.name.size < h.signs.size
    · go_enter Try.func52, Try.ntmps52
      go_wp2_with (first | ((with_reducible refine wp_region_up (by kernel_rfl) (by kernel_rfl) ?_); (repeat (go_big_quiet_step (fail))); refine wpQuiet_nil ?_; intro _ hw'; obtain ⟨nq, hw''⟩ := hw'; subst hw''))
      go_ret
      exact ⟨ret_int (by rw [szR_no (by omega)]), UpOf.of (by repeat (first | exact Below.refl _ _ | refine bl_tr ?_ _ | refine bl_al ?_ _ | refine bl_dr ?_ | refine bl_up ?_ _ | refine Below.drew ?_ | refine bl_alloc ?_ _ | refine Below.setCell ?_ (by first | (simp; done) | (simp; omega)) _))⟩
    · go_enter Try.func52, Try.ntmps52
      go_wp2_with (first | ((with_reducible refine wp_region_up (by kernel_rfl) (by kernel_rfl) ?_); (repeat (go_big_quiet_step (fail))); refine wpQuiet_nil ?_; intro _ hw'; obtain ⟨nq, hw''⟩ := hw'; subst hw''))
      go_ret
      exact ⟨ret_int (by rw [szR_ok (by omega)]; omega), UpOf.of (by repeat (first | exact Below.refl _ _ | refine bl_tr ?_ _ | refine bl_al ?_ _ | refine bl_dr ?_ | refine bl_up ?_ _ | refine Below.drew ?_ | refine bl_alloc ?_ _ | refine Below.setCell ?_ (by first | (simp; done) | (simp; omega)) _))⟩
def dfTotN (l : List Defect) : Nat → Nat
  | 0 => 0
  | k + 1 => dfTotN l k + (match l[k]? with | some h => dfTot1 h | none => 0)
theorem dfTotN_at {l : List Defect} {k : Nat} (hk : k < l.length) : dfTotN l (k + 1) = dfTotN l k + dfTot1 l[k] := by rw [dfTotN, List.getElem?_eq_getElem hk]
theorem dfTotN_mono (l : List Defect) (i j : Nat) : dfTotN l i ≤ dfTotN l (i + j) := by
  induction j with
  | zero => exact Nat.le_refl _
  | succ j ih => exact Nat.le_trans ih (by rw [← Nat.add_assoc, dfTotN]; omega)
def dfTot (l : List Defect) : Nat := l.length + dfTotN l l.length
theorem dfTot_len (l : List Defect) : l.length ≤ dfTot l := by simp [dfTot]
set_option maxRecDepth 10000 in
theorem szDefectS_any (A : Option Addr) (c : Nat) (l : List Defect) (k : Int) (w : World) (h : Rds w 3 A l.length (dfcs l)) (hk : 0 ≤ k) (hk1 : k ≤ 1048576) (hn : l.length ≤ 9223372036854775807) (hs : ∀ h ∈ l, h.name.size ≤ 9223372036854775807 ∧ h.signs.size ≤ 9223372036854775807) :
    Calls Try.prog 24 #[.slice A l.length c, i64 k] w fun e w' => e = .returned (i64 (szR k (dfTot l))) ∧ UpOf w w' := by
  have HS := Lib.hid hs
  have ht : Hid ((dfTot l : Int) = l.length + dfTotN l l.length) := by show (dfTot l : Int) = _; simp [dfTot]
  clear hs
  by_cases q : k < l.length
  · go_enter Try.func24, Try.ntmps24
    go_wp2_with (first | ((with_reducible refine wp_region_up (by kernel_rfl) (by kernel_rfl) ?_); (repeat (go_big_quiet_step (fail))); refine wpQuiet_nil ?_; intro _ hw'; obtain ⟨nq, hw''⟩ := hw'; subst hw''))
    go_ret
    exact ⟨ret_int (by rw [szR_no (by have := ht.out; omega)]), UpOf.of (by repeat (first | exact Below.refl _ _ | refine bl_tr ?_ _ | refine bl_al ?_ _ | refine bl_dr ?_ | refine bl_up ?_ _ | refine Below.drew ?_ | refine bl_alloc ?_ _ | refine Below.setCell ?_ (by first | (simp; done) | (simp; omega)) _))⟩
  · go_enter Try.func24, Try.ntmps24
    go_wp2_with (first | ((with_reducible refine wp_region_up (by kernel_rfl) (by kernel_rfl) ?_); (repeat (go_big_quiet_step (fail))); refine wpQuiet_nil ?_; intro _ hw'; obtain ⟨nq, hw''⟩ := hw'; subst hw''))
    go_loopw [1, 5] (fun lf i wr => ∃ j : Nat, j ≤ l.length ∧ i = i64 j ∧ lf = i64 (k - l.length - dfTotN l j) ∧ (l.length : Int) + dfTotN l j ≤ k ∧ ∃ g : Up w, wr = up w g) (fun _ i _ => l.length - (intOf i).toNat)
    case atStart => exact ⟨0, by omega, rfl, by simp [dfTotN], by simp [dfTotN]; omega, ex_up (by repeat (first | exact Below.refl _ _ | refine bl_tr ?_ _ | refine bl_al ?_ _ | refine bl_dr ?_ | refine bl_up ?_ _ | refine Below.drew ?_ | refine bl_alloc ?_ _ | refine Below.setCell ?_ (by first | (simp; done) | (simp; omega)) _))⟩
    case round =>
      obtain ⟨j, hj, rfl, rfl, hle, g, rfl⟩ := hrel
      by_cases hlt : j < l.length
      · obtain ⟨b, off, rfl, hb, c0, c1, c2⟩ := df_at h hlt
        have hN := Lib.hid (dfTotN_at hlt)
        have hm := Lib.hid (dfTotN_mono l (j + 1) (l.length - (j + 1)))
        by_cases q2 : k - l.length - dfTotN l j < dfTot1 l[j]
        · have hs2 : szR (k - (l.length : Int) - dfTotN l j) (dfTot1 l[j]) = -1 := szR_no q2
          go_wp2_with (first | (go_at_call 52; refine (szDefect_any _ _ _ (by omega) (by omega) (HS.out _ (List.getElem_mem hlt)).1 (HS.out _ (List.getElem_mem hlt)).2).mono ?_; rintro e w' ⟨rfl, g, rfl⟩) | ((with_reducible refine wp_region_up (by kernel_rfl) (by kernel_rfl) ?_); (repeat (go_big_quiet_step (first | (go_at_call 52; first | exact upq_tr (szDefect_any _ _ _ (by omega) (by omega) (HS.out _ (List.getElem_mem hlt)).1 (HS.out _ (List.getElem_mem hlt)).2) | exact upq (szDefect_any _ _ _ (by omega) (by omega) (HS.out _ (List.getElem_mem hlt)).1 (HS.out _ (List.getElem_mem hlt)).2))))); refine wpQuiet_nil ?_; intro _ hw'; obtain ⟨nq, hw''⟩ := hw'; subst hw''))
          go_ret
          refine ⟨ret_int ?_, UpOf.of (by repeat (first | exact Below.refl _ _ | refine bl_tr ?_ _ | refine bl_al ?_ _ | refine bl_dr ?_ | refine bl_up ?_ _ | refine Below.drew ?_ | refine bl_alloc ?_ _ | refine Below.setCell ?_ (by first | (simp; done) | (simp; omega)) _))⟩
          have h1 := hN.out
          have h2 := hm.out
          have h3 := ht.out
          rw [show j + 1 + (l.length - (j + 1)) = l.length by omega] at h2
          rw [szR_no (by omega)]
        · have hs2 : szR (k - (l.length : Int) - dfTotN l j) (dfTot1 l[j]) = k - (l.length : Int) - dfTotN l j - dfTot1 l[j] := szR_ok q2
          go_wp2_with (first | (go_at_call 52; refine (szDefect_any _ _ _ (by omega) (by omega) (HS.out _ (List.getElem_mem hlt)).1 (HS.out _ (List.getElem_mem hlt)).2).mono ?_; rintro e w' ⟨rfl, g, rfl⟩) | ((with_reducible refine wp_region_up (by kernel_rfl) (by kernel_rfl) ?_); (repeat (go_big_quiet_step (first | (go_at_call 52; first | exact upq_tr (szDefect_any _ _ _ (by omega) (by omega) (HS.out _ (List.getElem_mem hlt)).1 (HS.out _ (List.getElem_mem hlt)).2) | exact upq (szDefect_any _ _ _ (by omega) (by omega) (HS.out _ (List.getElem_mem hlt)).1 (HS.out _ (List.getElem_mem hlt)).2))))); refine wpQuiet_nil ?_; intro _ hw'; obtain ⟨nq, hw''⟩ := hw'; subst hw''))
          go_roundw
          case rel =>
            have h1 := hN.out
            exact ⟨j + 1, by omega, by go_num, by rw [h1]; go_num, by omega, ex_up (by repeat (first | exact Below.refl _ _ | refine bl_tr ?_ _ | refine bl_al ?_ _ | refine bl_dr ?_ | refine bl_up ?_ _ | refine Below.drew ?_ | refine bl_alloc ?_ _ | refine Below.setCell ?_ (by first | (simp; done) | (simp; omega)) _))⟩
          case measure => (simp [intOf]; try omega)
      · obtain rfl : j = l.length := by omega
        go_wp2_with (first | ((with_reducible refine wp_region_up (by kernel_rfl) (by kernel_rfl) ?_); (repeat (go_big_quiet_step (fail))); refine wpQuiet_nil ?_; intro _ hw'; obtain ⟨nq, hw''⟩ := hw'; subst hw''))
        go_ret
        refine ⟨ret_int ?_, UpOf.of (by repeat (first | exact Below.refl _ _ | refine bl_tr ?_ _ | refine bl_al ?_ _ | refine bl_dr ?_ | refine bl_up ?_ _ | refine Below.drew ?_ | refine bl_alloc ?_ _ | refine Below.setCell ?_ (by first | (simp; done) | (simp; omega)) _))⟩
        have h3 := ht.out
        rw [szR_ok (by omega)]
        omega
theorem toDefect_any (h : Defect) (w : World) :
    Calls Try.prog 53 #[dfv h] w fun e w' => e = .returned (dfv h) ∧ UpOf w w' := by
  go_enter Try.func53, Try.ntmps53
  go_wp2_with (first | ((with_reducible refine wp_region_up (by kernel_rfl) (by kernel_rfl) ?_); (repeat (go_big_quiet_step (fail))); refine wpQuiet_nil ?_; intro _ hw'; obtain ⟨nq, hw''⟩ := hw'; subst hw''))
  exact bodyPost_ret (v := dfv h) (by simp [results, Try.results53, go_sem]) rfl ⟨rfl, UpOf.of (by repeat (first | exact Below.refl _ _ | refine bl_tr ?_ _ | refine bl_al ?_ _ | refine bl_dr ?_ | refine bl_up ?_ _ | refine Below.drew ?_ | refine bl_alloc ?_ _ | refine Below.setCell ?_ (by first | (simp; done) | (simp; omega)) _))⟩
theorem eqDefect_any (h : Defect) (w : World) :
    Calls Try.prog 54 #[dfv h, dfv h] w fun e w' => e = .returned (.bool true) ∧ UpOf w w' := by
  go_enter Try.func54, Try.ntmps54
  go_wp2_with (first | ((with_reducible refine wp_region_up (by kernel_rfl) (by kernel_rfl) ?_); (repeat (go_big_quiet_step (fail))); refine wpQuiet_nil ?_; intro _ hw'; obtain ⟨nq, hw''⟩ := hw'; subst hw''))
  go_ret
  exact ⟨rfl, UpOf.of (by repeat (first | exact Below.refl _ _ | refine bl_tr ?_ _ | refine bl_al ?_ _ | refine bl_dr ?_ | refine bl_up ?_ _ | refine Below.drew ?_ | refine bl_alloc ?_ _ | refine Below.setCell ?_ (by first | (simp; done) | (simp; omega)) _))⟩
set_option maxRecDepth 10000 in
theorem eqDefectS_any (A A' : Option Addr) (c c' : Nat) (l : List Defect) (w : World) (h : Rds w 3 A l.length (dfcs l)) (h' : Rds w 3 A' l.length (dfcs l)) (hn : l.length ≤ 100000000) :
    Calls Try.prog 27 #[.slice A l.length c, .slice A' l.length c'] w fun e w' => e = .returned (.bool true) ∧ UpOf w w' := by
  go_enter Try.func27, Try.ntmps27
  go_wp2_with (first | ((with_reducible refine wp_region_up (by kernel_rfl) (by kernel_rfl) ?_); (repeat (go_big_quiet_step (fail))); refine wpQuiet_nil ?_; intro _ hw'; obtain ⟨nq, hw''⟩ := hw'; subst hw''))
  go_loopw [5] (fun i wr => ∃ k : Nat, k ≤ l.length ∧ i = .int .i64 k ∧ ∃ g : Up w, wr = up w g) (fun i _ => l.length - (intOf i).toNat)
  case atStart => exact ⟨0, by omega, rfl, ⟨w, Below.refl _ _⟩, rfl⟩
  case round =>
    obtain ⟨k, hk, rfl, g, rfl⟩ := hrel
    by_cases hlt : k < l.length
    · obtain ⟨b, off, rfl, hb, c0, c1, c2⟩ := df_at h hlt
      obtain ⟨b', off', rfl, hb', d0, d1, d2⟩ := df_at h' hlt
      clear h h'
      go_wp2_with (first | (go_at_call 54; refine (eqDefect_any _ _).mono ?_; rintro e w' ⟨rfl, g, rfl⟩) | ((with_reducible refine wp_region_up (by kernel_rfl) (by kernel_rfl) ?_); (repeat (go_big_quiet_step (first | (go_at_call 54; first | exact upq_tr (eqDefect_any _ _) | exact upq (eqDefect_any _ _))))); refine wpQuiet_nil ?_; intro _ hw'; obtain ⟨nq, hw''⟩ := hw'; subst hw''))
      go_roundw
      case rel => exact ⟨k + 1, by omega, by go_num, _, rfl⟩
      case measure => simp [intOf]; omega
    · go_wp2_with (first | ((with_reducible refine wp_region_up (by kernel_rfl) (by kernel_rfl) ?_); (repeat (go_big_quiet_step (fail))); refine wpQuiet_nil ?_; intro _ hw'; obtain ⟨nq, hw''⟩ := hw'; subst hw''))
      go_ret
      exact ⟨rfl, UpOf.of (by repeat (first | exact Below.refl _ _ | refine bl_tr ?_ _ | refine bl_al ?_ _ | refine bl_dr ?_ | refine bl_up ?_ _ | refine Below.drew ?_ | refine bl_alloc ?_ _ | refine Below.setCell ?_ (by first | (simp; done) | (simp; omega)) _))⟩
set_option maxRecDepth 10000 in
theorem toDefectS_any (A : Option Addr) (c : Nat) (l : List Defect) (w : World) (h : Rds w 3 A l.length (dfcs l)) (hn : l.length ≤ 100000000) :
    Calls Try.prog 25 #[.slice A l.length c] w fun e w' => ∃ b : Nat, e = .returned (.slice (some ⟨b, 0, none⟩) l.length l.length) ∧ w'.ownsRow w.heap.size 38 3 (.slice (some ⟨b, 0, none⟩) l.length l.length) l.length (dfcs l) ∧ UpOf w w' := by
  have hi : (Try.prog.info? 38).map (fun i => (i.zero, i.size, i.bytes)) = some (some (.agg #[.string ByteArray.empty, i64 0, .string ByteArray.empty]), 3, 40) := by kernel_rfl
  obtain ⟨i0, hi, hz0, hz1, hz2⟩ := info_parts hi
  have hmk : ∀ u : World, (Instr.makeSlice 24 (i64 l.length) (i64 l.length)).run Try.prog u = .ok (.slice (some ⟨u.heap.size, 0, none⟩) l.length l.length) (u.alloc (.cells (madeCells #[.string ByteArray.empty, i64 0, .string ByteArray.empty] (l.length * 3)) 38)) := fun u => by
    have h := run_make (P := Try.prog) u 24 38 i0 _ Try.underlying24 hi hz0 .i64 .i64 l.length l.length (by omega) (Int.le_refl _) (by rw [hz2]; omega) (by omega)
    simpa [hz1, Value.cells] using h
  clear hi hz0 hz1 hz2
  go_enter Try.func25, Try.ntmps25
  go_wp2_with (first | ((with_reducible refine wp_region_up (by kernel_rfl) (by kernel_rfl) ?_); (repeat (go_big_quiet_step (fail))); refine wpQuiet_nil ?_; intro _ hw'; obtain ⟨nq, hw''⟩ := hw'; subst hw''))
  go_loopw [4] (fun i wr => ∃ k : Nat, k ≤ l.length ∧ i = i64 k ∧ ∃ ys, wr.ownsRow w.heap.size 38 3 (.slice (some ⟨w.heap.size, 0, none⟩) l.length l.length) l.length ys ∧
      (∀ i (hi : i < l.length) j, j < 3 → i < k → ys[i * 3 + j]? = (l[i].cells)[j]?) ∧ Below w.heap.size w wr) (fun i _ => l.length - (intOf i).toNat)
  case atStart =>
    refine ⟨0, by omega, rfl, _, World.ownsRow_lit w _ l.length (Nat.le_refl _) (by unfold maxLen; omega) (size_madeCells _ _), fun i hi j hj h0 => by omega, (Below.refl _ _).alloc (Nat.le_refl _) _⟩
  case round =>
    obtain ⟨k, hk, rfl, ys, hown, hys, hbel⟩ := hrel
    by_cases hlt : k < l.length
    · obtain ⟨b, off, rfl, hb, c0, c1, c2⟩ := df_at (h.below hbel) hlt
      have hwl := (own_block hown rfl).2.1
      have hlen := hown.1
      have d0 := hown.cellAt (k * 3) (by omega)
      have d1 := hown.cellAt (k * 3 + 1) (by omega)
      have d2 := hown.cellAt (k * 3 + 2) (by omega)
      rw [List.getElem?_eq_getElem (by omega)] at d0 d1 d2
      have f0 := fun i => hown.frozenAt i
      have HY := Lib.hid hys
      clear hys h
      go_wp2_with (first | (go_at_call 53; refine (toDefect_any _ _).mono ?_; rintro e w' ⟨rfl, g, rfl⟩) | ((with_reducible refine wp_region_up (by kernel_rfl) (by kernel_rfl) ?_); (repeat (go_big_quiet_step (first | (go_at_call 53; first | exact upq_tr (toDefect_any _ _) | exact upq (toDefect_any _ _))))); refine wpQuiet_nil ?_; intro _ hw'; obtain ⟨nq, hw''⟩ := hw'; subst hw''))
      go_roundw
      case rel =>
        go_light
        have s1 := (own_up hown g).stored (k * 3) (.string l[k].name)
        have s2 := s1.1.stored (k * 3 + 1) (i64 l[k].weight)
        have s3 := s2.1.stored (k * 3 + 2) (.string l[k].signs)
        refine ⟨k + 1, by omega, by go_num, _, s3.1, fun i hi j hj hik => df_set HY.out hlen hi hj hik hlt, ?_⟩
        exact ((((hbel.trans (g.below.mono hbel.size)).setCell (Nat.le_refl _) _).setCell (Nat.le_refl _) _).setCell (Nat.le_refl _) _)
      case measure => simp [intOf]; omega
    · go_wp2_with (first | ((with_reducible refine wp_region_up (by kernel_rfl) (by kernel_rfl) ?_); (repeat (go_big_quiet_step (fail))); refine wpQuiet_nil ?_; intro _ hw'; obtain ⟨nq, hw''⟩ := hw'; subst hw''))
      go_ret
      obtain rfl : k = l.length := by omega
      have hy : ys = dfcs l := flat_ext df_clen l hown.1 (fun i hi j hj => hys i hi j hj hi)
      rw [hy] at hown
      exact ⟨_, rfl, hown, UpOf.of hbel⟩
/-- the elements that mark n places, from number k on -/
def dfM (k n : Nat) : List Defect := (List.range n).map fun (i : Nat) => ⟨mt ((k : Int) + 3 * i), (k : Int) + 3 * i + 1, mt ((k : Int) + 3 * i + 1 + 1)⟩
theorem dfM_len (k n : Nat) : (dfM k n).length = n := by simp [dfM]
theorem dfM_get {k n i : Nat} (h : i < (dfM k n).length) : (dfM k n)[i] = ⟨mt ((k : Int) + 3 * i), (k : Int) + 3 * i + 1, mt ((k : Int) + 3 * i + 1 + 1)⟩ := by simp [dfM]
set_option maxRecDepth 10000 in
theorem markDefectS_any (base : Nat) (A : Option Addr) (n c k0 : Nat) (xs : List Value) (w : World) (h : w.ownsRow base 38 3 (.slice A n c) n xs) (hk0 : 1 ≤ k0) (hn : k0 + 3 * n < 1000000000) :
    Calls Try.prog 32 #[.slice A n c, i64 k0] w fun e w' => e = .returned (i64 ((k0 + 3 * n : Nat) : Int)) ∧ w'.ownsRow base 38 3 (.slice A n c) n (dfcs (dfM k0 n)) ∧ w.grownBy w' (Value.slice A n c).ownBlock := by
  go_enter Try.func32, Try.ntmps32
  go_wp2_with (first | ((with_reducible refine wp_region_up (by kernel_rfl) (by kernel_rfl) ?_); (repeat (go_big_quiet_step (fail))); refine wpQuiet_nil ?_; intro _ hw'; obtain ⟨nq, hw''⟩ := hw'; subst hw''))
  go_loopw [1, 5] (fun kk i wr => ∃ k : Nat, k ≤ n ∧ i = i64 k ∧ kk = i64 ((k0 : Int) + 3 * k) ∧ ∃ ys, wr.ownsRow base 38 3 (.slice A n c) n ys ∧
      (∀ i (hi : i < (dfM k0 n).length) j, j < 3 → i < k → ys[i * 3 + j]? = ((dfM k0 n)[i].cells)[j]?) ∧ w.grownBy wr (Value.slice A n c).ownBlock) (fun _ i _ => n - (intOf i).toNat)
  case atStart => exact ⟨0, by omega, rfl, by go_num, xs, h, fun i hi j hj h0 => by omega, grown_refl _ _⟩
  case round =>
    obtain ⟨k, hk, rfl, rfl, ys, hown, hys, hgr⟩ := hrel
    by_cases hlt : k < n
    · obtain ⟨b, off, rfl, hb, hc⟩ := (Rds.of_own hown).at (by omega)
      obtain ⟨hb0, hb1, rfl⟩ := own_block hown rfl
      have hlen := hown.1
      have d0 := hown.cellAt (k * 3) (by omega)
      have d1 := hown.cellAt (k * 3 + 1) (by omega)
      have d2 := hown.cellAt (k * 3 + 2) (by omega)
      rw [List.getElem?_eq_getElem (by omega)] at d0 d1 d2
      have f0 := fun i => hown.frozenAt i
      have HY := Lib.hid hys
      clear hc h hys
      go_wp2_with fail
      refine (markText_any _ _ (by omega) (by omega)).mono ?_
      rintro e w' ⟨rfl, q1, rfl⟩
      go_wp2_with fail
      refine (markText_any _ _ (by omega) (by omega)).mono ?_
      rintro e w' ⟨rfl, q2, rfl⟩
      go_wp2_with fail
      go_roundw
      case rel =>
        go_light
        have s1 := (own_up hown q1).stored (k * 3) (.string (mt ((k0 : Int) + 3 * k)))
        have s2 := s1.1.stored (k * 3 + 1) (i64 ((k0 : Int) + 3 * k + 1))
        have s3 := (own_up s2.1 q2).stored (k * 3 + 2) (.string (mt ((k0 : Int) + 3 * k + 1 + 1)))
        refine ⟨k + 1, by omega, by go_num, by go_num, _, ?_, fun i hi j hj hik => df_set HY.out hlen hi hj hik hlt (h := ⟨mt ((k0 : Int) + 3 * k), (k0 : Int) + 3 * k + 1, mt ((k0 : Int) + 3 * k + 1 + 1)⟩) (fun hk => dfM_get hk), ?_⟩
        · exact s3.1
        · exact (grown_trans (grown_trans (grown_trans (grown_trans (grown_trans hgr (grown_up q1 _)) s1.2) s2.2) (grown_up q2 _)) s3.2)
      case measure => simp [intOf]; omega
    · go_wp2_with (first | ((with_reducible refine wp_region_up (by kernel_rfl) (by kernel_rfl) ?_); (repeat (go_big_quiet_step (fail))); refine wpQuiet_nil ?_; intro _ hw'; obtain ⟨nq, hw''⟩ := hw'; subst hw''))
      go_ret
      obtain rfl : k = n := by omega
      have hy : ys = dfcs (dfM k0 k) := flat_ext df_clen _ (by rw [dfM_len]; exact hown.1) (fun i hi j hj => hys i hi j hj (by rw [dfM_len] at hi; exact hi))
      rw [hy] at hown
      exact ⟨ret_int (by omega), hown, hgr⟩
end Go.Proofs.Ytfggbcmpgkhlaaa

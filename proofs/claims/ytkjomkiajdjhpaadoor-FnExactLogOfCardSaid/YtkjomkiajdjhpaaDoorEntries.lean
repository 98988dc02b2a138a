/-
  Entries: contracts of the laws' own functions on lists of them (measured, copied, equal, marked, held). The bounds stand at each.
-/
import Derived.Test.YtkjomkiajdjhpaaDoorEncs
import Derived.Test.YtkjomkiajdjhpaaDoorMark
namespace Go.Proofs.YtkjomkiajdjhpaaDoor
open Go.RowKit
theorem en_set {l : List Entry} {ys : List Value} {k i j n : Nat} (hys : ∀ i (hi : i < l.length) j, j < 3 → i < k → ys[i * 3 + j]? = (l[i].cells)[j]?) (hlen : ys.length = n * 3) (hi : i < l.length) (hj : j < 3) (hik : i < k + 1) (hk : k < n)
    {h : Entry} (he : ∀ (hk : k < l.length), l[k] = h := by intro; rfl) :
    (((ys.set (k * 3) (i64 h.day)).set (k * 3 + 1) (.string h.what)).set (k * 3 + 2) (i64 h.value))[i * 3 + j]? = (l[i].cells)[j]? := by
  by_cases hik' : i = k
  · subst hik'
    rw [he hi]
    match j, hj with
    | 0, _ => rw [List.getElem?_set_ne (by omega), List.getElem?_set_ne (by omega), Nat.add_zero, List.getElem?_set_self (by first | omega | (simp only [List.length_set]; omega))]; rfl
    | 1, _ => rw [List.getElem?_set_ne (by omega), List.getElem?_set_self (by first | omega | (simp only [List.length_set]; omega))]; rfl
    | 2, _ => rw [List.getElem?_set_self (by first | omega | (simp only [List.length_set]; omega))]; rfl
  · rw [List.getElem?_set_ne (by omega), List.getElem?_set_ne (by omega), List.getElem?_set_ne (by omega)]
    exact hys i hi j hj (by omega)
def enTotN (l : List Entry) : Nat → Nat
  | 0 => 0
  | k + 1 => enTotN l k + (match l[k]? with | some h => enTot1 h | none => 0)
theorem enTotN_at {l : List Entry} {k : Nat} (hk : k < l.length) : enTotN l (k + 1) = enTotN l k + enTot1 l[k] := by rw [enTotN, List.getElem?_eq_getElem hk]
theorem enTotN_mono (l : List Entry) (i j : Nat) : enTotN l i ≤ enTotN l (i + j) := by
  induction j with
  | zero => exact Nat.le_refl _
  | succ j ih => exact Nat.le_trans ih (by rw [← Nat.add_assoc, enTotN]; omega)
def enTot (l : List Entry) : Nat := l.length + enTotN l l.length
theorem enTot_len (l : List Entry) : l.length ≤ enTot l := by simp [enTot]
set_option maxRecDepth 10000 in
theorem szEntryS_any (A : Option Addr) (c : Nat) (l : List Entry) (k : Int) (w : World) (h : Rds w 3 A l.length (encs l)) (hk : 0 ≤ k) (hk1 : k ≤ 1048576) (hn : l.length ≤ 9223372036854775807) (hs : ∀ h ∈ l, h.what.size ≤ 9223372036854775807) :
    Calls Tryd.prog 18 #[.slice A l.length c, i64 k] w fun e w' => e = .returned (i64 (szR k (enTot l))) ∧ UpOf w w' := by
  have HS := Lib.hid hs
  have ht : Hid ((enTot l : Int) = l.length + enTotN l l.length) := by show (enTot l : Int) = _; simp [enTot]
  clear hs
  by_cases q : k < l.length
  · go_enter Tryd.func18, Tryd.ntmps18
    go_wp2_with (first | ((with_reducible refine wp_region_up (by kernel_rfl) (by kernel_rfl) ?_); (repeat (go_big_quiet_step (fail))); refine wpQuiet_nil ?_; intro _ hw'; obtain ⟨nq, hw''⟩ := hw'; subst hw''))
    go_ret
    exact ⟨ret_int (by rw [szR_no (by have := ht.out; omega)]), UpOf.of (by repeat (first | exact Below.refl _ _ | refine bl_tr ?_ _ | refine bl_al ?_ _ | refine bl_dr ?_ | refine bl_up ?_ _ | refine Below.drew ?_ | refine bl_alloc ?_ _ | refine Below.setCell ?_ (by first | (simp; done) | (simp; omega)) _))⟩
  · go_enter Tryd.func18, Tryd.ntmps18
    go_wp2_with (first | ((with_reducible refine wp_region_up (by kernel_rfl) (by kernel_rfl) ?_); (repeat (go_big_quiet_step (fail))); refine wpQuiet_nil ?_; intro _ hw'; obtain ⟨nq, hw''⟩ := hw'; subst hw''))
    go_loopw [1, 5] (fun lf i wr => ∃ j : Nat, j ≤ l.length ∧ i = i64 j ∧ lf = i64 (k - l.length - enTotN l j) ∧ (l.length : Int) + enTotN l j ≤ k ∧ ∃ g : Up w, wr = up w g) (fun _ i _ => l.length - (intOf i).toNat)
    case atStart => exact ⟨0, by omega, rfl, by simp [enTotN], by simp [enTotN]; omega, ex_up (by repeat (first | exact Below.refl _ _ | refine bl_tr ?_ _ | refine bl_al ?_ _ | refine bl_dr ?_ | refine bl_up ?_ _ | refine Below.drew ?_ | refine bl_alloc ?_ _ | refine Below.setCell ?_ (by first | (simp; done) | (simp; omega)) _))⟩
    case round =>
      obtain ⟨j, hj, rfl, rfl, hle, g, rfl⟩ := hrel
      by_cases hlt : j < l.length
      · obtain ⟨b, off, rfl, hb, c0, c1, c2⟩ := en_at h hlt
        have hN := Lib.hid (enTotN_at hlt)
        have hm := Lib.hid (enTotN_mono l (j + 1) (l.length - (j + 1)))
        by_cases q2 : k - l.length - enTotN l j < enTot1 l[j]
        · have hs2 : szR (k - (l.length : Int) - enTotN l j) (enTot1 l[j]) = -1 := szR_no q2
          go_wp2_with (first | (go_at_call 14; refine (szEntry_any _ _ _ (by omega) (by omega) (HS.out _ (List.getElem_mem hlt))).mono ?_; rintro e w' ⟨rfl, g, rfl⟩) | ((with_reducible refine wp_region_up (by kernel_rfl) (by kernel_rfl) ?_); (repeat (go_big_quiet_step (first | (go_at_call 14; first | exact upq_tr (szEntry_any _ _ _ (by omega) (by omega) (HS.out _ (List.getElem_mem hlt))) | exact upq (szEntry_any _ _ _ (by omega) (by omega) (HS.out _ (List.getElem_mem hlt))))))); refine wpQuiet_nil ?_; intro _ hw'; obtain ⟨nq, hw''⟩ := hw'; subst hw''))
          go_ret
          refine ⟨ret_int ?_, UpOf.of (by repeat (first | exact Below.refl _ _ | refine bl_tr ?_ _ | refine bl_al ?_ _ | refine bl_dr ?_ | refine bl_up ?_ _ | refine Below.drew ?_ | refine bl_alloc ?_ _ | refine Below.setCell ?_ (by first | (simp; done) | (simp; omega)) _))⟩
          have h1 := hN.out
          have h2 := hm.out
          have h3 := ht.out
          rw [show j + 1 + (l.length - (j + 1)) = l.length by omega] at h2
          rw [szR_no (by omega)]
        · have hs2 : szR (k - (l.length : Int) - enTotN l j) (enTot1 l[j]) = k - (l.length : Int) - enTotN l j - enTot1 l[j] := szR_ok q2
          go_wp2_with (first | (go_at_call 14; refine (szEntry_any _ _ _ (by omega) (by omega) (HS.out _ (List.getElem_mem hlt))).mono ?_; rintro e w' ⟨rfl, g, rfl⟩) | ((with_reducible refine wp_region_up (by kernel_rfl) (by kernel_rfl) ?_); (repeat (go_big_quiet_step (first | (go_at_call 14; first | exact upq_tr (szEntry_any _ _ _ (by omega) (by omega) (HS.out _ (List.getElem_mem hlt))) | exact upq (szEntry_any _ _ _ (by omega) (by omega) (HS.out _ (List.getElem_mem hlt))))))); refine wpQuiet_nil ?_; intro _ hw'; obtain ⟨nq, hw''⟩ := hw'; subst hw''))
          go_roundw
          case rel =>
            have h1 := hN.out
            exact ⟨j + 1, by omega, by go_num, by rw [h1]; go_num, by omega, ex_up (by repeat (first | exact Below.refl _ _ | refine bl_tr ?_ _ | refine bl_al ?_ _ | refine bl_dr ?_ | refine bl_up ?_ _ | refine Below.drew ?_ | refine bl_alloc ?_ _ | refine Below.setCell ?_ (by first | (simp; done) | (simp; omega)) _))⟩
          case measure => (simp [intOf]; try omega)
      · obtain rfl : j = l.length := by omega
        go_wp2_with (first | ((with_reducible refine wp_region_up (by kernel_rfl) (by kernel_rfl) ?_); (repeat (go_big_quiet_step (fail))); refine wpQuiet_nil ?_; intro _ hw'; obtain ⟨nq, hw''⟩ := hw'; subst hw''))
        go_ret
        refine ⟨ret_int ?_, UpOf.of (by repeat (first | exact Below.refl _ _ | refine bl_tr ?_ _ | refine bl_al ?_ _ | refine bl_dr ?_ | refine bl_up ?_ _ | refine Below.drew ?_ | refine bl_alloc ?_ _ | refine Below.setCell ?_ (by first | (simp; done) | (simp; omega)) _))⟩
        have h3 := ht.out
        rw [szR_ok (by omega)]
        omega
theorem eqEntry_any (h : Entry) (w : World) :
    Calls Tryd.prog 58 #[env h, env h] w fun e w' => e = .returned (.bool true) ∧ UpOf w w' := by
  go_enter Tryd.func58, Tryd.ntmps58
  go_wp2_with (first | ((with_reducible refine wp_region_up (by kernel_rfl) (by kernel_rfl) ?_); (repeat (go_big_quiet_step (fail))); refine wpQuiet_nil ?_; intro _ hw'; obtain ⟨nq, hw''⟩ := hw'; subst hw''))
  go_ret
  exact ⟨rfl, UpOf.of (by repeat (first | exact Below.refl _ _ | refine bl_tr ?_ _ | refine bl_al ?_ _ | refine bl_dr ?_ | refine bl_up ?_ _ | refine Below.drew ?_ | refine bl_alloc ?_ _ | refine Below.setCell ?_ (by first | (simp; done) | (simp; omega)) _))⟩
set_option maxRecDepth 10000 in
theorem eqEntryS_any (A A' : Option Addr) (c c' : Nat) (l : List Entry) (w : World) (h : Rds w 3 A l.length (encs l)) (h' : Rds w 3 A' l.length (encs l)) (hn : l.length ≤ 100000000) :
    Calls Tryd.prog 22 #[.slice A l.length c, .slice A' l.length c'] w fun e w' => e = .returned (.bool true) ∧ UpOf w w' := by
  go_enter Tryd.func22, Tryd.ntmps22
  go_wp2_with (first | ((with_reducible refine wp_region_up (by kernel_rfl) (by kernel_rfl) ?_); (repeat (go_big_quiet_step (fail))); refine wpQuiet_nil ?_; intro _ hw'; obtain ⟨nq, hw''⟩ := hw'; subst hw''))
  go_loopw [5] (fun i wr => ∃ k : Nat, k ≤ l.length ∧ i = .int .i64 k ∧ ∃ g : Up w, wr = up w g) (fun i _ => l.length - (intOf i).toNat)
  case atStart => exact ⟨0, by omega, rfl, ⟨w, Below.refl _ _⟩, rfl⟩
  case round =>
    obtain ⟨k, hk, rfl, g, rfl⟩ := hrel
    by_cases hlt : k < l.length
    · obtain ⟨b, off, rfl, hb, c0, c1, c2⟩ := en_at h hlt
      obtain ⟨b', off', rfl, hb', d0, d1, d2⟩ := en_at h' hlt
      clear h h'
      go_wp2_with (first | (go_at_call 58; refine (eqEntry_any _ _).mono ?_; rintro e w' ⟨rfl, g, rfl⟩) | ((with_reducible refine wp_region_up (by kernel_rfl) (by kernel_rfl) ?_); (repeat (go_big_quiet_step (first | (go_at_call 58; first | exact upq_tr (eqEntry_any _ _) | exact upq (eqEntry_any _ _))))); refine wpQuiet_nil ?_; intro _ hw'; obtain ⟨nq, hw''⟩ := hw'; subst hw''))
      go_roundw
      case rel => exact ⟨k + 1, by omega, by go_num, _, rfl⟩
      case measure => simp [intOf]; omega
    · go_wp2_with (first | ((with_reducible refine wp_region_up (by kernel_rfl) (by kernel_rfl) ?_); (repeat (go_big_quiet_step (fail))); refine wpQuiet_nil ?_; intro _ hw'; obtain ⟨nq, hw''⟩ := hw'; subst hw''))
      go_ret
      exact ⟨rfl, UpOf.of (by repeat (first | exact Below.refl _ _ | refine bl_tr ?_ _ | refine bl_al ?_ _ | refine bl_dr ?_ | refine bl_up ?_ _ | refine Below.drew ?_ | refine bl_alloc ?_ _ | refine Below.setCell ?_ (by first | (simp; done) | (simp; omega)) _))⟩
set_option maxRecDepth 10000 in
theorem toEntryS_any (A : Option Addr) (c : Nat) (l : List Entry) (w : World) (h : Rds w 3 A l.length (encs l)) (hn : l.length ≤ 100000000) :
    Calls Tryd.prog 20 #[.slice A l.length c] w fun e w' => ∃ b : Nat, e = .returned (.slice (some ⟨b, 0, none⟩) l.length l.length) ∧ w'.ownsRow w.heap.size 27 3 (.slice (some ⟨b, 0, none⟩) l.length l.length) l.length (encs l) ∧ UpOf w w' := by
  have hi : (Tryd.prog.info? 27).map (fun i => (i.zero, i.size, i.bytes)) = some (some (.agg #[i64 0, .string ByteArray.empty, i64 0]), 3, 32) := by kernel_rfl
  obtain ⟨i0, hi, hz0, hz1, hz2⟩ := info_parts hi
  have hmk : ∀ u : World, (Instr.makeSlice 34 (i64 l.length) (i64 l.length)).run Tryd.prog u = .ok (.slice (some ⟨u.heap.size, 0, none⟩) l.length l.length) (u.alloc (.cells (madeCells #[i64 0, .string ByteArray.empty, i64 0] (l.length * 3)) 27)) := fun u => by
    have h := run_make (P := Tryd.prog) u 34 27 i0 _ Tryd.underlying34 hi hz0 .i64 .i64 l.length l.length (by omega) (Int.le_refl _) (by rw [hz2]; omega) (by omega)
    simpa [hz1, Value.cells] using h
  clear hi hz0 hz1 hz2
  go_enter Tryd.func20, Tryd.ntmps20
  go_wp2_with (first | ((with_reducible refine wp_region_up (by kernel_rfl) (by kernel_rfl) ?_); (repeat (go_big_quiet_step (fail))); refine wpQuiet_nil ?_; intro _ hw'; obtain ⟨nq, hw''⟩ := hw'; subst hw''))
  go_loopw [4] (fun i wr => ∃ k : Nat, k ≤ l.length ∧ i = i64 k ∧ ∃ ys, wr.ownsRow w.heap.size 27 3 (.slice (some ⟨w.heap.size, 0, none⟩) l.length l.length) l.length ys ∧
      (∀ i (hi : i < l.length) j, j < 3 → i < k → ys[i * 3 + j]? = (l[i].cells)[j]?) ∧ Below w.heap.size w wr) (fun i _ => l.length - (intOf i).toNat)
  case atStart =>
    refine ⟨0, by omega, rfl, _, World.ownsRow_lit w _ l.length (Nat.le_refl _) (by unfold maxLen; omega) (size_madeCells _ _), fun i hi j hj h0 => by omega, (Below.refl _ _).alloc (Nat.le_refl _) _⟩
  case round =>
    obtain ⟨k, hk, rfl, ys, hown, hys, hbel⟩ := hrel
    by_cases hlt : k < l.length
    · obtain ⟨b, off, rfl, hb, c0, c1, c2⟩ := en_at (h.below hbel) hlt
      have hwl := (own_block hown rfl).2.1
      have hlen := hown.1
      have d0 := hown.cellAt (k * 3) (by omega)
      have d1 := hown.cellAt (k * 3 + 1) (by omega)
      have d2 := hown.cellAt (k * 3 + 2) (by omega)
      rw [List.getElem?_eq_getElem (by omega)] at d0 d1 d2
      have f0 := fun i => hown.frozenAt i
      have HY := Lib.hid hys
      clear hys h
      go_wp2_with (first | (go_at_call 16; refine (toEntry_any _ _).mono ?_; rintro e w' ⟨rfl, g, rfl⟩) | ((with_reducible refine wp_region_up (by kernel_rfl) (by kernel_rfl) ?_); (repeat (go_big_quiet_step (first | (go_at_call 16; first | exact upq_tr (toEntry_any _ _) | exact upq (toEntry_any _ _))))); refine wpQuiet_nil ?_; intro _ hw'; obtain ⟨nq, hw''⟩ := hw'; subst hw''))
      go_roundw
      case rel =>
        go_light
        have s1 := (own_up hown g).stored (k * 3) (i64 l[k].day)
        have s2 := s1.1.stored (k * 3 + 1) (.string l[k].what)
        have s3 := s2.1.stored (k * 3 + 2) (i64 l[k].value)
        refine ⟨k + 1, by omega, by go_num, _, s3.1, fun i hi j hj hik => en_set HY.out hlen hi hj hik hlt, ?_⟩
        exact ((((hbel.trans (g.below.mono hbel.size)).setCell (Nat.le_refl _) _).setCell (Nat.le_refl _) _).setCell (Nat.le_refl _) _)
      case measure => simp [intOf]; omega
    · go_wp2_with (first | ((with_reducible refine wp_region_up (by kernel_rfl) (by kernel_rfl) ?_); (repeat (go_big_quiet_step (fail))); refine wpQuiet_nil ?_; intro _ hw'; obtain ⟨nq, hw''⟩ := hw'; subst hw''))
      go_ret
      obtain rfl : k = l.length := by omega
      have hy : ys = encs l := flat_ext en_clen l hown.1 (fun i hi j hj => hys i hi j hj hi)
      rw [hy] at hown
      exact ⟨_, rfl, hown, UpOf.of hbel⟩
/-- the elements that mark n places, from number k on -/
def enM (k n : Nat) : List Entry := (List.range n).map fun (i : Nat) => ⟨(k : Int) + 3 * i, mt ((k : Int) + 3 * i + 1), (k : Int) + 3 * i + 1 + 1⟩
theorem enM_len (k n : Nat) : (enM k n).length = n := by simp [enM]
theorem enM_get {k n i : Nat} (h : i < (enM k n).length) : (enM k n)[i] = ⟨(k : Int) + 3 * i, mt ((k : Int) + 3 * i + 1), (k : Int) + 3 * i + 1 + 1⟩ := by simp [enM]
set_option maxRecDepth 10000 in
theorem heldEntryS_any (A : Option Addr) (n c k0 : Nat) (w : World) (h : Rds w 3 A n (encs (enM k0 n))) (hk0 : 1 ≤ k0) (hn : k0 + 3 * n < 1000000000) :
    Calls Tryd.prog 47 #[.slice A n c, i64 k0] w fun e w' => e = .returned (i64 ((k0 + 3 * n : Nat) : Int)) ∧ UpOf w w' := by
  go_enter Tryd.func47, Tryd.ntmps47
  go_wp2_with (first | ((with_reducible refine wp_region_up (by kernel_rfl) (by kernel_rfl) ?_); (repeat (go_big_quiet_step (fail))); refine wpQuiet_nil ?_; intro _ hw'; obtain ⟨nq, hw''⟩ := hw'; subst hw''))
  go_loopw [1, 5] (fun kk i wr => ∃ k : Nat, k ≤ n ∧ i = i64 k ∧ kk = i64 ((k0 : Int) + 3 * k) ∧ ∃ g : Up w, wr = up w g) (fun _ i _ => n - (intOf i).toNat)
  case atStart => exact ⟨0, by omega, rfl, by go_num, ⟨w, Below.refl _ _⟩, rfl⟩
  case round =>
    obtain ⟨k, hk, rfl, rfl, g, rfl⟩ := hrel
    by_cases hlt : k < n
    · obtain ⟨b, off, rfl, hb, c0, c1, c2⟩ := en_at (l := enM k0 n) (by rw [enM_len]; exact h) (k := k) (by rw [enM_len]; exact hlt)
      rw [enM_get] at c0 c1 c2
      simp only at c0 c1 c2
      clear h
      go_wp2_with (first | (go_at_call 70; refine (markText_any _ _ (by omega) (by omega)).mono ?_; rintro e w' ⟨rfl, g, rfl⟩) | ((with_reducible refine wp_region_up (by kernel_rfl) (by kernel_rfl) ?_); (repeat (go_big_quiet_step (first | (go_at_call 70; first | exact upq_tr (markText_any _ _ (by omega) (by omega)) | exact upq (markText_any _ _ (by omega) (by omega)))))); refine wpQuiet_nil ?_; intro _ hw'; obtain ⟨nq, hw''⟩ := hw'; subst hw''))
      go_roundw
      case rel => exact ⟨k + 1, by omega, by go_num, by go_num, _, rfl⟩
      case measure => simp [intOf]; omega
    · go_wp2_with (first | ((with_reducible refine wp_region_up (by kernel_rfl) (by kernel_rfl) ?_); (repeat (go_big_quiet_step (fail))); refine wpQuiet_nil ?_; intro _ hw'; obtain ⟨nq, hw''⟩ := hw'; subst hw''))
      go_ret
      obtain rfl : k = n := by omega
      exact ⟨ret_int (by omega), UpOf.of (by repeat (first | exact Below.refl _ _ | refine bl_tr ?_ _ | refine bl_al ?_ _ | refine bl_dr ?_ | refine bl_up ?_ _ | refine Below.drew ?_ | refine bl_alloc ?_ _ | refine Below.setCell ?_ (by first | (simp; done) | (simp; omega)) _))⟩
set_option maxRecDepth 10000 in
theorem markEntryS_any (base : Nat) (A : Option Addr) (n c k0 : Nat) (xs : List Value) (w : World) (h : w.ownsRow base 27 3 (.slice A n c) n xs) (hk0 : 1 ≤ k0) (hn : k0 + 3 * n < 1000000000) :
    Calls Tryd.prog 46 #[.slice A n c, i64 k0] w fun e w' => e = .returned (i64 ((k0 + 3 * n : Nat) : Int)) ∧ w'.ownsRow base 27 3 (.slice A n c) n (encs (enM k0 n)) ∧ w.grownBy w' (Value.slice A n c).ownBlock := by
  go_enter Tryd.func46, Tryd.ntmps46
  go_wp2_with (first | ((with_reducible refine wp_region_up (by kernel_rfl) (by kernel_rfl) ?_); (repeat (go_big_quiet_step (fail))); refine wpQuiet_nil ?_; intro _ hw'; obtain ⟨nq, hw''⟩ := hw'; subst hw''))
  go_loopw [1, 5] (fun kk i wr => ∃ k : Nat, k ≤ n ∧ i = i64 k ∧ kk = i64 ((k0 : Int) + 3 * k) ∧ ∃ ys, wr.ownsRow base 27 3 (.slice A n c) n ys ∧
      (∀ i (hi : i < (enM k0 n).length) j, j < 3 → i < k → ys[i * 3 + j]? = ((enM k0 n)[i].cells)[j]?) ∧ w.grownBy wr (Value.slice A n c).ownBlock) (fun _ i _ => n - (intOf i).toNat)
  case atStart => exact ⟨0, by omega, rfl, by go_num, xs, h, fun i hi j hj h0 => by omega, grown_refl _ _⟩
  case round =>
    obtain ⟨k, hk, rfl, rfl, ys, hown, hys, hgr⟩ := hrel
    by_cases hlt : k < n
    · obtain ⟨b, off, rfl, hb, hc⟩ := (Rds.of_own hown).at (by omega)
      obtain ⟨hb0, hb1, rfl⟩ := own_block hown rfl
      have hlen := hown.1
      have d0 := hown.cellAt (k * 3) (by omega)
      have d1 := hown.cellAt (k * 3 + 1) (by omega)
      have d2 := hown.cellAt (k * 3 + 2) (by omega)
      rw [List.getElem?_eq_getElem (by omega)] at d0 d1 d2
      have f0 := fun i => hown.frozenAt i
      have HY := Lib.hid hys
      clear hc h hys
      go_wp2_with fail
      refine (markText_any _ _ (by omega) (by omega)).mono ?_
      rintro e w' ⟨rfl, q1, rfl⟩
      go_wp2_with fail
      go_roundw
      case rel =>
        go_light
        have s1 := hown.stored (k * 3) (i64 ((k0 : Int) + 3 * k))
        have s2 := (own_up s1.1 q1).stored (k * 3 + 1) (.string (mt ((k0 : Int) + 3 * k + 1)))
        have s3 := s2.1.stored (k * 3 + 2) (i64 ((k0 : Int) + 3 * k + 1 + 1))
        refine ⟨k + 1, by omega, by go_num, by go_num, _, ?_, fun i hi j hj hik => en_set HY.out hlen hi hj hik hlt (h := ⟨(k0 : Int) + 3 * k, mt ((k0 : Int) + 3 * k + 1), (k0 : Int) + 3 * k + 1 + 1⟩) (fun hk => enM_get hk), ?_⟩
        · exact s3.1
        · exact (grown_trans (grown_trans (grown_trans (grown_trans hgr s1.2) (grown_up q1 _)) s2.2) s3.2)
      case measure => simp [intOf]; omega
    · go_wp2_with (first | ((with_reducible refine wp_region_up (by kernel_rfl) (by kernel_rfl) ?_); (repeat (go_big_quiet_step (fail))); refine wpQuiet_nil ?_; intro _ hw'; obtain ⟨nq, hw''⟩ := hw'; subst hw''))
      go_ret
      obtain rfl : k = n := by omega
      have hy : ys = encs (enM k0 k) := flat_ext en_clen _ (by rw [enM_len]; exact hown.1) (fun i hi j hj => hys i hi j hj (by rw [enM_len] at hi; exact hi))
      rw [hy] at hown
      exact ⟨ret_int (by omega), hown, hgr⟩
end Go.Proofs.YtkjomkiajdjhpaaDoor

/-
  Breaks: contracts of the laws' own functions on lists of them (measured, copied, equal, marked, held). The bounds stand at each.
-/
import Derived.Test.YtiibpldfnnhhlaaRows
import Derived.Test.YtiibpldfnnhhlaaFlat
namespace Go.Proofs.Ytiibpldfnnhhlaa
open Go.RowKit
structure Brk where
  fr : Int
  pr : Int
def Brk.cells (h : Brk) : List Value := [i64 h.fr, i64 h.pr]
abbrev bkv (h : Brk) : Value := .agg #[i64 h.fr, i64 h.pr]
def bkcs (l : List Brk) : List Value := l.flatMap Brk.cells
theorem bk_clen (h : Brk) : h.cells.length = 2 := rfl
theorem bk_len (l : List Brk) : (bkcs l).length = l.length * 2 := flat_len bk_clen l
theorem bk_one (l : List Brk) : ∀ u ∈ bkcs l, u.oneCell' = true := by
  intro u hu
  simp only [bkcs, List.mem_flatMap, Brk.cells, List.mem_cons, List.not_mem_nil, or_false] at hu
  obtain ⟨a, _, rfl | rfl⟩ := hu <;> rfl
theorem bk_at {w : World} {A : Option Addr} {l : List Brk} (h : Rds w 2 A l.length (bkcs l)) {k : Nat} (hk : k < l.length) :
    ∃ b off, A = some ⟨b, off, none⟩ ∧ b < w.heap.size ∧ w.cell? ⟨b, off + k * 2, none⟩ = some (i64 l[k].fr) ∧ w.cell? ⟨b, off + k * 2 + 1, none⟩ = some (i64 l[k].pr) := by
  obtain ⟨b, off, e, hb, hc⟩ := rds_elem bk_clen h hk (by omega)
  exact ⟨b, off, e, hb, hc 0 _ rfl, hc 1 _ rfl⟩
theorem bk_set {l : List Brk} {ys : List Value} {k i j n : Nat} (hys : ∀ i (hi : i < l.length) j, j < 2 → i < k → ys[i * 2 + j]? = (l[i].cells)[j]?) (hlen : ys.length = n * 2) (hi : i < l.length) (hj : j < 2) (hik : i < k + 1) (hk : k < n)
    {h : Brk} (he : ∀ (hk : k < l.length), l[k] = h := by intro; rfl) :
    ((ys.set (k * 2) (i64 h.fr)).set (k * 2 + 1) (i64 h.pr))[i * 2 + j]? = (l[i].cells)[j]? := by
  by_cases hik' : i = k
  · subst hik'
    rw [he hi]
    match j, hj with
    | 0, _ => rw [List.getElem?_set_ne (by omega), Nat.add_zero, List.getElem?_set_self (by first | omega | (simp only [List.length_set]; omega))]; rfl
    | 1, _ => rw [List.getElem?_set_self (by first | omega | (simp only [List.length_set]; omega))]; rfl
  · rw [List.getElem?_set_ne (by omega), List.getElem?_set_ne (by omega)]
    exact hys i hi j hj (by omega)
def bkTot (l : List Brk) : Nat := l.length
theorem szBreakS_any (A : Option Addr) (c : Nat) (l : List Brk) (k : Int) (w : World) (hk : 0 ≤ k) (hk1 : k ≤ 1048576) (hn : l.length ≤ 9223372036854775807) :
    Calls Try.prog 88 #[.slice A l.length c, i64 k] w fun e w' => e = .returned (i64 (szR k l.length)) ∧ UpOf w w' := by
  by_cases h : k < l.length
  · go_enter Try.func88, Try.ntmps88
    go_wp2_with (first | ((with_reducible refine wp_region_up (by kernel_rfl) (by kernel_rfl) ?_); (repeat (go_big_quiet_step (fail))); refine wpQuiet_nil ?_; intro _ hw'; obtain ⟨nq, hw''⟩ := hw'; subst hw''))
    go_ret
    exact ⟨ret_int (szR_no (by omega)).symm, UpOf.of (by repeat (first | exact Below.refl _ _ | refine bl_tr ?_ _ | refine bl_al ?_ _ | refine bl_dr ?_ | refine bl_up ?_ _ | refine Below.drew ?_ | refine bl_alloc ?_ _ | refine Below.setCell ?_ (by first | (simp; done) | (simp; omega)) _))⟩
  · go_enter Try.func88, Try.ntmps88
    go_wp2_with (first | ((with_reducible refine wp_region_up (by kernel_rfl) (by kernel_rfl) ?_); (repeat (go_big_quiet_step (fail))); refine wpQuiet_nil ?_; intro _ hw'; obtain ⟨nq, hw''⟩ := hw'; subst hw''))
    go_ret
    exact ⟨ret_int (szR_ok (by omega)).symm, UpOf.of (by repeat (first | exact Below.refl _ _ | refine bl_tr ?_ _ | refine bl_al ?_ _ | refine bl_dr ?_ | refine bl_up ?_ _ | refine Below.drew ?_ | refine bl_alloc ?_ _ | refine Below.setCell ?_ (by first | (simp; done) | (simp; omega)) _))⟩
theorem toBreak_any (h : Brk) (w : World) :
    Calls Try.prog 98 #[bkv h] w fun e w' => e = .returned (bkv h) ∧ UpOf w w' := by
  go_enter Try.func98, Try.ntmps98
  go_wp2_with (first | ((with_reducible refine wp_region_up (by kernel_rfl) (by kernel_rfl) ?_); (repeat (go_big_quiet_step (fail))); refine wpQuiet_nil ?_; intro _ hw'; obtain ⟨nq, hw''⟩ := hw'; subst hw''))
  exact bodyPost_ret (v := bkv h) (by simp [results, Try.results98, go_sem]) rfl ⟨rfl, UpOf.of (by repeat (first | exact Below.refl _ _ | refine bl_tr ?_ _ | refine bl_al ?_ _ | refine bl_dr ?_ | refine bl_up ?_ _ | refine Below.drew ?_ | refine bl_alloc ?_ _ | refine Below.setCell ?_ (by first | (simp; done) | (simp; omega)) _))⟩
theorem eqBreak_any (h : Brk) (w : World) :
    Calls Try.prog 99 #[bkv h, bkv h] w fun e w' => e = .returned (.bool true) ∧ UpOf w w' := by
  go_enter Try.func99, Try.ntmps99
  go_wp2_with (first | ((with_reducible refine wp_region_up (by kernel_rfl) (by kernel_rfl) ?_); (repeat (go_big_quiet_step (fail))); refine wpQuiet_nil ?_; intro _ hw'; obtain ⟨nq, hw''⟩ := hw'; subst hw''))
  go_ret
  exact ⟨rfl, UpOf.of (by repeat (first | exact Below.refl _ _ | refine bl_tr ?_ _ | refine bl_al ?_ _ | refine bl_dr ?_ | refine bl_up ?_ _ | refine Below.drew ?_ | refine bl_alloc ?_ _ | refine Below.setCell ?_ (by first | (simp; done) | (simp; omega)) _))⟩
set_option maxRecDepth 10000 in
theorem eqBreakS_any (A A' : Option Addr) (c c' : Nat) (l : List Brk) (w : World) (h : Rds w 2 A l.length (bkcs l)) (h' : Rds w 2 A' l.length (bkcs l)) (hn : l.length ≤ 100000000) :
    Calls Try.prog 90 #[.slice A l.length c, .slice A' l.length c'] w fun e w' => e = .returned (.bool true) ∧ UpOf w w' := by
  go_enter Try.func90, Try.ntmps90
  go_wp2_with (first | ((with_reducible refine wp_region_up (by kernel_rfl) (by kernel_rfl) ?_); (repeat (go_big_quiet_step (fail))); refine wpQuiet_nil ?_; intro _ hw'; obtain ⟨nq, hw''⟩ := hw'; subst hw''))
  go_loopw [5] (fun i wr => ∃ k : Nat, k ≤ l.length ∧ i = .int .i64 k ∧ ∃ g : Up w, wr = up w g) (fun i _ => l.length - (intOf i).toNat)
  case atStart => exact ⟨0, by omega, rfl, ⟨w, Below.refl _ _⟩, rfl⟩
  case round =>
    obtain ⟨k, hk, rfl, g, rfl⟩ := hrel
    by_cases hlt : k < l.length
    · obtain ⟨b, off, rfl, hb, c0, c1⟩ := bk_at h hlt
      obtain ⟨b', off', rfl, hb', d0, d1⟩ := bk_at h' hlt
      clear h h'
      go_wp2_with (first | (go_at_call 99; refine (eqBreak_any _ _).mono ?_; rintro e w' ⟨rfl, g, rfl⟩) | ((with_reducible refine wp_region_up (by kernel_rfl) (by kernel_rfl) ?_); (repeat (go_big_quiet_step (first | (go_at_call 99; first | exact upq_tr (eqBreak_any _ _) | exact upq (eqBreak_any _ _))))); refine wpQuiet_nil ?_; intro _ hw'; obtain ⟨nq, hw''⟩ := hw'; subst hw''))
      go_roundw
      case rel => exact ⟨k + 1, by omega, by go_num, _, rfl⟩
      case measure => simp [intOf]; omega
    · go_wp2_with (first | ((with_reducible refine wp_region_up (by kernel_rfl) (by kernel_rfl) ?_); (repeat (go_big_quiet_step (fail))); refine wpQuiet_nil ?_; intro _ hw'; obtain ⟨nq, hw''⟩ := hw'; subst hw''))
      go_ret
      exact ⟨rfl, UpOf.of (by repeat (first | exact Below.refl _ _ | refine bl_tr ?_ _ | refine bl_al ?_ _ | refine bl_dr ?_ | refine bl_up ?_ _ | refine Below.drew ?_ | refine bl_alloc ?_ _ | refine Below.setCell ?_ (by first | (simp; done) | (simp; omega)) _))⟩
set_option maxRecDepth 10000 in
theorem toBreakS_any (A : Option Addr) (c : Nat) (l : List Brk) (w : World) (h : Rds w 2 A l.length (bkcs l)) (hn : l.length ≤ 100000000) :
    Calls Try.prog 89 #[.slice A l.length c] w fun e w' => ∃ b : Nat, e = .returned (.slice (some ⟨b, 0, none⟩) l.length l.length) ∧ w'.ownsRow w.heap.size 76 2 (.slice (some ⟨b, 0, none⟩) l.length l.length) l.length (bkcs l) ∧ UpOf w w' := by
  have hi : (Try.prog.info? 76).map (fun i => (i.zero, i.size, i.bytes)) = some (some (.agg #[i64 0, i64 0]), 2, 16) := by kernel_rfl
  obtain ⟨i0, hi, hz0, hz1, hz2⟩ := info_parts hi
  have hmk : ∀ u : World, (Instr.makeSlice 72 (i64 l.length) (i64 l.length)).run Try.prog u = .ok (.slice (some ⟨u.heap.size, 0, none⟩) l.length l.length) (u.alloc (.cells (madeCells #[i64 0, i64 0] (l.length * 2)) 76)) := fun u => by
    have h := run_make (P := Try.prog) u 72 76 i0 _ Try.underlying72 hi hz0 .i64 .i64 l.length l.length (by omega) (Int.le_refl _) (by rw [hz2]; omega) (by omega)
    simpa [hz1, Value.cells] using h
  clear hi hz0 hz1 hz2
  go_enter Try.func89, Try.ntmps89
  go_wp2_with (first | ((with_reducible refine wp_region_up (by kernel_rfl) (by kernel_rfl) ?_); (repeat (go_big_quiet_step (fail))); refine wpQuiet_nil ?_; intro _ hw'; obtain ⟨nq, hw''⟩ := hw'; subst hw''))
  go_loopw [4] (fun i wr => ∃ k : Nat, k ≤ l.length ∧ i = i64 k ∧ ∃ ys, wr.ownsRow w.heap.size 76 2 (.slice (some ⟨w.heap.size, 0, none⟩) l.length l.length) l.length ys ∧
      (∀ i (hi : i < l.length) j, j < 2 → i < k → ys[i * 2 + j]? = (l[i].cells)[j]?) ∧ Below w.heap.size w wr) (fun i _ => l.length - (intOf i).toNat)
  case atStart =>
    refine ⟨0, by omega, rfl, _, World.ownsRow_lit w _ l.length (Nat.le_refl _) (by unfold maxLen; omega) (size_madeCells _ _), fun i hi j hj h0 => by omega, (Below.refl _ _).alloc (Nat.le_refl _) _⟩
  case round =>
    obtain ⟨k, hk, rfl, ys, hown, hys, hbel⟩ := hrel
    by_cases hlt : k < l.length
    · obtain ⟨b, off, rfl, hb, c0, c1⟩ := bk_at (h.below hbel) hlt
      have hwl := (own_block hown rfl).2.1
      have hlen := hown.1
      have d0 := hown.cellAt (k * 2) (by omega)
      have d1 := hown.cellAt (k * 2 + 1) (by omega)
      rw [List.getElem?_eq_getElem (by omega)] at d0 d1
      have f0 := fun i => hown.frozenAt i
      have HY := Lib.hid hys
      clear hys h
      go_wp2_with (first | (go_at_call 98; refine (toBreak_any _ _).mono ?_; rintro e w' ⟨rfl, g, rfl⟩) | ((with_reducible refine wp_region_up (by kernel_rfl) (by kernel_rfl) ?_); (repeat (go_big_quiet_step (first | (go_at_call 98; first | exact upq_tr (toBreak_any _ _) | exact upq (toBreak_any _ _))))); refine wpQuiet_nil ?_; intro _ hw'; obtain ⟨nq, hw''⟩ := hw'; subst hw''))
      go_roundw
      case rel =>
        go_light
        have s1 := (own_up hown g).stored (k * 2) (i64 l[k].fr)
        have s2 := s1.1.stored (k * 2 + 1) (i64 l[k].pr)
        refine ⟨k + 1, by omega, by go_num, _, s2.1, fun i hi j hj hik => bk_set HY.out hlen hi hj hik hlt, ?_⟩
        exact (((hbel.trans (g.below.mono hbel.size)).setCell (Nat.le_refl _) _).setCell (Nat.le_refl _) _)
      case measure => simp [intOf]; omega
    · go_wp2_with (first | ((with_reducible refine wp_region_up (by kernel_rfl) (by kernel_rfl) ?_); (repeat (go_big_quiet_step (fail))); refine wpQuiet_nil ?_; intro _ hw'; obtain ⟨nq, hw''⟩ := hw'; subst hw''))
      go_ret
      obtain rfl : k = l.length := by omega
      have hy : ys = bkcs l := flat_ext bk_clen l hown.1 (fun i hi j hj => hys i hi j hj hi)
      rw [hy] at hown
      exact ⟨_, rfl, hown, UpOf.of hbel⟩
/-- the elements that mark n places, from number k on -/
def bkM (k n : Nat) : List Brk := (List.range n).map fun (i : Nat) => ⟨(k : Int) + 2 * i, (k : Int) + 2 * i + 1⟩
theorem bkM_len (k n : Nat) : (bkM k n).length = n := by simp [bkM]
theorem bkM_get {k n i : Nat} (h : i < (bkM k n).length) : (bkM k n)[i] = ⟨(k : Int) + 2 * i, (k : Int) + 2 * i + 1⟩ := by simp [bkM]
set_option maxRecDepth 10000 in
theorem heldBreakS_any (A : Option Addr) (n c k0 : Nat) (w : World) (h : Rds w 2 A n (bkcs (bkM k0 n))) (hk0 : 1 ≤ k0) (hn : k0 + 2 * n < 1000000000) :
    Calls Try.prog 74 #[.slice A n c, i64 k0] w fun e w' => e = .returned (i64 ((k0 + 2 * n : Nat) : Int)) ∧ UpOf w w' := by
  go_enter Try.func74, Try.ntmps74
  go_wp2_with (first | ((with_reducible refine wp_region_up (by kernel_rfl) (by kernel_rfl) ?_); (repeat (go_big_quiet_step (fail))); refine wpQuiet_nil ?_; intro _ hw'; obtain ⟨nq, hw''⟩ := hw'; subst hw''))
  go_loopw [1, 5] (fun kk i wr => ∃ k : Nat, k ≤ n ∧ i = i64 k ∧ kk = i64 ((k0 : Int) + 2 * k) ∧ ∃ g : Up w, wr = up w g) (fun _ i _ => n - (intOf i).toNat)
  case atStart => exact ⟨0, by omega, rfl, by go_num, ⟨w, Below.refl _ _⟩, rfl⟩
  case round =>
    obtain ⟨k, hk, rfl, rfl, g, rfl⟩ := hrel
    by_cases hlt : k < n
    · obtain ⟨b, off, rfl, hb, c0, c1⟩ := bk_at (l := bkM k0 n) (by rw [bkM_len]; exact h) (k := k) (by rw [bkM_len]; exact hlt)
      rw [bkM_get] at c0 c1
      simp only at c0 c1
      clear h
      go_wp2_with (first | ((with_reducible refine wp_region_up (by kernel_rfl) (by kernel_rfl) ?_); (repeat (go_big_quiet_step (fail))); refine wpQuiet_nil ?_; intro _ hw'; obtain ⟨nq, hw''⟩ := hw'; subst hw''))
      go_roundw
      case rel => exact ⟨k + 1, by omega, by go_num, by go_num, _, rfl⟩
      case measure => simp [intOf]; omega
    · go_wp2_with (first | ((with_reducible refine wp_region_up (by kernel_rfl) (by kernel_rfl) ?_); (repeat (go_big_quiet_step (fail))); refine wpQuiet_nil ?_; intro _ hw'; obtain ⟨nq, hw''⟩ := hw'; subst hw''))
      go_ret
      obtain rfl : k = n := by omega
      exact ⟨ret_int (by omega), UpOf.of (by repeat (first | exact Below.refl _ _ | refine bl_tr ?_ _ | refine bl_al ?_ _ | refine bl_dr ?_ | refine bl_up ?_ _ | refine Below.drew ?_ | refine bl_alloc ?_ _ | refine Below.setCell ?_ (by first | (simp; done) | (simp; omega)) _))⟩
set_option maxRecDepth 10000 in
theorem markBreakS_any (base : Nat) (A : Option Addr) (n c k0 : Nat) (xs : List Value) (w : World) (h : w.ownsRow base 76 2 (.slice A n c) n xs) (hk0 : 1 ≤ k0) (hn : k0 + 2 * n < 1000000000) :
    Calls Try.prog 73 #[.slice A n c, i64 k0] w fun e w' => e = .returned (i64 ((k0 + 2 * n : Nat) : Int)) ∧ w'.ownsRow base 76 2 (.slice A n c) n (bkcs (bkM k0 n)) ∧ w.grownBy w' (Value.slice A n c).ownBlock := by
  go_enter Try.func73, Try.ntmps73
  go_wp2_with (first | ((with_reducible refine wp_region_up (by kernel_rfl) (by kernel_rfl) ?_); (repeat (go_big_quiet_step (fail))); refine wpQuiet_nil ?_; intro _ hw'; obtain ⟨nq, hw''⟩ := hw'; subst hw''))
  go_loopw [1, 5] (fun kk i wr => ∃ k : Nat, k ≤ n ∧ i = i64 k ∧ kk = i64 ((k0 : Int) + 2 * k) ∧ ∃ ys, wr.ownsRow base 76 2 (.slice A n c) n ys ∧
      (∀ i (hi : i < (bkM k0 n).length) j, j < 2 → i < k → ys[i * 2 + j]? = ((bkM k0 n)[i].cells)[j]?) ∧ w.grownBy wr (Value.slice A n c).ownBlock) (fun _ i _ => n - (intOf i).toNat)
  case atStart => exact ⟨0, by omega, rfl, by go_num, xs, h, fun i hi j hj h0 => by omega, grown_refl _ _⟩
  case round =>
    obtain ⟨k, hk, rfl, rfl, ys, hown, hys, hgr⟩ := hrel
    by_cases hlt : k < n
    · obtain ⟨b, off, rfl, hb, hc⟩ := (Rds.of_own hown).at (by omega)
      obtain ⟨hb0, hb1, rfl⟩ := own_block hown rfl
      have hlen := hown.1
      have d0 := hown.cellAt (k * 2) (by omega)
      have d1 := hown.cellAt (k * 2 + 1) (by omega)
      rw [List.getElem?_eq_getElem (by omega)] at d0 d1
      have f0 := fun i => hown.frozenAt i
      have HY := Lib.hid hys
      clear hc h hys
      go_wp2_with (first | ((with_reducible refine wp_region_up (by kernel_rfl) (by kernel_rfl) ?_); (repeat (go_big_quiet_step (fail))); refine wpQuiet_nil ?_; intro _ hw'; obtain ⟨nq, hw''⟩ := hw'; subst hw''))
      go_roundw
      case rel =>
        go_light
        have s1 := hown.stored (k * 2) (i64 ((k0 : Int) + 2 * k))
        have s2 := s1.1.stored (k * 2 + 1) (i64 ((k0 : Int) + 2 * k + 1))
        refine ⟨k + 1, by omega, by go_num, by go_num, _, ?_, fun i hi j hj hik => bk_set HY.out hlen hi hj hik hlt (h := ⟨(k0 : Int) + 2 * k, (k0 : Int) + 2 * k + 1⟩) (fun hk => bkM_get hk), ?_⟩
        · exact s2.1
        · exact (grown_trans (grown_trans hgr s1.2) s2.2)
      case measure => simp [intOf]; omega
    · go_wp2_with (first | ((with_reducible refine wp_region_up (by kernel_rfl) (by kernel_rfl) ?_); (repeat (go_big_quiet_step (fail))); refine wpQuiet_nil ?_; intro _ hw'; obtain ⟨nq, hw''⟩ := hw'; subst hw''))
      go_ret
      obtain rfl : k = n := by omega
      have hy : ys = bkcs (bkM k0 k) := flat_ext bk_clen _ (by rw [bkM_len]; exact hown.1) (fun i hi j hj => hys i hi j hj (by rw [bkM_len] at hi; exact hi))
      rw [hy] at hown
      exact ⟨ret_int (by omega), hown, hgr⟩
end Go.Proofs.Ytiibpldfnnhhlaa

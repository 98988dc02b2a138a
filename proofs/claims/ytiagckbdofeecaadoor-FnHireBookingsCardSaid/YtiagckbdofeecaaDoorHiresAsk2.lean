/-
  The reference's drawing of hires with days, a hire or a text, whatever the bytes are. The bounds stand at each.
-/
import Derived.Test.YtiagckbdofeecaaDoorDrawHires
import Derived.Test.YtiagckbdofeecaaDoorSpoil
import Derived.Test.YtiagckbdofeecaaDoorHireText
namespace Go.Proofs.YtiagckbdofeecaaDoor
open Go.RowKit
def nfPost (w : World) (e : Ending) (w' : World) : Prop :=
  ∃ (l : List Hire) (A1 : Option Addr) (c1 : Nat) (N d t : Int), e = .returned (.tuple #[.slice A1 l.length c1, i64 N, i64 d, i64 t]) ∧ Rds w' 3 A1 l.length (hcs l) ∧ (l.length ≤ c1 ∧ ∃ q, A1 = some ⟨q, 0, none⟩) ∧ l.length ≤ 61 ∧ UpOf w w'
set_option maxRecDepth 10000 in
set_option maxHeartbeats 1000000 in
theorem l25Days_any (A : Option Addr) (n c : Nat) (zs : List Int) (w : World) (hz : ∀ z ∈ zs, 0 ≤ z ∧ z ≤ 255) (h : Rds w 1 A n (bytes zs)) (hn : n ≤ 4096) :
    Calls Tryd.prog 41 #[.slice A n c] w (nfPost w) := by
  go_enter Tryd.func41, Tryd.ntmps41
  have HR := Lib.hid h
  clear h
  go_wp2_with fail
  refine (l00From_any A n c _).mono ?_
  rintro e w1 ⟨rfl, rfl⟩
  have B0 := Lib.hid (byt_new hz HR.out (.cells #[.slice A n c, .int .i64 0, .int .u64 0] 87))
  go_wp2_with fail
  refine (l25Bent_any w.heap.size A n c 0 _ (src_new w A n c) B0.out (by omega) (by omega)).mono ?_
  rintro e w2 ⟨l, A1, c1, N, k2, rfl, hw, ⟨hl, hA1⟩, hN, hk2, hs2, hg2⟩
  have HA1 := Lib.hid hA1
  clear hA1
  have O2 := Lib.hid hw
  have S2 := Lib.hid hs2
  have B2 := Lib.hid (B0.out.grown hg2)
  have G2 := Lib.hid hg2
  have hq2 : w.heap.size < w2.heap.size := Nat.lt_of_lt_of_le (by simp) G2.out.size
  clear hw hs2 hg2 B0
  go_wp2_with fail
  refine (pick_any w.heap.size A n c k2 44 w2 S2.out B2.out (by omega) (by omega) (by omega)).mono ?_
  rintro e w3 ⟨x, k3, rfl, y0, y1, hk3, hs3, hg3⟩
  have O3 := Lib.hid (own_keepK O2.out hg3 (fun x e e2 => by injection e with e; have h9 := (O2.out.lt x e2).1; simp at h9; omega))
  have S3 := Lib.hid hs3
  have B3 := Lib.hid (B2.out.grown hg3)
  have G3 := Lib.hid (grown_trans G2.out hg3)
  clear hs3 hg3 O2 S2 B2 G2
  go_wp2_with fail
  refine (pick_any w.heap.size A n c k3 12 w3 S3.out B3.out (by omega) (by omega) (by omega)).mono ?_
  rintro e w4 ⟨y, k4, rfl, z0, z1, hk4, hs4, hg4⟩
  have O4 := Lib.hid (own_keepK O3.out hg4 (fun x e e2 => by injection e with e; have h9 := (O3.out.lt x e2).1; simp at h9; omega))
  have S4 := Lib.hid hs4
  have B4 := Lib.hid (B3.out.grown hg4)
  have G4 := Lib.hid (grown_trans G3.out hg4)
  clear hs4 hg4 O3 S3 B3 G3
  have hq4 : w.heap.size < w4.heap.size := Nat.lt_of_lt_of_le (by simp) G4.out.size
  by_cases t0 : y = 0
  · subst t0
    go_wp2_with fail
    refine (among_any w.heap.size A n c k4 (some ⟨w4.heap.size, 0, none⟩) 4 [-1, 0, 3649, 3650] _ (S4.out.alloc _) (B4.out.alloc _) (by omega) (by omega) (rds_newA 1 4 rfl rfl) (by decide) (by decide) (adr_neH hq4)).mono ?_
    rintro e w5 ⟨v5, k5, rfl, ⟨d5, hd5, rfl⟩, hk5, hs5, hg5⟩
    have O5 := Lib.hid (own_keepK (own_below O4.out ((Below.refl _ _).alloc (Nat.le_refl _) _)) hg5 (fun x e e2 => by injection e with e; have h9 := (O4.out.lt x e2).1; simp at h9; omega))
    have S5 := Lib.hid hs5
    have B5 := Lib.hid ((B4.out.alloc _).grown hg5)
    have G5 := Lib.hid (grown_trans (gr_alloc G4.out _) hg5)
    clear hs5 hg5 O4 S4 B4 G4
    go_wp2_with fail
    (try simp only [Exit.inBlock, Exit.then])
    refine bodyPost_ret (results_tmp4K rfl _ _ _) rfl ?_
    exact ⟨l, A1, c1, N, d5, 3650, rfl, Rds.of_own O5.out, ⟨own_capH O5.out, HA1.out⟩, hl, (up_of_grown ((Below.refl _ _).alloc (Nat.le_refl _) _) G5.out (fun k hk => by injection hk with hk; omega))⟩
  by_cases t1 : y = 1
  · subst t1
    go_wp2_with fail
    refine (among_any w.heap.size A n c k4 (some ⟨w4.heap.size, 0, none⟩) 3 [x, 3650, 3651] _ (S4.out.alloc _) (B4.out.alloc _) (by omega) (by omega) (rds_newA 1 3 rfl rfl) (by simp) (by simp) (adr_neH hq4)).mono ?_
    rintro e w5 ⟨v5, k5, rfl, ⟨d5, hd5, rfl⟩, hk5, hs5, hg5⟩
    have O5 := Lib.hid (own_keepK (own_below O4.out ((Below.refl _ _).alloc (Nat.le_refl _) _)) hg5 (fun x e e2 => by injection e with e; have h9 := (O4.out.lt x e2).1; simp at h9; omega))
    have S5 := Lib.hid hs5
    have B5 := Lib.hid ((B4.out.alloc _).grown hg5)
    have G5 := Lib.hid (grown_trans (gr_alloc G4.out _) hg5)
    clear hs5 hg5 O4 S4 B4 G4
    go_wp2_with fail
    (try simp only [Exit.inBlock, Exit.then])
    refine bodyPost_ret (results_tmp4K rfl _ _ _) rfl ?_
    exact ⟨l, A1, c1, N, x, d5, rfl, Rds.of_own O5.out, ⟨own_capH O5.out, HA1.out⟩, hl, (up_of_grown ((Below.refl _ _).alloc (Nat.le_refl _) _) G5.out (fun k hk => by injection hk with hk; omega))⟩
  · have u0 : (y == 0) = false := by rw [beq_eq_false_iff_ne]; exact t0
    have u1 : (y == 1) = false := by rw [beq_eq_false_iff_ne]; exact t1
    go_wp2_with fail
    refine (pick_any w.heap.size A n c k4 9 w4 S4.out B4.out (by omega) (by omega) (by omega)).mono ?_
    rintro e w5 ⟨d5, k5, rfl, a0, a1, hk5, hs5, hg5⟩
    have O5 := Lib.hid (own_keepK O4.out hg5 (fun x e e2 => by injection e with e; have h9 := (O4.out.lt x e2).1; simp at h9; omega))
    have S5 := Lib.hid hs5
    have B5 := Lib.hid (B4.out.grown hg5)
    have G5 := Lib.hid (grown_trans G4.out hg5)
    clear hs5 hg5 O4 S4 B4 G4
    go_wp2_with fail
    (try simp only [Exit.inBlock, Exit.then])
    refine bodyPost_ret (results_tmp4K rfl _ _ _) rfl ?_
    exact ⟨l, A1, c1, N, x, _, rfl, Rds.of_own O5.out, ⟨own_capH O5.out, HA1.out⟩, hl, (up_of_grown ((Below.refl _ _).alloc (Nat.le_refl _) _) G5.out (fun k hk => by injection hk with hk; omega))⟩
set_option maxRecDepth 10000 in
theorem drawBookAny_any (A : Option Addr) (n c : Nat) (zs : List Int) (w : World) (hz : ∀ z ∈ zs, 0 ≤ z ∧ z ≤ 255) (h : Rds w 1 A n (bytes zs)) (hn : n ≤ 4096) :
    Calls Tryd.prog 13 #[.slice A n c] w (nfPost w) := by
  have HR := Lib.hid h
  clear h
  go_enter Tryd.func13, Tryd.ntmps13
  go_wp2_with fail
  refine (l25Days_any A n c zs _ hz HR.out hn).mono ?_
  rintro e w1 ⟨l, A1, c1, N, d, t, rfl, hr, hc, hl, g1, rfl⟩
  have R1 := Lib.hid hr
  clear hr
  go_wp2_with fail
  (try simp only [Exit.inBlock, Exit.then])
  refine bodyPost_ret (results_tmp4K rfl _ _ _) rfl ?_
  exact ⟨l, A1, c1, N, d, t, rfl, R1.out.below (by repeat (first | exact Below.refl _ _ | refine bl_tr ?_ _ | refine bl_al ?_ _ | refine bl_dr ?_ | refine bl_up ?_ _ | refine Below.drew ?_ | refine bl_alloc ?_ _ | refine Below.setCell ?_ (by first | (simp; done) | (simp; omega)) _)), hc, hl, UpOf.of (by repeat (first | exact Below.refl _ _ | refine bl_tr ?_ _ | refine bl_al ?_ _ | refine bl_dr ?_ | refine bl_up ?_ _ | refine Below.drew ?_ | refine bl_alloc ?_ _ | refine Below.setCell ?_ (by first | (simp; done) | (simp; omega)) _))⟩
set_option maxRecDepth 10000 in
set_option maxHeartbeats 1000000 in
theorem drawReturnEarly_any (A : Option Addr) (n c : Nat) (zs : List Int) (w : World) (hz : ∀ z ∈ zs, 0 ≤ z ∧ z ≤ 255) (h : Rds w 1 A n (bytes zs)) (hn : n ≤ 4096) :
    Calls Tryd.prog 21 #[.slice A n c] w (nfPost w) := by
  go_enter Tryd.func21, Tryd.ntmps21
  have HR := Lib.hid h
  clear h
  go_wp2_with fail
  refine (l00From_any A n c _).mono ?_
  rintro e w1 ⟨rfl, rfl⟩
  have B0 := Lib.hid (byt_new hz HR.out (.cells #[.slice A n c, .int .i64 0, .int .u64 0] 87))
  go_wp2_with fail
  refine (l25Bent_any w.heap.size A n c 0 _ (src_new w A n c) B0.out (by omega) (by omega)).mono ?_
  rintro e w2 ⟨l, A1, c1, N, k2, rfl, hw, ⟨hl, hA1⟩, hN, hk2, hs2, hg2⟩
  have HA1 := Lib.hid hA1
  clear hA1
  have O2 := Lib.hid hw
  have S2 := Lib.hid hs2
  have B2 := Lib.hid (B0.out.grown hg2)
  have G2 := Lib.hid hg2
  have hq2 : w.heap.size < w2.heap.size := Nat.lt_of_lt_of_le (by simp) G2.out.size
  clear hw hs2 hg2 B0
  have hw1 : IntKind.i64.wrap ((l.length : Int) + 1) = (l.length : Int) + 1 := by rw [IntKind.wrap_i64]; omega
  go_wp2_with fail
  refine (pick_any w.heap.size A n c k2 ((l.length : Int) + 1) w2 S2.out B2.out (by omega) (by omega) (by omega)).mono ?_
  rintro e w3 ⟨x, k3, rfl, y0, y1, hk3, hs3, hg3⟩
  have O3 := Lib.hid (own_keepK O2.out hg3 (fun x e e2 => by injection e with e; have h9 := (O2.out.lt x e2).1; simp at h9; omega))
  have S3 := Lib.hid hs3
  have B3 := Lib.hid (B2.out.grown hg3)
  have G3 := Lib.hid (grown_trans G2.out hg3)
  clear hs3 hg3 O2 S2 B2 G2
  go_wp2_with fail
  refine (pick_any w.heap.size A n c k3 16 w3 S3.out B3.out (by omega) (by omega) (by omega)).mono ?_
  rintro e w4 ⟨y, k4, rfl, z0, z1, hk4, hs4, hg4⟩
  have O4 := Lib.hid (own_keepK O3.out hg4 (fun x e e2 => by injection e with e; have h9 := (O3.out.lt x e2).1; simp at h9; omega))
  have S4 := Lib.hid hs4
  have B4 := Lib.hid (B3.out.grown hg4)
  have G4 := Lib.hid (grown_trans G3.out hg4)
  clear hs4 hg4 O3 S3 B3 G3
  go_wp2_with fail
  refine (one_any w.heap.size A n c k4 10 w4 S4.out B4.out (by omega) (by omega) (by omega)).mono ?_
  rintro e w6 ⟨t6, k6, rfl, hk6, hs6, hg6⟩
  have O6 := Lib.hid (own_keepK O4.out hg6 (fun x e e2 => by injection e with e; have h9 := (O4.out.lt x e2).1; simp at h9; omega))
  have S6 := Lib.hid hs6
  have B6 := Lib.hid (B4.out.grown hg6)
  have G6 := Lib.hid (grown_trans G4.out hg6)
  clear hs6 hg6 O4 S4 B4 G4
  have hq6 : w.heap.size < w6.heap.size := Nat.lt_of_lt_of_le (by simp) G6.out.size
  cases t6 with
  | true =>
    go_wp2_with fail
    refine (among_any w.heap.size A n c k6 (some ⟨w6.heap.size, 0, none⟩) 4 [-1, 0, 3650, 3651] _ (S6.out.alloc _) (B6.out.alloc _) (by omega) (by omega) (rds_newA 1 4 rfl rfl) (by decide) (by decide) (adr_neH hq6)).mono ?_
    rintro e w7 ⟨v7, k7, rfl, ⟨d7, hd7, rfl⟩, hk7, hs7, hg7⟩
    have O7 := Lib.hid (own_keepK (own_below O6.out ((Below.refl _ _).alloc (Nat.le_refl _) _)) hg7 (fun x e e2 => by injection e with e; have h9 := (O6.out.lt x e2).1; simp at h9; omega))
    have S7 := Lib.hid hs7
    have B7 := Lib.hid ((B6.out.alloc _).grown hg7)
    have G7 := Lib.hid (grown_trans (gr_alloc G6.out _) hg7)
    clear hs7 hg7 O6 S6 B6 G6
    go_wp2_with fail
    (try simp only [Exit.inBlock, Exit.then])
    refine bodyPost_ret (results_tmp4K rfl _ _ _) rfl ?_
    exact ⟨l, A1, c1, N, _, d7, rfl, Rds.of_own O7.out, ⟨own_capH O7.out, HA1.out⟩, hl, (up_of_grown ((Below.refl _ _).alloc (Nat.le_refl _) _) G7.out (fun k hk => by injection hk with hk; omega))⟩
  | false =>
    go_wp2_with fail
    refine (pick_any w.heap.size A n c k6 50 w6 S6.out B6.out (by omega) (by omega) (by omega)).mono ?_
    rintro e w7 ⟨d7, k7, rfl, a0, a1, hk7, hs7, hg7⟩
    have O7 := Lib.hid (own_keepK O6.out hg7 (fun x e e2 => by injection e with e; have h9 := (O6.out.lt x e2).1; simp at h9; omega))
    have S7 := Lib.hid hs7
    have B7 := Lib.hid (B6.out.grown hg7)
    have G7 := Lib.hid (grown_trans G6.out hg7)
    clear hs7 hg7 O6 S6 B6 G6
    go_wp2_with fail
    (try simp only [Exit.inBlock, Exit.then])
    refine bodyPost_ret (results_tmp4K rfl _ _ _) rfl ?_
    exact ⟨l, A1, c1, N, _, d7, rfl, Rds.of_own O7.out, ⟨own_capH O7.out, HA1.out⟩, hl, (up_of_grown ((Below.refl _ _).alloc (Nat.le_refl _) _) G7.out (fun k hk => by injection hk with hk; omega))⟩
end Go.Proofs.YtiagckbdofeecaaDoor

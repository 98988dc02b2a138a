/-
  The reference's drawing of hires with one more hire, whatever the bytes are. The bounds stand at each.
-/
import Derived.Test.YtiagckbdofeecaaDoorHiresAsk3
import Derived.Test.YtiagckbdofeecaaDoorAppAt
namespace Go.Proofs.YtiagckbdofeecaaDoor
open Go.RowKit
def bookPost (w : World) (e : Ending) (w' : World) : Prop :=
  ∃ (l : List Hire) (A1 : Option Addr) (c1 : Nat) (N : Int) (x : Hire), e = .returned (.tuple #[.slice A1 l.length c1, i64 N, hv x]) ∧ Rds w' 3 A1 l.length (hcs l) ∧ (l.length ≤ c1 ∧ ∃ q, A1 = some ⟨q, 0, none⟩) ∧ l.length ≤ 61 ∧ UpOf w w'
theorem l00MaxB_any (a b : Int) (w : World) : Calls Tryd.prog 52 #[i64 a, i64 b] w fun e w' => e = .returned (i64 (if a > b then a else b)) ∧ w = w' := by
  by_cases h : a > b
  · rw [if_pos h]
    go_enter Tryd.func52, Tryd.ntmps52
    go_wp2_with fail
    go_ret
    exact ⟨rfl, rfl⟩
  · rw [if_neg h]
    go_enter Tryd.func52, Tryd.ntmps52
    go_wp2_with fail
    go_ret
    exact ⟨rfl, rfl⟩
/-- what stands at the end: the result's cell, the hire, the list -/
structure BKS (w U : World) (q5 base : Nat) (A1 : Option Addr) (c1 : Nat) (l : List Hire) (y : Hire) : Prop where
  z : Blk U w.heap.size 25 (hcl ⟨0, 0, 0⟩)
  q : Blk U q5 25 (hcl y)
  o : U.ownsRow base 25 3 (.slice A1 l.length c1) l.length (hcs l)
  u : UpOf w U
theorem own_farH {U : World} {base n c : Nat} {A : Option Addr} {xs : List Value} {q : Nat} (o : U.ownsRow base 25 3 (.slice A n c) n xs) (h : ∀ k, (Value.slice A n c).ownBlock = some k → k ≠ q) (j : Nat) (u : Value) : (U.setCell ⟨q, j, none⟩ u).ownsRow base 25 3 (.slice A n c) n xs := by
  refine o.kept (row := some q) (grown_put U q j u) ?_
  cases hb : (Value.slice A n c).ownBlock with
  | none => exact .inl rfl
  | some k => exact .inr fun e => h k hb (by injection e)
theorem BKS.fin {w U : World} {q5 base : Nat} {A1 : Option Addr} {c1 : Nat} {l : List Hire} {y : Hire} (T : BKS w U q5 base A1 c1 l y) (hb : w.heap.size < base) :
    (w.heap.size < (((U.setCell ⟨w.heap.size, 0, none⟩ (i64 y.m)).setCell ⟨w.heap.size, 1, none⟩ (i64 y.f)).setCell ⟨w.heap.size, 2, none⟩ (i64 y.t)).drew.heap.size ∧
    (((U.setCell ⟨w.heap.size, 0, none⟩ (i64 y.m)).setCell ⟨w.heap.size, 1, none⟩ (i64 y.f)).setCell ⟨w.heap.size, 2, none⟩ (i64 y.t)).drew.cell? ⟨w.heap.size, 0, none⟩ = some (i64 y.m) ∧
    (((U.setCell ⟨w.heap.size, 0, none⟩ (i64 y.m)).setCell ⟨w.heap.size, 1, none⟩ (i64 y.f)).setCell ⟨w.heap.size, 2, none⟩ (i64 y.t)).drew.cell? ⟨w.heap.size, 1, none⟩ = some (i64 y.f) ∧
    (((U.setCell ⟨w.heap.size, 0, none⟩ (i64 y.m)).setCell ⟨w.heap.size, 1, none⟩ (i64 y.f)).setCell ⟨w.heap.size, 2, none⟩ (i64 y.t)).drew.cell? ⟨w.heap.size, 2, none⟩ = some (i64 y.t)) ∧
    Rds (((U.setCell ⟨w.heap.size, 0, none⟩ (i64 y.m)).setCell ⟨w.heap.size, 1, none⟩ (i64 y.f)).setCell ⟨w.heap.size, 2, none⟩ (i64 y.t)).drew 3 A1 l.length (hcs l) ∧ l.length ≤ c1 ∧
    UpOf w (((U.setCell ⟨w.heap.size, 0, none⟩ (i64 y.m)).setCell ⟨w.heap.size, 1, none⟩ (i64 y.f)).setCell ⟨w.heap.size, 2, none⟩ (i64 y.t)).drew := by
  have z := ((T.z.put 0 (i64 y.m)).put 1 (i64 y.f)).put 2 (i64 y.t)
  have hA : ∀ k, (Value.slice A1 l.length c1).ownBlock = some k → k ≠ w.heap.size := fun k hk => by have := (T.o.lt k hk).1; omega
  exact ⟨⟨z.lt, z.cell 0, z.cell 1, z.cell 2⟩, Rds.drew (Rds.of_own (own_farH (own_farH (own_farH T.o hA 0 _) hA 1 _) hA 2 _)), own_capH T.o,
    UpOf.of (Below.drew (((T.u.below.setCell (p := ⟨w.heap.size, 0, none⟩) (Nat.le_refl _) _).setCell (p := ⟨w.heap.size, 1, none⟩) (Nat.le_refl _) _).setCell (p := ⟨w.heap.size, 2, none⟩) (Nat.le_refl _) _))⟩
set_option maxRecDepth 10000 in
set_option maxHeartbeats 2000000 in
theorem drawBookHire_any (A : Option Addr) (n c : Nat) (zs : List Int) (w : World) (hz : ∀ z ∈ zs, 0 ≤ z ∧ z ≤ 255) (h : Rds w 1 A n (bytes zs)) (hn : n ≤ 4096) :
    Calls Tryd.prog 18 #[.slice A n c] w (bookPost w) := by
  have HR := Lib.hid h
  clear h
  go_enter Tryd.func18, Tryd.ntmps18
  go_wp2_with fail
  refine cg (R := fun V => Hid (Blk V w.heap.size 25 (hcl ⟨0, 0, 0⟩)) ∧ Hid (Rds V 1 A n (bytes zs)) ∧ Hid (UpOf w V) ∧ Hid (w.heap.size < V.heap.size)) ⟨Lib.hid (Blk.new _ _ _), Lib.hid (HR.out.below (by repeat (first | exact Below.refl _ _ | refine bl_tr ?_ _ | refine bl_al ?_ _ | refine bl_dr ?_ | refine bl_up ?_ _ | refine Below.drew ?_ | refine bl_alloc ?_ _ | refine Below.setCell ?_ (by first | (simp; done) | (simp; omega)) _))), Lib.hid UpOf.of (by repeat (first | exact Below.refl _ _ | refine bl_tr ?_ _ | refine bl_al ?_ _ | refine bl_dr ?_ | refine bl_up ?_ _ | refine Below.drew ?_ | refine bl_alloc ?_ _ | refine Below.setCell ?_ (by first | (simp; done) | (simp; omega)) _)), Lib.hid (by simp)⟩ (fun V z => ?_)
  obtain ⟨z1, z2, z3, z4⟩ := z
  clear HR
  refine (l00From_any A n c V).mono ?_
  rintro e w1 ⟨rfl, rfl⟩
  have B0 := Lib.hid (byt_new hz z2.out (.cells #[.slice A n c, .int .i64 0, .int .u64 0] 87))
  go_wp2_with fail
  refine (l25Bent_any V.heap.size A n c 0 _ (src_new V A n c) B0.out (by omega) (by omega)).mono ?_
  rintro e V2 ⟨l, A1, c1, N, k2, rfl, hw, ⟨hl, hA1⟩, hN, hk2, hs2, hg2⟩
  have HA1 := Lib.hid hA1
  clear hA1
  have Z2 := Lib.hid ((z1.out.alloc (.cells #[.slice A n c, .int .i64 0, .int .u64 0] 87)).grown hg2 (fun e => by injection e with e; have := z4.out; omega))
  have O2 := Lib.hid hw
  have S2 := Lib.hid hs2
  have B2 := Lib.hid (B0.out.grown hg2)
  have G2 := Lib.hid hg2
  clear hs2 hg2 B0 z1 z2 hw
  go_wp2_with fail
  refine (l00MaxB_any 1 N _).mono ?_
  rintro e w9 ⟨rfl, rfl⟩
  obtain ⟨M, hM, hMe⟩ : ∃ M : Int, M ≤ 1000000 ∧ (if 1 > N then 1 else N) = M := ⟨_, by split <;> omega, rfl⟩
  rw [hMe]
  clear hMe
  go_wp2_with fail
  refine (l25New_any V.heap.size A n c k2 M V2 S2.out B2.out (by omega) (by omega) hM).mono ?_
  rintro e V3 ⟨x, k3, rfl, hx, hk3, hs3, hg3⟩
  have Z3 := Lib.hid (Z2.out.grown hg3 (fun e => by injection e with e; have := z4.out; omega))
  have O3 := Lib.hid (own_keepK O2.out hg3 (fun x e e2 => by injection e with e; have h9 := (O2.out.lt x e2).1; simp at h9; omega))
  have S3 := Lib.hid hs3
  have B3 := Lib.hid (B2.out.grown hg3)
  have G3 := Lib.hid (grown_trans G2.out hg3)
  have hV3 := Lib.hid (show V.heap.size < V3.heap.size from Nat.lt_of_lt_of_le (by simp) G3.out.size)
  have HA := Lib.hid (fun k e => Nat.ne_of_lt ((O3.out.lt k e).2))
  clear hs3 hg3 hx Z2 O2 S2 B2 G2
  go_upto_region 4 with (fail)
  refine wpg (R := fun U => Hid (Blk U w.heap.size 25 (hcl ⟨0, 0, 0⟩)) ∧ Hid (Blk U V3.heap.size 25 (hcl x)) ∧ Hid (U.ownsRow (V.alloc (.cells #[.slice A n c, .int .i64 0, .int .u64 0] 87)).heap.size 25 3 (.slice A1 l.length c1) l.length (hcs l)) ∧ Hid (SrcAt U V.heap.size A n c k3) ∧ Hid (Byt U V.heap.size A n) ∧ Hid ((V.alloc (.cells #[.slice A n c, .int .i64 0, .int .u64 0] 87)).grownBy U (some V.heap.size))) ⟨Lib.hid (Z3.out.up ⟨_, (by repeat (first | exact Below.refl _ _ | refine bl_tr ?_ _ | refine bl_al ?_ _ | refine bl_dr ?_ | refine bl_up ?_ _ | refine Below.drew ?_ | refine bl_alloc ?_ _ | refine Below.setCell ?_ (by first | (simp; done) | (simp; omega)) _))⟩), Lib.hid (Blk.new _ _ _), Lib.hid (own_below O3.out (by repeat (first | exact Below.refl _ _ | refine bl_tr ?_ _ | refine bl_al ?_ _ | refine bl_dr ?_ | refine bl_up ?_ _ | refine Below.drew ?_ | refine bl_alloc ?_ _ | refine Below.setCell ?_ (by first | (simp; done) | (simp; omega)) _))), Lib.hid (S3.out.bel (by repeat (first | exact Below.refl _ _ | refine bl_tr ?_ _ | refine bl_al ?_ _ | refine bl_dr ?_ | refine bl_up ?_ _ | refine Below.drew ?_ | refine bl_alloc ?_ _ | refine Below.setCell ?_ (by first | (simp; done) | (simp; omega)) _))), Lib.hid (B3.out.bel (by repeat (first | exact Below.refl _ _ | refine bl_tr ?_ _ | refine bl_al ?_ _ | refine bl_dr ?_ | refine bl_up ?_ _ | refine Below.drew ?_ | refine bl_alloc ?_ _ | refine Below.setCell ?_ (by first | (simp; done) | (simp; omega)) _))), Lib.hid (gr_up G3.out ⟨_, (by repeat (first | exact Below.refl _ _ | refine bl_tr ?_ _ | refine bl_al ?_ _ | refine bl_dr ?_ | refine bl_up ?_ _ | refine Below.drew ?_ | refine bl_alloc ?_ _ | refine Below.setCell ?_ (by first | (simp; done) | (simp; omega)) _))⟩)⟩ (fun U z => ?_)
  clear Z3 O3 S3 B3 G3
  obtain ⟨Z3, Q3, O3, S3, B3, G3⟩ := z
  generalize V3.heap.size = q5 at *
  go_wp2_with fail
  refine (one_any V.heap.size A n c k3 6 U S3.out B3.out (by omega) (by omega) (by omega)).mono ?_
  rintro e U4 ⟨t, k4, rfl, hk4, hs4, hg4⟩
  have Z4 := Lib.hid (Z3.out.grown hg4 (fun e => by injection e with e; have := z4.out; omega))
  have Q4 := Lib.hid (Q3.out.grown hg4 (fun e => by injection e with e; have := hV3.out; omega))
  have O4 := Lib.hid (own_keepK O3.out hg4 (fun x e e2 => by injection e with e; have h9 := (O3.out.lt x e2).1; simp at h9; omega))
  have S4 := Lib.hid hs4
  have B4 := Lib.hid (B3.out.grown hg4)
  have G4 := Lib.hid (grown_trans G3.out hg4)
  have hup : ∀ W, (V.alloc (.cells #[.slice A n c, .int .i64 0, .int .u64 0] 87)).grownBy W (some V.heap.size) → UpOf w W := fun W hg => z3.out.tr (up_of_grown ((Below.refl _ _).alloc (Nat.le_refl _) _) hg (fun k hk => by injection hk with hk; omega)).below
  have HUP := Lib.hid hup
  clear hs4 hg4 Z3 Q3 O3 S3 B3 G3 hup
  go_upto_if 21 with (fail)
  go_cut [] (fun W => ∃ y : Hire, Hid (BKS w W q5 (V.alloc (.cells #[.slice A n c, .int .i64 0, .int .u64 0] 87)).heap.size A1 c1 l y))
  case first =>
    cases t with
    | false =>
      go_wp2_with fail
      go_meet
      exact ⟨x, Lib.hid ⟨Z4.out, Q4.out, O4.out, HUP.out _ G4.out⟩⟩
    | true =>
      go_wp2_with fail
      refine (l25Spoil_any V.heap.size q5 0 A n c k4 x U4 S4.out B4.out (by omega) (by omega) (by have := hV3.out; omega) Q4.out.lt (Q4.out.cell 0) (Q4.out.cell 1) (Q4.out.cell 2) (fun j => Q4.out.free _)).mono ?_
      rintro e U5 ⟨j, u, W4, k5, rfl, hj3, rfl, hk5, hs5, hg5⟩
      have Q5 : Hid (Blk (W4.setCell ⟨q5, 0 + j, none⟩ (i64 u)) q5 25 (hcl (x.put j u))) := Lib.hid (by
        rw [← hcl_put x hj3 u, Nat.zero_add]
        exact (Q4.out.grown hg5 (fun e => by injection e with e; have := hV3.out; omega)).put j (i64 u))
      have Z5 := Lib.hid ((Z4.out.grown hg5 (fun e => by injection e with e; have := z4.out; omega)).far (p := ⟨q5, 0 + j, none⟩) (by show w.heap.size ≠ q5; have := hV3.out; have := z4.out; omega) (i64 u))
      have O5 := Lib.hid (own_farH (own_keepK O4.out hg5 (fun x e e2 => by injection e with e; have h9 := (O4.out.lt x e2).1; simp at h9; omega)) HA.out (0 + j) (i64 u))
      have UP := Lib.hid (UpOf.of ((HUP.out _ (grown_trans G4.out hg5)).below.setCell (p := ⟨q5, 0 + j, none⟩) (by show w.heap.size ≤ q5; have := hV3.out; have := z4.out; omega) (i64 u)))
      have TT := Lib.hid (show BKS w (W4.setCell ⟨q5, 0 + j, none⟩ (i64 u)) q5 (V.alloc (.cells #[.slice A n c, .int .i64 0, .int .u64 0] 87)).heap.size A1 c1 l (x.put j u) from ⟨Z5.out, Q5.out, O5.out, UP.out⟩)
      clear hs5 hg5 Q5 Z5 O5 UP Q4 Z4 O4 S4 B4 G4
      generalize W4.setCell ⟨q5, 0 + j, none⟩ (i64 u) = U6 at *
      generalize x.put j u = y at *
      go_wp2_with fail
      go_meet
      exact ⟨y, TT⟩
  case rest =>
    obtain ⟨y, T⟩ := hcut
    clear Z4 Q4 O4 S4 B4 G4 HUP
    have hne : w.heap.size ≠ q5 := by have := hV3.out; have := z4.out; omega
    have hle : w.heap.size ≤ q5 := by have := hV3.out; have := z4.out; omega
    have HN := Lib.hid (And.intro hne hle)
    clear hne hle
    by_cases q : 60 ≤ l.length
    · have q' : (60 : Int) ≤ (l.length : Int) := by omega
      have u0 := T.out.q.lt
      have u1 := T.out.q.cell 0
      have u2 := T.out.q.cell 1
      have u3 := T.out.q.cell 2
      have v4 := T.out.q.free 0
      have v5 := T.out.q.free 1
      have v6 := T.out.q.free 2
      simp only [hcl, List.getElem?_toArray, List.getElem?_cons_zero, List.getElem?_cons_succ] at u1 u2 u3
      have T2 := Lib.hid (show BKS w (((wc.setCell ⟨q5, 0, none⟩ (i64 0)).setCell ⟨q5, 1, none⟩ (i64 1000)).setCell ⟨q5, 2, none⟩ (i64 1001)) q5 (V.alloc (.cells #[.slice A n c, .int .i64 0, .int .u64 0] 87)).heap.size A1 c1 l ⟨0, 1000, 1001⟩ from
        ⟨((T.out.z.far (p := ⟨q5, 0, none⟩) HN.out.1 _).far (p := ⟨q5, 1, none⟩) HN.out.1 _).far (p := ⟨q5, 2, none⟩) HN.out.1 _, ((T.out.q.put 0 (i64 0)).put 1 (i64 1000)).put 2 (i64 1001), own_farH (own_farH (own_farH T.out.o HA.out 0 _) HA.out 1 _) HA.out 2 _,
        UpOf.of (((T.out.u.below.setCell (p := ⟨q5, 0, none⟩) HN.out.2 _).setCell (p := ⟨q5, 1, none⟩) HN.out.2 _).setCell (p := ⟨q5, 2, none⟩) HN.out.2 _)⟩)
      go_upto_region 8 with (fail)
      refine wpg (R := fun W => Hid (BKS w W q5 (V.alloc (.cells #[.slice A n c, .int .i64 0, .int .u64 0] 87)).heap.size A1 c1 l ⟨0, 1000, 1001⟩)) T2 (fun U7 T3 => ?_)
      clear u0 u1 u2 u3 v4 v5 v6 T2 T
      have u0 := T3.out.q.lt
      have u1 := T3.out.q.cell 0
      have u2 := T3.out.q.cell 1
      have u3 := T3.out.q.cell 2
      have v0 := T3.out.z.lt
      have v1 := T3.out.z.cell 0
      have v2 := T3.out.z.cell 1
      have v3 := T3.out.z.cell 2
      have v4 := T3.out.z.free 0
      have v5 := T3.out.z.free 1
      have v6 := T3.out.z.free 2
      simp only [hcl, List.getElem?_toArray, List.getElem?_cons_zero, List.getElem?_cons_succ] at u1 u2 u3 v1 v2 v3
      have hC0 := Lib.hid (And.intro u0 (And.intro u1 (And.intro u2 u3)))
      refine wp_region_T (fun U => q5 < U.heap.size ∧ U.cell? ⟨q5, 0, none⟩ = some (i64 (⟨0, 1000, 1001⟩ : Hire).m) ∧ U.cell? ⟨q5, 1, none⟩ = some (i64 (⟨0, 1000, 1001⟩ : Hire).f) ∧ U.cell? ⟨q5, 2, none⟩ = some (i64 (⟨0, 1000, 1001⟩ : Hire).t)) 5 (by kernel_rfl) ?_
      refine wpAnyT_pure (i := 0) (v := ?_) rfl (by kernel_rfl) (by kernel_rfl) (by kernel_rfl) (by decide) (fun _ _ _ h => h) (Or.inl ⟨by rfl, ?_⟩) (fun _ => hC0.out) ?_
      rotate_left
      · intro w _; go_simp; try (with_reducible rfl)
      try simp only [Act.put, List.setIfInBounds_toArray, List.set_cons_zero, List.set_cons_succ]
      refine wpAnyT_pure (i := 1) (v := ?_) rfl (by kernel_rfl) (by kernel_rfl) (by kernel_rfl) (by decide) (fun _ _ _ h => h) (Or.inl ⟨by rfl, ?_⟩) (fun _ => hC0.out) ?_
      rotate_left
      · intro w _; go_simp; try (with_reducible rfl)
      try simp only [Act.put, List.setIfInBounds_toArray, List.set_cons_zero, List.set_cons_succ]
      refine wpAnyT_load (i := 2) (v := ?_) rfl (by kernel_rfl) (by kernel_rfl) (by kernel_rfl) (by decide) (by kernel_rfl) (by kernel_rfl) (fun _ _ _ h => h) (Or.inl ⟨by rfl, ?_⟩) hC0.out ?_
      rotate_left
      · intro w hSw; (try dsimp only at hSw); go_simp; try (with_reducible rfl)
      try simp only [Act.put, List.setIfInBounds_toArray, List.set_cons_zero, List.set_cons_succ]
      refine wpAnyT_pure (i := 3) (v := ?_) rfl (by kernel_rfl) (by kernel_rfl) (by kernel_rfl) (by decide) (fun _ _ _ h => h) (Or.inl ⟨by rfl, ?_⟩) (fun _ => hC0.out) ?_
      rotate_left
      · intro w _; go_simp; try (with_reducible rfl)
      try simp only [Act.put, List.setIfInBounds_toArray, List.set_cons_zero, List.set_cons_succ]
      refine wpAnyT_pure (i := 4) (v := ?_) rfl (by kernel_rfl) (by kernel_rfl) (by kernel_rfl) (by decide) (fun _ _ _ h => h) (Or.inl ⟨by rfl, ?_⟩) (fun _ => hC0.out) ?_
      rotate_left
      · intro w _; go_simp; try (with_reducible rfl)
      try simp only [Act.put, List.setIfInBounds_toArray, List.set_cons_zero, List.set_cons_succ]
      refine wpAnyT_one (i := 5) (by kernel_rfl) rfl (fun K hK => ?_)
      go_simp
      refine hK.out _ _ (fun h9 => absurd (show true = false from h9) (by decide)) ?_
      clear hK K
      try simp only [Act.put, List.setIfInBounds_toArray, List.set_cons_zero, List.set_cons_succ]
      refine wpAnyT_done (by kernel_rfl) ?_ _
      refine exit_gen (R := fun W => (w.heap.size < W.heap.size ∧ W.cell? ⟨w.heap.size, 0, none⟩ = some (i64 (⟨0, 1000, 1001⟩ : Hire).m) ∧ W.cell? ⟨w.heap.size, 1, none⟩ = some (i64 (⟨0, 1000, 1001⟩ : Hire).f) ∧ W.cell? ⟨w.heap.size, 2, none⟩ = some (i64 (⟨0, 1000, 1001⟩ : Hire).t)) ∧ Rds W 3 A1 l.length (hcs l) ∧ l.length ≤ c1 ∧ UpOf w W) (T3.out.fin (by rw [World.size_alloc]; have := z4.out; omega)) (fun W z => ?_)
      obtain ⟨⟨r0, r1, r2, r3⟩, hr9, hc9, hu9⟩ := z
      have HR9 := Lib.hid hr9
      have HU9 := Lib.hid hu9
      clear hr9 hu9 u0 u1 u2 u3 v0 v1 v2 v3 v4 v5 v6 hC0
      go_wp2_with fail
      exact bodyPost_ret (v := .tuple #[.slice A1 l.length c1, i64 N, hv (⟨0, 1000, 1001⟩ : Hire)]) (by simp [results, Tryd.results18, go_sem, r1, r2, r3]) rfl ⟨l, A1, c1, N, (⟨0, 1000, 1001⟩ : Hire), rfl, HR9.out, ⟨hc9, HA1.out⟩, hl, HU9.out⟩
    · have q' : ¬ (60 : Int) ≤ (l.length : Int) := by omega
      go_upto_region 8 with (fail)
      refine wpg (R := fun W => Hid (BKS w W q5 (V.alloc (.cells #[.slice A n c, .int .i64 0, .int .u64 0] 87)).heap.size A1 c1 l y)) T (fun U7 T3 => ?_)
      clear T
      have u0 := T3.out.q.lt
      have u1 := T3.out.q.cell 0
      have u2 := T3.out.q.cell 1
      have u3 := T3.out.q.cell 2
      have v0 := T3.out.z.lt
      have v1 := T3.out.z.cell 0
      have v2 := T3.out.z.cell 1
      have v3 := T3.out.z.cell 2
      have v4 := T3.out.z.free 0
      have v5 := T3.out.z.free 1
      have v6 := T3.out.z.free 2
      simp only [hcl, List.getElem?_toArray, List.getElem?_cons_zero, List.getElem?_cons_succ] at u1 u2 u3 v1 v2 v3
      have hC0 := Lib.hid (And.intro u0 (And.intro u1 (And.intro u2 u3)))
      refine wp_region_T (fun U => q5 < U.heap.size ∧ U.cell? ⟨q5, 0, none⟩ = some (i64 y.m) ∧ U.cell? ⟨q5, 1, none⟩ = some (i64 y.f) ∧ U.cell? ⟨q5, 2, none⟩ = some (i64 y.t)) 5 (by kernel_rfl) ?_
      refine wpAnyT_pure (i := 0) (v := ?_) rfl (by kernel_rfl) (by kernel_rfl) (by kernel_rfl) (by decide) (fun _ _ _ h => h) (Or.inl ⟨by rfl, ?_⟩) (fun _ => hC0.out) ?_
      rotate_left
      · intro w _; go_simp; try (with_reducible rfl)
      try simp only [Act.put, List.setIfInBounds_toArray, List.set_cons_zero, List.set_cons_succ]
      refine wpAnyT_pure (i := 1) (v := ?_) rfl (by kernel_rfl) (by kernel_rfl) (by kernel_rfl) (by decide) (fun _ _ _ h => h) (Or.inl ⟨by rfl, ?_⟩) (fun _ => hC0.out) ?_
      rotate_left
      · intro w _; go_simp; try (with_reducible rfl)
      try simp only [Act.put, List.setIfInBounds_toArray, List.set_cons_zero, List.set_cons_succ]
      refine wpAnyT_load (i := 2) (v := ?_) rfl (by kernel_rfl) (by kernel_rfl) (by kernel_rfl) (by decide) (by kernel_rfl) (by kernel_rfl) (fun _ _ _ h => h) (Or.inl ⟨by rfl, ?_⟩) hC0.out ?_
      rotate_left
      · intro w hSw; (try dsimp only at hSw); go_simp; try (with_reducible rfl)
      try simp only [Act.put, List.setIfInBounds_toArray, List.set_cons_zero, List.set_cons_succ]
      refine wpAnyT_pure (i := 3) (v := ?_) rfl (by kernel_rfl) (by kernel_rfl) (by kernel_rfl) (by decide) (fun _ _ _ h => h) (Or.inl ⟨by rfl, ?_⟩) (fun _ => hC0.out) ?_
      rotate_left
      · intro w _; go_simp; try (with_reducible rfl)
      try simp only [Act.put, List.setIfInBounds_toArray, List.set_cons_zero, List.set_cons_succ]
      refine wpAnyT_pure (i := 4) (v := ?_) rfl (by kernel_rfl) (by kernel_rfl) (by kernel_rfl) (by decide) (fun _ _ _ h => h) (Or.inl ⟨by rfl, ?_⟩) (fun _ => hC0.out) ?_
      rotate_left
      · intro w _; go_simp; try (with_reducible rfl)
      try simp only [Act.put, List.setIfInBounds_toArray, List.set_cons_zero, List.set_cons_succ]
      refine wpAnyT_one (i := 5) (by kernel_rfl) rfl (fun K hK => ?_)
      go_simp
      refine hK.out _ _ (fun h9 => absurd (show true = false from h9) (by decide)) ?_
      clear hK K
      try simp only [Act.put, List.setIfInBounds_toArray, List.set_cons_zero, List.set_cons_succ]
      refine wpAnyT_done (by kernel_rfl) ?_ _
      refine exit_gen (R := fun W => (w.heap.size < W.heap.size ∧ W.cell? ⟨w.heap.size, 0, none⟩ = some (i64 y.m) ∧ W.cell? ⟨w.heap.size, 1, none⟩ = some (i64 y.f) ∧ W.cell? ⟨w.heap.size, 2, none⟩ = some (i64 y.t)) ∧ Rds W 3 A1 l.length (hcs l) ∧ l.length ≤ c1 ∧ UpOf w W) (T3.out.fin (by rw [World.size_alloc]; have := z4.out; omega)) (fun W z => ?_)
      obtain ⟨⟨r0, r1, r2, r3⟩, hr9, hc9, hu9⟩ := z
      have HR9 := Lib.hid hr9
      have HU9 := Lib.hid hu9
      clear hr9 hu9 u0 u1 u2 u3 v0 v1 v2 v3 v4 v5 v6 hC0
      go_wp2_with fail
      exact bodyPost_ret (v := .tuple #[.slice A1 l.length c1, i64 N, hv y]) (by simp [results, Tryd.results18, go_sem, r1, r2, r3]) rfl ⟨l, A1, c1, N, y, rfl, HR9.out, ⟨hc9, HA1.out⟩, hl, HU9.out⟩
def sameHPost (w : World) (e : Ending) (w' : World) : Prop :=
  ∃ (a : List Hire) (A1 : Option Addr) (c1 : Nat) (b : List Hire) (A2 : Option Addr) (c2 : Nat), e = .returned (.tuple #[.slice A1 a.length c1, .slice A2 b.length c2]) ∧ Rds w' 3 A1 a.length (hcs a) ∧ Rds w' 3 A2 b.length (hcs b) ∧ a.length ≤ 11 ∧ b.length ≤ 12 ∧ UpOf w w'
/-- both lists, the source -/
structure SH (w0 : World) (U : World) (bs B1 B2 : Nat) (A : Option Addr) (n c : Nat) (A1 : Option Addr) (c1 : Nat) (A2 : Option Addr) (c2 : Nat) (a b : List Hire) (k : Nat) : Prop where
  o1 : U.ownsRow B1 25 3 (.slice A1 a.length c1) a.length (hcs a)
  o2 : U.ownsRow B2 25 3 (.slice A2 b.length c2) b.length (hcs b)
  s : SrcAt U bs A n c k
  b : Byt U bs A n
  g : w0.grownBy U (some bs)
  h0 : bs < w0.heap.size
  h1 : w0.heap.size ≤ B1
  h2 : ∀ k, (Value.slice A1 a.length c1).ownBlock = some k → k < B2
  h3 : w0.heap.size ≤ B2
  h4 : B2 ≤ U.heap.size
theorem SH.call {w0 U U' : World} {bs B1 B2 n c c1 c2 k k' : Nat} {A A1 A2 : Option Addr} {a b : List Hire} (h : SH w0 U bs B1 B2 A n c A1 c1 A2 c2 a b k) (hg : U.grownBy U' (some bs)) (hs : SrcAt U' bs A n c k') : SH w0 U' bs B1 B2 A n c A1 c1 A2 c2 a b k' :=
  ⟨own_keepK h.o1 hg (fun x e e2 => by injection e with e; have := (h.o1.lt x e2).1; have := h.h0; have := h.h1; omega), own_keepK h.o2 hg (fun x e e2 => by injection e with e; have := (h.o2.lt x e2).1; have := h.h0; have := h.h3; omega), hs, h.b.grown hg, grown_trans h.g hg, h.h0, h.h1, h.h2, h.h3, Nat.le_trans h.h4 hg.size⟩
theorem SH.bel {w0 U U' : World} {bs B1 B2 n c c1 c2 k : Nat} {A A1 A2 : Option Addr} {a b : List Hire} (h : SH w0 U bs B1 B2 A n c A1 c1 A2 c2 a b k) (hb : Below U.heap.size U U') : SH w0 U' bs B1 B2 A n c A1 c1 A2 c2 a b k :=
  ⟨own_below h.o1 hb, own_below h.o2 hb, h.s.bel hb, h.b.bel hb, gr_up h.g ⟨U', hb⟩, h.h0, h.h1, h.h2, h.h3, Nat.le_trans h.h4 hb.size⟩
theorem SH.put {w0 U : World} {bs B1 B2 n c c1 c2 k g i j : Nat} {A A1 : Option Addr} {a b : List Hire} (h : SH w0 U bs B1 B2 A n c A1 c1 (some ⟨g, 0, none⟩) c2 a b k) (hi : i < b.length) (hj : j < 3) (u : Int) :
    SH w0 (U.setCell ⟨g, i * 3 + j, none⟩ (i64 u)) bs B1 B2 A n c A1 c1 (some ⟨g, 0, none⟩) c2 a (b.set i ((hat b i).put j u)) k := by
  have hg := (h.o2.lt g rfl).1
  have h0 := h.h0
  have h3 := h.h3
  refine ⟨own_farH h.o1 (fun k e => by have := h.h2 k e; omega) _ _, ?_, h.s.far (p := ⟨g, i * 3 + j, none⟩) (by show bs ≠ g; omega) _, h.b.kept (grown_put U g (i * 3 + j) (i64 u)) (fun j hj => by injection hj with hj; omega), gr_new h.g (p := ⟨g, i * 3 + j, none⟩) (by show w0.heap.size ≤ g; omega) _, h0, h.h1, h.h2, h3, by rw [World.size_setCell]; exact h.h4⟩
  rw [List.length_set, ← hcs_put hi hj u]
  exact (h.o2.stored (i * 3 + j) (i64 u)).1
theorem own_ne {U W : World} {B1 B2 n m c d : Nat} {A A' : Option Addr} {xs ys : List Value} (h1 : U.ownsRow B1 25 3 (.slice A n c) n xs) (h2 : W.ownsRow B2 25 3 (.slice A' m d) m ys) (h : ∀ k, (Value.slice A n c).ownBlock = some k → k < B2) : (Value.slice A n c).ownBlock = none ∨ (Value.slice A n c).ownBlock ≠ (Value.slice A' m d).ownBlock := by
  cases e : (Value.slice A n c).ownBlock with
  | none => exact .inl rfl
  | some k =>
    refine .inr fun e2 => ?_
    have := h k e
    have := (h2.lt k e2.symm).1
    omega
set_option maxRecDepth 10000 in
set_option maxHeartbeats 2000000 in
theorem drawSameHires_any (A : Option Addr) (n c : Nat) (zs : List Int) (w : World) (hz : ∀ z ∈ zs, 0 ≤ z ∧ z ≤ 255) (h : Rds w 1 A n (bytes zs)) (hn : n ≤ 4096) :
    Calls Tryd.prog 26 #[.slice A n c] w (sameHPost w) := by
  have HR := Lib.hid h
  clear h
  go_enter Tryd.func26, Tryd.ntmps26
  go_wp2_with fail
  refine (l00From_any A n c w).mono ?_
  rintro e w1 ⟨rfl, rfl⟩
  have B0 := Lib.hid (byt_new hz HR.out (.cells #[.slice A n c, .int .i64 0, .int .u64 0] 87))
  go_wp2_with fail
  refine (l25Draw_any w.heap.size A n c 0 _ (src_new w A n c) B0.out (by omega) (by omega)).mono ?_
  rintro e V2 ⟨l, A1, c1, N, k2, rfl, hw, ⟨hl, hA1⟩, hN, hk2, hs2, hg2⟩
  clear hA1
  have O1 := Lib.hid hw
  have S2 := Lib.hid hs2
  have B2 := Lib.hid (B0.out.grown hg2)
  have G2 := Lib.hid hg2
  clear hs2 hg2 B0 hw hN
  go_upto_region 4 with (at_builtin; go_must (refine wpl_appU rfl _ _ 34 rfl V2 V2.heap.size 25 _ 3 24 el_hire _ 0 [] rfl (World.ownsRow_lit _ #[] 0 (Nat.le_refl _) (by unfold maxLen; omega) rfl) _ l.length _ _ rfl ((Rds.of_own O1.out).below (by repeat (first | exact Below.refl _ _ | refine bl_tr ?_ _ | refine bl_al ?_ _ | refine bl_dr ?_ | refine bl_up ?_ _ | refine Below.drew ?_ | refine bl_alloc ?_ _ | refine Below.setCell ?_ (by first | (simp; done) | (simp; omega)) _))) (hcs_one l) (by unfold maxLen; omega) (by omega) (by first | (simp; done) | exact Nat.le_succ _ | omega) (by repeat (first | exact Below.refl _ _ | refine bl_tr ?_ _ | refine bl_al ?_ _ | refine bl_dr ?_ | refine bl_up ?_ _ | refine Below.drew ?_ | refine bl_alloc ?_ _ | refine Below.setCell ?_ (by first | (simp; done) | (simp; omega)) _)) (Nat.le_refl _) ?_; intro A2 c2 g1 o1; simp only [Nat.zero_add, List.nil_append] at o1))
  have T0 := Lib.hid (show SH (w.alloc (.cells #[.slice A n c, .int .i64 0, .int .u64 0] 87)) (up V2 g1) w.heap.size (w.alloc (.cells #[.slice A n c, .int .i64 0, .int .u64 0] 87)).heap.size V2.heap.size A n c A1 c1 A2 c2 l l k2 from
    ⟨own_below O1.out (by repeat (first | exact Below.refl _ _ | refine bl_tr ?_ _ | refine bl_al ?_ _ | refine bl_dr ?_ | refine bl_up ?_ _ | refine Below.drew ?_ | refine bl_alloc ?_ _ | refine Below.setCell ?_ (by first | (simp; done) | (simp; omega)) _)), o1, S2.out.bel (by repeat (first | exact Below.refl _ _ | refine bl_tr ?_ _ | refine bl_al ?_ _ | refine bl_dr ?_ | refine bl_up ?_ _ | refine Below.drew ?_ | refine bl_alloc ?_ _ | refine Below.setCell ?_ (by first | (simp; done) | (simp; omega)) _)), B2.out.bel (by repeat (first | exact Below.refl _ _ | refine bl_tr ?_ _ | refine bl_al ?_ _ | refine bl_dr ?_ | refine bl_up ?_ _ | refine Below.drew ?_ | refine bl_alloc ?_ _ | refine Below.setCell ?_ (by first | (simp; done) | (simp; omega)) _)), gr_up G2.out ⟨_, (by repeat (first | exact Below.refl _ _ | refine bl_tr ?_ _ | refine bl_al ?_ _ | refine bl_dr ?_ | refine bl_up ?_ _ | refine Below.drew ?_ | refine bl_alloc ?_ _ | refine Below.setCell ?_ (by first | (simp; done) | (simp; omega)) _))⟩, by simp, Nat.le_refl _, fun k e => (O1.out.lt k e).2, G2.out.size, (up_below V2 g1).size⟩)
  have hup : ∀ W, (w.alloc (.cells #[.slice A n c, .int .i64 0, .int .u64 0] 87)).grownBy W (some w.heap.size) → UpOf w W := fun W hg => up_of_grown ((Below.refl _ _).alloc (Nat.le_refl _) _) hg (fun k hk => by injection hk with hk; omega)
  have HUP := Lib.hid hup
  have hb2 := Lib.hid (show (w.alloc (.cells #[.slice A n c, .int .i64 0, .int .u64 0] 87)).heap.size = w.heap.size + 1 by simp)
  refine wpg (R := fun U => Hid (SH (w.alloc (.cells #[.slice A n c, .int .i64 0, .int .u64 0] 87)) U w.heap.size (w.alloc (.cells #[.slice A n c, .int .i64 0, .int .u64 0] 87)).heap.size V2.heap.size A n c A1 c1 A2 c2 l l k2)) T0 (fun U T1 => ?_)
  clear T0 O1 o1 S2 B2 G2 hup
  by_cases hl0 : l.length = 0
  · have hl1 : ¬ (0 : Int) < (l.length : Int) := by omega
    clear hl0
    go_wp2_with fail
    refine (one_any w.heap.size A n c k2 5 U T1.out.s T1.out.b (by omega) (by omega) (by omega)).mono ?_
    rintro e U9 ⟨t9, k9, rfl, hk9, hs9, hg9⟩
    have T9 := Lib.hid (T1.out.call hg9 hs9)
    have hLB := Lib.hid (show (l).length = l.length by first | rfl | exact List.length_set)
    clear hs9 hg9 T1
    cases t9 with
    | true =>
      have hO := Lib.hid T9.out.o2
      have hsz := Lib.hid T9.out.h4
      go_wp2_with (at_builtin; go_must (refine wpl_appAt rfl _ _ 34 rfl V2.heap.size 25 _ 3 24 el_hire _ _ (hcs (l)) rfl (own_below hO.out (by repeat (first | exact Below.refl _ _ | refine bl_tr ?_ _ | refine bl_al ?_ _ | refine bl_dr ?_ | refine bl_up ?_ _ | refine Below.drew ?_ | refine bl_alloc ?_ _ | refine Below.setCell ?_ (by first | (simp; done) | (simp; omega)) _))) _ 1 1 [i64 0, i64 0, i64 0] rfl (rds_new _ #[i64 0, i64 0, i64 0] _ 3 1 rfl) (fun u hu => by simp at hu; obtain rfl | rfl | rfl := hu <;> rfl) (by omega) (by have := hLB.out; unfold maxLen; omega) (by have := hLB.out; omega) (by simp; have := hsz.out; omega) ?_; intro g9 c9 w9 o9 hg9 hat9; clear hat9; have HG9 := Lib.hid hg9; have O9 := Lib.hid o9; clear hg9 o9))
      go_ret2
      have G9 := gr_far (gr_alloc T9.out.g _) HG9.out (fun x e => Nat.le_trans T9.out.h3 (T9.out.o2.lt x e).1)
      have o1 := (own_below T9.out.o1 ((Below.refl _ _).alloc (Nat.le_refl _) _)).kept HG9.out (own_ne T9.out.o1 T9.out.o2 T9.out.h2)
      exact ⟨l, A1, c1, l ++ [⟨0, 0, 0⟩], _, c9, by rw [List.length_append]; rfl, Rds.of_own o1, by rw [List.length_append, hcs_app]; exact Rds.of_own O9.out, hl, by rw [List.length_append, List.length_singleton]; have := hLB.out; omega, HUP.out _ G9⟩
    | false =>
      go_wp2_with fail
      go_ret2
      exact ⟨l, A1, c1, l, _, c2, rfl, Rds.of_own T9.out.o1, Rds.of_own T9.out.o2, hl, by have := hLB.out; omega, HUP.out _ T9.out.g⟩
  · have hl1 : (0 : Int) < (l.length : Int) := by omega
    obtain ⟨g, rfl⟩ := own_addrH T1.out.o2 (by omega)
    go_wp2_with fail
    refine (one_any w.heap.size A n c k2 2 U T1.out.s T1.out.b (by omega) (by omega) (by omega)).mono ?_
    rintro e U2 ⟨t, k3, rfl, hk3, hs3, hg3⟩
    have T2 := Lib.hid (T1.out.call hg3 hs3)
    clear hs3 hg3 T1
    cases t with
    | false =>
      go_wp2_with fail
      refine (one_any w.heap.size A n c k3 5 U2 T2.out.s T2.out.b (by omega) (by omega) (by omega)).mono ?_
      rintro e U9 ⟨t9, k9, rfl, hk9, hs9, hg9⟩
      have T9 := Lib.hid (T2.out.call hg9 hs9)
      have hLB := Lib.hid (show (l).length = l.length by first | rfl | exact List.length_set)
      clear hs9 hg9 T2
      cases t9 with
      | true =>
        have hO := Lib.hid T9.out.o2
        have hsz := Lib.hid T9.out.h4
        go_wp2_with (at_builtin; go_must (refine wpl_appAt rfl _ _ 34 rfl V2.heap.size 25 _ 3 24 el_hire _ _ (hcs (l)) rfl (own_below hO.out (by repeat (first | exact Below.refl _ _ | refine bl_tr ?_ _ | refine bl_al ?_ _ | refine bl_dr ?_ | refine bl_up ?_ _ | refine Below.drew ?_ | refine bl_alloc ?_ _ | refine Below.setCell ?_ (by first | (simp; done) | (simp; omega)) _))) _ 1 1 [i64 0, i64 0, i64 0] rfl (rds_new _ #[i64 0, i64 0, i64 0] _ 3 1 rfl) (fun u hu => by simp at hu; obtain rfl | rfl | rfl := hu <;> rfl) (by omega) (by have := hLB.out; unfold maxLen; omega) (by have := hLB.out; omega) (by simp; have := hsz.out; omega) ?_; intro g9 c9 w9 o9 hg9 hat9; clear hat9; have HG9 := Lib.hid hg9; have O9 := Lib.hid o9; clear hg9 o9))
        go_ret2
        have G9 := gr_far (gr_alloc T9.out.g _) HG9.out (fun x e => Nat.le_trans T9.out.h3 (T9.out.o2.lt x e).1)
        have o1 := (own_below T9.out.o1 ((Below.refl _ _).alloc (Nat.le_refl _) _)).kept HG9.out (own_ne T9.out.o1 T9.out.o2 T9.out.h2)
        exact ⟨l, A1, c1, l ++ [⟨0, 0, 0⟩], _, c9, by rw [List.length_append]; rfl, Rds.of_own o1, by rw [List.length_append, hcs_app]; exact Rds.of_own O9.out, hl, by rw [List.length_append, List.length_singleton]; have := hLB.out; omega, HUP.out _ G9⟩
      | false =>
        go_wp2_with fail
        go_ret2
        exact ⟨l, A1, c1, l, _, c2, rfl, Rds.of_own T9.out.o1, Rds.of_own T9.out.o2, hl, by have := hLB.out; omega, HUP.out _ T9.out.g⟩
    | true =>
      obtain ⟨b9, off9, e9, hb9, ha9⟩ := hire_at' (Rds.of_own T2.out.o2) (show 0 < l.length by omega)
      obtain ⟨_, d0, d1, d2⟩ := ha9 0 (by omega)
      injection e9 with e9
      injection e9 with e9 e8 _
      subst e9 e8
      simp only [Nat.zero_mul, Nat.zero_add] at d0 d1 d2
      have hC0 := Lib.hid (And.intro hb9 d2)
      have hg9 := (T2.out.o2.lt g rfl).1
      clear d0 d1 d2 hb9 ha9
      go_upto_region 5 with (fail)
      refine wp_region_T (fun U => g < U.heap.size ∧ U.cell? ⟨g, 2, none⟩ = some (i64 (hat l 0).t)) 9 (by kernel_rfl) ?_
      refine wpAnyT_pure (i := 0) (v := ?_) rfl (by kernel_rfl) (by kernel_rfl) (by kernel_rfl) (by decide) (fun _ _ _ h => h) (Or.inl ⟨by rfl, ?_⟩) (fun _ => hC0.out) ?_
      rotate_left
      · intro w _; go_simp; try (with_reducible rfl)
      try simp only [Act.put, List.setIfInBounds_toArray, List.set_cons_zero, List.set_cons_succ]
      refine wpAnyT_pure (i := 1) (v := ?_) rfl (by kernel_rfl) (by kernel_rfl) (by kernel_rfl) (by decide) (fun _ _ _ h => h) (Or.inl ⟨by rfl, ?_⟩) (fun _ => hC0.out) ?_
      rotate_left
      · intro w _; go_simp; try (with_reducible rfl)
      try simp only [Act.put, List.setIfInBounds_toArray, List.set_cons_zero, List.set_cons_succ]
      refine wpAnyT_pure (i := 2) (v := ?_) rfl (by kernel_rfl) (by kernel_rfl) (by kernel_rfl) (by decide) (fun _ _ _ h => h) (Or.inl ⟨by rfl, ?_⟩) (fun _ => hC0.out) ?_
      rotate_left
      · intro w _; go_simp; try (with_reducible rfl)
      try simp only [Act.put, List.setIfInBounds_toArray, List.set_cons_zero, List.set_cons_succ]
      refine wpAnyT_load (i := 3) (v := ?_) rfl (by kernel_rfl) (by kernel_rfl) (by kernel_rfl) (by decide) (by kernel_rfl) (by kernel_rfl) (fun _ _ _ h => h) (Or.inl ⟨by rfl, ?_⟩) hC0.out ?_
      rotate_left
      · intro w hSw; (try dsimp only at hSw); go_simp; try (with_reducible rfl)
      try simp only [Act.put, List.setIfInBounds_toArray, List.set_cons_zero, List.set_cons_succ]
      refine wpAnyT_pure (i := 4) (v := ?_) rfl (by kernel_rfl) (by kernel_rfl) (by kernel_rfl) (by decide) (fun _ _ _ h => h) (Or.inl ⟨by rfl, ?_⟩) (fun _ => hC0.out) ?_
      rotate_left
      · intro w _; go_simp; try (with_reducible rfl)
      try simp only [Act.put, List.setIfInBounds_toArray, List.set_cons_zero, List.set_cons_succ]
      refine wpAnyT_one (i := 5) (by kernel_rfl) rfl (fun K hK => ?_)
      go_simp
      go_at_call 56
      refine (pick_any w.heap.size A n c k3 2 _ (T2.out.bel (by repeat (first | exact Below.refl _ _ | refine bl_tr ?_ _ | refine bl_al ?_ _ | refine bl_dr ?_ | refine bl_up ?_ _ | refine Below.drew ?_ | refine bl_alloc ?_ _ | refine Below.setCell ?_ (by first | (simp; done) | (simp; omega)) _))).s (T2.out.bel (by repeat (first | exact Below.refl _ _ | refine bl_tr ?_ _ | refine bl_al ?_ _ | refine bl_dr ?_ | refine bl_up ?_ _ | refine Below.drew ?_ | refine bl_alloc ?_ _ | refine Below.setCell ?_ (by first | (simp; done) | (simp; omega)) _))).b (by omega) (by omega) (by omega)).mono ?_
      rintro e U3 ⟨v, k4, rfl, v0, v1, hk4, hs4, hg4⟩
      have T3 := Lib.hid ((T2.out.bel (by repeat (first | exact Below.refl _ _ | refine bl_tr ?_ _ | refine bl_al ?_ _ | refine bl_dr ?_ | refine bl_up ?_ _ | refine Below.drew ?_ | refine bl_alloc ?_ _ | refine Below.setCell ?_ (by first | (simp; done) | (simp; omega)) _))).call hg4 hs4)
      have hC1 := Lib.hid (show g < U3.heap.size ∧ U3.cell? ⟨g, 2, none⟩ = some (i64 (hat l 0).t) from by
        obtain ⟨b7, off7, e7, hb7, ha7⟩ := hire_at' (Rds.of_own T3.out.o2) (show 0 < l.length by omega)
        obtain ⟨_, _, _, r2⟩ := ha7 0 (by omega)
        injection e7 with e7
        injection e7 with e7 e6 _
        subst e7 e6
        simp only [Nat.zero_mul, Nat.zero_add] at r2
        exact ⟨hb7, r2⟩)
      have hfz := T3.out.o2.frozenAt 2
      clear hs4 hg4 v0 v1 hC0 T2
      have hgU := hC1.out.1
      have hgC := hC1.out.2
      try go_wp2_with fail
      refine hK.out _ _ (fun _ => hC1.out) ?_
      clear hK K
      try simp only [Act.put, List.setIfInBounds_toArray, List.set_cons_zero, List.set_cons_succ]
      refine wpAnyT_pure (i := 6) (v := ?_) rfl (by kernel_rfl) (by kernel_rfl) (by kernel_rfl) (by decide) (fun _ _ _ h => h) (Or.inl ⟨by rfl, ?_⟩) (fun _ => hC1.out) ?_
      rotate_left
      · intro w _; go_simp; try (with_reducible rfl)
      try simp only [Act.put, List.setIfInBounds_toArray, List.set_cons_zero, List.set_cons_succ]
      refine wpAnyT_pure (i := 7) (v := ?_) rfl (by kernel_rfl) (by kernel_rfl) (by kernel_rfl) (by decide) (fun _ _ _ h => h) (Or.inl ⟨by rfl, ?_⟩) (fun _ => hC1.out) ?_
      rotate_left
      · intro w _; go_simp; try (with_reducible rfl)
      try simp only [Act.put, List.setIfInBounds_toArray, List.set_cons_zero, List.set_cons_succ]
      refine wpAnyT_pure (i := 8) (v := ?_) rfl (by kernel_rfl) (by kernel_rfl) (by kernel_rfl) (by decide) (fun _ _ _ h => h) (Or.inl ⟨by rfl, ?_⟩) (fun _ => hC1.out) ?_
      rotate_left
      · intro w _; go_simp; try (with_reducible rfl)
      try simp only [Act.put, List.setIfInBounds_toArray, List.set_cons_zero, List.set_cons_succ]
      refine wpAnyT_one (i := 9) (by kernel_rfl) rfl (fun K hK => ?_)
      go_simp
      refine hK.out _ _ (fun h9 => absurd (show true = false from h9) (by decide)) ?_
      clear hK K
      try simp only [Act.put, List.setIfInBounds_toArray, List.set_cons_zero, List.set_cons_succ]
      refine wpAnyT_done (by kernel_rfl) ?_ _
      have T4 := Lib.hid (show SH (w.alloc (.cells #[.slice A n c, .int .i64 0, .int .u64 0] 87)) (U3.setCell ⟨g, 2, none⟩ (i64 (IntKind.i64.wrap ((hat l 0).t + v)))) w.heap.size (w.alloc (.cells #[.slice A n c, .int .i64 0, .int .u64 0] 87)).heap.size V2.heap.size A n c A1 c1 (some ⟨g, 0, none⟩) c2 l (l.set 0 ((hat l 0).put 2 (IntKind.i64.wrap ((hat l 0).t + v)))) k4 from
        T3.out.put (i := 0) (j := 2) (by omega) (by omega) _)
      clear T3 hfz hgU hgC hC1
      refine exit_gen (R := fun W => Hid (SH (w.alloc (.cells #[.slice A n c, .int .i64 0, .int .u64 0] 87)) W w.heap.size (w.alloc (.cells #[.slice A n c, .int .i64 0, .int .u64 0] 87)).heap.size V2.heap.size A n c A1 c1 (some ⟨g, 0, none⟩) c2 l (l.set 0 ((hat l 0).put 2 (IntKind.i64.wrap ((hat l 0).t + v)))) k4)) T4 (fun W T5 => ?_)
      clear T4
      obtain ⟨y, hy⟩ : ∃ y, l.set 0 ((hat l 0).put 2 (IntKind.i64.wrap ((hat l 0).t + v))) = y := ⟨_, rfl⟩
      have hyl : y.length = l.length := by rw [← hy, List.length_set]
      have HYL := Lib.hid hyl
      rw [hy] at T5
      rw [← hyl]
      clear hy hyl
      go_wp2_with fail
      refine (one_any w.heap.size A n c k4 5 W T5.out.s T5.out.b (by omega) (by omega) (by omega)).mono ?_
      rintro e U9 ⟨t9, k9, rfl, hk9, hs9, hg9⟩
      have T9 := Lib.hid (T5.out.call hg9 hs9)
      have hyb := Lib.hid (show y.length ≤ 11 by have := HYL.out; omega)
      clear hs9 hg9 T5
      cases t9 with
      | true =>
        have hO := Lib.hid T9.out.o2
        have hsz := Lib.hid T9.out.h4
        go_wp2_with (at_builtin; go_must (refine wpl_appAt rfl _ _ 34 rfl V2.heap.size 25 _ 3 24 el_hire _ _ (hcs y) rfl (own_below hO.out (by repeat (first | exact Below.refl _ _ | refine bl_tr ?_ _ | refine bl_al ?_ _ | refine bl_dr ?_ | refine bl_up ?_ _ | refine Below.drew ?_ | refine bl_alloc ?_ _ | refine Below.setCell ?_ (by first | (simp; done) | (simp; omega)) _))) _ 1 1 [i64 0, i64 0, i64 0] rfl (rds_new _ #[i64 0, i64 0, i64 0] _ 3 1 rfl) (fun u hu => by simp at hu; obtain rfl | rfl | rfl := hu <;> rfl) (by omega) (by have := hyb.out; unfold maxLen; omega) (by have := hyb.out; omega) (by simp; have := hsz.out; omega) ?_; intro g9 c9 w9 o9 hg9 hat9; clear hat9; have HG9 := Lib.hid hg9; have O9 := Lib.hid o9; clear hg9 o9))
        go_ret2
        have G9 := gr_far (gr_alloc T9.out.g _) HG9.out (fun x e => Nat.le_trans T9.out.h3 (T9.out.o2.lt x e).1)
        have o1 := (own_below T9.out.o1 ((Below.refl _ _).alloc (Nat.le_refl _) _)).kept HG9.out (own_ne T9.out.o1 T9.out.o2 T9.out.h2)
        exact ⟨l, A1, c1, y ++ [⟨0, 0, 0⟩], _, c9, by rw [List.length_append, ← HYL.out] <;> rfl, Rds.of_own o1, by rw [List.length_append, hcs_app]; exact Rds.of_own O9.out, hl, by rw [List.length_append, List.length_singleton]; have := hyb.out; omega, HUP.out _ G9⟩
      | false =>
        go_wp2_with fail
        go_ret2
        exact ⟨l, A1, c1, y, _, c2, by rw [← HYL.out] <;> rfl, Rds.of_own T9.out.o1, Rds.of_own T9.out.o2, hl, by have := hyb.out; omega, HUP.out _ T9.out.g⟩
end Go.Proofs.YtiagckbdofeecaaDoor

/-
  The reference's drawing of a hire, and of a change that mostly spoils it: whatever is drawn. The bounds stand at each.
-/
import Derived.Test.YtiagckbdofeecaaDoorSrcK
import Derived.Test.YtiagckbdofeecaaDoorTakeT
import Derived.Test.YtiagckbdofeecaaDoorHire5
import Derived.Deep.DeepMust
import Derived.Deep.DeepCutAuto
namespace Go.Proofs.YtiagckbdofeecaaDoor
open Go.RowKit
theorem adr_neH {p b : Nat} (h : b < p) : ∀ b' off, (some (⟨p, 0, none⟩ : Addr)) = some ⟨b', off, none⟩ → b' ≠ b := fun b' off e => by injection e with e; injection e with e _; omega
theorem own_addrH {V : World} {base e size n c : Nat} {A : Option Addr} {xs : List Value} (h : V.ownsRow base e size (.slice A n c) n xs) (hn : 0 < n) : ∃ a, A = some ⟨a, 0, none⟩ := by
  rcases h.2 with ⟨e, e0⟩ | ⟨g, cap, cur, e, _⟩
  · omega
  · injection e with e1 _ _
    exact ⟨g, e1⟩
theorem own_capH {w : World} {base e size n c : Nat} {A : Option Addr} {xs : List Value} (h : w.ownsRow base e size (.slice A n c) n xs) : n ≤ c := by
  rcases h.2 with ⟨hv, h0⟩ | ⟨g, cap, cur, hv, _, _, hle, _⟩
  · omega
  · injection hv with _ _ hc
    omega
theorem results_tmp4K {fn : Func} {t u v x : Tmp} (h : fn.results = #[.tmp t, .tmp u, .tmp v, .tmp x]) (tmps : Array Value) (P : Program) (w : World) :
    (results fn tmps).run P w = .ok (.tuple #[tmps.getD t undef, tmps.getD u undef, tmps.getD v undef, tmps.getD x undef]) w := by
  simp [results, h]
def hcl (h : Hire) : Array Value := #[i64 h.m, i64 h.f, i64 h.t]
/-- the state while a hire is drawn: the result's cell q4 and the box q5 -/
structure HB (w V : World) (b : Nat) (A : Option Addr) (n c q4 q5 : Nat) (h : Hire) (k : Nat) : Prop where
  r4 : Blk V q4 25 (hcl ⟨0, 0, 0⟩)
  r5 : Blk V q5 25 (hcl h)
  src : SrcAt V b A n c k
  byt : Byt V b A n
  gr : w.grownBy V (some b)
  b4 : w.heap.size ≤ q4
  b5 : w.heap.size ≤ q5
  ne : q4 ≠ q5
  lt : b < w.heap.size
section
variable {w V V' : World} {b : Nat} {A : Option Addr} {n c q4 q5 k k' : Nat} {h : Hire}
theorem HB.bel (s : HB w V b A n c q4 q5 h k) (hb : Below V.heap.size V V') : HB w V' b A n c q4 q5 h k :=
  ⟨s.r4.up ⟨V', hb⟩, s.r5.up ⟨V', hb⟩, s.src.bel hb, s.byt.bel hb, gr_up s.gr ⟨V', hb⟩, s.b4, s.b5, s.ne, s.lt⟩
theorem HB.call (s : HB w V b A n c q4 q5 h k) (hg : V.grownBy V' (some b)) (hs : SrcAt V' b A n c k') : HB w V' b A n c q4 q5 h k' := by
  have h1 := s.b4
  have h2 := s.b5
  have h3 := s.lt
  exact ⟨s.r4.grown hg (fun e => by injection e with e; omega), s.r5.grown hg (fun e => by injection e with e; omega), hs, s.byt.grown hg, grown_trans s.gr hg, h1, h2, s.ne, h3⟩
theorem HB.to (s : HB w V b A n c q4 q5 h k) (t : Int) : HB w (V.setCell ⟨q5, 2, none⟩ (i64 t)) b A n c q4 q5 ⟨h.m, h.f, t⟩ k := by
  have h1 := s.b5
  have h3 := s.lt
  exact ⟨s.r4.far (p := ⟨q5, 2, none⟩) s.ne _, s.r5.put 2 (i64 t), s.src.far (p := ⟨q5, 2, none⟩) (by show b ≠ q5; omega) _, s.byt.kept (grown_put V q5 2 (i64 t)) (fun j hj => by injection hj with hj; omega), gr_new s.gr (p := ⟨q5, 2, none⟩) h1 _, s.b4, h1, s.ne, h3⟩
theorem HB.raw (s : HB w V b A n c q4 q5 h k) : (q5 < V.heap.size ∧ V.cell? ⟨q5, 0, none⟩ = some (i64 h.m) ∧ V.cell? ⟨q5, 1, none⟩ = some (i64 h.f) ∧ V.cell? ⟨q5, 2, none⟩ = some (i64 h.t)) ∧ (∀ j, V.frozen? ⟨q5, j, none⟩ = false) ∧
    (q4 < V.heap.size ∧ V.cell? ⟨q4, 0, none⟩ = some (i64 0) ∧ V.cell? ⟨q4, 1, none⟩ = some (i64 0) ∧ V.cell? ⟨q4, 2, none⟩ = some (i64 0)) ∧ ∀ j, V.frozen? ⟨q4, j, none⟩ = false :=
  ⟨⟨s.r5.lt, s.r5.cell 0, s.r5.cell 1, s.r5.cell 2⟩, s.r5.free, ⟨s.r4.lt, s.r4.cell 0, s.r4.cell 1, s.r4.cell 2⟩, s.r4.free⟩
end
def newPost (b : Nat) (A : Option Addr) (n c k : Nat) (N : Int) (w : World) (e : Ending) (w' : World) : Prop :=
  ∃ (h : Hire) (k' : Nat), e = .returned (hv h) ∧ (0 ≤ h.m ∧ 0 ≤ h.f ∧ h.f ≤ 39 ∧ h.f < h.t ∧ h.t ≤ 51 ∧ (h.m < N ∨ h.m = 0)) ∧ k' ≤ k + 6 ∧ SrcAt w' b A n c k' ∧ w.grownBy w' (some b)
set_option maxRecDepth 10000 in
set_option maxHeartbeats 2000000 in
theorem l25New_any (b : Nat) (A : Option Addr) (n c k : Nat) (N : Int) (w : World) (h : SrcAt w b A n c k) (hb : Byt w b A n) (hk : k ≤ 800000) (hn : n ≤ 1000000) (hN : N ≤ 1000000) :
    Calls Tryd.prog 51 #[.pointer (some ⟨b, 0, none⟩), i64 N] w (newPost b A n c k N w) := by
  have hlt := h.lt
  have HS := Lib.hid h
  have HB0 := Lib.hid hb
  clear h hb
  go_enter Tryd.func51, Tryd.ntmps51
  go_wp2_with fail
  refine cg (R := fun V => Hid (Blk V w.heap.size 25 (hcl ⟨0, 0, 0⟩)) ∧ Hid (SrcAt V b A n c k) ∧ Hid (Byt V b A n) ∧ Hid (w.grownBy V (some b))) ⟨Lib.hid (Blk.new _ _ _), Lib.hid (HS.out.alloc _), Lib.hid (HB0.out.alloc _), Lib.hid (gr_alloc (grown_refl w _) _)⟩ (fun V z => ?_)
  obtain ⟨z1, z2, z3, z4⟩ := z
  clear HS HB0
  refine (pick_any b A n c k N V z2.out z3.out (by omega) hn hN).mono ?_
  rintro e V1 ⟨x, k1, rfl, x0, x1, hk1, hs1, hg1⟩
  have Z1 := Lib.hid (z1.out.grown hg1 (fun e => by injection e with e; omega))
  have S1 := Lib.hid hs1
  have B1 := Lib.hid (z3.out.grown hg1)
  have G1 := Lib.hid (grown_trans z4.out hg1)
  clear hs1 hg1 z1 z2 z3 z4
  have X1 := Lib.hid x1
  clear x1
  go_wp2_with fail
  refine (pick_any b A n c k1 40 V1 S1.out B1.out (by omega) hn (by omega)).mono ?_
  rintro e V2 ⟨y, k2, rfl, y0, y1, hk2, hs2, hg2⟩
  have Z2 := Lib.hid (Z1.out.grown hg2 (fun e => by injection e with e; omega))
  have S2 := Lib.hid hs2
  have B2 := Lib.hid (B1.out.grown hg2)
  have G2 := Lib.hid (grown_trans G1.out hg2)
  clear hs2 hg2 Z1 S1 B1 G1
  have hy : 0 ≤ y ∧ y ≤ 39 := by omega
  clear y0 y1
  go_upto_region 2 with (fail)
  refine wpg (R := fun U => Hid (HB w U b A n c w.heap.size V2.heap.size ⟨x, y, 0⟩ k2)) (Lib.hid ⟨Z2.out.up ⟨_, (by repeat (first | exact Below.refl _ _ | refine bl_tr ?_ _ | refine bl_al ?_ _ | refine bl_dr ?_ | refine bl_up ?_ _ | refine Below.drew ?_ | refine bl_alloc ?_ _ | refine Below.setCell ?_ (by first | (simp; done) | (simp; omega)) _))⟩, Blk.new _ _ _, S2.out.bel (by repeat (first | exact Below.refl _ _ | refine bl_tr ?_ _ | refine bl_al ?_ _ | refine bl_dr ?_ | refine bl_up ?_ _ | refine Below.drew ?_ | refine bl_alloc ?_ _ | refine Below.setCell ?_ (by first | (simp; done) | (simp; omega)) _)), B2.out.bel (by repeat (first | exact Below.refl _ _ | refine bl_tr ?_ _ | refine bl_al ?_ _ | refine bl_dr ?_ | refine bl_up ?_ _ | refine Below.drew ?_ | refine bl_alloc ?_ _ | refine Below.setCell ?_ (by first | (simp; done) | (simp; omega)) _)), gr_up G2.out ⟨_, (by repeat (first | exact Below.refl _ _ | refine bl_tr ?_ _ | refine bl_al ?_ _ | refine bl_dr ?_ | refine bl_up ?_ _ | refine Below.drew ?_ | refine bl_alloc ?_ _ | refine Below.setCell ?_ (by first | (simp; done) | (simp; omega)) _))⟩, Nat.le_refl _, G2.out.size, Nat.ne_of_lt Z2.out.lt, hlt⟩) (fun U T => ?_)
  generalize V2.heap.size = q5 at *
  clear Z2 S2 B2 G2
  have hw1 : IntKind.i64.wrap (y + 1) = y + 1 := by rw [IntKind.wrap_i64]; omega
  obtain ⟨⟨r0, r1, r2, r3⟩, r4, -⟩ := T.out.raw
  have hC0 := Lib.hid (And.intro r0 r2)
  refine wp_region_T (fun U => q5 < U.heap.size ∧ U.cell? ⟨q5, 1, none⟩ = some (i64 y)) 7 (by kernel_rfl) ?_
  refine wpAnyT_pure (i := 0) (v := ?_) rfl (by kernel_rfl) (by kernel_rfl) (by kernel_rfl) (by decide) (fun _ _ _ h => h) (Or.inl ⟨by rfl, ?_⟩) (fun _ => hC0.out) ?_
  rotate_left
  · intro w _; go_simp; try (with_reducible rfl)
  try simp only [Act.put, List.setIfInBounds_toArray, List.set_cons_zero, List.set_cons_succ]
  refine wpAnyT_load (i := 1) (v := ?_) rfl (by kernel_rfl) (by kernel_rfl) (by kernel_rfl) (by decide) (by kernel_rfl) (by kernel_rfl) (fun _ _ _ h => h) (Or.inl ⟨by rfl, ?_⟩) hC0.out ?_
  rotate_left
  · intro w hSw; (try dsimp only at hSw); go_simp; try (with_reducible rfl)
  try simp only [Act.put, List.setIfInBounds_toArray, List.set_cons_zero, List.set_cons_succ]
  refine wpAnyT_pure (i := 2) (v := ?_) rfl (by kernel_rfl) (by kernel_rfl) (by kernel_rfl) (by decide) (fun _ _ _ h => h) (Or.inl ⟨by rfl, ?_⟩) (fun _ => hC0.out) ?_
  rotate_left
  · intro w _; go_simp; try (with_reducible rfl)
  try simp only [Act.put, List.setIfInBounds_toArray, List.set_cons_zero, List.set_cons_succ]
  refine wpAnyT_pure (i := 3) (v := ?_) rfl (by kernel_rfl) (by kernel_rfl) (by kernel_rfl) (by decide) (fun _ _ _ h => h) (Or.inl ⟨by rfl, ?_⟩) (fun _ => hC0.out) ?_
  rotate_left
  · intro w _; go_simp; try (with_reducible rfl)
  try simp only [Act.put, List.setIfInBounds_toArray, List.set_cons_zero, List.set_cons_succ]
  refine wpAnyT_one (i := 4) (by kernel_rfl) rfl (fun K hK => ?_)
  go_simp
  go_at_call 56
  refine (pick_any b A n c k2 12 _ (T.out.bel (by repeat (first | exact Below.refl _ _ | refine bl_tr ?_ _ | refine bl_al ?_ _ | refine bl_dr ?_ | refine bl_up ?_ _ | refine Below.drew ?_ | refine bl_alloc ?_ _ | refine Below.setCell ?_ (by first | (simp; done) | (simp; omega)) _))).src (T.out.bel (by repeat (first | exact Below.refl _ _ | refine bl_tr ?_ _ | refine bl_al ?_ _ | refine bl_dr ?_ | refine bl_up ?_ _ | refine Below.drew ?_ | refine bl_alloc ?_ _ | refine Below.setCell ?_ (by first | (simp; done) | (simp; omega)) _))).byt (by omega) hn (by omega)).mono ?_
  rintro e U1 ⟨v, k3, rfl, v0, v1, hk3, hs3, hg3⟩
  have T1 := Lib.hid ((T.out.bel (by repeat (first | exact Below.refl _ _ | refine bl_tr ?_ _ | refine bl_al ?_ _ | refine bl_dr ?_ | refine bl_up ?_ _ | refine Below.drew ?_ | refine bl_alloc ?_ _ | refine Below.setCell ?_ (by first | (simp; done) | (simp; omega)) _))).call hg3 hs3)
  have hv1 : 0 ≤ v ∧ v ≤ 11 := by omega
  clear hs3 hg3 v0 v1 hC0 r0 r1 r2 r3 r4 T
  obtain ⟨⟨r0, r1, r2, r3⟩, r4, -⟩ := T1.out.raw
  have hC0 := Lib.hid (And.intro r0 r2)
  have hw2 : IntKind.i64.wrap (y + 1 + v) = y + 1 + v := by rw [IntKind.wrap_i64]; omega
  have r42 := r4 2
  clear r4
  try go_wp2_with fail
  refine hK.out _ _ (fun _ => hC0.out) ?_
  clear hK K
  try simp only [Act.put, List.setIfInBounds_toArray, List.set_cons_zero, List.set_cons_succ]
  refine wpAnyT_pure (i := 5) (v := ?_) rfl (by kernel_rfl) (by kernel_rfl) (by kernel_rfl) (by decide) (fun _ _ _ h => h) (Or.inl ⟨by rfl, ?_⟩) (fun _ => hC0.out) ?_
  rotate_left
  · intro w _; go_simp; try (with_reducible rfl)
  try simp only [Act.put, List.setIfInBounds_toArray, List.set_cons_zero, List.set_cons_succ]
  refine wpAnyT_pure (i := 6) (v := ?_) rfl (by kernel_rfl) (by kernel_rfl) (by kernel_rfl) (by decide) (fun _ _ _ h => h) (Or.inl ⟨by rfl, ?_⟩) (fun _ => hC0.out) ?_
  rotate_left
  · intro w _; go_simp; try (with_reducible rfl)
  try simp only [Act.put, List.setIfInBounds_toArray, List.set_cons_zero, List.set_cons_succ]
  refine wpAnyT_one (i := 7) (by kernel_rfl) rfl (fun K hK => ?_)
  go_simp
  refine hK.out _ _ (fun h9 => absurd (show true = false from h9) (by decide)) ?_
  clear hK K
  try simp only [Act.put, List.setIfInBounds_toArray, List.set_cons_zero, List.set_cons_succ]
  refine wpAnyT_done (by kernel_rfl) ?_ _
  refine exit_gen (R := fun U => Hid (HB w U b A n c w.heap.size q5 ⟨x, y, y + 1 + v⟩ k3)) (Lib.hid (T1.out.to (y + 1 + v))) (fun U T2 => ?_)
  clear T1 hC0 r0 r1 r2 r3 r42 hw1 hw2
  obtain ⟨⟨r0, r1, r2, r3⟩, r4, ⟨s0, s1, s2, s3⟩, s4⟩ := T2.out.raw
  have s40 := s4 0
  have s41 := s4 1
  have s42 := s4 2
  clear r4 s4
  obtain ⟨q4, hq4⟩ : ∃ q, w.heap.size = q := ⟨_, rfl⟩
  have HQ4 := Lib.hid hq4
  rw [hq4] at s0 s1 s2 s3 s40 s41 s42 T2
  rw [hq4]
  clear hq4
  go_wp2_with fail
  exact bodyPost_ret (v := hv ⟨x, y, y + 1 + v⟩) (by simp [results, Tryd.results51, go_sem, s1, s2, s3]) rfl ⟨⟨x, y, y + 1 + v⟩, k3, rfl, ⟨x0, hy.1, hy.2, by show y < y + 1 + v; omega, by show y + 1 + v ≤ 51; omega, X1.out⟩, by omega, ((T2.out.src.far (p := ⟨q4, 0, none⟩) (by show b ≠ q4; have := HQ4.out; omega) _).far (p := ⟨q4, 1, none⟩) (by show b ≠ q4; have := HQ4.out; omega) _).far (p := ⟨q4, 2, none⟩) (by show b ≠ q4; have := HQ4.out; omega) _, gr_new (gr_new (gr_new T2.out.gr (p := ⟨q4, 0, none⟩) (Nat.le_of_eq HQ4.out) _) (p := ⟨q4, 1, none⟩) (Nat.le_of_eq HQ4.out) _) (p := ⟨q4, 2, none⟩) (Nat.le_of_eq HQ4.out) _⟩
/-- one field of the hire at p has been written, behind calls that only move the source on -/
def spoilPost (b p o : Nat) (A : Option Addr) (n c k : Nat) (w : World) (e : Ending) (w' : World) : Prop :=
  ∃ (j : Nat) (u : Int) (w1 : World) (k' : Nat), e = .returned (.tuple #[]) ∧ j < 3 ∧ w' = w1.setCell ⟨p, o + j, none⟩ (i64 u) ∧ k' ≤ k + 4 ∧ SrcAt w1 b A n c k' ∧ w.grownBy w1 (some b)
set_option maxRecDepth 10000 in
set_option maxHeartbeats 2000000 in
theorem l25Spoil_any (b p o : Nat) (A : Option Addr) (n c k : Nat) (x : Hire) (w : World) (h : SrcAt w b A n c k) (hb : Byt w b A n) (hk : k ≤ 800000) (hn : n ≤ 1000000) (hne : p ≠ b)
    (hp : p < w.heap.size) (c0 : w.cell? ⟨p, o, none⟩ = some (i64 x.m)) (c1 : w.cell? ⟨p, o + 1, none⟩ = some (i64 x.f)) (c2 : w.cell? ⟨p, o + 2, none⟩ = some (i64 x.t)) (f : ∀ j, w.frozen? ⟨p, o + j, none⟩ = false) :
    Calls Tryd.prog 54 #[.pointer (some ⟨b, 0, none⟩), .pointer (some ⟨p, o, none⟩)] w (spoilPost b p o A n c k w) := by
  have hlt := h.lt
  have HK := Lib.hid (show ∀ V, w.grownBy V (some b) → p < V.heap.size ∧ V.cell? ⟨p, o, none⟩ = some (i64 x.m) ∧ V.cell? ⟨p, o + 1, none⟩ = some (i64 x.f) ∧ V.cell? ⟨p, o + 2, none⟩ = some (i64 x.t) ∧ (V.frozen? ⟨p, o, none⟩ = false ∧ V.frozen? ⟨p, o + 1, none⟩ = false ∧ V.frozen? ⟨p, o + 2, none⟩ = false) from fun V hg =>
    ⟨Nat.lt_of_lt_of_le hp hg.size, (hg.cell_far _ hp (fun e => by injection e with e; exact hne e)).trans c0, (hg.cell_far _ hp (fun e => by injection e with e; exact hne e)).trans c1, (hg.cell_far _ hp (fun e => by injection e with e; exact hne e)).trans c2, (hg.frozen_far _ hp (fun e => by injection e with e; exact hne e)).trans (f 0), (hg.frozen_far _ hp (fun e => by injection e with e; exact hne e)).trans (f 1), (hg.frozen_far _ hp (fun e => by injection e with e; exact hne e)).trans (f 2)⟩)
  have HS := Lib.hid h
  have HB0 := Lib.hid hb
  clear h hb c0 c1 c2 f hp
  go_enter Tryd.func54, Tryd.ntmps54
  go_wp2_with fail
  refine (pick_any b A n c k 3 w HS.out HB0.out (by omega) hn (by omega)).mono ?_
  rintro e V ⟨v, k1, rfl, v0, v1, hk1, hs1, hg1⟩
  have S1 := Lib.hid hs1
  have B1 := Lib.hid (HB0.out.grown hg1)
  have G1 := Lib.hid hg1
  have hq1 : b < V.heap.size := Nat.lt_of_lt_of_le hlt hg1.size
  clear hs1 hg1 HS HB0
  by_cases t0 : v = 0
  · subst t0
    go_wp2_with fail
    refine (among_any b A n c k1 (some ⟨V.heap.size, 0, none⟩) 4 [-1, 19, 20, -9223372036854775808] _ (S1.out.alloc _) (B1.out.alloc _) (by omega) hn (rds_newA 1 4 rfl rfl) (by decide) (by decide) (adr_neH hq1)).mono ?_
    rintro e V2 ⟨v2, k2, rfl, ⟨d2, hd2, rfl⟩, hk2, hs2, hg2⟩
    have S2 := Lib.hid hs2
    have G2 := Lib.hid (grown_trans (gr_alloc G1.out _) hg2)
    clear hs2 hg2 hd2 S1 B1 G1
    obtain ⟨r0, r1, r2, r3, r4, r5, r6⟩ := HK.out V2 G2.out
    go_wp2_with fail
    go_end0
    exact ⟨0, d2, V2, k2, rfl, by omega, rfl, by omega, S2.out, G2.out⟩
  by_cases t1 : v = 1
  · subst t1
    obtain ⟨r0, r1, r2, r3, r4, r5, r6⟩ := HK.out V G1.out
    have hC0 := Lib.hid (And.intro r0 r3)
    go_upto_region 4 with (fail)
    refine wp_region_T (fun U => p < U.heap.size ∧ U.cell? ⟨p, o + 2, none⟩ = some (i64 x.t)) 15 (by kernel_rfl) ?_
    refine wpAnyT_pure (i := 0) (v := ?_) rfl (by kernel_rfl) (by kernel_rfl) (by kernel_rfl) (by decide) (fun _ _ _ h => h) (Or.inl ⟨by rfl, ?_⟩) (fun _ => hC0.out) ?_
    rotate_left
    · intro w _; go_simp; try (with_reducible rfl)
    try simp only [Act.put, List.setIfInBounds_toArray, List.set_cons_zero, List.set_cons_succ]
    refine wpAnyT_pure (i := 1) (v := ?_) rfl (by kernel_rfl) (by kernel_rfl) (by kernel_rfl) (by decide) (fun _ _ _ h => h) (Or.inl ⟨by rfl, ?_⟩) (fun _ => hC0.out) ?_
    rotate_left
    · intro w _; go_simp; try (with_reducible rfl)
    try simp only [Act.put, List.setIfInBounds_toArray, List.set_cons_zero, List.set_cons_succ]
    refine wpAnyT_pure (i := 2) (v := ?_) rfl (by kernel_rfl) (by kernel_rfl) (by kernel_rfl) (by decide) (fun _ _ _ h => h) (Or.inl ⟨by rfl, ?_⟩) (fun _ => hC0.out) ?_
    rotate_left
    · intro w _; go_simp; try (with_reducible rfl)
    try simp only [Act.put, List.setIfInBounds_toArray, List.set_cons_zero, List.set_cons_succ]
    refine wpAnyT_pure (i := 3) (v := ?_) rfl (by kernel_rfl) (by kernel_rfl) (by kernel_rfl) (by decide) (fun _ _ _ h => h) (Or.inl ⟨by rfl, ?_⟩) (fun _ => hC0.out) ?_
    rotate_left
    · intro w _; go_simp; try (with_reducible rfl)
    try simp only [Act.put, List.setIfInBounds_toArray, List.set_cons_zero, List.set_cons_succ]
    refine wpAnyT_pure (i := 4) (v := ?_) rfl (by kernel_rfl) (by kernel_rfl) (by kernel_rfl) (by decide) (fun _ _ _ h => h) (Or.inl ⟨by rfl, ?_⟩) (fun _ => hC0.out) ?_
    rotate_left
    · intro w _; go_simp; try (with_reducible rfl)
    try simp only [Act.put, List.setIfInBounds_toArray, List.set_cons_zero, List.set_cons_succ]
    refine wpAnyT_load (i := 5) (v := ?_) rfl (by kernel_rfl) (by kernel_rfl) (by kernel_rfl) (by decide) (by kernel_rfl) (by kernel_rfl) (fun _ _ _ h => h) (Or.inl ⟨by rfl, ?_⟩) hC0.out ?_
    rotate_left
    · intro w hSw; (try dsimp only at hSw); go_simp; try (with_reducible rfl)
    try simp only [Act.put, List.setIfInBounds_toArray, List.set_cons_zero, List.set_cons_succ]
    refine wpAnyT_pure (i := 6) (v := ?_) rfl (by kernel_rfl) (by kernel_rfl) (by kernel_rfl) (by decide) (fun _ _ _ h => h) (Or.inl ⟨by rfl, ?_⟩) (fun _ => hC0.out) ?_
    rotate_left
    · intro w _; go_simp; try (with_reducible rfl)
    try simp only [Act.put, List.setIfInBounds_toArray, List.set_cons_zero, List.set_cons_succ]
    refine wpAnyT_pure (i := 7) (v := ?_) rfl (by kernel_rfl) (by kernel_rfl) (by kernel_rfl) (by decide) (fun _ _ _ h => h) (Or.inl ⟨by rfl, ?_⟩) (fun _ => hC0.out) ?_
    rotate_left
    · intro w _; go_simp; try (with_reducible rfl)
    try simp only [Act.put, List.setIfInBounds_toArray, List.set_cons_zero, List.set_cons_succ]
    refine wpAnyT_pure (i := 8) (v := ?_) rfl (by kernel_rfl) (by kernel_rfl) (by kernel_rfl) (by decide) (fun _ _ _ h => h) (Or.inl ⟨by rfl, ?_⟩) (fun _ => hC0.out) ?_
    rotate_left
    · intro w _; go_simp; try (with_reducible rfl)
    try simp only [Act.put, List.setIfInBounds_toArray, List.set_cons_zero, List.set_cons_succ]
    refine wpAnyT_pure (i := 9) (v := ?_) rfl (by kernel_rfl) (by kernel_rfl) (by kernel_rfl) (by decide) (fun _ _ _ h => h) (Or.inl ⟨by rfl, ?_⟩) (fun _ => hC0.out) ?_
    rotate_left
    · intro w _; go_simp; try (with_reducible rfl)
    try simp only [Act.put, List.setIfInBounds_toArray, List.set_cons_zero, List.set_cons_succ]
    refine wpAnyT_load (i := 10) (v := ?_) rfl (by kernel_rfl) (by kernel_rfl) (by kernel_rfl) (by decide) (by kernel_rfl) (by kernel_rfl) (fun _ _ _ h => h) (Or.inl ⟨by rfl, ?_⟩) hC0.out ?_
    rotate_left
    · intro w hSw; (try dsimp only at hSw); go_simp; try (with_reducible rfl)
    try simp only [Act.put, List.setIfInBounds_toArray, List.set_cons_zero, List.set_cons_succ]
    refine wpAnyT_one (i := 11) (by kernel_rfl) rfl (fun K hK => ?_)
    go_simp
    have HKa := Lib.hid (HK.out _ (gr_alloc G1.out (.cells #[i64 (-1), i64 0, i64 (IntKind.i64.wrap (x.t - 1)), i64 x.t] 2)))
    refine hK.out _ _ (fun _ => ⟨HKa.out.1, HKa.out.2.2.2.1⟩) ?_
    clear hK K
    try simp only [Act.put, List.setIfInBounds_toArray, List.set_cons_zero, List.set_cons_succ]
    refine wpAnyT_one (i := 12) (by kernel_rfl) rfl (fun K hK => ?_)
    go_simp
    go_at_call 57
    refine (among_any b A n c k1 _ 4 [-1, 0, IntKind.i64.wrap (x.t - 1), x.t] _ (S1.out.bel (by repeat (first | exact Below.refl _ _ | refine bl_tr ?_ _ | refine bl_al ?_ _ | refine bl_dr ?_ | refine bl_up ?_ _ | refine Below.drew ?_ | refine bl_alloc ?_ _ | refine Below.setCell ?_ (by first | (simp; done) | (simp; omega)) _))) (B1.out.bel (by repeat (first | exact Below.refl _ _ | refine bl_tr ?_ _ | refine bl_al ?_ _ | refine bl_dr ?_ | refine bl_up ?_ _ | refine Below.drew ?_ | refine bl_alloc ?_ _ | refine Below.setCell ?_ (by first | (simp; done) | (simp; omega)) _))) (by omega) hn (by first | exact rds_newA 1 4 rfl rfl | exact rds_newA 1 4 (by simp) rfl) (by simp) (by simp) (adr_neH (by first | exact hq1 | omega))).mono ?_
    rintro e V2 ⟨v2, k2, rfl, ⟨d2, hd2, rfl⟩, hk2, hs2, hg2⟩
    have S2 := Lib.hid hs2
    have G2 := Lib.hid (grown_trans (gr_up G1.out ⟨_, (by repeat (first | exact Below.refl _ _ | refine bl_tr ?_ _ | refine bl_al ?_ _ | refine bl_dr ?_ | refine bl_up ?_ _ | refine Below.drew ?_ | refine bl_alloc ?_ _ | refine Below.setCell ?_ (by first | (simp; done) | (simp; omega)) _))⟩) hg2)
    clear hs2 hg2 hd2 S1 B1 G1 hC0 r0 r1 r2 r3 r4 r5 r6 HKa
    obtain ⟨r0, r1, r2, r3, r4, r5, r6⟩ := HK.out V2 G2.out
    have hC0 := Lib.hid (And.intro r0 r3)
    try go_wp2_with fail
    refine hK.out _ _ (fun _ => hC0.out) ?_
    clear hK K
    try simp only [Act.put, List.setIfInBounds_toArray, List.set_cons_zero, List.set_cons_succ]
    refine wpAnyT_pure (i := 13) (v := ?_) rfl (by kernel_rfl) (by kernel_rfl) (by kernel_rfl) (by decide) (fun _ _ _ h => h) (Or.inl ⟨by rfl, ?_⟩) (fun _ => hC0.out) ?_
    rotate_left
    · intro w _; go_simp; try (with_reducible rfl)
    try simp only [Act.put, List.setIfInBounds_toArray, List.set_cons_zero, List.set_cons_succ]
    refine wpAnyT_pure (i := 14) (v := ?_) rfl (by kernel_rfl) (by kernel_rfl) (by kernel_rfl) (by decide) (fun _ _ _ h => h) (Or.inl ⟨by rfl, ?_⟩) (fun _ => hC0.out) ?_
    rotate_left
    · intro w _; go_simp; try (with_reducible rfl)
    try simp only [Act.put, List.setIfInBounds_toArray, List.set_cons_zero, List.set_cons_succ]
    refine wpAnyT_one (i := 15) (by kernel_rfl) rfl (fun K hK => ?_)
    go_simp
    refine hK.out _ _ (fun h9 => absurd (show true = false from h9) (by decide)) ?_
    clear hK K
    try simp only [Act.put, List.setIfInBounds_toArray, List.set_cons_zero, List.set_cons_succ]
    refine wpAnyT_done (by kernel_rfl) ?_ _
    refine exit_gen (R := fun U => U = V2.setCell ⟨p, o + 1, none⟩ (i64 d2)) rfl (fun U hU => ?_)
    go_wp2_with fail
    go_end0
    exact ⟨1, d2, V2, k2, rfl, by omega, hU, by omega, S2.out, G2.out⟩
  · have t2 : v = 2 := by omega
    subst t2
    clear t0 t1 v0 v1
    obtain ⟨r0, r1, r2, r3, r4, r5, r6⟩ := HK.out V G1.out
    go_wp2_with fail
    refine (among_any b A n c k1 (some ⟨V.heap.size, 0, none⟩) 4 [0, x.f, 3650, 3651] _ (S1.out.alloc _) (B1.out.alloc _) (by omega) hn (rds_newA 1 4 rfl rfl) (by simp) (by simp) (adr_neH hq1)).mono ?_
    rintro e V2 ⟨v2, k2, rfl, ⟨d2, hd2, rfl⟩, hk2, hs2, hg2⟩
    have S2 := Lib.hid hs2
    have G2 := Lib.hid (grown_trans (gr_alloc G1.out _) hg2)
    clear hs2 hg2 hd2 S1 B1 G1 r0 r1 r2 r3 r4 r5 r6
    obtain ⟨r0, r1, r2, r3, r4, r5, r6⟩ := HK.out V2 G2.out
    go_wp2_with fail
    go_end0
    exact ⟨2, d2, V2, k2, rfl, by omega, rfl, by omega, S2.out, G2.out⟩
end Go.Proofs.YtiagckbdofeecaaDoor

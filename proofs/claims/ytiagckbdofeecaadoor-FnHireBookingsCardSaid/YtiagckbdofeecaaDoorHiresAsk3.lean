/-
  The reference's drawing of a hire's text, whatever the bytes are. The bounds stand at it.
-/
import Derived.Test.YtiagckbdofeecaaDoorHiresAsk2
namespace Go.Proofs.YtiagckbdofeecaaDoor
open Go.RowKit
def readHPost (w : World) (e : Ending) (w' : World) : Prop := ∃ t : ByteArray, e = .returned (.string t) ∧ t.size ≤ 100000 ∧ UpOf w w'
set_option maxRecDepth 10000 in
set_option maxHeartbeats 1000000 in
theorem drawReadHire_any (A : Option Addr) (n c : Nat) (zs : List Int) (w : World) (hz : ∀ z ∈ zs, 0 ≤ z ∧ z ≤ 255) (h : Rds w 1 A n (bytes zs)) (hn : n ≤ 4096) :
    Calls Tryd.prog 25 #[.slice A n c] w (readHPost w) := by
  have HR := Lib.hid h
  clear h
  go_enter Tryd.func25, Tryd.ntmps25
  go_wp2_with fail
  refine (l00From_any A n c _).mono ?_
  rintro e w1 ⟨rfl, rfl⟩
  have B0 := Lib.hid (byt_new hz HR.out (.cells #[.slice A n c, .int .i64 0, .int .u64 0] 87))
  go_wp2_with fail
  refine (l25New_any w.heap.size A n c 0 9 _ (src_new w A n c) B0.out (by omega) (by omega) (by omega)).mono ?_
  rintro e V ⟨x, k2, rfl, ⟨h0, h1, h2, h3, h4, h5⟩, hk2, hs2, hg2⟩
  have hv := Lib.hid (show vHire x = true by simp [vHire, btw, days]; omega)
  have S2 := Lib.hid hs2
  have B2 := Lib.hid (B0.out.grown hg2)
  have G2 := Lib.hid hg2
  clear hs2 hg2 B0
  go_wp2_with fail
  refine cg (R := fun U => Hid (At U V.heap.size 0 x) ∧ Hid (Below V.heap.size V U)) ⟨Lib.hid At.newT, Lib.hid (by repeat (first | exact Below.refl _ _ | refine bl_tr ?_ _ | refine bl_al ?_ _ | refine bl_dr ?_ | refine bl_up ?_ _ | refine Below.drew ?_ | refine bl_alloc ?_ _ | refine Below.setCell ?_ (by first | (simp; done) | (simp; omega)) _))⟩ (fun U z => ?_)
  obtain ⟨z1, z2⟩ := z
  refine (l25Text_any x hv.out V.heap.size 0 U z1.out).mono ?_
  rintro e U2 ⟨rfl, hu⟩
  have hb2 := z2.out.trans (hu.below.mono z2.out.size)
  have S3 := Lib.hid (S2.out.bel hb2)
  have B3 := Lib.hid (B2.out.bel hb2)
  have G3 := Lib.hid (gr_up G2.out ⟨U2, hb2⟩)
  have hts : (hTextV x).size ≤ 99999 := by
    have d1 := dec_len (n := x.m) (by omega) (by omega)
    have d2 := dec_len (n := x.f) (by omega) (by omega)
    have d3 := dec_len (n := x.t) (by omega) (by omega)
    have z1 : (⟨#[35]⟩ : ByteArray).size = 1 := rfl
    have z2 : (⟨#[32]⟩ : ByteArray).size = 1 := rfl
    have z3 : (⟨#[45]⟩ : ByteArray).size = 1 := rfl
    simp only [hTextV, ByteArray.size_append]
    omega
  generalize hTextV x = t at *
  clear S2 B2 z1
  go_wp2_with fail
  refine (one_any w.heap.size A n c k2 3 U2 S3.out B3.out (by omega) (by omega) (by omega)).mono ?_
  rintro e V4 ⟨b, k4, rfl, hk4, hs4, hg4⟩
  have S4 := Lib.hid hs4
  have B4 := Lib.hid (B3.out.grown hg4)
  have G4 := Lib.hid (grown_trans G3.out hg4)
  clear hs4 hg4 S3 B3
  cases b with
  | true =>
    go_wp2_with fail
    refine (l01Spoil_any w.heap.size A n c k4 t V4 S4.out B4.out (by omega) (by omega) (by omega)).mono ?_
    rintro e V5 ⟨t', k5, rfl, ht', hk5, hs5, hg5⟩
    have G5 := Lib.hid (grown_trans G4.out hg5)
    clear hs5 hg5
    go_wp2_with fail
    go_ret
    exact ⟨t', rfl, by omega, up_of_grown ((Below.refl _ _).alloc (Nat.le_refl _) _) G5.out (fun k hk => by injection hk with hk; omega)⟩
  | false =>
    go_wp2_with fail
    go_ret
    exact ⟨t, rfl, by omega, up_of_grown ((Below.refl _ _).alloc (Nat.le_refl _) _) G4.out (fun k hk => by injection hk with hk; omega)⟩
def htPost (w : World) (e : Ending) (w' : World) : Prop := ∃ x : Hire, e = .returned (hv x) ∧ UpOf w w'
theorem hcl_put (x : Hire) {j : Nat} (hj : j < 3) (u : Int) : (hcl x).setIfInBounds j (i64 u) = hcl (x.put j u) := by
  have : j = 0 ∨ j = 1 ∨ j = 2 := by omega
  rcases this with rfl | rfl | rfl <;> rfl
set_option maxRecDepth 10000 in
set_option maxHeartbeats 1000000 in
theorem drawHireText_any (A : Option Addr) (n c : Nat) (zs : List Int) (w : World) (hz : ∀ z ∈ zs, 0 ≤ z ∧ z ≤ 255) (h : Rds w 1 A n (bytes zs)) (hn : n ≤ 4096) :
    Calls Tryd.prog 24 #[.slice A n c] w (htPost w) := by
  have HR := Lib.hid h
  clear h
  go_enter Tryd.func24, Tryd.ntmps24
  go_wp2_with fail
  refine cg (R := fun V => Hid (Blk V w.heap.size 25 (hcl ⟨0, 0, 0⟩)) ∧ Hid (Rds V 1 A n (bytes zs)) ∧ Hid (UpOf w V) ∧ Hid (w.heap.size < V.heap.size)) ⟨Lib.hid (Blk.new _ _ _), Lib.hid (HR.out.below (by repeat (first | exact Below.refl _ _ | refine bl_tr ?_ _ | refine bl_al ?_ _ | refine bl_dr ?_ | refine bl_up ?_ _ | refine Below.drew ?_ | refine bl_alloc ?_ _ | refine Below.setCell ?_ (by first | (simp; done) | (simp; omega)) _))), Lib.hid UpOf.of (by repeat (first | exact Below.refl _ _ | refine bl_tr ?_ _ | refine bl_al ?_ _ | refine bl_dr ?_ | refine bl_up ?_ _ | refine Below.drew ?_ | refine bl_alloc ?_ _ | refine Below.setCell ?_ (by first | (simp; done) | (simp; omega)) _)), Lib.hid (by simp)⟩ (fun V z => ?_)
  obtain ⟨z1, z2, z3, z4⟩ := z
  clear HR
  refine (l00From_any A n c V).mono ?_
  rintro e w1 ⟨rfl, rfl⟩
  have B0 := Lib.hid (byt_new hz z2.out (.cells #[.slice A n c, .int .i64 0, .int .u64 0] 87))
  go_wp2_with fail
  refine (l25New_any V.heap.size A n c 0 9 _ (src_new V A n c) B0.out (by omega) (by omega) (by omega)).mono ?_
  rintro e V2 ⟨x, k2, rfl, hx, hk2, hs2, hg2⟩
  have Z2 := Lib.hid ((z1.out.alloc (.cells #[.slice A n c, .int .i64 0, .int .u64 0] 87)).grown hg2 (fun e => by injection e with e; have := z4.out; omega))
  have S2 := Lib.hid hs2
  have B2 := Lib.hid (B0.out.grown hg2)
  have G2 := Lib.hid hg2
  have hV2 := Lib.hid (show V.heap.size < V2.heap.size from Nat.lt_of_lt_of_le (by simp) hg2.size)
  clear hs2 hg2 B0 z1 z2 hx
  go_upto_region 3 with (fail)
  refine wpg (R := fun U => Hid (Blk U w.heap.size 25 (hcl ⟨0, 0, 0⟩)) ∧ Hid (Blk U V2.heap.size 25 (hcl x)) ∧ Hid (SrcAt U V.heap.size A n c k2) ∧ Hid (Byt U V.heap.size A n) ∧ Hid ((V.alloc (.cells #[.slice A n c, .int .i64 0, .int .u64 0] 87)).grownBy U (some V.heap.size))) ⟨Lib.hid (Z2.out.up ⟨_, (by repeat (first | exact Below.refl _ _ | refine bl_tr ?_ _ | refine bl_al ?_ _ | refine bl_dr ?_ | refine bl_up ?_ _ | refine Below.drew ?_ | refine bl_alloc ?_ _ | refine Below.setCell ?_ (by first | (simp; done) | (simp; omega)) _))⟩), Lib.hid (Blk.new _ _ _), Lib.hid (S2.out.bel (by repeat (first | exact Below.refl _ _ | refine bl_tr ?_ _ | refine bl_al ?_ _ | refine bl_dr ?_ | refine bl_up ?_ _ | refine Below.drew ?_ | refine bl_alloc ?_ _ | refine Below.setCell ?_ (by first | (simp; done) | (simp; omega)) _))), Lib.hid (B2.out.bel (by repeat (first | exact Below.refl _ _ | refine bl_tr ?_ _ | refine bl_al ?_ _ | refine bl_dr ?_ | refine bl_up ?_ _ | refine Below.drew ?_ | refine bl_alloc ?_ _ | refine Below.setCell ?_ (by first | (simp; done) | (simp; omega)) _))), Lib.hid (gr_up G2.out ⟨_, (by repeat (first | exact Below.refl _ _ | refine bl_tr ?_ _ | refine bl_al ?_ _ | refine bl_dr ?_ | refine bl_up ?_ _ | refine Below.drew ?_ | refine bl_alloc ?_ _ | refine Below.setCell ?_ (by first | (simp; done) | (simp; omega)) _))⟩)⟩ (fun U z => ?_)
  clear Z2 S2 B2 G2
  obtain ⟨Z2, Q2, S2, B2, G2⟩ := z
  generalize V2.heap.size = q5 at *
  go_wp2_with fail
  refine (one_any V.heap.size A n c k2 4 U S2.out B2.out (by omega) (by omega) (by omega)).mono ?_
  rintro e U3 ⟨t, k3, rfl, hk3, hs3, hg3⟩
  have Z3 := Lib.hid (Z2.out.grown hg3 (fun e => by injection e with e; have := z4.out; omega))
  have Q3 := Lib.hid (Q2.out.grown hg3 (fun e => by injection e with e; have := hV2.out; omega))
  have S3 := Lib.hid hs3
  have B3 := Lib.hid (B2.out.grown hg3)
  have G3 := Lib.hid (grown_trans G2.out hg3)
  have hup : ∀ W, (V.alloc (.cells #[.slice A n c, .int .i64 0, .int .u64 0] 87)).grownBy W (some V.heap.size) → UpOf w W := fun W hg => z3.out.tr (up_of_grown ((Below.refl _ _).alloc (Nat.le_refl _) _) hg (fun k hk => by injection hk with hk; omega)).below
  have HUP := Lib.hid hup
  clear hs3 hg3 Z2 Q2 S2 B2 G2 hup
  cases t with
  | false =>
    have UP := Lib.hid (HUP.out _ G3.out)
    have u0 := Q3.out.lt
    have u1 := Q3.out.cell 0
    have u2 := Q3.out.cell 1
    have u3 := Q3.out.cell 2
    have v0 := Z3.out.lt
    have v1 := Z3.out.cell 0
    have v2 := Z3.out.cell 1
    have v3 := Z3.out.cell 2
    have v4 := Z3.out.free 0
    have v5 := Z3.out.free 1
    have v6 := Z3.out.free 2
    simp only [hcl, List.getElem?_toArray, List.getElem?_cons_zero, List.getElem?_cons_succ] at u1 u2 u3 v1 v2 v3
    go_wp2_with fail
    exact bodyPost_ret (v := hv x) (by simp [results, Tryd.results24, go_sem, v1, v2, v3]) rfl ⟨x, rfl, UpOf.of (((UP.out.below.setCell (p := ⟨w.heap.size, 0, none⟩) (Nat.le_refl _) _).setCell (p := ⟨w.heap.size, 1, none⟩) (Nat.le_refl _) _).setCell (p := ⟨w.heap.size, 2, none⟩) (Nat.le_refl _) _)⟩
  | true =>
    go_wp2_with fail
    refine (l25Spoil_any V.heap.size q5 0 A n c k3 x U3 S3.out B3.out (by omega) (by omega) (by have := hV2.out; omega) Q3.out.lt (Q3.out.cell 0) (Q3.out.cell 1) (Q3.out.cell 2) (fun j => Q3.out.free _)).mono ?_
    rintro e U4 ⟨j, u, W4, k4, rfl, hj3, rfl, hk4, hs4, hg4⟩
    have Q4 : Hid (Blk (W4.setCell ⟨q5, 0 + j, none⟩ (i64 u)) q5 25 (hcl (x.put j u))) := Lib.hid (by
      rw [← hcl_put x hj3 u, Nat.zero_add]
      exact (Q3.out.grown hg4 (fun e => by injection e with e; have := hV2.out; omega)).put j (i64 u))
    have Z4 := Lib.hid ((Z3.out.grown hg4 (fun e => by injection e with e; have := z4.out; omega)).far (p := ⟨q5, 0 + j, none⟩) (by show w.heap.size ≠ q5; have := hV2.out; have := z4.out; omega) (i64 u))
    have UP := Lib.hid (UpOf.of ((HUP.out _ (grown_trans G3.out hg4)).below.setCell (p := ⟨q5, 0 + j, none⟩) (by show w.heap.size ≤ q5; have := hV2.out; have := z4.out; omega) (i64 u)))
    clear hs4 hg4 Q3 Z3 S3 B3 G3
    generalize W4.setCell ⟨q5, 0 + j, none⟩ (i64 u) = U5 at *
    generalize x.put j u = y at *
    have u0 := Q4.out.lt
    have u1 := Q4.out.cell 0
    have u2 := Q4.out.cell 1
    have u3 := Q4.out.cell 2
    have v0 := Z4.out.lt
    have v1 := Z4.out.cell 0
    have v2 := Z4.out.cell 1
    have v3 := Z4.out.cell 2
    have v4 := Z4.out.free 0
    have v5 := Z4.out.free 1
    have v6 := Z4.out.free 2
    simp only [hcl, List.getElem?_toArray, List.getElem?_cons_zero, List.getElem?_cons_succ] at u1 u2 u3 v1 v2 v3
    go_wp2_with fail
    exact bodyPost_ret (v := hv y) (by simp [results, Tryd.results24, go_sem, v1, v2, v3]) rfl ⟨y, rfl, UpOf.of (((UP.out.below.setCell (p := ⟨w.heap.size, 0, none⟩) (Nat.le_refl _) _).setCell (p := ⟨w.heap.size, 1, none⟩) (Nat.le_refl _) _).setCell (p := ⟨w.heap.size, 2, none⟩) (Nat.le_refl _) _)⟩
end Go.Proofs.YtiagckbdofeecaaDoor

/-
  The reference's drawing of two price lists that are often alike, whatever the bytes are. The bounds stand at it.
-/
import Derived.Test.YtiibpldfnnhhlaaDoorWarePut
import Derived.Test.YtiibpldfnnhhlaaDoorTakeT
import Derived.Deep.DeepCutAuto
namespace Go.Proofs.YtiibpldfnnhhlaaDoor
open Go.RowKit
theorem bkcs_oneK (l : List Brk) : ∀ u ∈ bkcs l, u.oneCell' = true := by
  intro u hu
  simp only [bkcs, List.mem_flatMap] at hu
  obtain ⟨b, _, h⟩ := hu
  simp only [Brk.cells, List.mem_cons, List.not_mem_nil, or_false] at h
  rcases h with rfl | rfl <;> rfl
def samePost (w : World) (e : Ending) (w' : World) : Prop :=
  ∃ (x : List Ware) (A1 : Option Addr) (c1 : Nat) (y : List Ware) (A2 : Option Addr) (c2 : Nat), e = .returned (.tuple #[.slice A1 x.length c1, .slice A2 y.length c2]) ∧ WSee w' A1 x ∧ WSee w' A2 y ∧ WShort 12 x ∧ WShort 12 y ∧ x.length ≤ 5 ∧ y.length ≤ 5 ∧ UpOf w w'
set_option maxRecDepth 10000 in
set_option maxHeartbeats 4000000 in
theorem drawSame_any (A : Option Addr) (n c : Nat) (zs : List Int) (w : World) (hz : ∀ z ∈ zs, 0 ≤ z ∧ z ≤ 255) (h : Rds w 1 A n (bytes zs)) (hn : n ≤ 4096) :
    Calls Tryd.prog 32 #[.slice A n c] w (samePost w) := by
  have HR := Lib.hid h
  clear h
  go_enter Tryd.func32, Tryd.ntmps32
  go_wp2_with fail
  refine (l00From_any A n c _).mono ?_
  rintro e w1 ⟨rfl, rfl⟩
  have B0 := Lib.hid (byt_new hz HR.out (.cells #[.slice A n c, .int .i64 0, .int .u64 0] 105))
  go_wp2_with fail
  refine (l26DrawO_any w.heap.size A n c 0 _ (src_new w A n c) B0.out (by omega) (by omega)).mono ?_
  rintro e W0 ⟨l, A1, c1, ps, k2, rfl, hw, hsh, hone, hl, hk2, hs2, hg2⟩
  have W2 := Lib.hid hw
  have SH := Lib.hid hsh
  have ONE := Lib.hid hone
  have S2 := Lib.hid hs2
  have B2 := Lib.hid (B0.out.grown hg2)
  have G2 := Lib.hid hg2
  have hq2 : w.heap.size < W0.heap.size := Nat.lt_of_lt_of_le (by simp) hg2.size
  have hOwn := Lib.hid (World.ownsRow_lit (base := W0.heap.size) (e := 29) (size := 2) W0 #[] 0 (Nat.le_refl _) (by unfold maxLen; omega) rfl)
  clear hw hsh hone hs2 hg2 B0
  go_wp2_with fail
  go_loopw [6, 7] (fun o ii V => ∃ (y : List Ware) (A' : Option Addr) (c' : Nat) (pb : List Ptr), ii = i64 y.length ∧ o = .slice A' y.length c' ∧ y.length ≤ l.length ∧ Hid (WShort 3 y) ∧ Hid (WOne y) ∧ Hid (WGot W0.heap.size V A' c' y pb) ∧ Hid (Below W0.heap.size W0 V)) (fun _ ii _ => l.length - (intOf ii).toNat)
  case atStart => exact ⟨[], _, _, [], rfl, rfl, by simp, WShort.nil, WOne.nil, Lib.hid (WGot.lit hOwn.out), Lib.hid (by repeat (first | exact Below.refl _ _ | refine bl_tr ?_ _ | refine bl_al ?_ _ | refine bl_dr ?_ | refine bl_up ?_ _ | refine Below.drew ?_ | refine bl_alloc ?_ _ | refine Below.setCell ?_ (by first | (simp; done) | (simp; omega)) _))⟩
  case round =>
    obtain ⟨y, A', c', pb, rfl, rfl, hyl, hys, hyo, WB, BW⟩ := hrel
    clear hOwn
    by_cases hlt : y.length < l.length
    · have hlt' : (y.length : Int) < (l.length : Int) := by omega
      obtain ⟨a, off, Ai, ci, rfl, ha, c0, c1', c2⟩ := ware_at (WGot.see W2.out) hlt
      have HCV := Lib.hid (show ∀ V, Below W0.heap.size W0 V → a < V.heap.size ∧ V.cell? ⟨a, off + y.length * 2, none⟩ = some (.string (wat l y.length).name) ∧ V.cell? ⟨a, off + y.length * 2 + 1, none⟩ = some (.slice Ai (wat l y.length).brs.length ci) from fun V hb => ⟨Nat.lt_of_lt_of_le ha hb.size, (hb.cell (p := ⟨a, off + y.length * 2, none⟩) ha).trans c0, (hb.cell (p := ⟨a, off + y.length * 2 + 1, none⟩) ha).trans c1'⟩)
      have HBR := Lib.hid c2
      obtain ⟨hz1, hz2⟩ := SH.out y.length hlt
      have hz3 := ONE.out y.length hlt
      have HA := Lib.hid (fun k (e : ablk A' = some k) => (WHas.aLt WB.out e).2)
      have HP := Lib.hid (fun i (hi : i < pb.length) k (e : ablk pb[i].1 = some k) => (WHas.pLt WB.out hi e).2)
      clear c0 c1' c2 ha
      generalize wat l y.length = x at *
      obtain ⟨B, hB⟩ : ∃ B, wr.heap.size = B := ⟨_, rfl⟩
      rw [hB] at HA HP
      have HB0 := Lib.hid (show W0.heap.size ≤ B from hB ▸ BW.out.size)
      go_upto_region 7 with (fail)
      refine wp_region_T (fun V => a < V.heap.size ∧ V.cell? ⟨a, off + y.length * 2, none⟩ = some (.string x.name) ∧ V.cell? ⟨a, off + y.length * 2 + 1, none⟩ = some (.slice Ai x.brs.length ci)) 16 (by kernel_rfl) ?_
      refine wpAnyT_pure (i := 0) (v := ?_) rfl (by kernel_rfl) (by kernel_rfl) (by kernel_rfl) (by decide) (fun _ _ _ h => h) (Or.inl ⟨by rfl, ?_⟩) (fun _ => (HCV.out _ (BW.out.trans (Below.mono (by repeat (first | exact Below.refl _ _ | refine bl_tr ?_ _ | refine bl_al ?_ _ | refine bl_dr ?_ | refine bl_up ?_ _ | refine Below.drew ?_ | refine bl_alloc ?_ _ | refine Below.setCell ?_ (by first | (simp; done) | (simp; omega)) _)) BW.out.size)))) ?_
      rotate_left
      · intro w _; go_simp; try (with_reducible rfl)
      try simp only [Act.put, List.setIfInBounds_toArray, List.set_cons_zero, List.set_cons_succ]
      refine wpAnyT_pure (i := 1) (v := ?_) rfl (by kernel_rfl) (by kernel_rfl) (by kernel_rfl) (by decide) (fun _ _ _ h => h) (Or.inl ⟨by rfl, ?_⟩) (fun _ => (HCV.out _ (BW.out.trans (Below.mono (by repeat (first | exact Below.refl _ _ | refine bl_tr ?_ _ | refine bl_al ?_ _ | refine bl_dr ?_ | refine bl_up ?_ _ | refine Below.drew ?_ | refine bl_alloc ?_ _ | refine Below.setCell ?_ (by first | (simp; done) | (simp; omega)) _)) BW.out.size)))) ?_
      rotate_left
      · intro w _; go_simp; try (with_reducible rfl)
      try simp only [Act.put, List.setIfInBounds_toArray, List.set_cons_zero, List.set_cons_succ]
      refine wpAnyT_pure (i := 2) (v := ?_) rfl (by kernel_rfl) (by kernel_rfl) (by kernel_rfl) (by decide) (fun _ _ _ h => h) (Or.inl ⟨by rfl, ?_⟩) (fun _ => (HCV.out _ (BW.out.trans (Below.mono (by repeat (first | exact Below.refl _ _ | refine bl_tr ?_ _ | refine bl_al ?_ _ | refine bl_dr ?_ | refine bl_up ?_ _ | refine Below.drew ?_ | refine bl_alloc ?_ _ | refine Below.setCell ?_ (by first | (simp; done) | (simp; omega)) _)) BW.out.size)))) ?_
      rotate_left
      · intro w _; go_simp; try (with_reducible rfl)
      try simp only [Act.put, List.setIfInBounds_toArray, List.set_cons_zero, List.set_cons_succ]
      refine wpAnyT_pure (i := 3) (v := ?_) rfl (by kernel_rfl) (by kernel_rfl) (by kernel_rfl) (by decide) (fun _ _ _ h => h) (Or.inl ⟨by rfl, ?_⟩) (fun _ => (HCV.out _ (BW.out.trans (Below.mono (by repeat (first | exact Below.refl _ _ | refine bl_tr ?_ _ | refine bl_al ?_ _ | refine bl_dr ?_ | refine bl_up ?_ _ | refine Below.drew ?_ | refine bl_alloc ?_ _ | refine Below.setCell ?_ (by first | (simp; done) | (simp; omega)) _)) BW.out.size)))) ?_
      rotate_left
      · intro w _; go_simp; try (with_reducible rfl)
      try simp only [Act.put, List.setIfInBounds_toArray, List.set_cons_zero, List.set_cons_succ]
      refine wpAnyT_pure (i := 4) (v := ?_) rfl (by kernel_rfl) (by kernel_rfl) (by kernel_rfl) (by decide) (fun _ _ _ h => h) (Or.inl ⟨by rfl, ?_⟩) (fun _ => (HCV.out _ (BW.out.trans (Below.mono (by repeat (first | exact Below.refl _ _ | refine bl_tr ?_ _ | refine bl_al ?_ _ | refine bl_dr ?_ | refine bl_up ?_ _ | refine Below.drew ?_ | refine bl_alloc ?_ _ | refine Below.setCell ?_ (by first | (simp; done) | (simp; omega)) _)) BW.out.size)))) ?_
      rotate_left
      · intro w _; go_simp; try (with_reducible rfl)
      try simp only [Act.put, List.setIfInBounds_toArray, List.set_cons_zero, List.set_cons_succ]
      refine wpAnyT_load (i := 5) (v := ?_) rfl (by kernel_rfl) (by kernel_rfl) (by kernel_rfl) (by decide) (by kernel_rfl) (by kernel_rfl) (fun _ _ _ h => h) (Or.inl ⟨by rfl, ?_⟩) (HCV.out _ (BW.out.trans (Below.mono (by repeat (first | exact Below.refl _ _ | refine bl_tr ?_ _ | refine bl_al ?_ _ | refine bl_dr ?_ | refine bl_up ?_ _ | refine Below.drew ?_ | refine bl_alloc ?_ _ | refine Below.setCell ?_ (by first | (simp; done) | (simp; omega)) _)) BW.out.size))) ?_
      rotate_left
      · intro w hSw; (try dsimp only at hSw); go_simp; try (with_reducible rfl)
      try simp only [Act.put, List.setIfInBounds_toArray, List.set_cons_zero, List.set_cons_succ]
      refine wpAnyT_pure (i := 7) (v := ?_) rfl (by kernel_rfl) (by kernel_rfl) (by kernel_rfl) (by decide) (fun _ _ _ h => h) (Or.inl ⟨by rfl, ?_⟩) (fun _ => (HCV.out _ (BW.out.trans (Below.mono (by repeat (first | exact Below.refl _ _ | refine bl_tr ?_ _ | refine bl_al ?_ _ | refine bl_dr ?_ | refine bl_up ?_ _ | refine Below.drew ?_ | refine bl_alloc ?_ _ | refine Below.setCell ?_ (by first | (simp; done) | (simp; omega)) _)) BW.out.size)))) ?_
      rotate_left
      · intro w _; go_simp; try (with_reducible rfl)
      try simp only [Act.put, List.setIfInBounds_toArray, List.set_cons_zero, List.set_cons_succ]
      refine wpAnyT_pure (i := 8) (v := ?_) rfl (by kernel_rfl) (by kernel_rfl) (by kernel_rfl) (by decide) (fun _ _ _ h => h) (Or.inl ⟨by rfl, ?_⟩) (fun _ => (HCV.out _ (BW.out.trans (Below.mono (by repeat (first | exact Below.refl _ _ | refine bl_tr ?_ _ | refine bl_al ?_ _ | refine bl_dr ?_ | refine bl_up ?_ _ | refine Below.drew ?_ | refine bl_alloc ?_ _ | refine Below.setCell ?_ (by first | (simp; done) | (simp; omega)) _)) BW.out.size)))) ?_
      rotate_left
      · intro w _; go_simp; try (with_reducible rfl)
      try simp only [Act.put, List.setIfInBounds_toArray, List.set_cons_zero, List.set_cons_succ]
      refine wpAnyT_pure (i := 9) (v := ?_) rfl (by kernel_rfl) (by kernel_rfl) (by kernel_rfl) (by decide) (fun _ _ _ h => h) (Or.inl ⟨by rfl, ?_⟩) (fun _ => (HCV.out _ (BW.out.trans (Below.mono (by repeat (first | exact Below.refl _ _ | refine bl_tr ?_ _ | refine bl_al ?_ _ | refine bl_dr ?_ | refine bl_up ?_ _ | refine Below.drew ?_ | refine bl_alloc ?_ _ | refine Below.setCell ?_ (by first | (simp; done) | (simp; omega)) _)) BW.out.size)))) ?_
      rotate_left
      · intro w _; go_simp; try (with_reducible rfl)
      try simp only [Act.put, List.setIfInBounds_toArray, List.set_cons_zero, List.set_cons_succ]
      refine wpAnyT_pure (i := 10) (v := ?_) rfl (by kernel_rfl) (by kernel_rfl) (by kernel_rfl) (by decide) (fun _ _ _ h => h) (Or.inl ⟨by rfl, ?_⟩) (fun _ => (HCV.out _ (BW.out.trans (Below.mono (by repeat (first | exact Below.refl _ _ | refine bl_tr ?_ _ | refine bl_al ?_ _ | refine bl_dr ?_ | refine bl_up ?_ _ | refine Below.drew ?_ | refine bl_alloc ?_ _ | refine Below.setCell ?_ (by first | (simp; done) | (simp; omega)) _)) BW.out.size)))) ?_
      rotate_left
      · intro w _; go_simp; try (with_reducible rfl)
      try simp only [Act.put, List.setIfInBounds_toArray, List.set_cons_zero, List.set_cons_succ]
      refine wpAnyT_load (i := 11) (v := ?_) rfl (by kernel_rfl) (by kernel_rfl) (by kernel_rfl) (by decide) (by kernel_rfl) (by kernel_rfl) (fun _ _ _ h => h) (Or.inl ⟨by rfl, ?_⟩) (HCV.out _ (BW.out.trans (Below.mono (by repeat (first | exact Below.refl _ _ | refine bl_tr ?_ _ | refine bl_al ?_ _ | refine bl_dr ?_ | refine bl_up ?_ _ | refine Below.drew ?_ | refine bl_alloc ?_ _ | refine Below.setCell ?_ (by first | (simp; done) | (simp; omega)) _)) BW.out.size))) ?_
      rotate_left
      · intro w hSw; (try dsimp only at hSw); go_simp; try (with_reducible rfl)
      try simp only [Act.put, List.setIfInBounds_toArray, List.set_cons_zero, List.set_cons_succ]
      refine wpAnyT_one (i := 6) (by kernel_rfl) rfl (fun K hK => ?_)
      go_simp
      refine hK.out _ _ (fun _ => (HCV.out _ (BW.out.trans (Below.mono (by repeat (first | exact Below.refl _ _ | refine bl_tr ?_ _ | refine bl_al ?_ _ | refine bl_dr ?_ | refine bl_up ?_ _ | refine Below.drew ?_ | refine bl_alloc ?_ _ | refine Below.setCell ?_ (by first | (simp; done) | (simp; omega)) _)) BW.out.size)))) ?_
      clear hK K
      try simp only [Act.put, List.setIfInBounds_toArray, List.set_cons_zero, List.set_cons_succ]
      refine wpAnyT_gen (R := fun V => Hid (WGot W0.heap.size V A' c' y pb) ∧ Hid (Below W0.heap.size W0 V) ∧ Hid (V.ownsRow B 69 2 (.slice (some ⟨B, 0, none⟩) 0 0) 0 []) ∧ Hid (B ≤ V.heap.size)) ⟨Lib.hid (WGot.below WB.out (by repeat (first | exact Below.refl _ _ | refine bl_tr ?_ _ | refine bl_al ?_ _ | refine bl_dr ?_ | refine bl_up ?_ _ | refine Below.drew ?_ | refine bl_alloc ?_ _ | refine Below.setCell ?_ (by first | (simp; done) | (simp; omega)) _))), Lib.hid (BW.out.trans (Below.mono (by repeat (first | exact Below.refl _ _ | refine bl_tr ?_ _ | refine bl_al ?_ _ | refine bl_dr ?_ | refine bl_up ?_ _ | refine Below.drew ?_ | refine bl_alloc ?_ _ | refine Below.setCell ?_ (by first | (simp; done) | (simp; omega)) _)) BW.out.size)), Lib.hid (by
        have := World.ownsRow_lit (base := B) (e := 69) (size := 2) wr #[] 0 (Nat.le_of_eq hB.symm) (by unfold maxLen; omega) rfl
        rw [hB] at this
        exact own_below this (by repeat (first | exact Below.refl _ _ | refine bl_tr ?_ _ | refine bl_al ?_ _ | refine bl_dr ?_ | refine bl_up ?_ _ | refine Below.drew ?_ | refine bl_alloc ?_ _ | refine Below.setCell ?_ (by first | (simp; done) | (simp; omega)) _))), Lib.hid (by rw [← hB]; exact Below.size (B := wr.heap.size) (w := wr) (by repeat (first | exact Below.refl _ _ | refine bl_tr ?_ _ | refine bl_al ?_ _ | refine bl_dr ?_ | refine bl_up ?_ _ | refine Below.drew ?_ | refine bl_alloc ?_ _ | refine Below.setCell ?_ (by first | (simp; done) | (simp; omega)) _)))⟩ (fun V1 z => ?_)
      obtain ⟨WB1, BW1, OL, HBV⟩ := z
      have HBq := Lib.hid (Nat.le_of_eq hB.symm)
      clear WB BW hB
      have WB := WB1
      have BW := BW1
      clear WB1 BW1
      refine wpAnyT_one (i := 12) (by kernel_rfl) rfl (fun K hK => ?_)
      refine step_app rfl _ _ 27 (by rfl) B 69 _ 2 16 el_brk (.slice (some ⟨B, 0, none⟩) 0 0) 0 [] (by rfl) OL.out Ai x.brs.length ci (bkcs x.brs) (by rfl) (HBR.out.below BW.out) (fun u hu => bkcs_oneK x.brs u hu) (by unfold maxLen; omega) (by omega) HBV.out ?_
      intro A2 c2 w2 o2 hg2
      simp only [Nat.zero_add, List.nil_append] at o2 ⊢
      have WB2 := Lib.hid (WGot.far WB.out hg2 (fun k e e2 => by injection e with e; have := HA.out k e2; have e : B = k := e; have := HBq.out; omega) (fun k e i hi e2 => by injection e with e; have := HP.out i hi k e2; have e : B = k := e; have := HBq.out; omega))
      have BW2 := Lib.hid (up_of_grown BW.out hg2 (fun k e => by injection e with e; have e : B = k := e; have := HBq.out; have := HB0.out; omega)).below
      have O2 := Lib.hid o2
      have HBV2 := Lib.hid (Nat.le_trans HBV.out hg2.size)
      clear o2 hg2 WB BW OL HBV
      have WB := WB2
      have BW := BW2
      clear WB2 BW2
      refine hK.out _ _ (fun _ => (HCV.out _ (BW.out.trans (Below.mono (by repeat (first | exact Below.refl _ _ | refine bl_tr ?_ _ | refine bl_al ?_ _ | refine bl_dr ?_ | refine bl_up ?_ _ | refine Below.drew ?_ | refine bl_alloc ?_ _ | refine Below.setCell ?_ (by first | (simp; done) | (simp; omega)) _)) BW.out.size)))) ?_
      clear hK K
      try simp only [Act.put, List.setIfInBounds_toArray, List.set_cons_zero, List.set_cons_succ]
      refine wpAnyT_pure (i := 13) (v := ?_) rfl (by kernel_rfl) (by kernel_rfl) (by kernel_rfl) (by decide) (fun _ _ _ h => h) (Or.inl ⟨by rfl, ?_⟩) (fun _ => (HCV.out _ (BW.out.trans (Below.mono (by repeat (first | exact Below.refl _ _ | refine bl_tr ?_ _ | refine bl_al ?_ _ | refine bl_dr ?_ | refine bl_up ?_ _ | refine Below.drew ?_ | refine bl_alloc ?_ _ | refine Below.setCell ?_ (by first | (simp; done) | (simp; omega)) _)) BW.out.size)))) ?_
      rotate_left
      · intro w _; go_simp; try (with_reducible rfl)
      try simp only [Act.put, List.setIfInBounds_toArray, List.set_cons_zero, List.set_cons_succ]
      refine wpAnyT_one (i := 14) (by kernel_rfl) rfl (fun K hK => ?_)
      go_simp
      refine hK.out _ _ (fun _ => (HCV.out _ (BW.out.trans (Below.mono (by repeat (first | exact Below.refl _ _ | refine bl_tr ?_ _ | refine bl_al ?_ _ | refine bl_dr ?_ | refine bl_up ?_ _ | refine Below.drew ?_ | refine bl_alloc ?_ _ | refine Below.setCell ?_ (by first | (simp; done) | (simp; omega)) _)) BW.out.size)))) ?_
      clear hK K
      try simp only [Act.put, List.setIfInBounds_toArray, List.set_cons_zero, List.set_cons_succ]
      refine wpAnyT_one (i := 15) (by kernel_rfl) rfl (fun K hK => ?_)
      have WB3 := Lib.hid (WGot.below WB.out (show Below w2.heap.size w2 (w2.alloc (.cells #[.string x.name, .slice A2 x.brs.length c2] 29)) from (by repeat (first | exact Below.refl _ _ | refine bl_tr ?_ _ | refine bl_al ?_ _ | refine bl_dr ?_ | refine bl_up ?_ _ | refine Below.drew ?_ | refine bl_alloc ?_ _ | refine Below.setCell ?_ (by first | (simp; done) | (simp; omega)) _))))
      have O3 := Lib.hid (own_below O2.out (show Below w2.heap.size w2 (w2.alloc (.cells #[.string x.name, .slice A2 x.brs.length c2] 29)) from (by repeat (first | exact Below.refl _ _ | refine bl_tr ?_ _ | refine bl_al ?_ _ | refine bl_dr ?_ | refine bl_up ?_ _ | refine Below.drew ?_ | refine bl_alloc ?_ _ | refine Below.setCell ?_ (by first | (simp; done) | (simp; omega)) _))))
      have BW3 := Lib.hid (BW.out.trans (Below.mono (show Below w2.heap.size w2 (w2.alloc (.cells #[.string x.name, .slice A2 x.brs.length c2] 29)) from (by repeat (first | exact Below.refl _ _ | refine bl_tr ?_ _ | refine bl_al ?_ _ | refine bl_dr ?_ | refine bl_up ?_ _ | refine Below.drew ?_ | refine bl_alloc ?_ _ | refine Below.setCell ?_ (by first | (simp; done) | (simp; omega)) _))) BW.out.size))
      refine step_appAt rfl _ _ 39 (by rfl) W0.heap.size 29 _ 2 40 el_ware (.slice A' y.length c') y.length (wcs y pb) (by rfl) WB3.out.row _ 1 1 [.string x.name, .slice A2 x.brs.length c2] (by rfl) (rds_new _ #[.string x.name, .slice A2 x.brs.length c2] _ 2 1 rfl) (fun u hu => by simp at hu; rcases hu with rfl | rfl <;> rfl) (by omega) (by unfold maxLen; omega) (by omega) BW3.out.size ?_
      intro g3 c3 w3 o3 hg3 hat3
      rw [own_ablk] at hg3 hat3
      have ST := Lib.hid (WGot.step2 (x := x) (p := (A2, c2)) WB3.out HA.out HP.out HB0.out O3.out o3 hg3 hat3)
      have BW4 := Lib.hid (up_of_grown BW3.out hg3 (fun k e => (WHas.aLt WB3.out e).1)).below
      clear o3 hg3 hat3 WB BW BW3
      have BW := BW4
      clear BW4
      refine hK.out _ _ (fun _ => (HCV.out _ (BW.out.trans (Below.mono (by repeat (first | exact Below.refl _ _ | refine bl_tr ?_ _ | refine bl_al ?_ _ | refine bl_dr ?_ | refine bl_up ?_ _ | refine Below.drew ?_ | refine bl_alloc ?_ _ | refine Below.setCell ?_ (by first | (simp; done) | (simp; omega)) _)) BW.out.size)))) ?_
      clear hK K
      try simp only [Act.put, List.setIfInBounds_toArray, List.set_cons_zero, List.set_cons_succ]
      refine wpAnyT_one (i := 16) (by kernel_rfl) rfl (fun K hK => ?_)
      go_simp
      refine hK.out _ _ (fun h9 => absurd (show true = false from h9) (by decide)) ?_
      clear hK K
      try simp only [Act.put, List.setIfInBounds_toArray, List.set_cons_zero, List.set_cons_succ]
      refine wpAnyT_done (by kernel_rfl) ?_ _
      refine exit_gen (R := fun V => Hid (WGot W0.heap.size V (some ⟨g3, 0, none⟩) c3 (y ++ [x]) (pb ++ [(A2, c2)])) ∧ Hid (Below W0.heap.size W0 V)) ⟨ST, BW⟩ (fun V z => ?_)
      obtain ⟨z1, z2⟩ := z
      clear ST BW HCV HBR WB3 O2 O3
      go_wp2_with fail
      go_roundw
      case rel => exact ⟨y ++ [x], _, c3, _, by rw [List.length_append]; rfl, by rw [List.length_append]; rfl, by rw [List.length_append, List.length_singleton]; omega, Lib.hid (hys.out.snoc hz1 hz2), Lib.hid (hyo.out.snoc hz3), z1, z2⟩
      case measure => (simp [intOf]; try omega)
    · have hylb : y.length ≤ 4 := by omega
      have SR := Lib.hid (S2.out.bel BW.out)
      have BR := Lib.hid (B2.out.bel BW.out)
      have GW := Lib.hid (show W0.grownBy wr (some w.heap.size) from gr_up (grown_refl W0 _) ⟨wr, BW.out⟩)
      clear BW S2 B2
      go_upto_if 37 with (fail)
      go_cut [6] (fun o V => ∃ (y : List Ware) (A' : Option Addr) (c' : Nat) (pb : List Ptr) (k' : Nat), o = .slice A' y.length c' ∧ y.length ≤ 4 ∧ k' ≤ 100 ∧ Hid (WShort 12 y) ∧ Hid (WGot W0.heap.size V A' c' y pb) ∧ Hid (SrcAt V w.heap.size A n c k') ∧ Hid (Byt V w.heap.size A n) ∧ Hid (W0.grownBy V (some w.heap.size)))
      case first =>
        by_cases hl0 : y.length = 0
        · obtain rfl : y = [] := List.length_eq_zero_iff.1 hl0
          go_wp2_with fail
          go_meet
          exact ⟨[], A', c', pb, k2, rfl, by simp, by omega, WShort.nil, WB, SR, BR, GW⟩
        · have hlp : (0 : Int) < (y.length : Int) := by omega
          obtain ⟨a, rfl⟩ : ∃ a, A' = some ⟨a, 0, none⟩ := own_addrK WB.out.row (by omega)
          have T0 := Lib.hid (show TS W0 wr w.heap.size A n c a c' y pb 0 k2 from ⟨SR.out, BR.out, WB.out, GW.out, hq2, by omega⟩)
          clear SR BR WB GW hl0
          go_wp2_with fail
          refine (pick_any w.heap.size A n c k2 4 wr T0.out.src T0.out.byt (by omega) (by omega) (by omega)).mono ?_
          rintro e V1 ⟨x, k3, rfl, y0, y1, hk3, hs3, hg3⟩
          have T1 := Lib.hid (T0.out.call hg3 hs3)
          clear hs3 hg3 y1 T0
          obtain ⟨r0, r1, r2', r3, r4⟩ := T1.out.raw
          have r2 : V1.cell? ⟨a, 1, none⟩ = some (.slice (pat pb 0).1 (wat y 0).brs.length (pat pb 0).2) := r1
          have r3 : V1.frozen? ⟨a, 1, none⟩ = false := r3
          have hb3 := Lib.hid (hys.out 0 (by omega)).2
          by_cases t0 : x = 0
          · subst t0
            have hsz := Lib.hid (show W0.heap.size ≤ V1.heap.size from T1.out.gr.size)
            have HI := Lib.hid T1.out.inn
            go_wp2_with (at_builtin; go_must (refine wpl_appAt rfl _ _ 27 rfl W0.heap.size 69 _ 2 16 el_brk (.slice (pat pb 0).1 (wat y 0).brs.length (pat pb 0).2) (wat y 0).brs.length (bkcs (wat y 0).brs) rfl (own_below HI.out (by repeat (first | exact Below.refl _ _ | refine bl_tr ?_ _ | refine bl_al ?_ _ | refine bl_dr ?_ | refine bl_up ?_ _ | refine Below.drew ?_ | refine bl_alloc ?_ _ | refine Below.setCell ?_ (by first | (simp; done) | (simp; omega)) _))) _ 1 1 [i64 0, i64 0] rfl (rds_new _ #[i64 0, i64 0] _ 2 1 rfl) (fun u hu => by simp at hu; subst hu; rfl) (by omega) (by have := hb3.out; unfold maxLen; omega) (by have := hb3.out; omega) (Nat.le_trans hsz.out (Below.size (B := V1.heap.size) (w := V1) (by repeat (first | exact Below.refl _ _ | refine bl_tr ?_ _ | refine bl_al ?_ _ | refine bl_dr ?_ | refine bl_up ?_ _ | refine Below.drew ?_ | refine bl_alloc ?_ _ | refine Below.setCell ?_ (by first | (simp; done) | (simp; omega)) _)))) ?_); intro g3 c3 w3 o3 hg3 hat3; obtain ⟨d0, d1, d2⟩ := (T1.out.bel (by repeat (first | exact Below.refl _ _ | refine bl_tr ?_ _ | refine bl_al ?_ _ | refine bl_dr ?_ | refine bl_up ?_ _ | refine Below.drew ?_ | refine bl_alloc ?_ _ | refine Below.setCell ?_ (by first | (simp; done) | (simp; omega)) _))).keepA hg3; have T9 := Lib.hid (TS.app (x := ⟨0, 0⟩) (T1.out.bel (by repeat (first | exact Below.refl _ _ | refine bl_tr ?_ _ | refine bl_al ?_ _ | refine bl_dr ?_ | refine bl_up ?_ _ | refine Below.drew ?_ | refine bl_alloc ?_ _ | refine Below.setCell ?_ (by first | (simp; done) | (simp; omega)) _))) hg3 o3 hat3); clear o3 hg3 hat3)
            go_meet
            exact ⟨y.set 0 ⟨(wat y 0).name, (wat y 0).brs ++ [⟨0, 0⟩]⟩, _, c', _, k3, by rw [List.length_set], by rw [List.length_set]; omega, by omega, Lib.hid ((hys.out.up (by omega)).set (hys.out 0 (by omega)).1 (by rw [List.length_append, List.length_singleton]; have := hb3.out; omega)), Lib.hid T9.out.got, Lib.hid T9.out.src, Lib.hid T9.out.byt, Lib.hid T9.out.gr⟩
          by_cases t1 : x = 1
          · subst t1
            obtain ⟨q, hq⟩ : ∃ q, (pat pb 0).1 = some ⟨q, 0, none⟩ := own_addrK T1.out.inn (by have := hyo.out 0 (by omega); omega)
            have hb1 := hyo.out 0 (by omega)
            have hb2 : (0 : Int) < ((wat y 0).brs.length : Int) := by omega
            obtain ⟨s0, ⟨u0, s1⟩, ⟨u1, s2⟩, s3, s4⟩ := T1.out.rawq hq (by omega)
            clear r1
            have T9 := Lib.hid (T1.out.put2 hq (by omega) ⟨2, 2⟩)
            rw [hq] at r2
            clear hq
            go_wp2_with fail
            go_meet
            exact ⟨y.set 0 ⟨(wat y 0).name, (wat y 0).brs.set 0 ⟨2, 2⟩⟩, _, c', _, k3, by rw [List.length_set], by rw [List.length_set]; omega, by omega, Lib.hid ((hys.out.up (by omega)).set (hys.out 0 (by omega)).1 (by rw [List.length_set]; have := hb3.out; omega)), Lib.hid T9.out.got, Lib.hid T9.out.src, Lib.hid T9.out.byt, Lib.hid T9.out.gr⟩
          · have u0 : (x == 0) = false := by rw [beq_eq_false_iff_ne]; exact t0
            have u1 : (x == 1) = false := by rw [beq_eq_false_iff_ne]; exact t1
            go_wp2_with fail
            go_meet
            exact ⟨y, _, c', pb, k3, rfl, hylb, by omega, Lib.hid (hys.out.up (by omega)), Lib.hid T1.out.got, Lib.hid T1.out.src, Lib.hid T1.out.byt, Lib.hid T1.out.gr⟩
      case rest =>
        clear hylb WB SR BR GW hys hyo
        obtain ⟨y9, A9, c9, pb9, k3, rfl, hyl4, hk3, YS, WB, SR, BR, GW⟩ := hcut
        go_wp2_with fail
        refine (one_any w.heap.size A n c k3 5 wc SR.out BR.out (by omega) (by omega) (by omega)).mono ?_
        rintro e V1 ⟨t, k4, rfl, hk4, hs4, hg4⟩
        have WB1 := Lib.hid (WGot.grown WB.out hg4 (fun x e => by injection e with e; omega))
        have GW1 := Lib.hid (grown_trans GW.out hg4)
        clear hs4 hg4 WB SR BR GW
        have hup : ∀ V, W0.grownBy V (some w.heap.size) → UpOf w V := fun V hg => up_of_grown (up_of_grown ((Below.refl _ _).alloc (Nat.le_refl _) _) G2.out (fun k hk => by injection hk with hk; omega)).below hg (fun k hk => by injection hk with hk; omega)
        have HUP := Lib.hid hup
        clear hup
        cases t with
        | true =>
          have hsz := Lib.hid (show W0.heap.size ≤ V1.heap.size from GW1.out.size)
          have HI := Lib.hid WB1.out.row
          go_wp2_with (at_builtin; go_must (refine wpl_appAt rfl _ _ 39 rfl W0.heap.size 29 _ 2 40 el_ware (.slice A9 y9.length c9) y9.length (wcs y9 pb9) rfl (own_below HI.out (by repeat (first | exact Below.refl _ _ | refine bl_tr ?_ _ | refine bl_al ?_ _ | refine bl_dr ?_ | refine bl_up ?_ _ | refine Below.drew ?_ | refine bl_alloc ?_ _ | refine Below.setCell ?_ (by first | (simp; done) | (simp; omega)) _))) _ 1 1 [.string ⟨#[]⟩, .slice none 0 0] rfl (rds_new _ #[.string ⟨#[]⟩, .slice none 0 0] _ 2 1 rfl) (fun u hu => by simp at hu; rcases hu with rfl | rfl <;> rfl) (by omega) (by unfold maxLen; omega) (by omega) (Nat.le_trans hsz.out (Below.size (B := V1.heap.size) (w := V1) (by repeat (first | exact Below.refl _ _ | refine bl_tr ?_ _ | refine bl_al ?_ _ | refine bl_dr ?_ | refine bl_up ?_ _ | refine Below.drew ?_ | refine bl_alloc ?_ _ | refine Below.setCell ?_ (by first | (simp; done) | (simp; omega)) _)))) ?_); intro g3 c3 w3 o3 hg3 hat3; rw [own_ablk] at hg3 hat3; have HG3 := Lib.hid (And.intro o3 (And.intro hg3 hat3)); clear o3 hg3 hat3)
          obtain ⟨o3, hg3, hat3⟩ := HG3.out
          have hb3 : Below V1.heap.size V1 (V1.alloc (.cells #[.string ⟨#[]⟩, .slice none 0 0] 29)) := (Below.refl _ _).alloc (Nat.le_refl _) _
          have ST := WGot.step2 (x := ⟨⟨#[]⟩, []⟩) (p := (none, 0)) (WGot.below WB1.out hb3) (fun k e => (WHas.aLt WB1.out e).2) (fun i hi k e => (WHas.pLt WB1.out hi e).2) hsz.out ⟨rfl, .inl ⟨rfl, rfl⟩⟩ o3 hg3 hat3
          have G9 := gr_far (gr_alloc GW1.out _) hg3 (fun x e => (WHas.aLt WB1.out e).1)
          go_ret2
          exact ⟨l, A1, c1, y9 ++ [⟨⟨#[]⟩, []⟩], _, c3, by rw [List.length_append]; rfl, WGot.see (WGot.grown W2.out G9 (fun x e => by injection e with e; simp; omega)), WGot.see ST, SH.out.up (by omega), YS.out.snoc (by show 0 ≤ 12; omega) (by show 0 ≤ 12; omega), by omega, by rw [List.length_append, List.length_singleton]; omega, HUP.out _ G9⟩
        | false =>
          go_wp2_with fail
          go_ret2
          exact ⟨l, A1, c1, y9, A9, c9, rfl, WGot.see (WGot.grown W2.out GW1.out (fun x e => by injection e with e; simp; omega)), WGot.see WB1.out, SH.out.up (by omega), YS.out, by omega, by omega, HUP.out _ GW1.out⟩
end Go.Proofs.YtiibpldfnnhhlaaDoor

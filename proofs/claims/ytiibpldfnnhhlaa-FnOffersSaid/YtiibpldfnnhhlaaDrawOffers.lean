/-
  The reference's drawing of offers: whatever it draws, there are few and they are short. The bounds stand at it.
-/
import Derived.Test.YtiibpldfnnhhlaaDrawOffP
import Derived.Test.YtiibpldfnnhhlaaDrawBent
namespace Go.Proofs.Ytiibpldfnnhhlaa
open Go.RowKit
theorem OT.rawq {w V : World} {b : Nat} {A : Option Addr} {n c a ct k q L : Nat} {l : List Offer} {ps : List Ptr} (h : OT w V b A n c a ct l ps k) (hq : (patO ps).1 = some ⟨q, 0, none⟩) (hL : (oat l 0).many.length = L) (h0 : 0 < L) :
    V.cell? ⟨a, 0, none⟩ = some (.slice (some ⟨q, 0, none⟩) L (patO ps).2) ∧ q < V.heap.size ∧ V.cell? ⟨q, 0, none⟩ = some (i64 (iat (oat l 0).many 0)) ∧ V.frozen? ⟨q, 0, none⟩ = false := by
  have hi := h.inn
  rw [hq, hL] at hi
  have hr := h.raw.2.1
  rw [hq, hL] at hr
  obtain ⟨b', off, e, _, hc⟩ := (Rds.of_own hi).at (by omega)
  injection e with e
  injection e with e1 e2 _
  subst e1 e2
  have := hc 0 _ (ics_get (show 0 < (oat l 0).many.length by omega))
  exact ⟨hr, (hi.lt q rfl).2, by rwa [Nat.zero_add, iat_eq] at this, hi.frozenAt _⟩
def offPost (b : Nat) (A : Option Addr) (n c k : Nat) (w : World) (e : Ending) (w' : World) : Prop :=
  ∃ (l : List Offer) (A' : Option Addr) (c' : Nat) (ps : List Ptr) (k' : Nat), e = .returned (.slice A' l.length c') ∧ OGot w.heap.size w' A' c' l ps ∧ OShort 32 l ∧ l.length ≤ 9 ∧ k' ≤ k + 800 ∧ SrcAt w' b A n c k' ∧ w.grownBy w' (some b)
set_option maxRecDepth 10000 in
set_option maxHeartbeats 4000000 in
theorem l26DrawOffers_any (b : Nat) (A : Option Addr) (n c k : Nat) (Aw : Option Addr) (L cw : Nat) (w : World) (h : SrcAt w b A n c k) (hb : Byt w b A n) (hk : k ≤ 50000) (hn : n ≤ 1000000) (hL : L ≤ 31) :
    Calls Try.prog 95 #[.pointer (some ⟨b, 0, none⟩), .slice Aw L cw] w (offPost b A n c k w) := by
  have hlt := h.lt
  have HS := Lib.hid h
  have HB := Lib.hid hb
  clear h hb
  go_enter Try.func95, Try.ntmps95
  go_wp2_with fail
  have hOwn := Lib.hid (World.ownsRow_lit (base := w.heap.size) (e := 67) (size := 2) w #[] 0 (Nat.le_refl _) (by unfold maxLen; omega) rfl)
  refine (pick_any b A n c k 4 _ (HS.out.alloc _) (HB.out.alloc _) (by omega) hn (by omega)).mono ?_
  rintro e w1 ⟨x, k1, rfl, y0, y1, hk1, hs1, hg1⟩
  have S1 := Lib.hid hs1
  have B1 := Lib.hid ((HB.out.alloc _).grown hg1)
  have O1 := Lib.hid ((OGot.lit hOwn.out).grown hg1 (fun x e => by injection e with e; omega))
  have G1 := Lib.hid (grown_trans (gr_alloc (grown_refl w _) _) hg1)
  have hx1 : x ≤ 9 := by omega
  clear hs1 hg1 y1 hOwn HS HB
  go_wp2_with fail
  refine (one_any b A n c k1 16 w1 S1.out B1.out (by omega) hn (by omega)).mono ?_
  rintro e w2 ⟨t, k2, rfl, hk2, hs2, hg2⟩
  have S2 := Lib.hid hs2
  have B2 := Lib.hid (B1.out.grown hg2)
  have O2 := Lib.hid (O1.out.grown hg2 (fun x e => by injection e with e; omega))
  have G2 := Lib.hid (grown_trans G1.out hg2)
  clear hs2 hg2 S1 B1 O1 G1
  go_upto_if 14 with (fail)
  go_cut [6] (fun z V => ∃ (j k' : Nat), z = i64 j ∧ j ≤ 9 ∧ k' ≤ k + 6 ∧ Hid (SrcAt V b A n c k') ∧ Hid (Byt V b A n) ∧ Hid (OGot w.heap.size V (some ⟨w.heap.size, 0, none⟩) 0 [] []) ∧ Hid (w.grownBy V (some b)))
  case first =>
    cases t with
    | false =>
      go_wp2_with fail
      go_meet
      exact ⟨x.toNat, k2, by go_num, by omega, by omega, S2, B2, O2, G2⟩
    | true =>
      have hq2 : b < w2.heap.size := Nat.lt_of_lt_of_le hlt G2.out.size
      go_wp2_with fail
      refine (among_any b A n c k2 (some ⟨w2.heap.size, 0, none⟩) 4 [4, 5, 8, 9] _ (S2.out.alloc _) (B2.out.alloc _) (by omega) hn (rds_newA 1 4 rfl rfl) (by decide) (by decide) (adr_ne hq2)).mono ?_
      rintro e w3 ⟨v3, k3, rfl, ⟨d3, hd3, rfl⟩, hk3, hs3, hg3⟩
      have hd4 : 0 ≤ d3 ∧ d3 ≤ 9 := by simp at hd3; omega
      have S3 := Lib.hid hs3
      have B3 := Lib.hid ((B2.out.alloc _).grown hg3)
      have O3 := Lib.hid ((O2.out.below ((Below.refl _ _).alloc (Nat.le_refl _) _)).grown hg3 (fun x e => by injection e with e; omega))
      have G3 := Lib.hid (grown_trans (gr_alloc G2.out _) hg3)
      clear hs3 hg3 hd3 S2 B2 O2 G2
      go_wp2_with fail
      go_meet
      exact ⟨d3.toNat, k3, by go_num, by omega, by omega, S3, B3, O3, G3⟩
  case rest =>
    obtain ⟨j0, k3, rfl, hj0, hk3, S3, B3, O3, G3⟩ := hcut
    clear S2 B2 O2 G2 y0 hx1 hk1 hk2
    have hmk := fun u => make_ints u L (by omega)
    go_wp2_with fail
    go_loopw [5, 7] (fun o kk wr => ∃ (l : List Offer) (A' : Option Addr) (c' : Nat) (ps : List Ptr) (j k' : Nat), kk = i64 j ∧ o = .slice A' l.length c' ∧ Hid (OLen L l) ∧ (0 < l.length → 0 < L) ∧ l.length + j ≤ 9 ∧ k' + 70 * j ≤ k + 640 ∧ Hid (SrcAt wr b A n c k') ∧ Hid (Byt wr b A n) ∧ Hid (OGot w.heap.size wr A' c' l ps) ∧ Hid (w.grownBy wr (some b))) (fun _ kk _ => (intOf kk).toNat)
    case atStart => exact ⟨[], _, _, [], j0, k3, rfl, rfl, OLen.nil, fun h => by simp at h, by simp; omega, by omega, S3, B3, O3, G3⟩
    case round =>
      obtain ⟨l, A', c', ps, j, k', rfl, rfl, hva, hlL, hlj, hkj, hs, hbt, hgot, hgr⟩ := hrel
      clear S3 B3 O3 G3
      by_cases hj : 0 < j ∧ 0 < L
      · obtain ⟨hj1, hL1⟩ := hj
        have hj2 : (0 : Int) < (j : Int) := by omega
        have hj3 : (0 : Int) < (L : Int) := by omega
        obtain ⟨B, hB⟩ : ∃ B, wr.heap.size = B := ⟨_, rfl⟩
        have hloB : w.heap.size ≤ B := hB ▸ hgr.out.size
        have HM := Lib.hid (show MK w wr b A n c k' B L none none A' c' l ps from ⟨hgot.out, hs.out, hbt.out, hgr.out, hlt, hloB, Nat.le_of_eq hB.symm, fun x e => hB ▸ (hgot.out.aLt e).2, fun i hi x e => hB ▸ (hgot.out.pLt hi e).2, fun m e => (by cases e), fun q e => (by cases e), fun m q e => (by cases e), by omega⟩)
        have HB := Lib.hid hB
        clear hB hs hbt hgot hgr
        go_upto_region 8 with (fail)
        go_cut [8] (fun z V => ∃ (q m : Nat) (x : Int) (k4 : Nat), z = .pointer (some ⟨q, 0, none⟩) ∧ 0 ≤ x ∧ x < 60 ∧ k4 ≤ k' + 2 ∧ Hid (XB w V b A n c k4 B q m L (10 * x) (zer L) A' c' l ps))
        case first =>
          refine wp_region_T (fun _ => True) 8 (by kernel_rfl) ?_
          refine wpAnyT_gen (R := fun V => Hid (MK w V b A n c k' B L none none A' c' l ps)) (Lib.hid (HM.out.bel (by repeat (first | exact Below.refl _ _ | refine bl_tr ?_ _ | refine bl_al ?_ _ | refine bl_dr ?_ | refine bl_up ?_ _ | refine Below.drew ?_ | refine bl_alloc ?_ _ | refine Below.setCell ?_ (by first | (simp; done) | (simp; omega)) _)))) (fun V0 M => ?_)
          clear HM HB hlt
          refine wpAnyT_pure (i := 0) (v := ?_) rfl (by kernel_rfl) (by kernel_rfl) (by kernel_rfl) (by decide) (fun _ _ _ h => h) (Or.inl ⟨by rfl, ?_⟩) (fun _ => trivial) ?_
          rotate_left
          · intro w _; go_simp; try (with_reducible rfl)
          try simp only [Act.put, List.setIfInBounds_toArray, List.set_cons_zero, List.set_cons_succ]
          refine wpAnyT_pure (i := 1) (v := ?_) rfl (by kernel_rfl) (by kernel_rfl) (by kernel_rfl) (by decide) (fun _ _ _ h => h) (Or.inl ⟨by rfl, ?_⟩) (fun _ => trivial) ?_
          rotate_left
          · intro w _; go_simp; try (with_reducible rfl)
          try simp only [Act.put, List.setIfInBounds_toArray, List.set_cons_zero, List.set_cons_succ]
          refine wpAnyT_pure (i := 3) (v := ?_) rfl (by kernel_rfl) (by kernel_rfl) (by kernel_rfl) (by decide) (fun _ _ _ h => h) (Or.inl ⟨by rfl, ?_⟩) (fun _ => trivial) ?_
          rotate_left
          · intro w _; go_simp; try (with_reducible rfl)
          try simp only [Act.put, List.setIfInBounds_toArray, List.set_cons_zero, List.set_cons_succ]
          refine wpAnyT_ready (rs := [2, 4, 7]) (by kernel_rfl) (by simp) (AllReadyT.cons rfl (fun K hK => ?_) (AllReadyT.cons rfl (fun K hK => ?_) (AllReadyT.cons rfl (fun K hK => ?_) AllReadyT.nil)))
          · go_simp
            refine hK.out _ _ (fun _ => trivial) ?_
            clear hK K
            try simp only [Act.put, List.setIfInBounds_toArray, List.set_cons_zero, List.set_cons_succ]
            refine wpAnyT_gen (R := fun V9 => Hid (MK w V9 b A n c k' B L (some (V0).heap.size) none A' c' l ps)) (Lib.hid M.out.make) (fun V1 M => ?_)
            refine wpAnyT_ready (rs := [4, 7]) (by kernel_rfl) (by simp) (AllReadyT.cons rfl (fun K hK => ?_) (AllReadyT.cons rfl (fun K hK => ?_) AllReadyT.nil))
            · go_simp
              go_at_call 87
              refine (pick_any b A n c k' 60 _ (M.out.bel (by repeat (first | exact Below.refl _ _ | refine bl_tr ?_ _ | refine bl_al ?_ _ | refine bl_dr ?_ | refine bl_up ?_ _ | refine Below.drew ?_ | refine bl_alloc ?_ _ | refine Below.setCell ?_ (by first | (simp; done) | (simp; omega)) _))).src (M.out.bel (by repeat (first | exact Below.refl _ _ | refine bl_tr ?_ _ | refine bl_al ?_ _ | refine bl_dr ?_ | refine bl_up ?_ _ | refine Below.drew ?_ | refine bl_alloc ?_ _ | refine Below.setCell ?_ (by first | (simp; done) | (simp; omega)) _))).byt (by omega) hn (by omega)).mono ?_
              rintro e V2 ⟨x, k4, rfl, y0, y1, hk4, hs4, hg4⟩
              have M := Lib.hid ((M.out.bel (by repeat (first | exact Below.refl _ _ | refine bl_tr ?_ _ | refine bl_al ?_ _ | refine bl_dr ?_ | refine bl_up ?_ _ | refine Below.drew ?_ | refine bl_alloc ?_ _ | refine Below.setCell ?_ (by first | (simp; done) | (simp; omega)) _))).call hg4 hs4)
              have hw1 : IntKind.i64.wrap (10 * x) = 10 * x := by rw [IntKind.wrap_i64]; omega
              clear hs4 hg4
              try go_wp2_with fail
              refine hK.out _ _ (fun _ => trivial) ?_
              clear hK K
              try simp only [Act.put, List.setIfInBounds_toArray, List.set_cons_zero, List.set_cons_succ]
              refine wpAnyT_pure (i := 5) (v := ?_) rfl (by kernel_rfl) (by kernel_rfl) (by kernel_rfl) (by decide) (fun _ _ _ h => h) (Or.inl ⟨by rfl, ?_⟩) (fun _ => trivial) ?_
              rotate_left
              · intro w _; go_simp; try (with_reducible rfl)
              try simp only [Act.put, List.setIfInBounds_toArray, List.set_cons_zero, List.set_cons_succ]
              refine wpAnyT_pure (i := 6) (v := ?_) rfl (by kernel_rfl) (by kernel_rfl) (by kernel_rfl) (by decide) (fun _ _ _ h => h) (Or.inl ⟨by rfl, ?_⟩) (fun _ => trivial) ?_
              rotate_left
              · intro w _; go_simp; try (with_reducible rfl)
              try simp only [Act.put, List.setIfInBounds_toArray, List.set_cons_zero, List.set_cons_succ]
              refine wpAnyT_one (i := 7) (by kernel_rfl) rfl (fun K hK => ?_)
              go_simp
              refine hK.out _ _ (fun _ => trivial) ?_
              clear hK K
              try simp only [Act.put, List.setIfInBounds_toArray, List.set_cons_zero, List.set_cons_succ]
              refine wpAnyT_gen (R := fun V9 => Hid (MK w V9 b A n c k4 B L (some V0.heap.size) (some (V2).heap.size) A' c' l ps)) (Lib.hid M.out.box) (fun V3 M => ?_)
              obtain ⟨⟨r0, r1, r2⟩, r3, r4⟩ := M.out.raw
              refine wpAnyT_one (i := 8) (by kernel_rfl) rfl (fun K hK => ?_)
              go_simp
              refine hK.out _ _ (fun _ => trivial) ?_
              clear hK K
              try simp only [Act.put, List.setIfInBounds_toArray, List.set_cons_zero, List.set_cons_succ]
              refine wpAnyT_done (by kernel_rfl) ?_ _
              refine exit_gen (R := fun V9 => Hid (XB w V9 b A n c k4 B _ _ L (10 * x) (zer L) A' c' l ps)) (Lib.hid (M.out.fin (10 * x))) (fun V9 z => ?_)
              go_wp2_with fail
              go_meet
              exact ⟨_, _, x, k4, rfl, y0, by omega, by omega, z⟩
            · go_simp
              refine hK.out _ _ (fun _ => trivial) ?_
              clear hK K
              try simp only [Act.put, List.setIfInBounds_toArray, List.set_cons_zero, List.set_cons_succ]
              refine wpAnyT_gen (R := fun V9 => Hid (MK w V9 b A n c k' B L (some V0.heap.size) (some (V1).heap.size) A' c' l ps)) (Lib.hid M.out.box) (fun V2 M => ?_)
              refine wpAnyT_one (i := 4) (by kernel_rfl) rfl (fun K hK => ?_)
              go_simp
              go_at_call 87
              refine (pick_any b A n c k' 60 _ (M.out.bel (by repeat (first | exact Below.refl _ _ | refine bl_tr ?_ _ | refine bl_al ?_ _ | refine bl_dr ?_ | refine bl_up ?_ _ | refine Below.drew ?_ | refine bl_alloc ?_ _ | refine Below.setCell ?_ (by first | (simp; done) | (simp; omega)) _))).src (M.out.bel (by repeat (first | exact Below.refl _ _ | refine bl_tr ?_ _ | refine bl_al ?_ _ | refine bl_dr ?_ | refine bl_up ?_ _ | refine Below.drew ?_ | refine bl_alloc ?_ _ | refine Below.setCell ?_ (by first | (simp; done) | (simp; omega)) _))).byt (by omega) hn (by omega)).mono ?_
              rintro e V3 ⟨x, k4, rfl, y0, y1, hk4, hs4, hg4⟩
              have M := Lib.hid ((M.out.bel (by repeat (first | exact Below.refl _ _ | refine bl_tr ?_ _ | refine bl_al ?_ _ | refine bl_dr ?_ | refine bl_up ?_ _ | refine Below.drew ?_ | refine bl_alloc ?_ _ | refine Below.setCell ?_ (by first | (simp; done) | (simp; omega)) _))).call hg4 hs4)
              have hw1 : IntKind.i64.wrap (10 * x) = 10 * x := by rw [IntKind.wrap_i64]; omega
              clear hs4 hg4
              try go_wp2_with fail
              refine hK.out _ _ (fun _ => trivial) ?_
              clear hK K
              try simp only [Act.put, List.setIfInBounds_toArray, List.set_cons_zero, List.set_cons_succ]
              refine wpAnyT_pure (i := 5) (v := ?_) rfl (by kernel_rfl) (by kernel_rfl) (by kernel_rfl) (by decide) (fun _ _ _ h => h) (Or.inl ⟨by rfl, ?_⟩) (fun _ => trivial) ?_
              rotate_left
              · intro w _; go_simp; try (with_reducible rfl)
              try simp only [Act.put, List.setIfInBounds_toArray, List.set_cons_zero, List.set_cons_succ]
              refine wpAnyT_pure (i := 6) (v := ?_) rfl (by kernel_rfl) (by kernel_rfl) (by kernel_rfl) (by decide) (fun _ _ _ h => h) (Or.inl ⟨by rfl, ?_⟩) (fun _ => trivial) ?_
              rotate_left
              · intro w _; go_simp; try (with_reducible rfl)
              try simp only [Act.put, List.setIfInBounds_toArray, List.set_cons_zero, List.set_cons_succ]
              obtain ⟨⟨r0, r1, r2⟩, r3, r4⟩ := M.out.raw
              refine wpAnyT_one (i := 8) (by kernel_rfl) rfl (fun K hK => ?_)
              go_simp
              refine hK.out _ _ (fun _ => trivial) ?_
              clear hK K
              try simp only [Act.put, List.setIfInBounds_toArray, List.set_cons_zero, List.set_cons_succ]
              refine wpAnyT_done (by kernel_rfl) ?_ _
              refine exit_gen (R := fun V9 => Hid (XB w V9 b A n c k4 B _ _ L (10 * x) (zer L) A' c' l ps)) (Lib.hid (M.out.fin (10 * x))) (fun V9 z => ?_)
              go_wp2_with fail
              go_meet
              exact ⟨_, _, x, k4, rfl, y0, by omega, by omega, z⟩
          · go_simp
            go_at_call 87
            refine (pick_any b A n c k' 60 _ (M.out.bel (by repeat (first | exact Below.refl _ _ | refine bl_tr ?_ _ | refine bl_al ?_ _ | refine bl_dr ?_ | refine bl_up ?_ _ | refine Below.drew ?_ | refine bl_alloc ?_ _ | refine Below.setCell ?_ (by first | (simp; done) | (simp; omega)) _))).src (M.out.bel (by repeat (first | exact Below.refl _ _ | refine bl_tr ?_ _ | refine bl_al ?_ _ | refine bl_dr ?_ | refine bl_up ?_ _ | refine Below.drew ?_ | refine bl_alloc ?_ _ | refine Below.setCell ?_ (by first | (simp; done) | (simp; omega)) _))).byt (by omega) hn (by omega)).mono ?_
            rintro e V1 ⟨x, k4, rfl, y0, y1, hk4, hs4, hg4⟩
            have M := Lib.hid ((M.out.bel (by repeat (first | exact Below.refl _ _ | refine bl_tr ?_ _ | refine bl_al ?_ _ | refine bl_dr ?_ | refine bl_up ?_ _ | refine Below.drew ?_ | refine bl_alloc ?_ _ | refine Below.setCell ?_ (by first | (simp; done) | (simp; omega)) _))).call hg4 hs4)
            have hw1 : IntKind.i64.wrap (10 * x) = 10 * x := by rw [IntKind.wrap_i64]; omega
            clear hs4 hg4
            try go_wp2_with fail
            refine hK.out _ _ (fun _ => trivial) ?_
            clear hK K
            try simp only [Act.put, List.setIfInBounds_toArray, List.set_cons_zero, List.set_cons_succ]
            refine wpAnyT_pure (i := 5) (v := ?_) rfl (by kernel_rfl) (by kernel_rfl) (by kernel_rfl) (by decide) (fun _ _ _ h => h) (Or.inl ⟨by rfl, ?_⟩) (fun _ => trivial) ?_
            rotate_left
            · intro w _; go_simp; try (with_reducible rfl)
            try simp only [Act.put, List.setIfInBounds_toArray, List.set_cons_zero, List.set_cons_succ]
            refine wpAnyT_ready (rs := [2, 7]) (by kernel_rfl) (by simp) (AllReadyT.cons rfl (fun K hK => ?_) (AllReadyT.cons rfl (fun K hK => ?_) AllReadyT.nil))
            · go_simp
              refine hK.out _ _ (fun _ => trivial) ?_
              clear hK K
              try simp only [Act.put, List.setIfInBounds_toArray, List.set_cons_zero, List.set_cons_succ]
              refine wpAnyT_gen (R := fun V9 => Hid (MK w V9 b A n c k4 B L (some (V1).heap.size) none A' c' l ps)) (Lib.hid M.out.make) (fun V2 M => ?_)
              refine wpAnyT_pure (i := 6) (v := ?_) rfl (by kernel_rfl) (by kernel_rfl) (by kernel_rfl) (by decide) (fun _ _ _ h => h) (Or.inl ⟨by rfl, ?_⟩) (fun _ => trivial) ?_
              rotate_left
              · intro w _; go_simp; try (with_reducible rfl)
              try simp only [Act.put, List.setIfInBounds_toArray, List.set_cons_zero, List.set_cons_succ]
              refine wpAnyT_one (i := 7) (by kernel_rfl) rfl (fun K hK => ?_)
              go_simp
              refine hK.out _ _ (fun _ => trivial) ?_
              clear hK K
              try simp only [Act.put, List.setIfInBounds_toArray, List.set_cons_zero, List.set_cons_succ]
              refine wpAnyT_gen (R := fun V9 => Hid (MK w V9 b A n c k4 B L (some V1.heap.size) (some (V2).heap.size) A' c' l ps)) (Lib.hid M.out.box) (fun V3 M => ?_)
              obtain ⟨⟨r0, r1, r2⟩, r3, r4⟩ := M.out.raw
              refine wpAnyT_one (i := 8) (by kernel_rfl) rfl (fun K hK => ?_)
              go_simp
              refine hK.out _ _ (fun _ => trivial) ?_
              clear hK K
              try simp only [Act.put, List.setIfInBounds_toArray, List.set_cons_zero, List.set_cons_succ]
              refine wpAnyT_done (by kernel_rfl) ?_ _
              refine exit_gen (R := fun V9 => Hid (XB w V9 b A n c k4 B _ _ L (10 * x) (zer L) A' c' l ps)) (Lib.hid (M.out.fin (10 * x))) (fun V9 z => ?_)
              go_wp2_with fail
              go_meet
              exact ⟨_, _, x, k4, rfl, y0, by omega, by omega, z⟩
            · go_simp
              refine hK.out _ _ (fun _ => trivial) ?_
              clear hK K
              try simp only [Act.put, List.setIfInBounds_toArray, List.set_cons_zero, List.set_cons_succ]
              refine wpAnyT_gen (R := fun V9 => Hid (MK w V9 b A n c k4 B L none (some (V1).heap.size) A' c' l ps)) (Lib.hid M.out.box) (fun V2 M => ?_)
              refine wpAnyT_one (i := 2) (by kernel_rfl) rfl (fun K hK => ?_)
              go_simp
              refine hK.out _ _ (fun _ => trivial) ?_
              clear hK K
              try simp only [Act.put, List.setIfInBounds_toArray, List.set_cons_zero, List.set_cons_succ]
              refine wpAnyT_gen (R := fun V9 => Hid (MK w V9 b A n c k4 B L (some (V2).heap.size) (some V1.heap.size) A' c' l ps)) (Lib.hid M.out.make) (fun V3 M => ?_)
              refine wpAnyT_pure (i := 6) (v := ?_) rfl (by kernel_rfl) (by kernel_rfl) (by kernel_rfl) (by decide) (fun _ _ _ h => h) (Or.inl ⟨by rfl, ?_⟩) (fun _ => trivial) ?_
              rotate_left
              · intro w _; go_simp; try (with_reducible rfl)
              try simp only [Act.put, List.setIfInBounds_toArray, List.set_cons_zero, List.set_cons_succ]
              obtain ⟨⟨r0, r1, r2⟩, r3, r4⟩ := M.out.raw
              refine wpAnyT_one (i := 8) (by kernel_rfl) rfl (fun K hK => ?_)
              go_simp
              refine hK.out _ _ (fun _ => trivial) ?_
              clear hK K
              try simp only [Act.put, List.setIfInBounds_toArray, List.set_cons_zero, List.set_cons_succ]
              refine wpAnyT_done (by kernel_rfl) ?_ _
              refine exit_gen (R := fun V9 => Hid (XB w V9 b A n c k4 B _ _ L (10 * x) (zer L) A' c' l ps)) (Lib.hid (M.out.fin (10 * x))) (fun V9 z => ?_)
              go_wp2_with fail
              go_meet
              exact ⟨_, _, x, k4, rfl, y0, by omega, by omega, z⟩
          · go_simp
            refine hK.out _ _ (fun _ => trivial) ?_
            clear hK K
            try simp only [Act.put, List.setIfInBounds_toArray, List.set_cons_zero, List.set_cons_succ]
            refine wpAnyT_gen (R := fun V9 => Hid (MK w V9 b A n c k' B L none (some (V0).heap.size) A' c' l ps)) (Lib.hid M.out.box) (fun V1 M => ?_)
            refine wpAnyT_ready (rs := [2, 4]) (by kernel_rfl) (by simp) (AllReadyT.cons rfl (fun K hK => ?_) (AllReadyT.cons rfl (fun K hK => ?_) AllReadyT.nil))
            · go_simp
              refine hK.out _ _ (fun _ => trivial) ?_
              clear hK K
              try simp only [Act.put, List.setIfInBounds_toArray, List.set_cons_zero, List.set_cons_succ]
              refine wpAnyT_gen (R := fun V9 => Hid (MK w V9 b A n c k' B L (some (V1).heap.size) (some V0.heap.size) A' c' l ps)) (Lib.hid M.out.make) (fun V2 M => ?_)
              refine wpAnyT_one (i := 4) (by kernel_rfl) rfl (fun K hK => ?_)
              go_simp
              go_at_call 87
              refine (pick_any b A n c k' 60 _ (M.out.bel (by repeat (first | exact Below.refl _ _ | refine bl_tr ?_ _ | refine bl_al ?_ _ | refine bl_dr ?_ | refine bl_up ?_ _ | refine Below.drew ?_ | refine bl_alloc ?_ _ | refine Below.setCell ?_ (by first | (simp; done) | (simp; omega)) _))).src (M.out.bel (by repeat (first | exact Below.refl _ _ | refine bl_tr ?_ _ | refine bl_al ?_ _ | refine bl_dr ?_ | refine bl_up ?_ _ | refine Below.drew ?_ | refine bl_alloc ?_ _ | refine Below.setCell ?_ (by first | (simp; done) | (simp; omega)) _))).byt (by omega) hn (by omega)).mono ?_
              rintro e V3 ⟨x, k4, rfl, y0, y1, hk4, hs4, hg4⟩
              have M := Lib.hid ((M.out.bel (by repeat (first | exact Below.refl _ _ | refine bl_tr ?_ _ | refine bl_al ?_ _ | refine bl_dr ?_ | refine bl_up ?_ _ | refine Below.drew ?_ | refine bl_alloc ?_ _ | refine Below.setCell ?_ (by first | (simp; done) | (simp; omega)) _))).call hg4 hs4)
              have hw1 : IntKind.i64.wrap (10 * x) = 10 * x := by rw [IntKind.wrap_i64]; omega
              clear hs4 hg4
              try go_wp2_with fail
              refine hK.out _ _ (fun _ => trivial) ?_
              clear hK K
              try simp only [Act.put, List.setIfInBounds_toArray, List.set_cons_zero, List.set_cons_succ]
              refine wpAnyT_pure (i := 5) (v := ?_) rfl (by kernel_rfl) (by kernel_rfl) (by kernel_rfl) (by decide) (fun _ _ _ h => h) (Or.inl ⟨by rfl, ?_⟩) (fun _ => trivial) ?_
              rotate_left
              · intro w _; go_simp; try (with_reducible rfl)
              try simp only [Act.put, List.setIfInBounds_toArray, List.set_cons_zero, List.set_cons_succ]
              refine wpAnyT_pure (i := 6) (v := ?_) rfl (by kernel_rfl) (by kernel_rfl) (by kernel_rfl) (by decide) (fun _ _ _ h => h) (Or.inl ⟨by rfl, ?_⟩) (fun _ => trivial) ?_
              rotate_left
              · intro w _; go_simp; try (with_reducible rfl)
              try simp only [Act.put, List.setIfInBounds_toArray, List.set_cons_zero, List.set_cons_succ]
              obtain ⟨⟨r0, r1, r2⟩, r3, r4⟩ := M.out.raw
              refine wpAnyT_one (i := 8) (by kernel_rfl) rfl (fun K hK => ?_)
              go_simp
              refine hK.out _ _ (fun _ => trivial) ?_
              clear hK K
              try simp only [Act.put, List.setIfInBounds_toArray, List.set_cons_zero, List.set_cons_succ]
              refine wpAnyT_done (by kernel_rfl) ?_ _
              refine exit_gen (R := fun V9 => Hid (XB w V9 b A n c k4 B _ _ L (10 * x) (zer L) A' c' l ps)) (Lib.hid (M.out.fin (10 * x))) (fun V9 z => ?_)
              go_wp2_with fail
              go_meet
              exact ⟨_, _, x, k4, rfl, y0, by omega, by omega, z⟩
            · go_simp
              go_at_call 87
              refine (pick_any b A n c k' 60 _ (M.out.bel (by repeat (first | exact Below.refl _ _ | refine bl_tr ?_ _ | refine bl_al ?_ _ | refine bl_dr ?_ | refine bl_up ?_ _ | refine Below.drew ?_ | refine bl_alloc ?_ _ | refine Below.setCell ?_ (by first | (simp; done) | (simp; omega)) _))).src (M.out.bel (by repeat (first | exact Below.refl _ _ | refine bl_tr ?_ _ | refine bl_al ?_ _ | refine bl_dr ?_ | refine bl_up ?_ _ | refine Below.drew ?_ | refine bl_alloc ?_ _ | refine Below.setCell ?_ (by first | (simp; done) | (simp; omega)) _))).byt (by omega) hn (by omega)).mono ?_
              rintro e V2 ⟨x, k4, rfl, y0, y1, hk4, hs4, hg4⟩
              have M := Lib.hid ((M.out.bel (by repeat (first | exact Below.refl _ _ | refine bl_tr ?_ _ | refine bl_al ?_ _ | refine bl_dr ?_ | refine bl_up ?_ _ | refine Below.drew ?_ | refine bl_alloc ?_ _ | refine Below.setCell ?_ (by first | (simp; done) | (simp; omega)) _))).call hg4 hs4)
              have hw1 : IntKind.i64.wrap (10 * x) = 10 * x := by rw [IntKind.wrap_i64]; omega
              clear hs4 hg4
              try go_wp2_with fail
              refine hK.out _ _ (fun _ => trivial) ?_
              clear hK K
              try simp only [Act.put, List.setIfInBounds_toArray, List.set_cons_zero, List.set_cons_succ]
              refine wpAnyT_pure (i := 5) (v := ?_) rfl (by kernel_rfl) (by kernel_rfl) (by kernel_rfl) (by decide) (fun _ _ _ h => h) (Or.inl ⟨by rfl, ?_⟩) (fun _ => trivial) ?_
              rotate_left
              · intro w _; go_simp; try (with_reducible rfl)
              try simp only [Act.put, List.setIfInBounds_toArray, List.set_cons_zero, List.set_cons_succ]
              refine wpAnyT_one (i := 2) (by kernel_rfl) rfl (fun K hK => ?_)
              go_simp
              refine hK.out _ _ (fun _ => trivial) ?_
              clear hK K
              try simp only [Act.put, List.setIfInBounds_toArray, List.set_cons_zero, List.set_cons_succ]
              refine wpAnyT_gen (R := fun V9 => Hid (MK w V9 b A n c k4 B L (some (V2).heap.size) (some V0.heap.size) A' c' l ps)) (Lib.hid M.out.make) (fun V3 M => ?_)
              refine wpAnyT_pure (i := 6) (v := ?_) rfl (by kernel_rfl) (by kernel_rfl) (by kernel_rfl) (by decide) (fun _ _ _ h => h) (Or.inl ⟨by rfl, ?_⟩) (fun _ => trivial) ?_
              rotate_left
              · intro w _; go_simp; try (with_reducible rfl)
              try simp only [Act.put, List.setIfInBounds_toArray, List.set_cons_zero, List.set_cons_succ]
              obtain ⟨⟨r0, r1, r2⟩, r3, r4⟩ := M.out.raw
              refine wpAnyT_one (i := 8) (by kernel_rfl) rfl (fun K hK => ?_)
              go_simp
              refine hK.out _ _ (fun _ => trivial) ?_
              clear hK K
              try simp only [Act.put, List.setIfInBounds_toArray, List.set_cons_zero, List.set_cons_succ]
              refine wpAnyT_done (by kernel_rfl) ?_ _
              refine exit_gen (R := fun V9 => Hid (XB w V9 b A n c k4 B _ _ L (10 * x) (zer L) A' c' l ps)) (Lib.hid (M.out.fin (10 * x))) (fun V9 z => ?_)
              go_wp2_with fail
              go_meet
              exact ⟨_, _, x, k4, rfl, y0, by omega, by omega, z⟩
        case rest =>
          obtain ⟨q, m, x, k4, rfl, hx0, hx6, hk4, hX⟩ := hcut
          clear HM
          go_wp2_with fail
          go_loopw [9] (fun zi V => ∃ (i k5 : Nat) (ms : List Int), zi = i64 i ∧ i ≤ L ∧ k5 ≤ k4 + 2 * i ∧ Hid (XB w V b A n c k5 B q m L (10 * x) ms A' c' l ps)) (fun zi _ => L - (intOf zi).toNat)
          case atStart => exact ⟨0, k4, zer L, rfl, by omega, by omega, hX⟩
          case round =>
            obtain ⟨i, k5, ms, rfl, hi, hk5, hY⟩ := hrel
            clear hX
            by_cases hiL : i < L
            · have hiL' : (i : Int) < (L : Int) := by omega
              obtain ⟨⟨r0, r1, r2⟩, r3, r4⟩ := hY.out.raw
              have hC0 := Lib.hid (And.intro r0 r1)
              go_upto_region 12 with (fail)
              refine wp_region_T (fun V => q < V.heap.size ∧ V.cell? ⟨q, 0, none⟩ = some (.slice (some ⟨m, 0, none⟩) L L)) 6 (by kernel_rfl) ?_
              refine wpAnyT_pure (i := 0) (v := ?_) rfl (by kernel_rfl) (by kernel_rfl) (by kernel_rfl) (by decide) (fun _ _ _ h => h) (Or.inl ⟨by rfl, ?_⟩) (fun _ => hC0.out) ?_
              rotate_left
              · intro w _; go_simp; try (with_reducible rfl)
              try simp only [Act.put, List.setIfInBounds_toArray, List.set_cons_zero, List.set_cons_succ]
              refine wpAnyT_load (i := 1) (v := ?_) rfl (by kernel_rfl) (by kernel_rfl) (by kernel_rfl) (by decide) (by kernel_rfl) (by kernel_rfl) (fun _ _ _ h => h) (Or.inl ⟨by rfl, ?_⟩) hC0.out ?_
              rotate_left
              · intro w hSw; (try dsimp only at hSw); go_simp; try (with_reducible rfl)
              try simp only [Act.put, List.setIfInBounds_toArray, List.set_cons_zero, List.set_cons_succ]
              refine wpAnyT_pure (i := 2) (v := ?_) rfl (by kernel_rfl) (by kernel_rfl) (by kernel_rfl) (by decide) (fun _ _ _ h => h) (Or.inl ⟨by rfl, ?_⟩) (fun _ => hC0.out) ?_
              rotate_left
              · intro w _; go_simp; try (with_reducible rfl)
              try simp only [Act.put, List.setIfInBounds_toArray, List.set_cons_zero, List.set_cons_succ]
              refine wpAnyT_pure (i := 3) (v := ?_) rfl (by kernel_rfl) (by kernel_rfl) (by kernel_rfl) (by decide) (fun _ _ _ h => h) (Or.inl ⟨by rfl, ?_⟩) (fun _ => hC0.out) ?_
              rotate_left
              · intro w _; go_simp; try (with_reducible rfl)
              try simp only [Act.put, List.setIfInBounds_toArray, List.set_cons_zero, List.set_cons_succ]
              refine wpAnyT_one (i := 4) (by kernel_rfl) rfl (fun K hK => ?_)
              go_simp
              go_at_call 87
              refine (pick_any b A n c k5 4 _ (hY.out.bel (by repeat (first | exact Below.refl _ _ | refine bl_tr ?_ _ | refine bl_al ?_ _ | refine bl_dr ?_ | refine bl_up ?_ _ | refine Below.drew ?_ | refine bl_alloc ?_ _ | refine Below.setCell ?_ (by first | (simp; done) | (simp; omega)) _))).src (hY.out.bel (by repeat (first | exact Below.refl _ _ | refine bl_tr ?_ _ | refine bl_al ?_ _ | refine bl_dr ?_ | refine bl_up ?_ _ | refine Below.drew ?_ | refine bl_alloc ?_ _ | refine Below.setCell ?_ (by first | (simp; done) | (simp; omega)) _))).byt (by omega) hn (by omega)).mono ?_
              rintro e V1 ⟨y, k6, rfl, y0, y1, hk6, hs6, hg6⟩
              have Y1 := Lib.hid ((hY.out.bel (by repeat (first | exact Below.refl _ _ | refine bl_tr ?_ _ | refine bl_al ?_ _ | refine bl_dr ?_ | refine bl_up ?_ _ | refine Below.drew ?_ | refine bl_alloc ?_ _ | refine Below.setCell ?_ (by first | (simp; done) | (simp; omega)) _))).call hg6 hs6)
              clear hs6 hg6 r0 r1 r2 r3 r4 hC0
              obtain ⟨⟨r0, r1, r2⟩, r3, r4⟩ := Y1.out.raw
              have r5 := Y1.out.at hiL
              have hC0 := Lib.hid (And.intro r0 r1)
              try go_wp2_with fail
              refine hK.out _ _ (fun _ => hC0.out) ?_
              clear hK K
              try simp only [Act.put, List.setIfInBounds_toArray, List.set_cons_zero, List.set_cons_succ]
              refine wpAnyT_pure (i := 5) (v := ?_) rfl (by kernel_rfl) (by kernel_rfl) (by kernel_rfl) (by decide) (fun _ _ _ h => h) (Or.inl ⟨by rfl, ?_⟩) (fun _ => hC0.out) ?_
              rotate_left
              · intro w _; go_simp; try (with_reducible rfl)
              try simp only [Act.put, List.setIfInBounds_toArray, List.set_cons_zero, List.set_cons_succ]
              refine wpAnyT_one (i := 6) (by kernel_rfl) rfl (fun K hK => ?_)
              go_simp
              refine hK.out _ _ (fun h9 => absurd (show true = false from h9) (by decide)) ?_
              clear hK K
              try simp only [Act.put, List.setIfInBounds_toArray, List.set_cons_zero, List.set_cons_succ]
              refine wpAnyT_done (by kernel_rfl) ?_ _
              refine exit_gen (R := fun V9 => Hid (XB w V9 b A n c k6 B q m L (10 * x) (ms.set i y) A' c' l ps)) (Lib.hid (Y1.out.put i y)) (fun V9 z => ?_)
              clear Y1 r0 r1 r2 r3 r4 r5 hC0 hY
              go_wp2_with fail
              go_roundw
              case rel => exact ⟨i + 1, k6, ms.set i y, by go_num, by omega, by omega, z⟩
              case measure => (simp [intOf]; try omega)
            · obtain rfl : i = L := by omega
              obtain ⟨⟨r0, r1, r2⟩, r3, r4⟩ := hY.out.raw
              have hC0 := Lib.hid (And.intro r0 r1)
              go_upto_region 13 with (fail)
              refine wp_region_T (fun V => q < V.heap.size ∧ V.cell? ⟨q, 0, none⟩ = some (.slice (some ⟨m, 0, none⟩) i i)) 10 (by kernel_rfl) ?_
              refine wpAnyT_pure (i := 0) (v := ?_) rfl (by kernel_rfl) (by kernel_rfl) (by kernel_rfl) (by decide) (fun _ _ _ h => h) (Or.inl ⟨by rfl, ?_⟩) (fun _ => hC0.out) ?_
              rotate_left
              · intro w _; go_simp; try (with_reducible rfl)
              try simp only [Act.put, List.setIfInBounds_toArray, List.set_cons_zero, List.set_cons_succ]
              refine wpAnyT_load (i := 1) (v := ?_) rfl (by kernel_rfl) (by kernel_rfl) (by kernel_rfl) (by decide) (by kernel_rfl) (by kernel_rfl) (fun _ _ _ h => h) (Or.inl ⟨by rfl, ?_⟩) hC0.out ?_
              rotate_left
              · intro w hSw; (try dsimp only at hSw); go_simp; try (with_reducible rfl)
              try simp only [Act.put, List.setIfInBounds_toArray, List.set_cons_zero, List.set_cons_succ]
              refine wpAnyT_pure (i := 2) (v := ?_) rfl (by kernel_rfl) (by kernel_rfl) (by kernel_rfl) (by decide) (fun _ _ _ h => h) (Or.inl ⟨by rfl, ?_⟩) (fun _ => hC0.out) ?_
              rotate_left
              · intro w _; go_simp; try (with_reducible rfl)
              try simp only [Act.put, List.setIfInBounds_toArray, List.set_cons_zero, List.set_cons_succ]
              refine wpAnyT_pure (i := 3) (v := ?_) rfl (by kernel_rfl) (by kernel_rfl) (by kernel_rfl) (by decide) (fun _ _ _ h => h) (Or.inl ⟨by rfl, ?_⟩) (fun _ => hC0.out) ?_
              rotate_left
              · intro w _; go_simp; try (with_reducible rfl)
              try simp only [Act.put, List.setIfInBounds_toArray, List.set_cons_zero, List.set_cons_succ]
              refine wpAnyT_pure (i := 4) (v := ?_) rfl (by kernel_rfl) (by kernel_rfl) (by kernel_rfl) (by decide) (fun _ _ _ h => h) (Or.inl ⟨by rfl, ?_⟩) (fun _ => hC0.out) ?_
              rotate_left
              · intro w _; go_simp; try (with_reducible rfl)
              try simp only [Act.put, List.setIfInBounds_toArray, List.set_cons_zero, List.set_cons_succ]
              refine wpAnyT_one (i := 5) (by kernel_rfl) rfl (fun K hK => ?_)
              go_simp
              go_at_call 87
              refine (pick_any b A n c k5 (i : Int) _ (hY.out.bel (by repeat (first | exact Below.refl _ _ | refine bl_tr ?_ _ | refine bl_al ?_ _ | refine bl_dr ?_ | refine bl_up ?_ _ | refine Below.drew ?_ | refine bl_alloc ?_ _ | refine Below.setCell ?_ (by first | (simp; done) | (simp; omega)) _))).src (hY.out.bel (by repeat (first | exact Below.refl _ _ | refine bl_tr ?_ _ | refine bl_al ?_ _ | refine bl_dr ?_ | refine bl_up ?_ _ | refine Below.drew ?_ | refine bl_alloc ?_ _ | refine Below.setCell ?_ (by first | (simp; done) | (simp; omega)) _))).byt (by omega) hn (by omega)).mono ?_
              rintro e V1 ⟨y, k6, rfl, y0, y1, hk6, hs6, hg6⟩
              obtain ⟨y, rfl⟩ : ∃ y' : Nat, y = (y' : Int) := ⟨y.toNat, by omega⟩
              have hyi : y < i := by omega
              have hyi' : (y : Int) < (i : Int) := by omega
              have Y1 := Lib.hid ((hY.out.bel (by repeat (first | exact Below.refl _ _ | refine bl_tr ?_ _ | refine bl_al ?_ _ | refine bl_dr ?_ | refine bl_up ?_ _ | refine Below.drew ?_ | refine bl_alloc ?_ _ | refine Below.setCell ?_ (by first | (simp; done) | (simp; omega)) _))).call hg6 hs6)
              clear hs6 hg6 r0 r1 r2 r3 r4 hC0 y1
              obtain ⟨⟨r0, r1, r2⟩, r3, r4⟩ := Y1.out.raw
              have r5 := Y1.out.at hyi
              have hC0 := Lib.hid (And.intro r0 r1)
              try go_wp2_with fail
              refine hK.out _ _ (fun _ => hC0.out) ?_
              clear hK K
              try simp only [Act.put, List.setIfInBounds_toArray, List.set_cons_zero, List.set_cons_succ]
              refine wpAnyT_pure (i := 6) (v := ?_) rfl (by kernel_rfl) (by kernel_rfl) (by kernel_rfl) (by decide) (fun _ _ _ h => h) (Or.inl ⟨by rfl, ?_⟩) (fun _ => hC0.out) ?_
              rotate_left
              · intro w _; go_simp; try (with_reducible rfl)
              try simp only [Act.put, List.setIfInBounds_toArray, List.set_cons_zero, List.set_cons_succ]
              refine wpAnyT_one (i := 7) (by kernel_rfl) rfl (fun K hK => ?_)
              go_simp
              refine hK.out _ _ (fun _ => hC0.out) ?_
              clear hK K
              try simp only [Act.put, List.setIfInBounds_toArray, List.set_cons_zero, List.set_cons_succ]
              refine wpAnyT_pure (i := 8) (v := ?_) rfl (by kernel_rfl) (by kernel_rfl) (by kernel_rfl) (by decide) (fun _ _ _ h => h) (Or.inl ⟨by rfl, ?_⟩) (fun _ => hC0.out) ?_
              rotate_left
              · intro w _; go_simp; try (with_reducible rfl)
              try simp only [Act.put, List.setIfInBounds_toArray, List.set_cons_zero, List.set_cons_succ]
              refine wpAnyT_pure (i := 9) (v := ?_) rfl (by kernel_rfl) (by kernel_rfl) (by kernel_rfl) (by decide) (fun _ _ _ h => h) (Or.inl ⟨by rfl, ?_⟩) (fun _ => hC0.out) ?_
              rotate_left
              · intro w _; go_simp; try (with_reducible rfl)
              try simp only [Act.put, List.setIfInBounds_toArray, List.set_cons_zero, List.set_cons_succ]
              refine wpAnyT_one (i := 10) (by kernel_rfl) rfl (fun K hK => ?_)
              go_simp
              refine hK.out _ _ (fun h9 => absurd (show true = false from h9) (by decide)) ?_
              clear hK K
              try simp only [Act.put, List.setIfInBounds_toArray, List.set_cons_zero, List.set_cons_succ]
              refine wpAnyT_done (by kernel_rfl) ?_ _
              refine exit_gen (R := fun V9 => Hid (XB w V9 b A n c k6 B q m i (10 * x) (ms.set y _) A' c' l ps)) (Lib.hid (Y1.out.put y _)) (fun V9 z => ?_)
              clear Y1 r0 r1 r2 r3 r4 r5 hC0 hY
              have hml := Lib.hid z.out.len
              generalize ms.set y _ = ms9 at *
              obtain ⟨⟨r0, r1, r2⟩, r3, r4⟩ := z.out.raw
              have HW := Lib.hid z.out.got.row
              have hl9 : l.length ≤ 9 := by omega
              have hsz := Lib.hid (Nat.le_trans z.out.lo (Nat.le_trans z.out.bq (Nat.le_of_lt r0)))
              go_wp2_with (at_builtin; go_must (refine wpl_appAt rfl _ _ 50 rfl w.heap.size 67 _ 2 32 el_off (.slice A' l.length c') l.length (ocs l ps) rfl (own_below HW.out (by repeat (first | exact Below.refl _ _ | refine bl_tr ?_ _ | refine bl_al ?_ _ | refine bl_dr ?_ | refine bl_up ?_ _ | refine Below.drew ?_ | refine bl_alloc ?_ _ | refine Below.setCell ?_ (by first | (simp; done) | (simp; omega)) _))) _ 1 1 [.slice (some ⟨m, 0, none⟩) i i, i64 (10 * x)] rfl (rds_new _ #[.slice (some ⟨m, 0, none⟩) i i, i64 (10 * x)] _ 2 1 rfl) (fun u hu => by simp at hu; rcases hu with rfl | rfl <;> rfl) (by omega) (by unfold maxLen; omega) (by omega) (Nat.le_trans hsz.out (Below.size (B := V9.heap.size) (w := V9) (by repeat (first | exact Below.refl _ _ | refine bl_tr ?_ _ | refine bl_al ?_ _ | refine bl_dr ?_ | refine bl_up ?_ _ | refine Below.drew ?_ | refine bl_alloc ?_ _ | refine Below.setCell ?_ (by first | (simp; done) | (simp; omega)) _)))) ?_); intro g3 c3 w3 o3 hg3 hat3; rw [own_ablk] at hg3 hat3; have HG3 := Lib.hid (And.intro o3 (And.intro hg3 hat3)); clear o3 hg3 hat3)
              obtain ⟨o3, hg3, hat3⟩ := HG3.out
              have hlo3 : ∀ x, ablk A' = some x → w.heap.size ≤ x := fun x e => (z.out.got.aLt e).1
              have hb3 : Below V9.heap.size V9 (V9.alloc (.cells #[.slice (some ⟨m, 0, none⟩) i i, i64 (10 * x)] 67)) := (Below.refl _ _).alloc (Nat.le_refl _) _
              have ST := z.out.app (Nat.le_trans hb3.size hg3.size) hb3 (by simp) o3 hg3 hat3
              go_roundw
              case rel => exact ⟨l ++ [⟨ms9, 10 * x⟩], some ⟨g3, 0, none⟩, c3, ps ++ [(some ⟨m, 0, none⟩, i)], j - 1, k6, by go_num, by rw [List.length_append]; rfl, Lib.hid (hva.out.snoc hml.out), fun _ => hL1, by rw [List.length_append, List.length_singleton]; omega, by omega,
                Lib.hid ((z.out.src.bel hb3).kept hg3 (fun e => by have := hlo3 b e.symm; omega)), Lib.hid ((z.out.byt.bel hb3).kept hg3 (fun x e => by have := hlo3 x e; omega)), Lib.hid ST, Lib.hid (gr_far (gr_up z.out.gr ⟨_, hb3⟩) hg3 (fun x e => hlo3 x e))⟩
              case measure => (simp [intOf]; try omega)
      · by_cases hj0 : 0 < j
        · have hL0 : L = 0 := by omega
          obtain rfl : l = [] := List.length_eq_zero_iff.1 (by omega)
          subst hL0
          have hj2 : (0 : Int) < (j : Int) := by omega
          go_wp2_with fail
          go_ret
          exact ⟨[], A', c', ps, k', rfl, hgot.out, OShort.nil, by simp, by omega, hs.out, hgr.out⟩
        · obtain rfl : j = 0 := by omega
          by_cases hl0 : l.length = 0
          · obtain rfl : l = [] := List.length_eq_zero_iff.1 hl0
            go_wp2_with fail
            go_ret
            exact ⟨[], A', c', ps, k', rfl, hgot.out, OShort.nil, by simp, by omega, hs.out, hgr.out⟩
          · have hlp : (0 : Int) < (l.length : Int) := by omega
            have hL1 : 0 < L := hlL (by omega)
            have hl9 : l.length ≤ 9 := by omega
            obtain ⟨a, rfl⟩ : ∃ a, A' = some ⟨a, 0, none⟩ := own_addr hgot.out.row (by omega)
            have T0 : Hid (OT w wr b A n c a c' l ps k') := Lib.hid ⟨hs.out, hbt.out, hgot.out, hgr.out, hlt, by omega⟩
            have hm0 := Lib.hid (show (oat l 0).many.length = L from hva.out 0 (by omega))
            have hsh : Hid (OShort 31 l) := Lib.hid (hva.out.short hL)
            clear hs hbt hgot hgr hva hl0
            go_wp2_with fail
            refine (pick_any b A n c k' 20 wr T0.out.src T0.out.byt (by omega) hn (by omega)).mono ?_
            rintro e W5 ⟨x, k5, rfl, y0, y1, hk5, hs5, hg5⟩
            have T5 := Lib.hid (T0.out.call hg5 hs5)
            clear T0 hs5 hg5 y1
            obtain ⟨r0, r1, r2, r3, r4⟩ := T5.out.raw
            have hq5 : b < W5.heap.size := Nat.lt_of_lt_of_le hlt T5.out.gr.size
            by_cases t0 : x = 0
            · subst t0
              go_wp2_with fail
              refine cg (R := fun V => OT w V b A n c a c' l ps k5 ∧ Rds V 1 (some ⟨W5.heap.size, 0, none⟩) 4 (ics [-1, 0, 1000000, 1000001])) ⟨T5.out.alloc _, rds_newA 1 4 rfl rfl⟩ (fun V z => ?_)
              refine (among_any b A n c k5 (some ⟨W5.heap.size, 0, none⟩) 4 [-1, 0, 1000000, 1000001] V z.1.src z.1.byt (by omega) hn z.2 (by decide) (by decide) (adr_ne hq5)).mono ?_
              rintro e W6 ⟨v5, k6, rfl, ⟨d5, hd5, rfl⟩, hk6, hs6, hg6⟩
              have T6 := Lib.hid (z.1.call hg6 hs6)
              obtain ⟨r0, r1, r2, r3, r4⟩ := T6.out.raw
              clear z hs6 hg6 T5 hd5
              go_wp2_with fail
              go_ret
              exact ⟨_, _, c', ps, k6, by rw [List.length_set]; rfl, (T6.out.price d5).got, (hsh.out.up (by omega)).set (by show (oat l 0).many.length ≤ 32; have := hm0.out; omega), by rw [List.length_set]; omega, by omega, (T6.out.price d5).src, (T6.out.price d5).gr⟩
            by_cases t1 : x = 1
            · subst t1
              obtain ⟨q, hq⟩ : ∃ q, (patO ps).1 = some ⟨q, 0, none⟩ := own_addr T5.out.inn (by have := hm0.out; omega)
              obtain ⟨r1, r6, r7, r8⟩ := T5.out.rawq hq hm0.out hL1
              have HQ := Lib.hid hq
              clear hq
              have hL2 : (0 : Int) < (L : Int) := by omega
              have hC0 := Lib.hid (And.intro r0 r1)
              go_upto_region 20 with (fail)
              refine wp_region_T (fun V => a < V.heap.size ∧ V.cell? ⟨a, 0, none⟩ = some (.slice (some ⟨q, 0, none⟩) L (patO ps).2)) 8 (by kernel_rfl) ?_
              refine wpAnyT_pure (i := 0) (v := ?_) rfl (by kernel_rfl) (by kernel_rfl) (by kernel_rfl) (by decide) (fun _ _ _ h => h) (Or.inl ⟨by rfl, ?_⟩) (fun _ => hC0.out) ?_
              rotate_left
              · intro w _; go_simp; try (with_reducible rfl)
              try simp only [Act.put, List.setIfInBounds_toArray, List.set_cons_zero, List.set_cons_succ]
              refine wpAnyT_pure (i := 1) (v := ?_) rfl (by kernel_rfl) (by kernel_rfl) (by kernel_rfl) (by decide) (fun _ _ _ h => h) (Or.inl ⟨by rfl, ?_⟩) (fun _ => hC0.out) ?_
              rotate_left
              · intro w _; go_simp; try (with_reducible rfl)
              try simp only [Act.put, List.setIfInBounds_toArray, List.set_cons_zero, List.set_cons_succ]
              refine wpAnyT_pure (i := 2) (v := ?_) rfl (by kernel_rfl) (by kernel_rfl) (by kernel_rfl) (by decide) (fun _ _ _ h => h) (Or.inl ⟨by rfl, ?_⟩) (fun _ => hC0.out) ?_
              rotate_left
              · intro w _; go_simp; try (with_reducible rfl)
              try simp only [Act.put, List.setIfInBounds_toArray, List.set_cons_zero, List.set_cons_succ]
              refine wpAnyT_load (i := 3) (v := ?_) rfl (by kernel_rfl) (by kernel_rfl) (by kernel_rfl) (by decide) (by kernel_rfl) (by kernel_rfl) (fun _ _ _ h => h) (Or.inl ⟨by rfl, ?_⟩) hC0.out ?_
              rotate_left
              · intro w hSw; (try dsimp only at hSw); go_simp; try (with_reducible rfl)
              try simp only [Act.put, List.setIfInBounds_toArray, List.set_cons_zero, List.set_cons_succ]
              refine wpAnyT_pure (i := 4) (v := ?_) rfl (by kernel_rfl) (by kernel_rfl) (by kernel_rfl) (by decide) (fun _ _ _ h => h) (Or.inl ⟨by rfl, ?_⟩) (fun _ => hC0.out) ?_
              rotate_left
              · intro w _; go_simp; try (with_reducible rfl)
              try simp only [Act.put, List.setIfInBounds_toArray, List.set_cons_zero, List.set_cons_succ]
              refine wpAnyT_one (i := 5) (by kernel_rfl) rfl (fun K hK => ?_)
              go_simp
              refine hK.out _ _ (fun _ => ⟨(T5.out.bel (by repeat (first | exact Below.refl _ _ | refine bl_tr ?_ _ | refine bl_al ?_ _ | refine bl_dr ?_ | refine bl_up ?_ _ | refine Below.drew ?_ | refine bl_alloc ?_ _ | refine Below.setCell ?_ (by first | (simp; done) | (simp; omega)) _))).raw.1, ((T5.out.bel (by repeat (first | exact Below.refl _ _ | refine bl_tr ?_ _ | refine bl_al ?_ _ | refine bl_dr ?_ | refine bl_up ?_ _ | refine Below.drew ?_ | refine bl_alloc ?_ _ | refine Below.setCell ?_ (by first | (simp; done) | (simp; omega)) _))).rawq HQ.out hm0.out hL1).1⟩) ?_
              clear hK K
              try simp only [Act.put, List.setIfInBounds_toArray, List.set_cons_zero, List.set_cons_succ]
              refine wpAnyT_one (i := 6) (by kernel_rfl) rfl (fun K hK => ?_)
              go_simp
              go_at_call 96
              refine (among_any b A n c k5 _ 4 [-1, 0, 20, 21] _ (T5.out.bel (by repeat (first | exact Below.refl _ _ | refine bl_tr ?_ _ | refine bl_al ?_ _ | refine bl_dr ?_ | refine bl_up ?_ _ | refine Below.drew ?_ | refine bl_alloc ?_ _ | refine Below.setCell ?_ (by first | (simp; done) | (simp; omega)) _))).src (T5.out.bel (by repeat (first | exact Below.refl _ _ | refine bl_tr ?_ _ | refine bl_al ?_ _ | refine bl_dr ?_ | refine bl_up ?_ _ | refine Below.drew ?_ | refine bl_alloc ?_ _ | refine Below.setCell ?_ (by first | (simp; done) | (simp; omega)) _))).byt (by omega) hn (by first | exact rds_newA 1 4 rfl rfl | exact rds_newA 1 4 (by simp) rfl) (by decide) (by decide) (adr_ne (by first | exact hq5 | omega))).mono ?_
              rintro e W6 ⟨v6, k6, rfl, ⟨d6, hd6, rfl⟩, hk6, hs6, hg6⟩
              have T6 := Lib.hid ((T5.out.bel (by repeat (first | exact Below.refl _ _ | refine bl_tr ?_ _ | refine bl_al ?_ _ | refine bl_dr ?_ | refine bl_up ?_ _ | refine Below.drew ?_ | refine bl_alloc ?_ _ | refine Below.setCell ?_ (by first | (simp; done) | (simp; omega)) _))).call hg6 hs6)
              clear hs6 hg6 hd6 r0 r1 r2 r3 r4 r6 r7 r8 hC0
              obtain ⟨r1, r6, r7, r8⟩ := T6.out.rawq HQ.out hm0.out hL1
              have hC0 := Lib.hid (And.intro T6.out.raw.1 r1)
              try go_wp2_with fail
              refine hK.out _ _ (fun _ => hC0.out) ?_
              clear hK K
              try simp only [Act.put, List.setIfInBounds_toArray, List.set_cons_zero, List.set_cons_succ]
              refine wpAnyT_pure (i := 7) (v := ?_) rfl (by kernel_rfl) (by kernel_rfl) (by kernel_rfl) (by decide) (fun _ _ _ h => h) (Or.inl ⟨by rfl, ?_⟩) (fun _ => hC0.out) ?_
              rotate_left
              · intro w _; go_simp; try (with_reducible rfl)
              try simp only [Act.put, List.setIfInBounds_toArray, List.set_cons_zero, List.set_cons_succ]
              refine wpAnyT_one (i := 8) (by kernel_rfl) rfl (fun K hK => ?_)
              go_simp
              refine hK.out _ _ (fun h9 => absurd (show true = false from h9) (by decide)) ?_
              clear hK K
              try simp only [Act.put, List.setIfInBounds_toArray, List.set_cons_zero, List.set_cons_succ]
              refine wpAnyT_done (by kernel_rfl) ?_ _
              refine exit_gen (R := fun V9 => Hid (OT w V9 b A n c a c' (l.set 0 ⟨(oat l 0).many.set 0 d6, (oat l 0).price⟩) ps k6)) (Lib.hid (T6.out.put HQ.out d6)) (fun V9 z => ?_)
              clear T6 T5 r1 r6 r7 r8 hC0
              go_wp2_with fail
              go_ret
              exact ⟨_, _, c', ps, k6, by rw [List.length_set]; rfl, z.out.got, (hsh.out.up (by omega)).set (by rw [List.length_set]; have := hm0.out; omega), by rw [List.length_set]; omega, by omega, z.out.src, z.out.gr⟩
            by_cases t2 : x = 2
            · subst t2
              have hsz : w.heap.size ≤ W5.heap.size := T5.out.gr.size
              have hrow := World.ownsRow_lit (base := w.heap.size) (e := 2) (size := 1) W5 (madeCells #[i64 0] L) L hsz (by unfold maxLen; omega) (by rw [size_madeCells, Nat.mul_one])
              rw [zer_made] at hrow
              have T9 := Lib.hid (T5.out.many (P := some ⟨W5.heap.size, 0, none⟩) (cb := L) (bs := zer L) (gr_alloc (grown_refl W5 _) _) (by rw [zer_len]; exact hrow) (fun k e => .inr (by injection e with e; exact Nat.le_of_eq e)))
              rw [World.setCell_alloc_past _ _ _ _ r0, zer_len] at T9
              clear hrow
              go_wp2_with fail
              go_ret
              exact ⟨l.set 0 ⟨zer L, (oat l 0).price⟩, _, c', _, k5, by rw [List.length_set]; rfl, T9.out.got, (hsh.out.up (by omega)).set (by show (zer L).length ≤ 32; rw [zer_len]; omega), by rw [List.length_set]; omega, by omega, T9.out.src, T9.out.gr⟩
            by_cases t3 : x = 3
            · subst t3
              have hsz := Lib.hid (show w.heap.size ≤ W5.heap.size from T5.out.gr.size)
              have HI := Lib.hid T5.out.inn
              go_wp2_with (at_builtin; go_must (refine wpl_appAt rfl _ _ 35 rfl w.heap.size 2 _ 1 8 el_int (.slice (patO ps).1 (oat l 0).many.length (patO ps).2) (oat l 0).many.length (ics (oat l 0).many) rfl (own_below HI.out (by repeat (first | exact Below.refl _ _ | refine bl_tr ?_ _ | refine bl_al ?_ _ | refine bl_dr ?_ | refine bl_up ?_ _ | refine Below.drew ?_ | refine bl_alloc ?_ _ | refine Below.setCell ?_ (by first | (simp; done) | (simp; omega)) _))) _ 1 1 [i64 1] rfl (rds_new _ #[i64 1] _ 1 1 rfl) (fun u hu => by simp at hu; subst hu; rfl) (by omega) (by have := hm0.out; unfold maxLen; omega) (by have := hm0.out; omega) (Nat.le_trans hsz.out (Below.size (B := W5.heap.size) (w := W5) (by repeat (first | exact Below.refl _ _ | refine bl_tr ?_ _ | refine bl_al ?_ _ | refine bl_dr ?_ | refine bl_up ?_ _ | refine Below.drew ?_ | refine bl_alloc ?_ _ | refine Below.setCell ?_ (by first | (simp; done) | (simp; omega)) _)))) ?_); intro g3 c3 w3 o3 hg3 hat3; obtain ⟨d0, d1, d2⟩ := (T5.out.bel (by repeat (first | exact Below.refl _ _ | refine bl_tr ?_ _ | refine bl_al ?_ _ | refine bl_dr ?_ | refine bl_up ?_ _ | refine Below.drew ?_ | refine bl_alloc ?_ _ | refine Below.setCell ?_ (by first | (simp; done) | (simp; omega)) _))).keepA hg3; have T9 := Lib.hid (OT.app (x := 1) (T5.out.bel (by repeat (first | exact Below.refl _ _ | refine bl_tr ?_ _ | refine bl_al ?_ _ | refine bl_dr ?_ | refine bl_up ?_ _ | refine Below.drew ?_ | refine bl_alloc ?_ _ | refine Below.setCell ?_ (by first | (simp; done) | (simp; omega)) _))) hg3 o3 hat3); clear o3 hg3 hat3)
              go_ret
              exact ⟨l.set 0 ⟨(oat l 0).many ++ [1], (oat l 0).price⟩, _, c', _, k5, by rw [List.length_set]; rfl, T9.out.got, (hsh.out.up (by omega)).set (by rw [List.length_append, List.length_singleton]; have := hm0.out; omega), by rw [List.length_set]; omega, by omega, T9.out.src, T9.out.gr⟩
            · have u0 : (x == 0) = false := by rw [beq_eq_false_iff_ne]; exact t0
              have u1 : (x == 1) = false := by rw [beq_eq_false_iff_ne]; exact t1
              have u2 : (x == 2) = false := by rw [beq_eq_false_iff_ne]; exact t2
              have u3 : (x == 3) = false := by rw [beq_eq_false_iff_ne]; exact t3
              go_wp2_with fail
              go_ret
              exact ⟨l, _, c', ps, k5, rfl, T5.out.got, hsh.out.up (by omega), by omega, by omega, T5.out.src, T5.out.gr⟩
end Go.Proofs.Ytiibpldfnnhhlaa

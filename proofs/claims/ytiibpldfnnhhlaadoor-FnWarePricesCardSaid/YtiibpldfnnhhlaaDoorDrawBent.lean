/-
  The reference's drawing of a price list that is seldom not valid: whatever it draws, it is short. The bounds stand at it.
-/
import Derived.Test.YtiibpldfnnhhlaaDoorBentP
import Derived.Test.YtiibpldfnnhhlaaDoorTakeT
import Derived.Deep.DeepCutAuto
namespace Go.Proofs.YtiibpldfnnhhlaaDoor
open Go.RowKit
theorem conv_two {P : Program} (W : World) (src e dst : TypeId) (hs : P.underlying src = some (.slice e)) (he : P.underlying e = some (.int .u8)) (hd : P.underlying dst = some .string) (x y : Int) :
    (convert src dst (.slice (some ⟨W.heap.size, 0, none⟩) 2 2)).run P (W.alloc (.cells #[.int .u8 x, .int .u8 y] e)) = .ok (.string ⟨#[UInt8.ofNat x.toNat, UInt8.ofNat y.toNat]⟩) (W.alloc (.cells #[.int .u8 x, .int .u8 y] e)) :=
  run_convert_bytes_arg _ src e hs he _ 0 2 2 [x, y] rfl (fun i hi => by
    have : i = 0 ∨ i = 1 := by omega
    rcases this with rfl | rfl <;> simp) dst hd
theorem rds_drew {V : World} {s n : Nat} {A : Option Addr} {xs : List Value} (h : Rds V s A n xs) : Rds V.drew s A n xs := h
theorem own_addr {V : World} {base e size n c : Nat} {A : Option Addr} {xs : List Value} (h : V.ownsRow base e size (.slice A n c) n xs) (hn : 0 < n) : ∃ a, A = some ⟨a, 0, none⟩ := by
  rcases h.2 with ⟨e, e0⟩ | ⟨g, cap, cur, e, _⟩
  · omega
  · injection e with e1 _ _
    exact ⟨g, e1⟩
def nmT : List ByteArray := [⟨#[]⟩, ⟨#[79, 105, 108]⟩, ⟨#[114, 105, 98, 98, 111, 110]⟩]
theorem nmT_size : ∀ d, d ∈ nmT → d.size ≤ 12 := by
  intro d hd
  simp only [nmT, List.mem_cons, List.not_mem_nil, or_false] at hd
  rcases hd with rfl | rfl | rfl <;> decide
theorem adr_ne {p b : Nat} (h : b < p) : ∀ b' off, (some (⟨p, 0, none⟩ : Addr)) = some ⟨b', off, none⟩ → b' ≠ b := fun b' off e => by
  injection e with e; injection e with e _; omega
set_option maxRecDepth 10000 in
set_option maxHeartbeats 4000000 in
theorem l26Bent_any (b : Nat) (A : Option Addr) (n c k : Nat) (w : World) (h : SrcAt w b A n c k) (hb : Byt w b A n) (hk : k ≤ 50000) (hn : n ≤ 1000000) :
    Calls Tryd.prog 66 #[.pointer (some ⟨b, 0, none⟩)] w (listPost b A n c k 31 12 800 w) := by
  have hlt := h.lt
  have HS := Lib.hid h
  have HB := Lib.hid hb
  clear h hb
  go_enter Tryd.func66, Tryd.ntmps66
  go_wp2_with fail
  refine (l26Draw_any b A n c k w HS.out HB.out (by omega) hn).mono ?_
  rintro e w1 ⟨l, A1, c1, ps, k1, rfl, hgot, hsh, hl4, hk1, hs1, hg1⟩
  have S1 := Lib.hid hs1
  have B1 := Lib.hid (HB.out.grown hg1)
  have W1 := Lib.hid hgot
  have G1 := Lib.hid hg1
  have SH := Lib.hid hsh
  clear hgot hsh hs1 hg1 HS HB
  go_wp2_with fail
  refine (one_any b A n c k1 24 w1 S1.out B1.out (by omega) hn (by omega)).mono ?_
  rintro e w2 ⟨t, k2, rfl, hk2, hs2, hg2⟩
  have S2 := Lib.hid hs2
  have B2 := Lib.hid (B1.out.grown hg2)
  have W2 := Lib.hid (W1.out.grown hg2 (fun x e => by injection e with e; omega))
  have G2 := Lib.hid (grown_trans G1.out hg2)
  clear hs2 hg2 S1 B1 W1 G1
  go_upto_if 11 with (fail)
  go_cut [3] (fun o V => ∃ (l : List Ware) (A' : Option Addr) (c' : Nat) (ps : List Ptr) (k' : Nat), o = .slice A' l.length c' ∧ l.length ≤ 31 ∧ k' ≤ k + 700 ∧ Hid (WShort 3 l) ∧ Hid (WGot w.heap.size V A' c' l ps) ∧ Hid (Byt V b A n) ∧ Hid (SrcAt V b A n c k') ∧ Hid (w.grownBy V (some b)))
  case first =>
    cases t with
    | false =>
      go_wp2_with fail
      go_meet
      exact ⟨l, A1, c1, ps, k2, rfl, by omega, by omega, SH, W2, B2, S2, G2⟩
    | true =>
      go_wp2_with fail
      have hbs : w.heap.size ≤ w2.heap.size := G2.out.size
      have hOwn := Lib.hid (World.ownsRow_lit (base := w.heap.size) (e := 29) (size := 2) w2 #[] 0 hbs (by unfold maxLen; omega) rfl)
      refine (pick_any b A n c k2 2 _ (S2.out.alloc _) (B2.out.alloc _) (by omega) hn (by omega)).mono ?_
      rintro e w3 ⟨x, k3, rfl, y0, y1, hk3, hs3, hg3⟩
      obtain ⟨j0, rfl⟩ : ∃ j : Nat, x = (j : Int) := ⟨x.toNat, by omega⟩
      have hj0 : j0 ≤ 1 := by omega
      have S3 := Lib.hid hs3
      have B3 := Lib.hid ((B2.out.alloc _).grown hg3)
      have W3 := Lib.hid ((WGot.lit hOwn.out).grown hg3 (fun x e => by injection e with e; omega))
      have G3 := Lib.hid (grown_trans (gr_alloc G2.out _) hg3)
      clear hs3 hg3 y0 y1 hOwn S2 B2 W2 G2 SH
      go_wp2_with fail
      go_loopw [3, 4] (fun o kk wr => ∃ (l : List Ware) (A' : Option Addr) (c' : Nat) (ps : List Ptr) (j k' : Nat), kk = i64 j ∧ o = .slice A' l.length c' ∧ Hid (WShort 3 l) ∧ l.length + j ≤ 31 ∧ k' + 16 * j ≤ k + 600 ∧ Hid (SrcAt wr b A n c k') ∧ Hid (Byt wr b A n) ∧ Hid (WGot w.heap.size wr A' c' l ps) ∧ Hid (w.grownBy wr (some b))) (fun _ kk _ => (intOf kk).toNat)
      case atStart => exact ⟨[], _, _, [], 30 + j0, k3, by go_num, rfl, WShort.nil, by simp; omega, by omega, S3.out, B3.out, W3.out, G3.out⟩
      case round =>
        obtain ⟨l, A', c', ps, j, k', rfl, rfl, hva, hlj, hkj, hs, hbt, hgot, hgr⟩ := hrel
        clear S3 B3 W3 G3
        by_cases hj : 0 < j
        · have hj' : (0 : Int) < (j : Int) := by omega
          have hkc := fun (V : World) (x y : Int) => conv_two (P := Tryd.prog) V 37 5 9 Tryd.underlying37 Tryd.underlying5 Tryd.underlying9 x y
          go_wp2_with fail
          obtain ⟨nm, hnm⟩ : ∃ nm : ByteArray, (⟨#[97 + UInt8.ofNat (l.length / 26), 97 + UInt8.ofNat (l.length % 26)]⟩ : ByteArray) = nm := ⟨_, rfl⟩
          have hnz : nm.size ≤ 12 := by rw [← hnm]; show 2 ≤ 12; omega
          rw [hnm]
          clear hnm hkc
          refine (drawWare_any b A n c k' nm _ (SrcAt.alloc hs.out _) (Byt.alloc hbt.out _) (by omega) hn).mono ?_
          rintro e w4 ⟨lb, Ab, cb, k4, rfl, hlb, hrow, hk4, hs4, hg4, _, _⟩
          have S4 := Lib.hid hs4
          have B4 := Lib.hid ((Byt.alloc hbt.out _).grown hg4)
          have W4 := Lib.hid ((hgot.out.below ((Below.refl _ _).alloc (Nat.le_refl _) _)).grown hg4 (fun x e => by injection e with e; omega))
          have G4 := Lib.hid (grown_trans (gr_alloc hgr.out _) hg4)
          have HA := Lib.hid (fun k (e : ablk A' = some k) => Nat.lt_succ_of_lt (WHas.aLt hgot.out e).2)
          have HP := Lib.hid (fun i (hi : i < ps.length) k (e : ablk ps[i].1 = some k) => Nat.lt_succ_of_lt (WHas.pLt hgot.out hi e).2)
          have HR := Lib.hid hrow
          rw [show ∀ (u : World) (o : Obj), (u.alloc o).heap.size = u.heap.size + 1 from fun u o => by simp] at HR
          have hsz := Lib.hid (show w.heap.size ≤ wr.heap.size from hgr.out.size)
          have hsz2 := Lib.hid (show wr.heap.size + 1 ≤ w4.heap.size by have := hg4.size; simpa using this)
          clear hs4 hg4 hrow hs hbt hgot hgr
          have hl4 : l.length ≤ 31 := by omega
          go_wp2_with (at_builtin; go_must (refine wpl_appAt rfl _ _ 39 rfl w.heap.size 29 _ 2 40 el_ware (.slice A' l.length c') l.length (wcs l ps) rfl (own_below W4.out.row (by repeat (first | exact Below.refl _ _ | refine bl_tr ?_ _ | refine bl_al ?_ _ | refine bl_dr ?_ | refine bl_up ?_ _ | refine Below.drew ?_ | refine bl_alloc ?_ _ | refine Below.setCell ?_ (by first | (simp; done) | (simp; omega)) _))) _ 1 1 [.string nm, .slice Ab lb.length cb] rfl (rds_new _ #[.string nm, .slice Ab lb.length cb] _ 2 1 rfl) (fun u hu => by simp at hu; rcases hu with rfl | rfl <;> rfl) (by omega) (by unfold maxLen; omega) (by omega) (Nat.le_trans (Nat.le_succ_of_le hsz.out) (Nat.le_trans hsz2.out (Below.size (B := w4.heap.size) (w := w4) (by repeat (first | exact Below.refl _ _ | refine bl_tr ?_ _ | refine bl_al ?_ _ | refine bl_dr ?_ | refine bl_up ?_ _ | refine Below.drew ?_ | refine bl_alloc ?_ _ | refine Below.setCell ?_ (by first | (simp; done) | (simp; omega)) _))))) ?_); intro g5 c5 w5 o5 hg5 hat5; rw [own_ablk] at hg5 hat5; have HG5 := Lib.hid (And.intro o5 (And.intro hg5 hat5)); clear o5 hg5 hat5)
          obtain ⟨o5, hg5, hat5⟩ := HG5.out
          have hlo5 : ∀ x, ablk A' = some x → w.heap.size ≤ x := fun x e => (WHas.aLt W4.out e).1
          have ST := WGot.step2 (x := ⟨nm, lb⟩) (p := (Ab, cb)) (W4.out.below ((Below.refl _ _).alloc (Nat.le_refl _) _)) HA.out HP.out (Nat.le_succ_of_le hsz.out) (own_below HR.out ((Below.refl _ _).alloc (Nat.le_refl _) _)) o5 hg5 hat5
          go_roundw
          case rel => exact ⟨l ++ [⟨nm, lb⟩], some ⟨g5, 0, none⟩, c5, ps ++ [(Ab, cb)], j - 1, k4, by go_num, by rw [List.length_append]; rfl, WShort.snoc hva.out hnz (by show lb.length ≤ 3; omega), by rw [List.length_append, List.length_singleton]; omega, by omega,
            (show SrcAt w5 b A n c k4 from (S4.out.alloc _).kept hg5 (fun e => by have := hlo5 b e.symm; omega)), (show Byt w5 b A n from (B4.out.alloc _).kept hg5 (fun x e => by have := hlo5 x e; omega)),
            Lib.hid ST, (show w.grownBy w5 (some b) from gr_far (gr_alloc G4.out _) hg5 (fun x e => hlo5 x e))⟩
          case measure => (simp [intOf]; try omega)
        · obtain rfl : j = 0 := by omega
          go_wp2_with fail
          go_meet
          exact ⟨l, A', c', ps, k', rfl, by omega, by omega, hva, hgot, hbt, hs, hgr⟩
  case rest =>
    obtain ⟨l, A', c', ps, k', rfl, hl31, hkt, SX, WX, BX, SR, GX⟩ := hcut
    by_cases hl0 : l.length = 0
    · obtain rfl : l = [] := List.length_eq_zero_iff.1 hl0
      clear hl0
      go_wp2_with fail
      go_ret
      exact ⟨[], A', c', ps, k', rfl, WX.out, SX.out.up (by omega), by omega, by omega, SR.out, GX.out⟩
    · have hz0 : ((l.length : Int) == 0) = false := by rw [beq_eq_false_iff_ne]; omega
      go_wp2_with fail
      refine (pick_any b A n c k' (l.length : Int) wc SR.out BX.out (by omega) hn (by omega)).mono ?_
      rintro e W5 ⟨x, k5, rfl, y0, y1, hk5, hs5, hg5⟩
      obtain ⟨i, rfl⟩ : ∃ i : Nat, x = (i : Int) := ⟨x.toNat, by omega⟩
      have hi : i < l.length := by omega
      have hi' : (i : Int) < (l.length : Int) := by omega
      obtain ⟨a, ha⟩ : ∃ a, A' = some ⟨a, 0, none⟩ := own_addr WX.out.row (by omega)
      have T5 : Hid (TS w W5 b A n c a c' l ps i k5) := Lib.hid ⟨hs5, BX.out.grown hg5, (ha ▸ WX.out).grown hg5 (fun x e => by injection e with e; omega), grown_trans GX.out hg5, hlt, hi⟩
      clear hs5 hg5 y0 y1 WX BX SR GX
      subst ha
      have hk5' : k5 ≤ k + 702 := by omega
      have hsh : Hid (WShort 3 l) := SX
      clear SX hk5 hkt
      go_wp2_with fail
      refine (pick_any b A n c k5 24 W5 T5.out.src T5.out.byt (by omega) hn (by omega)).mono ?_
      rintro e W6 ⟨x, k6, rfl, y0, y1, hk6, hs6, hg6⟩
      have T6 := Lib.hid (T5.out.call hg6 hs6)
      clear T5 hs6 hg6 y1
      have hq6 : b < W6.heap.size := Nat.lt_of_lt_of_le T6.out.lt T6.out.gr.size
      obtain ⟨r0, r1, r2, r3, r4⟩ := T6.out.raw
      by_cases t0 : x = 0
      · subst t0
        go_wp2_with fail
        refine cg (R := fun V => TS w V b A n c a c' l ps i k6 ∧ Rds V 1 (some ⟨W6.heap.size, 0, none⟩) 3 (strs nmT)) ⟨T6.out.alloc _, rds_newA 1 3 rfl rfl⟩ (fun V z => ?_)
        refine (text_any b A n c k6 (some ⟨W6.heap.size, 0, none⟩) 3 nmT V z.1.src z.1.byt (by omega) hn z.2 (by decide) (by decide) (adr_ne hq6)).mono ?_
        rintro e W7 ⟨v5, k7, rfl, ⟨d5, hd5, rfl⟩, hk7, hs7, hg7⟩
        have hd5s := nmT_size d5 hd5
        have T7 := Lib.hid (z.1.call hg7 hs7)
        obtain ⟨r0, r1, r2, r3, r4⟩ := T7.out.raw
        clear z hs7 hg7 T6 hd5
        go_wp2_with fail
        go_ret
        exact ⟨_, _, c', ps, k7, by rw [List.length_set]; rfl, (T7.out.name d5).got, hsh.out.up (by omega) |>.set hd5s (Nat.le_trans (hsh.out i hi).2 (by omega)), by rw [List.length_set]; omega, by omega, (T7.out.name d5).src, (T7.out.name d5).gr⟩
      by_cases t1 : x = 1
      · subst t1
        have hwl : (wat l i).brs.length ≤ 3 := (hsh.out i hi).2
        have hbs : w.heap.size ≤ W6.heap.size := T6.out.gr.size
        have hC0 := Lib.hid (And.intro r0 r1)
        go_wp2_with fail
        refine wp_region_T (fun V => a < V.heap.size ∧ V.cell? ⟨a, i * 2 + 1, none⟩ = some (.slice (pat ps i).1 (wat l i).brs.length (pat ps i).2)) 13 (by kernel_rfl) ?_
        refine wpAnyT_pure (i := 0) (v := ?_) rfl (by kernel_rfl) (by kernel_rfl) (by kernel_rfl) (by decide) (fun _ _ _ h => h) (Or.inl ⟨by rfl, ?_⟩) (fun _ => hC0.out) ?_
        rotate_left
        · intro w _; go_simp; try (with_reducible rfl)
        try simp only [Act.put, List.setIfInBounds_toArray, List.set_cons_zero, List.set_cons_succ]
        refine wpAnyT_pure (i := 1) (v := ?_) rfl (by kernel_rfl) (by kernel_rfl) (by kernel_rfl) (by decide) (fun _ _ _ h => h) (Or.inl ⟨by rfl, ?_⟩) (fun _ => hC0.out) ?_
        rotate_left
        · intro w _; go_simp; try (with_reducible rfl)
        try simp only [Act.put, List.setIfInBounds_toArray, List.set_cons_zero, List.set_cons_succ]
        refine wpAnyT_pure (i := 2) (v := ?_) rfl (by kernel_rfl) (by kernel_rfl) (by kernel_rfl) (by decide) (fun _ _ _ h => h) (Or.inl ⟨by rfl, ?_⟩) (fun _ => hC0.out) ?_
        rotate_left
        · intro w _; go_simp; try (with_reducible rfl)
        try simp only [Act.put, List.setIfInBounds_toArray, List.set_cons_zero, List.set_cons_succ]
        refine wpAnyT_pure (i := 3) (v := ?_) rfl (by kernel_rfl) (by kernel_rfl) (by kernel_rfl) (by decide) (fun _ _ _ h => h) (Or.inl ⟨by rfl, ?_⟩) (fun _ => hC0.out) ?_
        rotate_left
        · intro w _; go_simp; try (with_reducible rfl)
        try simp only [Act.put, List.setIfInBounds_toArray, List.set_cons_zero, List.set_cons_succ]
        refine wpAnyT_load (i := 4) (v := ?_) rfl (by kernel_rfl) (by kernel_rfl) (by kernel_rfl) (by decide) (by kernel_rfl) (by kernel_rfl) (fun _ _ _ h => h) (Or.inl ⟨by rfl, ?_⟩) hC0.out ?_
        rotate_left
        · intro w hSw; (try dsimp only at hSw); go_simp; try (with_reducible rfl)
        try simp only [Act.put, List.setIfInBounds_toArray, List.set_cons_zero, List.set_cons_succ]
        refine wpAnyT_pure (i := 5) (v := ?_) rfl (by kernel_rfl) (by kernel_rfl) (by kernel_rfl) (by decide) (fun _ _ _ h => h) (Or.inl ⟨by rfl, ?_⟩) (fun _ => hC0.out) ?_
        rotate_left
        · intro w _; go_simp; try (with_reducible rfl)
        try simp only [Act.put, List.setIfInBounds_toArray, List.set_cons_zero, List.set_cons_succ]
        refine wpAnyT_pure (i := 8) (v := ?_) rfl (by kernel_rfl) (by kernel_rfl) (by kernel_rfl) (by decide) (fun _ _ _ h => h) (Or.inl ⟨by rfl, ?_⟩) (fun _ => hC0.out) ?_
        rotate_left
        · intro w _; go_simp; try (with_reducible rfl)
        try simp only [Act.put, List.setIfInBounds_toArray, List.set_cons_zero, List.set_cons_succ]
        refine wpAnyT_ready (rs := [6, 9]) (by kernel_rfl) (by simp) (AllReadyT.cons rfl (fun K hK => ?_) (AllReadyT.cons rfl (fun K hK => ?_) AllReadyT.nil))
        · go_simp
          refine hK.out _ _ (fun _ => ⟨(T6.out.bel (by repeat (first | exact Below.refl _ _ | refine bl_tr ?_ _ | refine bl_al ?_ _ | refine bl_dr ?_ | refine bl_up ?_ _ | refine Below.drew ?_ | refine bl_alloc ?_ _ | refine Below.setCell ?_ (by first | (simp; done) | (simp; omega)) _))).raw.1, (T6.out.bel (by repeat (first | exact Below.refl _ _ | refine bl_tr ?_ _ | refine bl_al ?_ _ | refine bl_dr ?_ | refine bl_up ?_ _ | refine Below.drew ?_ | refine bl_alloc ?_ _ | refine Below.setCell ?_ (by first | (simp; done) | (simp; omega)) _))).raw.2.1⟩) ?_
          clear hK K
          try simp only [Act.put, List.setIfInBounds_toArray, List.set_cons_zero, List.set_cons_succ]
          refine wpAnyT_ready (rs := [7, 9]) (by kernel_rfl) (by simp) (AllReadyT.cons rfl (fun K hK => ?_) (AllReadyT.cons rfl (fun K hK => ?_) AllReadyT.nil))
          · go_simp
            go_at_call 62
            refine (among_any b A n c k6 _ 3 [1, 1000, 1001] _ (T6.out.bel (by repeat (first | exact Below.refl _ _ | refine bl_tr ?_ _ | refine bl_al ?_ _ | refine bl_dr ?_ | refine bl_up ?_ _ | refine Below.drew ?_ | refine bl_alloc ?_ _ | refine Below.setCell ?_ (by first | (simp; done) | (simp; omega)) _))).src (T6.out.bel (by repeat (first | exact Below.refl _ _ | refine bl_tr ?_ _ | refine bl_al ?_ _ | refine bl_dr ?_ | refine bl_up ?_ _ | refine Below.drew ?_ | refine bl_alloc ?_ _ | refine Below.setCell ?_ (by first | (simp; done) | (simp; omega)) _))).byt (by omega) hn (by first | exact rds_newA 1 3 rfl rfl | exact (rds_newA 1 3 rfl rfl).alloc _ | exact rds_newA 1 3 (by simp) rfl) (by decide) (by decide) (adr_ne (by first | exact hq6 | omega))).mono ?_
            rintro e W7 ⟨v7, k7, rfl, ⟨d7, hd7, rfl⟩, hk7, hs7, hg7⟩
            have T7 := Lib.hid ((T6.out.bel (by repeat (first | exact Below.refl _ _ | refine bl_tr ?_ _ | refine bl_al ?_ _ | refine bl_dr ?_ | refine bl_up ?_ _ | refine Below.drew ?_ | refine bl_alloc ?_ _ | refine Below.setCell ?_ (by first | (simp; done) | (simp; omega)) _))).call hg7 hs7)
            have hq7 : b < W7.heap.size := Nat.lt_of_lt_of_le T7.out.lt T7.out.gr.size
            have hC7 := Lib.hid (And.intro T7.out.raw.1 T7.out.raw.2.1)
            have HG7 := Lib.hid hg7
            clear hs7 hg7 hd7
            try go_wp2_with fail
            refine hK.out _ _ (fun _ => hC7.out) ?_
            clear hK K
            try simp only [Act.put, List.setIfInBounds_toArray, List.set_cons_zero, List.set_cons_succ]
            refine wpAnyT_one (i := 9) (by kernel_rfl) rfl (fun K hK => ?_)
            go_simp
            refine hK.out _ _ (fun _ => ⟨(T7.out.bel (by repeat (first | exact Below.refl _ _ | refine bl_tr ?_ _ | refine bl_al ?_ _ | refine bl_dr ?_ | refine bl_up ?_ _ | refine Below.drew ?_ | refine bl_alloc ?_ _ | refine Below.setCell ?_ (by first | (simp; done) | (simp; omega)) _))).raw.1, (T7.out.bel (by repeat (first | exact Below.refl _ _ | refine bl_tr ?_ _ | refine bl_al ?_ _ | refine bl_dr ?_ | refine bl_up ?_ _ | refine Below.drew ?_ | refine bl_alloc ?_ _ | refine Below.setCell ?_ (by first | (simp; done) | (simp; omega)) _))).raw.2.1⟩) ?_
            clear hK K
            try simp only [Act.put, List.setIfInBounds_toArray, List.set_cons_zero, List.set_cons_succ]
            refine wpAnyT_one (i := 10) (by kernel_rfl) rfl (fun K hK => ?_)
            go_simp
            go_at_call 62
            refine (among_any b A n c k7 _ 3 [0, 1, 500] _ (T7.out.bel (by repeat (first | exact Below.refl _ _ | refine bl_tr ?_ _ | refine bl_al ?_ _ | refine bl_dr ?_ | refine bl_up ?_ _ | refine Below.drew ?_ | refine bl_alloc ?_ _ | refine Below.setCell ?_ (by first | (simp; done) | (simp; omega)) _))).src (T7.out.bel (by repeat (first | exact Below.refl _ _ | refine bl_tr ?_ _ | refine bl_al ?_ _ | refine bl_dr ?_ | refine bl_up ?_ _ | refine Below.drew ?_ | refine bl_alloc ?_ _ | refine Below.setCell ?_ (by first | (simp; done) | (simp; omega)) _))).byt (by omega) hn (by first | exact rds_newA 1 3 rfl rfl | exact (Rds.drew (rds_newA 1 3 (by simp) rfl)).grown HG7.out (fun _ b' off e e2 => by injection e with e; injection e with e _; injection e2 with e2; omega) | exact (Rds.drew ((rds_newA 1 3 rfl rfl).alloc _)).grown HG7.out (fun _ b' off e e2 => by injection e with e; injection e with e _; injection e2 with e2; omega)) (by decide) (by decide) (adr_ne (by first | exact hq7 | exact hq6 | omega))).mono ?_
            rintro e W8 ⟨v8, k8, rfl, ⟨d8, hd8, rfl⟩, hk8, hs8, hg8⟩
            have T8 := Lib.hid ((T7.out.bel (by repeat (first | exact Below.refl _ _ | refine bl_tr ?_ _ | refine bl_al ?_ _ | refine bl_dr ?_ | refine bl_up ?_ _ | refine Below.drew ?_ | refine bl_alloc ?_ _ | refine Below.setCell ?_ (by first | (simp; done) | (simp; omega)) _))).call hg8 hs8)
            have hC8 := Lib.hid (And.intro T8.out.raw.1 T8.out.raw.2.1)
            clear hs8 hg8 hd8 HG7 hC7
            try go_wp2_with fail
            refine hK.out _ _ (fun _ => hC8.out) ?_
            clear hK K
            try simp only [Act.put, List.setIfInBounds_toArray, List.set_cons_zero, List.set_cons_succ]
            refine wpAnyT_pure (i := 11) (v := ?_) rfl (by kernel_rfl) (by kernel_rfl) (by kernel_rfl) (by decide) (fun _ _ _ h => h) (Or.inl ⟨by rfl, ?_⟩) (fun _ => hC8.out) ?_
            rotate_left
            · intro w _; go_simp; try (with_reducible rfl)
            try simp only [Act.put, List.setIfInBounds_toArray, List.set_cons_zero, List.set_cons_succ]
            refine wpAnyT_one (i := 12) (by kernel_rfl) rfl (fun K hK => ?_)
            go_simp
            refine hK.out _ _ (fun _ => ⟨(T8.out.bel (by repeat (first | exact Below.refl _ _ | refine bl_tr ?_ _ | refine bl_al ?_ _ | refine bl_dr ?_ | refine bl_up ?_ _ | refine Below.drew ?_ | refine bl_alloc ?_ _ | refine Below.setCell ?_ (by first | (simp; done) | (simp; omega)) _))).raw.1, (T8.out.bel (by repeat (first | exact Below.refl _ _ | refine bl_tr ?_ _ | refine bl_al ?_ _ | refine bl_dr ?_ | refine bl_up ?_ _ | refine Below.drew ?_ | refine bl_alloc ?_ _ | refine Below.setCell ?_ (by first | (simp; done) | (simp; omega)) _))).raw.2.1⟩) ?_
            clear hK K
            try simp only [Act.put, List.setIfInBounds_toArray, List.set_cons_zero, List.set_cons_succ]
            refine wpAnyT_one (i := 13) (by kernel_rfl) rfl (fun K hK => ?_)
            refine step_appAt rfl _ _ 27 (by rfl) w.heap.size 69 _ 2 16 el_brk (.slice (pat ps i).1 (wat l i).brs.length (pat ps i).2) (wat l i).brs.length (bkcs (wat l i).brs) (by rfl) (own_below T8.out.inn (by repeat (first | exact Below.refl _ _ | refine bl_tr ?_ _ | refine bl_al ?_ _ | refine bl_dr ?_ | refine bl_up ?_ _ | refine Below.drew ?_ | refine bl_alloc ?_ _ | refine Below.setCell ?_ (by first | (simp; done) | (simp; omega)) _))) _ 1 1 [i64 d7, i64 d8] (by rfl) (rds_new _ #[i64 d7, i64 d8] _ 2 1 rfl) (fun u hu => by simp at hu; rcases hu with rfl | rfl <;> rfl) (by omega) (by unfold maxLen; omega) (by omega) (Nat.le_trans T8.out.gr.size (Below.size (B := W8.heap.size) (w := W8) (by repeat (first | exact Below.refl _ _ | refine bl_tr ?_ _ | refine bl_al ?_ _ | refine bl_dr ?_ | refine bl_up ?_ _ | refine Below.drew ?_ | refine bl_alloc ?_ _ | refine Below.setCell ?_ (by first | (simp; done) | (simp; omega)) _)))) ?_
            intro gb cap w4 o4 hg4 hat4
            obtain ⟨e0, e1, e2⟩ := (T8.out.bel (by repeat (first | exact Below.refl _ _ | refine bl_tr ?_ _ | refine bl_al ?_ _ | refine bl_dr ?_ | refine bl_up ?_ _ | refine Below.drew ?_ | refine bl_alloc ?_ _ | refine Below.setCell ?_ (by first | (simp; done) | (simp; omega)) _))).keepA hg4
            have T9 := Lib.hid (TS.app (x := ⟨d7, d8⟩) (T8.out.bel (by repeat (first | exact Below.refl _ _ | refine bl_tr ?_ _ | refine bl_al ?_ _ | refine bl_dr ?_ | refine bl_up ?_ _ | refine Below.drew ?_ | refine bl_alloc ?_ _ | refine Below.setCell ?_ (by first | (simp; done) | (simp; omega)) _))) hg4 o4 hat4)
            clear o4 hg4 hat4
            refine hK.out _ _ (fun h9 => absurd (show true = false from h9) (by decide)) ?_
            clear hK K
            try simp only [Act.put, List.setIfInBounds_toArray, List.set_cons_zero, List.set_cons_succ]
            refine wpAnyT_pure (i := 14) (v := ?_) rfl (by kernel_rfl) (by kernel_rfl) (by kernel_rfl) (by decide) (fun _ _ _ h => h) (Or.inl ⟨by rfl, ?_⟩) (fun h9 => absurd (show true = false from h9) (by decide)) ?_
            rotate_left
            · intro w _; go_simp; try (with_reducible rfl)
            try simp only [Act.put, List.setIfInBounds_toArray, List.set_cons_zero, List.set_cons_succ]
            refine wpAnyT_pure (i := 15) (v := ?_) rfl (by kernel_rfl) (by kernel_rfl) (by kernel_rfl) (by decide) (fun _ _ _ h => h) (Or.inl ⟨by rfl, ?_⟩) (fun h9 => absurd (show true = false from h9) (by decide)) ?_
            rotate_left
            · intro w _; go_simp; try (with_reducible rfl)
            try simp only [Act.put, List.setIfInBounds_toArray, List.set_cons_zero, List.set_cons_succ]
            refine wpAnyT_one (i := 16) (by kernel_rfl) rfl (fun K hK => ?_)
            go_simp
            refine hK.out _ _ (fun h9 => absurd (show true = false from h9) (by decide)) ?_
            clear hK K
            try simp only [Act.put, List.setIfInBounds_toArray, List.set_cons_zero, List.set_cons_succ]
            refine wpAnyT_done (by kernel_rfl) ?_ _
            refine exit_gen (R := fun V => TS w V b A n c a c' (l.set i ⟨(wat l i).name, (wat l i).brs ++ [⟨d7, d8⟩]⟩) (ps.set i (some ⟨gb, 0, none⟩, cap)) i k8) T9.out (fun V z => ?_)
            have T10 := Lib.hid z
            clear z T9 e0 e1 e2 r0 r1 r2 r3 r4 T7 T8 hC8 hC0
            go_wp2_with fail
            go_ret
            exact ⟨_, _, c', _, k8, by rw [List.length_set]; rfl, T10.out.got, hsh.out.up (by omega) |>.set (hsh.out i hi).1 (by rw [List.length_append, List.length_singleton]; omega), by rw [List.length_set]; omega, by omega, T10.out.src, T10.out.gr⟩
          · go_simp
            refine hK.out _ _ (fun _ => ⟨(T6.out.bel (by repeat (first | exact Below.refl _ _ | refine bl_tr ?_ _ | refine bl_al ?_ _ | refine bl_dr ?_ | refine bl_up ?_ _ | refine Below.drew ?_ | refine bl_alloc ?_ _ | refine Below.setCell ?_ (by first | (simp; done) | (simp; omega)) _))).raw.1, (T6.out.bel (by repeat (first | exact Below.refl _ _ | refine bl_tr ?_ _ | refine bl_al ?_ _ | refine bl_dr ?_ | refine bl_up ?_ _ | refine Below.drew ?_ | refine bl_alloc ?_ _ | refine Below.setCell ?_ (by first | (simp; done) | (simp; omega)) _))).raw.2.1⟩) ?_
            clear hK K
            try simp only [Act.put, List.setIfInBounds_toArray, List.set_cons_zero, List.set_cons_succ]
            refine wpAnyT_one (i := 7) (by kernel_rfl) rfl (fun K hK => ?_)
            go_simp
            go_at_call 62
            refine (among_any b A n c k6 _ 3 [1, 1000, 1001] _ (T6.out.bel (by repeat (first | exact Below.refl _ _ | refine bl_tr ?_ _ | refine bl_al ?_ _ | refine bl_dr ?_ | refine bl_up ?_ _ | refine Below.drew ?_ | refine bl_alloc ?_ _ | refine Below.setCell ?_ (by first | (simp; done) | (simp; omega)) _))).src (T6.out.bel (by repeat (first | exact Below.refl _ _ | refine bl_tr ?_ _ | refine bl_al ?_ _ | refine bl_dr ?_ | refine bl_up ?_ _ | refine Below.drew ?_ | refine bl_alloc ?_ _ | refine Below.setCell ?_ (by first | (simp; done) | (simp; omega)) _))).byt (by omega) hn (by first | exact rds_newA 1 3 rfl rfl | exact (rds_newA 1 3 rfl rfl).alloc _ | exact rds_newA 1 3 (by simp) rfl) (by decide) (by decide) (adr_ne (by first | exact hq6 | omega))).mono ?_
            rintro e W7 ⟨v7, k7, rfl, ⟨d7, hd7, rfl⟩, hk7, hs7, hg7⟩
            have T7 := Lib.hid ((T6.out.bel (by repeat (first | exact Below.refl _ _ | refine bl_tr ?_ _ | refine bl_al ?_ _ | refine bl_dr ?_ | refine bl_up ?_ _ | refine Below.drew ?_ | refine bl_alloc ?_ _ | refine Below.setCell ?_ (by first | (simp; done) | (simp; omega)) _))).call hg7 hs7)
            have hq7 : b < W7.heap.size := Nat.lt_of_lt_of_le T7.out.lt T7.out.gr.size
            have hC7 := Lib.hid (And.intro T7.out.raw.1 T7.out.raw.2.1)
            have HG7 := Lib.hid hg7
            clear hs7 hg7 hd7
            try go_wp2_with fail
            refine hK.out _ _ (fun _ => hC7.out) ?_
            clear hK K
            try simp only [Act.put, List.setIfInBounds_toArray, List.set_cons_zero, List.set_cons_succ]
            refine wpAnyT_one (i := 10) (by kernel_rfl) rfl (fun K hK => ?_)
            go_simp
            go_at_call 62
            refine (among_any b A n c k7 _ 3 [0, 1, 500] _ (T7.out.bel (by repeat (first | exact Below.refl _ _ | refine bl_tr ?_ _ | refine bl_al ?_ _ | refine bl_dr ?_ | refine bl_up ?_ _ | refine Below.drew ?_ | refine bl_alloc ?_ _ | refine Below.setCell ?_ (by first | (simp; done) | (simp; omega)) _))).src (T7.out.bel (by repeat (first | exact Below.refl _ _ | refine bl_tr ?_ _ | refine bl_al ?_ _ | refine bl_dr ?_ | refine bl_up ?_ _ | refine Below.drew ?_ | refine bl_alloc ?_ _ | refine Below.setCell ?_ (by first | (simp; done) | (simp; omega)) _))).byt (by omega) hn (by first | exact rds_newA 1 3 rfl rfl | exact (Rds.drew (rds_newA 1 3 (by simp) rfl)).grown HG7.out (fun _ b' off e e2 => by injection e with e; injection e with e _; injection e2 with e2; omega) | exact (Rds.drew ((rds_newA 1 3 rfl rfl).alloc _)).grown HG7.out (fun _ b' off e e2 => by injection e with e; injection e with e _; injection e2 with e2; omega)) (by decide) (by decide) (adr_ne (by first | exact hq7 | exact hq6 | omega))).mono ?_
            rintro e W8 ⟨v8, k8, rfl, ⟨d8, hd8, rfl⟩, hk8, hs8, hg8⟩
            have T8 := Lib.hid ((T7.out.bel (by repeat (first | exact Below.refl _ _ | refine bl_tr ?_ _ | refine bl_al ?_ _ | refine bl_dr ?_ | refine bl_up ?_ _ | refine Below.drew ?_ | refine bl_alloc ?_ _ | refine Below.setCell ?_ (by first | (simp; done) | (simp; omega)) _))).call hg8 hs8)
            have hC8 := Lib.hid (And.intro T8.out.raw.1 T8.out.raw.2.1)
            clear hs8 hg8 hd8 HG7 hC7
            try go_wp2_with fail
            refine hK.out _ _ (fun _ => hC8.out) ?_
            clear hK K
            try simp only [Act.put, List.setIfInBounds_toArray, List.set_cons_zero, List.set_cons_succ]
            refine wpAnyT_pure (i := 11) (v := ?_) rfl (by kernel_rfl) (by kernel_rfl) (by kernel_rfl) (by decide) (fun _ _ _ h => h) (Or.inl ⟨by rfl, ?_⟩) (fun _ => hC8.out) ?_
            rotate_left
            · intro w _; go_simp; try (with_reducible rfl)
            try simp only [Act.put, List.setIfInBounds_toArray, List.set_cons_zero, List.set_cons_succ]
            refine wpAnyT_one (i := 12) (by kernel_rfl) rfl (fun K hK => ?_)
            go_simp
            refine hK.out _ _ (fun _ => ⟨(T8.out.bel (by repeat (first | exact Below.refl _ _ | refine bl_tr ?_ _ | refine bl_al ?_ _ | refine bl_dr ?_ | refine bl_up ?_ _ | refine Below.drew ?_ | refine bl_alloc ?_ _ | refine Below.setCell ?_ (by first | (simp; done) | (simp; omega)) _))).raw.1, (T8.out.bel (by repeat (first | exact Below.refl _ _ | refine bl_tr ?_ _ | refine bl_al ?_ _ | refine bl_dr ?_ | refine bl_up ?_ _ | refine Below.drew ?_ | refine bl_alloc ?_ _ | refine Below.setCell ?_ (by first | (simp; done) | (simp; omega)) _))).raw.2.1⟩) ?_
            clear hK K
            try simp only [Act.put, List.setIfInBounds_toArray, List.set_cons_zero, List.set_cons_succ]
            refine wpAnyT_one (i := 13) (by kernel_rfl) rfl (fun K hK => ?_)
            refine step_appAt rfl _ _ 27 (by rfl) w.heap.size 69 _ 2 16 el_brk (.slice (pat ps i).1 (wat l i).brs.length (pat ps i).2) (wat l i).brs.length (bkcs (wat l i).brs) (by rfl) (own_below T8.out.inn (by repeat (first | exact Below.refl _ _ | refine bl_tr ?_ _ | refine bl_al ?_ _ | refine bl_dr ?_ | refine bl_up ?_ _ | refine Below.drew ?_ | refine bl_alloc ?_ _ | refine Below.setCell ?_ (by first | (simp; done) | (simp; omega)) _))) _ 1 1 [i64 d7, i64 d8] (by rfl) (rds_new _ #[i64 d7, i64 d8] _ 2 1 rfl) (fun u hu => by simp at hu; rcases hu with rfl | rfl <;> rfl) (by omega) (by unfold maxLen; omega) (by omega) (Nat.le_trans T8.out.gr.size (Below.size (B := W8.heap.size) (w := W8) (by repeat (first | exact Below.refl _ _ | refine bl_tr ?_ _ | refine bl_al ?_ _ | refine bl_dr ?_ | refine bl_up ?_ _ | refine Below.drew ?_ | refine bl_alloc ?_ _ | refine Below.setCell ?_ (by first | (simp; done) | (simp; omega)) _)))) ?_
            intro gb cap w4 o4 hg4 hat4
            obtain ⟨e0, e1, e2⟩ := (T8.out.bel (by repeat (first | exact Below.refl _ _ | refine bl_tr ?_ _ | refine bl_al ?_ _ | refine bl_dr ?_ | refine bl_up ?_ _ | refine Below.drew ?_ | refine bl_alloc ?_ _ | refine Below.setCell ?_ (by first | (simp; done) | (simp; omega)) _))).keepA hg4
            have T9 := Lib.hid (TS.app (x := ⟨d7, d8⟩) (T8.out.bel (by repeat (first | exact Below.refl _ _ | refine bl_tr ?_ _ | refine bl_al ?_ _ | refine bl_dr ?_ | refine bl_up ?_ _ | refine Below.drew ?_ | refine bl_alloc ?_ _ | refine Below.setCell ?_ (by first | (simp; done) | (simp; omega)) _))) hg4 o4 hat4)
            clear o4 hg4 hat4
            refine hK.out _ _ (fun h9 => absurd (show true = false from h9) (by decide)) ?_
            clear hK K
            try simp only [Act.put, List.setIfInBounds_toArray, List.set_cons_zero, List.set_cons_succ]
            refine wpAnyT_pure (i := 14) (v := ?_) rfl (by kernel_rfl) (by kernel_rfl) (by kernel_rfl) (by decide) (fun _ _ _ h => h) (Or.inl ⟨by rfl, ?_⟩) (fun h9 => absurd (show true = false from h9) (by decide)) ?_
            rotate_left
            · intro w _; go_simp; try (with_reducible rfl)
            try simp only [Act.put, List.setIfInBounds_toArray, List.set_cons_zero, List.set_cons_succ]
            refine wpAnyT_pure (i := 15) (v := ?_) rfl (by kernel_rfl) (by kernel_rfl) (by kernel_rfl) (by decide) (fun _ _ _ h => h) (Or.inl ⟨by rfl, ?_⟩) (fun h9 => absurd (show true = false from h9) (by decide)) ?_
            rotate_left
            · intro w _; go_simp; try (with_reducible rfl)
            try simp only [Act.put, List.setIfInBounds_toArray, List.set_cons_zero, List.set_cons_succ]
            refine wpAnyT_one (i := 16) (by kernel_rfl) rfl (fun K hK => ?_)
            go_simp
            refine hK.out _ _ (fun h9 => absurd (show true = false from h9) (by decide)) ?_
            clear hK K
            try simp only [Act.put, List.setIfInBounds_toArray, List.set_cons_zero, List.set_cons_succ]
            refine wpAnyT_done (by kernel_rfl) ?_ _
            refine exit_gen (R := fun V => TS w V b A n c a c' (l.set i ⟨(wat l i).name, (wat l i).brs ++ [⟨d7, d8⟩]⟩) (ps.set i (some ⟨gb, 0, none⟩, cap)) i k8) T9.out (fun V z => ?_)
            have T10 := Lib.hid z
            clear z T9 e0 e1 e2 r0 r1 r2 r3 r4 T7 T8 hC8 hC0
            go_wp2_with fail
            go_ret
            exact ⟨_, _, c', _, k8, by rw [List.length_set]; rfl, T10.out.got, hsh.out.up (by omega) |>.set (hsh.out i hi).1 (by rw [List.length_append, List.length_singleton]; omega), by rw [List.length_set]; omega, by omega, T10.out.src, T10.out.gr⟩
        · go_simp
          refine hK.out _ _ (fun _ => ⟨(T6.out.bel (by repeat (first | exact Below.refl _ _ | refine bl_tr ?_ _ | refine bl_al ?_ _ | refine bl_dr ?_ | refine bl_up ?_ _ | refine Below.drew ?_ | refine bl_alloc ?_ _ | refine Below.setCell ?_ (by first | (simp; done) | (simp; omega)) _))).raw.1, (T6.out.bel (by repeat (first | exact Below.refl _ _ | refine bl_tr ?_ _ | refine bl_al ?_ _ | refine bl_dr ?_ | refine bl_up ?_ _ | refine Below.drew ?_ | refine bl_alloc ?_ _ | refine Below.setCell ?_ (by first | (simp; done) | (simp; omega)) _))).raw.2.1⟩) ?_
          clear hK K
          try simp only [Act.put, List.setIfInBounds_toArray, List.set_cons_zero, List.set_cons_succ]
          refine wpAnyT_one (i := 6) (by kernel_rfl) rfl (fun K hK => ?_)
          go_simp
          refine hK.out _ _ (fun _ => ⟨(T6.out.bel (by repeat (first | exact Below.refl _ _ | refine bl_tr ?_ _ | refine bl_al ?_ _ | refine bl_dr ?_ | refine bl_up ?_ _ | refine Below.drew ?_ | refine bl_alloc ?_ _ | refine Below.setCell ?_ (by first | (simp; done) | (simp; omega)) _))).raw.1, (T6.out.bel (by repeat (first | exact Below.refl _ _ | refine bl_tr ?_ _ | refine bl_al ?_ _ | refine bl_dr ?_ | refine bl_up ?_ _ | refine Below.drew ?_ | refine bl_alloc ?_ _ | refine Below.setCell ?_ (by first | (simp; done) | (simp; omega)) _))).raw.2.1⟩) ?_
          clear hK K
          try simp only [Act.put, List.setIfInBounds_toArray, List.set_cons_zero, List.set_cons_succ]
          refine wpAnyT_one (i := 7) (by kernel_rfl) rfl (fun K hK => ?_)
          go_simp
          go_at_call 62
          refine (among_any b A n c k6 _ 3 [1, 1000, 1001] _ (T6.out.bel (by repeat (first | exact Below.refl _ _ | refine bl_tr ?_ _ | refine bl_al ?_ _ | refine bl_dr ?_ | refine bl_up ?_ _ | refine Below.drew ?_ | refine bl_alloc ?_ _ | refine Below.setCell ?_ (by first | (simp; done) | (simp; omega)) _))).src (T6.out.bel (by repeat (first | exact Below.refl _ _ | refine bl_tr ?_ _ | refine bl_al ?_ _ | refine bl_dr ?_ | refine bl_up ?_ _ | refine Below.drew ?_ | refine bl_alloc ?_ _ | refine Below.setCell ?_ (by first | (simp; done) | (simp; omega)) _))).byt (by omega) hn (by first | exact rds_newA 1 3 rfl rfl | exact (rds_newA 1 3 rfl rfl).alloc _ | exact rds_newA 1 3 (by simp) rfl) (by decide) (by decide) (adr_ne (by first | exact hq6 | omega))).mono ?_
          rintro e W7 ⟨v7, k7, rfl, ⟨d7, hd7, rfl⟩, hk7, hs7, hg7⟩
          have T7 := Lib.hid ((T6.out.bel (by repeat (first | exact Below.refl _ _ | refine bl_tr ?_ _ | refine bl_al ?_ _ | refine bl_dr ?_ | refine bl_up ?_ _ | refine Below.drew ?_ | refine bl_alloc ?_ _ | refine Below.setCell ?_ (by first | (simp; done) | (simp; omega)) _))).call hg7 hs7)
          have hq7 : b < W7.heap.size := Nat.lt_of_lt_of_le T7.out.lt T7.out.gr.size
          have hC7 := Lib.hid (And.intro T7.out.raw.1 T7.out.raw.2.1)
          have HG7 := Lib.hid hg7
          clear hs7 hg7 hd7
          try go_wp2_with fail
          refine hK.out _ _ (fun _ => hC7.out) ?_
          clear hK K
          try simp only [Act.put, List.setIfInBounds_toArray, List.set_cons_zero, List.set_cons_succ]
          refine wpAnyT_one (i := 10) (by kernel_rfl) rfl (fun K hK => ?_)
          go_simp
          go_at_call 62
          refine (among_any b A n c k7 _ 3 [0, 1, 500] _ (T7.out.bel (by repeat (first | exact Below.refl _ _ | refine bl_tr ?_ _ | refine bl_al ?_ _ | refine bl_dr ?_ | refine bl_up ?_ _ | refine Below.drew ?_ | refine bl_alloc ?_ _ | refine Below.setCell ?_ (by first | (simp; done) | (simp; omega)) _))).src (T7.out.bel (by repeat (first | exact Below.refl _ _ | refine bl_tr ?_ _ | refine bl_al ?_ _ | refine bl_dr ?_ | refine bl_up ?_ _ | refine Below.drew ?_ | refine bl_alloc ?_ _ | refine Below.setCell ?_ (by first | (simp; done) | (simp; omega)) _))).byt (by omega) hn (by first | exact rds_newA 1 3 rfl rfl | exact (Rds.drew (rds_newA 1 3 (by simp) rfl)).grown HG7.out (fun _ b' off e e2 => by injection e with e; injection e with e _; injection e2 with e2; omega) | exact (Rds.drew ((rds_newA 1 3 rfl rfl).alloc _)).grown HG7.out (fun _ b' off e e2 => by injection e with e; injection e with e _; injection e2 with e2; omega)) (by decide) (by decide) (adr_ne (by first | exact hq7 | exact hq6 | omega))).mono ?_
          rintro e W8 ⟨v8, k8, rfl, ⟨d8, hd8, rfl⟩, hk8, hs8, hg8⟩
          have T8 := Lib.hid ((T7.out.bel (by repeat (first | exact Below.refl _ _ | refine bl_tr ?_ _ | refine bl_al ?_ _ | refine bl_dr ?_ | refine bl_up ?_ _ | refine Below.drew ?_ | refine bl_alloc ?_ _ | refine Below.setCell ?_ (by first | (simp; done) | (simp; omega)) _))).call hg8 hs8)
          have hC8 := Lib.hid (And.intro T8.out.raw.1 T8.out.raw.2.1)
          clear hs8 hg8 hd8 HG7 hC7
          try go_wp2_with fail
          refine hK.out _ _ (fun _ => hC8.out) ?_
          clear hK K
          try simp only [Act.put, List.setIfInBounds_toArray, List.set_cons_zero, List.set_cons_succ]
          refine wpAnyT_pure (i := 11) (v := ?_) rfl (by kernel_rfl) (by kernel_rfl) (by kernel_rfl) (by decide) (fun _ _ _ h => h) (Or.inl ⟨by rfl, ?_⟩) (fun _ => hC8.out) ?_
          rotate_left
          · intro w _; go_simp; try (with_reducible rfl)
          try simp only [Act.put, List.setIfInBounds_toArray, List.set_cons_zero, List.set_cons_succ]
          refine wpAnyT_one (i := 12) (by kernel_rfl) rfl (fun K hK => ?_)
          go_simp
          refine hK.out _ _ (fun _ => ⟨(T8.out.bel (by repeat (first | exact Below.refl _ _ | refine bl_tr ?_ _ | refine bl_al ?_ _ | refine bl_dr ?_ | refine bl_up ?_ _ | refine Below.drew ?_ | refine bl_alloc ?_ _ | refine Below.setCell ?_ (by first | (simp; done) | (simp; omega)) _))).raw.1, (T8.out.bel (by repeat (first | exact Below.refl _ _ | refine bl_tr ?_ _ | refine bl_al ?_ _ | refine bl_dr ?_ | refine bl_up ?_ _ | refine Below.drew ?_ | refine bl_alloc ?_ _ | refine Below.setCell ?_ (by first | (simp; done) | (simp; omega)) _))).raw.2.1⟩) ?_
          clear hK K
          try simp only [Act.put, List.setIfInBounds_toArray, List.set_cons_zero, List.set_cons_succ]
          refine wpAnyT_one (i := 13) (by kernel_rfl) rfl (fun K hK => ?_)
          refine step_appAt rfl _ _ 27 (by rfl) w.heap.size 69 _ 2 16 el_brk (.slice (pat ps i).1 (wat l i).brs.length (pat ps i).2) (wat l i).brs.length (bkcs (wat l i).brs) (by rfl) (own_below T8.out.inn (by repeat (first | exact Below.refl _ _ | refine bl_tr ?_ _ | refine bl_al ?_ _ | refine bl_dr ?_ | refine bl_up ?_ _ | refine Below.drew ?_ | refine bl_alloc ?_ _ | refine Below.setCell ?_ (by first | (simp; done) | (simp; omega)) _))) _ 1 1 [i64 d7, i64 d8] (by rfl) (rds_new _ #[i64 d7, i64 d8] _ 2 1 rfl) (fun u hu => by simp at hu; rcases hu with rfl | rfl <;> rfl) (by omega) (by unfold maxLen; omega) (by omega) (Nat.le_trans T8.out.gr.size (Below.size (B := W8.heap.size) (w := W8) (by repeat (first | exact Below.refl _ _ | refine bl_tr ?_ _ | refine bl_al ?_ _ | refine bl_dr ?_ | refine bl_up ?_ _ | refine Below.drew ?_ | refine bl_alloc ?_ _ | refine Below.setCell ?_ (by first | (simp; done) | (simp; omega)) _)))) ?_
          intro gb cap w4 o4 hg4 hat4
          obtain ⟨e0, e1, e2⟩ := (T8.out.bel (by repeat (first | exact Below.refl _ _ | refine bl_tr ?_ _ | refine bl_al ?_ _ | refine bl_dr ?_ | refine bl_up ?_ _ | refine Below.drew ?_ | refine bl_alloc ?_ _ | refine Below.setCell ?_ (by first | (simp; done) | (simp; omega)) _))).keepA hg4
          have T9 := Lib.hid (TS.app (x := ⟨d7, d8⟩) (T8.out.bel (by repeat (first | exact Below.refl _ _ | refine bl_tr ?_ _ | refine bl_al ?_ _ | refine bl_dr ?_ | refine bl_up ?_ _ | refine Below.drew ?_ | refine bl_alloc ?_ _ | refine Below.setCell ?_ (by first | (simp; done) | (simp; omega)) _))) hg4 o4 hat4)
          clear o4 hg4 hat4
          refine hK.out _ _ (fun h9 => absurd (show true = false from h9) (by decide)) ?_
          clear hK K
          try simp only [Act.put, List.setIfInBounds_toArray, List.set_cons_zero, List.set_cons_succ]
          refine wpAnyT_pure (i := 14) (v := ?_) rfl (by kernel_rfl) (by kernel_rfl) (by kernel_rfl) (by decide) (fun _ _ _ h => h) (Or.inl ⟨by rfl, ?_⟩) (fun h9 => absurd (show true = false from h9) (by decide)) ?_
          rotate_left
          · intro w _; go_simp; try (with_reducible rfl)
          try simp only [Act.put, List.setIfInBounds_toArray, List.set_cons_zero, List.set_cons_succ]
          refine wpAnyT_pure (i := 15) (v := ?_) rfl (by kernel_rfl) (by kernel_rfl) (by kernel_rfl) (by decide) (fun _ _ _ h => h) (Or.inl ⟨by rfl, ?_⟩) (fun h9 => absurd (show true = false from h9) (by decide)) ?_
          rotate_left
          · intro w _; go_simp; try (with_reducible rfl)
          try simp only [Act.put, List.setIfInBounds_toArray, List.set_cons_zero, List.set_cons_succ]
          refine wpAnyT_one (i := 16) (by kernel_rfl) rfl (fun K hK => ?_)
          go_simp
          refine hK.out _ _ (fun h9 => absurd (show true = false from h9) (by decide)) ?_
          clear hK K
          try simp only [Act.put, List.setIfInBounds_toArray, List.set_cons_zero, List.set_cons_succ]
          refine wpAnyT_done (by kernel_rfl) ?_ _
          refine exit_gen (R := fun V => TS w V b A n c a c' (l.set i ⟨(wat l i).name, (wat l i).brs ++ [⟨d7, d8⟩]⟩) (ps.set i (some ⟨gb, 0, none⟩, cap)) i k8) T9.out (fun V z => ?_)
          have T10 := Lib.hid z
          clear z T9 e0 e1 e2 r0 r1 r2 r3 r4 T7 T8 hC8 hC0
          go_wp2_with fail
          go_ret
          exact ⟨_, _, c', _, k8, by rw [List.length_set]; rfl, T10.out.got, hsh.out.up (by omega) |>.set (hsh.out i hi).1 (by rw [List.length_append, List.length_singleton]; omega), by rw [List.length_set]; omega, by omega, T10.out.src, T10.out.gr⟩
      by_cases t2 : x = 2
      · subst t2
        go_wp2_with fail
        refine cg (R := fun V => TS w V b A n c a c' l ps i k6 ∧ Rds V 1 (some ⟨W6.heap.size, 0, none⟩) 3 (ics [0, 1, 2])) ⟨T6.out.alloc _, rds_newA 1 3 rfl rfl⟩ (fun V z => ?_)
        refine (among_any b A n c k6 (some ⟨W6.heap.size, 0, none⟩) 3 [0, 1, 2] V z.1.src z.1.byt (by omega) hn z.2 (by decide) (by decide) (adr_ne hq6)).mono ?_
        rintro e W7 ⟨v5, k7, rfl, ⟨d5, hd5, rfl⟩, hk7, hs7, hg7⟩
        have T7 := Lib.hid (z.1.call hg7 hs7)
        have hq7 : b < W7.heap.size := Nat.lt_of_lt_of_le T7.out.lt T7.out.gr.size
        clear z hs7 hg7 T6 hd5 r0 r1 r2 r3 r4
        go_wp2_with fail
        refine cg (R := fun V => TS w V b A n c a c' l ps i k7 ∧ Rds V 1 (some ⟨W7.heap.size, 0, none⟩) 5 (ics [0, 1, 1000000, 1000001, -9223372036854775808])) ⟨T7.out.alloc _, rds_newA 1 5 rfl rfl⟩ (fun V z => ?_)
        refine (among_any b A n c k7 (some ⟨W7.heap.size, 0, none⟩) 5 [0, 1, 1000000, 1000001, -9223372036854775808] V z.1.src z.1.byt (by omega) hn z.2 (by decide) (by decide) (adr_ne hq7)).mono ?_
        rintro e W8 ⟨v8, k8, rfl, ⟨d8, hd8, rfl⟩, hk8, hs8, hg8⟩
        have T8 := Lib.hid (z.1.call hg8 hs8)
        clear z hs8 hg8 T7 hd8
        obtain ⟨r0, r1, r2, r3, r4⟩ := T8.out.raw
        have hsz : w.heap.size ≤ W8.heap.size := T8.out.gr.size
        have hrow := Lib.hid (World.ownsRow_lit (base := w.heap.size) (e := 69) (size := 2) W8 #[i64 d5, i64 d8] 1 hsz (by unfold maxLen; omega) rfl)
        have T9 := Lib.hid (T8.out.brs (P := some ⟨W8.heap.size, 0, none⟩) (cb := 1) (bs := [⟨d5, d8⟩]) (gr_alloc (grown_refl W8 _) _) hrow.out (fun k e => .inr (by injection e with e; exact Nat.le_of_eq e)))
        rw [World.setCell_alloc_past _ _ _ _ r0] at T9
        go_wp2_with fail
        go_ret
        exact ⟨l.set i ⟨(wat l i).name, [⟨d5, d8⟩]⟩, _, c', _, k8, by rw [List.length_set]; rfl, T9.out.got, hsh.out.up (by omega) |>.set (hsh.out i hi).1 (by show 1 ≤ 12; omega), by rw [List.length_set]; omega, by omega, T9.out.src, T9.out.gr⟩
      by_cases t3 : x = 3
      · subst t3
        have hsz : w.heap.size ≤ W6.heap.size := T6.out.gr.size
        have hrow := Lib.hid (World.ownsRow_lit (base := w.heap.size) (e := 69) (size := 2) W6 #[] 0 hsz (by unfold maxLen; omega) rfl)
        have T7 := Lib.hid (T6.out.brs (P := some ⟨W6.heap.size, 0, none⟩) (cb := 0) (bs := []) (gr_alloc (grown_refl W6 _) _) hrow.out (fun k e => .inr (by injection e with e; exact Nat.le_of_eq e)))
        rw [World.setCell_alloc_past _ _ _ _ r0] at T7
        go_wp2_with fail
        refine cg (R := fun V => TS w V b A n c a c' (l.set i ⟨(wat l i).name, []⟩) (ps.set i (some ⟨W6.heap.size, 0, none⟩, 0)) i k6 ∧ Rds V 1 (some ⟨W6.heap.size + 1, 0, none⟩) 3 (ics [0, 6, 7])) ⟨T7.out.alloc _, rds_newA 1 3 (by simp) rfl⟩ (fun V z => ?_)
        refine (among_any b A n c k6 (some ⟨W6.heap.size + 1, 0, none⟩) 3 [0, 6, 7] V z.1.src z.1.byt (by omega) hn z.2 (by decide) (by decide) (adr_ne (by omega))).mono ?_
        rintro e W7 ⟨v5, k7, rfl, ⟨d5, hd5, rfl⟩, hk7, hs7, hg7⟩
        have T8 := Lib.hid (z.1.call hg7 hs7)
        have hd6 : 0 ≤ d5 ∧ d5 ≤ 7 := by simp at hd5; omega
        obtain ⟨j0, rfl⟩ : ∃ j : Nat, d5 = (j : Int) := ⟨d5.toNat, by omega⟩
        have SH0 := Lib.hid ((hsh.out.up (show 3 ≤ 12 by omega)).set (j := i) (x := ⟨(wat l i).name, []⟩) (hsh.out i hi).1 (Nat.zero_le _))
        have hl9 := Lib.hid (show (l.set i ⟨(wat l i).name, []⟩).length = l.length from List.length_set)
        have hb0 := Lib.hid (show (wat (l.set i ⟨(wat l i).name, []⟩) i).brs.length + j0 ≤ 7 by rw [wat_set_same hi]; show 0 + j0 ≤ 7; omega)
        clear z hs7 hg7 T6 T7 hd5 hrow hsz r0 r1 r2 r3 r4 hsh
        generalize l.set i ⟨(wat l i).name, []⟩ = l0 at *
        generalize ps.set i (some ⟨W6.heap.size, 0, none⟩, 0) = p0 at *
        go_wp2_with fail
        go_loopw [7] (fun kk wr => ∃ (l1 : List Ware) (p1 : List Ptr) (j : Nat), kk = i64 j ∧ (wat l1 i).brs.length + j ≤ 7 ∧ Hid (l1.length = l.length) ∧ Hid (WShort 12 l1) ∧ Hid (TS w wr b A n c a c' l1 p1 i k7)) (fun kk _ => (intOf kk).toNat)
        case atStart => exact ⟨l0, p0, j0, rfl, hb0.out, hl9, SH0, T8⟩
        case round =>
          obtain ⟨l1, p1, j, rfl, hbj, hll, hsh1, hT⟩ := hrel
          clear T8 SH0 hl9 hb0
          obtain ⟨r0, r1, r2, r3, r4⟩ := hT.out.raw
          by_cases hj : 0 < j
          · have hj' : (0 : Int) < (j : Int) := by omega
            have hbs : w.heap.size ≤ wr.heap.size := hT.out.gr.size
            have HI := Lib.hid hT.out.inn
            have h12 : (wat l1 i).brs.length ≤ 7 := by omega
            have hj7 : j ≤ 7 := by omega
            have hw1 : IntKind.i64.wrap (((wat l1 i).brs.length : Int) + 1) = ((wat l1 i).brs.length : Int) + 1 := by rw [IntKind.wrap_i64]; omega
            have hw2 : IntKind.i64.wrap (10 * (j : Int)) = 10 * (j : Int) := by rw [IntKind.wrap_i64]; omega
            go_wp2_with fail
            go_region_law (first | (go_must (refine step_appAt rfl _ _ 27 (by rfl) w.heap.size 69 _ 2 16 el_brk (.slice (pat p1 i).1 (wat l1 i).brs.length (pat p1 i).2) (wat l1 i).brs.length (bkcs (wat l1 i).brs) (by rfl) (own_below HI.out (by repeat (first | exact Below.refl _ _ | refine bl_tr ?_ _ | refine bl_al ?_ _ | refine bl_dr ?_ | refine bl_up ?_ _ | refine Below.drew ?_ | refine bl_alloc ?_ _ | refine Below.setCell ?_ (by first | (simp; done) | (simp; omega)) _))) _ 1 1 [i64 (((wat l1 i).brs.length : Int) + 1), i64 (10 * (j : Int))] (by rfl) (by first | exact rds_new _ #[i64 (((wat l1 i).brs.length : Int) + 1), i64 (10 * (j : Int))] _ 2 1 rfl | exact rds_drew (rds_new _ #[i64 (((wat l1 i).brs.length : Int) + 1), i64 (10 * (j : Int))] _ 2 1 rfl) | exact rds_drew (rds_drew (rds_new _ #[i64 (((wat l1 i).brs.length : Int) + 1), i64 (10 * (j : Int))] _ 2 1 rfl))) (fun u hu => by simp at hu; rcases hu with rfl | rfl <;> rfl) (by omega) (by unfold maxLen; omega) (by omega) (Nat.le_trans hbs (Below.size (B := wr.heap.size) (w := wr) (by repeat (first | exact Below.refl _ _ | refine bl_tr ?_ _ | refine bl_al ?_ _ | refine bl_dr ?_ | refine bl_up ?_ _ | refine Below.drew ?_ | refine bl_alloc ?_ _ | refine Below.setCell ?_ (by first | (simp; done) | (simp; omega)) _)))) ?_); intro gb cap w4 o4 hg4 hat4; obtain ⟨d0, d1, d2⟩ := (hT.out.bel (by repeat (first | exact Below.refl _ _ | refine bl_tr ?_ _ | refine bl_al ?_ _ | refine bl_dr ?_ | refine bl_up ?_ _ | refine Below.drew ?_ | refine bl_alloc ?_ _ | refine Below.setCell ?_ (by first | (simp; done) | (simp; omega)) _))).keepA hg4; have T9 := Lib.hid (TS.app (x := ⟨((wat l1 i).brs.length : Int) + 1, 10 * (j : Int)⟩) (hT.out.bel (by repeat (first | exact Below.refl _ _ | refine bl_tr ?_ _ | refine bl_al ?_ _ | refine bl_dr ?_ | refine bl_up ?_ _ | refine Below.drew ?_ | refine bl_alloc ?_ _ | refine Below.setCell ?_ (by first | (simp; done) | (simp; omega)) _))) hg4 o4 hat4)))
            all_goals
              refine exit_gen (R := fun V => TS w V b A n c a c' (l1.set i ⟨(wat l1 i).name, (wat l1 i).brs ++ [⟨((wat l1 i).brs.length : Int) + 1, 10 * (j : Int)⟩]⟩) (p1.set i (some ⟨gb, 0, none⟩, cap)) i k7) T9.out (fun V z => ?_)
              have T10 := Lib.hid z
              clear z T9 d0 d1 d2 o4 hg4 hat4 r0 r1 r2 r3 r4
              go_wp2_with fail
              go_roundw
              case rel => exact ⟨l1.set i ⟨(wat l1 i).name, (wat l1 i).brs ++ [⟨((wat l1 i).brs.length : Int) + 1, 10 * (j : Int)⟩]⟩, _, j - 1, by go_num, by rw [wat_set_same (by have := hll.out; omega), List.length_append, List.length_singleton]; omega, Lib.hid (by rw [List.length_set]; exact hll.out), Lib.hid (hsh1.out.set (hsh1.out i (by have := hll.out; omega)).1 (by rw [List.length_append, List.length_singleton]; omega)), T10⟩
              case measure => (simp [intOf]; try omega)
          · obtain rfl : j = 0 := by omega
            go_wp2_with fail
            go_ret
            exact ⟨l1, _, c', p1, k7, by rw [hll.out]; rfl, hT.out.got, hsh1.out, by have := hll.out; omega, by omega, hT.out.src, hT.out.gr⟩
      · have u0 : (x == 0) = false := by rw [beq_eq_false_iff_ne]; exact t0
        have u1 : (x == 1) = false := by rw [beq_eq_false_iff_ne]; exact t1
        have u2 : (x == 2) = false := by rw [beq_eq_false_iff_ne]; exact t2
        have u3 : (x == 3) = false := by rw [beq_eq_false_iff_ne]; exact t3
        go_wp2_with fail
        go_ret
        exact ⟨l, _, c', ps, k6, rfl, T6.out.got, hsh.out.up (by omega), by omega, by omega, T6.out.src, T6.out.gr⟩
end Go.Proofs.YtiibpldfnnhhlaaDoor

/-
  The reference's drawing of hires, machines and days, whatever the bytes are. The bounds stand at each.
-/
import Derived.Test.YtiagckbdofeecaaDoorDrawHire
import Derived.Test.YtiagckbdofeecaaDoorBook2
import Derived.Test.YtiagckbdofeecaaDoorApp
namespace Go.Proofs.YtiagckbdofeecaaDoor
open Go.RowKit
theorem bookR_0 {l : List Hire} {n : Int} {x : Hire} (h : (bookR l n x).2 = 0) : (bookR l n x).1 = insAt l (insN l x) x := by
  unfold bookR at h ⊢
  repeat' split at h
  all_goals first | (simp_all; done) | (exfalso; simp at h; done)
theorem insN_le (l : List Hire) (x : Hire) : insN l x ≤ l.length := (List.takeWhile_prefix _).length_le
def Hire.put (h : Hire) (j : Nat) (u : Int) : Hire := if j = 0 then ⟨u, h.f, h.t⟩ else if j = 1 then ⟨h.m, u, h.t⟩ else ⟨h.m, h.f, u⟩
theorem hcs_put {l : List Hire} {K j : Nat} (hK : K < l.length) (hj3 : j < 3) (u : Int) : (hcs l).set (K * 3 + j) (i64 u) = hcs (l.set K ((hat l K).put j u)) := by
  refine flat_ext hcells_len _ (by rw [List.length_set, List.length_set]; exact flat_len hcells_len l) fun i hi k hk => ?_
  rw [List.length_set] at hi
  have hg := flat_get hcells_len l hi hk
  by_cases hi' : i = K
  · subst hi'
    rw [List.getElem_set_self]
    have hl : i * 3 + j < (hcs l).length := by rw [hcs, flat_len hcells_len]; omega
    by_cases hjk : k = j
    · subst hjk
      rw [List.getElem?_set_self hl]
      match k, hj3 with
      | 0, _ => rfl
      | 1, _ => rfl
      | 2, _ => rfl
    · rw [List.getElem?_set_ne (by omega), hcs, hg, hat_eq hK]
      have hk3 : k = 0 ∨ k = 1 ∨ k = 2 := by omega
      have hj4 : j = 0 ∨ j = 1 ∨ j = 2 := by omega
      rcases hk3 with rfl | rfl | rfl <;> rcases hj4 with rfl | rfl | rfl <;> first | rfl | exact absurd rfl hjk
  · rw [List.getElem?_set_ne (by omega), List.getElem_set_ne (by omega)]
    exact hg
def drawHPost (b : Nat) (A : Option Addr) (n c k m kk : Nat) (w : World) (e : Ending) (w' : World) : Prop :=
  ∃ (l : List Hire) (A' : Option Addr) (c' : Nat) (N : Int) (k' : Nat), e = .returned (.tuple #[.slice A' l.length c', i64 N]) ∧ w'.ownsRow w.heap.size 25 3 (.slice A' l.length c') l.length (hcs l) ∧ (l.length ≤ m ∧ ∃ q, A' = some ⟨q, 0, none⟩) ∧ (-1 ≤ N ∧ N ≤ 21) ∧ k' ≤ k + kk ∧ SrcAt w' b A n c k' ∧ w.grownBy w' (some b)
set_option maxRecDepth 10000 in
set_option maxHeartbeats 2000000 in
theorem l25Draw_any (b : Nat) (A : Option Addr) (n c k : Nat) (w : World) (h : SrcAt w b A n c k) (hb : Byt w b A n) (hk : k ≤ 500000) (hn : n ≤ 1000000) :
    Calls Tryd.prog 61 #[.pointer (some ⟨b, 0, none⟩)] w (drawHPost b A n c k 11 80 w) := by
  have hlt := h.lt
  have HS := Lib.hid h
  have HB0 := Lib.hid hb
  clear h hb
  go_enter Tryd.func61, Tryd.ntmps61
  go_wp2_with fail
  refine (pick_any b A n c k 4 w HS.out HB0.out (by omega) hn (by omega)).mono ?_
  rintro e V1 ⟨x, k1, rfl, x0, x1, hk1, hs1, hg1⟩
  have hw1 : IntKind.i64.wrap (1 + x) = 1 + x := by rw [IntKind.wrap_i64]; omega
  have S1 := Lib.hid hs1
  have B1 := Lib.hid (HB0.out.grown hg1)
  have G1 := Lib.hid hg1
  have hbs := Lib.hid hg1.size
  clear hs1 hg1 HS HB0
  have hOwn := Lib.hid (World.ownsRow_lit (base := w.heap.size) (e := 25) (size := 3) V1 #[] 0 hbs.out (by unfold maxLen; omega) rfl)
  go_wp2_with fail
  refine (pick_any b A n c k1 12 _ (S1.out.alloc _) (B1.out.alloc _) (by omega) hn (by omega)).mono ?_
  rintro e V2 ⟨y, k2, rfl, y0, y1, hk2, hs2, hg2⟩
  obtain ⟨j0, rfl⟩ : ∃ j : Nat, y = (j : Int) := ⟨y.toNat, by omega⟩
  have hj0 : j0 ≤ 11 := by omega
  have S2 := Lib.hid hs2
  have B2 := Lib.hid ((B1.out.alloc _).grown hg2)
  have O2 := Lib.hid (own_keepK hOwn.out hg2 (fun x e e2 => by injection e with e; have e2 : some V1.heap.size = some x := e2; injection e2 with e2; have := hbs.out; omega))
  have G2 := Lib.hid (grown_trans (gr_alloc G1.out _) hg2)
  clear hs2 hg2 S1 B1 G1 hOwn y0 y1
  have hN : 1 ≤ 1 + x ∧ 1 + x ≤ 4 := by omega
  generalize hq : V1.heap.size = q1 at *
  clear hq
  generalize 1 + x = N at *
  clear x0 x1
  go_wp2_with fail
  go_loopw [5, 6] (fun o kk wr => ∃ (l : List Hire) (q c' j k' : Nat), kk = i64 j ∧ o = .slice (some ⟨q, 0, none⟩) l.length c' ∧ l.length + j ≤ 11 ∧ k' + 6 * j ≤ k + 70 ∧ Hid (SrcAt wr b A n c k') ∧ Hid (Byt wr b A n) ∧ Hid (wr.ownsRow w.heap.size 25 3 (.slice (some ⟨q, 0, none⟩) l.length c') l.length (hcs l)) ∧ Hid (w.grownBy wr (some b))) (fun _ kk _ => (intOf kk).toNat)
  case atStart => exact ⟨[], _, _, j0, k2, rfl, rfl, by simp; omega, by omega, S2, B2, O2, G2⟩
  case round =>
    obtain ⟨l, q, c', j, k', rfl, rfl, hlj, hkj, HSR, HBT, HOW, HGR⟩ := hrel
    clear S2 B2 O2 G2
    by_cases hj : 0 < j
    · have hj' : (0 : Int) < (j : Int) := by omega
      go_wp2_with fail
      refine (l25New_any b A n c k' N wr HSR.out HBT.out (by omega) hn (by omega)).mono ?_
      rintro e W1 ⟨h, k4, rfl, hh, hk4, hs4, hg4⟩
      have S4 := Lib.hid hs4
      have B4 := Lib.hid (HBT.out.grown hg4)
      have O4 := Lib.hid (own_keepK HOW.out hg4 (fun x e e2 => by injection e with e; have := (HOW.out.lt x e2).1; omega))
      have G4 := Lib.hid (grown_trans HGR.out hg4)
      have hz4 := Lib.hid (Nat.le_trans HGR.out.size hg4.size)
      clear hs4 hg4 HSR HBT HOW HGR hh
      go_wp2_with fail
      refine (bookS_any q 0 c' l N h W1 (Rds.of_own O4.out) (by omega) (own_capH O4.out)).mono ?_
      rintro e W2 ⟨A5, c5, rfl, o5, hu5⟩
      have S5 := Lib.hid (S4.out.bel hu5.below)
      have B5 := Lib.hid (B4.out.bel hu5.below)
      have O5 := Lib.hid (own_below O4.out hu5.below)
      have G5 := Lib.hid (gr_up G4.out ⟨W2, hu5.below⟩)
      have P5 := Lib.hid (own_mono o5 hz4.out)
      clear S4 B4 O4 o5
      by_cases hz : (bookR l N h).2 = 0
      · have hr := bookR_0 hz
        have hz' : ((bookR l N h).2 == 0) = true := by rw [beq_iff_eq]; exact hz
        have hle : (bookR l N h).1.length = l.length + 1 := by rw [hr, insAt_len _ _ _ (insN_le l h)]
        have P6 := P5.out
        have HL := Lib.hid hle
        clear hr hz hle
        generalize (bookR l N h).1 = l2 at *
        obtain ⟨q6, rfl⟩ : ∃ q6, A5 = some ⟨q6, 0, none⟩ := own_addrH P6 (by have := HL.out; omega)
        clear P6
        go_wp2_with fail
        go_roundw
        case rel => exact ⟨l2, q6, c5, j - 1, k4, by go_num, rfl, by have := HL.out; omega, by omega, S5, B5, P5, G5⟩
        case measure => (simp [intOf]; try omega)
      · have hz' : ((bookR l N h).2 == 0) = false := by rw [beq_eq_false_iff_ne]; exact hz
        clear hz
        go_wp2_with fail
        go_roundw
        case rel => exact ⟨l, q, c', j - 1, k4, by go_num, rfl, by omega, by omega, S5, B5, O5, G5⟩
        case measure => (simp [intOf]; try omega)
    · obtain rfl : j = 0 := by omega
      go_wp2_with fail
      go_ret2
      exact ⟨l, _, c', N, k', rfl, HOW.out, ⟨by omega, _, rfl⟩, by omega, by omega, HSR.out, HGR.out⟩
set_option maxRecDepth 10000 in
set_option maxHeartbeats 2000000 in
theorem l25Bent_any (b : Nat) (A : Option Addr) (n c k : Nat) (w : World) (h : SrcAt w b A n c k) (hb : Byt w b A n) (hk : k ≤ 400000) (hn : n ≤ 1000000) :
    Calls Tryd.prog 50 #[.pointer (some ⟨b, 0, none⟩)] w (drawHPost b A n c k 61 90 w) := by
  have hlt := h.lt
  have HS := Lib.hid h
  have HB0 := Lib.hid hb
  clear h hb
  go_enter Tryd.func50, Tryd.ntmps50
  go_wp2_with fail
  refine (l25Draw_any b A n c k w HS.out HB0.out (by omega) hn).mono ?_
  rintro e V1 ⟨l, A1, c1, N, k1, rfl, ho, ⟨hl, hA⟩, hN, hk1, hs1, hg1⟩
  have S1 := Lib.hid hs1
  have B1 := Lib.hid (HB0.out.grown hg1)
  have O1 := Lib.hid ho
  have G1 := Lib.hid hg1
  clear hs1 hg1 ho HS HB0
  go_wp2_with fail
  refine (pick_any b A n c k1 24 V1 S1.out B1.out (by omega) hn (by omega)).mono ?_
  rintro e V2 ⟨x, k2, rfl, y0, y1, hk2, hs2, hg2⟩
  have S2 := Lib.hid hs2
  have B2 := Lib.hid (B1.out.grown hg2)
  have O2 := Lib.hid (own_keepK O1.out hg2 (fun x e e2 => by injection e with e; have := (O1.out.lt x e2).1; omega))
  have G2 := Lib.hid (grown_trans G1.out hg2)
  have hq2 : b < V2.heap.size := Nat.lt_of_lt_of_le hlt G2.out.size
  clear hs2 hg2 S1 B1 O1 G1 y1
  by_cases t0 : x = 0
  · subst t0
    by_cases hl0 : l.length = 0
    · obtain rfl : l = [] := List.length_eq_zero_iff.1 hl0
      go_wp2_with fail
      go_ret2
      exact ⟨[], A1, c1, N, k2, rfl, O2.out, ⟨by omega, hA⟩, hN, by omega, S2.out, G2.out⟩
    · have hlp : (0 : Int) < (l.length : Int) := by omega
      obtain ⟨q, rfl⟩ : ∃ q, A1 = some ⟨q, 0, none⟩ := own_addrH O2.out (by omega)
      go_wp2_with fail
      refine (pick_any b A n c k2 (l.length : Int) V2 S2.out B2.out (by omega) hn (by omega)).mono ?_
      rintro e V3 ⟨y, k3, rfl, z0, z1, hk3, hs3, hg3⟩
      obtain ⟨i, rfl⟩ : ∃ i : Nat, y = (i : Int) := ⟨y.toNat, by omega⟩
      have hi : i < l.length := by omega
      have hi' : (i : Int) < (l.length : Int) := by omega
      have S3 := Lib.hid hs3
      have B3 := Lib.hid (B2.out.grown hg3)
      have O3 := Lib.hid (own_keepK O2.out hg3 (fun x e e2 => by injection e with e; have := (O2.out.lt x e2).1; omega))
      have G3 := Lib.hid (grown_trans G2.out hg3)
      clear hs3 hg3 S2 B2 O2 G2 z0 z1 hl0
      obtain ⟨b', off, e, hqs, d0, d1, d2⟩ := hire_at (Rds.of_own O3.out) hi
      injection e with e
      injection e with e1 e2 _
      subst e1 e2
      simp only [Nat.zero_add] at d0 d1 d2
      rw [hat_eq hi] at d0 d1 d2
      have hqb := (O3.out.lt q rfl).1
      go_wp2_with fail
      refine (l25Spoil_any b q (i * 3) A n c k3 (hat l i) V3 S3.out B3.out (by omega) hn (by omega) hqs d0 d1 d2 (fun j => O3.out.frozenAt _)).mono ?_
      rintro e V4 ⟨j, u, W4, k4, rfl, hj3, rfl, hk4, hs4, hg4⟩
      have O4 := own_keepK O3.out hg4 (fun x e e2 => by injection e with e; have := (O3.out.lt x e2).1; omega)
      have S5 := Lib.hid (hs4.far (p := ⟨q, i * 3 + j, none⟩) (by show b ≠ q; omega) (i64 u))
      have O5 := Lib.hid (O4.stored (i * 3 + j) (i64 u)).1
      have G5 := Lib.hid (gr_new (grown_trans G3.out hg4) (p := ⟨q, i * 3 + j, none⟩) hqb (i64 u))
      clear hs4 hg4 S3 B3 O3 G3 d0 d1 d2 hqs O4
      rw [hcs_put hi hj3 u] at O5
      generalize W4.setCell ⟨q, i * 3 + j, none⟩ (i64 u) = V5 at *
      go_wp2_with fail
      go_ret2
      exact ⟨l.set i ((hat l i).put j u), _, c1, N, k4, by rw [List.length_set]; rfl, by rw [List.length_set]; exact O5.out, ⟨by rw [List.length_set]; omega, _, rfl⟩, hN, by omega, S5.out, G5.out⟩
  by_cases t1 : x = 1
  · subst t1
    go_wp2_with fail
    refine (among_any b A n c k2 (some ⟨V2.heap.size, 0, none⟩) 5 [-1, 0, 1, 20, 21] _ (S2.out.alloc _) (B2.out.alloc _) (by omega) hn (rds_newA 1 5 rfl rfl) (by decide) (by decide) (adr_neH hq2)).mono ?_
    rintro e V3 ⟨v3, k3, rfl, ⟨d3, hd3, rfl⟩, hk3, hs3, hg3⟩
    have hd : -1 ≤ d3 ∧ d3 ≤ 21 := by simp at hd3; omega
    have S3 := Lib.hid hs3
    have O2a := own_below O2.out (show Below V2.heap.size V2 (V2.alloc (.cells #[i64 (-1), i64 0, i64 1, i64 20, i64 21] 2)) from (by repeat (first | exact Below.refl _ _ | refine bl_tr ?_ _ | refine bl_al ?_ _ | refine bl_dr ?_ | refine bl_up ?_ _ | refine Below.drew ?_ | refine bl_alloc ?_ _ | refine Below.setCell ?_ (by first | (simp; done) | (simp; omega)) _)))
    have O3 := Lib.hid (own_keepK O2a hg3 (fun x e e2 => by injection e with e; have := (O2.out.lt x e2).1; omega))
    have G3 := Lib.hid (grown_trans (gr_alloc G2.out _) hg3)
    clear hs3 hg3 S2 B2 O2 G2 hd3 O2a
    go_wp2_with fail
    go_ret2
    exact ⟨l, A1, c1, d3, k3, rfl, O3.out, ⟨by omega, hA⟩, hd, by omega, S3.out, G3.out⟩
  by_cases t2 : x = 2
  · subst t2
    have hOwn := Lib.hid (World.ownsRow_lit (base := w.heap.size) (e := 25) (size := 3) V2 #[] 0 G2.out.size (by unfold maxLen; omega) rfl)
    have hbs := Lib.hid G2.out.size
    go_wp2_with fail
    refine (pick_any b A n c k2 2 _ (S2.out.alloc _) (B2.out.alloc _) (by omega) hn (by omega)).mono ?_
    rintro e V3 ⟨y, k3, rfl, z0, z1, hk3, hs3, hg3⟩
    obtain ⟨j0, rfl⟩ : ∃ j : Nat, y = (j : Int) := ⟨y.toNat, by omega⟩
    have hj0 : j0 ≤ 1 := by omega
    have hw1 : IntKind.i64.wrap (60 + (j0 : Int)) = ((60 + j0 : Nat) : Int) := by rw [IntKind.wrap_i64]; omega
    have S3 := Lib.hid hs3
    have B3 := Lib.hid ((B2.out.alloc _).grown hg3)
    have O3 := Lib.hid (own_keepK hOwn.out hg3 (fun x e e2 => by injection e with e; have e2 : some V2.heap.size = some x := e2; injection e2 with e2; have := hbs.out; omega))
    have G3 := Lib.hid (grown_trans (gr_alloc G2.out _) hg3)
    clear hs3 hg3 S2 B2 O2 G2 hOwn z0 z1
    go_wp2_with fail
    go_loopw [4, 6] (fun o kk wr => ∃ (l : List Hire) (A' : Option Addr) (c' j : Nat), kk = i64 j ∧ o = .slice A' l.length c' ∧ l.length + j = 60 + j0 ∧ Hid (SrcAt wr b A n c k3) ∧ Hid (Byt wr b A n) ∧ Hid (wr.ownsRow w.heap.size 25 3 (.slice A' l.length c') l.length (hcs l)) ∧ Hid (w.grownBy wr (some b))) (fun _ kk _ => (intOf kk).toNat)
    case atStart => exact ⟨[], _, _, 60 + j0, rfl, rfl, by simp, S3, B3, O3, G3⟩
    case round =>
      clear hl
      obtain ⟨l2, A', c', j, rfl, rfl, hlj, HSR, HBT, HOW, HGR⟩ := hrel
      clear S3 B3 O3 G3
      by_cases hj : 0 < j
      · have hj' : (0 : Int) < (j : Int) := by omega
        have hz := HGR.out.size
        have w2 : IntKind.i64.wrap (2 * (l2.length : Int)) = 2 * (l2.length : Int) := by rw [IntKind.wrap_i64]; omega
        have w3 : IntKind.i64.wrap (2 * (l2.length : Int) + 1) = 2 * (l2.length : Int) + 1 := by rw [IntKind.wrap_i64]; omega
        have hb1 : (wr.alloc (.cells #[i64 0, i64 (2 * (l2.length : Int)), i64 (2 * (l2.length : Int) + 1)] 25)).ownsRow w.heap.size 25 3 (.slice A' l2.length c') l2.length (hcs l2) := own_below HOW.out (by repeat (first | exact Below.refl _ _ | refine bl_tr ?_ _ | refine bl_al ?_ _ | refine bl_dr ?_ | refine bl_up ?_ _ | refine Below.drew ?_ | refine bl_alloc ?_ _ | refine Below.setCell ?_ (by first | (simp; done) | (simp; omega)) _))
        have hb2 : w.heap.size ≤ (wr.alloc (.cells #[i64 0, i64 (2 * (l2.length : Int)), i64 (2 * (l2.length : Int) + 1)] 25)).heap.size := by simp; omega
        go_wp2_with (at_builtin; go_must (refine wpl_app rfl _ _ 34 rfl w.heap.size 25 _ 3 24 el_hire (.slice A' l2.length c') l2.length (hcs l2) rfl hb1 (some ⟨wr.heap.size, 0, none⟩) 1 1 [i64 0, i64 (2 * (l2.length : Int)), i64 (2 * (l2.length : Int) + 1)] rfl (rds_new _ #[i64 0, i64 (2 * (l2.length : Int)), i64 (2 * (l2.length : Int) + 1)] _ 3 1 rfl) (fun u hu => by simp at hu; rcases hu with rfl | rfl | rfl <;> rfl) (by unfold maxLen; omega) (by omega) hb2 ?_); intro A2 c2 W2 o2 hgr2)
        go_roundw
        case rel => exact ⟨l2 ++ [⟨0, 2 * (l2.length : Int), 2 * (l2.length : Int) + 1⟩], A2, c2, j - 1, by go_num, by rw [List.length_append]; rfl, by rw [List.length_append, List.length_singleton]; omega,
          Lib.hid ((HSR.out.alloc _).kept hgr2 (fun e => absurd (HOW.out.lt _ e.symm).1 (by omega))),
          Lib.hid ((HBT.out.alloc _).kept hgr2 (fun j hj => by have := (HOW.out.lt j hj).1; omega)),
          Lib.hid (by rw [List.length_append, hcs_app]; exact o2), Lib.hid (gr_far (gr_alloc HGR.out _) hgr2 (fun j hj => (HOW.out.lt j hj).1))⟩
        case measure => (simp [intOf]; try omega)
      · obtain rfl : j = 0 := by omega
        go_wp2_with fail
        go_ret2
        obtain ⟨q9, rfl⟩ := own_addrH HOW.out (by omega)
        exact ⟨l2, _, c', N, k3, rfl, HOW.out, ⟨by omega, _, rfl⟩, hN, by omega, HSR.out, HGR.out⟩
  · have u0 : (x == 0) = false := by rw [beq_eq_false_iff_ne]; exact t0
    have u1 : (x == 1) = false := by rw [beq_eq_false_iff_ne]; exact t1
    have u2 : (x == 2) = false := by rw [beq_eq_false_iff_ne]; exact t2
    go_wp2_with fail
    go_ret2
    exact ⟨l, A1, c1, N, k2, rfl, O2.out, ⟨by omega, hA⟩, hN, by omega, S2.out, G2.out⟩
end Go.Proofs.YtiagckbdofeecaaDoor

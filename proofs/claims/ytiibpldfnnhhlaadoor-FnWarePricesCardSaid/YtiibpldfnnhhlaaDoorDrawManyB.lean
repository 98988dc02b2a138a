/-
  The reference's drawing of numbers wanted, each up to a thousand. The bounds stand at it.
-/
import Derived.Test.YtiibpldfnnhhlaaDoorDrawBent
import Derived.Test.YtiibpldfnnhhlaaDoorOdd
import Derived.Test.YtiibpldfnnhhlaaDoorGen
namespace Go.Proofs.YtiibpldfnnhhlaaDoor
open Go.RowKit
theorem ics_snocK (l : List Int) (x : Int) : ics (l ++ [x]) = ics l ++ [i64 x] := by simp [ics]
def manyPost (b : Nat) (A : Option Addr) (n c k m : Nat) (w : World) (e : Ending) (w' : World) : Prop :=
  ∃ (l : List Int) (A' : Option Addr) (c' k' : Nat), e = .returned (.slice A' l.length c') ∧ w'.ownsRow w.heap.size 2 1 (.slice A' l.length c') l.length (ics l) ∧ l.length ≤ m ∧ k' ≤ k + 72 ∧ SrcAt w' b A n c k' ∧ w.grownBy w' (some b)
set_option maxRecDepth 10000 in
set_option maxHeartbeats 4000000 in
theorem drawManyB_any (b : Nat) (A : Option Addr) (n c k : Nat) (Aw : Option Addr) (L cw : Nat) (w : World) (h : SrcAt w b A n c k) (hb : Byt w b A n) (hk : k ≤ 100000) (hn : n ≤ 1000000) (hL : L ≤ 31) :
    Calls Tryd.prog 67 #[.pointer (some ⟨b, 0, none⟩), .slice Aw L cw, i64 1000] w (manyPost b A n c k 32 w) := by
  have hlt := h.lt
  have HS := Lib.hid h
  have HB := Lib.hid hb
  clear h hb
  have hOwn := Lib.hid (World.ownsRow_lit (base := w.heap.size) (e := 2) (size := 1) w #[] 0 (Nat.le_refl _) (by unfold maxLen; omega) rfl)
  go_enter Tryd.func67, Tryd.ntmps67
  go_wp2_with fail
  go_loopw [7, 8] (fun o ii wr => ∃ (l : List Int) (A' : Option Addr) (c' k' : Nat), ii = i64 l.length ∧ o = .slice A' l.length c' ∧ l.length ≤ L ∧ k' ≤ k + 2 * l.length ∧ Hid (SrcAt wr b A n c k') ∧ Hid (Byt wr b A n) ∧ Hid (wr.ownsRow w.heap.size 2 1 (.slice A' l.length c') l.length (ics l)) ∧ Hid (w.grownBy wr (some b))) (fun _ ii _ => L - (intOf ii).toNat)
  case atStart => exact ⟨[], _, _, k, rfl, rfl, by simp, by simp, Lib.hid (HS.out.alloc _), Lib.hid (HB.out.alloc _), hOwn, Lib.hid (gr_alloc (grown_refl w _) _)⟩
  case round =>
    obtain ⟨l, A', c', k', rfl, rfl, hlj, hkj, HSR, HBT, HOWN, HGR⟩ := hrel
    clear hOwn HS HB
    by_cases hj : l.length < L
    · have hj' : (l.length : Int) < (L : Int) := by omega
      go_wp2_with fail
      refine (pick_any b A n c k' 9 _ HSR.out HBT.out (by omega) hn (by omega)).mono ?_
      rintro e w2 ⟨x, k2, rfl, y0, y1, hk2, hs2, hg2⟩
      have S2 := Lib.hid hs2
      have B2 := Lib.hid (HBT.out.grown hg2)
      have O2 := Lib.hid (HOWN.out.kept hg2 (by cases hv : (Value.slice A' l.length c').ownBlock with | none => exact .inl rfl | some q => exact .inr (fun e => by injection e with e; have := (HOWN.out.lt q hv).1; omega)))
      have G2 := Lib.hid (grown_trans HGR.out hg2)
      clear hs2 hg2 HSR HBT HOWN HGR y1
      have hbs : w.heap.size ≤ w2.heap.size := G2.out.size
      have hb1 : (w2.alloc (.cells #[i64 x] 2)).ownsRow w.heap.size 2 1 (.slice A' l.length c') l.length (ics l) := own_below O2.out (by repeat (first | exact Below.refl _ _ | refine bl_tr ?_ _ | refine bl_al ?_ _ | refine bl_dr ?_ | refine bl_up ?_ _ | refine Below.drew ?_ | refine bl_alloc ?_ _ | refine Below.setCell ?_ (by first | (simp; done) | (simp; omega)) _))
      have hb2 : w.heap.size ≤ (w2.alloc (.cells #[i64 x] 2)).heap.size := by simp; omega
      go_wp2_with (at_builtin; go_must (refine wpl_app rfl _ _ 46 rfl w.heap.size 2 (i64 0) 1 8 el_int (.slice A' l.length c') l.length (ics l) rfl hb1 (some ⟨w2.heap.size, 0, none⟩) 1 1 [i64 x] rfl (rds_new _ #[i64 x] _ 1 1 rfl) (fun u hu => by simp at hu; subst hu; rfl) (by unfold maxLen; omega) (by omega) hb2 ?_); intro A2 c2 W2 o2 hgr2)
      go_roundw
      case rel => exact ⟨l ++ [x], A2, c2, k2, by rw [List.length_append]; rfl, by rw [List.length_append]; rfl, by rw [List.length_append, List.length_singleton]; omega, by rw [List.length_append, List.length_singleton]; omega,
        Lib.hid ((S2.out.alloc _).kept hgr2 (fun e => absurd (O2.out.lt _ e.symm).1 (by omega))),
        Lib.hid ((B2.out.alloc _).kept hgr2 (fun j hj => by have := (O2.out.lt j hj).1; omega)),
        Lib.hid (by rw [List.length_append, ics_snocK]; exact o2), Lib.hid (gr_far (gr_alloc G2.out _) hgr2 (fun j hj => (O2.out.lt j hj).1))⟩
      case measure => (simp [intOf]; try omega)
    · obtain rfl : l.length = L := by omega
      have hbs : w.heap.size ≤ wr.heap.size := HGR.out.size
      go_wp2_with fail
      refine (pick_any b A n c k' 14 _ HSR.out HBT.out (by omega) hn (by omega)).mono ?_
      rintro e w2 ⟨x, k2, rfl, y0, y1, hk2, hs2, hg2⟩
      have S2 := Lib.hid hs2
      have B2 := Lib.hid (HBT.out.grown hg2)
      have O2 := Lib.hid (HOWN.out.kept hg2 (by cases hv : (Value.slice A' l.length c').ownBlock with | none => exact .inl rfl | some q => exact .inr (fun e => by injection e with e; have := (HOWN.out.lt q hv).1; omega)))
      have G2 := Lib.hid (grown_trans HGR.out hg2)
      clear hs2 hg2 HSR HBT HOWN HGR y1
      have hq2 : b < w2.heap.size := Nat.lt_of_lt_of_le hlt G2.out.size
      by_cases t0 : x = 0
      · subst t0
        have hbs : w.heap.size ≤ w2.heap.size := G2.out.size
        have hb1 : (w2.alloc (.cells #[i64 0] 2)).ownsRow w.heap.size 2 1 (.slice A' l.length c') l.length (ics l) := own_below O2.out (by repeat (first | exact Below.refl _ _ | refine bl_tr ?_ _ | refine bl_al ?_ _ | refine bl_dr ?_ | refine bl_up ?_ _ | refine Below.drew ?_ | refine bl_alloc ?_ _ | refine Below.setCell ?_ (by first | (simp; done) | (simp; omega)) _))
        have hb2 : w.heap.size ≤ (w2.alloc (.cells #[i64 0] 2)).heap.size := by simp; omega
        go_wp2_with (at_builtin; go_must (refine wpl_app rfl _ _ 46 rfl w.heap.size 2 (i64 0) 1 8 el_int (.slice A' l.length c') l.length (ics l) rfl hb1 (some ⟨w2.heap.size, 0, none⟩) 1 1 [i64 0] rfl (rds_new _ #[i64 0] _ 1 1 rfl) (fun u hu => by simp at hu; subst hu; rfl) (by unfold maxLen; omega) (by omega) hb2 ?_); intro A2 c2 W2 o2 hgr2)
        go_ret
        exact ⟨l ++ [0], A2, c2, k2, by rw [List.length_append]; rfl, by rw [List.length_append, ics_snocK]; exact o2, by rw [List.length_append, List.length_singleton]; omega, by omega, (S2.out.alloc _).kept hgr2 (fun e => absurd (O2.out.lt _ e.symm).1 (by omega)), gr_far (gr_alloc G2.out _) hgr2 (fun j hj => (O2.out.lt j hj).1)⟩
      by_cases t1 : x = 1
      · subst t1
        by_cases hl0 : l.length = 0
        · obtain rfl : l = [] := List.length_eq_zero_iff.1 hl0
          go_wp2_with fail
          go_ret
          exact ⟨[], A', c', k2, rfl, O2.out, by simp, by omega, S2.out, G2.out⟩
        · have hlp : (0 : Int) < (l.length : Int) := by omega
          obtain ⟨q, rfl⟩ : ∃ q, A' = some ⟨q, 0, none⟩ := own_addr O2.out (by omega)
          go_wp2_with fail
          refine (among_any b A n c k2 (some ⟨w2.heap.size, 0, none⟩) 4 [-1, 0, 1000, 1001] _ (S2.out.alloc _) (B2.out.alloc _) (by omega) hn (rds_newA 1 4 rfl rfl) (by decide) (by decide) (adr_ne hq2)).mono ?_
          rintro e w3 ⟨v3, k3, rfl, ⟨d3, hd3, rfl⟩, hk3, hs3, hg3⟩
          have S3 := Lib.hid hs3
          have O2' := Lib.hid (show (w2.alloc (.cells #[i64 (-1), i64 0, i64 1000, i64 1001] 2)).ownsRow w.heap.size 2 1 (.slice (some ⟨q, 0, none⟩) l.length c') l.length (ics l) from own_below O2.out (by repeat (first | exact Below.refl _ _ | refine bl_tr ?_ _ | refine bl_al ?_ _ | refine bl_dr ?_ | refine bl_up ?_ _ | refine Below.drew ?_ | refine bl_alloc ?_ _ | refine Below.setCell ?_ (by first | (simp; done) | (simp; omega)) _)))
          have O3 := Lib.hid (O2'.out.kept hg3 (by cases hv : (Value.slice (some ⟨q, 0, none⟩) l.length c').ownBlock with | none => exact .inl rfl | some q => exact .inr (fun e => by injection e with e; have := (O2.out.lt q hv).1; omega)))
          have G3 := Lib.hid (grown_trans (gr_alloc G2.out _) hg3)
          have hq0 := (O2.out.lt q rfl).1
          clear hs3 hg3 hd3 S2 B2 O2 O2' G2
          obtain ⟨b', off, e, hq3, hc3⟩ := (Rds.of_own O3.out).at (by omega)
          injection e with e
          injection e with e1 e2 _
          subst e1 e2
          have c0 := hc3 0 _ (ics_get (show 0 < l.length by omega))
          rw [Nat.zero_add] at c0
          have f0 := O3.out.frozenAt 0
          have s := O3.out.stored 0 (i64 d3)
          have s1 := Lib.hid s.1
          have s2 := Lib.hid s.2
          clear s hc3
          go_wp2_with fail
          go_ret
          exact ⟨l.set 0 d3, _, c', k3, by rw [List.length_set]; rfl, by rw [List.length_set, show ics (l.set 0 d3) = (ics l).set 0 (i64 d3) by simp [ics, List.map_set]]; exact s1.out, by rw [List.length_set]; omega, by omega, S3.out.far (p := ⟨q, 0, none⟩) (by show b ≠ q; omega) _, gr_new G3.out (p := ⟨q, 0, none⟩) hq0 _⟩
      · have u0 : (x == 0) = false := by rw [beq_eq_false_iff_ne]; exact t0
        have u1 : (x == 1) = false := by rw [beq_eq_false_iff_ne]; exact t1
        go_wp2_with fail
        go_ret
        exact ⟨l, A', c', k2, rfl, O2.out, by omega, by omega, S2.out, G2.out⟩
end Go.Proofs.YtiibpldfnnhhlaaDoor

/-
  The law on ReadWare: its walk. Premise on the world: the laid table.
-/
import Derived.Test.YtiibpldfnnhhlaaDoorReadWareS
namespace Go.Proofs.YtiibpldfnnhhlaaDoor
open Go.RowKit
theorem eqWare1_any (nm : ByteArray) (l : List Brk) (A A' : Option Addr) (c c' : Nat) (w : World) (h : Rds w 2 A l.length (bkcs l)) (h' : Rds w 2 A' l.length (bkcs l)) (hn : l.length ≤ 100000000) :
    Calls Tryd.prog 10 #[.agg #[.string nm, .slice A l.length c], .agg #[.string nm, .slice A' l.length c']] w fun e w' => e = .returned (.bool true) ∧ UpOf w w' := by
  go_enter Tryd.func10, Tryd.ntmps10
  go_wp2_with (first | (go_at_call 45; refine (eqBreakS_any _ _ _ _ l _ (h.below (by repeat (first | exact Below.refl _ _ | refine bl_tr ?_ _ | refine bl_al ?_ _ | refine bl_dr ?_ | refine bl_up ?_ _ | refine Below.drew ?_ | refine bl_alloc ?_ _ | refine Below.setCell ?_ (by first | (simp; done) | (simp; omega)) _))) (h'.below (by repeat (first | exact Below.refl _ _ | refine bl_tr ?_ _ | refine bl_al ?_ _ | refine bl_dr ?_ | refine bl_up ?_ _ | refine Below.drew ?_ | refine bl_alloc ?_ _ | refine Below.setCell ?_ (by first | (simp; done) | (simp; omega)) _))) hn).mono ?_; rintro e w' ⟨rfl, g, rfl⟩) | ((with_reducible refine wp_region_up (by kernel_rfl) (by kernel_rfl) ?_); (repeat (go_big_quiet_step (first | (go_at_call 45; first | exact upq_tr (eqBreakS_any _ _ _ _ l _ (h.below (by repeat (first | exact Below.refl _ _ | refine bl_tr ?_ _ | refine bl_al ?_ _ | refine bl_dr ?_ | refine bl_up ?_ _ | refine Below.drew ?_ | refine bl_alloc ?_ _ | refine Below.setCell ?_ (by first | (simp; done) | (simp; omega)) _))) (h'.below (by repeat (first | exact Below.refl _ _ | refine bl_tr ?_ _ | refine bl_al ?_ _ | refine bl_dr ?_ | refine bl_up ?_ _ | refine Below.drew ?_ | refine bl_alloc ?_ _ | refine Below.setCell ?_ (by first | (simp; done) | (simp; omega)) _))) hn) | exact upq (eqBreakS_any _ _ _ _ l _ (h.below (by repeat (first | exact Below.refl _ _ | refine bl_tr ?_ _ | refine bl_al ?_ _ | refine bl_dr ?_ | refine bl_up ?_ _ | refine Below.drew ?_ | refine bl_alloc ?_ _ | refine Below.setCell ?_ (by first | (simp; done) | (simp; omega)) _))) (h'.below (by repeat (first | exact Below.refl _ _ | refine bl_tr ?_ _ | refine bl_al ?_ _ | refine bl_dr ?_ | refine bl_up ?_ _ | refine Below.drew ?_ | refine bl_alloc ?_ _ | refine Below.setCell ?_ (by first | (simp; done) | (simp; omega)) _))) hn))))); refine wpQuiet_nil ?_; intro _ hw'; obtain ⟨nq, hw''⟩ := hw'; subst hw''))
  go_ret
  exact ⟨rfl, UpOf.of (by repeat (first | exact Below.refl _ _ | refine bl_tr ?_ _ | refine bl_al ?_ _ | refine bl_dr ?_ | refine bl_up ?_ _ | refine Below.drew ?_ | refine bl_alloc ?_ _ | refine Below.setCell ?_ (by first | (simp; done) | (simp; omega)) _))⟩
theorem markWare_any (nm : ByteArray) (base : Nat) (A : Option Addr) (n c k0 : Nat) (xs : List Value) (w : World) (h : w.ownsRow base 69 2 (.slice A n c) n xs) (hk0 : 1 ≤ k0) (hn : k0 + 2 * n < 1000000000) :
    Calls Tryd.prog 13 #[.agg #[.string nm, .slice A n c], i64 k0] w fun e w' => e = .returned (i64 ((k0 + 2 * n : Nat) : Int)) ∧ w'.ownsRow base 69 2 (.slice A n c) n (bkcs (bkM k0 n)) ∧ w.grownBy w' (Value.slice A n c).ownBlock := by
  go_enter Tryd.func13, Tryd.ntmps13
  go_wp2_with fail
  refine (markBreakS_any base A n c k0 xs _ (own_below h (by repeat (first | exact Below.refl _ _ | refine bl_tr ?_ _ | refine bl_al ?_ _ | refine bl_dr ?_ | refine bl_up ?_ _ | refine Below.drew ?_ | refine bl_alloc ?_ _ | refine Below.setCell ?_ (by first | (simp; done) | (simp; omega)) _))) hk0 hn).mono ?_
  rintro e w' ⟨rfl, ho, hg⟩
  have HO := Lib.hid ho
  have HG := Lib.hid (grown_trans (World.grownBy_alloc _ _ _) hg)
  clear ho hg
  go_wp2_with fail
  go_ret
  exact ⟨rfl, HO.out, HG.out⟩
theorem heldWare_any (nm : ByteArray) (A : Option Addr) (n c k0 : Nat) (w : World) (h : Rds w 2 A n (bkcs (bkM k0 n))) (hk0 : 1 ≤ k0) (hn : k0 + 2 * n < 1000000000) :
    Calls Tryd.prog 14 #[.agg #[.string nm, .slice A n c], i64 k0] w fun e w' => e = .returned (i64 ((k0 + 2 * n : Nat) : Int)) ∧ UpOf w w' := by
  have hz : ¬ ((k0 + 2 * n : Nat) : Int) < 0 := by omega
  go_enter Tryd.func14, Tryd.ntmps14
  go_wp2_with (first | (go_at_call 52; refine (heldBreakS_any _ _ _ _ _ (h.below (by repeat (first | exact Below.refl _ _ | refine bl_tr ?_ _ | refine bl_al ?_ _ | refine bl_dr ?_ | refine bl_up ?_ _ | refine Below.drew ?_ | refine bl_alloc ?_ _ | refine Below.setCell ?_ (by first | (simp; done) | (simp; omega)) _))) hk0 hn).mono ?_; rintro e w' ⟨rfl, g, rfl⟩) | ((with_reducible refine wp_region_up (by kernel_rfl) (by kernel_rfl) ?_); (repeat (go_big_quiet_step (first | (go_at_call 52; first | exact upq_tr (heldBreakS_any _ _ _ _ _ (h.below (by repeat (first | exact Below.refl _ _ | refine bl_tr ?_ _ | refine bl_al ?_ _ | refine bl_dr ?_ | refine bl_up ?_ _ | refine Below.drew ?_ | refine bl_alloc ?_ _ | refine Below.setCell ?_ (by first | (simp; done) | (simp; omega)) _))) hk0 hn) | exact upq (heldBreakS_any _ _ _ _ _ (h.below (by repeat (first | exact Below.refl _ _ | refine bl_tr ?_ _ | refine bl_al ?_ _ | refine bl_dr ?_ | refine bl_up ?_ _ | refine Below.drew ?_ | refine bl_alloc ?_ _ | refine Below.setCell ?_ (by first | (simp; done) | (simp; omega)) _))) hk0 hn))))); refine wpQuiet_nil ?_; intro _ hw'; obtain ⟨nq, hw''⟩ := hw'; subst hw''))
  go_ret
  exact ⟨rfl, UpOf.of (by repeat (first | exact Below.refl _ _ | refine bl_tr ?_ _ | refine bl_al ?_ _ | refine bl_dr ?_ | refine bl_up ?_ _ | refine Below.drew ?_ | refine bl_alloc ?_ _ | refine Below.setCell ?_ (by first | (simp; done) | (simp; omega)) _))⟩
theorem rwR_bd (s : ByteArray) : (rwR s).1.brs.length ≤ 6 := by
  unfold rwR
  split
  · rename_i h
    exact (vWare_inv (okRI_text h).1).2.2.1
  · simp
set_option maxRecDepth 10000 in
set_option maxHeartbeats 4000000 in
theorem law_readWare (s : ByteArray) (w : World) (hs : s.size ≤ 9223372036854775807) (ht : Tab w) :
    Calls Tryd.prog 4 #[.string s] w fun e w' => e = .returned (.bool true) ∧ UpOf w w' := by
  have HT := Lib.hid ht
  clear ht
  by_cases q : (1048576 : Int) < (s.size : Int)
  · go_enter Tryd.func4, Tryd.ntmps4
    go_wp2_with (first | ((with_reducible refine wp_region_up (by kernel_rfl) (by kernel_rfl) ?_); (repeat (go_big_quiet_step (fail))); refine wpQuiet_nil ?_; intro _ hw'; obtain ⟨nq, hw''⟩ := hw'; subst hw''))
    go_ret
    exact ⟨rfl, UpOf.of (by repeat (first | exact Below.refl _ _ | refine bl_tr ?_ _ | refine bl_al ?_ _ | refine bl_dr ?_ | refine bl_up ?_ _ | refine Below.drew ?_ | refine bl_alloc ?_ _ | refine Below.setCell ?_ (by first | (simp; done) | (simp; omega)) _))⟩
  · have hl : s.size ≤ 1048576 := by omega
    have hbd := rwR_bd s
    obtain ⟨r, hr⟩ : ∃ r, rwR s = r := ⟨_, rfl⟩
    rw [hr] at hbd
    obtain ⟨⟨nm, l⟩, b⟩ := r
    dsimp only at hbd
    have cs : ∀ V, Calls Tryd.prog 11 #[.string s] V fun e w' => ∃ A' c', e = .returned (.tuple #[.agg #[.string nm, .slice A' l.length c'], .bool b]) ∧ w'.ownsRow V.heap.size 69 2 (.slice A' l.length c') l.length (bkcs l) ∧ UpOf V w' := fun V => by
      have := readWareS_any s V hl
      unfold rwPost at this
      rw [hr] at this
      exact this
    have ci : ∀ V, Tab V → Calls Tryd.prog 12 #[.string s] V fun e w' => ∃ A' c', e = .returned (.tuple #[.agg #[.string nm, .slice A' l.length c'], .bool b]) ∧ w'.ownsRow V.heap.size 69 2 (.slice A' l.length c') l.length (bkcs l) ∧ UpOf V w' := fun V hV => by
      have := readWareI_any s V hl hV
      unfold rwPost at this
      rw [hr] at this
      exact this
    have CS := Lib.hid cs
    have CI := Lib.hid ci
    clear cs ci hr
    go_enter Tryd.func4, Tryd.ntmps4
    go_wp2_with fail
    refine (CS.out _).mono ?_
    rintro e V1 ⟨A1, c1, rfl, o1, g1, rfl⟩
    have O1 := Lib.hid o1
    have R1 := Lib.hid (Rds.of_own o1)
    clear o1
    go_wp2_with fail
    refine (CI.out _ (HT.out.below (by repeat (first | exact Below.refl _ _ | refine bl_tr ?_ _ | refine bl_al ?_ _ | refine bl_dr ?_ | refine bl_up ?_ _ | refine Below.drew ?_ | refine bl_alloc ?_ _ | refine Below.setCell ?_ (by first | (simp; done) | (simp; omega)) _)))).mono ?_
    rintro e V2 ⟨A2, c2, rfl, o2, g2, rfl⟩
    have O2 := Lib.hid o2
    clear o2
    have R2 := Lib.hid (Rds.of_own O2.out)
    go_wp2_with fail
    refine (eqWare1_any nm l A2 A1 c2 c1 _ (R2.out.below (by repeat (first | exact Below.refl _ _ | refine bl_tr ?_ _ | refine bl_al ?_ _ | refine bl_dr ?_ | refine bl_up ?_ _ | refine Below.drew ?_ | refine bl_alloc ?_ _ | refine Below.setCell ?_ (by first | (simp; done) | (simp; omega)) _))) (R1.out.below (by repeat (first | exact Below.refl _ _ | refine bl_tr ?_ _ | refine bl_al ?_ _ | refine bl_dr ?_ | refine bl_up ?_ _ | refine Below.drew ?_ | refine bl_alloc ?_ _ | refine Below.setCell ?_ (by first | (simp; done) | (simp; omega)) _))) (by omega)).mono ?_
    rintro e V3 ⟨rfl, g3, rfl⟩
    go_wp2_with fail
    have HB3 := Lib.hid ((((Blk.new_al (g := g1) 29 #[.string nm, .slice A1 l.length c1]).tr g2).al (.cells #[.string nm, .slice A2 l.length c2] 29)).tr g3)
    have HB5 := Lib.hid ((Blk.new_al (g := (g1.al (.cells #[.string nm, .slice A1 l.length c1] 29)).tr g2) 29 #[.string nm, .slice A2 l.length c2]).tr g3)
    have hs3 := size_al (g := g1) (.cells #[.string nm, .slice A1 l.length c1] 29)
    have HLO := Lib.hid (fun k hk => O2.out.lt k hk)
    have HAP := Lib.hid (own_apart O1.out O2.out (by first | exact Nat.le_refl _ | exact (up_below _ _).size | exact Nat.le_trans (up_below _ _).size (up_below _ _).size | (simp; done) | (repeat (first | exact Nat.le_refl _ | refine Nat.le_trans ?_ (le_tr_self _)))))
    refine (markWare_any nm _ A2 l.length c2 1 _ _ (own_below O2.out (by repeat (first | exact Below.refl _ _ | refine bl_tr ?_ _ | refine bl_al ?_ _ | refine bl_dr ?_ | refine bl_up ?_ _ | refine Below.drew ?_ | refine bl_alloc ?_ _ | refine Below.setCell ?_ (by first | (simp; done) | (simp; omega)) _))) (by omega) (by omega)).mono ?_
    rintro e V4 ⟨rfl, m4, hg4⟩
    have R4 := Lib.hid (Rds.of_own m4)
    have H3 := Lib.hid (HB3.out.grown hg4 (fun e => by have := (HLO.out _ e.symm).1; omega))
    have H5 := Lib.hid (HB5.out.grown hg4 (fun e => by have := (HLO.out _ e.symm).2; rw [up_up] at this; omega))
    have R5 := Lib.hid ((R1.out.below (by repeat (first | exact Below.refl _ _ | refine bl_tr ?_ _ | refine bl_al ?_ _ | refine bl_dr ?_ | refine bl_up ?_ _ | refine Below.drew ?_ | refine bl_alloc ?_ _ | refine Below.setCell ?_ (by first | (simp; done) | (simp; omega)) _))).grown hg4 (fun _ => HAP.out))
    have HU4 := Lib.hid (up_of_grown (W := w) (by repeat (first | exact Below.refl _ _ | refine bl_tr ?_ _ | refine bl_al ?_ _ | refine bl_dr ?_ | refine bl_up ?_ _ | refine Below.drew ?_ | refine bl_alloc ?_ _ | refine Below.setCell ?_ (by first | (simp; done) | (simp; omega)) _)) hg4 (fun k hk => by have := (HLO.out k hk).1; have := (up_below w g1).size; omega))
    clear m4 hg4 HB3 HB5 hs3 HLO HAP O1 O2 R1 R2
    generalize (up w g1).heap.size = q3 at *
    generalize (up w ((g1.al (.cells #[.string nm, .slice A1 l.length c1] 29)).tr g2)).heap.size = q5 at *
    have e3 := H3.out.lt
    have e30 := H3.out.cell 0
    have e31 := H3.out.cell 1
    have e5 := H5.out.lt
    have e50 := H5.out.cell 0
    have e51 := H5.out.cell 1
    simp only [List.getElem?_toArray, List.getElem?_cons_succ, List.getElem?_cons_zero] at e30 e31 e50 e51
    go_wp2_with fail
    refine (heldWare_any nm A2 l.length c2 1 _ R4.out (by omega) (by omega)).mono ?_
    rintro e w' ⟨rfl, g4, rfl⟩
    go_wp2_with fail
    refine (CI.out _ (HT.out.below (HU4.out.tr (by repeat (first | exact Below.refl _ _ | refine bl_tr ?_ _ | refine bl_al ?_ _ | refine bl_dr ?_ | refine bl_up ?_ _ | refine Below.drew ?_ | refine bl_alloc ?_ _ | refine Below.setCell ?_ (by first | (simp; done) | (simp; omega)) _))).below)).mono ?_
    rintro e w' ⟨A6, c6, rfl, o6, g6, rfl⟩
    have R6 := Lib.hid (Rds.of_own o6)
    clear o6
    go_wp2_with fail
    refine (eqWare1_any nm l A6 A1 c6 c1 _ (R6.out.below (by repeat (first | exact Below.refl _ _ | refine bl_tr ?_ _ | refine bl_al ?_ _ | refine bl_dr ?_ | refine bl_up ?_ _ | refine Below.drew ?_ | refine bl_alloc ?_ _ | refine Below.setCell ?_ (by first | (simp; done) | (simp; omega)) _))) (R5.out.below (by repeat (first | exact Below.refl _ _ | refine bl_tr ?_ _ | refine bl_al ?_ _ | refine bl_dr ?_ | refine bl_up ?_ _ | refine Below.drew ?_ | refine bl_alloc ?_ _ | refine Below.setCell ?_ (by first | (simp; done) | (simp; omega)) _))) (by omega)).mono ?_
    rintro e w' ⟨rfl, g7, rfl⟩
    go_wp2_with fail
    refine (heldWare_any nm A2 l.length c2 1 _ (R4.out.below (by repeat (first | exact Below.refl _ _ | refine bl_tr ?_ _ | refine bl_al ?_ _ | refine bl_dr ?_ | refine bl_up ?_ _ | refine Below.drew ?_ | refine bl_alloc ?_ _ | refine Below.setCell ?_ (by first | (simp; done) | (simp; omega)) _))) (by omega) (by omega)).mono ?_
    rintro e w' ⟨rfl, g8, rfl⟩
    go_wp2_with fail
    go_ret
    exact ⟨rfl, HU4.out.tr (by repeat (first | exact Below.refl _ _ | refine bl_tr ?_ _ | refine bl_al ?_ _ | refine bl_dr ?_ | refine bl_up ?_ _ | refine Below.drew ?_ | refine bl_alloc ?_ _ | refine Below.setCell ?_ (by first | (simp; done) | (simp; omega)) _))⟩
end Go.Proofs.YtiibpldfnnhhlaaDoor

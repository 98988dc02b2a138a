/-
  The law on BestOffers: its walk.
-/
import Derived.Test.YtiibpldfnnhhlaaBestS2
import Derived.Test.YtiibpldfnnhhlaaWMark
import Derived.Test.YtiibpldfnnhhlaaOMark
import Derived.Test.YtiibpldfnnhhlaaIntsTo
namespace Go.Proofs.Ytiibpldfnnhhlaa
open Go.RowKit
theorem lop_len {f : Nat → List Int → BSt → BSt} {m : List Int} {N : Nat} (hf : ∀ n r st, st.1.length ≤ N → (f n r st).1.length ≤ N) : ∀ g n r st, st.1.length ≤ N → (lop f m g n r st).1.length ≤ N
  | 0, _, _, _, h => h
  | g + 1, n, r, st, h => by
    rw [lop]
    split
    · exact lop_len hf g _ _ _ (hf _ _ _ h)
    · exact hf _ _ _ h
theorem wlk_len (l : List Ware) (os : List Offer) (N : Nat) : ∀ j r tk cost st, tk.length + j ≤ N → st.1.length ≤ N → (wlk l os j r tk cost st).1.length ≤ N
  | 0, r, tk, cost, st, h1, h2 => by
    show (leafB l r tk cost st).1.length ≤ N
    unfold leafB
    split
    · show tk.length ≤ N; omega
    · exact h2
  | j + 1, r, tk, cost, st, h1, h2 => by
    rw [wlk]
    exact lop_len (fun n r' st' h => wlk_len l os N j r' _ _ _ (by rw [List.length_append, List.length_singleton]; omega) h) _ _ _ _ h2
theorem bestR_len {l : List Ware} {os : List Offer} {many : List Int} {L : List Int} {r1 r2 : Int} (h : bestR l os many = (L, r1, r2)) : L.length ≤ 8 := by
  have h0 : (bestR l os many).1.length ≤ 8 := by
    unfold bestR
    split
    · rename_i hc
      have h4 : os.length ≤ 8 := by
        unfold bestC at hc
        split at hc
        · rename_i h1; exact (vOffers_inv h1).2.1
        · omega
      exact wlk_len l os 8 os.length many [] 0 ([], -1) (by simp; exact h4) (by simp)
    · simp
  rw [h] at h0
  exact h0
theorem bestI' {l : List Ware} {os : List Offer} {many : List Int} {L0 : List Int} {r1 : Int} {r2 : Int} (hL : Hid (bestR l os many = (L0, r1, r2))) (w : World) {A O M : Option Addr} {c d e9 : Nat} (hw : WSee w A l) (h : OSee w O os) (hm : Rds w 1 M many.length (ics many)) (hb : WBd l) (ho : OBd os) (hn : os.length ≤ 100000000) (hl : l.length ≤ 100000000) (hmn : many.length ≤ 100000000) :
    Calls Try.prog 48 #[.slice A l.length c, .slice O os.length d, .slice M many.length e9] w fun e w' => ∃ A' c', e = .returned (.tuple #[.slice A' L0.length c', i64 r1, i64 r2]) ∧ w'.ownsRow w.heap.size 2 1 (.slice A' L0.length c') L0.length (ics L0) ∧ UpOf w w' := by
  have := bestI_any A O M c d e9 l os many w hw h hm hl hn hmn hb ho
  rw [hL.out] at this
  exact this
theorem bestS' {l : List Ware} {os : List Offer} {many : List Int} {L0 : List Int} {r1 : Int} {r2 : Int} (hL : Hid (bestR l os many = (L0, r1, r2))) (w : World) {A O M : Option Addr} {c d e9 : Nat} (hw : WSee w A l) (h : OSee w O os) (hm : Rds w 1 M many.length (ics many)) (hb : WBd l) (ho : OBd os) (hn : os.length ≤ 100000000) (hl : l.length ≤ 100000000) (hmn : many.length ≤ 100000000) :
    Calls Try.prog 47 #[.slice A l.length c, .slice O os.length d, .slice M many.length e9] w fun e w' => ∃ A' c', e = .returned (.tuple #[.slice A' L0.length c', i64 r1, i64 r2]) ∧ w'.ownsRow w.heap.size 2 1 (.slice A' L0.length c') L0.length (ics L0) ∧ UpOf w w' := by
  have := bestS_any A O M c d e9 l os many w hw h hm hl hn hmn hb ho
  rw [hL.out] at this
  exact this
set_option maxRecDepth 10000 in
set_option maxHeartbeats 2000000 in
theorem law_bestOffers (Al : Option Addr) (cl : Nat) (l : List Ware) (Aos : Option Addr) (cos : Nat) (os : List Offer) (Amany : Option Addr) (cmany : Nat) (many : List Int) (w : World) (hl : WSee w Al l) (hnl : l.length ≤ 9223372036854775807) (hfl : WFit l) (hos : OSee w Aos os) (hnos : os.length ≤ 9223372036854775807) (hfos : OFit os) (hmany : Rds w 1 Amany many.length (ics many)) (hnmany : many.length ≤ 9223372036854775807) :
    Calls Try.prog 13 #[.slice Al l.length cl, .slice Aos os.length cos, .slice Amany many.length cmany] w fun e w' => e = .returned (.bool true) ∧ UpOf w w' := by
  obtain ⟨L0, r1, r2, hL⟩ : ∃ L0 r1 r2, bestR l os many = (L0, r1, r2) := ⟨_, _, _, rfl⟩
  have hLn := bestR_len hL
  have HL := Lib.hid hL
  clear hL
  go_enter Try.func13, Try.ntmps13
  by_cases qmany : (1048576 : Int) < (many.length : Int)
  · go_wp2_with fail
    go_ret
    exact ⟨rfl, UpOf.of (by repeat (first | exact Below.refl _ _ | refine bl_tr ?_ _ | refine bl_al ?_ _ | refine bl_dr ?_ | refine bl_up ?_ _ | refine Below.drew ?_ | refine bl_alloc ?_ _ | refine Below.setCell ?_ (by first | (simp; done) | (simp; omega)) _))⟩
  have hlmany : many.length ≤ 1048576 := by omega
  by_cases ql : (1048576 : Int) < ((wTot l : Nat) : Int)
  · have hs0 : szR (1048576) (wTot l) = -1 := szR_no ql
    go_wp2_with fail
    refine (szWareS_any _ _ _ (1048576) _ (hl.below (by repeat (first | exact Below.refl _ _ | refine bl_tr ?_ _ | refine bl_al ?_ _ | refine bl_dr ?_ | refine bl_up ?_ _ | refine Below.drew ?_ | refine bl_alloc ?_ _ | refine Below.setCell ?_ (by first | (simp; done) | (simp; omega)) _))) (by omega) (by omega) hnl hfl).mono ?_
    rintro e w' ⟨rfl, g1, rfl⟩
    go_wp2_with fail
    go_ret
    exact ⟨rfl, UpOf.of (by repeat (first | exact Below.refl _ _ | refine bl_tr ?_ _ | refine bl_al ?_ _ | refine bl_dr ?_ | refine bl_up ?_ _ | refine Below.drew ?_ | refine bl_alloc ?_ _ | refine Below.setCell ?_ (by first | (simp; done) | (simp; omega)) _))⟩
  have hsl0 : szR (1048576) (wTot l) = 1048576 - ((wTot l : Nat) : Int) := szR_ok ql
  have hzl : ((wTot l : Nat) : Int) ≤ 1048576 := by omega
  have hll : l.length ≤ 1048576 := by have := wTot_len l; omega
  have hbl := Lib.hid (wTot_bd (l := l) (by omega))
  go_wp2_with fail
  refine (szWareS_any _ _ _ (1048576) _ (hl.below (by repeat (first | exact Below.refl _ _ | refine bl_tr ?_ _ | refine bl_al ?_ _ | refine bl_dr ?_ | refine bl_up ?_ _ | refine Below.drew ?_ | refine bl_alloc ?_ _ | refine Below.setCell ?_ (by first | (simp; done) | (simp; omega)) _))) (by omega) (by omega) hnl hfl).mono ?_
  rintro e w' ⟨rfl, g2, rfl⟩
  by_cases qos : (1048576 - ((wTot l : Nat) : Int) : Int) < ((oTot os : Nat) : Int)
  · have hs0 : szR (1048576 - ((wTot l : Nat) : Int)) (oTot os) = -1 := szR_no qos
    go_wp2_with fail
    refine (szOfferS_any _ _ _ (1048576 - ((wTot l : Nat) : Int)) _ (hos.below (by repeat (first | exact Below.refl _ _ | refine bl_tr ?_ _ | refine bl_al ?_ _ | refine bl_dr ?_ | refine bl_up ?_ _ | refine Below.drew ?_ | refine bl_alloc ?_ _ | refine Below.setCell ?_ (by first | (simp; done) | (simp; omega)) _))) (by omega) (by omega) hnos hfos).mono ?_
    rintro e w' ⟨rfl, g3, rfl⟩
    go_wp2_with fail
    go_ret
    exact ⟨rfl, UpOf.of (by repeat (first | exact Below.refl _ _ | refine bl_tr ?_ _ | refine bl_al ?_ _ | refine bl_dr ?_ | refine bl_up ?_ _ | refine Below.drew ?_ | refine bl_alloc ?_ _ | refine Below.setCell ?_ (by first | (simp; done) | (simp; omega)) _))⟩
  have hsos0 : szR (1048576 - ((wTot l : Nat) : Int)) (oTot os) = 1048576 - ((wTot l : Nat) : Int) - ((oTot os : Nat) : Int) := szR_ok qos
  have hzos : ((oTot os : Nat) : Int) ≤ 1048576 - ((wTot l : Nat) : Int) := by omega
  have hlos : os.length ≤ 1048576 := by have := oTot_len os; omega
  have hbos := Lib.hid (oTot_bd (l := os) (by omega))
  go_wp2_with fail
  refine (szOfferS_any _ _ _ (1048576 - ((wTot l : Nat) : Int)) _ (hos.below (by repeat (first | exact Below.refl _ _ | refine bl_tr ?_ _ | refine bl_al ?_ _ | refine bl_dr ?_ | refine bl_up ?_ _ | refine Below.drew ?_ | refine bl_alloc ?_ _ | refine Below.setCell ?_ (by first | (simp; done) | (simp; omega)) _))) (by omega) (by omega) hnos hfos).mono ?_
  rintro e w' ⟨rfl, g4, rfl⟩
  go_wp2_with fail
  refine (toWareS_any _ _ l _ (hl.below (by repeat (first | exact Below.refl _ _ | refine bl_tr ?_ _ | refine bl_al ?_ _ | refine bl_dr ?_ | refine bl_up ?_ _ | refine Below.drew ?_ | refine bl_alloc ?_ _ | refine Below.setCell ?_ (by first | (simp; done) | (simp; omega)) _))) (by omega) (wTot_in hbl.out)).mono ?_
  rintro e w' ⟨b1, ps1, rfl, o1, g5, rfl⟩
  go_wp2_with fail
  refine (toOfferS_any _ _ os _ (hos.below (by repeat (first | exact Below.refl _ _ | refine bl_tr ?_ _ | refine bl_al ?_ _ | refine bl_dr ?_ | refine bl_up ?_ _ | refine Below.drew ?_ | refine bl_alloc ?_ _ | refine Below.setCell ?_ (by first | (simp; done) | (simp; omega)) _))) (by omega) (oTot_in hbos.out)).mono ?_
  rintro e w' ⟨b2, ps2, rfl, o2, g6, rfl⟩
  go_wp2_with fail
  refine (toInt64S_any _ _ many _ (hmany.below (by repeat (first | exact Below.refl _ _ | refine bl_tr ?_ _ | refine bl_al ?_ _ | refine bl_dr ?_ | refine bl_up ?_ _ | refine Below.drew ?_ | refine bl_alloc ?_ _ | refine Below.setCell ?_ (by first | (simp; done) | (simp; omega)) _))) (by omega)).mono ?_
  rintro e w' ⟨b3, rfl, o3, g7, rfl⟩
  go_wp2_with fail
  refine (bestS' HL _ (o1.see.below (by repeat (first | exact Below.refl _ _ | refine bl_tr ?_ _ | refine bl_al ?_ _ | refine bl_dr ?_ | refine bl_up ?_ _ | refine Below.drew ?_ | refine bl_alloc ?_ _ | refine Below.setCell ?_ (by first | (simp; done) | (simp; omega)) _))) (o2.see.below (by repeat (first | exact Below.refl _ _ | refine bl_tr ?_ _ | refine bl_al ?_ _ | refine bl_dr ?_ | refine bl_up ?_ _ | refine Below.drew ?_ | refine bl_alloc ?_ _ | refine Below.setCell ?_ (by first | (simp; done) | (simp; omega)) _))) ((Rds.of_own o3).below (by repeat (first | exact Below.refl _ _ | refine bl_tr ?_ _ | refine bl_al ?_ _ | refine bl_dr ?_ | refine bl_up ?_ _ | refine Below.drew ?_ | refine bl_alloc ?_ _ | refine Below.setCell ?_ (by first | (simp; done) | (simp; omega)) _))) hbl.out hbos.out (by omega) (by omega) (by omega)).mono ?_
  rintro e w' ⟨Aw0, cw0, rfl, ow0, g8, rfl⟩
  go_wp2_with fail
  refine (toWareS_any _ _ l _ (hl.below (by repeat (first | exact Below.refl _ _ | refine bl_tr ?_ _ | refine bl_al ?_ _ | refine bl_dr ?_ | refine bl_up ?_ _ | refine Below.drew ?_ | refine bl_alloc ?_ _ | refine Below.setCell ?_ (by first | (simp; done) | (simp; omega)) _))) (by omega) (wTot_in hbl.out)).mono ?_
  rintro e w' ⟨b4, ps4, rfl, o4, g9, rfl⟩
  go_wp2_with fail
  refine (toOfferS_any _ _ os _ (hos.below (by repeat (first | exact Below.refl _ _ | refine bl_tr ?_ _ | refine bl_al ?_ _ | refine bl_dr ?_ | refine bl_up ?_ _ | refine Below.drew ?_ | refine bl_alloc ?_ _ | refine Below.setCell ?_ (by first | (simp; done) | (simp; omega)) _))) (by omega) (oTot_in hbos.out)).mono ?_
  rintro e w' ⟨b5, ps5, rfl, o5, g10, rfl⟩
  go_wp2_with fail
  refine (toInt64S_any _ _ many _ (hmany.below (by repeat (first | exact Below.refl _ _ | refine bl_tr ?_ _ | refine bl_al ?_ _ | refine bl_dr ?_ | refine bl_up ?_ _ | refine Below.drew ?_ | refine bl_alloc ?_ _ | refine Below.setCell ?_ (by first | (simp; done) | (simp; omega)) _))) (by omega)).mono ?_
  rintro e w' ⟨b6, rfl, o6, g11, rfl⟩
  go_wp2_with fail
  refine (bestI' HL _ (o4.see.below (by repeat (first | exact Below.refl _ _ | refine bl_tr ?_ _ | refine bl_al ?_ _ | refine bl_dr ?_ | refine bl_up ?_ _ | refine Below.drew ?_ | refine bl_alloc ?_ _ | refine Below.setCell ?_ (by first | (simp; done) | (simp; omega)) _))) (o5.see.below (by repeat (first | exact Below.refl _ _ | refine bl_tr ?_ _ | refine bl_al ?_ _ | refine bl_dr ?_ | refine bl_up ?_ _ | refine Below.drew ?_ | refine bl_alloc ?_ _ | refine Below.setCell ?_ (by first | (simp; done) | (simp; omega)) _))) ((Rds.of_own o6).below (by repeat (first | exact Below.refl _ _ | refine bl_tr ?_ _ | refine bl_al ?_ _ | refine bl_dr ?_ | refine bl_up ?_ _ | refine Below.drew ?_ | refine bl_alloc ?_ _ | refine Below.setCell ?_ (by first | (simp; done) | (simp; omega)) _))) hbl.out hbos.out (by omega) (by omega) (by omega)).mono ?_
  rintro e w' ⟨Ag0, cg0, rfl, og0, g12, rfl⟩
  go_wp2_with fail
  refine (eqInt64S_any _ _ _ _ L0 _ ((Rds.of_own og0).below (by repeat (first | exact Below.refl _ _ | refine bl_tr ?_ _ | refine bl_al ?_ _ | refine bl_dr ?_ | refine bl_up ?_ _ | refine Below.drew ?_ | refine bl_alloc ?_ _ | refine Below.setCell ?_ (by first | (simp; done) | (simp; omega)) _))) ((Rds.of_own ow0).below (by repeat (first | exact Below.refl _ _ | refine bl_tr ?_ _ | refine bl_al ?_ _ | refine bl_dr ?_ | refine bl_up ?_ _ | refine Below.drew ?_ | refine bl_alloc ?_ _ | refine Below.setCell ?_ (by first | (simp; done) | (simp; omega)) _))) (by omega)).mono ?_
  rintro e w' ⟨rfl, g13, rfl⟩
  go_wp2_with fail
  refine (toWareS_any _ _ l _ (hl.below (by repeat (first | exact Below.refl _ _ | refine bl_tr ?_ _ | refine bl_al ?_ _ | refine bl_dr ?_ | refine bl_up ?_ _ | refine Below.drew ?_ | refine bl_alloc ?_ _ | refine Below.setCell ?_ (by first | (simp; done) | (simp; omega)) _))) (by omega) (wTot_in hbl.out)).mono ?_
  rintro e w' ⟨b7, ps7, rfl, o7, g14, rfl⟩
  go_wp2_with fail
  refine (eqWareS_any _ _ _ _ l _ (o4.see.below (by repeat (first | exact Below.refl _ _ | refine bl_tr ?_ _ | refine bl_al ?_ _ | refine bl_dr ?_ | refine bl_up ?_ _ | refine Below.drew ?_ | refine bl_alloc ?_ _ | refine Below.setCell ?_ (by first | (simp; done) | (simp; omega)) _))) (o7.see.below (by repeat (first | exact Below.refl _ _ | refine bl_tr ?_ _ | refine bl_al ?_ _ | refine bl_dr ?_ | refine bl_up ?_ _ | refine Below.drew ?_ | refine bl_alloc ?_ _ | refine Below.setCell ?_ (by first | (simp; done) | (simp; omega)) _))) (by omega) (wTot_in hbl.out)).mono ?_
  rintro e w' ⟨rfl, g15, rfl⟩
  go_wp2_with fail
  refine (toOfferS_any _ _ os _ (hos.below (by repeat (first | exact Below.refl _ _ | refine bl_tr ?_ _ | refine bl_al ?_ _ | refine bl_dr ?_ | refine bl_up ?_ _ | refine Below.drew ?_ | refine bl_alloc ?_ _ | refine Below.setCell ?_ (by first | (simp; done) | (simp; omega)) _))) (by omega) (oTot_in hbos.out)).mono ?_
  rintro e w' ⟨b8, ps8, rfl, o8, g16, rfl⟩
  go_wp2_with fail
  refine (eqOfferS_any _ _ _ _ os _ (o5.see.below (by repeat (first | exact Below.refl _ _ | refine bl_tr ?_ _ | refine bl_al ?_ _ | refine bl_dr ?_ | refine bl_up ?_ _ | refine Below.drew ?_ | refine bl_alloc ?_ _ | refine Below.setCell ?_ (by first | (simp; done) | (simp; omega)) _))) (o8.see.below (by repeat (first | exact Below.refl _ _ | refine bl_tr ?_ _ | refine bl_al ?_ _ | refine bl_dr ?_ | refine bl_up ?_ _ | refine Below.drew ?_ | refine bl_alloc ?_ _ | refine Below.setCell ?_ (by first | (simp; done) | (simp; omega)) _))) (by omega) (oTot_in hbos.out)).mono ?_
  rintro e w' ⟨rfl, g17, rfl⟩
  go_wp2_with fail
  refine (toInt64S_any _ _ many _ (hmany.below (by repeat (first | exact Below.refl _ _ | refine bl_tr ?_ _ | refine bl_al ?_ _ | refine bl_dr ?_ | refine bl_up ?_ _ | refine Below.drew ?_ | refine bl_alloc ?_ _ | refine Below.setCell ?_ (by first | (simp; done) | (simp; omega)) _))) (by omega)).mono ?_
  rintro e w' ⟨b9, rfl, o9, g18, rfl⟩
  go_wp2_with fail
  refine (eqInt64S_any _ _ _ _ many _ ((Rds.of_own o6).below (by repeat (first | exact Below.refl _ _ | refine bl_tr ?_ _ | refine bl_al ?_ _ | refine bl_dr ?_ | refine bl_up ?_ _ | refine Below.drew ?_ | refine bl_alloc ?_ _ | refine Below.setCell ?_ (by first | (simp; done) | (simp; omega)) _))) ((Rds.of_own o9).below (by repeat (first | exact Below.refl _ _ | refine bl_tr ?_ _ | refine bl_al ?_ _ | refine bl_dr ?_ | refine bl_up ?_ _ | refine Below.drew ?_ | refine bl_alloc ?_ _ | refine Below.setCell ?_ (by first | (simp; done) | (simp; omega)) _))) (by omega)).mono ?_
  rintro e w' ⟨rfl, g19, rfl⟩
  have hmkl := Lib.hid (wMk_bd1 (l := l) (by omega))
  go_wp2_with fail
  refine (markWareS_any _ _ _ 1 l _ _ ((o4.shape).below (by repeat (first | exact Below.refl _ _ | refine bl_tr ?_ _ | refine bl_al ?_ _ | refine bl_dr ?_ | refine bl_up ?_ _ | refine Below.drew ?_ | refine bl_alloc ?_ _ | refine Below.setCell ?_ (by first | (simp; done) | (simp; omega)) _))) (by omega) (by have := hmkl.out; omega) (by omega)).mono ?_
  rintro e w' ⟨rfl, shl, hgk⟩
  have rw0_l := hgk.rds ((Rds.of_own ow0).below (by repeat (first | exact Below.refl _ _ | refine bl_tr ?_ _ | refine bl_al ?_ _ | refine bl_dr ?_ | refine bl_up ?_ _ | refine Below.drew ?_ | refine bl_alloc ?_ _ | refine Below.setCell ?_ (by first | (simp; done) | (simp; omega)) _))) (fun _ b off e => .inl (Nat.lt_of_lt_of_le (own_block ow0 e).2.1 (by first | exact Nat.le_refl _ | exact (up_below _ _).size | exact Nat.le_trans (up_below _ _).size (up_below _ _).size | (simp; done) | (repeat (first | exact Nat.le_refl _ | refine Nat.le_trans ?_ (le_tr_self _))))))
  have og0_l := hgk.own (own_below og0 (by repeat (first | exact Below.refl _ _ | refine bl_tr ?_ _ | refine bl_al ?_ _ | refine bl_dr ?_ | refine bl_up ?_ _ | refine Below.drew ?_ | refine bl_alloc ?_ _ | refine Below.setCell ?_ (by first | (simp; done) | (simp; omega)) _))) (.inl (by first | exact Nat.le_refl _ | exact (up_below _ _).size | exact Nat.le_trans (up_below _ _).size (up_below _ _).size | (simp; done) | (repeat (first | exact Nat.le_refl _ | refine Nat.le_trans ?_ (le_tr_self _)))))
  have sh5 := OShape.only ((o5.shape).below (by repeat (first | exact Below.refl _ _ | refine bl_tr ?_ _ | refine bl_al ?_ _ | refine bl_dr ?_ | refine bl_up ?_ _ | refine Below.drew ?_ | refine bl_alloc ?_ _ | refine Below.setCell ?_ (by first | (simp; done) | (simp; omega)) _))) hgk (by first | exact Nat.le_refl _ | exact (up_below _ _).size | exact Nat.le_trans (up_below _ _).size (up_below _ _).size | (simp; done) | (repeat (first | exact Nat.le_refl _ | refine Nat.le_trans ?_ (le_tr_self _))))
  have o6_l := hgk.own (own_below o6 (by repeat (first | exact Below.refl _ _ | refine bl_tr ?_ _ | refine bl_al ?_ _ | refine bl_dr ?_ | refine bl_up ?_ _ | refine Below.drew ?_ | refine bl_alloc ?_ _ | refine Below.setCell ?_ (by first | (simp; done) | (simp; omega)) _))) (.inl (by first | exact Nat.le_refl _ | exact (up_below _ _).size | exact Nat.le_trans (up_below _ _).size (up_below _ _).size | (simp; done) | (repeat (first | exact Nat.le_refl _ | refine Nat.le_trans ?_ (le_tr_self _)))))
  obtain ⟨g20, rfl⟩ := hgk.upOf (W := w) (by repeat (first | exact Below.refl _ _ | refine bl_tr ?_ _ | refine bl_al ?_ _ | refine bl_dr ?_ | refine bl_up ?_ _ | refine Below.drew ?_ | refine bl_alloc ?_ _ | refine Below.setCell ?_ (by first | (simp; done) | (simp; omega)) _)) (by first | exact Nat.le_refl _ | exact (up_below _ _).size | exact Nat.le_trans (up_below _ _).size (up_below _ _).size | (simp; done) | (repeat (first | exact Nat.le_refl _ | refine Nat.le_trans ?_ (le_tr_self _))))
  clear hgk
  have hmkos := Lib.hid (oMk_bd1 (l := os) (by omega))
  go_wp2_with fail
  refine (markOfferS_any _ _ _ (1 + wMk l l.length) os _ _ (sh5.below (by repeat (first | exact Below.refl _ _ | refine bl_tr ?_ _ | refine bl_al ?_ _ | refine bl_dr ?_ | refine bl_up ?_ _ | refine Below.drew ?_ | refine bl_alloc ?_ _ | refine Below.setCell ?_ (by first | (simp; done) | (simp; omega)) _))) (by omega) (by have := hmkos.out; have := hmkl.out; omega) (by omega)).mono ?_
  rintro e w' ⟨rfl, shos, hgk⟩
  have rw0_os := hgk.rds (rw0_l.below (by repeat (first | exact Below.refl _ _ | refine bl_tr ?_ _ | refine bl_al ?_ _ | refine bl_dr ?_ | refine bl_up ?_ _ | refine Below.drew ?_ | refine bl_alloc ?_ _ | refine Below.setCell ?_ (by first | (simp; done) | (simp; omega)) _))) (fun _ b off e => .inl (Nat.lt_of_lt_of_le (own_block ow0 e).2.1 (by first | exact Nat.le_refl _ | exact (up_below _ _).size | exact Nat.le_trans (up_below _ _).size (up_below _ _).size | (simp; done) | (repeat (first | exact Nat.le_refl _ | refine Nat.le_trans ?_ (le_tr_self _))))))
  have og0_os := hgk.own (own_below og0_l (by repeat (first | exact Below.refl _ _ | refine bl_tr ?_ _ | refine bl_al ?_ _ | refine bl_dr ?_ | refine bl_up ?_ _ | refine Below.drew ?_ | refine bl_alloc ?_ _ | refine Below.setCell ?_ (by first | (simp; done) | (simp; omega)) _))) (.inl (by first | exact Nat.le_refl _ | exact (up_below _ _).size | exact Nat.le_trans (up_below _ _).size (up_below _ _).size | (simp; done) | (repeat (first | exact Nat.le_refl _ | refine Nat.le_trans ?_ (le_tr_self _)))))
  have o6_os := hgk.own (own_below o6_l (by repeat (first | exact Below.refl _ _ | refine bl_tr ?_ _ | refine bl_al ?_ _ | refine bl_dr ?_ | refine bl_up ?_ _ | refine Below.drew ?_ | refine bl_alloc ?_ _ | refine Below.setCell ?_ (by first | (simp; done) | (simp; omega)) _))) (.inl (by first | exact Nat.le_refl _ | exact (up_below _ _).size | exact Nat.le_trans (up_below _ _).size (up_below _ _).size | (simp; done) | (repeat (first | exact Nat.le_refl _ | refine Nat.le_trans ?_ (le_tr_self _)))))
  obtain ⟨g21, rfl⟩ := hgk.upOf (W := w) (by repeat (first | exact Below.refl _ _ | refine bl_tr ?_ _ | refine bl_al ?_ _ | refine bl_dr ?_ | refine bl_up ?_ _ | refine Below.drew ?_ | refine bl_alloc ?_ _ | refine Below.setCell ?_ (by first | (simp; done) | (simp; omega)) _)) (by first | exact Nat.le_refl _ | exact (up_below _ _).size | exact Nat.le_trans (up_below _ _).size (up_below _ _).size | (simp; done) | (repeat (first | exact Nat.le_refl _ | refine Nat.le_trans ?_ (le_tr_self _))))
  clear hgk
  go_wp2_with fail
  refine (markInt64S_any _ _ _ _ ((1 + wMk l l.length) + oMk os os.length) _ _ (own_below o6_os (by repeat (first | exact Below.refl _ _ | refine bl_tr ?_ _ | refine bl_al ?_ _ | refine bl_dr ?_ | refine bl_up ?_ _ | refine Below.drew ?_ | refine bl_alloc ?_ _ | refine Below.setCell ?_ (by first | (simp; done) | (simp; omega)) _))) (by omega) (by have := hmkos.out; have := hmkl.out; omega)).mono ?_
  rintro e w' ⟨rfl, mkmany, hgk⟩
  have rw0_many := (rw0_os.below (by repeat (first | exact Below.refl _ _ | refine bl_tr ?_ _ | refine bl_al ?_ _ | refine bl_dr ?_ | refine bl_up ?_ _ | refine Below.drew ?_ | refine bl_alloc ?_ _ | refine Below.setCell ?_ (by first | (simp; done) | (simp; omega)) _))).grown hgk (fun _ => own_apart ow0 o6 (by first | exact Nat.le_refl _ | exact (up_below _ _).size | exact Nat.le_trans (up_below _ _).size (up_below _ _).size | (simp; done) | (repeat (first | exact Nat.le_refl _ | refine Nat.le_trans ?_ (le_tr_self _)))))
  have og0_many := (own_below og0_os (by repeat (first | exact Below.refl _ _ | refine bl_tr ?_ _ | refine bl_al ?_ _ | refine bl_dr ?_ | refine bl_up ?_ _ | refine Below.drew ?_ | refine bl_alloc ?_ _ | refine Below.setCell ?_ (by first | (simp; done) | (simp; omega)) _))).kept hgk (own_far o6 og0 (by first | exact Nat.le_refl _ | exact (up_below _ _).size | exact Nat.le_trans (up_below _ _).size (up_below _ _).size | (simp; done) | (repeat (first | exact Nat.le_refl _ | refine Nat.le_trans ?_ (le_tr_self _)))))
  obtain ⟨g22, rfl⟩ := up_of_mark (W := w) (by repeat (first | exact Below.refl _ _ | refine bl_tr ?_ _ | refine bl_al ?_ _ | refine bl_dr ?_ | refine bl_up ?_ _ | refine Below.drew ?_ | refine bl_alloc ?_ _ | refine Below.setCell ?_ (by first | (simp; done) | (simp; omega)) _)) (own_below o6_os (by repeat (first | exact Below.refl _ _ | refine bl_tr ?_ _ | refine bl_al ?_ _ | refine bl_dr ?_ | refine bl_up ?_ _ | refine Below.drew ?_ | refine bl_alloc ?_ _ | refine Below.setCell ?_ (by first | (simp; done) | (simp; omega)) _))) (by first | exact Nat.le_refl _ | exact (up_below _ _).size | exact Nat.le_trans (up_below _ _).size (up_below _ _).size | (simp; done) | (repeat (first | exact Nat.le_refl _ | refine Nat.le_trans ?_ (le_tr_self _)))) hgk
  clear hgk
  go_wp2_with fail
  refine (eqInt64S_any _ _ _ _ L0 _ ((Rds.of_own og0_many).below (by repeat (first | exact Below.refl _ _ | refine bl_tr ?_ _ | refine bl_al ?_ _ | refine bl_dr ?_ | refine bl_up ?_ _ | refine Below.drew ?_ | refine bl_alloc ?_ _ | refine Below.setCell ?_ (by first | (simp; done) | (simp; omega)) _))) (rw0_many.below (by repeat (first | exact Below.refl _ _ | refine bl_tr ?_ _ | refine bl_al ?_ _ | refine bl_dr ?_ | refine bl_up ?_ _ | refine Below.drew ?_ | refine bl_alloc ?_ _ | refine Below.setCell ?_ (by first | (simp; done) | (simp; omega)) _))) (by omega)).mono ?_
  rintro e w' ⟨rfl, g23, rfl⟩
  go_wp2_with fail
  refine (markInt64S_any _ _ _ _ 1 _ _ (own_below og0_many (by repeat (first | exact Below.refl _ _ | refine bl_tr ?_ _ | refine bl_al ?_ _ | refine bl_dr ?_ | refine bl_up ?_ _ | refine Below.drew ?_ | refine bl_alloc ?_ _ | refine Below.setCell ?_ (by first | (simp; done) | (simp; omega)) _))) (by omega) (by omega)).mono ?_
  rintro e w' ⟨rfl, m0, hgm⟩
  have rm0_0 := (rw0_many.below (by repeat (first | exact Below.refl _ _ | refine bl_tr ?_ _ | refine bl_al ?_ _ | refine bl_dr ?_ | refine bl_up ?_ _ | refine Below.drew ?_ | refine bl_alloc ?_ _ | refine Below.setCell ?_ (by first | (simp; done) | (simp; omega)) _))).grown hgm (fun _ => own_apart ow0 og0 (by first | exact Nat.le_refl _ | exact (up_below _ _).size | exact Nat.le_trans (up_below _ _).size (up_below _ _).size | (simp; done) | (repeat (first | exact Nat.le_refl _ | refine Nat.le_trans ?_ (le_tr_self _)))))
  obtain ⟨g24, rfl⟩ := up_of_mark (W := w) (by repeat (first | exact Below.refl _ _ | refine bl_tr ?_ _ | refine bl_al ?_ _ | refine bl_dr ?_ | refine bl_up ?_ _ | refine Below.drew ?_ | refine bl_alloc ?_ _ | refine Below.setCell ?_ (by first | (simp; done) | (simp; omega)) _)) (own_below og0_many (by repeat (first | exact Below.refl _ _ | refine bl_tr ?_ _ | refine bl_al ?_ _ | refine bl_dr ?_ | refine bl_up ?_ _ | refine Below.drew ?_ | refine bl_alloc ?_ _ | refine Below.setCell ?_ (by first | (simp; done) | (simp; omega)) _))) (by first | exact Nat.le_refl _ | exact (up_below _ _).size | exact Nat.le_trans (up_below _ _).size (up_below _ _).size | (simp; done) | (repeat (first | exact Nat.le_refl _ | refine Nat.le_trans ?_ (le_tr_self _)))) hgm
  clear hgm
  go_wp2_with fail
  refine (heldInt64S_any _ _ _ 1 _ ((Rds.of_own m0).below (by repeat (first | exact Below.refl _ _ | refine bl_tr ?_ _ | refine bl_al ?_ _ | refine bl_dr ?_ | refine bl_up ?_ _ | refine Below.drew ?_ | refine bl_alloc ?_ _ | refine Below.setCell ?_ (by first | (simp; done) | (simp; omega)) _))) (by omega) (by omega)).mono ?_
  rintro e w' ⟨rfl, g25, rfl⟩
  go_wp2_with fail
  refine (toWareS_any _ _ l _ (hl.below (by repeat (first | exact Below.refl _ _ | refine bl_tr ?_ _ | refine bl_al ?_ _ | refine bl_dr ?_ | refine bl_up ?_ _ | refine Below.drew ?_ | refine bl_alloc ?_ _ | refine Below.setCell ?_ (by first | (simp; done) | (simp; omega)) _))) (by omega) (wTot_in hbl.out)).mono ?_
  rintro e w' ⟨b10, ps10, rfl, o10, g26, rfl⟩
  go_wp2_with fail
  refine (toOfferS_any _ _ os _ (hos.below (by repeat (first | exact Below.refl _ _ | refine bl_tr ?_ _ | refine bl_al ?_ _ | refine bl_dr ?_ | refine bl_up ?_ _ | refine Below.drew ?_ | refine bl_alloc ?_ _ | refine Below.setCell ?_ (by first | (simp; done) | (simp; omega)) _))) (by omega) (oTot_in hbos.out)).mono ?_
  rintro e w' ⟨b11, ps11, rfl, o11, g27, rfl⟩
  go_wp2_with fail
  refine (toInt64S_any _ _ many _ (hmany.below (by repeat (first | exact Below.refl _ _ | refine bl_tr ?_ _ | refine bl_al ?_ _ | refine bl_dr ?_ | refine bl_up ?_ _ | refine Below.drew ?_ | refine bl_alloc ?_ _ | refine Below.setCell ?_ (by first | (simp; done) | (simp; omega)) _))) (by omega)).mono ?_
  rintro e w' ⟨b12, rfl, o12, g28, rfl⟩
  go_wp2_with fail
  refine (bestI' HL _ (o10.see.below (by repeat (first | exact Below.refl _ _ | refine bl_tr ?_ _ | refine bl_al ?_ _ | refine bl_dr ?_ | refine bl_up ?_ _ | refine Below.drew ?_ | refine bl_alloc ?_ _ | refine Below.setCell ?_ (by first | (simp; done) | (simp; omega)) _))) (o11.see.below (by repeat (first | exact Below.refl _ _ | refine bl_tr ?_ _ | refine bl_al ?_ _ | refine bl_dr ?_ | refine bl_up ?_ _ | refine Below.drew ?_ | refine bl_alloc ?_ _ | refine Below.setCell ?_ (by first | (simp; done) | (simp; omega)) _))) ((Rds.of_own o12).below (by repeat (first | exact Below.refl _ _ | refine bl_tr ?_ _ | refine bl_al ?_ _ | refine bl_dr ?_ | refine bl_up ?_ _ | refine Below.drew ?_ | refine bl_alloc ?_ _ | refine Below.setCell ?_ (by first | (simp; done) | (simp; omega)) _))) hbl.out hbos.out (by omega) (by omega) (by omega)).mono ?_
  rintro e w' ⟨Ah0, ch0, rfl, oh0, g29, rfl⟩
  go_wp2_with fail
  refine (eqInt64S_any _ _ _ _ L0 _ ((Rds.of_own oh0).below (by repeat (first | exact Below.refl _ _ | refine bl_tr ?_ _ | refine bl_al ?_ _ | refine bl_dr ?_ | refine bl_up ?_ _ | refine Below.drew ?_ | refine bl_alloc ?_ _ | refine Below.setCell ?_ (by first | (simp; done) | (simp; omega)) _))) (rm0_0.below (by repeat (first | exact Below.refl _ _ | refine bl_tr ?_ _ | refine bl_al ?_ _ | refine bl_dr ?_ | refine bl_up ?_ _ | refine Below.drew ?_ | refine bl_alloc ?_ _ | refine Below.setCell ?_ (by first | (simp; done) | (simp; omega)) _))) (by omega)).mono ?_
  rintro e w' ⟨rfl, g30, rfl⟩
  go_wp2_with fail
  refine (heldInt64S_any _ _ _ 1 _ ((Rds.of_own m0).below (by repeat (first | exact Below.refl _ _ | refine bl_tr ?_ _ | refine bl_al ?_ _ | refine bl_dr ?_ | refine bl_up ?_ _ | refine Below.drew ?_ | refine bl_alloc ?_ _ | refine Below.setCell ?_ (by first | (simp; done) | (simp; omega)) _))) (by omega) (by omega)).mono ?_
  rintro e w' ⟨rfl, g31, rfl⟩
  go_wp2_with fail
  go_ret
  exact ⟨rfl, UpOf.of (by repeat (first | exact Below.refl _ _ | refine bl_tr ?_ _ | refine bl_al ?_ _ | refine bl_dr ?_ | refine bl_up ?_ _ | refine Below.drew ?_ | refine bl_alloc ?_ _ | refine Below.setCell ?_ (by first | (simp; done) | (simp; omega)) _))⟩
end Go.Proofs.Ytiibpldfnnhhlaa

/-
  What stays of a source and its bytes when the world grows elsewhere; the reference's drawing of prices. The bounds stand at each.
-/
import Derived.Test.YtfggbcmpgkhlaaaSrc
import Derived.Test.YtfggbcmpgkhlaaaTest2
namespace Go.Proofs.Ytfggbcmpgkhlaaa
open Go.RowKit
theorem gr_far {a w w' : World} {row row2 : Option Nat} (h : a.grownBy w row) (k : w.grownBy w' row2) (hr : ∀ j, row2 = some j → a.heap.size ≤ j) : a.grownBy w' row :=
  ⟨k.os.trans h.os, k.tape.trans h.tape, k.output.trans h.output, Nat.le_trans h.size k.size, fun i hi hne => (k.block i (Nat.lt_of_lt_of_le hi h.size) (fun e => by have := hr i e.symm; omega)).trans (h.block i hi hne)⟩
theorem SrcAt.kept {w w' : World} {b n c k : Nat} {A : Option Addr} {row : Option Nat} (h : SrcAt w b A n c k) (hg : w.grownBy w' row) (hne : some b ≠ row) : SrcAt w' b A n c k := by
  obtain ⟨s, h0, h1, hB⟩ := h
  exact ⟨s, h0, h1, hB.grown hg hne⟩
theorem Byt.kept {w w' : World} {b n : Nat} {A : Option Addr} {row : Option Nat} (h : Byt w b A n) (hg : w.grownBy w' row) (hr : ∀ j, row = some j → b ≤ j) : Byt w' b A n := by
  obtain ⟨zs, h1, h2, h3⟩ := h
  exact ⟨zs, h1, h2.grown hg (fun hn b' off hA he => by have := h3 (by omega) b' off hA; have := hr b' he.symm; omega), h3⟩
set_option maxRecDepth 10000 in
set_option maxHeartbeats 4000000 in
theorem prices_any (b : Nat) (A : Option Addr) (n c k : Nat) (w : World) (h : SrcAt w b A n c k) (hb : Byt w b A n) (hk : k ≤ 100000) (hn : n ≤ 1000000) :
    Calls Try.prog 36 #[.pointer (some ⟨b, 0, none⟩)] w fun e w' => ∃ (l : List Int) (A' : Option Addr) (c' k' : Nat), e = .returned (.slice A' l.length c') ∧ w'.ownsRow w.heap.size 2 1 (.slice A' l.length c') l.length (ics l) ∧ (∀ x ∈ l, 1 ≤ x ∧ x ≤ 12) ∧ l.length ≤ 5 ∧ k' ≤ k + 12 ∧ SrcAt w' b A n c k' ∧ w.grownBy w' (some b) := by
  have hlt := h.lt
  have HS := Lib.hid h
  have HB := Lib.hid hb
  have hOwn := Lib.hid (World.ownsRow_lit (base := w.heap.size) (e := 2) (size := 1) w #[] 0 (Nat.le_refl _) (by unfold maxLen; omega) rfl)
  clear h hb
  go_enter Try.func36, Try.ntmps36
  go_wp2_with fail
  refine (pick_any b A n c k 6 _ (HS.out.alloc _) (HB.out.alloc _) (by omega) hn (by omega)).mono ?_
  rintro e w1 ⟨x, k1, rfl, y0, y1, hk1, hs1, hg1⟩
  obtain ⟨j0, rfl⟩ : ∃ j : Nat, x = (j : Int) := ⟨x.toNat, by omega⟩
  have hj0 : j0 ≤ 5 := by omega
  have S1 := Lib.hid hs1
  have B1 := Lib.hid ((HB.out.alloc _).grown hg1)
  have O1 := Lib.hid (hOwn.out.kept hg1 (.inr (fun e => by injection e with e; exact absurd e.symm (Nat.ne_of_lt hlt))))
  have G1 := Lib.hid (show w.grownBy w1 (some b) from grown_trans (gr_alloc (grown_refl w _) _) hg1)
  clear hs1 hg1 y1 y0
  go_wp2_with fail
  go_loopw [3, 4] (fun o kk wr => ∃ (l : List Int) (A' : Option Addr) (c' j k' : Nat), kk = i64 j ∧ o = .slice A' l.length c' ∧ Hid (∀ x ∈ l, 1 ≤ x ∧ x ≤ 12) ∧ l.length + j ≤ 5 ∧ k' + 2 * j ≤ k + 12 ∧ SrcAt wr b A n c k' ∧ Byt wr b A n ∧ wr.ownsRow w.heap.size 2 1 (.slice A' l.length c') l.length (ics l) ∧ w.grownBy wr (some b)) (fun _ kk _ => (intOf kk).toNat)
  case atStart => exact ⟨[], _, _, j0, k1, rfl, rfl, fun x hx => by simp at hx, by simp; omega, by omega, S1.out, B1.out, O1.out, G1.out⟩
  case round =>
    obtain ⟨l, A', c', j, k', rfl, rfl, hva, hlj, hkj, hs, hbt, hown, hgr⟩ := hrel
    have HSR := Lib.hid hs
    have HBT := Lib.hid hbt
    have HOWN := Lib.hid hown
    have HGR := Lib.hid hgr
    clear hs hbt hown hgr
    by_cases hj : 0 < j
    · have hj' : (0 : Int) < (j : Int) := by omega
      go_wp2_with fail
      refine (pick_any b A n c k' 12 wr HSR.out HBT.out (by omega) hn (by omega)).mono ?_
      rintro e w2 ⟨x, k2, rfl, y0, y1, hk2, hs2, hg2⟩
      have S2 := Lib.hid hs2
      have B2 := Lib.hid (HBT.out.grown hg2)
      have O2 := Lib.hid (HOWN.out.kept hg2 (by cases hv : (Value.slice A' l.length c').ownBlock with | none => exact .inl rfl | some q => exact .inr (fun e => by injection e with e; have := (HOWN.out.lt q hv).1; omega)))
      have G2 := Lib.hid (grown_trans HGR.out hg2)
      clear hs2 hg2 HSR HBT HOWN HGR
      have hx12 : x < 12 := by omega
      clear y1
      have hbs : w.heap.size ≤ w2.heap.size := G2.out.size
      have hb1 : (w2.alloc (.cells #[i64 (1 + x)] 2)).ownsRow w.heap.size 2 1 (.slice A' l.length c') l.length (ics l) := own_below O2.out (by repeat (first | exact Below.refl _ _ | refine bl_tr ?_ _ | refine bl_al ?_ _ | refine bl_dr ?_ | refine bl_up ?_ _ | refine Below.drew ?_ | refine bl_alloc ?_ _ | refine Below.setCell ?_ (by first | (simp; done) | (simp; omega)) _))
      have hb2 : w.heap.size ≤ (w2.alloc (.cells #[i64 (1 + x)] 2)).heap.size := by simp; omega
      go_wp2_with (at_builtin; refine wpl_app rfl _ _ 25 rfl w.heap.size 2 (i64 0) 1 8 el_int (.slice A' l.length c') l.length (ics l) rfl hb1 (some ⟨w2.heap.size, 0, none⟩) 1 1 [i64 (1 + x)] rfl (rds_new _ #[i64 (1 + x)] _ 1 1 rfl) (fun u hu => by simp at hu; subst hu; rfl) (by unfold maxLen; omega) (by omega) hb2 ?_; intro A2 c2 W2 o2 hgr2)
      go_roundw
      case rel => exact ⟨l ++ [1 + x], A2, c2, j - 1, k2, by go_num, by rw [List.length_append]; rfl, fun y hy => by
          rw [List.mem_append, List.mem_singleton] at hy
          rcases hy with hy | rfl
          · exact hva.out y hy
          · omega, by rw [List.length_append, List.length_singleton]; omega, by omega,
        (S2.out.alloc _).kept hgr2 (fun e => absurd (O2.out.lt _ e.symm).1 (by omega)),
        (B2.out.alloc _).kept hgr2 (fun j hj => by have := (O2.out.lt j hj).1; omega),
        by rw [List.length_append, ics_app]; exact o2, gr_far (gr_alloc G2.out _) hgr2 (fun j hj => (O2.out.lt j hj).1)⟩
      case measure => (simp [intOf]; try omega)
    · obtain rfl : j = 0 := by omega
      go_wp2_with fail
      go_ret
      exact ⟨l, A', c', k', rfl, HOWN.out, hva.out, by omega, by omega, HSR.out, HGR.out⟩
end Go.Proofs.Ytfggbcmpgkhlaaa

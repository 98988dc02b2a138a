/-
  The reference's drawing of answers: as many as there are tests, each 0, 1 or ?. The bounds stand at it.
-/
import Derived.Test.YtfggbcmpgkhlaaaSrcKept
import Derived.Test.YtfggbcmpgkhlaaaStrApp
namespace Go.Proofs.Ytfggbcmpgkhlaaa
open Go.RowKit
def ansOk (l : List UInt8) : Prop := ∀ x ∈ l, x = 48 ∨ x = 49 ∨ x = 63
theorem ansOk_snoc {l : List UInt8} (h : ansOk l) {x : UInt8} (hx : x = 48 ∨ x = 49 ∨ x = 63) : ansOk (l ++ [x]) := fun y hy => by
  rw [List.mem_append, List.mem_singleton] at hy
  rcases hy with hy | rfl
  · exact h y hy
  · exact hx
set_option maxRecDepth 10000 in
set_option maxHeartbeats 4000000 in
theorem a2Answers_any (A : Option Addr) (n c m : Nat) (zs : List Int) (w0 : World) (hz : ∀ z ∈ zs, 0 ≤ z ∧ z ≤ 255) (h : Rds w0 1 A n (bytes zs)) (hn : n ≤ 3000) (hm : m ≤ 100) :
    Calls Try.prog 20 #[.slice A n c, i64 m] w0 fun e w' => ∃ l : List UInt8, e = .returned (.string ⟨l.toArray⟩) ∧ l.length = m ∧ ansOk l ∧ UpOf w0 w' := by
  have HR := Lib.hid h
  clear h
  go_enter Try.func20, Try.ntmps20
  go_wp2_with fail
  refine (l00From_any A n c _).mono ?_
  rintro e w ⟨rfl, hw⟩
  have hs0 := src_new w0 A n c
  have hb0 := byt_new hz HR.out (.cells #[.slice A n c, .int .i64 0, .int .u64 0] 82)
  have hu0 : UpOf w0 (w0.alloc (.cells #[.slice A n c, .int .i64 0, .int .u64 0] 82)) := UpOf.of (by repeat (first | exact Below.refl _ _ | refine bl_tr ?_ _ | refine bl_al ?_ _ | refine bl_dr ?_ | refine bl_up ?_ _ | refine Below.drew ?_ | refine bl_alloc ?_ _ | refine Below.setCell ?_ (by first | (simp; done) | (simp; omega)) _))
  have hlt : w0.heap.size < (w0.alloc (.cells #[.slice A n c, .int .i64 0, .int .u64 0] 82)).heap.size := by simp
  rw [← hw] at hs0 hb0 hu0 hlt
  have HS := Lib.hid hs0
  have HB := Lib.hid hb0
  have HU := Lib.hid hu0
  have hbw := Lib.hid (show w0.heap.size ≤ w0.heap.size from Nat.le_refl _)
  clear hw hs0 hb0 hu0 hz HR
  obtain ⟨b, hb⟩ : ∃ b, w0.heap.size = b := ⟨_, rfl⟩
  rw [hb] at HS HB hlt
  have hOwn := Lib.hid (World.ownsRow_lit (base := w.heap.size) (e := 5) (size := 1) w #[] 0 (Nat.le_refl _) (by unfold maxLen; omega) rfl)
  rw [hb]
  go_wp2_with fail
  go_loopw [6, 7] (fun o kk wr => ∃ (l : List UInt8) (A' : Option Addr) (c' k' : Nat), kk = i64 l.length ∧ o = .slice A' l.length c' ∧ Hid (ansOk l) ∧ l.length ≤ m ∧ k' ≤ 2 * l.length ∧ SrcAt wr b A n c k' ∧ Byt wr b A n ∧ wr.ownsRow w.heap.size 5 1 (.slice A' l.length c') l.length (Lib.byteCells l) ∧ w.grownBy wr (some b)) (fun _ kk _ => m - (intOf kk).toNat)
  case atStart => exact ⟨[], _, _, 0, rfl, rfl, fun x hx => (by simp at hx), by simp, by simp, HS.out.alloc _, HB.out.alloc _, hOwn.out, gr_alloc (grown_refl w _) _⟩
  case round =>
    obtain ⟨l, A', c', k', rfl, rfl, hva, hlm, hkl, hs, hbt, hown, hgr⟩ := hrel
    have HSR := Lib.hid hs
    have HBT := Lib.hid hbt
    have HOWN := Lib.hid hown
    have HGR := Lib.hid hgr
    clear hs hbt hown hgr
    by_cases hj : l.length < m
    · go_wp2_with fail
      refine (pick_any b A n c k' 6 wr HSR.out HBT.out (by omega) (by omega) (by omega)).mono ?_
      rintro e w2 ⟨x, k2, rfl, y0, y1, hk2, hs2, hg2⟩
      have S2 := Lib.hid hs2
      have B2 := Lib.hid (HBT.out.grown hg2)
      have O2 := Lib.hid (HOWN.out.kept hg2 (by cases hv : (Value.slice A' l.length c').ownBlock with | none => exact .inl rfl | some q => exact .inr (fun e => by injection e with e; have := (HOWN.out.lt q hv).1; omega)))
      have G2 := Lib.hid (grown_trans HGR.out hg2)
      clear hs2 hg2 HSR HBT HOWN HGR
      have hx6 : x = 0 ∨ x = 1 ∨ x = 2 ∨ x = 3 ∨ x = 4 ∨ x = 5 := by omega
      have hbs : w.heap.size ≤ w2.heap.size := G2.out.size
      clear y1 y0
      rcases hx6 with rfl | rfl | rfl | rfl | rfl | rfl
      · have hb1 : (w2.alloc (.cells #[.int .u8 48] 5)).ownsRow w.heap.size 5 1 (.slice A' l.length c') l.length (Lib.byteCells l) := own_below O2.out (by repeat (first | exact Below.refl _ _ | refine bl_tr ?_ _ | refine bl_al ?_ _ | refine bl_dr ?_ | refine bl_up ?_ _ | refine Below.drew ?_ | refine bl_alloc ?_ _ | refine Below.setCell ?_ (by first | (simp; done) | (simp; omega)) _))
        have hb2 : w.heap.size ≤ (w2.alloc (.cells #[.int .u8 48] 5)).heap.size := by simp; omega
        go_wp2_with (at_builtin; refine wpl_app rfl _ _ 22 rfl w.heap.size 5 (.int .u8 0) 1 1 el_byte (.slice A' l.length c') l.length (Lib.byteCells l) rfl hb1 (some ⟨w2.heap.size, 0, none⟩) 1 1 [.int .u8 48] rfl (rds_new _ #[.int .u8 48] _ 1 1 rfl) (fun u hu => by simp at hu; subst hu; rfl) (by unfold maxLen; omega) (by omega) hb2 ?_; intro A2 c2 W2 o2 hgr2)
        go_roundw
        case rel => exact ⟨l ++ [48], A2, c2, k2, by rw [List.length_append]; go_num, by rw [List.length_append]; rfl, ansOk_snoc hva.out (by decide), by rw [List.length_append, List.length_singleton]; omega, by rw [List.length_append, List.length_singleton]; omega,
          (S2.out.alloc _).kept hgr2 (fun e => absurd (O2.out.lt _ e.symm).1 (by omega)),
          (B2.out.alloc _).kept hgr2 (fun j hj => by have := (O2.out.lt j hj).1; omega),
          by rw [List.length_append]; simpa [Lib.byteCells] using o2, gr_far (gr_alloc G2.out _) hgr2 (fun j hj => (O2.out.lt j hj).1)⟩
        case measure => (simp [intOf]; try omega)
      · have hb1 : (w2.alloc (.cells #[.int .u8 49] 5)).ownsRow w.heap.size 5 1 (.slice A' l.length c') l.length (Lib.byteCells l) := own_below O2.out (by repeat (first | exact Below.refl _ _ | refine bl_tr ?_ _ | refine bl_al ?_ _ | refine bl_dr ?_ | refine bl_up ?_ _ | refine Below.drew ?_ | refine bl_alloc ?_ _ | refine Below.setCell ?_ (by first | (simp; done) | (simp; omega)) _))
        have hb2 : w.heap.size ≤ (w2.alloc (.cells #[.int .u8 49] 5)).heap.size := by simp; omega
        go_wp2_with (at_builtin; refine wpl_app rfl _ _ 22 rfl w.heap.size 5 (.int .u8 0) 1 1 el_byte (.slice A' l.length c') l.length (Lib.byteCells l) rfl hb1 (some ⟨w2.heap.size, 0, none⟩) 1 1 [.int .u8 49] rfl (rds_new _ #[.int .u8 49] _ 1 1 rfl) (fun u hu => by simp at hu; subst hu; rfl) (by unfold maxLen; omega) (by omega) hb2 ?_; intro A2 c2 W2 o2 hgr2)
        go_roundw
        case rel => exact ⟨l ++ [49], A2, c2, k2, by rw [List.length_append]; go_num, by rw [List.length_append]; rfl, ansOk_snoc hva.out (by decide), by rw [List.length_append, List.length_singleton]; omega, by rw [List.length_append, List.length_singleton]; omega,
          (S2.out.alloc _).kept hgr2 (fun e => absurd (O2.out.lt _ e.symm).1 (by omega)),
          (B2.out.alloc _).kept hgr2 (fun j hj => by have := (O2.out.lt j hj).1; omega),
          by rw [List.length_append]; simpa [Lib.byteCells] using o2, gr_far (gr_alloc G2.out _) hgr2 (fun j hj => (O2.out.lt j hj).1)⟩
        case measure => (simp [intOf]; try omega)
      · have hb1 : (w2.alloc (.cells #[.int .u8 63] 5)).ownsRow w.heap.size 5 1 (.slice A' l.length c') l.length (Lib.byteCells l) := own_below O2.out (by repeat (first | exact Below.refl _ _ | refine bl_tr ?_ _ | refine bl_al ?_ _ | refine bl_dr ?_ | refine bl_up ?_ _ | refine Below.drew ?_ | refine bl_alloc ?_ _ | refine Below.setCell ?_ (by first | (simp; done) | (simp; omega)) _))
        have hb2 : w.heap.size ≤ (w2.alloc (.cells #[.int .u8 63] 5)).heap.size := by simp; omega
        go_wp2_with (at_builtin; refine wpl_app rfl _ _ 22 rfl w.heap.size 5 (.int .u8 0) 1 1 el_byte (.slice A' l.length c') l.length (Lib.byteCells l) rfl hb1 (some ⟨w2.heap.size, 0, none⟩) 1 1 [.int .u8 63] rfl (rds_new _ #[.int .u8 63] _ 1 1 rfl) (fun u hu => by simp at hu; subst hu; rfl) (by unfold maxLen; omega) (by omega) hb2 ?_; intro A2 c2 W2 o2 hgr2)
        go_roundw
        case rel => exact ⟨l ++ [63], A2, c2, k2, by rw [List.length_append]; go_num, by rw [List.length_append]; rfl, ansOk_snoc hva.out (by decide), by rw [List.length_append, List.length_singleton]; omega, by rw [List.length_append, List.length_singleton]; omega,
          (S2.out.alloc _).kept hgr2 (fun e => absurd (O2.out.lt _ e.symm).1 (by omega)),
          (B2.out.alloc _).kept hgr2 (fun j hj => by have := (O2.out.lt j hj).1; omega),
          by rw [List.length_append]; simpa [Lib.byteCells] using o2, gr_far (gr_alloc G2.out _) hgr2 (fun j hj => (O2.out.lt j hj).1)⟩
        case measure => (simp [intOf]; try omega)
      · have hb1 : (w2.alloc (.cells #[.int .u8 63] 5)).ownsRow w.heap.size 5 1 (.slice A' l.length c') l.length (Lib.byteCells l) := own_below O2.out (by repeat (first | exact Below.refl _ _ | refine bl_tr ?_ _ | refine bl_al ?_ _ | refine bl_dr ?_ | refine bl_up ?_ _ | refine Below.drew ?_ | refine bl_alloc ?_ _ | refine Below.setCell ?_ (by first | (simp; done) | (simp; omega)) _))
        have hb2 : w.heap.size ≤ (w2.alloc (.cells #[.int .u8 63] 5)).heap.size := by simp; omega
        go_wp2_with (at_builtin; refine wpl_app rfl _ _ 22 rfl w.heap.size 5 (.int .u8 0) 1 1 el_byte (.slice A' l.length c') l.length (Lib.byteCells l) rfl hb1 (some ⟨w2.heap.size, 0, none⟩) 1 1 [.int .u8 63] rfl (rds_new _ #[.int .u8 63] _ 1 1 rfl) (fun u hu => by simp at hu; subst hu; rfl) (by unfold maxLen; omega) (by omega) hb2 ?_; intro A2 c2 W2 o2 hgr2)
        go_roundw
        case rel => exact ⟨l ++ [63], A2, c2, k2, by rw [List.length_append]; go_num, by rw [List.length_append]; rfl, ansOk_snoc hva.out (by decide), by rw [List.length_append, List.length_singleton]; omega, by rw [List.length_append, List.length_singleton]; omega,
          (S2.out.alloc _).kept hgr2 (fun e => absurd (O2.out.lt _ e.symm).1 (by omega)),
          (B2.out.alloc _).kept hgr2 (fun j hj => by have := (O2.out.lt j hj).1; omega),
          by rw [List.length_append]; simpa [Lib.byteCells] using o2, gr_far (gr_alloc G2.out _) hgr2 (fun j hj => (O2.out.lt j hj).1)⟩
        case measure => (simp [intOf]; try omega)
      · have hb1 : (w2.alloc (.cells #[.int .u8 63] 5)).ownsRow w.heap.size 5 1 (.slice A' l.length c') l.length (Lib.byteCells l) := own_below O2.out (by repeat (first | exact Below.refl _ _ | refine bl_tr ?_ _ | refine bl_al ?_ _ | refine bl_dr ?_ | refine bl_up ?_ _ | refine Below.drew ?_ | refine bl_alloc ?_ _ | refine Below.setCell ?_ (by first | (simp; done) | (simp; omega)) _))
        have hb2 : w.heap.size ≤ (w2.alloc (.cells #[.int .u8 63] 5)).heap.size := by simp; omega
        go_wp2_with (at_builtin; refine wpl_app rfl _ _ 22 rfl w.heap.size 5 (.int .u8 0) 1 1 el_byte (.slice A' l.length c') l.length (Lib.byteCells l) rfl hb1 (some ⟨w2.heap.size, 0, none⟩) 1 1 [.int .u8 63] rfl (rds_new _ #[.int .u8 63] _ 1 1 rfl) (fun u hu => by simp at hu; subst hu; rfl) (by unfold maxLen; omega) (by omega) hb2 ?_; intro A2 c2 W2 o2 hgr2)
        go_roundw
        case rel => exact ⟨l ++ [63], A2, c2, k2, by rw [List.length_append]; go_num, by rw [List.length_append]; rfl, ansOk_snoc hva.out (by decide), by rw [List.length_append, List.length_singleton]; omega, by rw [List.length_append, List.length_singleton]; omega,
          (S2.out.alloc _).kept hgr2 (fun e => absurd (O2.out.lt _ e.symm).1 (by omega)),
          (B2.out.alloc _).kept hgr2 (fun j hj => by have := (O2.out.lt j hj).1; omega),
          by rw [List.length_append]; simpa [Lib.byteCells] using o2, gr_far (gr_alloc G2.out _) hgr2 (fun j hj => (O2.out.lt j hj).1)⟩
        case measure => (simp [intOf]; try omega)
      · have hb1 : (w2.alloc (.cells #[.int .u8 63] 5)).ownsRow w.heap.size 5 1 (.slice A' l.length c') l.length (Lib.byteCells l) := own_below O2.out (by repeat (first | exact Below.refl _ _ | refine bl_tr ?_ _ | refine bl_al ?_ _ | refine bl_dr ?_ | refine bl_up ?_ _ | refine Below.drew ?_ | refine bl_alloc ?_ _ | refine Below.setCell ?_ (by first | (simp; done) | (simp; omega)) _))
        have hb2 : w.heap.size ≤ (w2.alloc (.cells #[.int .u8 63] 5)).heap.size := by simp; omega
        go_wp2_with (at_builtin; refine wpl_app rfl _ _ 22 rfl w.heap.size 5 (.int .u8 0) 1 1 el_byte (.slice A' l.length c') l.length (Lib.byteCells l) rfl hb1 (some ⟨w2.heap.size, 0, none⟩) 1 1 [.int .u8 63] rfl (rds_new _ #[.int .u8 63] _ 1 1 rfl) (fun u hu => by simp at hu; subst hu; rfl) (by unfold maxLen; omega) (by omega) hb2 ?_; intro A2 c2 W2 o2 hgr2)
        go_roundw
        case rel => exact ⟨l ++ [63], A2, c2, k2, by rw [List.length_append]; go_num, by rw [List.length_append]; rfl, ansOk_snoc hva.out (by decide), by rw [List.length_append, List.length_singleton]; omega, by rw [List.length_append, List.length_singleton]; omega,
          (S2.out.alloc _).kept hgr2 (fun e => absurd (O2.out.lt _ e.symm).1 (by omega)),
          (B2.out.alloc _).kept hgr2 (fun j hj => by have := (O2.out.lt j hj).1; omega),
          by rw [List.length_append]; simpa [Lib.byteCells] using o2, gr_far (gr_alloc G2.out _) hgr2 (fun j hj => (O2.out.lt j hj).1)⟩
        case measure => (simp [intOf]; try omega)
    · have hm2 : l.length = m := by omega
      subst hm2
      have cv := conv_own (w := wr) (w1 := wr) HOWN.out rfl (Below.refl _ _)
      go_wp2_with fail
      go_ret
      exact ⟨l, rfl, rfl, hva.out, up_of_grown (W := w0) HU.out.below HGR.out (fun k hk => by injection hk with hk; omega)⟩
end Go.Proofs.Ytfggbcmpgkhlaaa

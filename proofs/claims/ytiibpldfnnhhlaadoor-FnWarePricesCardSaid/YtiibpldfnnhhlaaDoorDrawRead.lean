/-
  The reference's drawing of a ware's text, whatever the bytes are. The bounds stand at it.
-/
import Derived.Test.YtiibpldfnnhhlaaDoorDrawWare
import Derived.Test.YtiibpldfnnhhlaaDoorSpoil
import Derived.Test.YtiibpldfnnhhlaaDoorWareText
namespace Go.Proofs.YtiibpldfnnhhlaaDoor
open Go.RowKit
def ribbon : ByteArray := ⟨#[114, 105, 98, 98, 111, 110]⟩
theorem ribbon_ok : nameB ribbon = true := by decide
def readPost (w : World) (e : Ending) (w' : World) : Prop := ∃ t : ByteArray, e = .returned (.string t) ∧ t.size ≤ 100000 ∧ UpOf w w'
set_option maxRecDepth 10000 in
set_option maxHeartbeats 1000000 in
theorem drawReadWare_any (A : Option Addr) (n c : Nat) (zs : List Int) (w : World) (hz : ∀ z ∈ zs, 0 ≤ z ∧ z ≤ 255) (h : Rds w 1 A n (bytes zs)) (hn : n ≤ 4096) :
    Calls Tryd.prog 31 #[.slice A n c] w (readPost w) := by
  have HR := Lib.hid h
  clear h
  go_enter Tryd.func31, Tryd.ntmps31
  go_wp2_with fail
  refine (l00From_any A n c _).mono ?_
  rintro e w1 ⟨rfl, rfl⟩
  have B0 := Lib.hid (byt_new hz HR.out (.cells #[.slice A n c, .int .i64 0, .int .u64 0] 105))
  go_wp2_with fail
  refine (drawWare_any w.heap.size A n c 0 ribbon _ (src_new w A n c) B0.out (by omega) (by omega)).mono ?_
  rintro e V ⟨l, Ab, cb, k2, rfl, hl, hrow, hk2, hs2, hg2, hl1, hok⟩
  have hv := Lib.hid (show vWare ⟨ribbon, l⟩ = true from vWare_true ribbon_ok (decide_eq_true (by show (1 : Int) ≤ (l.length : Int) ∧ (l.length : Int) ≤ 6; omega)) hok)
  have S2 := Lib.hid hs2
  have B2 := Lib.hid (B0.out.grown hg2)
  have G2 := Lib.hid hg2
  have R2 := Lib.hid (Rds.of_own hrow)
  have hq2 : w.heap.size < V.heap.size := Nat.lt_of_lt_of_le (by simp) hg2.size
  clear hs2 hg2 hrow hok B0
  go_wp2_with fail
  refine cg (R := fun U => Hid (WAt U V.heap.size 0 ⟨ribbon, l⟩ Ab cb) ∧ Hid (Below V.heap.size V U)) ⟨Lib.hid ⟨by simp, World.cell?_alloc_new V #[.string ribbon, .slice Ab l.length cb] _ 0, World.cell?_alloc_new V #[.string ribbon, .slice Ab l.length cb] _ 1, R2.out.below (by repeat (first | exact Below.refl _ _ | refine bl_tr ?_ _ | refine bl_al ?_ _ | refine bl_dr ?_ | refine bl_up ?_ _ | refine Below.drew ?_ | refine bl_alloc ?_ _ | refine Below.setCell ?_ (by first | (simp; done) | (simp; omega)) _))⟩, Lib.hid (by repeat (first | exact Below.refl _ _ | refine bl_tr ?_ _ | refine bl_al ?_ _ | refine bl_dr ?_ | refine bl_up ?_ _ | refine Below.drew ?_ | refine bl_alloc ?_ _ | refine Below.setCell ?_ (by first | (simp; done) | (simp; omega)) _))⟩ (fun U z => ?_)
  obtain ⟨z1, z2⟩ := z
  refine (l26Text_any ⟨ribbon, l⟩ V.heap.size 0 Ab cb U z1.out hv.out).mono ?_
  rintro e U2 ⟨rfl, hu⟩
  have hb2 := z2.out.trans (hu.below.mono z2.out.size)
  have S3 := Lib.hid (S2.out.bel hb2)
  have B3 := Lib.hid (B2.out.bel hb2)
  have G3 := Lib.hid (gr_up G2.out ⟨U2, hb2⟩)
  have hts : (wTextN ⟨ribbon, l⟩ l.length).size ≤ 99999 := by
    have := wTextN_len ⟨ribbon, l⟩ l.length (vWare_inv hv.out).2.2.2
    have e : (⟨ribbon, l⟩ : Ware).name.size = 6 := rfl
    omega
  have hte : (⟨ribbon, l⟩ : Ware).brs.length = l.length := rfl
  rw [hte]
  generalize wTextN ⟨ribbon, l⟩ l.length = t at *
  clear S2 B2 R2 z1 hv hte
  go_wp2_with fail
  refine (one_any w.heap.size A n c k2 3 U2 S3.out B3.out (by omega) (by omega) (by omega)).mono ?_
  rintro e V4 ⟨b, k4, rfl, hk4, hs4, hg4⟩
  have S4 := Lib.hid hs4
  have B4 := Lib.hid (B3.out.grown hg4)
  have G4 := Lib.hid (grown_trans G3.out hg4)
  clear hs4 hg4 S3 B3 G3
  cases b with
  | true =>
    go_wp2_with fail
    refine (l01Spoil_any w.heap.size A n c k4 t V4 S4.out B4.out (by omega) (by omega) (by omega)).mono ?_
    rintro e V5 ⟨t', k5, rfl, ht', hk5, hs5, hg5⟩
    have G5 := Lib.hid (grown_trans G4.out hg5)
    clear hs5 hg5
    go_wp2_with fail
    go_ret
    exact ⟨t', rfl, by omega, up_of_grown ((Below.refl _ _).alloc (Nat.le_refl _) _) G5.out (fun k hk => by injection hk with hk; omega)⟩
  | false =>
    go_wp2_with fail
    go_ret
    exact ⟨t, rfl, by omega, up_of_grown ((Below.refl _ _).alloc (Nat.le_refl _) _) G4.out (fun k hk => by injection hk with hk; omega)⟩
end Go.Proofs.YtiibpldfnnhhlaaDoor

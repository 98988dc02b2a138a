/-
  The law on WareText: its walk. Premise on the world: the laid table.
-/
import Derived.Test.YtiibpldfnnhhlaaDoorWareText
namespace Go.Proofs.YtiibpldfnnhhlaaDoor
open Go.RowKit
theorem agn {K : Act → World → Prop} {a : Act} {w : World} {R : World → Prop} (st : R w) (h : ∀ W, R W → K a W) : K a w := h w st
/-- block p begins with a ware's two cells -/
def B2 (V : World) (p : Nat) (x : Ware) (A : Option Addr) (c : Nat) : Prop := p < V.heap.size ∧ V.cell? ⟨p, 0, none⟩ = some (.string x.name) ∧ V.cell? ⟨p, 1, none⟩ = some (.slice A x.brs.length c)
theorem B2.below {V V' : World} {p : Nat} {x : Ware} {A : Option Addr} {c : Nat} (h : B2 V p x A c) (hb : Below V.heap.size V V') : B2 V' p x A c :=
  ⟨Nat.lt_of_lt_of_le h.1 hb.size, (hb.cell (p := ⟨p, 0, none⟩) h.1).trans h.2.1, (hb.cell (p := ⟨p, 1, none⟩) h.1).trans h.2.2⟩
theorem B2.new (w : World) (x : Ware) (A : Option Addr) (c : Nat) (t : TypeId) : B2 (w.alloc (.cells #[.string x.name, .slice A x.brs.length c] t)) w.heap.size x A c :=
  ⟨by simp, World.cell?_alloc_new w #[.string x.name, .slice A x.brs.length c] t 0, World.cell?_alloc_new w #[.string x.name, .slice A x.brs.length c] t 1⟩
theorem UpOf.tr {w V V' : World} (h : UpOf w V) (hb : Below V.heap.size V V') : UpOf w V' := UpOf.of (h.below.trans (hb.mono h.below.size))
set_option maxRecDepth 10000 in
set_option maxHeartbeats 2000000 in
theorem law_wareText (x : Ware) (A : Option Addr) (c : Nat) (w : World) (h : Rds w 2 A x.brs.length (bkcs x.brs)) (hn : x.brs.length ≤ 9223372036854775807) (hs : x.name.size ≤ 9223372036854775807) (ht : Tab w) :
    Calls Tryd.prog 3 #[.agg #[.string x.name, .slice A x.brs.length c]] w fun e w' => e = .returned (.bool true) ∧ UpOf w w' := by
  have X := Lib.hid h
  have HT := Lib.hid ht
  clear h ht
  go_enter Tryd.func3, Tryd.ntmps3
  go_wp2_with fail
  refine cg (R := fun V => B2 V w.heap.size x A c ∧ UpOf w V) ⟨B2.new _ _ _ _ _, UpOf.of (by repeat (first | exact Below.refl _ _ | refine bl_tr ?_ _ | refine bl_al ?_ _ | refine bl_dr ?_ | refine bl_up ?_ _ | refine Below.drew ?_ | refine bl_alloc ?_ _ | refine Below.setCell ?_ (by first | (simp; done) | (simp; omega)) _))⟩ (fun W0 st0 => ?_)
  have S0 := Lib.hid st0
  obtain ⟨⟨l1, x0, x1⟩, _⟩ := st0
  generalize w.heap.size = p at *
  by_cases q1 : (1048576 : Int) < ((wTot1 x : Nat) : Int)
  · refine (szWare_any x A c _ _ (by omega) (by omega) hs hn).mono ?_
    rintro e w' ⟨rfl, g1, rfl⟩
    rw [szR_no q1]
    go_wp2_with fail
    go_ret
    exact ⟨rfl, S0.out.2.tr (by repeat (first | exact Below.refl _ _ | refine bl_tr ?_ _ | refine bl_al ?_ _ | refine bl_dr ?_ | refine bl_up ?_ _ | refine Below.drew ?_ | refine bl_alloc ?_ _ | refine Below.setCell ?_ (by first | (simp; done) | (simp; omega)) _))⟩
  have n1 : x.brs.length ≤ 100000000 := by unfold wTot1 at q1; omega
  refine (szWare_any x A c _ _ (by omega) (by omega) hs hn).mono ?_
  rintro e w' ⟨rfl, g1, rfl⟩
  rw [szR_ok q1]
  go_wp2_with fail
  refine (toWare_any x A c _ ((X.out.below S0.out.2.below).below (by repeat (first | exact Below.refl _ _ | refine bl_tr ?_ _ | refine bl_al ?_ _ | refine bl_dr ?_ | refine bl_up ?_ _ | refine Below.drew ?_ | refine bl_alloc ?_ _ | refine Below.setCell ?_ (by first | (simp; done) | (simp; omega)) _))) n1).mono ?_
  rintro e w' ⟨b1, rfl, o1, g2, rfl⟩
  go_wp2_with fail
  refine (wareTextS_any x _ _ _ ((Rds.of_own o1).below (by repeat (first | exact Below.refl _ _ | refine bl_tr ?_ _ | refine bl_al ?_ _ | refine bl_dr ?_ | refine bl_up ?_ _ | refine Below.drew ?_ | refine bl_alloc ?_ _ | refine Below.setCell ?_ (by first | (simp; done) | (simp; omega)) _))) n1 hs).mono ?_
  rintro e w' ⟨rfl, g3, rfl⟩
  go_wp2_with fail
  refine (toWare_any x A c _ ((X.out.below S0.out.2.below).below (by repeat (first | exact Below.refl _ _ | refine bl_tr ?_ _ | refine bl_al ?_ _ | refine bl_dr ?_ | refine bl_up ?_ _ | refine Below.drew ?_ | refine bl_alloc ?_ _ | refine Below.setCell ?_ (by first | (simp; done) | (simp; omega)) _))) n1).mono ?_
  rintro e w' ⟨b2, rfl, o2, g4, rfl⟩
  simp only []
  refine agn (R := fun V => B2 V p x A c ∧ Rds V 2 (some ⟨b2, 0, none⟩) x.brs.length (bkcs x.brs) ∧ UpOf w V) ⟨S0.out.1.below (by repeat (first | exact Below.refl _ _ | refine bl_tr ?_ _ | refine bl_al ?_ _ | refine bl_dr ?_ | refine bl_up ?_ _ | refine Below.drew ?_ | refine bl_alloc ?_ _ | refine Below.setCell ?_ (by first | (simp; done) | (simp; omega)) _)), (Rds.of_own o2).below (by repeat (first | exact Below.refl _ _ | refine bl_tr ?_ _ | refine bl_al ?_ _ | refine bl_dr ?_ | refine bl_up ?_ _ | refine Below.drew ?_ | refine bl_alloc ?_ _ | refine Below.setCell ?_ (by first | (simp; done) | (simp; omega)) _)), S0.out.2.tr (by repeat (first | exact Below.refl _ _ | refine bl_tr ?_ _ | refine bl_al ?_ _ | refine bl_dr ?_ | refine bl_up ?_ _ | refine Below.drew ?_ | refine bl_alloc ?_ _ | refine Below.setCell ?_ (by first | (simp; done) | (simp; omega)) _))⟩ (fun W3 st3 => ?_)
  have S3 := Lib.hid st3
  clear st3 o1 o2 l1 x0 x1
  iterate 6 go_step
  refine agn (R := fun V => B2 V p x A c ∧ B2 V W3.heap.size x (some ⟨b2, 0, none⟩) x.brs.length ∧ Rds V 2 (some ⟨b2, 0, none⟩) x.brs.length (bkcs x.brs) ∧ UpOf w V) ⟨S3.out.1.below (by repeat (first | exact Below.refl _ _ | refine bl_tr ?_ _ | refine bl_al ?_ _ | refine bl_dr ?_ | refine bl_up ?_ _ | refine Below.drew ?_ | refine bl_alloc ?_ _ | refine Below.setCell ?_ (by first | (simp; done) | (simp; omega)) _)), B2.new _ _ _ _ _, S3.out.2.1.below (by repeat (first | exact Below.refl _ _ | refine bl_tr ?_ _ | refine bl_al ?_ _ | refine bl_dr ?_ | refine bl_up ?_ _ | refine Below.drew ?_ | refine bl_alloc ?_ _ | refine Below.setCell ?_ (by first | (simp; done) | (simp; omega)) _)), S3.out.2.2.tr (by repeat (first | exact Below.refl _ _ | refine bl_tr ?_ _ | refine bl_al ?_ _ | refine bl_dr ?_ | refine bl_up ?_ _ | refine Below.drew ?_ | refine bl_alloc ?_ _ | refine Below.setCell ?_ (by first | (simp; done) | (simp; omega)) _))⟩ (fun W4 st4 => ?_)
  have S4 := Lib.hid st4
  obtain ⟨⟨l1, x0, x1⟩, ⟨l2, y0, y1⟩, _⟩ := st4
  clear S3
  generalize W3.heap.size = s7 at *
  go_wp2_with fail
  refine (wareTextI_any x _ _ _ (S4.out.2.2.1.below (by repeat (first | exact Below.refl _ _ | refine bl_tr ?_ _ | refine bl_al ?_ _ | refine bl_dr ?_ | refine bl_up ?_ _ | refine Below.drew ?_ | refine bl_alloc ?_ _ | refine Below.setCell ?_ (by first | (simp; done) | (simp; omega)) _))) n1 hs ((HT.out.below S4.out.2.2.2.below).below (by repeat (first | exact Below.refl _ _ | refine bl_tr ?_ _ | refine bl_al ?_ _ | refine bl_dr ?_ | refine bl_up ?_ _ | refine Below.drew ?_ | refine bl_alloc ?_ _ | refine Below.setCell ?_ (by first | (simp; done) | (simp; omega)) _)))).mono ?_
  rintro e w' ⟨rfl, g5, rfl⟩
  go_wp2_with fail
  refine wpg (R := fun V => B2 V p x A c ∧ B2 V s7 x (some ⟨b2, 0, none⟩) x.brs.length ∧ Rds V 2 (some ⟨b2, 0, none⟩) x.brs.length (bkcs x.brs) ∧ UpOf w V) ⟨S4.out.1.below (by repeat (first | exact Below.refl _ _ | refine bl_tr ?_ _ | refine bl_al ?_ _ | refine bl_dr ?_ | refine bl_up ?_ _ | refine Below.drew ?_ | refine bl_alloc ?_ _ | refine Below.setCell ?_ (by first | (simp; done) | (simp; omega)) _)), S4.out.2.1.below (by repeat (first | exact Below.refl _ _ | refine bl_tr ?_ _ | refine bl_al ?_ _ | refine bl_dr ?_ | refine bl_up ?_ _ | refine Below.drew ?_ | refine bl_alloc ?_ _ | refine Below.setCell ?_ (by first | (simp; done) | (simp; omega)) _)), S4.out.2.2.1.below (by repeat (first | exact Below.refl _ _ | refine bl_tr ?_ _ | refine bl_al ?_ _ | refine bl_dr ?_ | refine bl_up ?_ _ | refine Below.drew ?_ | refine bl_alloc ?_ _ | refine Below.setCell ?_ (by first | (simp; done) | (simp; omega)) _)), S4.out.2.2.2.tr (by repeat (first | exact Below.refl _ _ | refine bl_tr ?_ _ | refine bl_al ?_ _ | refine bl_dr ?_ | refine bl_up ?_ _ | refine Below.drew ?_ | refine bl_alloc ?_ _ | refine Below.setCell ?_ (by first | (simp; done) | (simp; omega)) _))⟩ (fun W5 st5 => ?_)
  have S5 := Lib.hid st5
  have K5 := Lib.hid st5.2.2.2.below
  clear l1 x0 x1 l2 y0 y1 S4
  obtain ⟨⟨l1, x0, x1⟩, ⟨l2, y0, y1⟩, _⟩ := st5
  go_region_held3 (fun w' => (W5).heap.size ≤ w'.heap.size ∧ ∀ b o, b < (W5).heap.size → w'.cell? ⟨b, o, none⟩ = (W5).cell? ⟨b, o, none⟩) (exact sm_of (by repeat (first | exact Below.refl _ _ | refine bl_tr ?_ _ | refine bl_al ?_ _ | refine bl_dr ?_ | refine bl_up ?_ _ | refine Below.drew ?_ | refine bl_alloc ?_ _ | refine Below.setCell ?_ (by first | (simp; done) | (simp; omega)) _))) (first | (go_at_call 10; refine (eqWare_any x _ _ _ _ _ (S5.out.2.2.1.below (by repeat (first | exact Below.refl _ _ | refine bl_tr ?_ _ | refine bl_al ?_ _ | refine bl_dr ?_ | refine bl_up ?_ _ | refine Below.drew ?_ | refine bl_alloc ?_ _ | refine Below.setCell ?_ (by first | (simp; done) | (simp; omega)) _))) ((Rds.of_own (by assumption)).below (by repeat (first | exact Below.refl _ _ | refine bl_tr ?_ _ | refine bl_al ?_ _ | refine bl_dr ?_ | refine bl_up ?_ _ | refine Below.drew ?_ | refine bl_alloc ?_ _ | refine Below.setCell ?_ (by first | (simp; done) | (simp; omega)) _))) n1).mono ?_; rintro r w' ⟨rfl, g8, rfl⟩) | (go_at_call 8; refine (toWare_any x _ _ _ ((X.out.below K5.out).below (by repeat (first | exact Below.refl _ _ | refine bl_tr ?_ _ | refine bl_al ?_ _ | refine bl_dr ?_ | refine bl_up ?_ _ | refine Below.drew ?_ | refine bl_alloc ?_ _ | refine Below.setCell ?_ (by first | (simp; done) | (simp; omega)) _))) n1).mono ?_; rintro r w' ⟨b6, rfl, o6, g7, rfl⟩))
  go_wp2_with fail
  go_ret
  exact ⟨rfl, S5.out.2.2.2.tr (by repeat (first | exact Below.refl _ _ | refine bl_tr ?_ _ | refine bl_al ?_ _ | refine bl_dr ?_ | refine bl_up ?_ _ | refine Below.drew ?_ | refine bl_alloc ?_ _ | refine Below.setCell ?_ (by first | (simp; done) | (simp; omega)) _))⟩
end Go.Proofs.YtiibpldfnnhhlaaDoor

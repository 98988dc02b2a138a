/-
  The reference's console: its method drills. The bounds stand at it.
-/
import Derived.Test.YtbianlkenallaaaGreatDoorConsRA
import Derived.Test.YtbianlkenallaaaGreatDoorConsR4
set_option linter.all false
set_option maxHeartbeats 4000000
set_option maxRecDepth 10000
namespace Go.Proofs.YtbianlkenallaaaGreatDoor
open Go.RowKit
theorem drillsM_any (w0 : World) (sb : Nat) (D : DeskD) (A B : Option Addr) (c e : Nat) (O : Option Addr) (oc : Nat) (L : List ByteArray) (x y : Value) (w : World) (h : LE w0 w sb D A B c e O oc L x y) (hn : L.length ≤ 800000) (hv : vDesk D = true) :
  Calls Tryz.prog 104 #[.pointer (some ⟨sb, 0, none⟩)] w fun r w' => mePost w0 sb D (L ++ (D.drills.map drText ++ [okLine D.drills.length])) r w' := by
 have hvd := vDrills_inv (vDesk_inv hv).2.2.1
 have h10 := hvd.1
 have HVX : Hid (∀ i, i < D.drills.length → vDrill (drl D.drills i) = true) := hd_ fun i hi => (hvd.2 i hi).1
 obtain ⟨R, hR⟩ : ∃ R, D.drills.map drText = R := ⟨_, rfl⟩
 have hRl : R.length = D.drills.length := by rw [← hR, List.length_map]
 have HRX : Hid (∀ i, i < D.drills.length → R.take (i + 1) = R.take i ++ [drTextV (drl D.drills i)]) := hd_ fun i hi => by
  rw [List.take_add_one, ← hR, List.getElem?_map, List.getElem?_eq_getElem hi, Option.map_some, Option.toList_some]
  have e1 : D.drills[i] = drl D.drills i := by rw [drl, List.getD_eq_getElem?_getD, List.getElem?_eq_getElem hi]; rfl
  rw [e1, drText, HVX.out i hi, if_pos rfl]
 rw [hR, ← hRl]
 have HM := hd_ h
 obtain ⟨hsb, ⟨x0, x1, x2, x3, x4, x5, x6, x7⟩, -, k9, k10⟩ := h.cel
 have HRD := hd_ (Rds.of_own h.dw.2)
 have HRL := hd_ hRl
 have HOw := hd_ (World.ownsRow_lit (base := w.heap.size) (e := 9) (size := 1) w #[] 0 (Nat.le_refl _) (by unfold maxLen; omega) rfl)
 clear h hvd hR hRl hv x0 x1 x2 x3 x4 x5 x7 k9 k10
 go_enter Tryz.func104, Tryz.ntmps104
 go_wp2_with fail
 go_loopw [2, 3] (fun t2 t3 wr => ∃ (k : Nat) (T : List ByteArray) (A1 : Option Addr) (c1 : Nat), k ≤ D.drills.length ∧ t3 = i64 k ∧ t2 = .slice A1 T.length c1 ∧ Hid (T = R.take k) ∧ Hid (wr.ownsRow w.heap.size 9 1 (.slice A1 T.length c1) T.length (strs T)) ∧ ∃ g : Up w, wr = up w g) (fun _ t3 _ => D.drills.length - (intOf t3).toNat)
 case atStart => exact ⟨0, [], _, _, by omega, rfl, rfl, hd_ rfl, hd_ HOw.out, ex_up bw_⟩
 case round =>
  clear HOw
  obtain ⟨k, T, A1, c1, hk, rfl, rfl, HE, HO, g, rfl⟩ := hrel
  by_cases hlt : k < D.drills.length
  ·have hki : (k : Int) < (D.drills.length : Int) := by omega
   obtain ⟨b, off, rfl, hb, y0, y1, y2⟩ := drl_at HRD.out hlt
   have HVk := HVX.out k hlt
   obtain ⟨a1, a2, a3, a4, _⟩ := vDrill_inv HVk
   have s1 := (nameB_bd a1).2
   have s2 := (txtB_inv a3).1
   have HE2 := hd_ (show T ++ [drTextV (drl D.drills k)] = R.take (k + 1) by rw [HRX.out k hlt, HE.out])
   have hTl : T.length ≤ 10 := by rw [HE.out, List.length_take]; omega
   obtain ⟨X, hX⟩ : ∃ X, drl D.drills k = X := ⟨_, rfl⟩
   rw [hX] at y0 y1 y2 s1 s2 a4 HE2
   obtain ⟨S, hS⟩ : ∃ S, drTextV X = S := ⟨_, rfl⟩
   have HLT : Hid (∀ V, Calls Tryz.prog 153 #[drv X] V fun e w' => e = .returned (.string S) ∧ UpOf V w') := hd_ fun V => by
    have := l21Text_any X V (by omega) (by omega) (by omega) (by omega)
    rw [hS] at this
    exact this
   rw [hS] at HE2
   clear hS hX HVk a1 a2 a3 a4 s1 s2 HE
   go_wp2_with fail
   refine (HLT.out _).mono ?_
   rintro r w' ⟨rfl, g2, rfl⟩
   go_wp2_with (at_builtin; go_must (refine wpl_appU rfl _ _ 24 rfl w w.heap.size 9 _ 1 16 el_str (.slice A1 T.length c1) T.length (strs T) rfl (own_below HO.out bw_) _ 1 1 [.string S] rfl (rds_new _ #[.string S] _ 1 1 rfl) (fun u hu => by simp at hu; subst hu; rfl) (by unfold maxLen; omega) (by omega) (show Below w.heap.size w _ from bw_).size bw_ (Nat.le_refl _) ?_; intro A3 c3 g5 o5))
   go_roundw
   case rel => exact ⟨k + 1, T ++ [S], A3, c3, by omega, by go_num, congrArg (fun n => Value.slice A3 n c3) (by simp), HE2, hd_ (by rw [List.length_append]; simpa [strs] using o5), ex_up bw_⟩
   case measure => simp [intOf]; try omega
  ·obtain rfl : k = D.drills.length := by omega
   have hT : T = R := by rw [HE.out, ← HRL.out, List.take_length]
   subst hT
   have hT10 : T.length ≤ 10 := by rw [HRL.out]; exact h10
   clear HE HRL HRX
   go_wp2_with fail
   refine (listR_any w0 sb D _ _ _ _ _ _ L x y A1 c1 T _ (HM.out.below bw_) (Rds.of_own HO.out) (by omega)).mono ?_
   rintro r w' ⟨rfl, hp⟩
   go_wp2_with fail
   go_end0
   rw [List.append_assoc] at hp
   exact ⟨rfl, _, _, hp⟩
end Go.Proofs.YtbianlkenallaaaGreatDoor

/-
  The reference's console: its method log. The bounds stand at it.
-/
import Derived.Test.YtbianlkenallaaaGreatDoorConsRA
import Derived.Test.YtbianlkenallaaaGreatDoorMgB
import Derived.Test.YtbianlkenallaaaGreatDoorMgA
set_option linter.all false
set_option maxHeartbeats 4000000
set_option maxRecDepth 10000
namespace Go.Proofs.YtbianlkenallaaaGreatDoor
open Go.RowKit
theorem logM_any (w0 : World) (sb : Nat) (D : DeskD) (A B : Option Addr) (c e : Nat) (O : Option Addr) (oc : Nat) (L : List ByteArray) (x y : Value) (w : World) (h : LE w0 w sb D A B c e O oc L x y) (hn : L.length ≤ 800000) (hv : vDesk D = true) :
  Calls Tryz.prog 108 #[.pointer (some ⟨sb, 0, none⟩)] w fun r w' => mePost w0 sb D (L ++ ((entsL D.log).map ewords ++ [okLine (entsL D.log).length])) r w' := by
 have hc0 := (vDesk_inv hv).2.2.2
 have hEl := entsL_len hc0
 have HEV := hd_ (entsL_ok D.log)
 have HCO := hd_ (fun V => codeS_ok D.log V hc0)
 obtain ⟨E, hE⟩ : ∃ E, entsL D.log = E := ⟨_, rfl⟩
 rw [hE] at hEl HEV HCO ⊢
 obtain ⟨R, hR⟩ : ∃ R, E.map ewords = R := ⟨_, rfl⟩
 have hRl : R.length = E.length := by rw [← hR, List.length_map]
 have HRX : Hid (∀ i (hi : i < E.length), R.take (i + 1) = R.take i ++ [ewords E[i]]) := hd_ fun i hi => by
  rw [List.take_add_one, ← hR, List.getElem?_map, List.getElem?_eq_getElem hi, Option.map_some, Option.toList_some]
 rw [hR, ← hRl]
 have HM := hd_ h
 obtain ⟨hsb, ⟨x0, x1, x2, x3, x4, x5, x6, x7⟩, -, k9, k10⟩ := h.cel
 have HRL := hd_ hRl
 clear h hR hRl hv x0 x1 x2 x3 x4 x5 x6 k9 k10 hc0 hE
 go_enter Tryz.func108, Tryz.ntmps108
 go_wp2_with fail
 refine (HCO.out _).mono ?_
 rintro r w' ⟨rb, rfl, hls, g0, rfl⟩
 obtain ⟨AE, cE, hc3, hrb, hown⟩ := hls.list
 have HRE := hd_ (Rds.of_own hown)
 have HM2 := hd_ (HM.out.below (V' := up w g0) bw_)
 obtain ⟨V0, hV0⟩ : ∃ V, up w g0 = V := ⟨_, rfl⟩
 rw [hV0] at HRE HM2 hc3 hrb ⊢
 clear hV0 hls hown HCO HM g0 hsb x7
 have HOw := hd_ (World.ownsRow_lit (base := V0.heap.size) (e := 9) (size := 1) V0 #[] 0 (Nat.le_refl _) (by unfold maxLen; omega) rfl)
 go_wp2_with fail
 go_loopw [4, 5] (fun t2 t3 wr => ∃ (k : Nat) (T : List ByteArray) (A1 : Option Addr) (c1 : Nat), k ≤ E.length ∧ t3 = i64 k ∧ t2 = .slice A1 T.length c1 ∧ Hid (T = R.take k) ∧ Hid (wr.ownsRow V0.heap.size 9 1 (.slice A1 T.length c1) T.length (strs T)) ∧ ∃ g : Up V0, wr = up V0 g) (fun _ t3 _ => E.length - (intOf t3).toNat)
 case atStart => exact ⟨0, [], _, _, by omega, rfl, rfl, hd_ rfl, hd_ HOw.out, ex_up bw_⟩
 case round =>
  clear HOw
  obtain ⟨k, T, A1, c1, hk, rfl, rfl, HE, HO, g, rfl⟩ := hrel
  by_cases hlt : k < E.length
  ·have hki : (k : Int) < (E.length : Int) := by omega
   obtain ⟨b, off, rfl, hb, y0, y1, y2⟩ := en_at HRE.out hlt
   have hvX : vEntry E[k] = true := HEV.out _ (List.getElem_mem hlt)
   have HE2 := hd_ (show T ++ [ewords E[k]] = R.take (k + 1) by rw [HRX.out k hlt, HE.out])
   have hTl : T.length ≤ 4000 := by rw [HE.out, List.length_take]; omega
   obtain ⟨X, hX⟩ : ∃ X, E[k] = X := ⟨_, rfl⟩
   rw [hX] at y0 y1 y2 hvX HE2
   obtain ⟨S, hS⟩ : ∃ S, ewords X = S := ⟨_, rfl⟩
   have HEA : Hid (EAt V0 b (off + k * 3) X) := hd_ ⟨hb, y0, y1, y2⟩
   have HLT : Hid (∀ V, EAt V b (off + k * 3) X → Calls Tryz.prog 161 #[.pointer (some ⟨b, off + k * 3, none⟩)] V fun e w' => e = .returned (.string S) ∧ UpOf V w') := hd_ fun V hV => by
    have := l27Words_any X hvX b (off + k * 3) V hV
    rw [hS] at this
    exact this
   rw [hS] at HE2
   clear hS hX hvX HE y0 y1 y2
   go_wp2_with fail
   refine (HLT.out _ (HEA.out.below bw_)).mono ?_
   rintro r w' ⟨rfl, g2, rfl⟩
   go_wp2_with (at_builtin; go_must (refine wpl_appU rfl _ _ 24 rfl V0 V0.heap.size 9 _ 1 16 el_str (.slice A1 T.length c1) T.length (strs T) rfl (own_below HO.out bw_) _ 1 1 [.string S] rfl (rds_new _ #[.string S] _ 1 1 rfl) (fun u hu => by simp at hu; subst hu; rfl) (by unfold maxLen; omega) (by omega) (show Below V0.heap.size V0 _ from bw_).size bw_ (Nat.le_refl _) ?_; intro A3 c3 g5 o5))
   go_roundw
   case rel => exact ⟨k + 1, T ++ [S], A3, c3, by omega, by go_num, congrArg (fun n => Value.slice A3 n c3) (by simp), HE2, hd_ (by rw [List.length_append]; simpa [strs] using o5), ex_up bw_⟩
   case measure => simp [intOf]; try omega
  ·obtain rfl : k = E.length := by omega
   have hT : T = R := by rw [HE.out, ← HRL.out, List.take_length]
   subst hT
   have hT10 : T.length ≤ 4000 := by rw [HRL.out]; exact hEl
   clear HE HRL HRX
   go_wp2_with fail
   refine (listR_any w0 sb D _ _ _ _ _ _ L x y A1 c1 T _ (HM2.out.below bw_) (Rds.of_own HO.out) (by omega)).mono ?_
   rintro r w' ⟨rfl, hp⟩
   go_wp2_with fail
   go_end0
   rw [List.append_assoc] at hp
   exact ⟨rfl, _, _, hp⟩
end Go.Proofs.YtbianlkenallaaaGreatDoor

/-
  LogOf of the reference. The bounds stand at it.
-/
import Derived.Test.YtkjomkiajdjhpaaDoorLogOf
import Derived.Test.YtkjomkiajdjhpaaDoorStrApp
namespace Go.Proofs.YtkjomkiajdjhpaaDoor
open Go.RowKit
set_option maxRecDepth 10000 in
set_option maxHeartbeats 2000000 in
theorem l27Make_any (A : Option Addr) (c : Nat) (l : List Entry) (w : World) (h : Rds w 3 A l.length (encs l)) (hn : l.length ≤ 1048576) (hv : ∀ x ∈ l, vEntry x = true) :
    Calls Tryd.prog 56 #[.slice A l.length c] w fun e w' => e = .returned (.string (mkB l).1) ∧ UpOf w w' := by
  have HR := Lib.hid h
  have HV := Lib.hid hv
  clear h hv
  have hOwn := Lib.hid (World.ownsRow_lit (base := w.heap.size) (e := 5) (size := 1) w #[] 0 (Nat.le_refl _) (by unfold maxLen; omega) rfl)
  go_enter Tryd.func56, Tryd.ntmps56
  go_wp2_with (first | ((with_reducible refine wp_region_up (by kernel_rfl) (by kernel_rfl) ?_); (repeat (go_big_quiet_step (fail))); refine wpQuiet_nil ?_; intro _ hw'; obtain ⟨nq, hw''⟩ := hw'; subst hw''))
  go_loopw [3, 4, 5] (fun o s i wr => ∃ (k : Nat) (A' : Option Addr) (c' : Nat), k ≤ l.length ∧ i = i64 k ∧ s = i64 (mkB (l.take k)).2 ∧ o = .slice A' (mkB (l.take k)).1.data.toList.length c' ∧ wr.ownsRow w.heap.size 5 1 (.slice A' (mkB (l.take k)).1.data.toList.length c') (mkB (l.take k)).1.data.toList.length (Lib.byteCells (mkB (l.take k)).1.data.toList) ∧ ∃ g : Up w, wr = up w g) (fun _ _ i _ => l.length - (intOf i).toNat)
  case atStart => exact ⟨0, _, _, by omega, rfl, rfl, rfl, hOwn.out, ex_up (by repeat (first | exact Below.refl _ _ | refine bl_tr ?_ _ | refine bl_al ?_ _ | refine bl_dr ?_ | refine bl_up ?_ _ | refine Below.drew ?_ | refine bl_alloc ?_ _ | refine Below.setCell ?_ (by first | (simp; done) | (simp; omega)) _))⟩
  case round =>
    obtain ⟨k, A', c', hk, rfl, rfl, rfl, hown, g, rfl⟩ := hrel
    have HOWN := Lib.hid hown
    clear hown
    by_cases hlt : k < l.length
    · have hea := en_at HR.out hlt
      obtain ⟨b, off, rfl, hb, x0, x1, x2⟩ := hea
      have HE := Lib.hid (show EAt w b (off + k * 3) l[k] from ⟨hb, x0, x1, x2⟩)
      have hvk := Lib.hid (HV.out l[k] (List.getElem_mem hlt))
      have hbd := mkB_bd (l.take k) (fun x hx => HV.out x (List.mem_of_mem_take hx))
      have hlk : (l.take k).length ≤ k := by rw [List.length_take]; omega
      have hwl := ewords_len hvk.out
      have hsb := stampP_bd (mkB (l.take k)).2 l[k]
      have hnl := newLine_len hvk.out (mkB (l.take k)).2
      have hbl : (mkB (l.take k)).1.data.toList.length = (mkB (l.take k)).1.size := bsz _
      have hT2 := Lib.hid (show (mkB (l.take (k + 1))).1.data.toList = (mkB (l.take k)).1.data.toList ++ (newLine (mkB (l.take k)).2 l[k]).data.toList by rw [mkB_take hlt]; simp [ByteArray.data_append])
      have hS2 := Lib.hid (show (mkB (l.take (k + 1))).2 = stampP (mkB (l.take k)).2 l[k] by rw [mkB_take hlt])
      go_wp2_with (first | (go_at_call 52; refine (l27Words_any l[k] hvk.out _ _ _ (HE.out.below (by repeat (first | exact Below.refl _ _ | refine bl_tr ?_ _ | refine bl_al ?_ _ | refine bl_dr ?_ | refine bl_up ?_ _ | refine Below.drew ?_ | refine bl_alloc ?_ _ | refine Below.setCell ?_ (by first | (simp; done) | (simp; omega)) _)))).mono ?_; rintro e w' ⟨rfl, g, rfl⟩) | (go_at_call 51; refine (l27Stamp_any _ hwl l[k] rfl _ hbd.2.1 hbd.2.2 _).mono ?_; rintro e w' ⟨rfl, g, rfl⟩) | (go_at_call 69; refine (l27Line_any l[k] hvk.out _ hsb.1 hsb.2 _ _ _ (HE.out.below (by repeat (first | exact Below.refl _ _ | refine bl_tr ?_ _ | refine bl_al ?_ _ | refine bl_dr ?_ | refine bl_up ?_ _ | refine Below.drew ?_ | refine bl_alloc ?_ _ | refine Below.setCell ?_ (by first | (simp; done) | (simp; omega)) _)))).mono ?_; rintro e w' ⟨rfl, g, rfl⟩) | (at_builtin; go_must (refine wpl_appS rfl _ _ 44 9 rfl w w.heap.size 5 el_byte Tryd.underlying9 A' c' (mkB (l.take k)).1.data.toList rfl (own_below HOWN.out (by repeat (first | exact Below.refl _ _ | refine bl_tr ?_ _ | refine bl_al ?_ _ | refine bl_dr ?_ | refine bl_up ?_ _ | refine Below.drew ?_ | refine bl_alloc ?_ _ | refine Below.setCell ?_ (by first | (simp; done) | (simp; omega)) _))) (newLine (mkB (l.take k)).2 l[k]) rfl (by omega) (up_below w _).size (by repeat (first | exact Below.refl _ _ | refine bl_tr ?_ _ | refine bl_al ?_ _ | refine bl_dr ?_ | refine bl_up ?_ _ | refine Below.drew ?_ | refine bl_alloc ?_ _ | refine Below.setCell ?_ (by first | (simp; done) | (simp; omega)) _)) (Nat.le_refl _) ?_; intro A2 c2 g2 o2)) | ((with_reducible refine wp_region_up (by kernel_rfl) (by kernel_rfl) ?_); (repeat (go_big_quiet_step (first | (go_at_call 52; first | exact upq_tr (l27Words_any l[k] hvk.out _ _ _ (HE.out.below (by repeat (first | exact Below.refl _ _ | refine bl_tr ?_ _ | refine bl_al ?_ _ | refine bl_dr ?_ | refine bl_up ?_ _ | refine Below.drew ?_ | refine bl_alloc ?_ _ | refine Below.setCell ?_ (by first | (simp; done) | (simp; omega)) _)))) | exact upq (l27Words_any l[k] hvk.out _ _ _ (HE.out.below (by repeat (first | exact Below.refl _ _ | refine bl_tr ?_ _ | refine bl_al ?_ _ | refine bl_dr ?_ | refine bl_up ?_ _ | refine Below.drew ?_ | refine bl_alloc ?_ _ | refine Below.setCell ?_ (by first | (simp; done) | (simp; omega)) _))))) | (go_at_call 51; first | exact upq_tr (l27Stamp_any _ hwl l[k] rfl _ hbd.2.1 hbd.2.2 _) | exact upq (l27Stamp_any _ hwl l[k] rfl _ hbd.2.1 hbd.2.2 _)) | (go_at_call 69; first | exact upq_tr (l27Line_any l[k] hvk.out _ hsb.1 hsb.2 _ _ _ (HE.out.below (by repeat (first | exact Below.refl _ _ | refine bl_tr ?_ _ | refine bl_al ?_ _ | refine bl_dr ?_ | refine bl_up ?_ _ | refine Below.drew ?_ | refine bl_alloc ?_ _ | refine Below.setCell ?_ (by first | (simp; done) | (simp; omega)) _)))) | exact upq (l27Line_any l[k] hvk.out _ hsb.1 hsb.2 _ _ _ (HE.out.below (by repeat (first | exact Below.refl _ _ | refine bl_tr ?_ _ | refine bl_al ?_ _ | refine bl_dr ?_ | refine bl_up ?_ _ | refine Below.drew ?_ | refine bl_alloc ?_ _ | refine Below.setCell ?_ (by first | (simp; done) | (simp; omega)) _)))))))); refine wpQuiet_nil ?_; intro _ hw'; obtain ⟨nq, hw''⟩ := hw'; subst hw''))
      go_roundw
      case rel => exact ⟨k + 1, A2, c2, by omega, by go_num, by rw [hS2.out], by rw [hT2.out, List.length_append]; rfl, by rw [hT2.out]; exact o2, _, rfl⟩
      case measure => (simp [intOf]; try omega)
    · obtain rfl : k = l.length := by omega
      have htk : l.take l.length = l := List.take_of_length_le (Nat.le_refl _)
      have hcv := conv_own HOWN.out rfl (Below.refl _ _)
      rw [htk] at hcv HOWN ⊢
      rw [show (mkB l).1.data.toList.length = (mkB l).1.size from bsz _, show (⟨(mkB l).1.data.toList.toArray⟩ : ByteArray) = (mkB l).1 from bs_of _] at hcv
      go_wp2_with (first | ((with_reducible refine wp_region_up (by kernel_rfl) (by kernel_rfl) ?_); (repeat (go_big_quiet_step (fail))); refine wpQuiet_nil ?_; intro _ hw'; obtain ⟨nq, hw''⟩ := hw'; subst hw''))
      go_ret
      exact ⟨rfl, UpOf.of (by repeat (first | exact Below.refl _ _ | refine bl_tr ?_ _ | refine bl_al ?_ _ | refine bl_dr ?_ | refine bl_up ?_ _ | refine Below.drew ?_ | refine bl_alloc ?_ _ | refine Below.setCell ?_ (by first | (simp; done) | (simp; omega)) _))⟩
set_option maxRecDepth 10000 in
set_option maxHeartbeats 4000000 in
theorem logOfS_any (A : Option Addr) (c : Nat) (l : List Entry) (w : World) (h : Rds w 3 A l.length (encs l)) (hn : l.length ≤ 1048576) (hs : ∀ x ∈ l, x.what.size ≤ 9223372036854775807) :
    Calls Tryd.prog 19 #[.slice A l.length c] w fun e w' => e = .returned (.tuple #[.string (lgR l).1, i64 (lgR l).2]) ∧ UpOf w w' := by
  have HR := Lib.hid h
  have HS := Lib.hid hs
  clear h hs
  go_enter Tryd.func19, Tryd.ntmps19
  go_wp2_with (first | ((with_reducible refine wp_region_up (by kernel_rfl) (by kernel_rfl) ?_); (repeat (go_big_quiet_step (fail))); refine wpQuiet_nil ?_; intro _ hw'; obtain ⟨nq, hw''⟩ := hw'; subst hw''))
  go_loopw [4] (fun i wr => ∃ k : Nat, k ≤ l.length ∧ i = i64 k ∧ Hid (∀ j, j < k → ∀ hj : j < l.length, vEntry l[j] = true) ∧ ∃ g : Up w, wr = up w g) (fun i _ => l.length - (intOf i).toNat)
  case atStart => exact ⟨0, by omega, rfl, fun j hj => by omega, ex_up (by repeat (first | exact Below.refl _ _ | refine bl_tr ?_ _ | refine bl_al ?_ _ | refine bl_dr ?_ | refine bl_up ?_ _ | refine Below.drew ?_ | refine bl_alloc ?_ _ | refine Below.setCell ?_ (by first | (simp; done) | (simp; omega)) _))⟩
  case round =>
    obtain ⟨k, hk, rfl, hv, g, rfl⟩ := hrel
    by_cases hlt : k < l.length
    · obtain ⟨b, off, rfl, hb, x0, x1, x2⟩ := en_at HR.out hlt
      have HE := Lib.hid (show EAt w b (off + k * 3) l[k] from ⟨hb, x0, x1, x2⟩)
      cases q : vEntry l[k]
      · have hf := Lib.hid (lgR_7 hlt q)
        go_wp2_with (first | (go_at_call 49; refine (ret_as (l27Ok_any l[k] _ _ _ (HE.out.below (by repeat (first | exact Below.refl _ _ | refine bl_tr ?_ _ | refine bl_al ?_ _ | refine bl_dr ?_ | refine bl_up ?_ _ | refine Below.drew ?_ | refine bl_alloc ?_ _ | refine Below.setCell ?_ (by first | (simp; done) | (simp; omega)) _))) (HS.out _ (List.getElem_mem hlt))) q).mono ?_; rintro e w' ⟨rfl, g, rfl⟩) | ((with_reducible refine wp_region_up (by kernel_rfl) (by kernel_rfl) ?_); (repeat (go_big_quiet_step (first | (go_at_call 49; first | exact upq_tr (ret_as (l27Ok_any l[k] _ _ _ (HE.out.below (by repeat (first | exact Below.refl _ _ | refine bl_tr ?_ _ | refine bl_al ?_ _ | refine bl_dr ?_ | refine bl_up ?_ _ | refine Below.drew ?_ | refine bl_alloc ?_ _ | refine Below.setCell ?_ (by first | (simp; done) | (simp; omega)) _))) (HS.out _ (List.getElem_mem hlt))) q) | exact upq (ret_as (l27Ok_any l[k] _ _ _ (HE.out.below (by repeat (first | exact Below.refl _ _ | refine bl_tr ?_ _ | refine bl_al ?_ _ | refine bl_dr ?_ | refine bl_up ?_ _ | refine Below.drew ?_ | refine bl_alloc ?_ _ | refine Below.setCell ?_ (by first | (simp; done) | (simp; omega)) _))) (HS.out _ (List.getElem_mem hlt))) q))))); refine wpQuiet_nil ?_; intro _ hw'; obtain ⟨nq, hw''⟩ := hw'; subst hw''))
        go_ret2
        exact ⟨by rw [hf.out] <;> rfl, UpOf.of (by repeat (first | exact Below.refl _ _ | refine bl_tr ?_ _ | refine bl_al ?_ _ | refine bl_dr ?_ | refine bl_up ?_ _ | refine Below.drew ?_ | refine bl_alloc ?_ _ | refine Below.setCell ?_ (by first | (simp; done) | (simp; omega)) _))⟩
      · have hv2 := Lib.hid (valid_ext hv.out (fun _ => q))
        go_wp2_with (first | (go_at_call 49; refine (ret_as (l27Ok_any l[k] _ _ _ (HE.out.below (by repeat (first | exact Below.refl _ _ | refine bl_tr ?_ _ | refine bl_al ?_ _ | refine bl_dr ?_ | refine bl_up ?_ _ | refine Below.drew ?_ | refine bl_alloc ?_ _ | refine Below.setCell ?_ (by first | (simp; done) | (simp; omega)) _))) (HS.out _ (List.getElem_mem hlt))) q).mono ?_; rintro e w' ⟨rfl, g, rfl⟩) | ((with_reducible refine wp_region_up (by kernel_rfl) (by kernel_rfl) ?_); (repeat (go_big_quiet_step (first | (go_at_call 49; first | exact upq_tr (ret_as (l27Ok_any l[k] _ _ _ (HE.out.below (by repeat (first | exact Below.refl _ _ | refine bl_tr ?_ _ | refine bl_al ?_ _ | refine bl_dr ?_ | refine bl_up ?_ _ | refine Below.drew ?_ | refine bl_alloc ?_ _ | refine Below.setCell ?_ (by first | (simp; done) | (simp; omega)) _))) (HS.out _ (List.getElem_mem hlt))) q) | exact upq (ret_as (l27Ok_any l[k] _ _ _ (HE.out.below (by repeat (first | exact Below.refl _ _ | refine bl_tr ?_ _ | refine bl_al ?_ _ | refine bl_dr ?_ | refine bl_up ?_ _ | refine Below.drew ?_ | refine bl_alloc ?_ _ | refine Below.setCell ?_ (by first | (simp; done) | (simp; omega)) _))) (HS.out _ (List.getElem_mem hlt))) q))))); refine wpQuiet_nil ?_; intro _ hw'; obtain ⟨nq, hw''⟩ := hw'; subst hw''))
        go_roundw
        case rel => exact ⟨k + 1, by omega, by go_num, hv2, ex_up (by repeat (first | exact Below.refl _ _ | refine bl_tr ?_ _ | refine bl_al ?_ _ | refine bl_dr ?_ | refine bl_up ?_ _ | refine Below.drew ?_ | refine bl_alloc ?_ _ | refine Below.setCell ?_ (by first | (simp; done) | (simp; omega)) _))⟩
        case measure => (simp [intOf]; try omega)
    · obtain rfl : k = l.length := by omega
      have HV := Lib.hid (all_at hv.out)
      clear hv
      go_wp2_with (first | ((with_reducible refine wp_region_up (by kernel_rfl) (by kernel_rfl) ?_); (repeat (go_big_quiet_step (fail))); refine wpQuiet_nil ?_; intro _ hw'; obtain ⟨nq, hw''⟩ := hw'; subst hw''))
      refine wpg (R := fun V => UpOf w V) (UpOf.of (by repeat (first | exact Below.refl _ _ | refine bl_tr ?_ _ | refine bl_al ?_ _ | refine bl_dr ?_ | refine bl_up ?_ _ | refine Below.drew ?_ | refine bl_alloc ?_ _ | refine Below.setCell ?_ (by first | (simp; done) | (simp; omega)) _))) (fun W hu => ?_)
      have HU := Lib.hid hu
      have HR2 := Lib.hid (HR.out.below hu.below)
      clear hu
      go_loopw [5] (fun i wr => ∃ k : Nat, (k = 0 ∨ k + 1 ≤ l.length) ∧ i = i64 ((k : Int) + 1) ∧ Hid (∀ j, j < k → ∀ hj : j + 1 < l.length, l[j].day ≤ l[j + 1].day) ∧ ∃ g : Up W, wr = up W g) (fun i _ => l.length + 1 - (intOf i).toNat)
      case atStart => exact ⟨0, .inl rfl, rfl, fun j hj => by omega, ex_up (by repeat (first | exact Below.refl _ _ | refine bl_tr ?_ _ | refine bl_al ?_ _ | refine bl_dr ?_ | refine bl_up ?_ _ | refine Below.drew ?_ | refine bl_alloc ?_ _ | refine Below.setCell ?_ (by first | (simp; done) | (simp; omega)) _))⟩
      case round =>
        obtain ⟨k, hk, rfl, hso, g, rfl⟩ := hrel
        by_cases hlt : k + 1 < l.length
        · obtain ⟨b, off, rfl, hb, x0, x1, x2⟩ := en_at HR2.out (show k < l.length by omega)
          obtain ⟨b', off', he, hb', y0, y1, y2⟩ := en_at HR2.out hlt
          injection he with he
          injection he with he1 he2
          subst he1 he2
          have j0 : (0 : Int) ≤ (k : Int) + 1 := by omega
          have j1 : (k : Int) + 1 < (l.length : Int) := by omega
          have j2 : ((k : Int) + 1).toNat = k + 1 := by omega
          have j3 : (k : Int) < (l.length : Int) := by omega
          clear hb' x1 x2 y1 y2
          by_cases q : l[k + 1].day < l[k].day
          · have hf := Lib.hid (lgR_6 HV.out hlt q)
            go_wp2_with (first | ((with_reducible refine wp_region_up (by kernel_rfl) (by kernel_rfl) ?_); (repeat (go_big_quiet_step (fail))); refine wpQuiet_nil ?_; intro _ hw'; obtain ⟨nq, hw''⟩ := hw'; subst hw''))
            go_ret2
            exact ⟨by rw [hf.out] <;> rfl, HU.out.tr (by repeat (first | exact Below.refl _ _ | refine bl_tr ?_ _ | refine bl_al ?_ _ | refine bl_dr ?_ | refine bl_up ?_ _ | refine Below.drew ?_ | refine bl_alloc ?_ _ | refine Below.setCell ?_ (by first | (simp; done) | (simp; omega)) _))⟩
          · have hso2 := Lib.hid (sort_ext hso.out (fun _ => Int.not_lt.1 q))
            go_wp2_with (first | ((with_reducible refine wp_region_up (by kernel_rfl) (by kernel_rfl) ?_); (repeat (go_big_quiet_step (fail))); refine wpQuiet_nil ?_; intro _ hw'; obtain ⟨nq, hw''⟩ := hw'; subst hw''))
            go_roundw
            case rel => exact ⟨k + 1, .inr (by omega), by go_num, hso2, ex_up (by repeat (first | exact Below.refl _ _ | refine bl_tr ?_ _ | refine bl_al ?_ _ | refine bl_dr ?_ | refine bl_up ?_ _ | refine Below.drew ?_ | refine bl_alloc ?_ _ | refine Below.setCell ?_ (by first | (simp; done) | (simp; omega)) _))⟩
            case measure => (simp [intOf]; try omega)
        · have HSO := Lib.hid (show sortE l from fun j hj => hso.out j (by omega) hj)
          have j1 : ¬ (k : Int) + 1 < (l.length : Int) := by omega
          clear hso
          obtain ⟨T, hTT⟩ : ∃ T, (mkB l).1 = T := ⟨_, rfl⟩
          have cm : ∀ V, Rds V 3 A l.length (encs l) → Calls Tryd.prog 56 #[.slice A l.length c] V fun e w' => e = .returned (.string T) ∧ UpOf V w' := fun V hV => by rw [← hTT]; exact l27Make_any A c l V hV hn HV.out
          have CM := Lib.hid cm
          have HTT := Lib.hid hTT
          clear cm hTT
          by_cases q : T.size ≤ 4000
          · have hf := Lib.hid (lgR_0 HV.out HSO.out (by rw [HTT.out]; exact q))
            go_wp2_with (first | (go_at_call 56; refine (CM.out _ (HR2.out.below (by repeat (first | exact Below.refl _ _ | refine bl_tr ?_ _ | refine bl_al ?_ _ | refine bl_dr ?_ | refine bl_up ?_ _ | refine Below.drew ?_ | refine bl_alloc ?_ _ | refine Below.setCell ?_ (by first | (simp; done) | (simp; omega)) _)))).mono ?_; rintro e w' ⟨rfl, g, rfl⟩) | ((with_reducible refine wp_region_up (by kernel_rfl) (by kernel_rfl) ?_); (repeat (go_big_quiet_step (first | (go_at_call 56; first | exact upq_tr (CM.out _ (HR2.out.below (by repeat (first | exact Below.refl _ _ | refine bl_tr ?_ _ | refine bl_al ?_ _ | refine bl_dr ?_ | refine bl_up ?_ _ | refine Below.drew ?_ | refine bl_alloc ?_ _ | refine Below.setCell ?_ (by first | (simp; done) | (simp; omega)) _)))) | exact upq (CM.out _ (HR2.out.below (by repeat (first | exact Below.refl _ _ | refine bl_tr ?_ _ | refine bl_al ?_ _ | refine bl_dr ?_ | refine bl_up ?_ _ | refine Below.drew ?_ | refine bl_alloc ?_ _ | refine Below.setCell ?_ (by first | (simp; done) | (simp; omega)) _)))))))); refine wpQuiet_nil ?_; intro _ hw'; obtain ⟨nq, hw''⟩ := hw'; subst hw''))
            go_ret2
            exact ⟨by rw [hf.out, HTT.out] <;> rfl, HU.out.tr (by repeat (first | exact Below.refl _ _ | refine bl_tr ?_ _ | refine bl_al ?_ _ | refine bl_dr ?_ | refine bl_up ?_ _ | refine Below.drew ?_ | refine bl_alloc ?_ _ | refine Below.setCell ?_ (by first | (simp; done) | (simp; omega)) _))⟩
          · have hf := Lib.hid (lgR_5 HV.out HSO.out (by rw [HTT.out]; exact q))
            have q' : 4000 < T.size := by omega
            go_wp2_with (first | (go_at_call 56; refine (CM.out _ (HR2.out.below (by repeat (first | exact Below.refl _ _ | refine bl_tr ?_ _ | refine bl_al ?_ _ | refine bl_dr ?_ | refine bl_up ?_ _ | refine Below.drew ?_ | refine bl_alloc ?_ _ | refine Below.setCell ?_ (by first | (simp; done) | (simp; omega)) _)))).mono ?_; rintro e w' ⟨rfl, g, rfl⟩) | ((with_reducible refine wp_region_up (by kernel_rfl) (by kernel_rfl) ?_); (repeat (go_big_quiet_step (first | (go_at_call 56; first | exact upq_tr (CM.out _ (HR2.out.below (by repeat (first | exact Below.refl _ _ | refine bl_tr ?_ _ | refine bl_al ?_ _ | refine bl_dr ?_ | refine bl_up ?_ _ | refine Below.drew ?_ | refine bl_alloc ?_ _ | refine Below.setCell ?_ (by first | (simp; done) | (simp; omega)) _)))) | exact upq (CM.out _ (HR2.out.below (by repeat (first | exact Below.refl _ _ | refine bl_tr ?_ _ | refine bl_al ?_ _ | refine bl_dr ?_ | refine bl_up ?_ _ | refine Below.drew ?_ | refine bl_alloc ?_ _ | refine Below.setCell ?_ (by first | (simp; done) | (simp; omega)) _)))))))); refine wpQuiet_nil ?_; intro _ hw'; obtain ⟨nq, hw''⟩ := hw'; subst hw''))
            go_ret2
            exact ⟨by rw [hf.out] <;> rfl, HU.out.tr (by repeat (first | exact Below.refl _ _ | refine bl_tr ?_ _ | refine bl_al ?_ _ | refine bl_dr ?_ | refine bl_up ?_ _ | refine Below.drew ?_ | refine bl_alloc ?_ _ | refine Below.setCell ?_ (by first | (simp; done) | (simp; omega)) _))⟩
end Go.Proofs.YtkjomkiajdjhpaaDoor

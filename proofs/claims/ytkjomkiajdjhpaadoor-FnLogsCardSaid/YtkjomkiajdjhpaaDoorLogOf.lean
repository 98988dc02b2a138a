/-
  LogOf of the program. The bounds stand at it; it leans on the laid table.
-/
import Derived.Test.YtkjomkiajdjhpaaDoorLogOfP
namespace Go.Proofs.YtkjomkiajdjhpaaDoor
open Go.RowKit
theorem LI.nil (base : Nat) (w : World) (hb : base ≤ w.heap.size) : LI base (w.alloc (.cells #[.slice none 0 0, i64 0, i64 0] 76)) w.heap.size [] 0 0 :=
  ⟨none, 0, Blk.new w _ _, hb, ⟨rfl, .inl ⟨rfl, rfl⟩⟩, .inl rfl⟩
theorem sort_ext {l : List Entry} {k : Nat} (h : ∀ j, j < k → ∀ hj : j + 1 < l.length, l[j].day ≤ l[j + 1].day) (h2 : ∀ hj : k + 1 < l.length, l[k].day ≤ l[k + 1].day) : ∀ j, j < k + 1 → ∀ hj : j + 1 < l.length, l[j].day ≤ l[j + 1].day := fun j hj hl => by
  rcases Nat.lt_succ_iff_lt_or_eq.1 hj with h' | h'
  · exact h j h' hl
  · subst h'; exact h2 hl
theorem valid_ext {l : List Entry} {k : Nat} (h : ∀ j, j < k → ∀ hj : j < l.length, vEntry l[j] = true) (h2 : ∀ hj : k < l.length, vEntry l[k] = true) : ∀ j, j < k + 1 → ∀ hj : j < l.length, vEntry l[j] = true := fun j hj hl => by
  rcases Nat.lt_succ_iff_lt_or_eq.1 hj with h' | h'
  · exact h j h' hl
  · subst h'; exact h2 hl
set_option maxRecDepth 10000 in
set_option maxHeartbeats 4000000 in
theorem logOfI_any (A : Option Addr) (c : Nat) (l : List Entry) (w : World) (h : Rds w 3 A l.length (encs l)) (hn : l.length ≤ 1048576) (hs : ∀ x ∈ l, x.what.size ≤ 9223372036854775807) (ht : Tab w) :
    Calls Tryd.prog 21 #[.slice A l.length c] w fun e w' => e = .returned (.tuple #[.string (lgR l).1, i64 (lgR l).2]) ∧ UpOf w w' := by
  have HT := Lib.hid ht
  have HR := Lib.hid h
  have HS := Lib.hid hs
  clear ht h hs
  go_enter Tryd.func21, Tryd.ntmps21
  go_wp2_with (first | ((with_reducible refine wp_region_up (by kernel_rfl) (by kernel_rfl) ?_); (repeat (go_big_quiet_step (fail))); refine wpQuiet_nil ?_; intro _ hw'; obtain ⟨nq, hw''⟩ := hw'; subst hw''))
  go_loopw [13] (fun i wr => ∃ k : Nat, k ≤ l.length ∧ i = i64 k ∧ Hid (∀ j, j < k → ∀ hj : j < l.length, vEntry l[j] = true) ∧ ∃ g : Up w, wr = up w g) (fun i _ => l.length - (intOf i).toNat)
  case atStart => exact ⟨0, by omega, rfl, fun j hj => by omega, ex_up (by repeat (first | exact Below.refl _ _ | refine bl_tr ?_ _ | refine bl_al ?_ _ | refine bl_dr ?_ | refine bl_up ?_ _ | refine Below.drew ?_ | refine bl_alloc ?_ _ | refine Below.setCell ?_ (by first | (simp; done) | (simp; omega)) _))⟩
  case round =>
    obtain ⟨k, hk, rfl, hv, g, rfl⟩ := hrel
    by_cases hlt : k < l.length
    · obtain ⟨b, off, rfl, hb, x0, x1, x2⟩ := en_at HR.out hlt
      cases q : vEntry l[k]
      · have hf := Lib.hid (lgR_7 hlt q)
        go_wp2_with (first | (go_at_call 53; refine (ret_as (validEntryI_any l[k] _ (HS.out _ (List.getElem_mem hlt))) q).mono ?_; rintro e w' ⟨rfl, g, rfl⟩) | ((with_reducible refine wp_region_up (by kernel_rfl) (by kernel_rfl) ?_); (repeat (go_big_quiet_step (first | (go_at_call 53; first | exact upq_tr (ret_as (validEntryI_any l[k] _ (HS.out _ (List.getElem_mem hlt))) q) | exact upq (ret_as (validEntryI_any l[k] _ (HS.out _ (List.getElem_mem hlt))) q))))); refine wpQuiet_nil ?_; intro _ hw'; obtain ⟨nq, hw''⟩ := hw'; subst hw''))
        go_ret2
        exact ⟨by rw [hf.out] <;> rfl, UpOf.of (by repeat (first | exact Below.refl _ _ | refine bl_tr ?_ _ | refine bl_al ?_ _ | refine bl_dr ?_ | refine bl_up ?_ _ | refine Below.drew ?_ | refine bl_alloc ?_ _ | refine Below.setCell ?_ (by first | (simp; done) | (simp; omega)) _))⟩
      · have hv2 := Lib.hid (valid_ext hv.out (fun _ => q))
        go_wp2_with (first | (go_at_call 53; refine (ret_as (validEntryI_any l[k] _ (HS.out _ (List.getElem_mem hlt))) q).mono ?_; rintro e w' ⟨rfl, g, rfl⟩) | ((with_reducible refine wp_region_up (by kernel_rfl) (by kernel_rfl) ?_); (repeat (go_big_quiet_step (first | (go_at_call 53; first | exact upq_tr (ret_as (validEntryI_any l[k] _ (HS.out _ (List.getElem_mem hlt))) q) | exact upq (ret_as (validEntryI_any l[k] _ (HS.out _ (List.getElem_mem hlt))) q))))); refine wpQuiet_nil ?_; intro _ hw'; obtain ⟨nq, hw''⟩ := hw'; subst hw''))
        go_roundw
        case rel => exact ⟨k + 1, by omega, by go_num, hv2, ex_up (by repeat (first | exact Below.refl _ _ | refine bl_tr ?_ _ | refine bl_al ?_ _ | refine bl_dr ?_ | refine bl_up ?_ _ | refine Below.drew ?_ | refine bl_alloc ?_ _ | refine Below.setCell ?_ (by first | (simp; done) | (simp; omega)) _))⟩
        case measure => (simp [intOf]; try omega)
    · obtain rfl : k = l.length := by omega
      have HV := Lib.hid (all_at hv.out)
      clear hv
      go_wp2_with (first | ((with_reducible refine wp_region_up (by kernel_rfl) (by kernel_rfl) ?_); (repeat (go_big_quiet_step (fail))); refine wpQuiet_nil ?_; intro _ hw'; obtain ⟨nq, hw''⟩ := hw'; subst hw''))
      refine wpg (R := fun V => UpOf w V) (UpOf.of (by repeat (first | exact Below.refl _ _ | refine bl_tr ?_ _ | refine bl_al ?_ _ | refine bl_dr ?_ | refine bl_up ?_ _ | refine Below.drew ?_ | refine bl_alloc ?_ _ | refine Below.setCell ?_ (by first | (simp; done) | (simp; omega)) _))) (fun W hu => ?_)
      have HU := Lib.hid hu
      have HR2 := Lib.hid (HR.out.below hu.below)
      clear hu
      go_loopw [6] (fun i wr => ∃ k : Nat, (k = 0 ∨ k + 1 ≤ l.length) ∧ i = i64 ((k : Int) + 1) ∧ Hid (∀ j, j < k → ∀ hj : j + 1 < l.length, l[j].day ≤ l[j + 1].day) ∧ ∃ g : Up W, wr = up W g) (fun i _ => l.length + 1 - (intOf i).toNat)
      case atStart => exact ⟨0, .inl rfl, rfl, fun j hj => by omega, ex_up (by repeat (first | exact Below.refl _ _ | refine bl_tr ?_ _ | refine bl_al ?_ _ | refine bl_dr ?_ | refine bl_up ?_ _ | refine Below.drew ?_ | refine bl_alloc ?_ _ | refine Below.setCell ?_ (by first | (simp; done) | (simp; omega)) _))⟩
      case round =>
        obtain ⟨k, hk, rfl, hso, g, rfl⟩ := hrel
        by_cases hlt : k + 1 < l.length
        · obtain ⟨b, off, rfl, hb, x0, x1, x2⟩ := en_at HR2.out (show k < l.length by omega)
          obtain ⟨b', off', he, hb', y0, y1, y2⟩ := en_at HR2.out hlt
          injection he with he
          injection he with he1 he2
          subst he1 he2
          have j0 : (0 : Int) ≤ (k : Int) + 1 := by omega
          have j1 : (k : Int) + 1 < (l.length : Int) := by omega
          have j2 : ((k : Int) + 1).toNat = k + 1 := by omega
          have j3 : (k : Int) < (l.length : Int) := by omega
          clear hb' x1 x2 y1 y2
          by_cases q : l[k + 1].day < l[k].day
          · have hf := Lib.hid (lgR_6 HV.out hlt q)
            go_wp2_with (first | ((with_reducible refine wp_region_up (by kernel_rfl) (by kernel_rfl) ?_); (repeat (go_big_quiet_step (fail))); refine wpQuiet_nil ?_; intro _ hw'; obtain ⟨nq, hw''⟩ := hw'; subst hw''))
            go_ret2
            exact ⟨by rw [hf.out] <;> rfl, HU.out.tr (by repeat (first | exact Below.refl _ _ | refine bl_tr ?_ _ | refine bl_al ?_ _ | refine bl_dr ?_ | refine bl_up ?_ _ | refine Below.drew ?_ | refine bl_alloc ?_ _ | refine Below.setCell ?_ (by first | (simp; done) | (simp; omega)) _))⟩
          · have hso2 := Lib.hid (sort_ext hso.out (fun _ => Int.not_lt.1 q))
            go_wp2_with (first | ((with_reducible refine wp_region_up (by kernel_rfl) (by kernel_rfl) ?_); (repeat (go_big_quiet_step (fail))); refine wpQuiet_nil ?_; intro _ hw'; obtain ⟨nq, hw''⟩ := hw'; subst hw''))
            go_roundw
            case rel => exact ⟨k + 1, .inr (by omega), by go_num, hso2, ex_up (by repeat (first | exact Below.refl _ _ | refine bl_tr ?_ _ | refine bl_al ?_ _ | refine bl_dr ?_ | refine bl_up ?_ _ | refine Below.drew ?_ | refine bl_alloc ?_ _ | refine Below.setCell ?_ (by first | (simp; done) | (simp; omega)) _))⟩
            case measure => (simp [intOf]; try omega)
        · have HSO := Lib.hid (show sortE l from fun j hj => hso.out j (by omega) hj)
          have j1 : ¬ (k : Int) + 1 < (l.length : Int) := by omega
          clear hso
          go_wp2_with (first | ((with_reducible refine wp_region_up (by kernel_rfl) (by kernel_rfl) ?_); (repeat (go_big_quiet_step (fail))); refine wpQuiet_nil ?_; intro _ hw'; obtain ⟨nq, hw''⟩ := hw'; subst hw''))
          refine wpg (R := fun V => LI w.heap.size V (up W g).heap.size [] 0 0 ∧ UpOf w V) ⟨LI.nil _ _ (Nat.le_trans HU.out.below.size (up_below W g).size), HU.out.tr (by repeat (first | exact Below.refl _ _ | refine bl_tr ?_ _ | refine bl_al ?_ _ | refine bl_dr ?_ | refine bl_up ?_ _ | refine Below.drew ?_ | refine bl_alloc ?_ _ | refine Below.setCell ?_ (by first | (simp; done) | (simp; omega)) _))⟩ (fun V z => ?_)
          have Z := Lib.hid z
          generalize (up W g).heap.size = rb at *
          clear z j1 hlt hk
          go_loopw [8, 43] (fun o i wr => ∃ k : Nat, k ≤ l.length ∧ i = i64 k ∧ o = .string (mkB (l.take k)).1 ∧ Hid ((mkB (l.take k)).1.size ≤ 4000) ∧ LI w.heap.size wr rb (l.take k) (mkB (l.take k)).2 0 ∧ UpOf w wr) (fun _ i _ => l.length - (intOf i).toNat)
          case atStart => exact ⟨0, by omega, rfl, rfl, by show (⟨#[]⟩ : ByteArray).size ≤ 4000; decide, Z.out.1, Z.out.2⟩
          case round =>
            obtain ⟨k, hk, rfl, rfl, hsz, hli, hup⟩ := hrel
            by_cases hlt : k < l.length
            · obtain ⟨b, off, rfl, hb, x0, x1, x2⟩ := en_at (HR.out.below hup.below) hlt
              have HLI := Lib.hid hli
              have HUP := Lib.hid hup
              have hvk := Lib.hid (HV.out l[k] (List.getElem_mem hlt))
              have hbd := mkB_bd (l.take k) (fun x hx => HV.out x (List.mem_of_mem_take hx))
              have hld := last_day HSO.out hlt hvk.out
              obtain ⟨T, hTT⟩ : ∃ T, (mkB (l.take k)).1 ++ newLine (mkB (l.take k)).2 l[k] = T := ⟨_, rfl⟩
              have hT2 := Lib.hid (show (mkB (l.take (k + 1))).1 = T by rw [mkB_take hlt]; exact hTT)
              have hS2 := Lib.hid (show (mkB (l.take (k + 1))).2 = stampP (mkB (l.take k)).2 l[k] by rw [mkB_take hlt])
              have HTT := Lib.hid hTT
              have hsz2 := hsz.out
              have hlk : (l.take k).length ≤ 1000000000 := by rw [List.length_take]; omega
              clear hli hup hTT
              go_wp2_with fail
              have cx := ext_ok w.heap.size rb 0 (l.take k) (mkB (l.take k)).2 (mkB (l.take k)).1 l[k] (wr.alloc (.cells #[i64 l[k].day, .string l[k].what, i64 l[k].value] 27)) (HLI.out.below (by repeat (first | exact Below.refl _ _ | refine bl_tr ?_ _ | refine bl_al ?_ _ | refine bl_dr ?_ | refine bl_up ?_ _ | refine Below.drew ?_ | refine bl_alloc ?_ _ | refine Below.setCell ?_ (by first | (simp; done) | (simp; omega)) _))) (fun W' hW => HT.out.below ((HUP.out.tr (by repeat (first | exact Below.refl _ _ | refine bl_tr ?_ _ | refine bl_al ?_ _ | refine bl_dr ?_ | refine bl_up ?_ _ | refine Below.drew ?_ | refine bl_alloc ?_ _ | refine Below.setCell ?_ (by first | (simp; done) | (simp; omega)) _))).below.trans hW)) hlk (by omega) hbd.2.1 hbd.2.2 hvk.out (fun hh => by omega)
              rw [HTT.out, ← e_take hlt, ← hS2.out] at cx
              refine cx.mono ?_
              clear cx
              rintro e W2 ⟨rfl, hl2, hb2⟩
              have HL2 := Lib.hid hl2
              have HW2 := Lib.hid (show UpOf w W2 from .of ((HUP.out.tr (V' := wr.alloc (.cells #[i64 l[k].day, .string l[k].what, i64 l[k].value] 27)) (by repeat (first | exact Below.refl _ _ | refine bl_tr ?_ _ | refine bl_al ?_ _ | refine bl_dr ?_ | refine bl_up ?_ _ | refine Below.drew ?_ | refine bl_alloc ?_ _ | refine Below.setCell ?_ (by first | (simp; done) | (simp; omega)) _))).below.trans hb2))
              clear hl2 hb2
              by_cases q : T.size ≤ 4000
              · go_wp2_with (first | ((with_reducible refine wp_region_up (by kernel_rfl) (by kernel_rfl) ?_); (repeat (go_big_quiet_step (fail))); refine wpQuiet_nil ?_; intro _ hw'; obtain ⟨nq, hw''⟩ := hw'; subst hw''))
                go_roundw
                case rel => exact ⟨k + 1, by omega, by go_num, by rw [hT2.out], by rw [hT2.out]; exact q, HL2.out, HW2.out⟩
                case measure => (simp [intOf]; try omega)
              · have hf := Lib.hid (lgR_5 HV.out HSO.out (fun hh => q (by rw [← hT2.out]; exact Nat.le_trans (mkB_mono l (k + 1)) hh)))
                have q' : 4000 < T.size := by omega
                go_wp2_with (first | ((with_reducible refine wp_region_up (by kernel_rfl) (by kernel_rfl) ?_); (repeat (go_big_quiet_step (fail))); refine wpQuiet_nil ?_; intro _ hw'; obtain ⟨nq, hw''⟩ := hw'; subst hw''))
                go_ret2
                exact ⟨by rw [hf.out] <;> rfl, HW2.out.tr (by repeat (first | exact Below.refl _ _ | refine bl_tr ?_ _ | refine bl_al ?_ _ | refine bl_dr ?_ | refine bl_up ?_ _ | refine Below.drew ?_ | refine bl_alloc ?_ _ | refine Below.setCell ?_ (by first | (simp; done) | (simp; omega)) _))⟩
            · obtain rfl : k = l.length := by omega
              have hsz2 := hsz.out
              rw [List.take_of_length_le (Nat.le_refl _)] at hsz2
              have hf := Lib.hid (lgR_0 HV.out HSO.out hsz2)
              have HUP := Lib.hid hup
              have htk : l.take l.length = l := List.take_of_length_le (Nat.le_refl _)
              clear hup hli hsz2
              rw [htk]
              clear htk
              go_wp2_with (first | ((with_reducible refine wp_region_up (by kernel_rfl) (by kernel_rfl) ?_); (repeat (go_big_quiet_step (fail))); refine wpQuiet_nil ?_; intro _ hw'; obtain ⟨nq, hw''⟩ := hw'; subst hw''))
              go_ret2
              exact ⟨by rw [hf.out] <;> rfl, HUP.out.tr (by repeat (first | exact Below.refl _ _ | refine bl_tr ?_ _ | refine bl_al ?_ _ | refine bl_dr ?_ | refine bl_up ?_ _ | refine Below.drew ?_ | refine bl_alloc ?_ _ | refine Below.setCell ?_ (by first | (simp; done) | (simp; omega)) _))⟩
end Go.Proofs.YtkjomkiajdjhpaaDoor

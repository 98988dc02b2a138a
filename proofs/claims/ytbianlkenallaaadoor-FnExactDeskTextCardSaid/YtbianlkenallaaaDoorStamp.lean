/-
  An entry's words and its stamp: the program's and the reference's. The bounds stand at each; the program's lean on the laid table.
-/
import Derived.Test.YtbianlkenallaaaDoorLogP
import Derived.Test.YtbianlkenallaaaDoorDecI
import Derived.Test.YtbianlkenallaaaDoorDec
import Derived.Laws.Concat
import Derived.Test.YtbianlkenallaaaDoorGen
namespace Go.Proofs.YtbianlkenallaaaDoor
open Go.RowKit
set_option maxRecDepth 10000 in
set_option maxHeartbeats 1000000 in
theorem words_any (x : Entry) (hv : vEntry x = true) (w : World) (ht : Tab w) :
    Calls Tryd.prog 73 #[env x] w fun e w' => e = .returned (.string (ewords x)) ∧ UpOf w w' := by
  have HT := Lib.hid ht
  clear ht
  obtain ⟨b1, b2, b3, b4, b5⟩ := vEntry_inv hv
  clear hv
  go_enter Tryd.func73, Tryd.ntmps73
  go_wp2_with fail
  refine wpg (R := fun V => (V.cell? ⟨w.heap.size, 0, none⟩ = some (i64 x.day) ∧ V.cell? ⟨w.heap.size, 1, none⟩ = some (.string x.what) ∧ V.cell? ⟨w.heap.size, 2, none⟩ = some (i64 x.value) ∧ w.heap.size < V.heap.size) ∧ UpOf w V)
    ⟨⟨World.cell?_alloc_new w #[i64 x.day, .string x.what, i64 x.value] _ 0, World.cell?_alloc_new w #[i64 x.day, .string x.what, i64 x.value] _ 1, World.cell?_alloc_new w #[i64 x.day, .string x.what, i64 x.value] _ 2, by simp⟩, UpOf.of (by repeat (first | exact Below.refl _ _ | refine bl_tr ?_ _ | refine bl_al ?_ _ | refine bl_dr ?_ | refine bl_up ?_ _ | refine Below.drew ?_ | refine bl_alloc ?_ _ | refine Below.setCell ?_ (by first | (simp; done) | (simp; omega)) _))⟩ (fun V st => ?_)
  obtain ⟨⟨d0, d1, d2, hq⟩, hup⟩ := st
  have HT2 := Lib.hid (HT.out.below hup.below)
  have HU := Lib.hid hup
  clear hup HT
  generalize w.heap.size = q at *
  have hz1 := dec_len (n := x.day) (by omega) (by omega)
  have hz2 := dec_len (n := x.value) (by omega) (by omega)
  have hz4 := nameB_bd b3
  have z1 : (⟨#[32]⟩ : ByteArray).size = 1 := rfl
  have e1 : ∀ w, (Op.stringOp .add (dec x.day) (⟨#[32]⟩ : ByteArray)).run Tryd.prog w = .ok (.string (dec x.day ++ ⟨#[32]⟩)) w := fun w => run_string_add_sum w _ _ (by omega)
  have e2 : ∀ w, (Op.stringOp .add (dec x.day ++ ⟨#[32]⟩) x.what).run Tryd.prog w = .ok (.string (dec x.day ++ ⟨#[32]⟩ ++ x.what)) w := fun w => run_string_add_sum w _ _ (by simp only [ByteArray.size_append]; omega)
  have e3 : ∀ w, (Op.stringOp .add (dec x.day ++ ⟨#[32]⟩ ++ x.what) (⟨#[32]⟩ : ByteArray)).run Tryd.prog w = .ok (.string (dec x.day ++ ⟨#[32]⟩ ++ x.what ++ ⟨#[32]⟩)) w := fun w => run_string_add_sum w _ _ (by simp only [ByteArray.size_append]; omega)
  have e4 : ∀ w, (Op.stringOp .add (dec x.day ++ ⟨#[32]⟩ ++ x.what ++ ⟨#[32]⟩) (dec x.value)).run Tryd.prog w = .ok (.string (ewords x)) w := fun w => run_string_add_sum w _ _ (by simp only [ByteArray.size_append]; omega)
  clear hz1 hz2 hz4 z1 b3
  go_region_held3 (fun w' => (V).heap.size ≤ w'.heap.size ∧ ∀ b o, b < (V).heap.size → w'.cell? ⟨b, o, none⟩ = (V).cell? ⟨b, o, none⟩) (exact sm_of (by repeat (first | exact Below.refl _ _ | refine bl_tr ?_ _ | refine bl_al ?_ _ | refine bl_dr ?_ | refine bl_up ?_ _ | refine Below.drew ?_ | refine bl_alloc ?_ _ | refine Below.setCell ?_ (by first | (simp; done) | (simp; omega)) _))) (first | (go_at_call 26; refine (decI_any _ _ (by omega) (by omega) (HT2.out.below (by repeat (first | exact Below.refl _ _ | refine bl_tr ?_ _ | refine bl_al ?_ _ | refine bl_dr ?_ | refine bl_up ?_ _ | refine Below.drew ?_ | refine bl_alloc ?_ _ | refine Below.setCell ?_ (by first | (simp; done) | (simp; omega)) _)))).mono ?_; rintro e w' ⟨rfl, g5, rfl⟩))
  go_wp2_with (first | ((with_reducible refine wp_region_up (by kernel_rfl) (by kernel_rfl) ?_); (repeat (go_big_quiet_step (fail))); refine wpQuiet_nil ?_; intro _ hw'; obtain ⟨nq, hw''⟩ := hw'; subst hw''))
  go_ret
  exact ⟨rfl, HU.out.tr (by repeat (first | exact Below.refl _ _ | refine bl_tr ?_ _ | refine bl_al ?_ _ | refine bl_dr ?_ | refine bl_up ?_ _ | refine Below.drew ?_ | refine bl_alloc ?_ _ | refine Below.setCell ?_ (by first | (simp; done) | (simp; omega)) _))⟩
set_option maxRecDepth 10000 in
set_option maxHeartbeats 1000000 in
theorem l27Words_any (x : Entry) (hv : vEntry x = true) (b o : Nat) (w : World) (h : EAt w b o x) :
    Calls Tryd.prog 64 #[.pointer (some ⟨b, o, none⟩)] w fun e w' => e = .returned (.string (ewords x)) ∧ UpOf w w' := by
  obtain ⟨b1, b2, b3, b4, b5⟩ := vEntry_inv hv
  clear hv
  obtain ⟨hb, c0, c1, c2⟩ := h
  go_enter Tryd.func64, Tryd.ntmps64
  go_wp2_with fail
  have hz1 := dec_len (n := x.day) (by omega) (by omega)
  have hz2 := dec_len (n := x.value) (by omega) (by omega)
  have hz4 := nameB_bd b3
  have z1 : (⟨#[32]⟩ : ByteArray).size = 1 := rfl
  have e1 : ∀ w, (Op.stringOp .add (dec x.day) (⟨#[32]⟩ : ByteArray)).run Tryd.prog w = .ok (.string (dec x.day ++ ⟨#[32]⟩)) w := fun w => run_string_add_sum w _ _ (by omega)
  have e2 : ∀ w, (Op.stringOp .add (dec x.day ++ ⟨#[32]⟩) x.what).run Tryd.prog w = .ok (.string (dec x.day ++ ⟨#[32]⟩ ++ x.what)) w := fun w => run_string_add_sum w _ _ (by simp only [ByteArray.size_append]; omega)
  have e3 : ∀ w, (Op.stringOp .add (dec x.day ++ ⟨#[32]⟩ ++ x.what) (⟨#[32]⟩ : ByteArray)).run Tryd.prog w = .ok (.string (dec x.day ++ ⟨#[32]⟩ ++ x.what ++ ⟨#[32]⟩)) w := fun w => run_string_add_sum w _ _ (by simp only [ByteArray.size_append]; omega)
  have e4 : ∀ w, (Op.stringOp .add (dec x.day ++ ⟨#[32]⟩ ++ x.what ++ ⟨#[32]⟩) (dec x.value)).run Tryd.prog w = .ok (.string (ewords x)) w := fun w => run_string_add_sum w _ _ (by simp only [ByteArray.size_append]; omega)
  clear hz1 hz2 hz4 z1 b3
  go_region_held3 (fun w' => (w).heap.size ≤ w'.heap.size ∧ ∀ b o, b < (w).heap.size → w'.cell? ⟨b, o, none⟩ = (w).cell? ⟨b, o, none⟩) (exact sm_of (by repeat (first | exact Below.refl _ _ | refine bl_tr ?_ _ | refine bl_al ?_ _ | refine bl_dr ?_ | refine bl_up ?_ _ | refine Below.drew ?_ | refine bl_alloc ?_ _ | refine Below.setCell ?_ (by first | (simp; done) | (simp; omega)) _))) (first | (go_at_call 37; refine (l01Dec_any _ _ (by omega) (by omega)).mono ?_; rintro e w' ⟨rfl, g5, rfl⟩))
  go_wp2_with (first | ((with_reducible refine wp_region_up (by kernel_rfl) (by kernel_rfl) ?_); (repeat (go_big_quiet_step (fail))); refine wpQuiet_nil ?_; intro _ hw'; obtain ⟨nq, hw''⟩ := hw'; subst hw''))
  go_ret
  exact ⟨rfl, UpOf.of (by repeat (first | exact Below.refl _ _ | refine bl_tr ?_ _ | refine bl_al ?_ _ | refine bl_dr ?_ | refine bl_up ?_ _ | refine Below.drew ?_ | refine bl_alloc ?_ _ | refine Below.setCell ?_ (by first | (simp; done) | (simp; omega)) _))⟩
theorem tm_pos {n : Int} (h : 0 ≤ n) : n.tmod 65519 = n % 65519 := Int.tmod_eq_emod_of_nonneg h
set_option maxRecDepth 10000 in
set_option maxHeartbeats 1000000 in
theorem stamp_any (x : Entry) (hv : vEntry x = true) (n : Int) (h0 : 0 ≤ n) (h1 : n < 65519) (w : World) (ht : Tab w) :
    Calls Tryd.prog 72 #[env x, i64 n] w fun e w' => e = .returned (i64 (stampP n x)) ∧ UpOf w w' := by
  have HT := Lib.hid ht
  have HV := Lib.hid hv
  have hl0 := ewords_len hv
  clear ht hv
  obtain ⟨R, hR⟩ : ∃ R, stampP n x = R := ⟨_, rfl⟩
  rw [hR]
  obtain ⟨s0, hs0⟩ : ∃ s, (n + 29) % 65519 = s := ⟨_, rfl⟩
  have ht0 : (n + 29).tmod 65519 = s0 := by rw [tm_pos (by omega), hs0]
  have hb0 : 0 ≤ s0 ∧ s0 < 65519 := by omega
  obtain ⟨t, hte⟩ : ∃ t, ewords x = t := ⟨_, rfl⟩
  have hl : t.size ≤ 52 := by rw [← hte]; exact hl0
  have HR := Lib.hid (show stampG s0 t.data.toList = R by rw [← hte, ← hs0, ← hR]; rfl)
  have cw : ∀ W, Tab W → Calls Tryd.prog 73 #[env x] W fun e w' => e = .returned (.string t) ∧ UpOf W w' := fun W hW => by rw [← hte]; exact words_any x HV.out W hW
  have CW := Lib.hid cw
  clear hR hs0 hte hl0 cw
  go_enter Tryd.func72, Tryd.ntmps72
  go_wp2_with (first | (go_at_call 73; refine (CW.out _ (HT.out.below (by repeat (first | exact Below.refl _ _ | refine bl_tr ?_ _ | refine bl_al ?_ _ | refine bl_dr ?_ | refine bl_up ?_ _ | refine Below.drew ?_ | refine bl_alloc ?_ _ | refine Below.setCell ?_ (by first | (simp; done) | (simp; omega)) _)))).mono ?_; rintro e w' ⟨rfl, g, rfl⟩) | ((with_reducible refine wp_region_up (by kernel_rfl) (by kernel_rfl) ?_); (repeat (go_big_quiet_step (first | (go_at_call 73; first | exact upq_tr (CW.out _ (HT.out.below (by repeat (first | exact Below.refl _ _ | refine bl_tr ?_ _ | refine bl_al ?_ _ | refine bl_dr ?_ | refine bl_up ?_ _ | refine Below.drew ?_ | refine bl_alloc ?_ _ | refine Below.setCell ?_ (by first | (simp; done) | (simp; omega)) _)))) | exact upq (CW.out _ (HT.out.below (by repeat (first | exact Below.refl _ _ | refine bl_tr ?_ _ | refine bl_al ?_ _ | refine bl_dr ?_ | refine bl_up ?_ _ | refine Below.drew ?_ | refine bl_alloc ?_ _ | refine Below.setCell ?_ (by first | (simp; done) | (simp; omega)) _)))))))); refine wpQuiet_nil ?_; intro _ hw'; obtain ⟨nq, hw''⟩ := hw'; subst hw''))
  refine wpg (R := fun V => UpOf w V) (UpOf.of (by repeat (first | exact Below.refl _ _ | refine bl_tr ?_ _ | refine bl_al ?_ _ | refine bl_dr ?_ | refine bl_up ?_ _ | refine Below.drew ?_ | refine bl_alloc ?_ _ | refine Below.setCell ?_ (by first | (simp; done) | (simp; omega)) _))) (fun W hup => ?_)
  have HU := Lib.hid hup
  clear hup HT
  generalize w.heap.size = q at *
  go_loopw [5, 15] (fun s i wr => ∃ (k : Nat) (v : Int), k ≤ t.size ∧ 0 ≤ v ∧ v < 65519 ∧ i = i64 k ∧ s = i64 v ∧ Hid (stampG s0 (t.data.toList.take k) = v) ∧ ∃ g : Up W, wr = up W g) (fun _ i _ => t.size - (intOf i).toNat)
  case atStart => exact ⟨0, s0, by omega, hb0.1, hb0.2, rfl, rfl, rfl, ex_up (by repeat (first | exact Below.refl _ _ | refine bl_tr ?_ _ | refine bl_al ?_ _ | refine bl_dr ?_ | refine bl_up ?_ _ | refine Below.drew ?_ | refine bl_alloc ?_ _ | refine Below.setCell ?_ (by first | (simp; done) | (simp; omega)) _))⟩
  case round =>
    obtain ⟨k, v, hk, hv0, hv1, rfl, rfl, hvk, g, rfl⟩ := hrel
    by_cases hlt : k < t.size
    · obtain ⟨c, hc⟩ : ∃ c, t[k] = c := ⟨_, rfl⟩
      obtain ⟨v', hv'⟩ : ∃ v', (37 * v + (c.toNat : Int)) % 65519 = v' := ⟨_, rfl⟩
      have hcb : c.toNat < 256 := UInt8.toNat_lt c
      have hm : (37 * v + (c.toNat : Int)).tmod 65519 = v' := by rw [tm_pos (by omega), hv']
      have hb' : 0 ≤ v' ∧ v' < 65519 := by omega
      have hkl : k < t.data.toList.length := hlt
      have hg2 := Lib.hid (show stampG s0 (t.data.toList.take (k + 1)) = v' by
        rw [List.take_add_one, List.getElem?_eq_getElem hkl, Option.toList_some, stampG_snoc, hvk.out, ← hv', ← hc]; rfl)
      have HB' := Lib.hid hb'
      clear hv' hb'
      go_wp2_with (first | ((with_reducible refine wp_region_up (by kernel_rfl) (by kernel_rfl) ?_); (repeat (go_big_quiet_step (fail))); refine wpQuiet_nil ?_; intro _ hw'; obtain ⟨nq, hw''⟩ := hw'; subst hw''))
      go_roundw
      case rel => exact ⟨k + 1, v', by omega, HB'.out.1, HB'.out.2, by go_num, rfl, hg2, ex_up (by repeat (first | exact Below.refl _ _ | refine bl_tr ?_ _ | refine bl_al ?_ _ | refine bl_dr ?_ | refine bl_up ?_ _ | refine Below.drew ?_ | refine bl_alloc ?_ _ | refine Below.setCell ?_ (by first | (simp; done) | (simp; omega)) _))⟩
      case measure => (simp [intOf]; try omega)
    · obtain rfl : k = t.size := by omega
      have hR2 := Lib.hid (show R = v by rw [← HR.out, ← hvk.out, List.take_of_length_le (Nat.le_of_eq (bsz t))])
      go_wp2_with (first | ((with_reducible refine wp_region_up (by kernel_rfl) (by kernel_rfl) ?_); (repeat (go_big_quiet_step (fail))); refine wpQuiet_nil ?_; intro _ hw'; obtain ⟨nq, hw''⟩ := hw'; subst hw''))
      go_ret
      exact ⟨by rw [hR2.out] <;> rfl, HU.out.tr (by repeat (first | exact Below.refl _ _ | refine bl_tr ?_ _ | refine bl_al ?_ _ | refine bl_dr ?_ | refine bl_up ?_ _ | refine Below.drew ?_ | refine bl_alloc ?_ _ | refine Below.setCell ?_ (by first | (simp; done) | (simp; omega)) _))⟩
set_option maxRecDepth 10000 in
set_option maxHeartbeats 1000000 in
theorem l27Stamp_any (t : ByteArray) (hl : t.size ≤ 52) (x : Entry) (hte : t = ewords x) (n : Int) (h0 : 0 ≤ n) (h1 : n < 65519) (w : World) :
    Calls Tryd.prog 63 #[i64 n, .string t] w fun e w' => e = .returned (i64 (stampP n x)) ∧ UpOf w w' := by
  obtain ⟨R, hR⟩ : ∃ R, stampP n x = R := ⟨_, rfl⟩
  rw [hR]
  obtain ⟨s0, hs0⟩ : ∃ s, (n + 29) % 65519 = s := ⟨_, rfl⟩
  have ht0 : (n + 29).tmod 65519 = s0 := by rw [tm_pos (by omega), hs0]
  have hb0 : 0 ≤ s0 ∧ s0 < 65519 := by omega
  have HR := Lib.hid (show stampG s0 t.data.toList = R by rw [hte, ← hs0, ← hR]; rfl)
  clear hR hs0 hte
  go_enter Tryd.func63, Tryd.ntmps63
  go_wp2_with (first | ((with_reducible refine wp_region_up (by kernel_rfl) (by kernel_rfl) ?_); (repeat (go_big_quiet_step (fail))); refine wpQuiet_nil ?_; intro _ hw'; obtain ⟨nq, hw''⟩ := hw'; subst hw''))
  refine wpg (R := fun V => UpOf w V) (UpOf.of (by repeat (first | exact Below.refl _ _ | refine bl_tr ?_ _ | refine bl_al ?_ _ | refine bl_dr ?_ | refine bl_up ?_ _ | refine Below.drew ?_ | refine bl_alloc ?_ _ | refine Below.setCell ?_ (by first | (simp; done) | (simp; omega)) _))) (fun W hup => ?_)
  have HU := Lib.hid hup
  clear hup
  go_loopw [5, 6] (fun s i wr => ∃ (k : Nat) (v : Int), k ≤ t.size ∧ 0 ≤ v ∧ v < 65519 ∧ i = i64 k ∧ s = i64 v ∧ Hid (stampG s0 (t.data.toList.take k) = v) ∧ ∃ g : Up W, wr = up W g) (fun _ i _ => t.size - (intOf i).toNat)
  case atStart => exact ⟨0, s0, by omega, hb0.1, hb0.2, rfl, rfl, rfl, ex_up (by repeat (first | exact Below.refl _ _ | refine bl_tr ?_ _ | refine bl_al ?_ _ | refine bl_dr ?_ | refine bl_up ?_ _ | refine Below.drew ?_ | refine bl_alloc ?_ _ | refine Below.setCell ?_ (by first | (simp; done) | (simp; omega)) _))⟩
  case round =>
    obtain ⟨k, v, hk, hv0, hv1, rfl, rfl, hvk, g, rfl⟩ := hrel
    by_cases hlt : k < t.size
    · obtain ⟨c, hc⟩ : ∃ c, t[k] = c := ⟨_, rfl⟩
      obtain ⟨v', hv'⟩ : ∃ v', (37 * v + (c.toNat : Int)) % 65519 = v' := ⟨_, rfl⟩
      have hcb : c.toNat < 256 := UInt8.toNat_lt c
      have hm : (37 * v + (c.toNat : Int)).tmod 65519 = v' := by rw [tm_pos (by omega), hv']
      have hb' : 0 ≤ v' ∧ v' < 65519 := by omega
      have hkl : k < t.data.toList.length := hlt
      have hg2 := Lib.hid (show stampG s0 (t.data.toList.take (k + 1)) = v' by
        rw [List.take_add_one, List.getElem?_eq_getElem hkl, Option.toList_some, stampG_snoc, hvk.out, ← hv', ← hc]; rfl)
      have HB' := Lib.hid hb'
      clear hv' hb'
      go_wp2_with (first | ((with_reducible refine wp_region_up (by kernel_rfl) (by kernel_rfl) ?_); (repeat (go_big_quiet_step (fail))); refine wpQuiet_nil ?_; intro _ hw'; obtain ⟨nq, hw''⟩ := hw'; subst hw''))
      go_roundw
      case rel => exact ⟨k + 1, v', by omega, HB'.out.1, HB'.out.2, by go_num, rfl, hg2, ex_up (by repeat (first | exact Below.refl _ _ | refine bl_tr ?_ _ | refine bl_al ?_ _ | refine bl_dr ?_ | refine bl_up ?_ _ | refine Below.drew ?_ | refine bl_alloc ?_ _ | refine Below.setCell ?_ (by first | (simp; done) | (simp; omega)) _))⟩
      case measure => (simp [intOf]; try omega)
    · obtain rfl : k = t.size := by omega
      have hR2 := Lib.hid (show R = v by rw [← HR.out, ← hvk.out, List.take_of_length_le (Nat.le_of_eq (bsz t))])
      go_wp2_with (first | ((with_reducible refine wp_region_up (by kernel_rfl) (by kernel_rfl) ?_); (repeat (go_big_quiet_step (fail))); refine wpQuiet_nil ?_; intro _ hw'; obtain ⟨nq, hw''⟩ := hw'; subst hw''))
      go_ret
      exact ⟨by rw [hR2.out] <;> rfl, HU.out.tr (by repeat (first | exact Below.refl _ _ | refine bl_tr ?_ _ | refine bl_al ?_ _ | refine bl_dr ?_ | refine bl_up ?_ _ | refine Below.drew ?_ | refine bl_alloc ?_ _ | refine Below.setCell ?_ (by first | (simp; done) | (simp; omega)) _))⟩
end Go.Proofs.YtbianlkenallaaaDoor

/-
  A ware's line: the program's and the reference's. Premise on the world: the laid table.
-/
import Derived.Test.YtiibpldfnnhhlaaDoorMgA
import Derived.Test.YtiibpldfnnhhlaaDoorMgB
import Derived.Laws.Concat
import Derived.Test.YtiibpldfnnhhlaaDoorGen
namespace Go.Proofs.YtiibpldfnnhhlaaDoor
open Go.RowKit
def wTextN (x : Ware) : Nat → ByteArray
  | 0 => x.name
  | k + 1 => wTextN x k ++ (((⟨#[32]⟩ : ByteArray) ++ dec (brk x k).fr ++ ⟨#[58]⟩) ++ dec (brk x k).pr)
theorem wTextN_len (x : Ware) (k : Nat) (h : ∀ i, i < k → brkAt x i = true) : (wTextN x k).size ≤ x.name.size + 64 * k := by
  induction k with
  | zero => simp [wTextN]
  | succ k ih =>
    have h1 := ih (fun i hi => h i (by omega))
    have hb := brkAt_bd (h k (by omega))
    have h2 := dec_len (n := (brk x k).fr) (by omega) (by omega)
    have h3 := dec_len (n := (brk x k).pr) (by omega) (by omega)
    simp only [wTextN, ByteArray.size_append]
    have e1 : (⟨#[32]⟩ : ByteArray).size = 1 := rfl
    have e2 : (⟨#[58]⟩ : ByteArray).size = 1 := rfl
    omega
def wText (x : Ware) : ByteArray := if vWare x then wTextN x x.brs.length else ⟨#[]⟩
theorem wText_no {x : Ware} (h : vWare x = false) : wText x = ⟨#[]⟩ := by simp [wText, h]
theorem wText_ok {x : Ware} (h : vWare x = true) : wText x = wTextN x x.brs.length := by simp [wText, h]
set_option maxRecDepth 10000 in
set_option maxHeartbeats 2000000 in
theorem wareTextI_any (x : Ware) (A : Option Addr) (c : Nat) (w : World) (h : Rds w 2 A x.brs.length (bkcs x.brs)) (hn : x.brs.length ≤ 100000000) (hs : x.name.size ≤ 9223372036854775807) (ht : Tab w) :
    Calls Tryd.prog 9 #[.agg #[.string x.name, .slice A x.brs.length c]] w fun e w' => e = .returned (.string (wText x)) ∧ UpOf w w' := by
  have HT := Lib.hid ht
  clear ht
  go_enter Tryd.func9, Tryd.ntmps9
  cases hv : vWare x
  · have hf := Lib.hid (wText_no hv)
    go_wp2_with (first | (go_at_call 43; refine (ret_as (validWare_any x A c _ (h.below (by repeat (first | exact Below.refl _ _ | refine bl_tr ?_ _ | refine bl_al ?_ _ | refine bl_dr ?_ | refine bl_up ?_ _ | refine Below.drew ?_ | refine bl_alloc ?_ _ | refine Below.setCell ?_ (by first | (simp; done) | (simp; omega)) _))) hn hs) hv).mono ?_; rintro e w' ⟨rfl, g, rfl⟩) | ((with_reducible refine wp_region_up (by kernel_rfl) (by kernel_rfl) ?_); (repeat (go_big_quiet_step (first | (go_at_call 43; first | exact upq_tr (ret_as (validWare_any x A c _ (h.below (by repeat (first | exact Below.refl _ _ | refine bl_tr ?_ _ | refine bl_al ?_ _ | refine bl_dr ?_ | refine bl_up ?_ _ | refine Below.drew ?_ | refine bl_alloc ?_ _ | refine Below.setCell ?_ (by first | (simp; done) | (simp; omega)) _))) hn hs) hv) | exact upq (ret_as (validWare_any x A c _ (h.below (by repeat (first | exact Below.refl _ _ | refine bl_tr ?_ _ | refine bl_al ?_ _ | refine bl_dr ?_ | refine bl_up ?_ _ | refine Below.drew ?_ | refine bl_alloc ?_ _ | refine Below.setCell ?_ (by first | (simp; done) | (simp; omega)) _))) hn hs) hv))))); refine wpQuiet_nil ?_; intro _ hw'; obtain ⟨nq, hw''⟩ := hw'; subst hw''))
    go_ret
    exact ⟨by rw [hf.out]; rfl, UpOf.of (by repeat (first | exact Below.refl _ _ | refine bl_tr ?_ _ | refine bl_al ?_ _ | refine bl_dr ?_ | refine bl_up ?_ _ | refine Below.drew ?_ | refine bl_alloc ?_ _ | refine Below.setCell ?_ (by first | (simp; done) | (simp; omega)) _))⟩
  have hV := Lib.hid (vWare_inv hv)
  go_wp2_with (first | (go_at_call 43; refine (ret_as (validWare_any x A c _ (h.below (by repeat (first | exact Below.refl _ _ | refine bl_tr ?_ _ | refine bl_al ?_ _ | refine bl_dr ?_ | refine bl_up ?_ _ | refine Below.drew ?_ | refine bl_alloc ?_ _ | refine Below.setCell ?_ (by first | (simp; done) | (simp; omega)) _))) hn hs) hv).mono ?_; rintro e w' ⟨rfl, g, rfl⟩) | ((with_reducible refine wp_region_up (by kernel_rfl) (by kernel_rfl) ?_); (repeat (go_big_quiet_step (first | (go_at_call 43; first | exact upq_tr (ret_as (validWare_any x A c _ (h.below (by repeat (first | exact Below.refl _ _ | refine bl_tr ?_ _ | refine bl_al ?_ _ | refine bl_dr ?_ | refine bl_up ?_ _ | refine Below.drew ?_ | refine bl_alloc ?_ _ | refine Below.setCell ?_ (by first | (simp; done) | (simp; omega)) _))) hn hs) hv) | exact upq (ret_as (validWare_any x A c _ (h.below (by repeat (first | exact Below.refl _ _ | refine bl_tr ?_ _ | refine bl_al ?_ _ | refine bl_dr ?_ | refine bl_up ?_ _ | refine Below.drew ?_ | refine bl_alloc ?_ _ | refine Below.setCell ?_ (by first | (simp; done) | (simp; omega)) _))) hn hs) hv))))); refine wpQuiet_nil ?_; intro _ hw'; obtain ⟨nq, hw''⟩ := hw'; subst hw''))
  refine wpg (R := fun V => Rds V 2 A x.brs.length (bkcs x.brs) ∧ Tab V ∧ UpOf w V) ⟨h.below (by repeat (first | exact Below.refl _ _ | refine bl_tr ?_ _ | refine bl_al ?_ _ | refine bl_dr ?_ | refine bl_up ?_ _ | refine Below.drew ?_ | refine bl_alloc ?_ _ | refine Below.setCell ?_ (by first | (simp; done) | (simp; omega)) _)), HT.out.below (by repeat (first | exact Below.refl _ _ | refine bl_tr ?_ _ | refine bl_al ?_ _ | refine bl_dr ?_ | refine bl_up ?_ _ | refine Below.drew ?_ | refine bl_alloc ?_ _ | refine Below.setCell ?_ (by first | (simp; done) | (simp; omega)) _)), UpOf.of (by repeat (first | exact Below.refl _ _ | refine bl_tr ?_ _ | refine bl_al ?_ _ | refine bl_dr ?_ | refine bl_up ?_ _ | refine Below.drew ?_ | refine bl_alloc ?_ _ | refine Below.setCell ?_ (by first | (simp; done) | (simp; omega)) _))⟩ (fun W st => ?_)
  clear g h HT
  obtain ⟨hr, htab, hup⟩ := st
  have HT := Lib.hid htab
  have HU := Lib.hid hup
  have HR := Lib.hid hr
  clear hr htab hup
  generalize w.heap.size = p at *
  go_loopw [3, 14] (fun s i wr => ∃ k : Nat, k ≤ x.brs.length ∧ i = i64 k ∧ s = .string (wTextN x k) ∧ ∃ g : Up W, wr = up W g) (fun _ i _ => x.brs.length - (intOf i).toNat)
  case atStart => exact ⟨0, by omega, rfl, rfl, ex_up (by repeat (first | exact Below.refl _ _ | refine bl_tr ?_ _ | refine bl_al ?_ _ | refine bl_dr ?_ | refine bl_up ?_ _ | refine Below.drew ?_ | refine bl_alloc ?_ _ | refine Below.setCell ?_ (by first | (simp; done) | (simp; omega)) _))⟩
  case round =>
    obtain ⟨k, hk, rfl, rfl, g, rfl⟩ := hrel
    by_cases hlt : k < x.brs.length
    · obtain ⟨b, off, rfl, hb, ha⟩ := brk_all HR.out (by omega)
      obtain ⟨c0, c1⟩ := ha k hlt
      have hbd := Lib.hid (brkAt_bd (hV.out.2.2.2 k hlt))
      clear ha
      go_wp2_with (first | ((with_reducible refine wp_region_up (by kernel_rfl) (by kernel_rfl) ?_); (repeat (go_big_quiet_step (fail))); refine wpQuiet_nil ?_; intro _ hw'; obtain ⟨nq, hw''⟩ := hw'; subst hw''))
      refine wpg (R := fun V => (V.cell? ⟨(up W g).heap.size, 0, none⟩ = some (i64 (brk x k).fr) ∧ V.cell? ⟨(up W g).heap.size, 1, none⟩ = some (i64 (brk x k).pr) ∧ (up W g).heap.size < V.heap.size) ∧ UpOf W V)
        ⟨⟨World.cell?_alloc_new (up W g) #[i64 (brk x k).fr, i64 (brk x k).pr] _ 0, World.cell?_alloc_new (up W g) #[i64 (brk x k).fr, i64 (brk x k).pr] _ 1, by simp⟩, UpOf.of (by repeat (first | exact Below.refl _ _ | refine bl_tr ?_ _ | refine bl_al ?_ _ | refine bl_dr ?_ | refine bl_up ?_ _ | refine Below.drew ?_ | refine bl_alloc ?_ _ | refine Below.setCell ?_ (by first | (simp; done) | (simp; omega)) _))⟩ (fun V st => ?_)
      obtain ⟨⟨d0, d1, hq⟩, hup⟩ := st
      have HT2 := Lib.hid (HT.out.below hup.below)
      have HU2 := Lib.hid hup
      clear hup
      generalize (up W g).heap.size = q at *
      clear c0 c1
      have hz1 := dec_len (n := (brk x k).fr) (by have := hbd.out; omega) (by have := hbd.out; omega)
      have hz2 := dec_len (n := (brk x k).pr) (by have := hbd.out; omega) (by have := hbd.out; omega)
      have hz3 := wTextN_len x k (fun i hi => hV.out.2.2.2 i (by omega))
      have hz4 := nameB_bd hV.out.1
      have hz5 := hV.out.2.2.1
      have z1 : (⟨#[32]⟩ : ByteArray).size = 1 := rfl
      have z2 : (⟨#[58]⟩ : ByteArray).size = 1 := rfl
      have e1 : ∀ w, (Op.stringOp .add (⟨#[32]⟩ : ByteArray) (dec (brk x k).fr)).run Tryd.prog w = .ok (.string ((⟨#[32]⟩ : ByteArray) ++ dec (brk x k).fr)) w := fun w => run_string_add_sum w _ _ (by omega)
      have e2 : ∀ w, (Op.stringOp .add ((⟨#[32]⟩ : ByteArray) ++ dec (brk x k).fr) (⟨#[58]⟩ : ByteArray)).run Tryd.prog w = .ok (.string ((⟨#[32]⟩ : ByteArray) ++ dec (brk x k).fr ++ ⟨#[58]⟩)) w := fun w => run_string_add_sum w _ _ (by simp only [ByteArray.size_append]; omega)
      have e3 : ∀ w, (Op.stringOp .add ((⟨#[32]⟩ : ByteArray) ++ dec (brk x k).fr ++ ⟨#[58]⟩) (dec (brk x k).pr)).run Tryd.prog w = .ok (.string (((⟨#[32]⟩ : ByteArray) ++ dec (brk x k).fr ++ ⟨#[58]⟩) ++ dec (brk x k).pr)) w := fun w => run_string_add_sum w _ _ (by simp only [ByteArray.size_append]; omega)
      have e4 : ∀ w, (Op.stringOp .add (wTextN x k) (((⟨#[32]⟩ : ByteArray) ++ dec (brk x k).fr ++ ⟨#[58]⟩) ++ dec (brk x k).pr)).run Tryd.prog w = .ok (.string (wTextN x (k + 1))) w := fun w => run_string_add_sum w _ _ (by simp only [ByteArray.size_append]; omega)
      clear hz1 hz2 hz3 hz4 hz5 z1 z2
      go_region_held3 (fun w' => (V).heap.size ≤ w'.heap.size ∧ ∀ b o, b < (V).heap.size → w'.cell? ⟨b, o, none⟩ = (V).cell? ⟨b, o, none⟩) (exact sm_of (by repeat (first | exact Below.refl _ _ | refine bl_tr ?_ _ | refine bl_al ?_ _ | refine bl_dr ?_ | refine bl_up ?_ _ | refine Below.drew ?_ | refine bl_alloc ?_ _ | refine Below.setCell ?_ (by first | (simp; done) | (simp; omega)) _))) (first | (go_at_call 44; refine (decI_any _ _ (by have := hbd.out; omega) (by have := hbd.out; omega) (HT2.out.below (by repeat (first | exact Below.refl _ _ | refine bl_tr ?_ _ | refine bl_al ?_ _ | refine bl_dr ?_ | refine bl_up ?_ _ | refine Below.drew ?_ | refine bl_alloc ?_ _ | refine Below.setCell ?_ (by first | (simp; done) | (simp; omega)) _)))).mono ?_; rintro e w' ⟨rfl, g5, rfl⟩))
      obtain ⟨g2, rfl⟩ := HU2.out
      go_wp2_with (first | ((with_reducible refine wp_region_up (by kernel_rfl) (by kernel_rfl) ?_); (repeat (go_big_quiet_step (fail))); refine wpQuiet_nil ?_; intro _ hw'; obtain ⟨nq, hw''⟩ := hw'; subst hw''))
      go_roundw
      case rel => exact ⟨k + 1, by omega, by go_num, rfl, ex_up (by repeat (first | exact Below.refl _ _ | refine bl_tr ?_ _ | refine bl_al ?_ _ | refine bl_dr ?_ | refine bl_up ?_ _ | refine Below.drew ?_ | refine bl_alloc ?_ _ | refine Below.setCell ?_ (by first | (simp; done) | (simp; omega)) _))⟩
      case measure => (simp [intOf]; try omega)
    · obtain rfl : k = x.brs.length := by omega
      go_wp2_with (first | ((with_reducible refine wp_region_up (by kernel_rfl) (by kernel_rfl) ?_); (repeat (go_big_quiet_step (fail))); refine wpQuiet_nil ?_; intro _ hw'; obtain ⟨nq, hw''⟩ := hw'; subst hw''))
      go_ret
      exact ⟨by rw [wText_ok hv]; rfl, UpOf.of (HU.out.below.trans (Below.mono (by repeat (first | exact Below.refl _ _ | refine bl_tr ?_ _ | refine bl_al ?_ _ | refine bl_dr ?_ | refine bl_up ?_ _ | refine Below.drew ?_ | refine bl_alloc ?_ _ | refine Below.setCell ?_ (by first | (simp; done) | (simp; omega)) _)) HU.out.below.size))⟩
set_option maxRecDepth 10000 in
set_option maxHeartbeats 2000000 in
theorem l26Text_any (x : Ware) (b0 o0 : Nat) (A : Option Addr) (c : Nat) (w : World) (h : WAt w b0 o0 x A c) (hv : vWare x = true) :
    Calls Tryd.prog 41 #[.pointer (some ⟨b0, o0, none⟩)] w fun e w' => e = .returned (.string (wTextN x x.brs.length)) ∧ UpOf w w' := by
  have hV := Lib.hid (vWare_inv hv)
  have hlen := hV.out.2.2.1
  obtain ⟨hb0, p0, p1, hr⟩ := h
  have HR := Lib.hid hr
  clear hr
  go_enter Tryd.func41, Tryd.ntmps41
  go_wp2_with (first | ((with_reducible refine wp_region_up (by kernel_rfl) (by kernel_rfl) ?_); (repeat (go_big_quiet_step (fail))); refine wpQuiet_nil ?_; intro _ hw'; obtain ⟨nq, hw''⟩ := hw'; subst hw''))
  go_loopw [3, 4] (fun s i wr => ∃ k : Nat, k ≤ x.brs.length ∧ i = i64 k ∧ s = .string (wTextN x k) ∧ ∃ g : Up w, wr = up w g) (fun _ i _ => x.brs.length - (intOf i).toNat)
  case atStart => exact ⟨0, by omega, rfl, rfl, ex_up (by repeat (first | exact Below.refl _ _ | refine bl_tr ?_ _ | refine bl_al ?_ _ | refine bl_dr ?_ | refine bl_up ?_ _ | refine Below.drew ?_ | refine bl_alloc ?_ _ | refine Below.setCell ?_ (by first | (simp; done) | (simp; omega)) _))⟩
  case round =>
    obtain ⟨k, hk, rfl, rfl, g, rfl⟩ := hrel
    by_cases hlt : k < x.brs.length
    · obtain ⟨b, off, rfl, hb, ha⟩ := brk_all HR.out (by omega)
      obtain ⟨c0, c1⟩ := ha k hlt
      have hbd := Lib.hid (brkAt_bd (hV.out.2.2.2 k hlt))
      clear ha
      go_wp2_with (first | ((with_reducible refine wp_region_up (by kernel_rfl) (by kernel_rfl) ?_); (repeat (go_big_quiet_step (fail))); refine wpQuiet_nil ?_; intro _ hw'; obtain ⟨nq, hw''⟩ := hw'; subst hw''))
      refine wpg (R := fun V => (V.cell? ⟨b0, o0 + 1, none⟩ = some (.slice (some ⟨b, off, none⟩) x.brs.length c) ∧ V.cell? ⟨b, off + k * 2, none⟩ = some (i64 (brk x k).fr) ∧ V.cell? ⟨b, off + k * 2 + 1, none⟩ = some (i64 (brk x k).pr) ∧ b0 < V.heap.size ∧ b < V.heap.size) ∧ UpOf w V)
        ⟨⟨((up_below w g).cell (p := ⟨b0, o0 + 1, none⟩) hb0).trans p1, ((up_below w g).cell (p := ⟨b, off + k * 2, none⟩) hb).trans c0, ((up_below w g).cell (p := ⟨b, off + k * 2 + 1, none⟩) hb).trans c1, Nat.lt_of_lt_of_le hb0 (up_below w g).size, Nat.lt_of_lt_of_le hb (up_below w g).size⟩, UpOf.of (by repeat (first | exact Below.refl _ _ | refine bl_tr ?_ _ | refine bl_al ?_ _ | refine bl_dr ?_ | refine bl_up ?_ _ | refine Below.drew ?_ | refine bl_alloc ?_ _ | refine Below.setCell ?_ (by first | (simp; done) | (simp; omega)) _))⟩ (fun V st => ?_)
      obtain ⟨⟨d0, d1, d2, hq0, hq1⟩, hup⟩ := st
      have HU2 := Lib.hid hup
      clear hup c0 c1 p0 p1
      have hz1 := dec_len (n := (brk x k).fr) (by have := hbd.out; omega) (by have := hbd.out; omega)
      have hz2 := dec_len (n := (brk x k).pr) (by have := hbd.out; omega) (by have := hbd.out; omega)
      have hz3 := wTextN_len x k (fun i hi => hV.out.2.2.2 i (by omega))
      have hz4 := nameB_bd hV.out.1
      have hz5 := hV.out.2.2.1
      have z1 : (⟨#[32]⟩ : ByteArray).size = 1 := rfl
      have z2 : (⟨#[58]⟩ : ByteArray).size = 1 := rfl
      have e1 : ∀ w, (Op.stringOp .add (⟨#[32]⟩ : ByteArray) (dec (brk x k).fr)).run Tryd.prog w = .ok (.string ((⟨#[32]⟩ : ByteArray) ++ dec (brk x k).fr)) w := fun w => run_string_add_sum w _ _ (by omega)
      have e2 : ∀ w, (Op.stringOp .add ((⟨#[32]⟩ : ByteArray) ++ dec (brk x k).fr) (⟨#[58]⟩ : ByteArray)).run Tryd.prog w = .ok (.string ((⟨#[32]⟩ : ByteArray) ++ dec (brk x k).fr ++ ⟨#[58]⟩)) w := fun w => run_string_add_sum w _ _ (by simp only [ByteArray.size_append]; omega)
      have e3 : ∀ w, (Op.stringOp .add ((⟨#[32]⟩ : ByteArray) ++ dec (brk x k).fr ++ ⟨#[58]⟩) (dec (brk x k).pr)).run Tryd.prog w = .ok (.string (((⟨#[32]⟩ : ByteArray) ++ dec (brk x k).fr ++ ⟨#[58]⟩) ++ dec (brk x k).pr)) w := fun w => run_string_add_sum w _ _ (by simp only [ByteArray.size_append]; omega)
      have e4 : ∀ w, (Op.stringOp .add (wTextN x k) (((⟨#[32]⟩ : ByteArray) ++ dec (brk x k).fr ++ ⟨#[58]⟩) ++ dec (brk x k).pr)).run Tryd.prog w = .ok (.string (wTextN x (k + 1))) w := fun w => run_string_add_sum w _ _ (by simp only [ByteArray.size_append]; omega)
      clear hz1 hz2 hz3 hz4 hz5 z1 z2
      go_region_held3 (fun w' => (V).heap.size ≤ w'.heap.size ∧ ∀ b o, b < (V).heap.size → w'.cell? ⟨b, o, none⟩ = (V).cell? ⟨b, o, none⟩) (exact sm_of (by repeat (first | exact Below.refl _ _ | refine bl_tr ?_ _ | refine bl_al ?_ _ | refine bl_dr ?_ | refine bl_up ?_ _ | refine Below.drew ?_ | refine bl_alloc ?_ _ | refine Below.setCell ?_ (by first | (simp; done) | (simp; omega)) _))) (first | (go_at_call 78; refine (l01Dec_any _ _ (by have := hbd.out; omega) (by have := hbd.out; omega)).mono ?_; rintro e w' ⟨rfl, g5, rfl⟩))
      obtain ⟨g2, rfl⟩ := HU2.out
      go_wp2_with (first | ((with_reducible refine wp_region_up (by kernel_rfl) (by kernel_rfl) ?_); (repeat (go_big_quiet_step (fail))); refine wpQuiet_nil ?_; intro _ hw'; obtain ⟨nq, hw''⟩ := hw'; subst hw''))
      go_roundw
      case rel => exact ⟨k + 1, by omega, by go_num, rfl, ex_up (by repeat (first | exact Below.refl _ _ | refine bl_tr ?_ _ | refine bl_al ?_ _ | refine bl_dr ?_ | refine bl_up ?_ _ | refine Below.drew ?_ | refine bl_alloc ?_ _ | refine Below.setCell ?_ (by first | (simp; done) | (simp; omega)) _))⟩
      case measure => (simp [intOf]; try omega)
    · obtain rfl : k = x.brs.length := by omega
      go_wp2_with (first | ((with_reducible refine wp_region_up (by kernel_rfl) (by kernel_rfl) ?_); (repeat (go_big_quiet_step (fail))); refine wpQuiet_nil ?_; intro _ hw'; obtain ⟨nq, hw''⟩ := hw'; subst hw''))
      go_ret
      exact ⟨rfl, UpOf.of (by repeat (first | exact Below.refl _ _ | refine bl_tr ?_ _ | refine bl_al ?_ _ | refine bl_dr ?_ | refine bl_up ?_ _ | refine Below.drew ?_ | refine bl_alloc ?_ _ | refine Below.setCell ?_ (by first | (simp; done) | (simp; omega)) _))⟩
set_option maxRecDepth 10000 in
theorem wareTextS_any (x : Ware) (A : Option Addr) (c : Nat) (w : World) (h : Rds w 2 A x.brs.length (bkcs x.brs)) (hn : x.brs.length ≤ 100000000) (hs : x.name.size ≤ 9223372036854775807) :
    Calls Tryd.prog 7 #[.agg #[.string x.name, .slice A x.brs.length c]] w fun e w' => e = .returned (.string (wText x)) ∧ UpOf w w' := by
  go_enter Tryd.func7, Tryd.ntmps7
  go_wp2_with fail
  refine cg (R := fun V => WAt V w.heap.size 0 x A c ∧ UpOf w V) ⟨⟨by simp, World.cell?_alloc_new w #[.string x.name, .slice A x.brs.length c] _ 0, World.cell?_alloc_new w #[.string x.name, .slice A x.brs.length c] _ 1, h.below (by repeat (first | exact Below.refl _ _ | refine bl_tr ?_ _ | refine bl_al ?_ _ | refine bl_dr ?_ | refine bl_up ?_ _ | refine Below.drew ?_ | refine bl_alloc ?_ _ | refine Below.setCell ?_ (by first | (simp; done) | (simp; omega)) _))⟩, UpOf.of (by repeat (first | exact Below.refl _ _ | refine bl_tr ?_ _ | refine bl_al ?_ _ | refine bl_dr ?_ | refine bl_up ?_ _ | refine Below.drew ?_ | refine bl_alloc ?_ _ | refine Below.setCell ?_ (by first | (simp; done) | (simp; omega)) _))⟩ (fun W st => ?_)
  obtain ⟨hat, hup⟩ := st
  have HU := Lib.hid hup
  have HW := Lib.hid hat
  clear hup hat h
  generalize w.heap.size = p at *
  cases hv : vWare x
  · have hf := Lib.hid (wText_no hv)
    refine (ret_as (l26One_any x _ _ _ _ _ HW.out hn hs) hv).mono ?_
    rintro e w' ⟨rfl, g, rfl⟩
    go_wp2_with fail
    go_ret
    exact ⟨by rw [hf.out]; rfl, UpOf.of (HU.out.below.trans (Below.mono (by repeat (first | exact Below.refl _ _ | refine bl_tr ?_ _ | refine bl_al ?_ _ | refine bl_dr ?_ | refine bl_up ?_ _ | refine Below.drew ?_ | refine bl_alloc ?_ _ | refine Below.setCell ?_ (by first | (simp; done) | (simp; omega)) _)) HU.out.below.size))⟩
  · have hf := Lib.hid (wText_ok hv)
    refine (ret_as (l26One_any x _ _ _ _ _ HW.out hn hs) hv).mono ?_
    rintro e w' ⟨rfl, g, rfl⟩
    go_wp2_with fail
    refine (l26Text_any x _ _ _ _ _ (HW.out.below (by repeat (first | exact Below.refl _ _ | refine bl_tr ?_ _ | refine bl_al ?_ _ | refine bl_dr ?_ | refine bl_up ?_ _ | refine Below.drew ?_ | refine bl_alloc ?_ _ | refine Below.setCell ?_ (by first | (simp; done) | (simp; omega)) _))) hv).mono ?_
    rintro e w' ⟨rfl, g2, rfl⟩
    go_wp2_with fail
    go_ret
    exact ⟨by rw [hf.out]; rfl, UpOf.of (HU.out.below.trans (Below.mono (by repeat (first | exact Below.refl _ _ | refine bl_tr ?_ _ | refine bl_al ?_ _ | refine bl_dr ?_ | refine bl_up ?_ _ | refine Below.drew ?_ | refine bl_alloc ?_ _ | refine Below.setCell ?_ (by first | (simp; done) | (simp; omega)) _)) HU.out.below.size))⟩
end Go.Proofs.YtiibpldfnnhhlaaDoor

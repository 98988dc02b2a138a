/-
  Prices: PriceOfMany, CheapestMany and MostFor, of the program and of the reference. The bounds stand at each.
-/
import Derived.Test.YtiibpldfnnhhlaaWare2
namespace Go.Proofs.Ytiibpldfnnhhlaa
open Go.RowKit
theorem ret_num {P : Program} {f : FuncId} {args : Array Value} {w : World} {B b : Int} {Q : World → Prop} (h : Calls P f args w fun e w' => e = .returned (i64 B) ∧ Q w') (hB : B = b) :
    Calls P f args w fun e w' => e = .returned (i64 b) ∧ Q w' := by subst hB; exact h
set_option maxRecDepth 10000 in
theorem price_any (x : Ware) (A : Option Addr) (c : Nat) (m : Int) (w : World) (h : Rds w 2 A x.brs.length (bkcs x.brs)) (hv : vWare x = true) (h0 : 0 ≤ m) (h1 : m ≤ 1000) :
    Calls Try.prog 64 #[.agg #[.string x.name, .slice A x.brs.length c], i64 m] w fun e w' => e = .returned (i64 (prc x m)) ∧ UpOf w w' := by
  obtain ⟨_, _, hl6, _⟩ := vWare_inv hv
  have HV := Lib.hid hv
  clear hv
  go_enter Try.func64, Try.ntmps64
  go_wp2_with fail
  have hB : Below w.heap.size w (w.alloc (.cells #[.string x.name, .slice A x.brs.length c] 74)) := (Below.refl _ _).alloc (Nat.le_refl _) _
  have hA := h.below hB
  clear h
  revert hA hB
  generalize w.alloc (.cells #[.string x.name, .slice A x.brs.length c] 74) = W
  intro hB hA
  have HB := Lib.hid hB
  clear hB
  go_loopw [5, 11] (fun s i wr => ∃ k : Nat, k ≤ x.brs.length ∧ i = i64 k ∧ s = i64 (eachN x m k) ∧ ∃ g : Up W, wr = up W g) (fun _ i _ => x.brs.length - (intOf i).toNat)
  case atStart => exact ⟨0, by omega, rfl, rfl, ex_up (by repeat (first | exact Below.refl _ _ | refine bl_tr ?_ _ | refine bl_al ?_ _ | refine bl_dr ?_ | refine bl_up ?_ _ | refine Below.drew ?_ | refine bl_alloc ?_ _ | refine Below.setCell ?_ (by first | (simp; done) | (simp; omega)) _))⟩
  case round =>
    obtain ⟨k, hk, rfl, rfl, g, rfl⟩ := hrel
    by_cases hlt : k < x.brs.length
    · obtain ⟨b, off, rfl, hb, ha⟩ := brk_all hA (by omega)
      obtain ⟨c0, c1⟩ := ha k hlt
      clear ha
      by_cases q : (brk x k).fr ≤ m
      · have hN := Lib.hid (eachN_yes q)
        go_wp2_with (first | ((with_reducible refine wp_region_up (by kernel_rfl) (by kernel_rfl) ?_); (repeat (go_big_quiet_step (fail))); refine wpQuiet_nil ?_; intro _ hw'; obtain ⟨nq, hw''⟩ := hw'; subst hw''))
        go_roundw
        case rel => exact ⟨k + 1, by omega, by go_num, by rw [hN.out], ex_up (by repeat (first | exact Below.refl _ _ | refine bl_tr ?_ _ | refine bl_al ?_ _ | refine bl_dr ?_ | refine bl_up ?_ _ | refine Below.drew ?_ | refine bl_alloc ?_ _ | refine Below.setCell ?_ (by first | (simp; done) | (simp; omega)) _))⟩
        case measure => (simp [intOf]; try omega)
      · have hN := Lib.hid (eachN_no q)
        go_wp2_with (first | ((with_reducible refine wp_region_up (by kernel_rfl) (by kernel_rfl) ?_); (repeat (go_big_quiet_step (fail))); refine wpQuiet_nil ?_; intro _ hw'; obtain ⟨nq, hw''⟩ := hw'; subst hw''))
        go_roundw
        case rel => exact ⟨k + 1, by omega, by go_num, by rw [hN.out], ex_up (by repeat (first | exact Below.refl _ _ | refine bl_tr ?_ _ | refine bl_al ?_ _ | refine bl_dr ?_ | refine bl_up ?_ _ | refine Below.drew ?_ | refine bl_alloc ?_ _ | refine Below.setCell ?_ (by first | (simp; done) | (simp; omega)) _))⟩
        case measure => (simp [intOf]; try omega)
    · obtain rfl : k = x.brs.length := by omega
      obtain ⟨e1, e2⟩ := eachN_bd HV.out m x.brs.length (Nat.le_refl _)
      obtain ⟨e3, e4⟩ := mul_bd h0 h1 e1 e2
      go_wp2_with (first | ((with_reducible refine wp_region_up (by kernel_rfl) (by kernel_rfl) ?_); (repeat (go_big_quiet_step (fail))); refine wpQuiet_nil ?_; intro _ hw'; obtain ⟨nq, hw''⟩ := hw'; subst hw''))
      go_ret
      exact ⟨rfl, UpOf.of (HB.out.trans (Below.mono (by repeat (first | exact Below.refl _ _ | refine bl_tr ?_ _ | refine bl_al ?_ _ | refine bl_dr ?_ | refine bl_up ?_ _ | refine Below.drew ?_ | refine bl_alloc ?_ _ | refine Below.setCell ?_ (by first | (simp; done) | (simp; omega)) _)) HB.out.size))⟩
set_option maxRecDepth 10000 in
theorem l26Price_any (x : Ware) (b0 o0 : Nat) (A : Option Addr) (c : Nat) (m : Int) (w : World) (h : WAt w b0 o0 x A c) (hv : vWare x = true) (h0 : 0 ≤ m) (h1 : m ≤ 1000) :
    Calls Try.prog 61 #[.pointer (some ⟨b0, o0, none⟩), i64 m] w fun e w' => e = .returned (i64 (prc x m)) ∧ UpOf w w' := by
  obtain ⟨_, _, hl6, _⟩ := vWare_inv hv
  obtain ⟨hb0, x0, x1, hr⟩ := h
  have HV := Lib.hid hv
  clear hv
  go_enter Try.func61, Try.ntmps61
  go_wp2_with (first | ((with_reducible refine wp_region_up (by kernel_rfl) (by kernel_rfl) ?_); (repeat (go_big_quiet_step (fail))); refine wpQuiet_nil ?_; intro _ hw'; obtain ⟨nq, hw''⟩ := hw'; subst hw''))
  go_loopw [5, 6] (fun s i wr => ∃ k : Nat, k ≤ x.brs.length ∧ i = i64 k ∧ s = i64 (eachN x m k) ∧ ∃ g : Up w, wr = up w g) (fun _ i _ => x.brs.length - (intOf i).toNat)
  case atStart => exact ⟨0, by omega, rfl, rfl, ex_up (by repeat (first | exact Below.refl _ _ | refine bl_tr ?_ _ | refine bl_al ?_ _ | refine bl_dr ?_ | refine bl_up ?_ _ | refine Below.drew ?_ | refine bl_alloc ?_ _ | refine Below.setCell ?_ (by first | (simp; done) | (simp; omega)) _))⟩
  case round =>
    obtain ⟨k, hk, rfl, rfl, g, rfl⟩ := hrel
    by_cases hlt : k < x.brs.length
    · obtain ⟨b, off, rfl, hb, ha⟩ := brk_all hr (by omega)
      obtain ⟨c0, c1⟩ := ha k hlt
      clear ha
      by_cases q : (brk x k).fr ≤ m
      · have hN := Lib.hid (eachN_yes q)
        go_wp2_with (first | ((with_reducible refine wp_region_up (by kernel_rfl) (by kernel_rfl) ?_); (repeat (go_big_quiet_step (fail))); refine wpQuiet_nil ?_; intro _ hw'; obtain ⟨nq, hw''⟩ := hw'; subst hw''))
        go_roundw
        case rel => exact ⟨k + 1, by omega, by go_num, by rw [hN.out], ex_up (by repeat (first | exact Below.refl _ _ | refine bl_tr ?_ _ | refine bl_al ?_ _ | refine bl_dr ?_ | refine bl_up ?_ _ | refine Below.drew ?_ | refine bl_alloc ?_ _ | refine Below.setCell ?_ (by first | (simp; done) | (simp; omega)) _))⟩
        case measure => (simp [intOf]; try omega)
      · obtain ⟨e1, e2⟩ := eachN_bd HV.out m k hk
        have hS := Lib.hid (eachN_stop HV.out hk (fun _ => (by omega : m < (brk x k).fr)))
        obtain ⟨e3, e4⟩ := mul_bd e1 e2 h0 h1
        go_wp2_with (first | ((with_reducible refine wp_region_up (by kernel_rfl) (by kernel_rfl) ?_); (repeat (go_big_quiet_step (fail))); refine wpQuiet_nil ?_; intro _ hw'; obtain ⟨nq, hw''⟩ := hw'; subst hw''))
        go_ret
        exact ⟨ret_int (by rw [prc, hS.out, Int.mul_comm]), UpOf.of (by repeat (first | exact Below.refl _ _ | refine bl_tr ?_ _ | refine bl_al ?_ _ | refine bl_dr ?_ | refine bl_up ?_ _ | refine Below.drew ?_ | refine bl_alloc ?_ _ | refine Below.setCell ?_ (by first | (simp; done) | (simp; omega)) _))⟩
    · obtain rfl : k = x.brs.length := by omega
      obtain ⟨e1, e2⟩ := eachN_bd HV.out m x.brs.length (Nat.le_refl _)
      obtain ⟨e3, e4⟩ := mul_bd e1 e2 h0 h1
      go_wp2_with (first | ((with_reducible refine wp_region_up (by kernel_rfl) (by kernel_rfl) ?_); (repeat (go_big_quiet_step (fail))); refine wpQuiet_nil ?_; intro _ hw'; obtain ⟨nq, hw''⟩ := hw'; subst hw''))
      go_ret
      exact ⟨ret_int (by rw [prc, Int.mul_comm]), UpOf.of (by repeat (first | exact Below.refl _ _ | refine bl_tr ?_ _ | refine bl_al ?_ _ | refine bl_dr ?_ | refine bl_up ?_ _ | refine Below.drew ?_ | refine bl_alloc ?_ _ | refine Below.setCell ?_ (by first | (simp; done) | (simp; omega)) _))⟩
/-- the code of a price list and a ware's number -/
def codeW (l : List Ware) (k : Int) : Int := if vWares l = true then if btw k 0 ((l.length : Int) - 1) = true then 0 else 2 else 1
set_option maxRecDepth 10000 in
theorem wareCode_any (A : Option Addr) (c : Nat) (l : List Ware) (k : Int) (w : World) (h : WSee w A l) (hn : l.length ≤ 100000000) (hf : WBd l) :
    Calls Try.prog 62 #[.slice A l.length c, i64 k] w fun e w' => e = .returned (i64 (codeW l k)) ∧ UpOf w w' := by
  cases h1 : vWares l
  · have hC := Lib.hid (show codeW l k = 1 by rw [codeW, if_neg (by simp [h1])])
    go_enter Try.func62, Try.ntmps62
    go_wp2_with (first | (go_at_call 21; refine (ret_as (validWares_any _ _ _ _ h hn hf) h1).mono ?_; rintro e w' ⟨rfl, g, rfl⟩) | ((with_reducible refine wp_region_up (by kernel_rfl) (by kernel_rfl) ?_); (repeat (go_big_quiet_step (first | (go_at_call 21; first | exact upq_tr (ret_as (validWares_any _ _ _ _ h hn hf) h1) | exact upq (ret_as (validWares_any _ _ _ _ h hn hf) h1))))); refine wpQuiet_nil ?_; intro _ hw'; obtain ⟨nq, hw''⟩ := hw'; subst hw''))
    go_ret
    exact ⟨ret_int hC.out.symm, UpOf.of (by repeat (first | exact Below.refl _ _ | refine bl_tr ?_ _ | refine bl_al ?_ _ | refine bl_dr ?_ | refine bl_up ?_ _ | refine Below.drew ?_ | refine bl_alloc ?_ _ | refine Below.setCell ?_ (by first | (simp; done) | (simp; omega)) _))⟩
  cases h2 : btw k 0 ((l.length : Int) - 1)
  · have hC := Lib.hid (show codeW l k = 2 by rw [codeW, if_pos h1, if_neg (by simp [h2])])
    go_enter Try.func62, Try.ntmps62
    go_wp2_with (first | (go_at_call 21; refine (ret_as (validWares_any _ _ _ _ h hn hf) h1).mono ?_; rintro e w' ⟨rfl, g, rfl⟩) | (go_at_call 63; refine (ret_as (between_any _ _ _ _) h2).mono ?_; rintro e w' ⟨rfl, rfl⟩) | ((with_reducible refine wp_region_up (by kernel_rfl) (by kernel_rfl) ?_); (repeat (go_big_quiet_step (first | (go_at_call 21; first | exact upq_tr (ret_as (validWares_any _ _ _ _ h hn hf) h1) | exact upq (ret_as (validWares_any _ _ _ _ h hn hf) h1)) | (go_at_call 63; first | exact upq_tr_same (ret_as (between_any _ _ _ _) h2) | exact upq_same (ret_as (between_any _ _ _ _) h2))))); refine wpQuiet_nil ?_; intro _ hw'; obtain ⟨nq, hw''⟩ := hw'; subst hw''))
    go_ret
    exact ⟨ret_int hC.out.symm, UpOf.of (by repeat (first | exact Below.refl _ _ | refine bl_tr ?_ _ | refine bl_al ?_ _ | refine bl_dr ?_ | refine bl_up ?_ _ | refine Below.drew ?_ | refine bl_alloc ?_ _ | refine Below.setCell ?_ (by first | (simp; done) | (simp; omega)) _))⟩
  · have hC := Lib.hid (show codeW l k = 0 by rw [codeW, if_pos h1, if_pos h2])
    go_enter Try.func62, Try.ntmps62
    go_wp2_with (first | (go_at_call 21; refine (ret_as (validWares_any _ _ _ _ h hn hf) h1).mono ?_; rintro e w' ⟨rfl, g, rfl⟩) | (go_at_call 63; refine (ret_as (between_any _ _ _ _) h2).mono ?_; rintro e w' ⟨rfl, rfl⟩) | ((with_reducible refine wp_region_up (by kernel_rfl) (by kernel_rfl) ?_); (repeat (go_big_quiet_step (first | (go_at_call 21; first | exact upq_tr (ret_as (validWares_any _ _ _ _ h hn hf) h1) | exact upq (ret_as (validWares_any _ _ _ _ h hn hf) h1)) | (go_at_call 63; first | exact upq_tr_same (ret_as (between_any _ _ _ _) h2) | exact upq_same (ret_as (between_any _ _ _ _) h2))))); refine wpQuiet_nil ?_; intro _ hw'; obtain ⟨nq, hw''⟩ := hw'; subst hw''))
    go_ret
    exact ⟨ret_int hC.out.symm, UpOf.of (by repeat (first | exact Below.refl _ _ | refine bl_tr ?_ _ | refine bl_al ?_ _ | refine bl_dr ?_ | refine bl_up ?_ _ | refine Below.drew ?_ | refine bl_alloc ?_ _ | refine Below.setCell ?_ (by first | (simp; done) | (simp; omega)) _))⟩
set_option maxRecDepth 10000 in
theorem l26Code_any (A : Option Addr) (c : Nat) (l : List Ware) (k : Int) (w : World) (h : WSee w A l) (hn : l.length ≤ 100000000) (hf : WBd l) :
    Calls Try.prog 59 #[.slice A l.length c, i64 k] w fun e w' => e = .returned (i64 (codeW l k)) ∧ UpOf w w' := by
  cases h1 : vWares l
  · have hC := Lib.hid (show codeW l k = 1 by rw [codeW, if_neg (by simp [h1])])
    go_enter Try.func59, Try.ntmps59
    go_wp2_with (first | (go_at_call 57; refine (ret_as (l26Ok_any _ _ _ _ h hn hf) h1).mono ?_; rintro e w' ⟨rfl, g, rfl⟩) | ((with_reducible refine wp_region_up (by kernel_rfl) (by kernel_rfl) ?_); (repeat (go_big_quiet_step (first | (go_at_call 57; first | exact upq_tr (ret_as (l26Ok_any _ _ _ _ h hn hf) h1) | exact upq (ret_as (l26Ok_any _ _ _ _ h hn hf) h1))))); refine wpQuiet_nil ?_; intro _ hw'; obtain ⟨nq, hw''⟩ := hw'; subst hw''))
    go_ret
    exact ⟨ret_int hC.out.symm, UpOf.of (by repeat (first | exact Below.refl _ _ | refine bl_tr ?_ _ | refine bl_al ?_ _ | refine bl_dr ?_ | refine bl_up ?_ _ | refine Below.drew ?_ | refine bl_alloc ?_ _ | refine Below.setCell ?_ (by first | (simp; done) | (simp; omega)) _))⟩
  cases h2 : btw k 0 ((l.length : Int) - 1)
  · have hC := Lib.hid (show codeW l k = 2 by rw [codeW, if_pos h1, if_neg (by simp [h2])])
    go_enter Try.func59, Try.ntmps59
    go_wp2_with (first | (go_at_call 57; refine (ret_as (l26Ok_any _ _ _ _ h hn hf) h1).mono ?_; rintro e w' ⟨rfl, g, rfl⟩) | (go_at_call 65; refine (ret_as (in_any _ _ _ _) h2).mono ?_; rintro e w' ⟨rfl, rfl⟩) | ((with_reducible refine wp_region_up (by kernel_rfl) (by kernel_rfl) ?_); (repeat (go_big_quiet_step (first | (go_at_call 57; first | exact upq_tr (ret_as (l26Ok_any _ _ _ _ h hn hf) h1) | exact upq (ret_as (l26Ok_any _ _ _ _ h hn hf) h1)) | (go_at_call 65; first | exact upq_tr_same (ret_as (in_any _ _ _ _) h2) | exact upq_same (ret_as (in_any _ _ _ _) h2))))); refine wpQuiet_nil ?_; intro _ hw'; obtain ⟨nq, hw''⟩ := hw'; subst hw''))
    go_ret
    exact ⟨ret_int hC.out.symm, UpOf.of (by repeat (first | exact Below.refl _ _ | refine bl_tr ?_ _ | refine bl_al ?_ _ | refine bl_dr ?_ | refine bl_up ?_ _ | refine Below.drew ?_ | refine bl_alloc ?_ _ | refine Below.setCell ?_ (by first | (simp; done) | (simp; omega)) _))⟩
  · have hC := Lib.hid (show codeW l k = 0 by rw [codeW, if_pos h1, if_pos h2])
    go_enter Try.func59, Try.ntmps59
    go_wp2_with (first | (go_at_call 57; refine (ret_as (l26Ok_any _ _ _ _ h hn hf) h1).mono ?_; rintro e w' ⟨rfl, g, rfl⟩) | (go_at_call 65; refine (ret_as (in_any _ _ _ _) h2).mono ?_; rintro e w' ⟨rfl, rfl⟩) | ((with_reducible refine wp_region_up (by kernel_rfl) (by kernel_rfl) ?_); (repeat (go_big_quiet_step (first | (go_at_call 57; first | exact upq_tr (ret_as (l26Ok_any _ _ _ _ h hn hf) h1) | exact upq (ret_as (l26Ok_any _ _ _ _ h hn hf) h1)) | (go_at_call 65; first | exact upq_tr_same (ret_as (in_any _ _ _ _) h2) | exact upq_same (ret_as (in_any _ _ _ _) h2))))); refine wpQuiet_nil ?_; intro _ hw'; obtain ⟨nq, hw''⟩ := hw'; subst hw''))
    go_ret
    exact ⟨ret_int hC.out.symm, UpOf.of (by repeat (first | exact Below.refl _ _ | refine bl_tr ?_ _ | refine bl_al ?_ _ | refine bl_dr ?_ | refine bl_up ?_ _ | refine Below.drew ?_ | refine bl_alloc ?_ _ | refine Below.setCell ?_ (by first | (simp; done) | (simp; omega)) _))⟩
theorem l26Many_any (m : Int) (w : World) : Calls Try.prog 60 #[i64 m] w fun e w' => e = .returned (.bool (btw m 0 1000)) ∧ w = w' := by
  go_enter Try.func60, Try.ntmps60
  go_wp2_with (first | (go_at_call 65; refine (in_any _ _ _ _).mono ?_; rintro e w' ⟨rfl, rfl⟩) | ((with_reducible refine wp_region_up (by kernel_rfl) (by kernel_rfl) ?_); (repeat (go_big_quiet_step (first | (go_at_call 65; first | exact upq_tr_same (in_any _ _ _ _) | exact upq_same (in_any _ _ _ _))))); refine wpQuiet_nil ?_; intro _ hw'; obtain ⟨nq, hw''⟩ := hw'; subst hw''))
  go_ret
  exact ⟨rfl, rfl⟩
/-- an answer that is there where the list, the ware's number and the other number fit -/
def askR {α : Type} (l : List Ware) (k m hi : Int) (no : Int → α) (r : α) : α :=
  if vWares l = true then if btw k 0 ((l.length : Int) - 1) = true then if btw m 0 hi = true then r else no 2 else no 2 else no 1
theorem codeW_1 {l : List Ware} {k : Int} (h : vWares l = false) : codeW l k = 1 := by rw [codeW, if_neg (by simp [h])]
theorem codeW_2 {l : List Ware} {k : Int} (h : vWares l = true) (h2 : btw k 0 ((l.length : Int) - 1) = false) : codeW l k = 2 := by rw [codeW, if_pos h, if_neg (by simp [h2])]
theorem codeW_0 {l : List Ware} {k : Int} (h : vWares l = true) (h2 : btw k 0 ((l.length : Int) - 1) = true) : codeW l k = 0 := by rw [codeW, if_pos h, if_pos h2]
section
variable {α : Type} {l : List Ware} {k m hi : Int} {no : Int → α} {r : α}
theorem askR_1 (h : vWares l = false) : askR l k m hi no r = no 1 := by rw [askR, if_neg (by simp [h])]
theorem askR_2 (h : vWares l = true) (h2 : btw k 0 ((l.length : Int) - 1) = false) : askR l k m hi no r = no 2 := by rw [askR, if_pos h, if_neg (by simp [h2])]
theorem askR_3 (h : vWares l = true) (h2 : btw k 0 ((l.length : Int) - 1) = true) (h3 : btw m 0 hi = false) : askR l k m hi no r = no 2 := by rw [askR, if_pos h, if_pos h2, if_neg (by simp [h3])]
theorem askR_0 (h : vWares l = true) (h2 : btw k 0 ((l.length : Int) - 1) = true) (h3 : btw m 0 hi = true) : askR l k m hi no r = r := by rw [askR, if_pos h, if_pos h2, if_pos h3]
end
end Go.Proofs.Ytiibpldfnnhhlaa

/-
  The worst price and the next test: the reference's. The bounds stand at it.
-/
import Derived.Test.YtfggbcmpgkhlaaaTest3
namespace Go.Proofs.Ytfggbcmpgkhlaaa
open Go.RowKit
theorem l00Max_any (a b : Int) (w : World) :
    Calls Try.prog 66 #[i64 a, i64 b] w fun e w' => e = .returned (i64 (max a b)) ∧ w = w' := by
  by_cases h : b < a
  · go_enter Try.func66, Try.ntmps66
    go_wp2
    go_ret
    exact ⟨ret_int (by omega), rfl⟩
  · go_enter Try.func66, Try.ntmps66
    go_wp2
    go_ret
    exact ⟨ret_int (by omega), rfl⟩
theorem vDefects_sizes {l : List Defect} {ps : List Int} (h : vDefects l ps = true) {s : ByteArray} (hs : s.size = ps.length) : sizesOf l s.size := fun i hi => by
  rw [hs]; exact (vDef_inv ((vDefects_inv h).2.2.2 i hi)).2.2.2.1
theorem scan_skip {cost : Nat → Int} {s : ByteArray} {k : Nat} (h : ¬ (byteAt s k).toNat = 63) : scan cost s (k + 1) = scan cost s k := by rw [scan, if_neg h]
theorem scan_take {cost : Nat → Int} {s : ByteArray} {k : Nat} (h : (byteAt s k).toNat = 63) (h2 : (scan cost s k).2 < 0 ∨ cost k < (scan cost s k).1) : scan cost s (k + 1) = (cost k, (k : Int)) := by rw [scan, if_pos h, if_pos h2]
theorem scan_keep {cost : Nat → Int} {s : ByteArray} {k : Nat} (h2 : ¬ ((scan cost s k).2 < 0 ∨ cost k < (scan cost s k).1)) : scan cost s (k + 1) = scan cost s k := by
  rw [scan, if_neg h2]
  split <;> rfl
theorem scan_bd (cost : Nat → Int) (s : ByteArray) (k : Nat) : -1 ≤ (scan cost s k).2 ∧ (scan cost s k).2 < k ∨ (scan cost s k).2 = -1 := by
  rcases scan_spec cost s k with ⟨e, _⟩ | ⟨t, ht, e, _⟩
  · rw [e]; exact .inr rfl
  · rw [e]; exact .inl ⟨by show (-1 : Int) ≤ (t : Int); omega, by show (t : Int) < k; omega⟩
theorem open63 {s : ByteArray} {k : Nat} (h : k < s.size) (q : ((s[k].toNat : Int) != 63) = false) : (byteAt s k).toNat = 63 := by
  have : (s[k].toNat : Int) = 63 := by simpa using q
  rw [byteAt_eq h] at this
  omega
theorem shut63 {s : ByteArray} {k : Nat} (h : k < s.size) (q : ((s[k].toNat : Int) != 63) = true) : ¬ (byteAt s k).toNat = 63 := by
  have : ¬ (s[k].toNat : Int) = 63 := by simpa using q
  rw [byteAt_eq h] at this
  omega
set_option maxRecDepth 10000 in
set_option maxHeartbeats 4000000 in
theorem l23Worst_any (A B : Option Addr) (c d : Nat) (l : List Defect) (ps : List Int) (hv : vDefects l ps = true) : ∀ (f : Nat) (s : ByteArray) (w : World), holes s = f → s.size = ps.length → Rds w 3 A l.length (dfcs l) → Rds w 1 B ps.length (ics ps) →
    Calls Try.prog 51 #[.slice A l.length c, .slice B ps.length d, .string s] w fun e w' => e = .returned (.tuple #[i64 (wst l ps s).1, i64 (wst l ps s).2]) ∧ UpOf w w' := by
  obtain ⟨hl10, hp6, hpb, _⟩ := vDefects_inv hv
  have HV := Lib.hid hv
  have HPB := Lib.hid hpb
  clear hv hpb
  intro f
  induction f with
  | zero =>
    intro s w hf hs h hp
    have b1 := found_full HV.out hs hf
    have hw := Lib.hid (wst_found (ps := ps) b1)
    have hz := vDefects_sizes HV.out hs
    go_enter Try.func51, Try.ntmps51
    go_wp2_with (first | (go_at_call 64; refine (ret_as (l23Found_any _ _ _ _ _ (h.below (by repeat (first | exact Below.refl _ _ | refine bl_tr ?_ _ | refine bl_al ?_ _ | refine bl_dr ?_ | refine bl_up ?_ _ | refine Below.drew ?_ | refine bl_alloc ?_ _ | refine Below.setCell ?_ (by first | (simp; done) | (simp; omega)) _))) (by omega) (by omega) hz) b1).mono ?_; rintro e w' ⟨rfl, g, rfl⟩) | ((with_reducible refine wp_region_up (by kernel_rfl) (by kernel_rfl) ?_); (repeat (go_big_quiet_step (first | (go_at_call 64; first | exact upq_tr (ret_as (l23Found_any _ _ _ _ _ (h.below (by repeat (first | exact Below.refl _ _ | refine bl_tr ?_ _ | refine bl_al ?_ _ | refine bl_dr ?_ | refine bl_up ?_ _ | refine Below.drew ?_ | refine bl_alloc ?_ _ | refine Below.setCell ?_ (by first | (simp; done) | (simp; omega)) _))) (by omega) (by omega) hz) b1) | exact upq (ret_as (l23Found_any _ _ _ _ _ (h.below (by repeat (first | exact Below.refl _ _ | refine bl_tr ?_ _ | refine bl_al ?_ _ | refine bl_dr ?_ | refine bl_up ?_ _ | refine Below.drew ?_ | refine bl_alloc ?_ _ | refine Below.setCell ?_ (by first | (simp; done) | (simp; omega)) _))) (by omega) (by omega) hz) b1))))); refine wpQuiet_nil ?_; intro _ hw'; obtain ⟨nq, hw''⟩ := hw'; subst hw''))
    go_ret2
    rw [hw.out]
    exact ⟨rfl, UpOf.of (by repeat (first | exact Below.refl _ _ | refine bl_tr ?_ _ | refine bl_al ?_ _ | refine bl_dr ?_ | refine bl_up ?_ _ | refine Below.drew ?_ | refine bl_alloc ?_ _ | refine Below.setCell ?_ (by first | (simp; done) | (simp; omega)) _))⟩
  | succ f ih =>
    intro s w hf hs h hp
    have hz := vDefects_sizes HV.out hs
    cases b1 : foundB l s
    · have hw := Lib.hid (wst_eq HV.out hs b1)
      go_enter Try.func51, Try.ntmps51
      go_wp2_with (first | (go_at_call 64; refine (ret_as (l23Found_any _ _ _ _ _ (h.below (by repeat (first | exact Below.refl _ _ | refine bl_tr ?_ _ | refine bl_al ?_ _ | refine bl_dr ?_ | refine bl_up ?_ _ | refine Below.drew ?_ | refine bl_alloc ?_ _ | refine Below.setCell ?_ (by first | (simp; done) | (simp; omega)) _))) (by omega) (by omega) hz) b1).mono ?_; rintro e w' ⟨rfl, g, rfl⟩) | ((with_reducible refine wp_region_up (by kernel_rfl) (by kernel_rfl) ?_); (repeat (go_big_quiet_step (first | (go_at_call 64; first | exact upq_tr (ret_as (l23Found_any _ _ _ _ _ (h.below (by repeat (first | exact Below.refl _ _ | refine bl_tr ?_ _ | refine bl_al ?_ _ | refine bl_dr ?_ | refine bl_up ?_ _ | refine Below.drew ?_ | refine bl_alloc ?_ _ | refine Below.setCell ?_ (by first | (simp; done) | (simp; omega)) _))) (by omega) (by omega) hz) b1) | exact upq (ret_as (l23Found_any _ _ _ _ _ (h.below (by repeat (first | exact Below.refl _ _ | refine bl_tr ?_ _ | refine bl_al ?_ _ | refine bl_dr ?_ | refine bl_up ?_ _ | refine Below.drew ?_ | refine bl_alloc ?_ _ | refine Below.setCell ?_ (by first | (simp; done) | (simp; omega)) _))) (by omega) (by omega) hz) b1))))); refine wpQuiet_nil ?_; intro _ hw'; obtain ⟨nq, hw''⟩ := hw'; subst hw''))
      have HF := Lib.hid b1
      have HZ := Lib.hid hz
      have HH := Lib.hid hf
      clear b1 hz hf
      go_loopw [8, 9, 10] (fun best least i wr => ∃ k : Nat, k ≤ ps.length ∧ i = i64 k ∧ least = i64 (scan (thr l ps s) s k).1 ∧ best = i64 (scan (thr l ps s) s k).2 ∧ ∃ g : Up w, wr = up w g) (fun _ _ i _ => ps.length - (intOf i).toNat)
      case atStart => exact ⟨0, by omega, rfl, rfl, rfl, ex_up (by repeat (first | exact Below.refl _ _ | refine bl_tr ?_ _ | refine bl_al ?_ _ | refine bl_dr ?_ | refine bl_up ?_ _ | refine Below.drew ?_ | refine bl_alloc ?_ _ | refine Below.setCell ?_ (by first | (simp; done) | (simp; omega)) _))⟩
      case round =>
        obtain ⟨k, hk, rfl, rfl, rfl, g, rfl⟩ := hrel
        by_cases hlt : k < ps.length
        · have hks : k < s.size := by omega
          cases q1 : ((s[k].toNat : Int) != 63)
          · have h63 := Lib.hid (open63 hks q1)
            have he48 := Lib.hid (show holes (put s k 48) = f by have := holes_put (c := 48) hks h63.out (by decide); have := HH.out; omega)
            have he49 := Lib.hid (show holes (put s k 49) = f by have := holes_put (c := 49) hks h63.out (by decide); have := HH.out; omega)
            obtain ⟨b, off, rfl, hb, hc⟩ := num_at hp hlt
            have c0 := hc k hlt
            clear hc
            obtain ⟨n1, n2⟩ := HPB.out k hlt
            obtain ⟨m1, m2⟩ := wst_le (s := put s k 48) HV.out (by rw [put_size, hs])
            obtain ⟨m3, m4⟩ := wst_le (s := put s k 49) HV.out (by rw [put_size, hs])
            by_cases q2 : (scan (thr l ps s) s k).2 < 0
            · have hN := Lib.hid (scan_take h63.out (.inl q2))
              go_wp2_with (first | (go_at_call 65; refine (l23With_any _ _ _ _ (by omega) (by omega)).mono ?_; rintro e w' ⟨rfl, g, rfl⟩) | (go_at_call 51; refine (ih _ _ (by first | exact he48.out | exact he49.out) (by rw [put_size]; exact hs) (h.below (by repeat (first | exact Below.refl _ _ | refine bl_tr ?_ _ | refine bl_al ?_ _ | refine bl_dr ?_ | refine bl_up ?_ _ | refine Below.drew ?_ | refine bl_alloc ?_ _ | refine Below.setCell ?_ (by first | (simp; done) | (simp; omega)) _))) (hp.below (by repeat (first | exact Below.refl _ _ | refine bl_tr ?_ _ | refine bl_al ?_ _ | refine bl_dr ?_ | refine bl_up ?_ _ | refine Below.drew ?_ | refine bl_alloc ?_ _ | refine Below.setCell ?_ (by first | (simp; done) | (simp; omega)) _)))).mono ?_; rintro e w' ⟨rfl, g, rfl⟩) | (go_at_call 66; refine (l00Max_any _ _ _).mono ?_; rintro e w' ⟨rfl, rfl⟩) | ((with_reducible refine wp_region_up (by kernel_rfl) (by kernel_rfl) ?_); (repeat (go_big_quiet_step (first | (go_at_call 65; first | exact upq_tr (l23With_any _ _ _ _ (by omega) (by omega)) | exact upq (l23With_any _ _ _ _ (by omega) (by omega))) | (go_at_call 51; first | exact upq_tr (ih _ _ (by first | exact he48.out | exact he49.out) (by rw [put_size]; exact hs) (h.below (by repeat (first | exact Below.refl _ _ | refine bl_tr ?_ _ | refine bl_al ?_ _ | refine bl_dr ?_ | refine bl_up ?_ _ | refine Below.drew ?_ | refine bl_alloc ?_ _ | refine Below.setCell ?_ (by first | (simp; done) | (simp; omega)) _))) (hp.below (by repeat (first | exact Below.refl _ _ | refine bl_tr ?_ _ | refine bl_al ?_ _ | refine bl_dr ?_ | refine bl_up ?_ _ | refine Below.drew ?_ | refine bl_alloc ?_ _ | refine Below.setCell ?_ (by first | (simp; done) | (simp; omega)) _)))) | exact upq (ih _ _ (by first | exact he48.out | exact he49.out) (by rw [put_size]; exact hs) (h.below (by repeat (first | exact Below.refl _ _ | refine bl_tr ?_ _ | refine bl_al ?_ _ | refine bl_dr ?_ | refine bl_up ?_ _ | refine Below.drew ?_ | refine bl_alloc ?_ _ | refine Below.setCell ?_ (by first | (simp; done) | (simp; omega)) _))) (hp.below (by repeat (first | exact Below.refl _ _ | refine bl_tr ?_ _ | refine bl_al ?_ _ | refine bl_dr ?_ | refine bl_up ?_ _ | refine Below.drew ?_ | refine bl_alloc ?_ _ | refine Below.setCell ?_ (by first | (simp; done) | (simp; omega)) _))))) | (go_at_call 66; first | exact upq_tr_same (l00Max_any _ _ _) | exact upq_same (l00Max_any _ _ _))))); refine wpQuiet_nil ?_; intro _ hw'; obtain ⟨nq, hw''⟩ := hw'; subst hw''))
              go_roundw
              case rel => exact ⟨k + 1, by omega, by go_num, by rw [hN.out]; rfl, by rw [hN.out], ex_up (by repeat (first | exact Below.refl _ _ | refine bl_tr ?_ _ | refine bl_al ?_ _ | refine bl_dr ?_ | refine bl_up ?_ _ | refine Below.drew ?_ | refine bl_alloc ?_ _ | refine Below.setCell ?_ (by first | (simp; done) | (simp; omega)) _))⟩
              case measure => (simp [intOf]; try omega)
            · have q2' : decide ((scan (thr l ps s) s k).2 < 0) = false := decide_eq_false q2
              by_cases q3 : num ps k + max (wst l ps (put s k 48)).1 (wst l ps (put s k 49)).1 < (scan (thr l ps s) s k).1
              · have hN := Lib.hid (scan_take h63.out (.inr q3))
                go_wp2_with (first | (go_at_call 65; refine (l23With_any _ _ _ _ (by omega) (by omega)).mono ?_; rintro e w' ⟨rfl, g, rfl⟩) | (go_at_call 51; refine (ih _ _ (by first | exact he48.out | exact he49.out) (by rw [put_size]; exact hs) (h.below (by repeat (first | exact Below.refl _ _ | refine bl_tr ?_ _ | refine bl_al ?_ _ | refine bl_dr ?_ | refine bl_up ?_ _ | refine Below.drew ?_ | refine bl_alloc ?_ _ | refine Below.setCell ?_ (by first | (simp; done) | (simp; omega)) _))) (hp.below (by repeat (first | exact Below.refl _ _ | refine bl_tr ?_ _ | refine bl_al ?_ _ | refine bl_dr ?_ | refine bl_up ?_ _ | refine Below.drew ?_ | refine bl_alloc ?_ _ | refine Below.setCell ?_ (by first | (simp; done) | (simp; omega)) _)))).mono ?_; rintro e w' ⟨rfl, g, rfl⟩) | (go_at_call 66; refine (l00Max_any _ _ _).mono ?_; rintro e w' ⟨rfl, rfl⟩) | ((with_reducible refine wp_region_up (by kernel_rfl) (by kernel_rfl) ?_); (repeat (go_big_quiet_step (first | (go_at_call 65; first | exact upq_tr (l23With_any _ _ _ _ (by omega) (by omega)) | exact upq (l23With_any _ _ _ _ (by omega) (by omega))) | (go_at_call 51; first | exact upq_tr (ih _ _ (by first | exact he48.out | exact he49.out) (by rw [put_size]; exact hs) (h.below (by repeat (first | exact Below.refl _ _ | refine bl_tr ?_ _ | refine bl_al ?_ _ | refine bl_dr ?_ | refine bl_up ?_ _ | refine Below.drew ?_ | refine bl_alloc ?_ _ | refine Below.setCell ?_ (by first | (simp; done) | (simp; omega)) _))) (hp.below (by repeat (first | exact Below.refl _ _ | refine bl_tr ?_ _ | refine bl_al ?_ _ | refine bl_dr ?_ | refine bl_up ?_ _ | refine Below.drew ?_ | refine bl_alloc ?_ _ | refine Below.setCell ?_ (by first | (simp; done) | (simp; omega)) _)))) | exact upq (ih _ _ (by first | exact he48.out | exact he49.out) (by rw [put_size]; exact hs) (h.below (by repeat (first | exact Below.refl _ _ | refine bl_tr ?_ _ | refine bl_al ?_ _ | refine bl_dr ?_ | refine bl_up ?_ _ | refine Below.drew ?_ | refine bl_alloc ?_ _ | refine Below.setCell ?_ (by first | (simp; done) | (simp; omega)) _))) (hp.below (by repeat (first | exact Below.refl _ _ | refine bl_tr ?_ _ | refine bl_al ?_ _ | refine bl_dr ?_ | refine bl_up ?_ _ | refine Below.drew ?_ | refine bl_alloc ?_ _ | refine Below.setCell ?_ (by first | (simp; done) | (simp; omega)) _))))) | (go_at_call 66; first | exact upq_tr_same (l00Max_any _ _ _) | exact upq_same (l00Max_any _ _ _))))); refine wpQuiet_nil ?_; intro _ hw'; obtain ⟨nq, hw''⟩ := hw'; subst hw''))
                go_roundw
                case rel => exact ⟨k + 1, by omega, by go_num, by rw [hN.out]; rfl, by rw [hN.out], ex_up (by repeat (first | exact Below.refl _ _ | refine bl_tr ?_ _ | refine bl_al ?_ _ | refine bl_dr ?_ | refine bl_up ?_ _ | refine Below.drew ?_ | refine bl_alloc ?_ _ | refine Below.setCell ?_ (by first | (simp; done) | (simp; omega)) _))⟩
                case measure => (simp [intOf]; try omega)
              · have hN := Lib.hid (scan_keep (cost := thr l ps s) (s := s) (k := k) (by intro e; rcases e with e | e; exact q2 e; exact q3 e))
                go_wp2_with (first | (go_at_call 65; refine (l23With_any _ _ _ _ (by omega) (by omega)).mono ?_; rintro e w' ⟨rfl, g, rfl⟩) | (go_at_call 51; refine (ih _ _ (by first | exact he48.out | exact he49.out) (by rw [put_size]; exact hs) (h.below (by repeat (first | exact Below.refl _ _ | refine bl_tr ?_ _ | refine bl_al ?_ _ | refine bl_dr ?_ | refine bl_up ?_ _ | refine Below.drew ?_ | refine bl_alloc ?_ _ | refine Below.setCell ?_ (by first | (simp; done) | (simp; omega)) _))) (hp.below (by repeat (first | exact Below.refl _ _ | refine bl_tr ?_ _ | refine bl_al ?_ _ | refine bl_dr ?_ | refine bl_up ?_ _ | refine Below.drew ?_ | refine bl_alloc ?_ _ | refine Below.setCell ?_ (by first | (simp; done) | (simp; omega)) _)))).mono ?_; rintro e w' ⟨rfl, g, rfl⟩) | (go_at_call 66; refine (l00Max_any _ _ _).mono ?_; rintro e w' ⟨rfl, rfl⟩) | ((with_reducible refine wp_region_up (by kernel_rfl) (by kernel_rfl) ?_); (repeat (go_big_quiet_step (first | (go_at_call 65; first | exact upq_tr (l23With_any _ _ _ _ (by omega) (by omega)) | exact upq (l23With_any _ _ _ _ (by omega) (by omega))) | (go_at_call 51; first | exact upq_tr (ih _ _ (by first | exact he48.out | exact he49.out) (by rw [put_size]; exact hs) (h.below (by repeat (first | exact Below.refl _ _ | refine bl_tr ?_ _ | refine bl_al ?_ _ | refine bl_dr ?_ | refine bl_up ?_ _ | refine Below.drew ?_ | refine bl_alloc ?_ _ | refine Below.setCell ?_ (by first | (simp; done) | (simp; omega)) _))) (hp.below (by repeat (first | exact Below.refl _ _ | refine bl_tr ?_ _ | refine bl_al ?_ _ | refine bl_dr ?_ | refine bl_up ?_ _ | refine Below.drew ?_ | refine bl_alloc ?_ _ | refine Below.setCell ?_ (by first | (simp; done) | (simp; omega)) _)))) | exact upq (ih _ _ (by first | exact he48.out | exact he49.out) (by rw [put_size]; exact hs) (h.below (by repeat (first | exact Below.refl _ _ | refine bl_tr ?_ _ | refine bl_al ?_ _ | refine bl_dr ?_ | refine bl_up ?_ _ | refine Below.drew ?_ | refine bl_alloc ?_ _ | refine Below.setCell ?_ (by first | (simp; done) | (simp; omega)) _))) (hp.below (by repeat (first | exact Below.refl _ _ | refine bl_tr ?_ _ | refine bl_al ?_ _ | refine bl_dr ?_ | refine bl_up ?_ _ | refine Below.drew ?_ | refine bl_alloc ?_ _ | refine Below.setCell ?_ (by first | (simp; done) | (simp; omega)) _))))) | (go_at_call 66; first | exact upq_tr_same (l00Max_any _ _ _) | exact upq_same (l00Max_any _ _ _))))); refine wpQuiet_nil ?_; intro _ hw'; obtain ⟨nq, hw''⟩ := hw'; subst hw''))
                go_roundw
                case rel => exact ⟨k + 1, by omega, by go_num, by rw [hN.out], by rw [hN.out], ex_up (by repeat (first | exact Below.refl _ _ | refine bl_tr ?_ _ | refine bl_al ?_ _ | refine bl_dr ?_ | refine bl_up ?_ _ | refine Below.drew ?_ | refine bl_alloc ?_ _ | refine Below.setCell ?_ (by first | (simp; done) | (simp; omega)) _))⟩
                case measure => (simp [intOf]; try omega)
          · have hN := Lib.hid (scan_skip (cost := thr l ps s) (shut63 hks q1))
            go_wp2_with (first | ((with_reducible refine wp_region_up (by kernel_rfl) (by kernel_rfl) ?_); (repeat (go_big_quiet_step (fail))); refine wpQuiet_nil ?_; intro _ hw'; obtain ⟨nq, hw''⟩ := hw'; subst hw''))
            go_roundw
            case rel => exact ⟨k + 1, by omega, by go_num, by rw [hN.out], by rw [hN.out], ex_up (by repeat (first | exact Below.refl _ _ | refine bl_tr ?_ _ | refine bl_al ?_ _ | refine bl_dr ?_ | refine bl_up ?_ _ | refine Below.drew ?_ | refine bl_alloc ?_ _ | refine Below.setCell ?_ (by first | (simp; done) | (simp; omega)) _))⟩
            case measure => (simp [intOf]; try omega)
        · obtain rfl : k = ps.length := by omega
          go_wp2_with (first | ((with_reducible refine wp_region_up (by kernel_rfl) (by kernel_rfl) ?_); (repeat (go_big_quiet_step (fail))); refine wpQuiet_nil ?_; intro _ hw'; obtain ⟨nq, hw''⟩ := hw'; subst hw''))
          go_ret2
          rw [hw.out]
          exact ⟨rfl, UpOf.of (by repeat (first | exact Below.refl _ _ | refine bl_tr ?_ _ | refine bl_al ?_ _ | refine bl_dr ?_ | refine bl_up ?_ _ | refine Below.drew ?_ | refine bl_alloc ?_ _ | refine Below.setCell ?_ (by first | (simp; done) | (simp; omega)) _))⟩
    · have hw := Lib.hid (wst_found (ps := ps) b1)
      go_enter Try.func51, Try.ntmps51
      go_wp2_with (first | (go_at_call 64; refine (ret_as (l23Found_any _ _ _ _ _ (h.below (by repeat (first | exact Below.refl _ _ | refine bl_tr ?_ _ | refine bl_al ?_ _ | refine bl_dr ?_ | refine bl_up ?_ _ | refine Below.drew ?_ | refine bl_alloc ?_ _ | refine Below.setCell ?_ (by first | (simp; done) | (simp; omega)) _))) (by omega) (by omega) hz) b1).mono ?_; rintro e w' ⟨rfl, g, rfl⟩) | ((with_reducible refine wp_region_up (by kernel_rfl) (by kernel_rfl) ?_); (repeat (go_big_quiet_step (first | (go_at_call 64; first | exact upq_tr (ret_as (l23Found_any _ _ _ _ _ (h.below (by repeat (first | exact Below.refl _ _ | refine bl_tr ?_ _ | refine bl_al ?_ _ | refine bl_dr ?_ | refine bl_up ?_ _ | refine Below.drew ?_ | refine bl_alloc ?_ _ | refine Below.setCell ?_ (by first | (simp; done) | (simp; omega)) _))) (by omega) (by omega) hz) b1) | exact upq (ret_as (l23Found_any _ _ _ _ _ (h.below (by repeat (first | exact Below.refl _ _ | refine bl_tr ?_ _ | refine bl_al ?_ _ | refine bl_dr ?_ | refine bl_up ?_ _ | refine Below.drew ?_ | refine bl_alloc ?_ _ | refine Below.setCell ?_ (by first | (simp; done) | (simp; omega)) _))) (by omega) (by omega) hz) b1))))); refine wpQuiet_nil ?_; intro _ hw'; obtain ⟨nq, hw''⟩ := hw'; subst hw''))
      go_ret2
      rw [hw.out]
      exact ⟨rfl, UpOf.of (by repeat (first | exact Below.refl _ _ | refine bl_tr ?_ _ | refine bl_al ?_ _ | refine bl_dr ?_ | refine bl_up ?_ _ | refine Below.drew ?_ | refine bl_alloc ?_ _ | refine Below.setCell ?_ (by first | (simp; done) | (simp; omega)) _))⟩
end Go.Proofs.Ytfggbcmpgkhlaaa

/-
  A drill's line: the program's. The bounds stand at it.
-/
import Derived.Test.YtbianlkenallaaaGreatDoorMgC
set_option linter.all false
namespace Go.Proofs.YtbianlkenallaaaGreatDoor
open Go.RowKit
theorem dlU_len (d : Drill) (n : Nat) : (dlU d n).length = n := by simp [dlU]
theorem dlU_get (d : Drill) {n i : Nat} (h : i < n) : (dlU d n)[i]? = some (dlC d i) := by simp [dlU, h]
theorem dlU_four (d : Drill) (k : Nat) : dlU d (4 * (k + 1)) = dlU d (4 * k) ++ (List.replicate 3 (byteAt d.letters (k % d.letters.size)) ++ [32]) := by
  have e : ∀ r, r < 4 → (4 * k + r) % 4 = r ∧ (4 * k + r) / 4 = k := fun r hr => by omega
  rw [show 4 * (k + 1) = 4 * k + 1 + 1 + 1 + 1 by omega]
  simp only [dlU, List.range_succ, List.map_append, List.map_cons, List.map_nil, List.append_assoc]
  congr 1
  simp only [List.replicate, List.cons_append, List.nil_append]
  have f0 := e 0 (by omega)
  have f1 := e 1 (by omega)
  have f2 := e 2 (by omega)
  have f3 := e 3 (by omega)
  rw [Nat.add_zero] at f0
  simp only [dlC, f0, show 4 * k + 1 + 1 = 4 * k + 2 from rfl, show 4 * k + 1 + 1 + 1 = 4 * k + 3 from rfl, f1, f2, f3]
  simp
theorem dlU_take (d : Drill) {n m : Nat} (h : n ≤ m) : (dlU d m).take n = dlU d n := by
  simp only [dlU, ← List.map_take, List.take_range, Nat.min_eq_left h]
theorem dl_trim {d : Drill} (hv : vDrill d = true) {n : Nat} (h1 : 1 ≤ n) : ∃ e, e ≤ n ∧ dlA d n = dlU d e ∧ (e = 0 ∨ dlC d (e - 1) ≠ 32) ∧ ∀ i, e ≤ i → i < n → dlC d i = 32 := by
  obtain ⟨_, b, c, _, _⟩ := vDrill_inv hv
  have hl : ∀ i, i % 4 ≠ 3 → dlC d i ≠ 32 := fun i hi he => by
    rw [dlC, if_neg hi] at he
    have := (txtB_inv c).2 (i / 4 % d.letters.size) (Nat.mod_lt _ b)
    rw [he] at this
    exact absurd this.1 (by decide)
  by_cases h4 : n % 4 = 0
  · refine ⟨n - 1, by omega, by rw [dlA, if_pos h4], .inr (hl _ (by omega)), fun i hi hin => ?_⟩
    rw [dlC, if_pos (by omega)]
  · refine ⟨n, Nat.le_refl _, by rw [dlA, if_neg h4], .inr (hl _ (by omega)), fun i hi hin => by omega⟩
set_option maxRecDepth 10000 in
set_option maxHeartbeats 2000000 in
theorem drillLine_any (d : Drill) (n : Int) (w : World) (h1 : d.name.size ≤ 9223372036854775807) (h2 : d.letters.size ≤ 9223372036854775807) :
    Calls Tryz.prog 84 #[drv d, i64 n] w fun e w' => e = .returned (.tuple #[.string (dlR d n).1, i64 (dlR d n).2]) ∧ UpOf w w' := by
  cases hv : vDrill d with
  | false =>
    have hr := Lib.hid (show dlR d n = (⟨#[]⟩, 1) by rw [dlR, hv]; rfl)
    go_enter Tryz.func84, Tryz.ntmps84
    go_upto_region 1 with (fail)
    refine wpg (R := fun V => Box V w.heap.size #[.string d.name, .string d.letters, i64 d.minutes] ∧ UpOf w V) ⟨Box.new _ _ _, UpOf.of (BL.o (by repeat constructor))⟩ (fun V z => ?_)
    obtain ⟨⟨hq, hc⟩, hB⟩ := z
    have c0 := hc 0 _ rfl
    have c1 := hc 1 _ rfl
    have c2 := hc 2 _ rfl
    have HB := Lib.hid hB
    clear hc hB
    generalize w.heap.size = q at *
    go_wp2_with (first | (go_at_call 119; refine (ret_as (validDrill_any d _ h1 h2) hv).mono ?_; rintro e w' ⟨rfl, g, rfl⟩) | ((with_reducible refine wp_region_up (by kernel_rfl) (by kernel_rfl) ?_); (repeat (go_big_quiet_step (first | (go_at_call 119; first | exact upq_tr (ret_as (validDrill_any d _ h1 h2) hv) | exact upq (ret_as (validDrill_any d _ h1 h2) hv))))); refine wpQuiet_nil ?_; intro _ hw'; obtain ⟨nq, hw''⟩ := hw'; subst hw''))
    go_ret2
    rw [hr.out]
    exact ⟨rfl, HB.out.tr (BL.o (by repeat constructor))⟩
  | true =>
    cases hb : btw n 1 80 with
    | false =>
      have hr := Lib.hid (show dlR d n = (⟨#[]⟩, 2) by rw [dlR, hv, hb]; rfl)
      go_enter Tryz.func84, Tryz.ntmps84
      go_upto_region 1 with (fail)
      refine wpg (R := fun V => Box V w.heap.size #[.string d.name, .string d.letters, i64 d.minutes] ∧ UpOf w V) ⟨Box.new _ _ _, UpOf.of (BL.o (by repeat constructor))⟩ (fun V z => ?_)
      obtain ⟨⟨hq, hc⟩, hB⟩ := z
      have c0 := hc 0 _ rfl
      have c1 := hc 1 _ rfl
      have c2 := hc 2 _ rfl
      have HB := Lib.hid hB
      clear hc hB
      generalize w.heap.size = q at *
      go_wp2_with (first | (go_at_call 119; refine (ret_as (validDrill_any d _ h1 h2) hv).mono ?_; rintro e w' ⟨rfl, g, rfl⟩) | (go_at_call 118; refine (ret_as (between_any n 1 80 _) hb).mono ?_; rintro e w' ⟨rfl, rfl⟩) | ((with_reducible refine wp_region_up (by kernel_rfl) (by kernel_rfl) ?_); (repeat (go_big_quiet_step (first | (go_at_call 119; first | exact upq_tr (ret_as (validDrill_any d _ h1 h2) hv) | exact upq (ret_as (validDrill_any d _ h1 h2) hv)) | (go_at_call 118; first | exact upq_tr_same (ret_as (between_any n 1 80 _) hb) | exact upq_same (ret_as (between_any n 1 80 _) hb))))); refine wpQuiet_nil ?_; intro _ hw'; obtain ⟨nq, hw''⟩ := hw'; subst hw''))
      go_ret2
      rw [hr.out]
      exact ⟨rfl, HB.out.tr (BL.o (by repeat constructor))⟩
    | true =>
      have hr := Lib.hid (show dlR d n = (bs (dlA d n.toNat), 0) by rw [dlR, hv, hb]; rfl)
      have hbb := btw_true hb
      obtain ⟨N, rfl⟩ : ∃ N : Nat, n = (N : Int) := ⟨n.toNat, by omega⟩
      have hN1 : 1 ≤ N := by omega
      have hN2 : N ≤ 80 := by omega
      have hinv := vDrill_inv hv
      have hl0 : 0 < d.letters.size := hinv.2.1
      have hl8 : d.letters.size ≤ 8 := (txtB_inv hinv.2.2.1).1
      have HV := Lib.hid hv
      obtain ⟨sz, hsz⟩ : ∃ sz, d.letters.size = sz := ⟨_, rfl⟩
      have HSZ := Lib.hid hsz
      clear hinv hbb
      rw [hsz] at hl0 hl8
      go_enter Tryz.func84, Tryz.ntmps84
      go_upto_region 1 with (fail)
      refine wpg (R := fun V => Box V w.heap.size #[.string d.name, .string d.letters, i64 d.minutes] ∧ UpOf w V) ⟨Box.new _ _ _, UpOf.of (BL.o (by repeat constructor))⟩ (fun V z => ?_)
      obtain ⟨⟨hq, hc⟩, hB⟩ := z
      have c0 := hc 0 _ rfl
      have c1 := hc 1 _ rfl
      have c2 := hc 2 _ rfl
      have HB := Lib.hid hB
      clear hc hB
      generalize w.heap.size = q at *
      go_wp2_with (first | (go_at_call 119; refine (ret_as (validDrill_any d _ h1 h2) hv).mono ?_; rintro e w' ⟨rfl, g, rfl⟩) | (go_at_call 118; refine (ret_as (between_any _ 1 80 _) hb).mono ?_; rintro e w' ⟨rfl, rfl⟩) | ((with_reducible refine wp_region_up (by kernel_rfl) (by kernel_rfl) ?_); (repeat (go_big_quiet_step (first | (go_at_call 119; first | exact upq_tr (ret_as (validDrill_any d _ h1 h2) hv) | exact upq (ret_as (validDrill_any d _ h1 h2) hv)) | (go_at_call 118; first | exact upq_tr_same (ret_as (between_any _ 1 80 _) hb) | exact upq_same (ret_as (between_any _ 1 80 _) hb))))); refine wpQuiet_nil ?_; intro _ hw'; obtain ⟨nq, hw''⟩ := hw'; subst hw''))
      clear hv hb
      go_loopw [6, 7] (fun t6 t7 wr => ∃ (k : Nat) (S : ByteArray), S.size = 4 * k ∧ 4 * k ≤ N + 3 ∧ t7 = i64 k ∧ t6 = .string S ∧ Hid (S = bs (dlU d (4 * k))) ∧ ∃ g : Up V, wr = up V g) (fun _ t7 _ => 30 - (intOf t7).toNat)
      case atStart => exact ⟨0, ⟨#[]⟩, rfl, by omega, rfl, rfl, Lib.hid rfl, ex_up (BL.o (by repeat constructor))⟩
      case round =>
        obtain ⟨k, S, hS, hk, rfl, rfl, HE, g, rfl⟩ := hrel
        by_cases hlt : 4 * k < N
        · have hlt' : (4 * (k : Int)) < (N : Int) := by omega
          obtain ⟨a, ha⟩ : ∃ a, k % sz = a := ⟨_, rfl⟩
          have ha1 : a < sz := by rw [← ha]; exact Nat.mod_lt _ hl0
          have hmod : (k : Int) % (sz : Int) = (a : Int) := by rw [← ha]; rfl
          have hsl : ∀ wx : World, (Instr.slice 9 (.string d.letters) (some (i64 a)) (some (.int .i64 ((a : Int) + 1))) none).run Tryz.prog wx = .ok (.string (d.letters.extract a (a + 1))) wx := fun wx => by
            have := run_slice_string (P := Tryz.prog) wx 9 d.letters .i64 .i64 (a : Int) ((a + 1 : Nat) : Int) Tryz.underlying9 (by omega) (by omega) (by omega)
            simpa using this
          have hone : d.letters.extract a (a + 1) = bs [byteAt d.letters a] := one_byte d.letters rfl (by show a < d.letters.size; omega)
          obtain ⟨R, hR⟩ : ∃ R, bs (List.replicate 3 (byteAt d.letters a)) = R := ⟨_, rfl⟩
          have hRz : R.size = 3 := by rw [← hR]; rfl
          have hrep : Hid (∀ W : World, Calls Tryz.prog 136 #[.string (d.letters.extract a (a + 1)), i64 3] W fun e w' => e = .returned (.string R) ∧ UpOf W w') := Lib.hid fun W => by
            rw [← hR, hone]; exact repeat_any (byteAt d.letters a) 3 W (by omega) (by omega)
          have HE2 : Hid (S ++ (R ++ ⟨#[32]⟩) = bs (dlU d (4 * (k + 1)))) := Lib.hid (by
            rw [dlU_four, HSZ.out, ha, HE.out, ← hR]
            apply ByteArray.ext
            apply Array.ext'
            simp)
          clear hR HE hone ha
          go_wp2_with (first | (go_at_call 136; refine (hrep.out _).mono ?_; rintro e w' ⟨rfl, g, rfl⟩) | ((with_reducible refine wp_region_up (by kernel_rfl) (by kernel_rfl) ?_); (repeat (go_big_quiet_step (first | (go_at_call 136; first | exact upq_tr (hrep.out _) | exact upq (hrep.out _))))); refine wpQuiet_nil ?_; intro _ hw'; obtain ⟨nq, hw''⟩ := hw'; subst hw''))
          trace_state
          go_roundw
          case rel => exact ⟨k + 1, _, by (simp only [ByteArray.size_append, hS, hRz]; show 4 * k + (3 + 1) = _; omega), by omega, by go_num, rfl, HE2, ex_up (BL.o (by repeat constructor))⟩
          case measure => simp [intOf]; try omega
        · have hlt' : ¬ (4 * (k : Int)) < (N : Int) := by omega
          have hNS : (N : Int) ≤ (S.size : Int) := by omega
          obtain ⟨e, he1, he2, he3, he4⟩ := dl_trim HV.out hN1
          have hex : S.extract 0 N = bs (dlU d N) := by
            rw [HE.out, bs_extract, bs_list, List.drop_zero, Nat.sub_zero, dlU_take d (by omega)]
          have hat : ∀ i, i < N → byteAt (S.extract 0 N) i = dlC d i := fun i hi => by
            rw [hex, byteAt, bs_list, List.getD_eq_getElem?_getD, dlU_get d hi]; rfl
          have hexs : (S.extract 0 N).size = N := by rw [hex, bs_size, dlU_len]
          have htr : Hid (∀ W : World, Calls Tryz.prog 137 #[.string (S.extract 0 N)] W fun r w' => r = .returned (.string (bs (dlA d N))) ∧ UpOf W w') := Lib.hid fun W => by
            have := trimRight_any (S.extract 0 N) e W (by omega) (by omega) (by
              rcases he3 with h | h
              · exact .inl h
              · by_cases h0 : e = 0
                · exact .inl h0
                · rw [hat _ (by omega)]; exact .inr h) (fun i h1 h2 => by rw [hat _ (by omega)]; exact he4 i h1 (by omega))
            rw [he2]
            rw [hex, bs_extract, bs_list, List.drop_zero, Nat.sub_zero, dlU_take d he1] at this
            rw [hex]
            exact this
          clear hex hat hexs he1 he2 he3 he4 HE
          go_wp2_with (first | (go_at_call 137; refine (htr.out _).mono ?_; rintro e w' ⟨rfl, g, rfl⟩) | ((with_reducible refine wp_region_up (by kernel_rfl) (by kernel_rfl) ?_); (repeat (go_big_quiet_step (first | (go_at_call 137; first | exact upq_tr (htr.out _) | exact upq (htr.out _))))); refine wpQuiet_nil ?_; intro _ hw'; obtain ⟨nq, hw''⟩ := hw'; subst hw''))
          go_ret2
          rw [hr.out]
          exact ⟨rfl, HB.out.tr (BL.o (by repeat constructor))⟩
end Go.Proofs.YtbianlkenallaaaGreatDoor

/-
  Valid price lists: the program's and the reference's. The bounds stand at each.
-/
import Derived.Test.YtiibpldfnnhhlaaWare1
import Derived.Test.YtiibpldfnnhhlaaWares
namespace Go.Proofs.Ytiibpldfnnhhlaa
open Go.RowKit
def namesOf (l : List Ware) (k : Nat) (S : List ByteArray) : Prop := ∀ s, s ∈ S ↔ ∃ j, j < k ∧ (wat l j).name = s
theorem namesOf_step {l : List Ware} {k : Nat} {S : List ByteArray} (h : namesOf l k S) : namesOf l (k + 1) ((wat l k).name :: S) := by
  intro s
  rw [List.mem_cons, h s]
  constructor
  · rintro (rfl | ⟨j, hj, e⟩)
    · exact ⟨k, by omega, rfl⟩
    · exact ⟨j, by omega, e⟩
  · rintro ⟨j, hj, e⟩
    rcases Nat.lt_succ_iff_lt_or_eq.1 hj with h' | h'
    · exact .inr ⟨j, h', e⟩
    · subst h'; exact .inl e.symm
theorem okW_memB {l : List Ware} {k : Nat} {S : List ByteArray} (h : namesOf l k S) (hm : memB S (wat l k).name = true) : okW l k = false := by
  obtain ⟨j, hj, e⟩ := (h _).1 (memB_iff.1 hm)
  exact okW_name hj e
theorem okW_fresh {l : List Ware} {k : Nat} {S : List ByteArray} (h : namesOf l k S) (hv : vWare (wat l k) = true) (hm : memB S (wat l k).name = false) : okW l k = true := by
  refine okW_true hv fun j hj e => ?_
  have := memB_iff.2 ((h _).2 ⟨j, hj, e⟩)
  rw [hm] at this
  cases this
theorem zeroBool (w : World) : (zeroValue 4).run Try.prog w = .ok (.bool false) w := by kernel_rfl
set_option maxRecDepth 10000 in
set_option maxHeartbeats 2000000 in
theorem validWares_any (A : Option Addr) (c : Nat) (l : List Ware) (w : World) (h : WSee w A l) (hn : l.length ≤ 100000000) (hf : ∀ i, i < l.length → (wat l i).name.size ≤ 100000000 ∧ (wat l i).brs.length ≤ 100000000) :
    Calls Try.prog 21 #[.slice A l.length c] w fun e w' => e = .returned (.bool (vWares l)) ∧ UpOf w w' := by
  have HF := Lib.hid hf
  clear hf
  have hmm := @run_makeMap Try.prog
  go_enter Try.func21, Try.ntmps21
  go_wp2_with (first | ((with_reducible refine wp_region_up (by kernel_rfl) (by kernel_rfl) ?_); (repeat (go_big_quiet_step (fail))); refine wpQuiet_nil ?_; intro _ hw'; obtain ⟨nq, hw''⟩ := hw'; subst hw''))
  go_loopw [9] (fun i wr => ∃ k : Nat, k ≤ l.length ∧ i = i64 k ∧ Hid (∀ j, j < k → okW l j = true) ∧ ∃ S, SetAt wr Try.prog 9 4 w.heap.size k S ∧ Hid (namesOf l k S) ∧ Below w.heap.size w wr) (fun i _ => l.length - (intOf i).toNat)
  case atStart => exact ⟨0, by omega, rfl, fun i hi => by omega, [], SetAt.made _ _ _ _, fun s => by simp, (by repeat (first | exact Below.refl _ _ | refine bl_tr ?_ _ | refine bl_al ?_ _ | refine bl_dr ?_ | refine bl_up ?_ _ | refine Below.drew ?_ | refine bl_alloc ?_ _ | refine Below.setCell ?_ (by first | (simp; done) | (simp; omega)) _))⟩
  case round =>
    obtain ⟨k, hk, rfl, hok, S, hset, hnm, hbel⟩ := hrel
    by_cases hlt : k < l.length
    · obtain ⟨b, off, Ai, ci, rfl, hb, c0, c1, r⟩ := ware_at (h.below hbel) hlt
      obtain ⟨f1, f2⟩ := HF.out k hlt
      have hBl := hset.lt
      have HSET := Lib.hid hset
      have HBEL := Lib.hid hbel
      cases b1 : vWare (wat l k)
      · have hf := Lib.hid (vWares_at hlt (okW_no b1))
        clear h hset hbel
        refine as_up fun g0 => ?_
        go_wp2_with (first | (go_at_call 58; refine (ret_as (validWare_any _ _ _ _ (r.below (by repeat (first | exact Below.refl _ _ | refine bl_tr ?_ _ | refine bl_al ?_ _ | refine bl_dr ?_ | refine bl_up ?_ _ | refine Below.drew ?_ | refine bl_alloc ?_ _ | refine Below.setCell ?_ (by first | (simp; done) | (simp; omega)) _))) f2 (by omega)) b1).mono ?_; rintro e w' ⟨rfl, g, rfl⟩) | ((with_reducible refine wp_region_up (by kernel_rfl) (by kernel_rfl) ?_); (repeat (go_big_quiet_step (first | (go_at_call 58; first | exact upq_tr (ret_as (validWare_any _ _ _ _ (r.below (by repeat (first | exact Below.refl _ _ | refine bl_tr ?_ _ | refine bl_al ?_ _ | refine bl_dr ?_ | refine bl_up ?_ _ | refine Below.drew ?_ | refine bl_alloc ?_ _ | refine Below.setCell ?_ (by first | (simp; done) | (simp; omega)) _))) f2 (by omega)) b1) | exact upq (ret_as (validWare_any _ _ _ _ (r.below (by repeat (first | exact Below.refl _ _ | refine bl_tr ?_ _ | refine bl_al ?_ _ | refine bl_dr ?_ | refine bl_up ?_ _ | refine Below.drew ?_ | refine bl_alloc ?_ _ | refine Below.setCell ?_ (by first | (simp; done) | (simp; omega)) _))) f2 (by omega)) b1))))); refine wpQuiet_nil ?_; intro _ hw'; obtain ⟨nq, hw''⟩ := hw'; subst hw''))
        go_ret
        exact ⟨ret_bool hf.out.symm, UpOf.of (HBEL.out.trans (Below.mono (by repeat (first | exact Below.refl _ _ | refine bl_tr ?_ _ | refine bl_al ?_ _ | refine bl_dr ?_ | refine bl_up ?_ _ | refine Below.drew ?_ | refine bl_alloc ?_ _ | refine Below.setCell ?_ (by first | (simp; done) | (simp; omega)) _)) HBEL.out.size))⟩
      · cases b2 : memB S (wat l k).name
        · have hq := Lib.hid (okW_fresh hnm.out b1 b2)
          have hlook : ∀ g : Up wr, (Instr.lookup 79 (.map (some w.heap.size)) (.string (wat l k).name) false).run Try.prog (up wr g) = .ok (.bool false) (up wr g) := fun g => ((HSET.out.up g).look Try.underlying79 Try.underlying9 Try.underlying4 (zeroBool _) (wat l k).name (by unfold maxLen; omega)).trans (by rw [b2])
          clear h hset hbel
          refine as_up fun g0 => ?_
          go_wp2_with (first | (go_at_call 58; refine (ret_as (validWare_any _ _ _ _ (r.below (by repeat (first | exact Below.refl _ _ | refine bl_tr ?_ _ | refine bl_al ?_ _ | refine bl_dr ?_ | refine bl_up ?_ _ | refine Below.drew ?_ | refine bl_alloc ?_ _ | refine Below.setCell ?_ (by first | (simp; done) | (simp; omega)) _))) f2 (by omega)) b1).mono ?_; rintro e w' ⟨rfl, g, rfl⟩) | (at_mapUpdate; refine wpl_setPut _ rfl _ _ _ 79 rfl 9 4 Try.underlying79 Try.underlying9 Try.underlying4 w.heap.size k S rfl (HSET.out.below (by repeat (first | exact Below.refl _ _ | refine bl_tr ?_ _ | refine bl_al ?_ _ | refine bl_dr ?_ | refine bl_up ?_ _ | refine Below.drew ?_ | refine bl_alloc ?_ _ | refine Below.setCell ?_ (by first | (simp; done) | (simp; omega)) _))) (by unfold maxLen; omega) (wat l k).name (by unfold maxLen; omega) rfl rfl ?_; intro w1 hset1 hgr1))
          go_roundw
          case rel =>
            have hx := lt_ext (P := fun j => okW l j = true) hok.out hq.out
            exact ⟨k + 1, by omega, by go_num, hx, _, hset1, namesOf_step hnm.out, (HBEL.out.trans (Below.mono (by repeat (first | exact Below.refl _ _ | refine bl_tr ?_ _ | refine bl_al ?_ _ | refine bl_dr ?_ | refine bl_up ?_ _ | refine Below.drew ?_ | refine bl_alloc ?_ _ | refine Below.setCell ?_ (by first | (simp; done) | (simp; omega)) _)) HBEL.out.size)).grown hgr1 (Nat.le_trans HBEL.out.size (up_below _ _).size) (fun j hj => by injection hj with hj; omega)⟩
          case measure => (simp [intOf]; try omega)
        · have hf := Lib.hid (vWares_at hlt (okW_memB hnm.out b2))
          have hlook : ∀ g : Up wr, (Instr.lookup 79 (.map (some w.heap.size)) (.string (wat l k).name) false).run Try.prog (up wr g) = .ok (.bool true) (up wr g) := fun g => ((HSET.out.up g).look Try.underlying79 Try.underlying9 Try.underlying4 (zeroBool _) (wat l k).name (by unfold maxLen; omega)).trans (by rw [b2])
          clear h hset hbel
          refine as_up fun g0 => ?_
          go_wp2_with (first | (go_at_call 58; refine (ret_as (validWare_any _ _ _ _ (r.below (by repeat (first | exact Below.refl _ _ | refine bl_tr ?_ _ | refine bl_al ?_ _ | refine bl_dr ?_ | refine bl_up ?_ _ | refine Below.drew ?_ | refine bl_alloc ?_ _ | refine Below.setCell ?_ (by first | (simp; done) | (simp; omega)) _))) f2 (by omega)) b1).mono ?_; rintro e w' ⟨rfl, g, rfl⟩) | ((with_reducible refine wp_region_up (by kernel_rfl) (by kernel_rfl) ?_); (repeat (go_big_quiet_step (first | (go_at_call 58; first | exact upq_tr (ret_as (validWare_any _ _ _ _ (r.below (by repeat (first | exact Below.refl _ _ | refine bl_tr ?_ _ | refine bl_al ?_ _ | refine bl_dr ?_ | refine bl_up ?_ _ | refine Below.drew ?_ | refine bl_alloc ?_ _ | refine Below.setCell ?_ (by first | (simp; done) | (simp; omega)) _))) f2 (by omega)) b1) | exact upq (ret_as (validWare_any _ _ _ _ (r.below (by repeat (first | exact Below.refl _ _ | refine bl_tr ?_ _ | refine bl_al ?_ _ | refine bl_dr ?_ | refine bl_up ?_ _ | refine Below.drew ?_ | refine bl_alloc ?_ _ | refine Below.setCell ?_ (by first | (simp; done) | (simp; omega)) _))) f2 (by omega)) b1))))); refine wpQuiet_nil ?_; intro _ hw'; obtain ⟨nq, hw''⟩ := hw'; subst hw''))
          go_ret
          exact ⟨ret_bool hf.out.symm, UpOf.of (HBEL.out.trans (Below.mono (by repeat (first | exact Below.refl _ _ | refine bl_tr ?_ _ | refine bl_al ?_ _ | refine bl_dr ?_ | refine bl_up ?_ _ | refine Below.drew ?_ | refine bl_alloc ?_ _ | refine Below.setCell ?_ (by first | (simp; done) | (simp; omega)) _)) HBEL.out.size))⟩
    · obtain rfl : k = l.length := by omega
      by_cases q : l.length ≤ 30
      · have hf := Lib.hid (vWares_true q hok.out)
        go_wp2_with (first | ((with_reducible refine wp_region_up (by kernel_rfl) (by kernel_rfl) ?_); (repeat (go_big_quiet_step (fail))); refine wpQuiet_nil ?_; intro _ hw'; obtain ⟨nq, hw''⟩ := hw'; subst hw''))
        go_ret
        exact ⟨ret_bool (by rw [hf.out]; exact decide_eq_true (by omega)), UpOf.of hbel⟩
      · have hf := Lib.hid (vWares_len (l := l) (by omega))
        have q' : decide (l.length ≤ 30) = false := decide_eq_false q
        go_wp2_with (first | ((with_reducible refine wp_region_up (by kernel_rfl) (by kernel_rfl) ?_); (repeat (go_big_quiet_step (fail))); refine wpQuiet_nil ?_; intro _ hw'; obtain ⟨nq, hw''⟩ := hw'; subst hw''))
        go_ret
        exact ⟨ret_bool (by rw [hf.out]; exact decide_eq_false (by omega)), UpOf.of hbel⟩
theorem text_eq {s t : ByteArray} (h : (s.toList == t.toList) = true) : s = t := by
  rw [beq_iff_eq, ByteArray.toList_eq, ByteArray.toList_eq] at h
  exact ba_ext h
theorem text_ne {s t : ByteArray} (h : (s.toList == t.toList) = false) : s ≠ t := by
  intro e
  subst e
  simp at h
set_option maxRecDepth 10000 in
set_option maxHeartbeats 2000000 in
theorem l26Ok_any (A : Option Addr) (c : Nat) (l : List Ware) (w : World) (h : WSee w A l) (hn : l.length ≤ 100000000) (hf : ∀ i, i < l.length → (wat l i).name.size ≤ 100000000 ∧ (wat l i).brs.length ≤ 100000000) :
    Calls Try.prog 57 #[.slice A l.length c] w fun e w' => e = .returned (.bool (vWares l)) ∧ UpOf w w' := by
  have HF := Lib.hid hf
  clear hf
  go_enter Try.func57, Try.ntmps57
  go_wp2_with (first | ((with_reducible refine wp_region_up (by kernel_rfl) (by kernel_rfl) ?_); (repeat (go_big_quiet_step (fail))); refine wpQuiet_nil ?_; intro _ hw'; obtain ⟨nq, hw''⟩ := hw'; subst hw''))
  go_loopw [3] (fun i wr => ∃ k : Nat, k ≤ l.length ∧ i = i64 k ∧ Hid (∀ j, j < k → okW l j = true) ∧ ∃ g : Up w, wr = up w g) (fun i _ => l.length - (intOf i).toNat)
  case atStart => exact ⟨0, by omega, rfl, fun i hi => by omega, ex_up (by repeat (first | exact Below.refl _ _ | refine bl_tr ?_ _ | refine bl_al ?_ _ | refine bl_dr ?_ | refine bl_up ?_ _ | refine Below.drew ?_ | refine bl_alloc ?_ _ | refine Below.setCell ?_ (by first | (simp; done) | (simp; omega)) _))⟩
  case round =>
    obtain ⟨k, hk, rfl, hok, g, rfl⟩ := hrel
    by_cases hlt : k < l.length
    · obtain ⟨b, off, rfl, hb, ha⟩ := ware_all h (by omega)
      have HA := Lib.hid ha
      obtain ⟨Ai, ci, c0, c1, r⟩ := ha k hlt
      obtain ⟨f1, f2⟩ := HF.out k hlt
      clear ha
      have hat : Hid (WAt w b (off + k * 2) (wat l k) Ai ci) := ⟨hb, c0, c1, r⟩
      cases b1 : vWare (wat l k)
      · have hf := Lib.hid (vWares_at hlt (okW_no b1))
        go_wp2_with (first | (go_at_call 71; refine (ret_as (l26One_any _ _ _ _ _ _ (hat.out.below (by repeat (first | exact Below.refl _ _ | refine bl_tr ?_ _ | refine bl_al ?_ _ | refine bl_dr ?_ | refine bl_up ?_ _ | refine Below.drew ?_ | refine bl_alloc ?_ _ | refine Below.setCell ?_ (by first | (simp; done) | (simp; omega)) _))) f2 (by omega)) b1).mono ?_; rintro e w' ⟨rfl, g, rfl⟩) | ((with_reducible refine wp_region_up (by kernel_rfl) (by kernel_rfl) ?_); (repeat (go_big_quiet_step (first | (go_at_call 71; first | exact upq_tr (ret_as (l26One_any _ _ _ _ _ _ (hat.out.below (by repeat (first | exact Below.refl _ _ | refine bl_tr ?_ _ | refine bl_al ?_ _ | refine bl_dr ?_ | refine bl_up ?_ _ | refine Below.drew ?_ | refine bl_alloc ?_ _ | refine Below.setCell ?_ (by first | (simp; done) | (simp; omega)) _))) f2 (by omega)) b1) | exact upq (ret_as (l26One_any _ _ _ _ _ _ (hat.out.below (by repeat (first | exact Below.refl _ _ | refine bl_tr ?_ _ | refine bl_al ?_ _ | refine bl_dr ?_ | refine bl_up ?_ _ | refine Below.drew ?_ | refine bl_alloc ?_ _ | refine Below.setCell ?_ (by first | (simp; done) | (simp; omega)) _))) f2 (by omega)) b1))))); refine wpQuiet_nil ?_; intro _ hw'; obtain ⟨nq, hw''⟩ := hw'; subst hw''))
        go_ret
        exact ⟨ret_bool hf.out.symm, UpOf.of (by repeat (first | exact Below.refl _ _ | refine bl_tr ?_ _ | refine bl_al ?_ _ | refine bl_dr ?_ | refine bl_up ?_ _ | refine Below.drew ?_ | refine bl_alloc ?_ _ | refine Below.setCell ?_ (by first | (simp; done) | (simp; omega)) _))⟩
      · go_wp2_with (first | (go_at_call 71; refine (ret_as (l26One_any _ _ _ _ _ _ (hat.out.below (by repeat (first | exact Below.refl _ _ | refine bl_tr ?_ _ | refine bl_al ?_ _ | refine bl_dr ?_ | refine bl_up ?_ _ | refine Below.drew ?_ | refine bl_alloc ?_ _ | refine Below.setCell ?_ (by first | (simp; done) | (simp; omega)) _))) f2 (by omega)) b1).mono ?_; rintro e w' ⟨rfl, g, rfl⟩) | ((with_reducible refine wp_region_up (by kernel_rfl) (by kernel_rfl) ?_); (repeat (go_big_quiet_step (first | (go_at_call 71; first | exact upq_tr (ret_as (l26One_any _ _ _ _ _ _ (hat.out.below (by repeat (first | exact Below.refl _ _ | refine bl_tr ?_ _ | refine bl_al ?_ _ | refine bl_dr ?_ | refine bl_up ?_ _ | refine Below.drew ?_ | refine bl_alloc ?_ _ | refine Below.setCell ?_ (by first | (simp; done) | (simp; omega)) _))) f2 (by omega)) b1) | exact upq (ret_as (l26One_any _ _ _ _ _ _ (hat.out.below (by repeat (first | exact Below.refl _ _ | refine bl_tr ?_ _ | refine bl_al ?_ _ | refine bl_dr ?_ | refine bl_up ?_ _ | refine Below.drew ?_ | refine bl_alloc ?_ _ | refine Below.setCell ?_ (by first | (simp; done) | (simp; omega)) _))) f2 (by omega)) b1))))); refine wpQuiet_nil ?_; intro _ hw'; obtain ⟨nq, hw''⟩ := hw'; subst hw''))
        have hv := Lib.hid b1
        clear b1
        go_loopw [4] (fun i wr => ∃ j : Nat, j ≤ k ∧ i = i64 j ∧ Hid (∀ i, i < j → (wat l i).name ≠ (wat l k).name) ∧ ∃ g : Up w, wr = up w g) (fun i _ => k - (intOf i).toNat)
        case atStart => exact ⟨0, by omega, rfl, fun i hi => by omega, ex_up (by repeat (first | exact Below.refl _ _ | refine bl_tr ?_ _ | refine bl_al ?_ _ | refine bl_dr ?_ | refine bl_up ?_ _ | refine Below.drew ?_ | refine bl_alloc ?_ _ | refine Below.setCell ?_ (by first | (simp; done) | (simp; omega)) _))⟩
        case round =>
          obtain ⟨j, hj, rfl, hne, g', rfl⟩ := hrel
          by_cases hlt2 : j < k
          · obtain ⟨Aj, cj, d0, d1, _⟩ := HA.out j (by omega)
            cases q : ((wat l j).name.toList == (wat l k).name.toList)
            · have hq := Lib.hid (text_ne q)
              go_wp2_with (first | ((with_reducible refine wp_region_up (by kernel_rfl) (by kernel_rfl) ?_); (repeat (go_big_quiet_step (fail))); refine wpQuiet_nil ?_; intro _ hw'; obtain ⟨nq, hw''⟩ := hw'; subst hw''))
              go_roundw
              case rel => have hx := lt_ext (P := fun i => (wat l i).name ≠ (wat l k).name) hne.out hq.out; exact ⟨j + 1, by omega, by go_num, hx, ex_up (by repeat (first | exact Below.refl _ _ | refine bl_tr ?_ _ | refine bl_al ?_ _ | refine bl_dr ?_ | refine bl_up ?_ _ | refine Below.drew ?_ | refine bl_alloc ?_ _ | refine Below.setCell ?_ (by first | (simp; done) | (simp; omega)) _))⟩
              case measure => (simp [intOf]; try omega)
            · have hf := Lib.hid (vWares_at hlt (okW_name hlt2 (text_eq q)))
              go_wp2_with (first | ((with_reducible refine wp_region_up (by kernel_rfl) (by kernel_rfl) ?_); (repeat (go_big_quiet_step (fail))); refine wpQuiet_nil ?_; intro _ hw'; obtain ⟨nq, hw''⟩ := hw'; subst hw''))
              go_ret
              exact ⟨ret_bool hf.out.symm, UpOf.of (by repeat (first | exact Below.refl _ _ | refine bl_tr ?_ _ | refine bl_al ?_ _ | refine bl_dr ?_ | refine bl_up ?_ _ | refine Below.drew ?_ | refine bl_alloc ?_ _ | refine Below.setCell ?_ (by first | (simp; done) | (simp; omega)) _))⟩
          · obtain rfl : j = k := by omega
            have hq := Lib.hid (okW_true hv.out hne.out)
            go_wp2_with (first | ((with_reducible refine wp_region_up (by kernel_rfl) (by kernel_rfl) ?_); (repeat (go_big_quiet_step (fail))); refine wpQuiet_nil ?_; intro _ hw'; obtain ⟨nq, hw''⟩ := hw'; subst hw''))
            go_roundw
            case rel => have hx := lt_ext (P := fun j => okW l j = true) hok.out hq.out; exact ⟨j + 1, by omega, by go_num, hx, ex_up (by repeat (first | exact Below.refl _ _ | refine bl_tr ?_ _ | refine bl_al ?_ _ | refine bl_dr ?_ | refine bl_up ?_ _ | refine Below.drew ?_ | refine bl_alloc ?_ _ | refine Below.setCell ?_ (by first | (simp; done) | (simp; omega)) _))⟩
            case measure => (simp [intOf]; try omega)
    · obtain rfl : k = l.length := by omega
      by_cases q : l.length ≤ 30
      · have hf := Lib.hid (vWares_true q hok.out)
        go_wp2_with (first | ((with_reducible refine wp_region_up (by kernel_rfl) (by kernel_rfl) ?_); (repeat (go_big_quiet_step (fail))); refine wpQuiet_nil ?_; intro _ hw'; obtain ⟨nq, hw''⟩ := hw'; subst hw''))
        go_ret
        exact ⟨ret_bool (by rw [hf.out]; exact decide_eq_true (by omega)), UpOf.of (by repeat (first | exact Below.refl _ _ | refine bl_tr ?_ _ | refine bl_al ?_ _ | refine bl_dr ?_ | refine bl_up ?_ _ | refine Below.drew ?_ | refine bl_alloc ?_ _ | refine Below.setCell ?_ (by first | (simp; done) | (simp; omega)) _))⟩
      · have hf := Lib.hid (vWares_len (l := l) (by omega))
        have q' : decide (l.length ≤ 30) = false := decide_eq_false q
        go_wp2_with (first | ((with_reducible refine wp_region_up (by kernel_rfl) (by kernel_rfl) ?_); (repeat (go_big_quiet_step (fail))); refine wpQuiet_nil ?_; intro _ hw'; obtain ⟨nq, hw''⟩ := hw'; subst hw''))
        go_ret
        exact ⟨ret_bool (by rw [hf.out]; exact decide_eq_false (by omega)), UpOf.of (by repeat (first | exact Below.refl _ _ | refine bl_tr ?_ _ | refine bl_al ?_ _ | refine bl_dr ?_ | refine bl_up ?_ _ | refine Below.drew ?_ | refine bl_alloc ?_ _ | refine Below.setCell ?_ (by first | (simp; done) | (simp; omega)) _))⟩
end Go.Proofs.Ytiibpldfnnhhlaa

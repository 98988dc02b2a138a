/-
  Whether the defect is found; answers with one more: the program's and the reference's. The bounds stand at each.
-/
import Derived.Test.YtfggbcmpgkhlaaaTest2
import Derived.Test.YtfggbcmpgkhlaaaTest1S
import Derived.Laws.IdiomStrings
namespace Go.Proofs.Ytfggbcmpgkhlaaa
open Go.RowKit
set_option maxRecDepth 10000 in
set_option maxHeartbeats 2000000 in
theorem isFound_any (A : Option Addr) (c : Nat) (l : List Defect) (s : ByteArray) (w : World) (h : Rds w 3 A l.length (dfcs l)) (hn : l.length ≤ 100000000) (hs : s.size ≤ 100000000) (hz : sizesOf l s.size) :
    Calls Try.prog 42 #[.slice A l.length c, .string s] w fun e w' => e = .returned (.bool (foundB l s)) ∧ UpOf w w' := by
  go_enter Try.func42, Try.ntmps42
  go_wp2_with fail
  refine (fittingI_any _ _ _ _ _ h hn hs hz).mono ?_
  rintro e w' ⟨A', c', rfl, o, g, rfl⟩
  have ho := Rds.of_own o
  have h' := h.below (up_below w g)
  have HB := Lib.hid (up_below w g)
  have hfl := fitL_len l s
  clear h o
  revert ho h' HB
  generalize up w g = W
  intro ho h HB
  go_wp2_with (first | ((with_reducible refine wp_region_up (by kernel_rfl) (by kernel_rfl) ?_); (repeat (go_big_quiet_step (fail))); refine wpQuiet_nil ?_; intro _ hw'; obtain ⟨nq, hw''⟩ := hw'; subst hw''))
  go_loopw [13] (fun i wr => ∃ k : Nat, k ≤ (fitL l s).length ∧ i = i64 k ∧ Hid (∀ j, j < k → sgn l s j = sgn l s 0) ∧ ∃ g : Up W, wr = up W g) (fun i _ => (fitL l s).length - (intOf i).toNat)
  case atStart => exact ⟨0, by omega, rfl, fun j hj => by omega, ex_up (by repeat (first | exact Below.refl _ _ | refine bl_tr ?_ _ | refine bl_al ?_ _ | refine bl_dr ?_ | refine bl_up ?_ _ | refine Below.drew ?_ | refine bl_alloc ?_ _ | refine Below.setCell ?_ (by first | (simp; done) | (simp; omega)) _))⟩
  case round =>
    obtain ⟨k, hk, rfl, hok, g', rfl⟩ := hrel
    by_cases hlt : k < (fitL l s).length
    · obtain ⟨b1, off1, rfl, hb1, hc1⟩ := num_at ho hlt
      have e0 := hc1 0 (by omega)
      have ek := hc1 k hlt
      clear hc1
      obtain ⟨p1, p2, _⟩ := fitL_at hlt
      obtain ⟨p3, p4, _⟩ := fitL_at (l := l) (s := s) (k := 0) (by omega)
      obtain ⟨u, hu⟩ : ∃ u : Nat, num (fitL l s) k = (u : Int) := ⟨_, (Int.toNat_of_nonneg p1).symm⟩
      obtain ⟨v, hv⟩ : ∃ v : Nat, num (fitL l s) 0 = (v : Int) := ⟨_, (Int.toNat_of_nonneg p3).symm⟩
      have hku := Lib.hid (show sgn l s k = (dat l u).signs by rw [sgn, hu]; rfl)
      have hkv := Lib.hid (show sgn l s 0 = (dat l v).signs by rw [sgn, hv]; rfl)
      rw [hu] at ek p2
      rw [hv] at e0 p4
      rw [Nat.add_zero] at e0
      obtain ⟨b, off, rfl, hb, ha⟩ := def_all h (k := u) (by omega)
      obtain ⟨_, _, _, c2⟩ := ha u (by omega)
      obtain ⟨_, _, _, d2⟩ := ha v (by omega)
      clear ha p1 p3 hu hv
      cases q : ((dat l u).signs.toList == (dat l v).signs.toList)
      rotate_left
      · have hq := Lib.hid (show sgn l s k = sgn l s 0 by rw [hku.out, hkv.out]; exact text_eq q)
        go_wp2_with (first | ((with_reducible refine wp_region_up (by kernel_rfl) (by kernel_rfl) ?_); (repeat (go_big_quiet_step (fail))); refine wpQuiet_nil ?_; intro _ hw'; obtain ⟨nq, hw''⟩ := hw'; subst hw''))
        go_roundw
        case rel => have hx := lt_ext (P := fun j => sgn l s j = sgn l s 0) hok.out hq.out; exact ⟨k + 1, by omega, by go_num, hx, ex_up (by repeat (first | exact Below.refl _ _ | refine bl_tr ?_ _ | refine bl_al ?_ _ | refine bl_dr ?_ | refine bl_up ?_ _ | refine Below.drew ?_ | refine bl_alloc ?_ _ | refine Below.setCell ?_ (by first | (simp; done) | (simp; omega)) _))⟩
        case measure => (simp [intOf]; try omega)
      · have hf := Lib.hid (foundB_at hlt (show sgn l s k ≠ sgn l s 0 by rw [hku.out, hkv.out]; exact text_ne q))
        go_wp2_with (first | ((with_reducible refine wp_region_up (by kernel_rfl) (by kernel_rfl) ?_); (repeat (go_big_quiet_step (fail))); refine wpQuiet_nil ?_; intro _ hw'; obtain ⟨nq, hw''⟩ := hw'; subst hw''))
        go_ret
        exact ⟨ret_bool hf.out.symm, UpOf.of (HB.out.trans (Below.mono (by repeat (first | exact Below.refl _ _ | refine bl_tr ?_ _ | refine bl_al ?_ _ | refine bl_dr ?_ | refine bl_up ?_ _ | refine Below.drew ?_ | refine bl_alloc ?_ _ | refine Below.setCell ?_ (by first | (simp; done) | (simp; omega)) _)) HB.out.size))⟩
    · obtain rfl : k = (fitL l s).length := by omega
      have hf := Lib.hid (foundB_true hok.out)
      go_wp2_with (first | ((with_reducible refine wp_region_up (by kernel_rfl) (by kernel_rfl) ?_); (repeat (go_big_quiet_step (fail))); refine wpQuiet_nil ?_; intro _ hw'; obtain ⟨nq, hw''⟩ := hw'; subst hw''))
      go_ret
      exact ⟨ret_bool hf.out.symm, UpOf.of (HB.out.trans (Below.mono (by repeat (first | exact Below.refl _ _ | refine bl_tr ?_ _ | refine bl_al ?_ _ | refine bl_dr ?_ | refine bl_up ?_ _ | refine Below.drew ?_ | refine bl_alloc ?_ _ | refine Below.setCell ?_ (by first | (simp; done) | (simp; omega)) _)) HB.out.size))⟩
set_option maxRecDepth 10000 in
set_option maxHeartbeats 2000000 in
theorem l23Found_any (A : Option Addr) (c : Nat) (l : List Defect) (s : ByteArray) (w : World) (h : Rds w 3 A l.length (dfcs l)) (hn : l.length ≤ 100000000) (hs : s.size ≤ 100000000) (hz : sizesOf l s.size) :
    Calls Try.prog 64 #[.slice A l.length c, .string s] w fun e w' => e = .returned (.bool (foundB l s)) ∧ UpOf w w' := by
  go_enter Try.func64, Try.ntmps64
  go_wp2_with fail
  refine (l23Fit_any _ _ _ _ _ h hn hs hz).mono ?_
  rintro e w' ⟨A', c', rfl, o, g, rfl⟩
  have ho := Rds.of_own o
  have h' := h.below (up_below w g)
  have HB := Lib.hid (up_below w g)
  have hfl := fitL_len l s
  clear h o
  revert ho h' HB
  generalize up w g = W
  intro ho h HB
  go_wp2_with (first | ((with_reducible refine wp_region_up (by kernel_rfl) (by kernel_rfl) ?_); (repeat (go_big_quiet_step (fail))); refine wpQuiet_nil ?_; intro _ hw'; obtain ⟨nq, hw''⟩ := hw'; subst hw''))
  go_loopw [6] (fun i wr => ∃ k : Nat, 1 ≤ k ∧ (k ≤ (fitL l s).length ∨ k = 1) ∧ i = i64 k ∧ Hid (∀ j, j < k → sgn l s j = sgn l s 0) ∧ ∃ g : Up W, wr = up W g) (fun i _ => (fitL l s).length - (intOf i).toNat)
  case atStart => exact ⟨1, by omega, .inr rfl, rfl, fun j hj => by obtain rfl : j = 0 := by omega
                                                                    rfl, ex_up (by repeat (first | exact Below.refl _ _ | refine bl_tr ?_ _ | refine bl_al ?_ _ | refine bl_dr ?_ | refine bl_up ?_ _ | refine Below.drew ?_ | refine bl_alloc ?_ _ | refine Below.setCell ?_ (by first | (simp; done) | (simp; omega)) _))⟩
  case round =>
    obtain ⟨k, hk1, hk, rfl, hok, g', rfl⟩ := hrel
    by_cases hlt : k < (fitL l s).length
    · obtain ⟨b1, off1, rfl, hb1, hc1⟩ := num_at ho hlt
      have e0 := hc1 0 (by omega)
      have ek := hc1 k hlt
      clear hc1
      obtain ⟨p1, p2, _⟩ := fitL_at hlt
      obtain ⟨p3, p4, _⟩ := fitL_at (l := l) (s := s) (k := 0) (by omega)
      obtain ⟨u, hu⟩ : ∃ u : Nat, num (fitL l s) k = (u : Int) := ⟨_, (Int.toNat_of_nonneg p1).symm⟩
      obtain ⟨v, hv⟩ : ∃ v : Nat, num (fitL l s) 0 = (v : Int) := ⟨_, (Int.toNat_of_nonneg p3).symm⟩
      have hku := Lib.hid (show sgn l s k = (dat l u).signs by rw [sgn, hu]; rfl)
      have hkv := Lib.hid (show sgn l s 0 = (dat l v).signs by rw [sgn, hv]; rfl)
      rw [hu] at ek p2
      rw [hv] at e0 p4
      rw [Nat.add_zero] at e0
      obtain ⟨b, off, rfl, hb, ha⟩ := def_all h (k := u) (by omega)
      obtain ⟨_, _, _, c2⟩ := ha u (by omega)
      obtain ⟨_, _, _, d2⟩ := ha v (by omega)
      clear ha p1 p3 hu hv
      cases q : ((dat l u).signs.toList == (dat l v).signs.toList)
      rotate_left
      · have hq := Lib.hid (show sgn l s k = sgn l s 0 by rw [hku.out, hkv.out]; exact text_eq q)
        go_wp2_with (first | ((with_reducible refine wp_region_up (by kernel_rfl) (by kernel_rfl) ?_); (repeat (go_big_quiet_step (fail))); refine wpQuiet_nil ?_; intro _ hw'; obtain ⟨nq, hw''⟩ := hw'; subst hw''))
        go_roundw
        case rel => have hx := lt_ext (P := fun j => sgn l s j = sgn l s 0) hok.out hq.out; exact ⟨k + 1, by omega, by omega, by go_num, hx, ex_up (by repeat (first | exact Below.refl _ _ | refine bl_tr ?_ _ | refine bl_al ?_ _ | refine bl_dr ?_ | refine bl_up ?_ _ | refine Below.drew ?_ | refine bl_alloc ?_ _ | refine Below.setCell ?_ (by first | (simp; done) | (simp; omega)) _))⟩
        case measure => (simp [intOf]; try omega)
      · have hf := Lib.hid (foundB_at hlt (show sgn l s k ≠ sgn l s 0 by rw [hku.out, hkv.out]; exact text_ne q))
        go_wp2_with (first | ((with_reducible refine wp_region_up (by kernel_rfl) (by kernel_rfl) ?_); (repeat (go_big_quiet_step (fail))); refine wpQuiet_nil ?_; intro _ hw'; obtain ⟨nq, hw''⟩ := hw'; subst hw''))
        go_ret
        exact ⟨ret_bool hf.out.symm, UpOf.of (HB.out.trans (Below.mono (by repeat (first | exact Below.refl _ _ | refine bl_tr ?_ _ | refine bl_al ?_ _ | refine bl_dr ?_ | refine bl_up ?_ _ | refine Below.drew ?_ | refine bl_alloc ?_ _ | refine Below.setCell ?_ (by first | (simp; done) | (simp; omega)) _)) HB.out.size))⟩
    · have hf := Lib.hid (foundB_true (l := l) (s := s) fun j hj => hok.out j (by omega))
      go_wp2_with (first | ((with_reducible refine wp_region_up (by kernel_rfl) (by kernel_rfl) ?_); (repeat (go_big_quiet_step (fail))); refine wpQuiet_nil ?_; intro _ hw'; obtain ⟨nq, hw''⟩ := hw'; subst hw''))
      go_ret
      exact ⟨ret_bool hf.out.symm, UpOf.of (HB.out.trans (Below.mono (by repeat (first | exact Below.refl _ _ | refine bl_tr ?_ _ | refine bl_al ?_ _ | refine bl_dr ?_ | refine bl_up ?_ _ | refine Below.drew ?_ | refine bl_alloc ?_ _ | refine Below.setCell ?_ (by first | (simp; done) | (simp; omega)) _)) HB.out.size))⟩
/-- block b holds the bytes l, which may be written -/
def BufAt (w : World) (b : Nat) (l : List UInt8) : Prop := ∃ cs fz, w.heap[b]? = some (.cells cs 5 fz) ∧ (∀ j (hj : j < l.length), cs[j]? = some (.int .u8 (l[j].toNat : Int))) ∧ l.length ≤ fz.1
theorem BufAt.cell {w : World} {b : Nat} {l : List UInt8} (h : BufAt w b l) (j : Nat) (hj : j < l.length) : w.cell? ⟨b, j, none⟩ = some (.int .u8 (l[j].toNat : Int)) := by
  obtain ⟨cs, fz, h1, h2, _⟩ := h
  simp only [World.cell?, h1]
  exact h2 j hj
theorem BufAt.free {w : World} {b : Nat} {l : List UInt8} (h : BufAt w b l) (j : Nat) (hj : j < l.length) : w.frozen? ⟨b, j, none⟩ = false := by
  obtain ⟨cs, fz, h1, _, h3⟩ := h
  simp only [World.frozen?, h1]
  simp
  omega
theorem conv_buf (w : World) (s : ByteArray) : ∃ cap W2, (convert 9 22 (.string s)).run Try.prog w = .ok (.slice (some ⟨w.heap.size, 0, none⟩) s.size cap) W2 ∧ BufAt W2 w.heap.size s.data.toList ∧ Below w.heap.size w W2 := by
  refine ⟨_, _, run_bytes_of_string w 9 22 5 s Try.underlying9 Try.underlying22 Try.underlying5, ⟨_, _, heap_alloc_new w.drew _, fun j hj => ?_, ?_⟩, ((Below.refl w.heap.size w).drew).alloc (Nat.le_refl _) _⟩
  · have hj' : j < s.data.size := hj
    rw [bytesRow_at s (grownCap w s.size 0 5) j hj']
    simp
  · show s.data.size ≤ (bytesRow s (grownCap w s.size 0 5)).size
    simp [bytesRow]
theorem conv_back (w : World) (b cap : Nat) (s : ByteArray) (h : BufAt w b s.data.toList) : (convert 22 9 (.slice (some ⟨b, 0, none⟩) s.size cap)).run Try.prog w = .ok (.string s) w := by
  have := run_convert_bytes_back w 22 9 5 ⟨b, 0, none⟩ cap s.data.toList Try.underlying22 Try.underlying5 Try.underlying9 (fun j hj => by
    have hadd : (⟨b, 0, none⟩ : Addr).add j = ⟨b, j, none⟩ := by unfold Addr.add; split <;> simp_all
    rw [hadd]
    exact h.cell j hj)
  simpa using this
theorem BufAt.put {w : World} {b : Nat} {s : ByteArray} (h : BufAt w b s.data.toList) (t : Nat) (c : UInt8) : BufAt (w.setCell ⟨b, t, none⟩ (.int .u8 (c.toNat : Int))) b (Go.Proofs.Ytfggbcmpgkhlaaa.put s t c).data.toList := by
  have hl : (Go.Proofs.Ytfggbcmpgkhlaaa.put s t c).data.toList = s.data.toList.set t c := by simp [Go.Proofs.Ytfggbcmpgkhlaaa.put]
  rw [hl]
  obtain ⟨cs, fz, h1, h2, h3⟩ := h
  refine ⟨cs.setIfInBounds t (.int .u8 (c.toNat : Int)), fz, ?_, fun j hj => ?_, by rw [List.length_set]; exact h3⟩
  · simp [World.setCell, Array.getElem?_modify, h1]
  · rw [List.length_set] at hj
    have hc := h2 j hj
    by_cases e : t = j
    · subst e
      have : t < cs.size := (Array.getElem?_eq_some_iff.1 hc).1
      rw [Array.getElem?_setIfInBounds_self_of_lt this, List.getElem_set_self]
    · rw [Array.getElem?_setIfInBounds_ne e, List.getElem_set_ne e]
      exact hc
set_option maxRecDepth 10000 in
theorem answered_any (s : ByteArray) (t : Nat) (c : UInt8) (w : World) (ht : t < s.size) :
    Calls Try.prog 44 #[.string s, i64 t, .int .u8 c.toNat] w fun e w' => e = .returned (.string (put s t c)) ∧ UpOf w w' := by
  obtain ⟨cap, W2, hcv, hbuf, hbel⟩ := conv_buf w s
  have ht' : t < s.data.toList.length := ht
  obtain ⟨x0, c0⟩ : ∃ x0, W2.cell? ⟨w.heap.size, t, none⟩ = some x0 := ⟨_, hbuf.cell t ht'⟩
  have f0 := hbuf.free t ht'
  have hcb := conv_back _ _ cap _ (hbuf.put t c)
  rw [put_size] at hcb
  have HB := Lib.hid hbel
  clear hbuf hbel ht'
  go_enter Try.func44, Try.ntmps44
  go_wp2_with (first | ((with_reducible refine wp_region_up (by kernel_rfl) (by kernel_rfl) ?_); (repeat (go_big_quiet_step (fail))); refine wpQuiet_nil ?_; intro _ hw'; obtain ⟨nq, hw''⟩ := hw'; subst hw''))
  go_ret
  exact ⟨rfl, UpOf.of (HB.out.setCell (Nat.le_refl _) _)⟩
theorem with_eq (s : ByteArray) (t : Nat) (c : UInt8) (ht : t < s.size) : s.extract 0 t ++ ⟨#[c]⟩ ++ s.extract (t + 1) s.size = put s t c := by
  apply ba_ext
  have ht' : t < s.data.toList.length := ht
  have hl : (put s t c).data.toList = s.data.toList.set t c := by simp [put]
  rw [hl, List.set_eq_take_append_cons_drop, if_pos ht']
  have e1 : (s.data.extract 0 t).toList = s.data.toList.take t := by simp [List.extract_eq_take_drop]
  have e2 : (s.data.extract (t + 1) s.size).toList = s.data.toList.drop (t + 1) := by
    simp only [Array.toList_extract, List.extract_eq_take_drop]
    rw [List.take_of_length_le (by rw [List.length_drop, bsz]; exact Nat.le_refl _)]
  simp only [ByteArray.data_append, ByteArray.data_extract, Array.toList_append, e1, e2]
  simp
set_option maxRecDepth 10000 in
theorem l23With_any (s : ByteArray) (t : Nat) (c : UInt8) (w : World) (hs : s.size ≤ 100000000) (ht : t < s.size) :
    Calls Try.prog 65 #[.string s, i64 t, .string ⟨#[c]⟩] w fun e w' => e = .returned (.string (put s t c)) ∧ UpOf w w' := by
  go_enter Try.func65, Try.ntmps65
  go_wp2_with (first | ((with_reducible refine wp_region_up (by kernel_rfl) (by kernel_rfl) ?_); (repeat (go_big_quiet_step (fail))); refine wpQuiet_nil ?_; intro _ hw'; obtain ⟨nq, hw''⟩ := hw'; subst hw''))
  go_ret
  rw [with_eq s t c ht]
  exact ⟨rfl, UpOf.of (by repeat (first | exact Below.refl _ _ | refine bl_tr ?_ _ | refine bl_al ?_ _ | refine bl_dr ?_ | refine bl_up ?_ _ | refine Below.drew ?_ | refine bl_alloc ?_ _ | refine Below.setCell ?_ (by first | (simp; done) | (simp; omega)) _))⟩
end Go.Proofs.Ytfggbcmpgkhlaaa

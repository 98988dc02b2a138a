/-
  The reference's reading of a log: the last day, a line's text. The bounds stand at each.
-/
import Derived.Test.YtbianlkenallaaaDoorLogI
import Derived.Test.YtbianlkenallaaaDoorNumS
import Derived.Test.YtbianlkenallaaaDoorSplitS
namespace Go.Proofs.YtbianlkenallaaaDoor
open Go.RowKit
/-- block rb holds the reference's reading of a log -/
def LS (base : Nat) (w : World) (rb : Nat) (s : ByteArray) (l : List Entry) (st : Int) (sz : Nat) : Prop :=
  ∃ A c, Blk w rb 75 #[.string s, i64 sz, i64 st, .slice A l.length c] ∧ base ≤ rb ∧ w.ownsRow base 102 3 (.slice A l.length c) l.length (encs l) ∧ ((Value.slice A l.length c).ownBlock = none ∨ (Value.slice A l.length c).ownBlock ≠ some rb)
theorem LS.below {base rb sz : Nat} {w w' : World} {s : ByteArray} {l : List Entry} {st : Int} (h : LS base w rb s l st sz) (hb : Below w.heap.size w w') : LS base w' rb s l st sz := by
  obtain ⟨A, c, h1, h2, h3, h4⟩ := h
  exact ⟨A, c, (hb.block rb h1.lt).trans h1, h2, own_below h3 hb, h4⟩
theorem LS.lt {base rb sz : Nat} {w : World} {s : ByteArray} {l : List Entry} {st : Int} (h : LS base w rb s l st sz) : base ≤ rb ∧ rb < w.heap.size := by
  obtain ⟨A, c, h1, h2, h3, h4⟩ := h
  exact ⟨h2, h1.lt⟩
theorem LS.cells {base rb sz : Nat} {w : World} {s : ByteArray} {l : List Entry} {st : Int} (h : LS base w rb s l st sz) :
    w.cell? ⟨rb, 0, none⟩ = some (.string s) ∧ w.cell? ⟨rb, 1, none⟩ = some (i64 sz) ∧ w.cell? ⟨rb, 2, none⟩ = some (i64 st) := by
  obtain ⟨A, c, h1, h2, h3, h4⟩ := h
  exact ⟨h1.cell 0, h1.cell 1, h1.cell 2⟩
set_option maxRecDepth 10000 in
set_option maxHeartbeats 1000000 in
theorem dayS_any (base rb sz : Nat) (s : ByteArray) (l : List Entry) (st : Int) (w : World) (h : LS base w rb s l st sz) (hn : l.length ≤ 1000000000) :
    Calls Tryd.prog 62 #[.pointer (some ⟨rb, 0, none⟩)] w fun e w' => e = .returned (i64 (dayL l)) ∧ UpOf w w' := by
  obtain ⟨A, c, h1, h2, h3, h4⟩ := h
  have c0 := h1.cell 3
  have hlt := h1.lt
  simp only [List.getElem?_toArray, List.getElem?_cons_zero, List.getElem?_cons_succ] at c0
  obtain ⟨D, hD⟩ : ∃ D, dayL l = D := ⟨_, rfl⟩
  rw [hD]
  rcases Nat.eq_zero_or_pos l.length with h0 | h0
  · have z : ((l.length : Int) == 0) = true := by rw [beq_iff_eq]; omega
    obtain rfl : D = 0 := by rw [← hD, dayL, if_pos h0]
    clear hD h1 h2 h3 h4
    go_enter Tryd.func62, Tryd.ntmps62
    go_wp2_with (first | ((with_reducible refine wp_region_up (by kernel_rfl) (by kernel_rfl) ?_); (repeat (go_big_quiet_step (fail))); refine wpQuiet_nil ?_; intro _ hw'; obtain ⟨nq, hw''⟩ := hw'; subst hw''))
    go_ret
    exact ⟨rfl, UpOf.of (by repeat (first | exact Below.refl _ _ | refine bl_tr ?_ _ | refine bl_al ?_ _ | refine bl_dr ?_ | refine bl_up ?_ _ | refine Below.drew ?_ | refine bl_alloc ?_ _ | refine Below.setCell ?_ (by first | (simp; done) | (simp; omega)) _))⟩
  · obtain ⟨n, hn1⟩ : ∃ n, l.length = n + 1 := ⟨l.length - 1, by omega⟩
    obtain ⟨b, off, rfl, hb, cd⟩ := en_last (Rds.of_own h3) hn1
    rw [hD] at cd
    rw [hn1] at c0 hn
    have z : (((n + 1 : Nat) : Int) == 0) = false := by rw [beq_eq_false_iff_ne]; omega
    clear hD h1 h2 h3 h4 h0 hn1
    go_enter Tryd.func62, Tryd.ntmps62
    go_wp2_with (first | ((with_reducible refine wp_region_up (by kernel_rfl) (by kernel_rfl) ?_); (repeat (go_big_quiet_step (fail))); refine wpQuiet_nil ?_; intro _ hw'; obtain ⟨nq, hw''⟩ := hw'; subst hw''))
    go_ret
    exact ⟨rfl, UpOf.of (by repeat (first | exact Below.refl _ _ | refine bl_tr ?_ _ | refine bl_al ?_ _ | refine bl_dr ?_ | refine bl_up ?_ _ | refine Below.drew ?_ | refine bl_alloc ?_ _ | refine Below.setCell ?_ (by first | (simp; done) | (simp; omega)) _))⟩
set_option maxRecDepth 10000 in
set_option maxHeartbeats 1000000 in
theorem l27Line_any (x : Entry) (hv : vEntry x = true) (st : Int) (h0 : 0 ≤ st) (h1 : st < 65519) (b o : Nat) (w : World) (h : EAt w b o x) :
    Calls Tryd.prog 65 #[i64 st, .pointer (some ⟨b, o, none⟩)] w fun e w' => e = .returned (.string (lineP x st ++ ⟨#[10]⟩)) ∧ UpOf w w' := by
  have hz1 := ewords_len hv
  have hz2 := dec_len (n := st) (by omega) (by omega)
  have hz3 := lineP_len hv h0 h1
  have z1 : (⟨#[32]⟩ : ByteArray).size = 1 := rfl
  have z2 : (⟨#[10]⟩ : ByteArray).size = 1 := rfl
  have e1 : ∀ w, (Op.stringOp .add (ewords x) (⟨#[32]⟩ : ByteArray)).run Tryd.prog w = .ok (.string (ewords x ++ ⟨#[32]⟩)) w := fun w => run_string_add_sum w _ _ (by omega)
  have e2 : ∀ w, (Op.stringOp .add (ewords x ++ ⟨#[32]⟩) (dec st)).run Tryd.prog w = .ok (.string (lineP x st)) w := fun w => run_string_add_sum w _ _ (by simp only [ByteArray.size_append]; omega)
  have e3 : ∀ w, (Op.stringOp .add (lineP x st) (⟨#[10]⟩ : ByteArray)).run Tryd.prog w = .ok (.string (lineP x st ++ ⟨#[10]⟩)) w := fun w => run_string_add_sum w _ _ (by omega)
  clear hz1 hz2 hz3 z1 z2
  go_enter Tryd.func65, Tryd.ntmps65
  go_wp2_with (first | (go_at_call 64; refine (l27Words_any x hv _ _ _ (h.below (by repeat (first | exact Below.refl _ _ | refine bl_tr ?_ _ | refine bl_al ?_ _ | refine bl_dr ?_ | refine bl_up ?_ _ | refine Below.drew ?_ | refine bl_alloc ?_ _ | refine Below.setCell ?_ (by first | (simp; done) | (simp; omega)) _)))).mono ?_; rintro e w' ⟨rfl, g, rfl⟩) | (go_at_call 37; refine (l01Dec_any _ _ (by omega) (by omega)).mono ?_; rintro e w' ⟨rfl, g, rfl⟩) | ((with_reducible refine wp_region_up (by kernel_rfl) (by kernel_rfl) ?_); (repeat (go_big_quiet_step (first | (go_at_call 64; first | exact upq_tr (l27Words_any x hv _ _ _ (h.below (by repeat (first | exact Below.refl _ _ | refine bl_tr ?_ _ | refine bl_al ?_ _ | refine bl_dr ?_ | refine bl_up ?_ _ | refine Below.drew ?_ | refine bl_alloc ?_ _ | refine Below.setCell ?_ (by first | (simp; done) | (simp; omega)) _)))) | exact upq (l27Words_any x hv _ _ _ (h.below (by repeat (first | exact Below.refl _ _ | refine bl_tr ?_ _ | refine bl_al ?_ _ | refine bl_dr ?_ | refine bl_up ?_ _ | refine Below.drew ?_ | refine bl_alloc ?_ _ | refine Below.setCell ?_ (by first | (simp; done) | (simp; omega)) _))))) | (go_at_call 37; first | exact upq_tr (l01Dec_any _ _ (by omega) (by omega)) | exact upq (l01Dec_any _ _ (by omega) (by omega)))))); refine wpQuiet_nil ?_; intro _ hw'; obtain ⟨nq, hw''⟩ := hw'; subst hw''))
  go_ret
  exact ⟨rfl, UpOf.of (by repeat (first | exact Below.refl _ _ | refine bl_tr ?_ _ | refine bl_al ?_ _ | refine bl_dr ?_ | refine bl_up ?_ _ | refine Below.drew ?_ | refine bl_alloc ?_ _ | refine Below.setCell ?_ (by first | (simp; done) | (simp; omega)) _))⟩
end Go.Proofs.YtbianlkenallaaaDoor

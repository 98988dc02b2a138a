/-
  The program's reading of a log, line by line. The bounds stand at each; it leans on the laid table.
-/
import Derived.Test.YtbianlkenallaaaDoorStamp
import Derived.Test.YtbianlkenallaaaDoorEncs
import Derived.Test.YtbianlkenallaaaDoorAppAt
import Derived.Test.YtbianlkenallaaaDoorNumI
import Derived.Test.YtbianlkenallaaaDoorWordsI
namespace Go.Proofs.YtbianlkenallaaaDoor
open Go.RowKit
/-- block rb holds the reading of a log -/
def LI (base : Nat) (w : World) (rb : Nat) (l : List Entry) (st : Int) (sz : Nat) : Prop :=
  ∃ A c, Blk w rb 71 #[.slice A l.length c, i64 st, i64 sz] ∧ base ≤ rb ∧ w.ownsRow base 102 3 (.slice A l.length c) l.length (encs l) ∧ ((Value.slice A l.length c).ownBlock = none ∨ (Value.slice A l.length c).ownBlock ≠ some rb)
theorem LI.below {base rb sz : Nat} {w w' : World} {l : List Entry} {st : Int} (h : LI base w rb l st sz) (hb : Below w.heap.size w w') : LI base w' rb l st sz := by
  obtain ⟨A, c, h1, h2, h3, h4⟩ := h
  exact ⟨A, c, (hb.block rb h1.lt).trans h1, h2, own_below h3 hb, h4⟩
theorem LI.lt {base rb sz : Nat} {w : World} {l : List Entry} {st : Int} (h : LI base w rb l st sz) : base ≤ rb ∧ rb < w.heap.size := by
  obtain ⟨A, c, h1, h2, h3, h4⟩ := h
  exact ⟨h2, h1.lt⟩
theorem en_last {w : World} {A : Option Addr} {l : List Entry} {n : Nat} (h : Rds w 3 A l.length (encs l)) (hn : l.length = n + 1) :
    ∃ b off, A = some ⟨b, off, none⟩ ∧ b < w.heap.size ∧ w.cell? ⟨b, off + n * 3, none⟩ = some (i64 (dayL l)) := by
  obtain ⟨b, off, e, hb, c, _⟩ := en_at h (k := n) (by omega)
  refine ⟨b, off, e, hb, ?_⟩
  have e2 : l.getD n ⟨0, ByteArray.empty, 0⟩ = l[n] := by rw [List.getD_eq_getElem?_getD, List.getElem?_eq_getElem (by omega)]; rfl
  rw [dayL, if_neg (by omega), c, eat, show l.length - 1 = n by omega, e2]
set_option maxRecDepth 10000 in
set_option maxHeartbeats 1000000 in
theorem dayI_any (base rb sz : Nat) (l : List Entry) (st : Int) (w : World) (h : LI base w rb l st sz) (hn : l.length ≤ 1000000000) :
    Calls Tryd.prog 71 #[.pointer (some ⟨rb, 0, none⟩)] w fun e w' => e = .returned (i64 (dayL l)) ∧ UpOf w w' := by
  obtain ⟨A, c, h1, h2, h3, h4⟩ := h
  have c0 := h1.cell 0
  have hlt := h1.lt
  simp only [List.getElem?_toArray, List.getElem?_cons_zero] at c0
  obtain ⟨D, hD⟩ : ∃ D, dayL l = D := ⟨_, rfl⟩
  rw [hD]
  rcases Nat.eq_zero_or_pos l.length with h0 | h0
  · have z : ((l.length : Int) == 0) = true := by rw [beq_iff_eq]; omega
    obtain rfl : D = 0 := by rw [← hD, dayL, if_pos h0]
    clear hD h1 h2 h3 h4
    go_enter Tryd.func71, Tryd.ntmps71
    go_wp2_with (first | ((with_reducible refine wp_region_up (by kernel_rfl) (by kernel_rfl) ?_); (repeat (go_big_quiet_step (fail))); refine wpQuiet_nil ?_; intro _ hw'; obtain ⟨nq, hw''⟩ := hw'; subst hw''))
    go_ret
    exact ⟨rfl, UpOf.of (by repeat (first | exact Below.refl _ _ | refine bl_tr ?_ _ | refine bl_al ?_ _ | refine bl_dr ?_ | refine bl_up ?_ _ | refine Below.drew ?_ | refine bl_alloc ?_ _ | refine Below.setCell ?_ (by first | (simp; done) | (simp; omega)) _))⟩
  · obtain ⟨n, hn1⟩ : ∃ n, l.length = n + 1 := ⟨l.length - 1, by omega⟩
    obtain ⟨b, off, rfl, hb, cd⟩ := en_last (Rds.of_own h3) hn1
    rw [hD] at cd
    rw [hn1] at c0 hn
    have z : (((n + 1 : Nat) : Int) == 0) = false := by rw [beq_eq_false_iff_ne]; omega
    clear hD h1 h2 h3 h4 h0 hn1
    go_enter Tryd.func71, Tryd.ntmps71
    go_wp2_with (first | ((with_reducible refine wp_region_up (by kernel_rfl) (by kernel_rfl) ?_); (repeat (go_big_quiet_step (fail))); refine wpQuiet_nil ?_; intro _ hw'; obtain ⟨nq, hw''⟩ := hw'; subst hw''))
    go_ret
    exact ⟨rfl, UpOf.of (by repeat (first | exact Below.refl _ _ | refine bl_tr ?_ _ | refine bl_al ?_ _ | refine bl_dr ?_ | refine bl_up ?_ _ | refine Below.drew ?_ | refine bl_alloc ?_ _ | refine Below.setCell ?_ (by first | (simp; done) | (simp; omega)) _))⟩
end Go.Proofs.YtbianlkenallaaaDoor

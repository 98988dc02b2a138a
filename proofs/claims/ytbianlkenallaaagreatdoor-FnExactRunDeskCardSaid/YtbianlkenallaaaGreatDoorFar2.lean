/-
  The least numbers of moves: the reference's walk. The bounds stand at it.
-/
import Derived.Test.YtbianlkenallaaaGreatDoorFar
set_option linter.all false
set_option maxHeartbeats 4000000
set_option maxRecDepth 10000
namespace Go.Proofs.YtbianlkenallaaaGreatDoor
open Go.RowKit
theorem make31 (u : World) (n : Nat) (hn : n ≤ 100000000) : (Instr.makeSlice 28 (i64 n) (i64 n)).run Tryz.prog u = .ok (.slice (some ⟨u.heap.size, 0, none⟩) n n) (u.alloc (.cells (madeCells #[i64 0] n) 2)) := by
 have hi : (Tryz.prog.info? 2).map (fun i => (i.zero, i.size, i.bytes)) = some (some (i64 0), 1, 8) := by kernel_rfl
 obtain ⟨i0, hi, hz0, hz1, hz2⟩ := info_parts hi
 have h := run_make (P := Tryz.prog) u 28 2 i0 _ Tryz.underlying28 hi hz0 .i64 .i64 n n (by omega) (Int.le_refl _) (by rw [hz2]; omega) (by omega)
 simpa [hz1, Value.cells] using h
theorem made31 : madeCells #[i64 0] 31 = arrD fun _ => 0 := by rw [arrD_zero]; kernel_rfl
def bN (v : Value) : Nat := match v with | .bool true => 1 | _ => 0
def Pass (l : List Int) (D D' : Nat → Int) (b : Bool) (k j : Nat) : Prop :=
 (b = true → sum31 D' < sum31 D) ∧ (b = false → sum31 D' ≤ sum31 D ∧ Still l D' k ∧ ∀ i, i < j → ∀ d, mvTo l i k = some d → D' k ≤ D' d + 1)
theorem Pass.start (l : List Int) (D : Nat → Int) : Pass l D D false 0 0 := ⟨fun h => (by cases h), fun _ => ⟨Nat.le_refl _, fun c hc => by omega, fun i hi => by omega⟩⟩
theorem Pass.le {l : List Int} {D D' : Nat → Int} {b : Bool} {k j : Nat} (h : Pass l D D' b k j) : sum31 D' ≤ sum31 D := by
 cases b with
 | true => exact Nat.le_of_lt (h.1 rfl)
 | false => exact (h.2 rfl).1
theorem Pass.col {l : List Int} {D D' : Nat → Int} {b : Bool} {k : Nat} (h : Pass l D D' b k 3) : Pass l D D' b (k + 1) 0 :=
 ⟨h.1, fun hb => ⟨(h.2 hb).1, fun c hc j d hj hm => by
  by_cases e : c = k
  ·subst e; exact (h.2 hb).2.2 j hj d hm
  ·exact (h.2 hb).2.1 c (by omega) j d hj hm, fun i hi => by omega⟩⟩
theorem Pass.next {l : List Int} {D D' : Nat → Int} {b : Bool} {k j : Nat} (h : Pass l D D' b k j) (hm : ∀ d, mvTo l j k = some d → D' k ≤ D' d + 1) : Pass l D D' b k (j + 1) :=
 ⟨h.1, fun hb => ⟨(h.2 hb).1, (h.2 hb).2.1, fun i hi d he => by
  by_cases e : i = j
  ·subst e; exact hm d he
  ·exact (h.2 hb).2.2 i (by omega) d he⟩⟩
theorem Pass.put {l : List Int} {D D' : Nat → Int} {b : Bool} {k j : Nat} {v : Int} (h : Pass l D D' b k j) (hk : k ≤ 30) (hv : 0 ≤ v) (hlt : v < D' k) : Pass l D (fun i => if i = k then v else D' i) true k (j + 1) :=
 ⟨fun _ => Nat.lt_of_lt_of_le (sum31_put hk hv hlt) h.le, fun h => by cases h⟩
theorem rds_dsl {w : World} {q tg : Nat} {l : List Int} {D : Nat → Int} {t : TypeId} (h : Blk w q t (arrD D)) (hD : ∀ c, c ≤ 30 → D c = dst l tg c) : Rds w 1 (some ⟨q, 0, none⟩) 31 (ics (dsl l tg)) :=
 ⟨by simp [ics, dsl], fun _ => ⟨q, 0, rfl, h.lt, fun j u hu => by
  have hj : j < 31 := by
   rcases Nat.lt_or_ge j 31 with h | h
   ·exact h
   ·rw [List.getElem?_eq_none (by simp [ics, dsl]; omega)] at hu; cases hu
  rw [dsl_get l tg (by omega)] at hu
  rw [Nat.zero_add, h.cell, arrD_get _ hj, hD j (by omega), hu]⟩⟩
theorem l11Far_any (tg : Nat) (A : Option Addr) (cap : Nat) (l : List Int) (w : World) (ht : tg ≤ 30) (hv : vStops l = true) (h : Rds w 1 A l.length (ics l)) (hn : l.length ≤ 100000000) :
  Calls Tryz.prog 224 #[.slice A l.length cap, i64 tg] w fun e w' => (∃ q, e = .returned (.slice (some ⟨q, 0, none⟩) 31 31) ∧ Rds w' 1 (some ⟨q, 0, none⟩) 31 (ics (dsl l tg))) ∧ UpOf w w' := by
 have HR := hd_ h
 have HV := hd_ hv
 clear h hv
 have hmk : ∀ u : World, (Instr.makeSlice 28 (i64 31) (i64 31)).run Tryz.prog u = .ok (.slice (some ⟨u.heap.size, 0, none⟩) 31 31) (u.alloc (.cells (arrD fun _ => 0) 2)) := fun u => by
  have := make31 u 31 (by omega)
  rw [made31] at this
  exact this
 go_enter Tryz.func224, Tryz.ntmps224
 go_upto_region 2 with (fail)
 have HF := hd_ (show FS w (w.alloc (.cells (arrD fun _ => 0) 2)) w.heap.size (fun _ => 0) from ⟨Blk.new _ _ _, uw_, Nat.le_refl _⟩)
 obtain ⟨q, hq⟩ : ∃ q, w.heap.size = q := ⟨_, rfl⟩
 rw [hq] at HF
 rw [hq]
 clear hq hmk
 go_wp2_with fail
 go_loopw [6] (fun i wr => ∃ k : Nat, k ≤ 31 ∧ i = i64 k ∧ Hid (FS w wr q (fun i => if i < k then 31 else 0))) (fun i _ => 31 - (intOf i).toNat)
 case atStart => exact ⟨0, by omega, rfl, hd_ (HF.out.congr fun i hi => by rw [if_neg (by omega)])⟩
 case round =>
  obtain ⟨k, hk, rfl, D⟩ := hrel
  clear HF
  by_cases hlt : k < 31
  ·have hlt' : (k : Int) < 31 := by omega
   have d0 := D.out.a.lt
   have d1 := D.out.cell hlt
   have d2 := D.out.a.free k
   go_wp2_with fail
   go_roundw
   case rel => exact ⟨k + 1, by omega, by go_num, hd_ ((D.out.put k 31).congr fun i hi => by
    by_cases e : i = k
    ·rw [if_pos e, if_pos (by omega)]
    ·rw [if_neg e]; by_cases e2 : i < k
     ·rw [if_pos e2, if_pos (by omega)]
     ·rw [if_neg e2, if_neg (by omega)])⟩
   case measure => (simp [intOf]; try omega)
  ·have hge : ¬ (k : Int) < 31 := by omega
   have D0 := hd_ (D.out.congr (g := fun _ => 31) fun i hi => by rw [if_pos (by omega)])
   clear D hlt
   clear hk
   have d0 := D0.out.a.lt
   have d1 := D0.out.cell (show tg < 31 by omega)
   have d2 := D0.out.a.free tg
   have ht' : (tg : Int) < 31 := by omega
   go_wp2_with fail
   have D1 := hd_ (D0.out.put tg 0)
   have U1 := hd_ (show Up31 l tg (fun j => if j = tg then 0 else 31) from ⟨if_pos rfl, fun c hc => by
    show (dst l tg c : Int) ≤ (if c = tg then 0 else 31) ∧ (if c = tg then (0 : Int) else 31) ≤ 31
    have := (dst_spec l ht hc).1
    by_cases e : c = tg
    ·rw [if_pos e, e, dst_self l ht]; omega
    ·rw [if_neg e]; omega⟩)
   refine wpg (R := fun U => ∃ D, Hid (FS w U q D) ∧ Hid (Up31 l tg D)) ⟨_, D1, U1⟩ (fun V1 z => ?_)
   obtain ⟨D, DF, DU⟩ := z
   clear D0 D1 U1 d0 d1 d2
   go_loopw [7] (fun ch wr => ∃ (b : Bool) (D : Nat → Int), ch = .bool b ∧ Hid (FS w wr q D) ∧ Hid (Up31 l tg D) ∧ Hid (b = false → Still l D 31)) (fun ch wr => 2 * sumAt wr q + bN ch)
   case atStart => exact ⟨true, D, rfl, DF, DU, hd_ fun h => by cases h⟩
   case round =>
    obtain ⟨b, D, rfl, DF, DU, DS⟩ := hrel
    cases b with
    | false =>
     have hend := hd_ (DU.out.end HV.out ht (DS.out rfl))
     clear DS
     go_wp2_with fail
     go_ret
     exact ⟨⟨q, rfl, rds_dsl DF.out.a hend.out⟩, DF.out.u⟩
    | true =>
     clear DS
     have hsum := hd_ DF.out.sum
     go_wp2_with fail
     go_loopw [7, 8] (fun ch a wr => ∃ (k : Nat) (b : Bool) (D' : Nat → Int), k ≤ 31 ∧ ch = .bool b ∧ a = i64 k ∧ Hid (FS w wr q D') ∧ Hid (Up31 l tg D') ∧ Hid (Pass l D D' b k 0)) (fun _ a _ => 31 - (intOf a).toNat)
     case atStart => exact ⟨0, false, D, by omega, rfl, rfl, DF, DU, hd_ (Pass.start l D)⟩
     case round =>
      obtain ⟨k, b, D', hk, rfl, rfl, EF, EU, EP⟩ := hrel
      clear DF DU
      by_cases hlt : k < 31
      ·have hlt' : (k : Int) ≤ 30 := by omega
       go_wp2_with fail
       go_loopw [7, 9] (fun ch jj wr => ∃ (j : Nat) (b : Bool) (D' : Nat → Int), j ≤ 3 ∧ ch = .bool b ∧ jj = i64 j ∧ Hid (FS w wr q D') ∧ Hid (Up31 l tg D') ∧ Hid (Pass l D D' b k j)) (fun _ jj _ => 3 - (intOf jj).toNat)
       case atStart => exact ⟨0, b, D', by omega, rfl, rfl, EF, EU, EP⟩
       case round =>
        obtain ⟨j, b2, D2, hj, rfl, rfl, FF, FU, FP⟩ := hrel
        clear EF EU EP
        by_cases hj3 : j < 3
        ·have hj' : (j : Int) < 3 := by omega
         have e3 := lit3_at hj3
         have hk30 : k ≤ 30 := by omega
         have F2 := hd_ (show ∀ V, Below wr.heap.size wr V → Rds V 1 A l.length (ics l) from fun V hV => HR.out.below (FF.out.u.tr hV).below)
         have f0 := FF.out.a.lt
         cases hm : mvTo l j k with
         | none =>
          have HC : Hid (∀ W, Below wr.heap.size wr W → Calls Tryz.prog 231 #[.slice A l.length cap, i64 k, .int .u8 ((mvB j).toNat : Int)] W fun e w' => e = .returned (i64 (-1)) ∧ UpOf W w') := hd_ fun W hW => by
           have := l11Next_any j k A cap l W hj3 hk30 HV.out (F2.out W hW) hn _ rfl
           rwa [nxX_none hm] at this
          have G := hd_ (FP.out.next (fun d he => by rw [hm] at he; cases he))
          clear FP F2
          go_wp2_with (first | (go_at_call 231; refine (HC.out _ bw_).mono ?_; rintro e w' ⟨rfl, g, rfl⟩) | ((with_reducible refine wru ?_); (repeat (go_big_quiet_step (fail))); refine wqn fun nq => ?_))
          go_roundw
          case rel => exact ⟨j + 1, b2, D2, by omega, rfl, by go_num, hd_ (FF.out.below bw_), FU, G⟩
          case measure => simp [intOf]; try omega
         | some d =>
          have hd30 := mvTo_bd HV.out hk30 hm
          have hdn : (d : Int) < 31 := by omega
          have hkn : (k : Int) < 31 := by omega
          have hd0 : (0 : Int) ≤ (d : Int) := by omega
          have HC : Hid (∀ W, Below wr.heap.size wr W → Calls Tryz.prog 231 #[.slice A l.length cap, i64 k, .int .u8 ((mvB j).toNat : Int)] W fun e w' => e = .returned (i64 d) ∧ UpOf W w') := hd_ fun W hW => by
           have := l11Next_any j k A cap l W hj3 hk30 HV.out (F2.out W hW) hn _ rfl
           rwa [nxX_some hm] at this
          have hc1 : ∀ g : Up wr, (up wr g).cell? ⟨q, d, none⟩ = some (i64 (D2 d)) := fun g => (FF.out.below g.below).cell (by omega)
          have hc2 : ∀ g : Up wr, (up wr g).cell? ⟨q, k, none⟩ = some (i64 (D2 k)) := fun g => (FF.out.below g.below).cell (by omega)
          have hfr : ∀ g : Up wr, (up wr g).frozen? ⟨q, k, none⟩ = false := fun g => (FF.out.below g.below).a.free k
          have hx1 : D2 d ≤ 31 := (FU.out.2 d hd30).2
          have hx2 : 0 ≤ D2 d := by have := (FU.out.2 d hd30).1; omega
          clear F2
          have hge0 : decide ((0 : Int) ≤ (d : Int)) = true := decide_eq_true hd0
          obtain ⟨v1, hv1⟩ : ∃ v, D2 d = v := ⟨_, rfl⟩
          obtain ⟨v2, hv2⟩ : ∃ v, D2 k = v := ⟨_, rfl⟩
          by_cases e : D2 d + 1 < D2 k
          ·have G := hd_ (FP.out.put hk30 (v := D2 d + 1) (by omega) e)
           have GU := hd_ (FU.out.put HV.out ht hk30 hj3 hm hd30 e)
           have e' : decide (D2 d + 1 < D2 k) = true := decide_eq_true e
           rw [hv1] at hc1 e' hx1 hx2 G GU
           rw [hv2] at hc2 e'
           have HE := hd_ e
           clear FP FU hm e hv1 hv2
           go_wp2_with (first | (go_at_call 231; refine (HC.out _ bw_).mono ?_; rintro e w' ⟨rfl, g, rfl⟩) | ((with_reducible refine wru ?_); (repeat (go_big_quiet_step (fail))); refine wqn fun nq => ?_))
           go_roundw
           case rel => exact ⟨j + 1, true, _, by omega, rfl, by go_num, hd_ ((FF.out.below bw_).put k (v1 + 1)), GU, G⟩
           case measure => simp [intOf]; try omega
          ·have G := hd_ (FP.out.next (fun d' he => by rw [hm] at he; injection he with he; subst he; omega))
           have e' : decide (D2 d + 1 < D2 k) = false := decide_eq_false e
           rw [hv1] at hc1 e' hx1 hx2
           rw [hv2] at hc2 e'
           have HE := hd_ e
           clear FP hm e hv1 hv2
           go_wp2_with (first | (go_at_call 231; refine (HC.out _ bw_).mono ?_; rintro e w' ⟨rfl, g, rfl⟩) | ((with_reducible refine wru ?_); (repeat (go_big_quiet_step (fail))); refine wqn fun nq => ?_))
           go_roundw
           case rel => exact ⟨j + 1, b2, D2, by omega, rfl, by go_num, hd_ (FF.out.below bw_), FU, G⟩
           case measure => simp [intOf]; try omega
        ·obtain rfl : j = 3 := by omega
         have G := hd_ (FP.out.col)
         clear FP
         go_wp2_with fail
         refine ⟨⟨k + 1, b2, D2, by omega, rfl, by go_num, FF, FU, G⟩, by simp [intOf]; try omega⟩
      ·have hge : ¬ (k : Int) ≤ 30 := by omega
       have hk31 : k = 31 := by omega
       have G : Hid (Pass l D D' b 31 0) := hd_ (by rw [← hk31]; exact EP.out)
       clear EP hlt hk31
       go_wp2_with fail
       refine ⟨⟨b, D', rfl, EF, EU, hd_ fun hb => (G.out.2 hb).2.1⟩, ?_⟩
       rw [EF.out.sum, hsum.out]
       cases b with
       | true => have := G.out.1 rfl; show 2 * _ + 1 < 2 * _ + 1; omega
       | false => have := (G.out.2 rfl).1; show 2 * _ + 0 < 2 * _ + 1; omega
end Go.Proofs.YtbianlkenallaaaGreatDoor

/-
  Common parts, put together: Move2, Move3, Move4, CodeJ, CodeW1, CodeW2, TxtMap, CodeS, CodeW3, CodeV, CodeW4, Dk7, Dk8, Vals2, Dk9, Dk10, DkCopy, SetL2.
-/
import Derived.Test.YtbianlkenallaaaGreatDoorMgC
import Derived.Test.YtbianlkenallaaaGreatDoorMgA
import Derived.Deep.WholeRow
import Derived.Great.BuildSlice
import Derived.Laws.CopyOwn
import Derived.Lib.SlBytesConst
import Derived.Test.YtbianlkenallaaaGreatDoorMgB
import Derived.Test.YtbianlkenallaaaGreatDoorShelf
import Derived.StillTail
import Derived.StillTailTactics
import Derived.Maps.StringElems
import Derived.Deep.LoopGhost
import Derived.Deep.DeepCutAuto
set_option linter.all false
set_option maxHeartbeats 8000000
set_option maxRecDepth 10000
namespace Go.Proofs.YtbianlkenallaaaGreatDoor
open Go.RowKit
def arrD (f : Nat → Int) : Array Value := ((List.range 31).map fun i => i64 (f i)).toArray
theorem arrD_size (f : Nat → Int) : (arrD f).size = 31 := by simp [arrD]
theorem arrD_get (f : Nat → Int) {i : Nat} (h : i < 31) : (arrD f)[i]? = some (i64 (f i)) := by
 simp [arrD, h]
theorem arrD_set (f : Nat → Int) (i : Nat) (v : Int) : (arrD f).setIfInBounds i (i64 v) = arrD fun j => if j = i then v else f j := by
 apply Array.ext_getElem?
 intro j
 by_cases hj : j < 31
 ·rw [arrD_get _ hj, Array.getElem?_setIfInBounds]
  by_cases e : i = j
  ·subst e
   rw [if_pos rfl, if_pos (by rw [arrD_size]; exact hj), if_pos rfl]
  ·rw [if_neg e, arrD_get _ hj, if_neg (fun h => e h.symm)]
 ·rw [Array.getElem?_eq_none (by rw [Array.size_setIfInBounds, arrD_size]; omega), Array.getElem?_eq_none (by rw [arrD_size]; omega)]
theorem arrD_one (f : Nat → Int) : (arrD f).all (·.oneCell') = true := by
 rw [Array.all_eq_true]
 intro i hi
 rw [arrD_size] at hi
 have := arrD_get f hi
 rw [Array.getElem?_eq_getElem (by rw [arrD_size]; exact hi)] at this
 injection this with this
 rw [this]; rfl
theorem arrD_zero : arrD (fun _ => 0) = #[i64 0, i64 0, i64 0, i64 0, i64 0, i64 0, i64 0, i64 0, i64 0, i64 0, i64 0, i64 0, i64 0, i64 0, i64 0, i64 0, i64 0, i64 0, i64 0, i64 0, i64 0, i64 0, i64 0, i64 0, i64 0, i64 0, i64 0, i64 0, i64 0, i64 0, i64 0] := rfl
theorem arrD_congr {f g : Nat → Int} (h : ∀ i, i < 31 → f i = g i) : arrD f = arrD g := by
 unfold arrD
 congr 1
 exact List.map_congr_left fun i hi => by rw [h i (List.mem_range.1 hi)]
def lvl (l : List Int) (tg m c : Nat) : Int := if dst l tg c ≤ m then (dst l tg c : Int) else -1
def midD (l : List Int) (tg m c i : Nat) : Int := if i < c then lvl l tg (m + 1) i else lvl l tg m i
theorem mvTo_ne {l : List Int} {k c d : Nat} (hv : vStops l = true) (h : mvTo l k c = some d) : d ≠ c := by
 unfold mvTo at h
 split at h
 ·have := (tabOf_bd hv h).2; omega
 ·split at h
  ·split at h
   ·injection h with h; omega
   ·cases h
  ·split at h
   ·injection h with h; omega
   ·cases h
theorem Blk.row {w : World} {p : Nat} {t : TypeId} {c c' : Array Value} (h : Blk w p t c) : Blk (w.setRow p c') p t c' := setRow_heap w p c c' t _ h
structure DS (w wr : World) (p q : Nat) (f : Nat → Int) : Prop where
 z : Blk wr p 215 (arrD fun _ => 0)
 a : Blk wr q 215 (arrD f)
 u : UpOf w wr
 hp : w.heap.size ≤ p
 hq : w.heap.size ≤ q
 ne : p ≠ q
section
variable {w wr wr' : World} {p q : Nat} {f g : Nat → Int}
theorem DS.congr (h : DS w wr p q f) (e : ∀ i, i < 31 → f i = g i) : DS w wr p q g := ⟨h.z, arrD_congr e ▸ h.a, h.u, h.hp, h.hq, h.ne⟩
theorem DS.below (h : DS w wr p q f) (hb : Below wr.heap.size wr wr') : DS w wr' p q f :=
 ⟨h.z.up ⟨wr', hb⟩, h.a.up ⟨wr', hb⟩, h.u.tr hb, h.hp, h.hq, h.ne⟩
theorem DS.put (h : DS w wr p q f) (i : Nat) (v : Int) : DS w (wr.setCell ⟨q, i, none⟩ (i64 v)) p q (fun j => if j = i then v else f j) :=
 ⟨h.z.far (p := ⟨q, i, none⟩) h.ne _, by rw [← arrD_set]; exact h.a.put i _, UpOf.of (h.u.below.setCell (p := ⟨q, i, none⟩) h.hq _), h.hp, h.hq, h.ne⟩
theorem DS.cell (h : DS w wr p q f) {i : Nat} (hi : i < 31) : wr.cell? ⟨q, i, none⟩ = some (i64 (f i)) := by rw [h.a.cell, arrD_get _ hi]
end
def hitM (l : List Int) (tg m c j : Nat) : Bool := (List.range j).any fun k => match mvTo l k c with | some d => decide (dst l tg d = m) | none => false
theorem hitM_step (l : List Int) (tg m c j : Nat) : hitM l tg m c (j + 1) = (hitM l tg m c j || match mvTo l j c with | some d => decide (dst l tg d = m) | none => false) := by
 simp only [hitM, List.range_succ, List.any_append, List.any_cons, List.any_nil, Bool.or_false]
theorem hitM_all {l : List Int} {tg m c : Nat} (hv : vStops l = true) (ht : tg ≤ 30) (hc : c ≤ 30) (hd : m < dst l tg c) : hitM l tg m c 3 = decide (dst l tg c = m + 1) := by
 rw [Bool.eq_iff_iff, decide_eq_true_eq]
 simp only [hitM, List.any_eq_true, List.mem_range]
 constructor
 ·rintro ⟨k, hk, h⟩
  cases hm : mvTo l k c with
  | none => rw [hm] at h; cases h
  | some d =>
   rw [hm] at h
   have h := of_decide_eq_true h
   have := dst_le (tg := tg) hv ht hc hk hm
   omega
 ·intro h
  have hne : c ≠ tg := fun e => by subst e; rw [dst_self l ht] at hd; omega
  obtain ⟨k, d, hk, hm, he⟩ := dst_ex hv ht hc hne
  exact ⟨k, hk, by rw [hm]; exact decide_eq_true (by omega)⟩
def anyL (l : List Int) (tg m c : Nat) : Bool := (List.range c).any fun i => decide (dst l tg i = m)
theorem anyL_step (l : List Int) (tg m c : Nat) : anyL l tg m (c + 1) = (anyL l tg m c || decide (dst l tg c = m)) := by
 simp only [anyL, List.range_succ, List.any_append, List.any_cons, List.any_nil, Bool.or_false]
theorem anyL_true {l : List Int} {tg m : Nat} (ht : tg ≤ 30) (h : anyL l tg m 31 = true) : m ≤ 30 := by
 simp only [anyL, List.any_eq_true, List.mem_range, decide_eq_true_eq] at h
 obtain ⟨i, hi, e⟩ := h
 have := (dst_spec l ht (show i ≤ 30 by omega)).1
 omega
theorem anyL_false {l : List Int} {tg m : Nat} (h : anyL l tg m 31 = false) : ∀ c, c ≤ 30 → dst l tg c ≠ m := by
 intro c hc e
 rw [← Bool.not_eq_true] at h
 refine h ?_
 simp only [anyL, List.any_eq_true, List.mem_range, decide_eq_true_eq]
 exact ⟨c, by omega, e⟩
theorem midD_skip {l : List Int} {tg m k : Nat} (hd : dst l tg k ≤ m) (i : Nat) : midD l tg m k i = midD l tg m (k + 1) i := by
 by_cases e : i = k
 ·subst e
  unfold midD lvl
  (repeat' split) <;> omega
 ·unfold midD lvl
  (repeat' split) <;> omega
theorem midD_step {l : List Int} {tg m k : Nat} (hv : vStops l = true) (ht : tg ≤ 30) (hk : k ≤ 30) (hd : m < dst l tg k) (i : Nat) :
  (if i = k then (if hitM l tg m k 3 then ((m : Int) + 1) else -1) else midD l tg m k i) = midD l tg m (k + 1) i := by
 by_cases e : i = k
 ·subst e
  rw [if_pos rfl, hitM_all hv ht hk hd]
  simp only [decide_eq_true_eq]
  unfold midD lvl
  (repeat' split) <;> omega
 ·rw [if_neg e]
  unfold midD lvl
  (repeat' split) <;> omega
theorem midD_val (l : List Int) (tg m k d : Nat) : (midD l tg m k d == (m : Int)) = decide (dst l tg d = m) := by
 rw [Bool.eq_iff_iff, beq_iff_eq, decide_eq_true_eq]
 unfold midD lvl
 split <;> split <;> omega
def Lit3 (w : World) (b : Nat) : Prop := w.heap[b]? = some (.cells #[.int .u8 35, .int .u8 60, .int .u8 62] 5 (3, 4))
theorem Lit3.cell {w : World} {b j : Nat} (h : Lit3 w b) (hj : j < 3) : w.cell? ⟨b, j, none⟩ = some (.int .u8 ((mvB j).toNat : Int)) := by
 unfold Lit3 at h
 have h3 : j = 0 ∨ j = 1 ∨ j = 2 := by omega
 rcases h3 with rfl | rfl | rfl <;> (simp [World.cell?, h]; rfl)
theorem Lit3.lt {w : World} {b : Nat} (h : Lit3 w b) : b < w.heap.size := (Array.getElem?_eq_some_iff.1 h).1
theorem Lit3.far {w : World} {b : Nat} (h : Lit3 w b) {p : Addr} (hp : b ≠ p.block) (u : Value) : Lit3 (w.setCell p u) b := (Below.heap_setCell w p u b hp).trans h
theorem Lit3.below {w w' : World} {b : Nat} (h : Lit3 w b) (hb : Below w.heap.size w w') : Lit3 w' b := (hb.block b h.lt).trans h
theorem distances_any (tg : Nat) (A : Option Addr) (cap : Nat) (l : List Int) (w : World) (ht : tg ≤ 30) (hv : vStops l = true) (h : Rds w 1 A l.length (ics l)) (hn : l.length ≤ 100000000) :
  Calls Tryz.prog 206 #[.slice A l.length cap, i64 tg] w fun e w' => e = .returned (.agg (arrD fun c => dst l tg c)) ∧ UpOf w w' := by
 have HR := hd_ h
 have HV := hd_ hv
 clear h hv
 go_enter Tryz.func206, Tryz.ntmps206
 go_upto_region 1 with (fail)
 refine wpg (R := fun U => Hid (Blk U w.heap.size 215 (arrD fun _ => 0)) ∧ Hid (UpOf w U)) ⟨hd_ (by rw [arrD_zero]; exact Blk.new _ _ _), hd_ uw_⟩ (fun V0 z => ?_)
 obtain ⟨z1, z2⟩ := z
 have hst : (storeCells ⟨V0.heap.size, 0, none⟩ (arrD fun _ => 0).toList 0).run Tryz.prog (V0.alloc (.cells #[Value.int .i64 0, Value.int .i64 0, Value.int .i64 0, Value.int .i64 0, Value.int .i64 0, Value.int .i64 0, Value.int .i64 0, Value.int .i64 0, Value.int .i64 0, Value.int .i64 0, Value.int .i64 0, Value.int .i64 0, Value.int .i64 0, Value.int .i64 0, Value.int .i64 0, Value.int .i64 0, Value.int .i64 0, Value.int .i64 0, Value.int .i64 0, Value.int .i64 0, Value.int .i64 0, Value.int .i64 0, Value.int .i64 0, Value.int .i64 0, Value.int .i64 0, Value.int .i64 0, Value.int .i64 0, Value.int .i64 0, Value.int .i64 0, Value.int .i64 0, Value.int .i64 0] 215)) = .ok () (V0.alloc (.cells (arrD fun _ => 0) 215)) := run_storeCells_new (P := Tryz.prog) V0 215 #[Value.int .i64 0, Value.int .i64 0, Value.int .i64 0, Value.int .i64 0, Value.int .i64 0, Value.int .i64 0, Value.int .i64 0, Value.int .i64 0, Value.int .i64 0, Value.int .i64 0, Value.int .i64 0, Value.int .i64 0, Value.int .i64 0, Value.int .i64 0, Value.int .i64 0, Value.int .i64 0, Value.int .i64 0, Value.int .i64 0, Value.int .i64 0, Value.int .i64 0, Value.int .i64 0, Value.int .i64 0, Value.int .i64 0, Value.int .i64 0, Value.int .i64 0, Value.int .i64 0, Value.int .i64 0, Value.int .i64 0, Value.int .i64 0, Value.int .i64 0, Value.int .i64 0] (arrD fun _ => 0) (by kernel_rfl) rfl (by kernel_rfl)
 go_upto_region 2 with (refine wpList_buildTo rfl 215 _ rfl (some 14) rfl (arrD fun _ => 0) (by kernel_rfl) ?_)
 refine wpg (R := fun U => Hid (DS w U w.heap.size V0.heap.size (fun _ => 0))) (hd_ ⟨z1.out.alloc _, Blk.new _ _ _, z2.out.tr bw_, Nat.le_refl _, z2.out.below.size, Nat.ne_of_lt z1.out.lt⟩) (fun V z => ?_)
 clear z1 z2 hst
 obtain ⟨p, hp⟩ : ∃ p, w.heap.size = p := ⟨_, rfl⟩
 rw [hp] at z
 rw [hp]
 clear hp
 generalize V0.heap.size = q at *
 go_wp2_with fail
 go_loopw [15] (fun i wr => ∃ k : Nat, k ≤ 31 ∧ i = i64 k ∧ Hid (DS w wr p q (fun i => if i < k then -1 else 0))) (fun i _ => 31 - (intOf i).toNat)
 case atStart => exact ⟨0, by omega, rfl, hd_ (z.out.congr fun i hi => by rw [if_neg (by omega)])⟩
 case round =>
  obtain ⟨k, hk, rfl, D⟩ := hrel
  clear z
  by_cases hlt : k < 31
  ·have hlt' : (k : Int) < 31 := by omega
   have d0 := D.out.a.lt
   have d1 := D.out.cell hlt
   have d2 := D.out.a.free k
   go_wp2_with fail
   go_roundw
   case rel => exact ⟨k + 1, by omega, by go_num, hd_ ((D.out.put k (-1)).congr fun i hi => by
    by_cases e : i = k
    ·rw [if_pos e, if_pos (by omega)]
    ·rw [if_neg e]; by_cases e2 : i < k
     ·rw [if_pos e2, if_pos (by omega)]
     ·rw [if_neg e2, if_neg (by omega)])⟩
   case measure => (simp [intOf]; try omega)
  ·have hge : ¬ (k : Int) < 31 := by omega
   have D0 := hd_ (D.out.congr (g := fun _ => -1) fun i hi => by rw [if_pos (by omega)])
   clear D hlt
   clear hk
   have d0 := D0.out.a.lt
   have d1 := D0.out.cell (show tg < 31 by omega)
   have d2 := D0.out.a.free tg
   have ht' : (tg : Int) < 31 := by omega
   go_wp2_with fail
   have D1 := hd_ ((D0.out.put tg 0).congr (g := lvl l tg 0) fun i hi => by
    show (if i = tg then (0 : Int) else -1) = if dst l tg i ≤ 0 then (dst l tg i : Int) else -1
    by_cases e : i = tg
    ·rw [if_pos e, e, dst_self l ht, if_pos (Nat.le_refl _)]; rfl
    ·rw [if_neg e, if_neg (fun h => e (dst_zero (c := i) ht (by omega) (Nat.le_zero.1 h)))])
   refine wpg (R := fun U => Hid (DS w U p q (lvl l tg 0))) D1 (fun V1 D2 => ?_)
   clear D0 D1 d0 d1 d2
   go_loopw [7, 8] (fun ch fr wr => ∃ (b : Bool) (m : Nat), ch = .bool b ∧ fr = i64 m ∧ m ≤ 31 ∧ (b = true → m ≤ 30) ∧ Hid (b = false → ∀ c, c ≤ 30 → dst l tg c ≤ m) ∧ Hid (DS w wr p q (lvl l tg m))) (fun _ fr _ => 32 - (intOf fr).toNat)
   case atStart => exact ⟨true, 0, rfl, rfl, by omega, fun _ => by omega, hd_ (fun h => by cases h), D2⟩
   case round =>
    obtain ⟨b, m, rfl, rfl, hm, hbm, hb0, D⟩ := hrel
    clear D2
    cases b with
    | false =>
     have hall := hb0.out rfl
     have D3 := hd_ (D.out.congr (g := fun c => (dst l tg c : Int)) fun i hi => by
      unfold lvl
      rw [if_pos (hall i (by omega))])
     clear D hall hb0 hbm
     go_upto_region 25 with (fail)
     go_step
     (refine wpList_load_row rfl 215 _ rfl q rfl 215 (arrD fun c => dst l tg c) (0, 0) (.array 31 2) D3.out.a (by kernel_rfl) rfl (by rw [arrD_size]; kernel_rfl) ?_; refine wpList_store_row rfl 215 _ _ rfl p (arrD fun c => dst l tg c) rfl rfl 215 (arrD fun _ => 0) D3.out.z (by rw [arrD_size]; kernel_rfl) (by rw [arrD_size, arrD_size]) (arrD_one _) ?_)
     have hz : Hid (UpOf w (wr.setRow p (arrD fun c => (dst l tg c : Int))) ∧ (wr.setRow p (arrD fun c => (dst l tg c : Int))).heap[p]? = some (.cells (arrD fun c => (dst l tg c : Int)) 215 (0, 0))) := by
      exact hd_ ⟨UpOf.of (below_setRow D3.out.u.below D3.out.hp _), Blk.row D3.out.z⟩
     generalize wr.setRow p (arrD fun c => (dst l tg c : Int)) = W at hz ⊢
     go_wp2_with fail
     exact bodyPost_ret (v := .agg (arrD fun c => (dst l tg c : Int))) (results_cell_row (p := 4) (ty := 215) rfl _ _ p 215 _ (0, 0) (.array 31 2) rfl hz.out.2 (by kernel_rfl) rfl (by rw [arrD_size]; kernel_rfl)) rfl ⟨rfl, hz.out.1⟩
    | true =>
     have hm30 := hbm rfl
     clear hbm hb0
     go_wp2_with fail
     go_loopw [7, 26] (fun ch c wr => ∃ k : Nat, k ≤ 31 ∧ ch = .bool (anyL l tg (m + 1) k) ∧ c = i64 k ∧ Hid (DS w wr p q (midD l tg m k))) (fun _ c _ => 31 - (intOf c).toNat)
     case atStart => exact ⟨0, by omega, rfl, rfl, hd_ (D.out.congr fun i hi => by unfold midD; rw [if_neg (by omega)])⟩
     case round =>
      obtain ⟨k, hk, rfl, rfl, E⟩ := hrel
      clear D
      by_cases hlt : k < 31
      ·have hlt' : (k : Int) < 31 := by omega
       have e0 := E.out.a.lt
       have e1 := E.out.cell hlt
       by_cases hd : dst l tg k ≤ m
       ·have hmk : midD l tg m k k = (dst l tg k : Int) := by unfold midD lvl; rw [if_neg (by omega), if_pos hd]
        have hpos : (0 : Int) ≤ (dst l tg k : Int) := by omega
        rw [hmk] at e1
        go_wp2_with fail
        refine ⟨⟨k + 1, by omega, ?_, by go_num, hd_ (E.out.congr fun i _ => midD_skip hd i)⟩, by simp [intOf]; try omega⟩
        rw [anyL_step, decide_eq_false (by omega), Bool.or_false]
       ·have hmk : midD l tg m k k = -1 := by unfold midD lvl; rw [if_neg (by omega), if_neg hd]
        rw [hmk] at e1
        obtain ⟨b, hb⟩ : ∃ b, wr.heap.size = b := ⟨_, rfl⟩
        have hcv : (convert 22 22 (.slice (some ⟨b, 0, none⟩) 3 3)).run Tryz.prog (wr.alloc (.cells #[.int .u8 35, .int .u8 60, .int .u8 62] 5)) = .ok (.slice (some ⟨b, 0, none⟩) 3 3) (wr.alloc (.cells #[.int .u8 35, .int .u8 60, .int .u8 62] 5 (3, 4))) := by
         subst hb
         exact Lib.run_convert_bytes_const wr 22 5 #[.int .u8 35, .int .u8 60, .int .u8 62] 3 3 Tryz.underlying22 Tryz.underlying5
        have hl3 : Hid (Lit3 (wr.alloc (.cells #[.int .u8 35, .int .u8 60, .int .u8 62] 5 (3, 4))) b) := by
         subst hb
         exact hd_ (by show (wr.heap.push _)[wr.heap.size]? = _; simp)
        go_wp2_with fail
        go_loopw [36] (fun jj wr => ∃ j : Nat, j ≤ 3 ∧ jj = i64 j ∧ Hid (DS w wr p q (fun i => if i = k then (if hitM l tg m k j then ((m : Int) + 1) else -1) else midD l tg m k i) ∧ Lit3 wr b ∧ b ≠ q)) (fun jj _ => 3 - (intOf jj).toNat)
        case atStart => exact ⟨0, by omega, rfl, hd_ ⟨(E.out.below bw_).congr fun i hi => by
         by_cases e : i = k
         ·rw [if_pos e, e, hmk]; rfl
         ·rw [if_neg e], hl3.out, by have := E.out.a.lt; omega⟩⟩
        case round =>
         obtain ⟨j, hj, rfl, F⟩ := hrel
         clear E hl3 hcv e0 e1
         by_cases hj3 : j < 3
         ·have hj' : (j : Int) < 3 := by omega
          have f1 := F.out.2.1.cell hj3
          have f2 : ∀ V, Below wr.heap.size wr V → Rds V 1 A l.length (ics l) := fun V hV => HR.out.below (F.out.1.u.tr hV).below
          have F2 := hd_ f2
          clear f2
          have hk30 : k ≤ 30 := by omega
          cases hm : mvTo l j k with
          | none =>
           obtain ⟨v, hv⟩ : ∃ v : Int, mvX l j k = v := ⟨_, rfl⟩
           have hc : ∀ V, Below wr.heap.size wr V → Calls Tryz.prog 207 #[.slice A l.length cap, i64 k, .int .u8 ((mvB j).toNat : Int)] V fun e w' => e = .returned (.tuple #[i64 v, .bool false]) ∧ UpOf V w' := fun V hV => by
            have := moved_any j k A cap l V hj3 hk30 (F2.out V hV) hn _ rfl
            rwa [hv, hm] at this
           have HC := hd_ hc
           clear hc hv
           have hh : hitM l tg m k (j + 1) = hitM l tg m k j := by rw [hitM_step, hm, Bool.or_false]
           clear F2
           go_wp2_with (first | (go_at_call 207; refine (HC.out _ bw_).mono ?_; rintro e w' ⟨rfl, g, rfl⟩))
           go_roundw
           case rel => exact ⟨j + 1, by omega, by go_num, hd_ ⟨(F.out.1.below bw_).congr fun i _ => by rw [hh], F.out.2.1.below bw_, F.out.2.2⟩⟩
           case measure => simp [intOf]; try omega
          | some d =>
           have hne := mvTo_ne HV.out hm
           have hd30 := mvTo_bd HV.out hk30 hm
           have hc : ∀ V, Below wr.heap.size wr V → Calls Tryz.prog 207 #[.slice A l.length cap, i64 k, .int .u8 ((mvB j).toNat : Int)] V fun e w' => e = .returned (.tuple #[i64 d, .bool true]) ∧ UpOf V w' := fun V hV => by
            have := moved_any j k A cap l V hj3 hk30 (F2.out V hV) hn _ rfl
            rwa [mvX_eq HV.out hm, hm] at this
           have HC := hd_ hc
           clear hc F2
           have hdn : (d : Int) < 31 := by omega
           have hh : hitM l tg m k (j + 1) = (hitM l tg m k j || decide (dst l tg d = m)) := by rw [hitM_step, hm]
           have hcell : ∀ g : Up wr, (up wr g).cell? ⟨q, d, none⟩ = some (i64 (midD l tg m k d)) := fun g => by
            have := (F.out.1.below g.below).cell (i := d) (by omega)
            rw [if_neg hne] at this
            exact this
           have hval := midD_val l tg m k d
           have hfr : ∀ g : Up wr, (up wr g).frozen? ⟨q, k, none⟩ = false := fun g => (F.out.1.below g.below).a.free k
           obtain ⟨o, hex⟩ : ∃ o, ∀ g : Up wr, (up wr g).cell? ⟨q, k, none⟩ = some (i64 o) := ⟨_, fun g => (F.out.1.below g.below).cell (i := k) (by omega)⟩
           generalize midD l tg m k d = v at hcell hval
           by_cases e : dst l tg d = m
           ·rw [decide_eq_true e] at hval
            go_wp2_with (first | (go_at_call 207; refine (HC.out _ bw_).mono ?_; rintro e w' ⟨rfl, g, rfl⟩))
            go_roundw
            case rel => exact ⟨j + 1, by omega, by go_num, hd_ ⟨((F.out.1.below bw_).put k ((m : Int) + 1)).congr fun i _ => by
             rw [hh, decide_eq_true e, Bool.or_true, if_pos rfl]
             by_cases q : i = k
             ·rw [if_pos q, if_pos q]
             ·rw [if_neg q, if_neg q, if_neg q], (F.out.2.1.below bw_).far F.out.2.2 _, F.out.2.2⟩⟩
            case measure => simp [intOf]; try omega
           ·rw [decide_eq_false e] at hval
            go_wp2_with (first | (go_at_call 207; refine (HC.out _ bw_).mono ?_; rintro e w' ⟨rfl, g, rfl⟩))
            go_roundw
            case rel => exact ⟨j + 1, by omega, by go_num, hd_ ⟨(F.out.1.below bw_).congr fun i _ => by rw [hh, decide_eq_false e, Bool.or_false], F.out.2.1.below bw_, F.out.2.2⟩⟩
            case measure => simp [intOf]; try omega
         ·obtain rfl : j = 3 := by omega
          have G := hd_ (F.out.1.congr fun i _ => midD_step HV.out ht (by omega) (Nat.lt_of_not_le hd) i)
          have g1 := G.out.cell hlt
          have g0 := G.out.a.lt
          clear F
          have hmv : midD l tg m (k + 1) k = if dst l tg k = m + 1 then (m : Int) + 1 else -1 := by
           unfold midD lvl
           (repeat' split) <;> omega
          rw [hmv] at g1
          have hst := anyL_step l tg (m + 1) k
          cases ha : anyL l tg (m + 1) k with
          | true =>
           rw [ha, Bool.true_or] at hst
           go_wp2_with fail
           refine ⟨⟨k + 1, by omega, by rw [hst], by go_num, G⟩, by simp [intOf]; try omega⟩
          | false =>
           rw [ha, Bool.false_or] at hst
           by_cases e : dst l tg k = m + 1
           ·rw [if_pos e] at g1
            rw [decide_eq_true e] at hst
            have hp : (0 : Int) ≤ (m : Int) + 1 := by omega
            go_wp2_with fail
            refine ⟨⟨k + 1, by omega, by rw [hst], by go_num, G⟩, by simp [intOf]; try omega⟩
           ·rw [if_neg e] at g1
            rw [decide_eq_false e] at hst
            go_wp2_with fail
            refine ⟨⟨k + 1, by omega, by rw [hst], by go_num, G⟩, by simp [intOf]; try omega⟩
      ·obtain rfl : k = 31 := by omega
       clear hlt
       go_wp2_with fail
       refine ⟨⟨anyL l tg (m + 1) 31, m + 1, rfl, by go_num, by omega, fun h => anyL_true ht h, hd_ (fun h c hc => Nat.le_succ_of_le (dst_gap (m := m) HV.out ht (anyL_false h) c hc)), hd_ (E.out.congr fun i hi => by unfold midD; rw [if_pos (show i < 31 from hi)])⟩, by simp [intOf]; try omega⟩
theorem planBetween_any (c0 tg : Nat) (A : Option Addr) (cap : Nat) (l : List Int) (w : World) (hc0 : c0 ≤ 30) (ht : tg ≤ 30) (hv : vStops l = true) (h : Rds w 1 A l.length (ics l)) (hn : l.length ≤ 100000000) :
  Calls Tryz.prog 168 #[.slice A l.length cap, i64 c0, i64 tg] w fun e w' => e = .returned (.string ⟨(planL l tg c0).toArray⟩) ∧ UpOf w w' := by
 have HR := hd_ h
 have HV := hd_ hv
 have HC : Hid (∀ V, Below w.heap.size w V → Calls Tryz.prog 206 #[.slice A l.length cap, i64 tg] V fun e w' => e = .returned (.agg (arrD fun c => dst l tg c)) ∧ UpOf V w') := hd_ fun V hV => distances_any tg A cap l V ht hv (h.below hV) hn
 clear h hv
 have hst : ∀ g : Up w, (storeCells ⟨(up w g).heap.size, 0, none⟩ (arrD fun c => dst l tg c).toList 0).run Tryz.prog (up w (g.al (.cells #[Value.int .i64 0, Value.int .i64 0, Value.int .i64 0, Value.int .i64 0, Value.int .i64 0, Value.int .i64 0, Value.int .i64 0, Value.int .i64 0, Value.int .i64 0, Value.int .i64 0, Value.int .i64 0, Value.int .i64 0, Value.int .i64 0, Value.int .i64 0, Value.int .i64 0, Value.int .i64 0, Value.int .i64 0, Value.int .i64 0, Value.int .i64 0, Value.int .i64 0, Value.int .i64 0, Value.int .i64 0, Value.int .i64 0, Value.int .i64 0, Value.int .i64 0, Value.int .i64 0, Value.int .i64 0, Value.int .i64 0, Value.int .i64 0, Value.int .i64 0, Value.int .i64 0] 215))) = .ok () (up w (g.al (.cells (arrD fun c => dst l tg c) 215))) := fun g => run_storeCells_new (P := Tryz.prog) (up w g) 215 _ (arrD fun c => dst l tg c) (by rw [arrD_size]; kernel_rfl) (by rw [arrD_size]; rfl) (arrD_one _)
 go_enter Tryz.func168, Tryz.ntmps168
 go_wp2_with (first | (go_at_call 206; refine (HC.out _ bw_).mono ?_; rintro e w' ⟨rfl, g, rfl⟩) | ((with_reducible refine wru ?_); (repeat (go_big_quiet_step (fail))); refine wqn fun nq => ?_))
 obtain ⟨V, hV⟩ : ∃ V, up w (g.al (.cells (arrD fun c => dst l tg c) 215)) = V := ⟨_, rfl⟩
 have hs : V.heap.size = (up w g).heap.size + 1 := by rw [← hV]; exact size_al _
 have HA : Hid (Blk V (up w g).heap.size 215 (arrD fun c => dst l tg c)) := hd_ (by rw [← hV]; exact Blk.new_al _ _)
 have HU : Hid (UpOf w V) := hd_ (by rw [← hV]; exact uw_)
 have HO : Hid ((V.alloc (.cells #[] 5)).ownsRow V.heap.size 5 1 (.slice (some ⟨(up w g).heap.size + 1, 0, none⟩) 0 0) 0 (Lib.byteCells [])) := hd_ (by
  have := World.ownsRow_lit (base := V.heap.size) (e := 5) (size := 1) V #[] 0 (Nat.le_refl _) (by unfold maxLen; omega) rfl
  rw [← hs]
  exact this)
 refine wpg (R := fun U => ∃ gq : Up V, U = up V gq ∧ Hid (U.ownsRow V.heap.size 5 1 (.slice (some ⟨(up w g).heap.size + 1, 0, none⟩) 0 0) 0 (Lib.byteCells []))) ⟨⟨V.alloc (.cells #[] 5), bw_⟩, by subst hV; rfl, hd_ (by subst hV; exact HO.out)⟩ (fun U z => ?_)
 obtain ⟨gV, rfl, HOV⟩ := z
 clear hV hs HO hst HC
 generalize (up w g).heap.size = p at *
 go_loopw [1, 8] (fun cur out wr => ∃ (c : Nat) (L : List UInt8) (A1 : Option Addr) (c1 : Nat), c ≤ 30 ∧ cur = i64 c ∧ out = .slice A1 L.length c1 ∧ Hid (planL l tg c0 = L ++ planL l tg c) ∧ Hid (wr.ownsRow V.heap.size 5 1 (.slice A1 L.length c1) L.length (Lib.byteCells L)) ∧ ∃ g : Up V, wr = up V g) (fun cur _ _ => dst l tg (intOf cur).toNat)
 case atStart => exact ⟨c0, [], _, _, hc0, rfl, rfl, hd_ rfl, HOV, _, rfl⟩
 case round =>
  obtain ⟨c, L, A1, c1, hc, rfl, rfl, HP, HO, g1, rfl⟩ := hrel
  clear HOV
  by_cases he : c = tg
  ·have hne : ((c : Int) != (tg : Int)) = false := by rw [he]; simp
   have hcv := conv_own HO.out rfl (Below.refl _ _)
   go_wp2_with (first | ((with_reducible refine wru ?_); (repeat (go_big_quiet_step (fail))); refine wqn fun nq => ?_))
   go_ret
   refine ⟨?_, HU.out.tr bw_⟩
   show Ending.returned (.string ⟨L.toArray⟩) = _
   rw [HP.out, he, planL_self l ht, List.append_nil]
  ·have hne : ((c : Int) != (tg : Int)) = true := by simp; omega
   obtain ⟨b, hb⟩ : ∃ b, (up V g1).heap.size = b := ⟨_, rfl⟩
   have hcv : (convert 22 22 (.slice (some ⟨b, 0, none⟩) 3 3)).run Tryz.prog (up V (g1.al (.cells #[.int .u8 35, .int .u8 60, .int .u8 62] 5))) = .ok (.slice (some ⟨b, 0, none⟩) 3 3) (up V (g1.al (.cells #[.int .u8 35, .int .u8 60, .int .u8 62] 5 (3, 4)))) := by
    subst hb
    exact Lib.run_convert_bytes_const (up V g1) 22 5 #[.int .u8 35, .int .u8 60, .int .u8 62] 3 3 Tryz.underlying22 Tryz.underlying5
   have hl3 : Hid (Lit3 (up V (g1.al (.cells #[.int .u8 35, .int .u8 60, .int .u8 62] 5 (3, 4)))) b) := by
    subst hb
    exact hd_ (by show ((up V g1).heap.push _)[(up V g1).heap.size]? = _; simp)
   go_wp2_with (first | ((with_reducible refine wru ?_); (repeat (go_big_quiet_step (fail))); refine wqn fun nq => ?_))
   go_loopw [1, 8, 23] (fun cur out jj wr => ∃ j : Nat, j ≤ 3 ∧ cur = i64 c ∧ out = .slice A1 L.length c1 ∧ jj = i64 j ∧ Hid (∀ i, i < j → goodMv l tg c i = none) ∧ Hid (Lit3 wr b) ∧ Hid (wr.ownsRow V.heap.size 5 1 (.slice A1 L.length c1) L.length (Lib.byteCells L)) ∧ ∃ g : Up V, wr = up V g) (fun _ _ jj _ => 3 - (intOf jj).toNat)
   case atStart => exact ⟨0, by omega, rfl, rfl, rfl, hd_ (fun i hi => by omega), hl3, hd_ (own_below HO.out bw_), _, rfl⟩
   case round =>
    obtain ⟨j, hj, rfl, rfl, rfl, HG, HL, HQ, g2, rfl⟩ := hrel
    clear HO hl3 hcv
    by_cases hj3 : j < 3
    ·have hj' : (j : Int) < 3 := by omega
     have f1 := HL.out.cell hj3
     have hL30 : L.length ≤ 30 := by
      have := planL_len l ht hc0
      rw [HP.out, List.length_append] at this
      omega
     cases hm : mvTo l j c with
     | none =>
      obtain ⟨v, hv⟩ : ∃ v : Int, mvX l j c = v := ⟨_, rfl⟩
      have HC : Hid (∀ W, Below V.heap.size V W → Calls Tryz.prog 207 #[.slice A l.length cap, i64 c, .int .u8 ((mvB j).toNat : Int)] W fun e w' => e = .returned (.tuple #[i64 v, .bool false]) ∧ UpOf W w') := hd_ fun W hW => by
       have := moved_any j c A cap l W hj3 hc (HR.out.below (HU.out.tr hW).below) hn _ rfl
       rwa [hv, hm] at this
      clear hv
      have hg : ∀ i, i < j + 1 → goodMv l tg c i = none := fun i hi => by
       by_cases q : i = j
       ·subst q; unfold goodMv; rw [hm]
       ·exact HG.out i (by omega)
      go_wp2_with (first | (go_at_call 207; refine (HC.out _ bw_).mono ?_; rintro e w' ⟨rfl, g, rfl⟩) | ((with_reducible refine wru ?_); (repeat (go_big_quiet_step (fail))); refine wqn fun nq => ?_))
      go_roundw
      case rel => exact ⟨j + 1, by omega, rfl, rfl, by go_num, hd_ hg, hd_ (HL.out.below bw_), hd_ (own_below HQ.out bw_), _, rfl⟩
      case measure => simp [intOf]; try omega
     | some d =>
      have hd30 := mvTo_bd HV.out hc hm
      have hdn : (d : Int) < 31 := by omega
      have hcn : (c : Int) < 31 := by omega
      have HC : Hid (∀ W, Below V.heap.size V W → Calls Tryz.prog 207 #[.slice A l.length cap, i64 c, .int .u8 ((mvB j).toNat : Int)] W fun e w' => e = .returned (.tuple #[i64 d, .bool true]) ∧ UpOf W w') := hd_ fun W hW => by
       have := moved_any j c A cap l W hj3 hc (HR.out.below (HU.out.tr hW).below) hn _ rfl
       rwa [mvX_eq HV.out hm, hm] at this
      have hc1 : ∀ g : Up V, (up V g).cell? ⟨p, d, none⟩ = some (i64 (dst l tg d)) := fun g => by rw [(HA.out.up g).cell, arrD_get _ (by omega)]
      have hc2 : ∀ g : Up V, (up V g).cell? ⟨p, c, none⟩ = some (i64 (dst l tg c)) := fun g => by rw [(HA.out.up g).cell, arrD_get _ (by omega)]
      have hx1 : (dst l tg d : Int) ≤ 30 := by have := (dst_spec l ht hd30).1; omega
      have hx2 : (dst l tg c : Int) ≤ 30 := by have := (dst_spec l ht hc).1; omega
      have hx3 : (0 : Int) ≤ (dst l tg c : Int) := by omega
      by_cases e : dst l tg d + 1 = dst l tg c
      ·have ht1 : ((dst l tg d : Int) == (dst l tg c : Int) - 1) = true := by rw [beq_iff_eq]; omega
       have hgj : goodMv l tg c j = some d := by unfold goodMv; rw [hm]; exact if_pos e
       have hps := hd_ (planL_step hj3 HG.out hgj)
       have hlt : dst l tg d < dst l tg c := by omega
       go_wp2_with (first | (go_at_call 207; refine (HC.out _ bw_).mono ?_; rintro e w' ⟨rfl, g, rfl⟩) | (at_builtin; go_must (refine wpl_appU rfl _ _ 22 rfl V V.heap.size 5 _ 1 1 el_byte (.slice A1 L.length c1) L.length (Lib.byteCells L) rfl (own_below HQ.out bw_) _ 1 1 [.int .u8 ((mvB j).toNat : Int)] rfl (rds_new _ _ _ 1 1 rfl) (fun u hu => by simp at hu; subst hu; rfl) (by unfold maxLen; omega) (by omega) (up_below V _).size bw_ (Nat.le_refl _) ?_; intro A2 c2 g2 o2)) | ((with_reducible refine wru ?_); (repeat (go_big_quiet_step (fail))); refine wqn fun nq => ?_))
       refine ⟨⟨d, L ++ [mvB j], A2, c2, hd30, rfl, congrArg (fun n => Value.slice A2 n c2) (by simp), hd_ (by rw [HP.out, hps.out, List.append_assoc]; rfl), hd_ ?_, _, rfl⟩, by simpa [intOf] using hlt⟩
       rw [show [Value.int .u8 ((mvB j).toNat : Int)] = Lib.byteCells [mvB j] from rfl, byteCells_snoc, show L.length + 1 = (L ++ [mvB j]).length by simp] at o2
       exact o2
      ·have ht1 : ((dst l tg d : Int) == (dst l tg c : Int) - 1) = false := by rw [beq_eq_false_iff_ne]; omega
       have hg : ∀ i, i < j + 1 → goodMv l tg c i = none := fun i hi => by
        by_cases q : i = j
        ·subst q; unfold goodMv; rw [hm]; exact if_neg e
        ·exact HG.out i (by omega)
       go_wp2_with (first | (go_at_call 207; refine (HC.out _ bw_).mono ?_; rintro e w' ⟨rfl, g, rfl⟩) | ((with_reducible refine wru ?_); (repeat (go_big_quiet_step (fail))); refine wqn fun nq => ?_))
       go_roundw
       case rel => exact ⟨j + 1, by omega, rfl, rfl, by go_num, hd_ hg, hd_ (HL.out.below bw_), hd_ (own_below HQ.out bw_), _, rfl⟩
       case measure => simp [intOf]; try omega
    ·obtain rfl : j = 3 := by omega
     exact (goodMv_ex HV.out ht hc he HG.out).elim
theorem isRow_any (s : ByteArray) (w : World) (hs : s.size ≤ 9223372036854775807) :
  Calls Tryz.prog 126 #[.string s] w fun e w' => e = .returned (.bool (isRowB s)) ∧ w = w' := by
 have HT : Hid (∀ V, Calls Tryz.prog 134 #[.string s, .int .u8 32, i64 30] V fun e w' => e = .returned (.bool (txtB 32 30 s)) ∧ V = w') := hd_ fun V => isText_any s 32 30 V (by omega) (by omega) hs
 have hr : Hid (isRowB s = (txtB 32 30 s && (decide (s.size = 0) || decide (byteAt s (s.size - 1) ≠ 32)))) := hd_ rfl
 cases hv : txtB 32 30 s with
 | false =>
  have HT2 : Hid (∀ V, Calls Tryz.prog 134 #[.string s, .int .u8 32, i64 30] V fun e w' => e = .returned (.bool false) ∧ V = w') := hd_ fun V => by rw [← hv]; exact HT.out V
  have hr2 : Hid (isRowB s = false) := hd_ (by rw [hr.out, hv]; rfl)
  clear HT hr hv
  go_enter Tryz.func126, Tryz.ntmps126
  go_wp2_with (first | (go_at_call 134; refine (HT2.out _).mono ?_; rintro e w' ⟨rfl, rfl⟩))
  go_ret
  rw [hr2.out]
  exact ⟨rfl, rfl⟩
 | true =>
  have HT2 : Hid (∀ V, Calls Tryz.prog 134 #[.string s, .int .u8 32, i64 30] V fun e w' => e = .returned (.bool true) ∧ V = w') := hd_ fun V => by rw [← hv]; exact HT.out V
  clear HT
  by_cases h0 : s.size = 0
  ·have hz := isEmpty_yes h0
   have hr2 : Hid (isRowB s = true) := hd_ (by rw [hr.out, hv, decide_eq_true h0]; rfl)
   clear hr hv
   go_enter Tryz.func126, Tryz.ntmps126
   go_wp2_with (first | (go_at_call 134; refine (HT2.out _).mono ?_; rintro e w' ⟨rfl, rfl⟩))
   go_ret
   rw [hr2.out]
   exact ⟨rfl, rfl⟩
  ·have hz := isEmpty_no (s := s) (by omega)
   have hlt : s.size - 1 < s.size := by omega
   have e := byteAt_eq hlt
   have hi1 : ((s.size : Int) - 1).toNat = s.size - 1 := by omega
   have hb : (((byteAt s (s.size - 1)).toNat : Int) != 32) = decide (byteAt s (s.size - 1) ≠ 32) := by
    rw [Bool.eq_iff_iff, bne_iff_ne, decide_eq_true_eq]
    constructor
    ·intro h e; rw [e] at h; exact h rfl
    ·intro h e; exact h (UInt8.toNat_inj.1 (by show (byteAt s (s.size - 1)).toNat = 32; omega))
   by_cases e2 : byteAt s (s.size - 1) = 32
   ·have hb2 : (((byteAt s (s.size - 1)).toNat : Int) != 32) = false := by rw [hb, decide_eq_false (fun h => h e2)]
    have hr2 : Hid (isRowB s = false) := hd_ (by rw [hr.out, hv, decide_eq_false h0, decide_eq_false (fun h => h e2)]; rfl)
    clear hr hv hb e2
    go_enter Tryz.func126, Tryz.ntmps126
    go_wp2_with (first | (go_at_call 134; refine (HT2.out _).mono ?_; rintro e w' ⟨rfl, rfl⟩))
    go_ret
    rw [hr2.out]
    exact ⟨rfl, rfl⟩
   ·have hb2 : (((byteAt s (s.size - 1)).toNat : Int) != 32) = true := by rw [hb, decide_eq_true e2]
    have hr2 : Hid (isRowB s = true) := hd_ (by rw [hr.out, hv, decide_eq_false h0, decide_eq_true e2]; rfl)
    clear hr hv hb e2
    go_enter Tryz.func126, Tryz.ntmps126
    go_wp2_with (first | (go_at_call 134; refine (HT2.out _).mono ?_; rintro e w' ⟨rfl, rfl⟩))
    go_ret
    rw [hr2.out]
    exact ⟨rfl, rfl⟩
def rowM (l : List Int) : Nat → Nat → List UInt8 → Nat
 | _, _, [] => 0
 | at', i, c :: t => if c = 32 then rowM l at' (i + 1) t else (planL l i at').length + rowM l (i + 1) (i + 1) t
theorem rowPlanI_any (s : ByteArray) (A : Option Addr) (cap : Nat) (l : List Int) (w : World) (hs : s.size ≤ 30) (hv : vStops l = true) (h : Rds w 1 A l.length (ics l)) (hn : l.length ≤ 100000000) :
  Calls Tryz.prog 127 #[.slice A l.length cap, .string s] w fun e w' => e = .returned (.tuple #[.string (bs (rowA l 0 0 s.data.toList)), i64 (rowM l 0 0 s.data.toList)]) ∧ UpOf w w' := by
 obtain ⟨L, hL⟩ : ∃ L, s.data.toList = L := ⟨_, rfl⟩
 have HL := hd_ hL
 have hLn := hd_ (show L.length = s.size by rw [← hL]; rfl)
 have HR := hd_ h
 have HV := hd_ hv
 rw [hL]
 clear h hv hL
 go_enter Tryz.func127, Tryz.ntmps127
 go_wp2_with fail
 go_loopw [6, 7, 8, 13] (fun out cnt at' i wr => ∃ (k a m : Nat) (T : List UInt8), k ≤ s.size ∧ i = i64 k ∧ at' = i64 a ∧ cnt = i64 m ∧ out = .string (bs T) ∧ a ≤ 30 ∧ Hid (T.length ≤ 32 * k ∧ m ≤ 30 * k ∧ rowA l 0 0 L = T ++ rowA l a k (L.drop k) ∧ rowM l 0 0 L = m + rowM l a k (L.drop k)) ∧ ∃ g : Up w, wr = up w g) (fun _ _ _ i _ => s.size - (intOf i).toNat)
 case atStart => exact ⟨0, 0, 0, [], by omega, rfl, rfl, rfl, rfl, by omega, hd_ ⟨by simp, by omega, by simp, by simp⟩, ex_up bw_⟩
 case round =>
  obtain ⟨k, a, m, T, hk, rfl, rfl, rfl, rfl, ha, HK, g, rfl⟩ := hrel
  by_cases hlt : k < s.size
  ·have hkl : k < L.length := by rw [hLn.out]; exact hlt
   have h1 : (k : Int) + 1 ≤ (s.size : Int) := by omega
   have hob := hd_ (one_byte s HL.out hkl)
   have hdr := hd_ (drop_at hkl)
   have e := byteAt_eq hlt
   have hbk : byteAt s k = L.getD k 0 := by unfold byteAt; rw [HL.out]
   by_cases q : L.getD k 0 = 32
   ·have hq : (((byteAt s k).toNat : Int) == 32) = true := by rw [hbk, q]; rfl
    have hrel2 := hd_ (show T.length ≤ 32 * (k + 1) ∧ m ≤ 30 * (k + 1) ∧ rowA l 0 0 L = T ++ rowA l a (k + 1) (L.drop (k + 1)) ∧ rowM l 0 0 L = m + rowM l a (k + 1) (L.drop (k + 1)) from by
     obtain ⟨q1, q2, q3, q4⟩ := HK.out
     rw [q3, q4, hdr.out, rowA, rowM, if_pos q, if_pos q]
     exact ⟨by omega, by omega, rfl, rfl⟩)
    clear q hkl HK hbk
    go_wp2_with fail
    refine ⟨⟨k + 1, a, m, T, by omega, by go_num, rfl, rfl, rfl, ha, hrel2, ex_up bw_⟩, by simp [intOf]; try omega⟩
   ·have hq : (((byteAt s k).toNat : Int) == 32) = false := by
     rw [beq_eq_false_iff_ne, hbk]
     intro h
     exact q (UInt8.toNat_inj.1 (by show (L.getD k 0).toNat = 32; omega))
    obtain ⟨P, hP⟩ : ∃ P, planL l k a = P := ⟨_, rfl⟩
    have hPl : P.length ≤ 30 := by rw [← hP]; exact planL_len l (by omega) ha
    have HC : Hid (∀ V, Below w.heap.size w V → Calls Tryz.prog 168 #[.slice A l.length cap, i64 a, i64 k] V fun e w' => e = .returned (.string (bs P)) ∧ UpOf V w') := hd_ fun V hV => by
     rw [← hP]
     exact planBetween_any a k A cap l V ha (by omega) HV.out (HR.out.below hV) hn
    have hsl : ∀ wx : World, (Instr.slice 9 (.string s) (some (i64 k)) (some (.int .i64 ((k : Int) + 1))) none).run Tryz.prog wx = .ok (.string (s.extract k (k + 1))) wx := fun wx => by
     have := run_slice_string (P := Tryz.prog) wx 9 s .i64 .i64 (k : Int) ((k + 1 : Nat) : Int) Tryz.underlying9 (by omega) (by omega) (by omega)
     simpa using this
    have hPz : (bs P).size = P.length := by rw [← bsz, bs_list]
    have hTz : T.length ≤ 960 := by have := HK.out.1; omega
    have hez : (s.extract k (k + 1)).size = 1 := by rw [hob.out]; rfl
    have hrel2 := hd_ (show (T ++ (P ++ 39 :: [L.getD k 0])).length ≤ 32 * (k + 1) ∧ m + P.length ≤ 30 * (k + 1) ∧ rowA l 0 0 L = (T ++ (P ++ 39 :: [L.getD k 0])) ++ rowA l (k + 1) (k + 1) (L.drop (k + 1)) ∧ rowM l 0 0 L = (m + P.length) + rowM l (k + 1) (k + 1) (L.drop (k + 1)) from by
     obtain ⟨q1, q2, q3, q4⟩ := HK.out
     rw [q3, q4, hdr.out, rowA, rowM, if_neg q, if_neg q, hP]
     refine ⟨by simp; omega, by omega, by simp, by omega⟩)
    have hmb : (m : Int) ≤ 1000 := by have := HK.out.2.1; omega
    clear q hkl HK hbk
    go_wp2_with (first | (go_at_call 168; refine (HC.out _ bw_).mono ?_; rintro e w' ⟨rfl, g, rfl⟩))
    refine ⟨⟨k + 1, k + 1, m + P.length, T ++ (P ++ 39 :: [L.getD k 0]), by omega, by go_num, by go_num, by go_num, congrArg Value.string ?_, by omega, hrel2, ex_up bw_⟩, by simp [intOf]; try omega⟩
    rw [hob.out]
    apply ByteArray.ext
    apply Array.ext'
    simp
  ·obtain rfl : k = s.size := by omega
   have hfin := hd_ (show rowA l 0 0 L = T ∧ rowM l 0 0 L = m from by
    obtain ⟨q1, q2, q3, q4⟩ := HK.out
    rw [q3, q4, List.drop_of_length_le (by rw [hLn.out]; exact Nat.le_refl _), rowA, rowM]
    simp)
   go_wp2_with fail
   go_ret2
   rw [hfin.out.1, hfin.out.2]
   exact ⟨rfl, uw_⟩
theorem isRow_len {s : ByteArray} (h : isRowB s = true) : s.size ≤ 30 := by
 unfold isRowB at h
 rw [Bool.and_eq_true] at h
 exact (txtB_inv h.1).1
theorem rowPlanR_any (s : ByteArray) (A : Option Addr) (cap : Nat) (l : List Int) (w : World) (hs : s.size ≤ 9223372036854775807) (h : Rds w 1 A l.length (ics l)) (hn : l.length ≤ 100000000) :
  Calls Tryz.prog 74 #[.slice A l.length cap, .string s] w fun e w' => e = .returned (.tuple #[.string (rowR l s).1, i64 (rowR l s).2]) ∧ UpOf w w' := by
 have HR := hd_ h
 clear h
 cases hv : vStops l with
 | false =>
  have hr := hd_ (show rowR l s = (⟨#[]⟩, 1) by unfold rowR; rw [hv]; rfl)
  go_enter Tryz.func74, Tryz.ntmps74
  go_wp2_with (first | (go_at_call 66; refine (ret_as (validStops_any A cap l _ (HR.out.below bw_) hn) hv).mono ?_; rintro e w' ⟨rfl, g, rfl⟩))
  go_ret2
  rw [hr.out]
  exact ⟨rfl, uw_⟩
 | true =>
  cases hi : isRowB s with
  | false =>
   have hr := hd_ (show rowR l s = (⟨#[]⟩, 2) by unfold rowR; rw [hv, hi]; rfl)
   go_enter Tryz.func74, Tryz.ntmps74
   go_wp2_with (first | (go_at_call 66; refine (ret_as (validStops_any A cap l _ (HR.out.below bw_) hn) hv).mono ?_; rintro e w' ⟨rfl, g, rfl⟩) | (go_at_call 126; refine (ret_as (isRow_any s _ hs) hi).mono ?_; rintro e w' ⟨rfl, rfl⟩))
   go_ret2
   rw [hr.out]
   exact ⟨rfl, uw_⟩
  | true =>
   have hr := hd_ (show rowR l s = (bs (rowA l 0 0 s.data.toList), 0) by unfold rowR; rw [hv, hi]; rfl)
   go_enter Tryz.func74, Tryz.ntmps74
   go_wp2_with (first | (go_at_call 66; refine (ret_as (validStops_any A cap l _ (HR.out.below bw_) hn) hv).mono ?_; rintro e w' ⟨rfl, g, rfl⟩) | (go_at_call 126; refine (ret_as (isRow_any s _ hs) hi).mono ?_; rintro e w' ⟨rfl, rfl⟩) | (go_at_call 127; refine (rowPlanI_any s A cap l _ (isRow_len hi) hv (HR.out.below bw_) hn).mono ?_; rintro e w' ⟨rfl, g, rfl⟩))
   go_ret2
   rw [hr.out]
   exact ⟨rfl, uw_⟩
abbrev Amb := List UInt8 × List UInt8
structure FR (W : List (List UInt8)) (O : List Amb) (i k : Nat) : Prop where
 ok : ∀ p ∈ O, ∃ (a b : Nat) (u v : List UInt8), a ≠ b ∧ W[a]? = some u ∧ W[b]? = some v ∧ u.isPrefixOf v = true ∧ p = (v, v.drop u.length)
 all : ∀ (a b : Nat) (u v : List UInt8), (a < i ∨ (a = i ∧ b < k)) → a ≠ b → W[a]? = some u → W[b]? = some v → u.isPrefixOf v = true → (v, v.drop u.length) ∈ O
 len : O.length ≤ 10 * i + k
section
variable {W : List (List UInt8)} {O R : List Amb} {i k : Nat}
theorem FR.start (W : List (List UInt8)) : FR W [] 0 0 := ⟨fun p hp => (by cases hp), fun a b u v h => (by omega), by simp⟩
theorem FR.skip (h : FR W O i k) (hno : ∀ u v, i ≠ k → W[i]? = some u → W[k]? = some v → u.isPrefixOf v = false) : FR W O i (k + 1) :=
 ⟨h.ok, fun a b u v hab hne hu hv hp => by
  by_cases e : a = i ∧ b = k
  ·obtain ⟨rfl, rfl⟩ := e
   rw [hno u v hne hu hv] at hp; cases hp
  ·exact h.all a b u v (by omega) hne hu hv hp, by have := h.len; omega⟩
theorem FR.add (h : FR W O i k) {u v : List UInt8} (hne : i ≠ k) (hu : W[i]? = some u) (hv : W[k]? = some v) (hp : u.isPrefixOf v = true) : FR W (O ++ [(v, v.drop u.length)]) i (k + 1) :=
 ⟨fun p hpm => by
  rcases List.mem_append.1 hpm with hpm | hpm
  ·exact h.ok p hpm
  ·rw [List.mem_singleton] at hpm
   exact ⟨i, k, u, v, hne, hu, hv, hp, hpm⟩,
  fun a b u' v' hab hne' hu' hv' hp' => by
  rw [List.mem_append]
  by_cases e : a = i ∧ b = k
  ·obtain ⟨rfl, rfl⟩ := e
   rw [hu] at hu'; injection hu' with hu'
   rw [hv] at hv'; injection hv' with hv'
   subst hu'; subst hv'
   exact .inr (List.mem_singleton.2 rfl)
  ·exact .inl (h.all a b u' v' (by omega) hne' hu' hv' hp'), by rw [List.length_append]; have := h.len; simp; omega⟩
theorem FR.row (h : FR W O i W.length) (h10 : W.length ≤ 10) : FR W O (i + 1) 0 :=
 ⟨h.ok, fun a b u v hab hne hu hv hp => by
  have hb : b < W.length := (List.getElem?_eq_some_iff.1 hv).1
  exact h.all a b u v (by omega) hne hu hv hp, by have := h.len; omega⟩
structure JW (W : List (List UInt8)) (O R : List Amb) : Prop where
 d : Dij W O R
 nd : (R.map (·.1)).Nodup
 ol : O.length ≤ 100 + 10 * R.length
 ob : ∀ p ∈ O, p.1.length ≤ 8 + 8 * R.length
 rb : ∀ p ∈ R, p.2.length ≤ 8 + 8 * R.length
theorem JW.start (h8 : ∀ w ∈ W, w.length ≤ 8) (h10 : W.length ≤ 10) (h : FR W O W.length 0) : JW W O [] where
 d := ⟨fun p hp => by
   obtain ⟨a, b, u, v, hne, hu, hv, hpf, rfl⟩ := h.ok p hp
   exact .base hne hu hv hpf,
  fun p hp => (by cases hp), fun i k u v hne hu hv hpf => .inr (h.all i k u v (.inl (List.getElem?_eq_some_iff.1 hu).1) hne hu hv hpf), fun p hp => (by cases hp)⟩
 nd := by simp
 ol := by have := h.len; simp; omega
 ob := fun p hp => by
  obtain ⟨a, b, u, v, hne, hu, hv, hpf, rfl⟩ := h.ok p hp
  have := h8 v (List.mem_of_getElem? hv)
  show v.length ≤ _
  omega
 rb := fun p hp => (by cases hp)
theorem sfx_le (h8 : ∀ w ∈ W, w.length ≤ 8) {r : List UInt8} (h : r ∈ sfxs W) : r.length ≤ 8 := by
 rw [sfxs, List.mem_flatMap] at h
 obtain ⟨w, hw, h⟩ := h
 rw [List.mem_map] at h
 obtain ⟨i, _, rfl⟩ := h
 rw [List.length_drop]
 have := h8 w hw
 omega
theorem JW.rest (h : JW W O R) (h8 : ∀ w ∈ W, w.length ≤ 8) {p : Amb} (hp : p ∈ O) : p.2.length ≤ 8 := sfx_le h8 (h.d.ok p hp).sfx
theorem JW.rl (h : JW W O R) (h8 : ∀ w ∈ W, w.length ≤ 8) (h10 : W.length ≤ 10) : R.length ≤ 90 := by
 have h1 := nodup_le (l := R.map (·.1)) (m := sfxs W) h.nd fun x hx => by
  rw [List.mem_map] at hx
  obtain ⟨p, hp, rfl⟩ := hx
  exact (h.d.best p hp).1.sfx
 rw [List.length_map] at h1
 exact Nat.le_trans h1 (sfxs_len h8 h10)
def om (O : List Amb) (i : Nat) : Amb := O.getD i ([], [])
theorem om_mem {i : Nat} (h : i < O.length) : om O i ∈ O := by
 rw [om, List.getD_eq_getElem?_getD, List.getElem?_eq_getElem h]
 exact List.getElem_mem h
theorem om_split {i : Nat} (h : i < O.length) : O = O.take i ++ om O i :: O.drop (i + 1) := by
 have e : O.drop i = om O i :: O.drop (i + 1) := by
  rw [om, List.getD_eq_getElem?_getD, List.getElem?_eq_getElem h]
  exact List.drop_eq_getElem_cons h
 rw [← e, List.take_append_drop]
theorem JW.drop (h : JW W O R) {i : Nat} (hi : i < O.length) {t : List UInt8} (hd : ((om O i).2, t) ∈ R) : JW W (O.take i ++ O.drop (i + 1)) R where
 d := by
  have := h.d
  rw [om_split hi] at this
  exact this.drop hd
 nd := h.nd
 ol := by rw [List.length_append, List.length_take, List.length_drop]; have := h.ol; omega
 ob := fun p hp => h.ob p (by
  rcases List.mem_append.1 hp with hp | hp
  ·exact List.mem_of_mem_take hp
  ·exact List.mem_of_mem_drop hp)
 rb := h.rb
theorem exR_len {r w m r' : List UInt8} (h : exR r w = some (m, r')) (hw : w.length ≤ 8) : m.length ≤ 8 := by
 unfold exR at h
 split at h
 ·injection h with h; injection h with h1 h2
  rw [← h1]; simp
 ·split at h
  ·injection h with h; injection h with h1 h2
   rw [← h1, List.length_drop]; omega
  ·cases h
theorem JW.take (h : JW W O R) (h8 : ∀ w ∈ W, w.length ≤ 8) (h10 : W.length ≤ 10) {i : Nat} (hi : i < O.length) (hm : ∀ q ∈ O, leT (om O i).1 q.1) (hd : ∀ t, ((om O i).2, t) ∉ R) :
  JW W (O.take i ++ O.drop (i + 1) ++ (if (om O i).2 = [] then [] else succs (om O i) W)) (((om O i).2, (om O i).1) :: R) where
 d := by
  have := h.d
  have hm' := hm
  rw [om_split hi] at this
  refine this.take (fun q hq => hm q ?_) hd
  rw [om_split hi]; exact hq
 nd := by
  rw [List.map_cons, List.nodup_cons]
  refine ⟨fun hx => ?_, h.nd⟩
  rw [List.mem_map] at hx
  obtain ⟨p, hp, e⟩ := hx
  exact hd p.2 (by have e' : p.1 = (om O i).2 := e; rw [← e']; exact hp)
 ol := by
  have h1 := h.ol
  have h2 := succs_len (om O i) W
  have h3 : (if (om O i).2 = [] then [] else succs (om O i) W).length ≤ 10 := by
   split
   ·simp
   ·omega
  rw [List.length_append, List.length_append, List.length_take, List.length_drop, List.length_cons]
  omega
 ob := fun p hp => by
  rw [List.length_cons]
  rw [List.mem_append, List.mem_append] at hp
  have h0 := h.ob (om O i) (om_mem hi)
  rcases hp with (hp | hp) | hp
  ·have := h.ob p (List.mem_of_mem_take hp); omega
  ·have := h.ob p (List.mem_of_mem_drop hp); omega
  ·split at hp
   ·cases hp
   ·rw [succs, List.mem_filterMap] at hp
    obtain ⟨w, hw, he⟩ := hp
    cases hx : exR (om O i).2 w with
    | none => rw [hx] at he; cases he
    | some z =>
     rw [hx] at he
     injection he with he
     subst he
     have := exR_len (m := z.1) (r' := z.2) hx (h8 w hw)
     show ((om O i).1 ++ z.1).length ≤ _
     rw [List.length_append]
     omega
 rb := fun p hp => by
  rw [List.length_cons]
  rcases List.mem_cons.1 hp with rfl | hp
  ·have := h.ob (om O i) (om_mem hi); show (om O i).1.length ≤ _; omega
  ·have := h.rb p hp; omega
end
def ambE (p : Amb) : List Value := [.string ⟨p.1.toArray⟩, .string ⟨p.2.toArray⟩]
def ambC (O : List Amb) : List Value := O.flatMap ambE
theorem ambE_len (p : Amb) : (ambE p).length = 2 := rfl
theorem ambC_len (O : List Amb) : (ambC O).length = O.length * 2 := flat_len ambE_len O
theorem ambC_app (a b : List Amb) : ambC (a ++ b) = ambC a ++ ambC b := by simp [ambC]
theorem ambC_one (O : List Amb) : ∀ u ∈ ambC O, u.oneCell' = true := by
 intro u hu
 simp only [ambC, List.mem_flatMap, ambE, List.mem_cons, List.not_mem_nil, or_false] at hu
 obtain ⟨p, _, rfl | rfl⟩ := hu <;> rfl
theorem ambC_take : ∀ (O : List Amb) (k : Nat), ambC (O.take k) = (ambC O).take (k * 2)
 | [], k => by simp [ambC]
 | p :: O, 0 => by simp [ambC]
 | p :: O, k + 1 => by
  have := ambC_take O k
  rw [show (k + 1) * 2 = k * 2 + 1 + 1 by omega]
  simp only [ambC, List.take_succ_cons, List.flatMap_cons, ambE, List.cons_append, List.nil_append] at this ⊢
  rw [this]
theorem ambC_drop : ∀ (O : List Amb) (k : Nat), ambC (O.drop k) = (ambC O).drop (k * 2)
 | [], k => by simp [ambC]
 | p :: O, 0 => by simp [ambC]
 | p :: O, k + 1 => by
  have := ambC_drop O k
  rw [show (k + 1) * 2 = k * 2 + 1 + 1 by omega]
  simp only [ambC, List.drop_succ_cons, List.flatMap_cons, ambE, List.cons_append, List.nil_append] at this ⊢
  rw [this]
theorem isLess_any (a b : ByteArray) (w : World) (ha : a.size ≤ 1000000) (hb : b.size ≤ 1000000) :
  Calls Tryz.prog 170 #[.string a, .string b] w fun e w' => e = .returned (.bool (lessT a.data.toList b.data.toList)) ∧ w = w' := by
 by_cases h : a.size = b.size
 ·have h1 : ((a.size : Int) != (b.size : Int)) = false := by rw [h]; simp
  have hr : Hid (lessT a.data.toList b.data.toList = Op.bytesLess a.data.toList b.data.toList) := hd_ (by
   rw [lessT, bsz, bsz, decide_eq_false (by omega), decide_eq_true h, Bool.false_or, Bool.true_and])
  clear h
  go_enter Tryz.func170, Tryz.ntmps170
  go_wp2_with fail
  go_ret
  rw [hr.out]
  exact ⟨by simp [ByteArray.toList_eq], rfl⟩
 ·have h1 : ((a.size : Int) != (b.size : Int)) = true := by rw [bne_iff_ne]; omega
  have hr : Hid (lessT a.data.toList b.data.toList = decide (a.size < b.size)) := hd_ (by
   rw [lessT, bsz, bsz, decide_eq_false (p := a.size = b.size) h, Bool.false_and, Bool.or_false])
  clear h
  go_enter Tryz.func170, Tryz.ntmps170
  go_wp2_with fail
  go_ret
  rw [hr.out]
  exact ⟨rfl, rfl⟩
abbrev amv (t r : ByteArray) : Value := .agg #[.string t, .string r]
def amO (t r : ByteArray) (o : Option Amb) : Value := match o with
 | none => .tuple #[amv ⟨#[]⟩ ⟨#[]⟩, .bool false]
 | some q => .tuple #[amv ⟨(t.data.toList ++ q.1).toArray⟩ ⟨q.2.toArray⟩, .bool true]
theorem sets2a {rb : Nat} {a V w : World} (hr : a.heap.size ≤ rb) (h1 : Below a.heap.size a V) (h2 : Below V.heap.size V w) (u0 u1 : Value) : Below a.heap.size a ((w.setCell ⟨rb, 0, none⟩ u0).setCell ⟨rb, 1, none⟩ u1) :=
 ((h1.trans (h2.mono h1.size)).setCell (p := ⟨rb, 0, none⟩) hr u0).setCell (p := ⟨rb, 1, none⟩) hr u1
theorem blk_new1a (w : World) (o : Obj) (t : TypeId) (cs : Array Value) : Blk ((w.alloc o).alloc (.cells cs t)) (w.heap.size + 1) t cs := by
 have := Blk.new (w.alloc o) t cs
 rwa [World.size_alloc] at this
theorem after_any (t r x : ByteArray) (w : World) (ht : t.size ≤ 1000000) (hr : r.size ≤ 1000) (hx : x.size ≤ 1000) :
  Calls Tryz.prog 171 #[amv t r, .string x] w fun e w' => e = .returned (amO t r (exR r.data.toList x.data.toList)) ∧ UpOf w w' := by
 have hp : Hid (∀ V : World, Calls Tryz.prog 208 #[.string r, .string x] V fun e w' => e = .returned (.bool (x.data.toList.isPrefixOf r.data.toList)) ∧ V = w') := hd_ fun V => (Tryz.strings_HasPrefix r x V).mono fun e w' h => ⟨h.1, h.2.symm⟩
 have hq : Hid (∀ V : World, Calls Tryz.prog 208 #[.string x, .string r] V fun e w' => e = .returned (.bool (r.data.toList.isPrefixOf x.data.toList)) ∧ V = w') := hd_ fun V => (Tryz.strings_HasPrefix x r V).mono fun e w' h => ⟨h.1, h.2.symm⟩
 go_enter Tryz.func171, Tryz.ntmps171
 go_upto_region 1 with (fail)
 refine wpg (R := fun V => Box V w.heap.size #[.string t, .string r] ∧ Blk V (w.heap.size + 1) 186 #[.string ⟨#[]⟩, .string ⟨#[]⟩] ∧ UpOf w V) ⟨(Box.new _ _ _).below bw_, blk_new1a _ _ _ _, uw_⟩ (fun V z => ?_)
 obtain ⟨⟨hp0, hc⟩, zb, zu⟩ := z
 have c0 : V.cell? ⟨w.heap.size, 0, none⟩ = some (.string t) := hc 0 _ rfl
 have c1 : V.cell? ⟨w.heap.size, 1, none⟩ = some (.string r) := hc 1 _ rfl
 have q0 : V.cell? ⟨w.heap.size + 1, 0, none⟩ = some (.string ⟨#[]⟩) := zb.cell 0
 have q1 : V.cell? ⟨w.heap.size + 1, 1, none⟩ = some (.string ⟨#[]⟩) := zb.cell 1
 have f0 := zb.free 0
 have f1 := zb.free 1
 have hq0 := zb.lt
 have HU := hd_ zu
 clear hc zb zu
 generalize hp9 : w.heap.size = p at hp0 c0 c1 q0 q1 f0 f1 hq0 ⊢
 generalize hq9 : p + 1 = q at hp0 c0 c1 q0 q1 f0 f1 hq0 ⊢
 have HB := hd_ (show w.heap.size ≤ q by omega)
 have hne : ¬ p = q := by omega
 clear hp9 hq9
 cases e1 : x.data.toList.isPrefixOf r.data.toList with
 | true =>
  have hP : Hid (∀ V : World, Calls Tryz.prog 208 #[.string r, .string x] V fun e w' => e = .returned (.bool true) ∧ V = w') := hd_ (by rw [← e1]; exact hp.out)
  have hle : x.size ≤ r.size := by
   have := (List.isPrefixOf_iff_prefix.1 e1).length_le
   rwa [bsz, bsz] at this
  have hr2 : Hid (amO t r (exR r.data.toList x.data.toList) = .tuple #[amv t (r.extract x.size r.size), .bool true]) := hd_ (by
   rw [exR, e1, if_pos rfl]
   show Value.tuple #[amv ⟨(t.data.toList ++ []).toArray⟩ ⟨(r.data.toList.drop x.data.toList.length).toArray⟩, .bool true] = _
   rw [List.append_nil, bs_extract, bsz, List.take_of_length_le (by rw [List.length_drop, bsz]; omega)])
  clear hp hq e1
  go_wp2_with (first | (go_at_call 208; refine (hP.out _).mono ?_; rintro e w' ⟨rfl, rfl⟩) | ((with_reducible refine wru ?_); (repeat (go_big_quiet_step (fail))); refine wqn fun nq => ?_))
  go_still_tail 8, (by kernel_rfl)
  change wpList _ _ _ _ _ (World.drew _)
  go_wp2_with fail
  refine bodyPost_ret (v := .tuple #[amv t (r.extract x.size r.size), .bool true]) (by simp [results, Tryz.results171, go_sem, hq0, q0, q1]) rfl ⟨by rw [hr2.out], UpOf.of (Below.drew (sets2a HB.out HU.out.below bw_ _ _))⟩
 | false =>
  have hP : Hid (∀ V : World, Calls Tryz.prog 208 #[.string r, .string x] V fun e w' => e = .returned (.bool false) ∧ V = w') := hd_ (by rw [← e1]; exact hp.out)
  cases e2 : r.data.toList.isPrefixOf x.data.toList with
  | true =>
   have hQ : Hid (∀ V : World, Calls Tryz.prog 208 #[.string x, .string r] V fun e w' => e = .returned (.bool true) ∧ V = w') := hd_ (by rw [← e2]; exact hq.out)
   have hle : r.size ≤ x.size := by
    have := (List.isPrefixOf_iff_prefix.1 e2).length_le
    rwa [bsz, bsz] at this
   have hr2 : Hid (amO t r (exR r.data.toList x.data.toList) = .tuple #[amv (t ++ x.extract r.size x.size) (x.extract r.size x.size), .bool true]) := hd_ (by
    rw [exR, e1, e2, if_neg (by simp), if_pos rfl]
    have e : (⟨(x.data.toList.drop r.data.toList.length).toArray⟩ : ByteArray) = x.extract r.size x.size := by
     rw [bs_extract, bsz, List.take_of_length_le (by rw [List.length_drop, bsz]; omega)]
    show Value.tuple #[amv ⟨(t.data.toList ++ x.data.toList.drop r.data.toList.length).toArray⟩ ⟨(x.data.toList.drop r.data.toList.length).toArray⟩, .bool true] = _
    rw [e]
    congr 4
    rw [← e]
    apply ByteArray.ext
    apply Array.ext'
    simp)
   clear hp hq e1 e2
   go_wp2_with fail
   refine (hP.out _).mono ?_
   rintro e w' ⟨rfl, rfl⟩
   go_wp2_with fail
   refine (hQ.out _).mono ?_
   rintro e w' ⟨rfl, rfl⟩
   go_wp2_with fail
   exact bodyPost_ret (v := .tuple #[amv (t ++ x.extract r.size x.size) (x.extract r.size x.size), .bool true]) (by simp [results, Tryz.results171, go_sem, hq0, q0, q1]) rfl ⟨by rw [hr2.out], UpOf.of (sets2a HB.out HU.out.below bw_ _ _)⟩
  | false =>
   have hQ : Hid (∀ V : World, Calls Tryz.prog 208 #[.string x, .string r] V fun e w' => e = .returned (.bool false) ∧ V = w') := hd_ (by rw [← e2]; exact hq.out)
   have hr2 : Hid (amO t r (exR r.data.toList x.data.toList) = .tuple #[amv ⟨#[]⟩ ⟨#[]⟩, .bool false]) := hd_ (by rw [exR, e1, e2]; rfl)
   clear hp hq e1 e2
   go_wp2_with fail
   refine (hP.out _).mono ?_
   rintro e w' ⟨rfl, rfl⟩
   go_wp2_with fail
   refine (hQ.out _).mono ?_
   rintro e w' ⟨rfl, rfl⟩
   go_wp2_with fail
   exact bodyPost_ret (v := .tuple #[amv ⟨#[]⟩ ⟨#[]⟩, .bool false]) (by simp [results, Tryz.results171, go_sem, hq0, q0, q1]) rfl ⟨by rw [hr2.out], UpOf.of (sets2a HB.out HU.out.below bw_ _ _)⟩
theorem el_amb : ElemOf Tryz.prog 183 186 (.agg #[.string ByteArray.empty, .string ByteArray.empty]) 2 32 := elem_of Tryz.underlying183 (by kernel_rfl) rfl (by omega)
theorem lists_get {ws : List ByteArray} {i : Nat} (h : i < ws.length) : (lists ws)[i]? = some (wd ws i).data.toList := by
 rw [lists, List.getElem?_map, List.getElem?_eq_getElem h, wd_eq h]; rfl
theorem lists_len (ws : List ByteArray) : (lists ws).length = ws.length := by simp [lists]
theorem amb_cells (t r : ByteArray) : ambC [(t.data.toList, r.data.toList)] = [.string t, .string r] := by
 cases t; cases r; simp [ambC, ambE]
theorem firstRests_any (A : Option Addr) (c : Nat) (ws : List ByteArray) (w : World) (h : Rds w 1 A ws.length (strs ws)) (hn : ws.length ≤ 10) (h8 : ∀ i, i < ws.length → (wd ws i).size ≤ 8) :
  Calls Tryz.prog 169 #[.slice A ws.length c] w fun e w' => ∃ g cp O, e = .returned (.slice g O.length cp) ∧ FR (lists ws) O ws.length 0 ∧ w'.ownsRow w.heap.size 186 2 (.slice g O.length cp) O.length (ambC O) ∧ UpOf w w' := by
 have HR := hd_ h
 have H8 := hd_ h8
 have hOwn := hd_ (World.ownsRow_lit (base := w.heap.size) (e := 186) (size := 2) w #[] 0 (Nat.le_refl _) (by unfold maxLen; omega) rfl)
 clear h h8
 go_enter Tryz.func169, Tryz.ntmps169
 go_wp2_with fail
 go_loopw [3, 11] (fun t3 t11 wr => ∃ (i : Nat) (g : Option Addr) (cp : Nat) (O : List Amb), i ≤ ws.length ∧ t11 = i64 i ∧ t3 = .slice g O.length cp ∧ Hid (FR (lists ws) O i 0) ∧ Hid (wr.ownsRow w.heap.size 186 2 (.slice g O.length cp) O.length (ambC O)) ∧ ∃ g : Up w, wr = up w g) (fun _ t11 _ => ws.length - (intOf t11).toNat)
 case atStart => exact ⟨0, _, _, [], by omega, rfl, rfl, hd_ (FR.start _), hd_ hOwn.out, ex_up bw_⟩
 case round =>
  obtain ⟨i, g, cp, O, hi, rfl, rfl, HF, HO, gw, rfl⟩ := hrel
  clear hOwn
  by_cases hlt : i < ws.length
  ·obtain ⟨b, off, rfl, hb, c0⟩ := wd_at HR.out hlt
   have HC0 := hd_ c0
   have ci := c0 i hlt
   have s1 := H8.out i hlt
   clear c0
   go_wp2_with fail
   go_loopw [3, 18] (fun t3 t18 wr => ∃ (k : Nat) (g : Option Addr) (cp : Nat) (O : List Amb), k ≤ ws.length ∧ t18 = i64 k ∧ t3 = .slice g O.length cp ∧ Hid (FR (lists ws) O i k) ∧ Hid (wr.ownsRow w.heap.size 186 2 (.slice g O.length cp) O.length (ambC O)) ∧ ∃ g : Up w, wr = up w g) (fun _ t18 _ => ws.length - (intOf t18).toNat)
   case atStart => exact ⟨0, g, cp, O, by omega, rfl, rfl, HF, hd_ (own_below HO.out bw_), _, rfl⟩
   case round =>
    obtain ⟨k, g, cp, O, hk, rfl, rfl, HF, HO, gw2, rfl⟩ := hrel
    by_cases hlk : k < ws.length
    ·have ck := HC0.out k hlk
     have s2 := H8.out k hlk
     by_cases hne : i = k
     ·have ht : ((i : Int) != (k : Int)) = false := by rw [hne]; simp
      have HF2 := hd_ (HF.out.skip (fun u v hn => absurd hne hn))
      clear hne
      go_wp2_with fail
      go_roundw
      case rel => exact ⟨k + 1, g, cp, O, by omega, by go_num, rfl, HF2, hd_ (own_below HO.out bw_), _, rfl⟩
      case measure => simp [intOf]; try omega
     ·have ht : ((i : Int) != (k : Int)) = true := by rw [bne_iff_ne]; omega
      cases hp : (wd ws i).data.toList.isPrefixOf (wd ws k).data.toList with
      | false =>
       have hP : Hid (∀ V : World, Calls Tryz.prog 208 #[.string (wd ws k), .string (wd ws i)] V fun e w' => e = .returned (.bool false) ∧ V = w') := hd_ fun V => (Tryz.strings_HasPrefix _ _ V).mono fun e w' h => ⟨by rw [h.1, ← hp]; rfl, h.2.symm⟩
       have HF2 := hd_ (HF.out.skip (fun u v _ hu hv => by
        rw [lists_get hlt] at hu; injection hu with hu
        rw [lists_get hlk] at hv; injection hv with hv
        rw [← hu, ← hv]; exact hp))
       clear hp hne
       go_wp2_with (first | (go_at_call 208; refine (hP.out _).mono ?_; rintro e w' ⟨rfl, rfl⟩))
       go_roundw
       case rel => exact ⟨k + 1, g, cp, O, by omega, by go_num, rfl, HF2, hd_ (own_below HO.out bw_), _, rfl⟩
       case measure => simp [intOf]; try omega
      | true =>
       have hP : Hid (∀ V : World, Calls Tryz.prog 208 #[.string (wd ws k), .string (wd ws i)] V fun e w' => e = .returned (.bool true) ∧ V = w') := hd_ fun V => (Tryz.strings_HasPrefix _ _ V).mono fun e w' h => ⟨by rw [h.1, ← hp]; rfl, h.2.symm⟩
       have hle : (wd ws i).size ≤ (wd ws k).size := by
        have := (List.isPrefixOf_iff_prefix.1 hp).length_le
        rwa [bsz, bsz] at this
       have hex : ((wd ws k).data.toList, (wd ws k).data.toList.drop (wd ws i).data.toList.length) = ((wd ws k).data.toList, ((wd ws k).extract (wd ws i).size (wd ws k).size).data.toList) := by
        rw [bs_extract, bs_list, bsz, List.take_of_length_le (by rw [List.length_drop, bsz]; omega)]
       have HF2 := hd_ (HF.out.add hne (lists_get hlt) (lists_get hlk) hp)
       rw [hex] at HF2
       have hOl : O.length ≤ 200 := by have := HF.out.len; omega
       clear hp hne hex
       obtain ⟨V, hV⟩ : ∃ V, wd ws k = V := ⟨_, rfl⟩
       rw [hV] at hP HF2 hle ck s2
       obtain ⟨X, hX⟩ : ∃ X, V.extract (wd ws i).size V.size = X := ⟨_, rfl⟩
       have hrds : Rds (up w (gw2.al (.cells #[.string V, .string X] 186))) 2 (some ⟨(up w gw2).heap.size, 0, none⟩) 1 [.string V, .string X] := rds_new (up w gw2) _ _ 2 1 rfl
       have hown : (up w (gw2.al (.cells #[.string V, .string X] 186))).ownsRow w.heap.size 186 2 (.slice g O.length cp) O.length (ambC O) := own_below HO.out bw_
       have hone : ∀ u ∈ [Value.string V, Value.string X], u.oneCell' = true := fun u hu => by
        simp only [List.mem_cons, List.not_mem_nil, or_false] at hu
        obtain rfl | rfl := hu <;> rfl
       have hm1 : O.length + 1 ≤ maxLen := by unfold maxLen; omega
       have hm2 : (O.length + 1) * 32 ≤ 140737488355328 := by omega
       have hm3 : w.heap.size ≤ (up w (gw2.al (.cells #[.string V, .string X] 186))).heap.size := (up_below w _).size
       have hm4 : Below w.heap.size w (up w (gw2.al (.cells #[.string V, .string X] 186))) := bw_
       have HA := hd_ hrds
       have HB := hd_ hown
       have HC := hd_ hone
       have HM := hd_ hm4
       have HX := hd_ hX
       rw [hX] at HF2
       clear hrds hown hone hm4 hV
       go_wp2_with (first | (go_at_call 208; refine (hP.out _).mono ?_; rintro e w' ⟨rfl, rfl⟩) | (at_builtin; refine wpl_appU rfl _ _ 183 rfl w w.heap.size 186 _ 2 32 el_amb (.slice g O.length cp) O.length (ambC O) rfl HB.out _ 1 1 _ rfl HA.out HC.out hm1 hm2 hm3 HM.out (Nat.le_refl _) ?_; intro A2 c2 g2 o2))
       go_roundw
       case rel => exact ⟨k + 1, A2, c2, _, by omega, by go_num, congrArg (fun n => Value.slice A2 n c2) (by simp), HF2, hd_ (by rw [List.length_append, ambC_app, amb_cells]; exact o2), _, rfl⟩
       case measure => simp [intOf]; try omega
    ·obtain rfl : k = ws.length := by omega
     have HF2 := hd_ (FR.row (by rw [lists_len]; exact HF.out) (by rw [lists_len]; omega))
     go_wp2_with fail
     refine ⟨⟨i + 1, g, cp, O, by omega, by go_num, rfl, HF2, hd_ (own_below HO.out bw_), _, rfl⟩, by simp [intOf]; try omega⟩
  ·obtain rfl : i = ws.length := by omega
   go_wp2_with fail
   go_ret
   exact ⟨g, cp, O, rfl, HF.out, own_below HO.out bw_, uw_⟩
end Go.Proofs.YtbianlkenallaaaGreatDoor
namespace Go.Proofs.YtbianlkenallaaaGreatDoor
open Go.RowKit Go.Maps
def TxtAt (w : World) (P : Program) (k e : TypeId) (b n : Nat) (R : List (List UInt8 × List UInt8)) : Prop :=
 ∃ D : DataW Unit, w.ownsMap P k (plainElem P e) b n D ∧ IsMap D ∧ (∀ s, Maps.has D (.string s) = true ↔ ∃ t, (s, t) ∈ R) ∧ ∀ s t z, (s, t) ∈ R → D.atKey (.string s) z = .lit (.string t)
section
variable {w w' : World} {P : Program} {k e t : TypeId} {b n : Nat} {R : List (List UInt8 × List UInt8)}
theorem TxtAt.made (w : World) (P : Program) (k e : TypeId) : TxtAt (w.alloc (.map #[] 0)) P k e w.heap.size 0 [] :=
 ⟨.map [], World.ownsMap_made _ _ _ _, isMap_empty, fun s => ⟨fun h => (by cases h), fun ⟨_, h⟩ => (by cases h)⟩, fun s t z h => (by cases h)⟩
theorem TxtAt.lt (h : TxtAt w P k e b n R) : b < w.heap.size := by obtain ⟨D, h, _⟩ := h; exact h.lt
theorem TxtAt.kept {row : Option Nat} (h : TxtAt w P k e b n R) (hg : w.grownBy w' row) (hne : some b ≠ row) : TxtAt w' P k e b n R := by
 obtain ⟨D, h1, h2, h3⟩ := h
 exact ⟨D, h1.kept hg hne, h2, h3⟩
theorem TxtAt.below (h : TxtAt w P k e b n R) (hb : Below w.heap.size w w') : TxtAt w' P k e b n R :=
 h.kept (row := none) (grown_up ⟨w', hb⟩ none) (by simp)
theorem str_keyOf {P : Program} {k : TypeId} (hk : P.underlying k = some .string) {s : ByteArray} (hs : s.size ≤ maxLen) : keyOf P k (.string s) = some (.string s.data.toList) := WideMaps.keyOf_string_mk hk hs
theorem TxtAt.look (h : TxtAt w P k e b n R) (ht : P.underlying t = some (.map k e)) (hk : P.underlying k = some .string) (he : P.underlying e = some .string) (hz : ∀ w, (zeroValue e).run P w = .ok (.string ⟨#[]⟩) w)
  (s : ByteArray) (hs : s.size ≤ maxLen) {x : List UInt8} (hx : (s.data.toList, x) ∈ R) : ∀ g : Up w, (Instr.lookup t (.map (some b)) (.string s) true).run P (up w g) = .ok (.tuple #[.string ⟨x.toArray⟩, .bool true]) (up w g) := fun g => by
 obtain ⟨D, h1, h2, h3, h4⟩ := h
 obtain ⟨v, ps, hrun, hv⟩ := (h1.kept (grown_up g none) (by simp)).look_ok (string_keyed hk) ht (hz _) (plainElem_string (s := ⟨#[]⟩) he (by decide)) (str_keyOf hk hs)
 obtain ⟨c, rfl, hc, _⟩ := plainElem_string_inv he hv
 rw [(h3 _).2 ⟨x, hx⟩] at hrun
 have := congrArg Prod.fst hc
 dsimp only at this
 rw [h4 _ _ _ hx] at this
 injection this with this
 injection this with this
 rw [hrun, this]
theorem TxtAt.look_no (h : TxtAt w P k e b n R) (ht : P.underlying t = some (.map k e)) (hk : P.underlying k = some .string) (he : P.underlying e = some .string) (hz : ∀ w, (zeroValue e).run P w = .ok (.string ⟨#[]⟩) w)
  (s : ByteArray) (hs : s.size ≤ maxLen) (hx : ∀ x, (s.data.toList, x) ∉ R) : ∃ y, ∀ g : Up w, (Instr.lookup t (.map (some b)) (.string s) true).run P (up w g) = .ok (.tuple #[.string y, .bool false]) (up w g) := by
 obtain ⟨D, h1, h2, h3, h4⟩ := h
 have hf : Maps.has D (.string s.data.toList) = false := by
  cases hh : Maps.has D (.string s.data.toList)
  ·rfl
  ·obtain ⟨x, hx'⟩ := (h3 _).1 hh
   exact absurd hx' (hx x)
 have key : ∀ g : Up w, ∃ c : ByteArray, (Instr.lookup t (.map (some b)) (.string s) true).run P (up w g) = .ok (.tuple #[.string c, .bool false]) (up w g) ∧ D.atKey (.string s.data.toList) (.lit (.string [])) = .lit (.string c.data.toList) := fun g => by
  obtain ⟨v, ps, hrun, hv⟩ := (h1.kept (grown_up g none) (by simp)).look_ok (string_keyed hk) ht (hz _) (plainElem_string (s := ⟨#[]⟩) he (by decide)) (str_keyOf hk hs)
  obtain ⟨c, rfl, hc, _⟩ := plainElem_string_inv he hv
  rw [hf] at hrun
  exact ⟨c, hrun, congrArg Prod.fst hc⟩
 obtain ⟨c, _, hc⟩ := key ⟨w, Below.refl _ _⟩
 refine ⟨c, fun g => ?_⟩
 obtain ⟨c', hrun, hc'⟩ := key g
 rw [hc] at hc'
 injection hc' with hc'
 injection hc' with hc'
 rw [hrun, ba_ext hc']
theorem TxtAt.put (h : TxtAt w P k e b n R) (ht : P.underlying t = some (.map k e)) (hk : P.underlying k = some .string) (he : P.underlying e = some .string) (hn : n < maxLen) (s x : ByteArray) (hs : s.size ≤ maxLen) (hx : x.size ≤ maxLen)
  (hnew : ∀ y, (s.data.toList, y) ∉ R) :
  ∃ w', (Instr.mapUpdate t (.map (some b)) (.string s) (.string x)).run P w = .ok () w' ∧ TxtAt w' P k e b (n + 1) ((s.data.toList, x.data.toList) :: R) ∧ w.grownBy w' (some b) := by
 obtain ⟨D, h1, h2, h3, h4⟩ := h
 obtain ⟨w', hrun, r1, r2⟩ := h1.update (string_keyed hk) ht hn (str_keyOf hk hs) (plainElem_string he hx)
 refine ⟨w', hrun, ⟨_, r1, h2.put _ _, fun s' => ?_, fun s' t' z hm => ?_⟩, r2⟩
 ·by_cases hh : s' = s.data.toList
  ·subst hh
   rw [has_put_same h2 (by simp [WideAt.IsKeyLit])]
   exact ⟨fun _ => ⟨_, List.mem_cons_self ..⟩, fun _ => rfl⟩
  ·rw [has_put_other (fun h => hh (by injection h with h)), h3 s']
   constructor
   ·rintro ⟨y, hy⟩; exact ⟨y, List.mem_cons_of_mem _ hy⟩
   ·rintro ⟨y, hy⟩
    rcases List.mem_cons.1 hy with he | hy
    ·injection he with he _; exact absurd he hh
    ·exact ⟨y, hy⟩
 ·rcases List.mem_cons.1 hm with he | hm
  ·injection he with e1 e2
   subst e1; subst e2
   have hk0 : WideAt.IsKeyLit (Lit.string s.data.toList) := by simp [WideAt.IsKeyLit]
   rw [atKey_put_same h2 hk0]
  ·have hh : s' ≠ s.data.toList := fun e1 => hnew t' (e1 ▸ hm)
   rw [atKey_put_other (fun h => hh (by injection h with h))]
   exact h4 _ _ _ hm
end
theorem wpl_txtPut {P : Program} (w : World) {ops : Array Oper} {rest : List Oper} {o : Oper} {a : Act} {Q : Exit → Act → World → Prop}
  (hg : o.guard = none) (m x v : Operand) (t : TypeId) (hop : o.op = Op.mapUpdate t m x v)
  (k e : TypeId) (ht : P.underlying t = some (.map k e)) (hk : P.underlying k = some .string) (he : P.underlying e = some .string) (b n : Nat) (R : List (List UInt8 × List UInt8))
  (hm : a.eval m = .map (some b)) (hown : TxtAt w P k e b n R) (hn : n < maxLen) (s y : ByteArray) (hs : s.size ≤ maxLen) (hy : y.size ≤ maxLen) (hnew : ∀ z, (s.data.toList, z) ∉ R) (hx : a.eval x = .string s) (hv : a.eval v = .string y)
  (hK : ∀ w', TxtAt w' P k e b (n + 1) ((s.data.toList, y.data.toList) :: R) → w.grownBy w' (some b) → wpList P ops Q rest (a.put o.dst undef) w') :
  wpList P ops Q (o :: rest) a w := by
 refine wpList_plain hg fun K' hK' => ?_
 obtain ⟨w', hrun, r1, r2⟩ := hown.put ht hk he hn s y hs hy hnew
 unfold Oper.wp
 simp [execOp, hop, hm, hx, hv, hrun, Result.andThen]
 exact hK' _ _ (hK w' r1 r2)
end Go.Proofs.YtbianlkenallaaaGreatDoor
namespace Go.Proofs.YtbianlkenallaaaGreatDoor
open Go.RowKit
structure RS (w wr : World) (g : Option Addr) (cp mb : Nat) (O R : List Amb) : Prop where
 own : wr.ownsRow w.heap.size 186 2 (.slice g O.length cp) O.length (ambC O)
 map : TxtAt wr Tryz.prog 9 9 mb R.length R
 hm : w.heap.size ≤ mb
 ne : (Value.slice g O.length cp).ownBlock ≠ some mb
 bel : Below w.heap.size w wr
theorem own_capR {w : World} {base e size n c : Nat} {A : Option Addr} {xs : List Value} (h : w.ownsRow base e size (.slice A n c) n xs) : n ≤ c := by
 obtain ⟨_, ⟨h1, h2⟩ | ⟨g, cap, cur, h1, _, _, h3, _⟩⟩ := h
 ·omega
 ·injection h1 with _ _ h1
  omega
theorem own_some {w : World} {base e size n c : Nat} {A : Option Addr} {xs : List Value} (h : w.ownsRow base e size (.slice A n c) n xs) (hn : 0 < n) : ∃ g, A = some ⟨g, 0, none⟩ := by
 obtain ⟨_, ⟨_, h2⟩ | ⟨g, cap, cur, h1, _⟩⟩ := h
 ·omega
 ·injection h1 with h1
  exact ⟨g, h1⟩
theorem own_pre {w : World} {base e size n c g : Nat} {xs : List Value} (h : w.ownsRow base e size (.slice (some ⟨g, 0, none⟩) n c) n xs) {m : Nat} (hm : m ≤ n) : w.ownsRow base e size (.slice (some ⟨g, 0, none⟩) m c) m (xs.take (m * size)) := by
 obtain ⟨h0, ⟨h1, h2⟩ | ⟨g', cap, cur, h1, hb, hg, hnc, hcm, hcs, ht⟩⟩ := h
 ·cases h1
 ·injection h1 with e1 e2 e3
  injection e1 with e1
  injection e1 with e1
  subst e1; subst e3
  have hle : m * size ≤ n * size := Nat.mul_le_mul_right _ hm
  refine ⟨by rw [List.length_take, h0]; omega, .inr ⟨g, c, cur, rfl, hb, hg, by omega, hcm, hcs, ?_⟩⟩
  rw [← ht, List.take_take, Nat.min_eq_left hle]
theorem step_fits {P : Program} {ops : Array Oper} {o : Oper} {a : Act} {w : World} {K : Act → World → Prop} {Q : Exit → Act → World → Prop} {E : Prop} (hgd : o.guard = none) (s x : Operand) (t : TypeId)
  (ho : o.op = .call { callee := .builtin .append, args := #[s, x], argTypes := #[t, t] })
  (base : Nat) (e : TypeId) (z : Value) (size bytes : Nat) (el : ElemOf P t e z size bytes)
  (g n cap : Nat) (xs : List Value) (hs : a.eval s = .slice (some ⟨g, 0, none⟩) n cap) (hown : w.ownsRow base e size (.slice (some ⟨g, 0, none⟩) n cap) n xs)
  (b off m c : Nat) (news : List Value) (hx : a.eval x = .slice (some ⟨b, off, none⟩) m c) (hr : Rds w size (some ⟨b, off, none⟩) m news) (h1 : ∀ u ∈ news, u.oneCell' = true) (hroom : n + m ≤ cap)
  (h : ∀ w', w'.ownsRow base e size (.slice (some ⟨g, 0, none⟩) (n + m) cap) (n + m) (xs ++ news) → w.grownBy w' (some g) → K (a.put o.dst (.slice (some ⟨g, 0, none⟩) (n + m) cap)) w') :
  if Region.wanted o (yielded ops a.tmps) = true then Oper.wp P o a w K Q else E := by
 have hw : Region.wanted o (yielded ops a.tmps) = true := by simp [Region.wanted, hgd]
 rw [if_pos hw]
 obtain ⟨ht, hzs, hsz, i, hi, hz, hsize, hby⟩ := el
 obtain ⟨w', hrun, r1, r2⟩ := run_append_fits (P := P) w base t o.type e i size ht hi hsize g n cap xs hown ⟨b, off, none⟩ m c news hr.1 (fun j u hu => by
  have hj : j < news.length := (List.getElem?_eq_some_iff.1 hu).1
  obtain ⟨b', off', e, _, hc⟩ := hr.2 (by rw [← hr.1]; omega)
  injection e with e
  injection e with e1 e2
  subst e1 e2
  have hadd : (⟨b, off, none⟩ : Addr).add j = ⟨b, off + j, none⟩ := by unfold Addr.add; split <;> simp_all
  rw [hadd]
  exact hc j u hu) h1 hroom
 unfold Oper.wp execOp
 simp only [ho, resolve, invoke, builtin, Sem.run_bind, Sem.run_pure, Result.andThen_ok, List.map_toArray, List.map_cons, List.map_nil, hs, hx, hrun]
 exact h w' r1 r2
section
variable {w wr wr' : World} {g : Option Addr} {cp mb : Nat} {O R : List Amb}
theorem RS.below (h : RS w wr g cp mb O R) (hb : Below wr.heap.size wr wr') : RS w wr' g cp mb O R :=
 ⟨own_below h.own hb, h.map.below hb, h.hm, h.ne, h.bel.trans (hb.mono h.bel.size)⟩
theorem am_at {g0 : Nat} (h : RS w wr (some ⟨g0, 0, none⟩) cp mb O R) {i : Nat} (hi : i < O.length) : g0 < wr.heap.size ∧ wr.cell? ⟨g0, i * 2, none⟩ = some (.string ⟨(om O i).1.toArray⟩) ∧ wr.cell? ⟨g0, i * 2 + 1, none⟩ = some (.string ⟨(om O i).2.toArray⟩) := by
 obtain ⟨b, off, e, hb, hc⟩ := rds_elem ambE_len (l := O) (Rds.of_own h.own) hi (by omega)
 injection e with e
 injection e with e1 e2
 subst e1 e2
 have e3 : O[i] = om O i := by rw [om, List.getD_eq_getElem?_getD, List.getElem?_eq_getElem hi]; rfl
 have h0 := hc 0 _ rfl
 have h1 := hc 1 _ rfl
 rw [e3] at h0 h1
 simp only [Nat.zero_add, Nat.add_zero] at h0 h1
 exact ⟨hb, h0, h1⟩
theorem RS.cut {g0 : Nat} (h : RS w wr (some ⟨g0, 0, none⟩) cp mb O R) {i m : Nat} {w9 : World} {xs : List Value} (hi : i < O.length)
  (h1 : w9.ownsRow w.heap.size 186 2 (.slice (some ⟨g0, 0, none⟩) m cp) m xs) (hm : m = (O.take i ++ O.drop (i + 1)).length) (hx : xs = ambC (O.take i ++ O.drop (i + 1))) (h2 : wr.grownBy w9 (some g0)) :
  RS w w9 (some ⟨g0, 0, none⟩) cp mb (O.take i ++ O.drop (i + 1)) R where
 own := by rw [← hm, ← hx]; exact h1
 map := h.map.kept h2 (fun e => h.ne (by simp only [Value.ownBlock]; exact e.symm))
 hm := h.hm
 ne := by
  have := h.ne
  simpa [Value.ownBlock] using this
 bel := h.bel.grown h2 h.bel.size (fun k hk => by
  injection hk with hk
  subst hk
  exact (h.own.lt g0 rfl).1)
theorem RS.put (h : RS w wr g cp mb O R) {w9 : World} {r t : List UInt8} (h1 : TxtAt w9 Tryz.prog 9 9 mb (R.length + 1) ((r, t) :: R)) (h2 : wr.grownBy w9 (some mb)) : RS w w9 g cp mb O ((r, t) :: R) where
 own := h.own.kept h2 (.inr h.ne)
 map := h1
 hm := h.hm
 ne := h.ne
 bel := h.bel.grown h2 h.bel.size (fun k hk => by
  injection hk with hk
  subst hk
  exact h.hm)
theorem RS.add (h : RS w wr g cp mb O R) {w9 : World} {g' c' : Nat} {q : Amb}
  (h1 : w9.ownsRow w.heap.size 186 2 (.slice (some ⟨g', 0, none⟩) (O.length + 1) c') (O.length + 1) (ambC O ++ ambC [q])) (h2 : wr.grownBy w9 (Value.slice g O.length cp).ownBlock) (h3 : (Value.slice g O.length cp).ownBlock = some g' ∨ g' = wr.heap.size) :
  RS w w9 (some ⟨g', 0, none⟩) c' mb (O ++ [q]) R where
 own := by rw [ambC_app, List.length_append]; exact h1
 map := h.map.kept h2 (fun e => h.ne e.symm)
 hm := h.hm
 ne := by
  simp only [Value.ownBlock]
  intro e
  injection e with e
  subst e
  rcases h3 with h3 | h3
  ·exact h.ne h3
  ·have := h.map.lt; omega
 bel := h.bel.grown h2 h.bel.size (fun k hk => (h.own.lt k hk).1)
end
theorem zeroStr (w : World) : (zeroValue 9).run Tryz.prog w = .ok (.string ⟨#[]⟩) w := by kernel_rfl
def rtPost (ws : List ByteArray) (w : World) (e : Ending) (w' : World) : Prop := ∃ mb R, e = .returned (.map (some mb)) ∧ TxtAt w' Tryz.prog 9 9 mb R.length R ∧ Dij (lists ws) [] R ∧ UpOf w w'
theorem restTexts_any (A : Option Addr) (c : Nat) (ws : List ByteArray) (w : World) (h : Rds w 1 A ws.length (strs ws)) (hn : ws.length ≤ 10) (h8 : ∀ i, i < ws.length → (wd ws i).size ≤ 8) :
  Calls Tryz.prog 129 #[.slice A ws.length c] w fun e w' => rtPost ws w e w' := by
 have HR := hd_ h
 have H8 := hd_ h8
 have HF : Hid (∀ V, Below w.heap.size w V → Calls Tryz.prog 169 #[.slice A ws.length c] V fun e w' => ∃ g cp O, e = .returned (.slice g O.length cp) ∧ FR (lists ws) O ws.length 0 ∧ w'.ownsRow V.heap.size 186 2 (.slice g O.length cp) O.length (ambC O) ∧ UpOf V w') := hd_ fun V hV => firstRests_any A c ws V (HR.out.below hV) hn H8.out
 have HW8 : Hid (∀ x ∈ lists ws, x.length ≤ 8) := hd_ fun x hx => by
  rw [lists, List.mem_map] at hx
  obtain ⟨y, hy, rfl⟩ := hx
  obtain ⟨i, hi, rfl⟩ := List.getElem_of_mem hy
  have := H8.out i hi
  rw [← wd_eq hi] at this
  exact this
 have HW10 : Hid ((lists ws).length ≤ 10) := hd_ (by rw [lists_len]; exact hn)
 have hmm := @run_makeMap Tryz.prog
 clear h h8
 go_enter Tryz.func129, Tryz.ntmps129
 go_wp2_with fail
 refine (HF.out _ bw_).mono ?_
 rintro e w' ⟨g, cp, O, rfl, hfr, hown, hup⟩
 have HJ := hd_ (JW.start HW8.out HW10.out (by rw [lists_len]; exact hfr))
 have HS0 := hd_ (show RS w (w'.alloc (.map #[] 0)) g cp w'.heap.size O [] from
  ⟨own_below (own_mono hown (Nat.le_refl _)) bw_, TxtAt.made _ _ _ _, hup.below.size, fun e => by have := (hown.lt _ e).2; omega, hup.below.alloc hup.below.size _⟩)
 clear hfr hown HF
 go_upto_region 2 with (fail)
 obtain ⟨mb, hmb⟩ : ∃ mb, w'.heap.size = mb := ⟨_, rfl⟩
 rw [hmb] at HS0
 rw [hmb]
 clear hmb hmm hup
 go_loopg [3] 3000 (fun gk t3 wr => ∃ (g : Option Addr) (cp : Nat) (O R : List Amb), t3 = .slice g O.length cp ∧ Hid (RS w wr g cp mb O R) ∧ Hid (JW (lists ws) O R) ∧ (90 - R.length) * 20 + O.length ≤ gk)
 case atStart => exact ⟨g, cp, O, [], rfl, HS0, HJ, by have := HJ.out.ol; simp at this ⊢; omega⟩
 case round =>
  obtain ⟨g, cp, O, R, rfl, HS, HJ, hgk⟩ := hrel
  clear HS0
  by_cases h0 : O.length = 0
  ·have h0' : ¬ (0 : Int) < (O.length : Int) := by omega
   have hO : Hid (O = []) := hd_ (List.eq_nil_of_length_eq_zero h0)
   clear h0
   go_wp2_with fail
   go_ret
   refine ⟨mb, R, rfl, HS.out.map, ?_, UpOf.of HS.out.bel⟩
   have := HJ.out.d
   rw [hO.out] at this
   exact this
  ·obtain ⟨g0, rfl⟩ := own_some HS.out.own (by omega)
   have hpos : (0 : Int) < (O.length : Int) := by omega
   have hposN : 0 < O.length := by omega
   have hposD : decide (0 < O.length) = true := decide_eq_true hposN
   have hOl : O.length ≤ 1000 := by have := HJ.out.ol; have := HJ.out.rl HW8.out HW10.out; omega
   have hcapO : O.length ≤ cp := own_capR HS.out.own
   have HB := hd_ (show ∀ i, i < O.length → (⟨(om O i).1.toArray⟩ : ByteArray).size ≤ 1000 ∧ (⟨(om O i).2.toArray⟩ : ByteArray).size ≤ 8 from fun i hi => by
    have h1 := HJ.out.ob (om O i) (om_mem hi)
    have h2 := HJ.out.rest HW8.out (om_mem hi)
    have h3 := HJ.out.rl HW8.out HW10.out
    show (om O i).1.length ≤ 1000 ∧ (om O i).2.length ≤ 8
    omega)
   go_wp2_with fail
   go_loopw [5, 23] (fun t5 t23 wr => ∃ i b : Nat, i ≤ O.length ∧ b < O.length ∧ t23 = i64 i ∧ t5 = i64 b ∧ Hid (∀ x, x < i → leT (om O b).1 (om O x).1) ∧ Hid (RS w wr (some ⟨g0, 0, none⟩) cp mb O R)) (fun _ t23 _ => O.length - (intOf t23).toNat)
   case atStart => exact ⟨0, 0, by omega, by omega, rfl, rfl, hd_ (fun x hx => by omega), HS⟩
   case round =>
    obtain ⟨i, b, hi, hb, rfl, rfl, HM, HT⟩ := hrel
    clear HS
    by_cases hlt : i < O.length
    ·obtain ⟨y0, y1, y2⟩ := am_at HT.out hlt
     obtain ⟨_, z1, z2⟩ := am_at HT.out hb
     have HL : Hid (∀ V : World, Calls Tryz.prog 170 #[.string ⟨(om O i).1.toArray⟩, .string ⟨(om O b).1.toArray⟩] V fun e w' => e = .returned (.bool (lessT (om O i).1 (om O b).1)) ∧ V = w') := hd_ fun V => by
      have := isLess_any ⟨(om O i).1.toArray⟩ ⟨(om O b).1.toArray⟩ V (by have := (HB.out i hlt).1; omega) (by have := (HB.out b hb).1; omega)
      simpa using this
     cases hls : lessT (om O i).1 (om O b).1 with
     | true =>
      have HL2 : Hid (∀ V : World, Calls Tryz.prog 170 #[.string ⟨(om O i).1.toArray⟩, .string ⟨(om O b).1.toArray⟩] V fun e w' => e = .returned (.bool true) ∧ V = w') := hd_ (by rw [← hls]; exact HL.out)
      have HM2 := hd_ (lt_ext (P := fun x => leT (om O i).1 (om O x).1) (fun x hx => leT_trans (leT_of_less hls) (HM.out x hx)) (leT_refl _))
      clear HL hls HM
      go_wp2_with (first | ((with_reducible refine wru ?_); (repeat (go_big_quiet_step (first | (go_at_call 170; exact uqs_ (HL2.out _))))); refine wqn fun nq => ?_))
      go_roundw
      case rel => exact ⟨i + 1, i, by omega, hlt, by go_num, rfl, HM2, hd_ (HT.out.below bw_)⟩
      case measure => simp [intOf]; try omega
     | false =>
      have HL2 : Hid (∀ V : World, Calls Tryz.prog 170 #[.string ⟨(om O i).1.toArray⟩, .string ⟨(om O b).1.toArray⟩] V fun e w' => e = .returned (.bool false) ∧ V = w') := hd_ (by rw [← hls]; exact HL.out)
      have HM2 := hd_ (lt_ext (P := fun x => leT (om O b).1 (om O x).1) HM.out hls)
      clear HL hls HM
      go_wp2_with (first | ((with_reducible refine wru ?_); (repeat (go_big_quiet_step (first | (go_at_call 170; exact uqs_ (HL2.out _))))); refine wqn fun nq => ?_))
      go_roundw
      case rel => exact ⟨i + 1, b, by omega, hb, by go_num, rfl, HM2, hd_ (HT.out.below bw_)⟩
      case measure => simp [intOf]; try omega
    ·obtain rfl : i = O.length := by omega
     obtain ⟨y0, z1, z2⟩ := am_at HT.out hb
     have hcapb : ¬ cp < b := by omega
     go_upto_region 11 with (fail)
     refine wpg (R := fun V => RS w V (some ⟨g0, 0, none⟩) cp mb O R ∧ Box V wr.heap.size #[.string ⟨(om O b).1.toArray⟩, .string ⟨(om O b).2.toArray⟩] ∧ Hid (g0 ≠ wr.heap.size ∧ mb ≠ wr.heap.size ∧ w.heap.size ≤ wr.heap.size)) ⟨HT.out.below bw_, Box.new _ _ _, hd_ ⟨by omega, by have := HT.out.map.lt; omega, HT.out.bel.size⟩⟩ (fun V z => ?_)
     obtain ⟨zr, zb, zn⟩ := z
     have HT := hd_ zr
     have HX := hd_ zb
     clear zr zb y0 z1 z2
     generalize wr.heap.size = p8 at *
     have hcut : O.length - (b + 1) = (O.drop (b + 1)).length := by rw [List.length_drop]
     have hxs : (ambC O).take (b * 2) ++ (ambC O).drop ((b + 1) * 2) = ambC (O.take b ++ O.drop (b + 1)) := by rw [ambC_app, ambC_take, ambC_drop]
     have hlen : b + (O.length - (b + 1)) = (O.take b ++ O.drop (b + 1)).length := by rw [List.length_append, List.length_take, List.length_drop]; omega
     have HP := hd_ (own_pre HT.out.own (m := b) (by omega)).drew
     have HSf : Hid (Rds V.drew 2 (some ⟨g0, (b + 1) * 2, none⟩) (O.length - (b + 1)) ((ambC O).drop ((b + 1) * 2))) := hd_ (by
      have := ((Rds.of_own HT.out.own).suf (i := b + 1) (by omega)).below (w' := V.drew) bw_
      rw [Nat.zero_add] at this
      exact this)
     have HX1 := hd_ hxs
     have HL1 := hd_ hlen
     clear hcut hxs hlen
     obtain ⟨O', hO'⟩ : ∃ O', O.take b ++ O.drop (b + 1) = O' := ⟨_, rfl⟩
     have HO' := hd_ hO'
     have HLEN : Hid (O'.length = O.length - 1) := hd_ (by rw [← hO', List.length_append, List.length_take, List.length_drop]; omega)
     rw [hO'] at HL1 HX1
     clear hO'
     go_cut [3] (fun z V => z = .slice (some ⟨g0, 0, none⟩) O'.length cp ∧ Hid (RS w V (some ⟨g0, 0, none⟩) cp mb O' R) ∧ Hid (Box V p8 #[.string ⟨(om O b).1.toArray⟩, .string ⟨(om O b).2.toArray⟩]))
     case first =>
      have hb1 : (b : Int) + 1 ≤ (O.length : Int) := by omega
      have k0 : (0 : Int) ≤ (b : Int) := by omega
      have k1 : (b : Int) ≤ (cp : Int) := by omega
      have k2 : (0 : Int) ≤ (b : Int) + 1 := by omega
      have k3 : (O.length : Int) ≤ (cp : Int) := by omega
      have k4 : (b : Int) + 1 ≤ (cp : Int) := by omega
      have k5 : ((b : Int) + 1).toNat = b + 1 := by omega
      have k6 : IntKind.i64.wrap ((b : Int) + 1) = (b : Int) + 1 := by rw [IntKind.wrap_i64]; omega
      have HFIN : Hid (∀ w9 : World, w9.ownsRow w.heap.size 186 2 (.slice (some ⟨g0, 0, none⟩) (b + (O.length - (b + 1))) cp) (b + (O.length - (b + 1))) ((ambC O).take (b * 2) ++ (ambC O).drop ((b + 1) * 2)) → V.drew.grownBy w9 (some g0) → RS w w9 (some ⟨g0, 0, none⟩) cp mb O' R ∧ Box w9 p8 #[.string ⟨(om O b).1.toArray⟩, .string ⟨(om O b).2.toArray⟩]) := hd_ fun w9 o9 hg9 => by
       have hg8 : V.grownBy w9 (some g0) := ⟨hg9.os, hg9.tape, hg9.output, hg9.size, hg9.block⟩
       have h1 := HT.out.cut (i := b) (m := b + (O.length - (b + 1))) hb o9 (by rw [HO'.out]; exact HL1.out) (by rw [HO'.out]; exact HX1.out) hg8
       rw [HO'.out] at h1
       exact ⟨h1, Nat.lt_of_lt_of_le HX.out.1 hg8.size, fun i u hu => hg8.cell (HX.out.2 i u hu) (by intro e; injection e with e; exact zn.out.1 e.symm)⟩
      have HL2 : Hid (b + (O.length - (b + 1)) = O'.length) := hd_ (by rw [HL1.out])
      by_cases hcb : cp = b + 1
      ·subst hcb
       have hm0 : O.length - (b + 1) = 0 := by omega
       have hR0 : Hid (Rds V.drew 2 (some ⟨g0, 0, none⟩) (O.length - (b + 1)) ((ambC O).drop ((b + 1) * 2))) := hd_ (by
        rw [hm0, List.drop_eq_nil_of_le (by rw [ambC_len]; omega)]; exact Rds.empty _ _ _)
       have hF := HFIN.out V.drew (by
        rw [hm0, Nat.add_zero, (List.drop_eq_nil_of_le (by rw [ambC_len]; omega) : (ambC O).drop ((b + 1) * 2) = []), List.append_nil]
        exact HP.out) (World.grownBy.refl _ _)
       have hb9 : b = O'.length := by have := HLEN.out; omega
       have HF9 := hd_ hF
       have HB9 := hd_ hb9
       clear hm0 hR0 hF hb9
       have k7 : (b : Int) ≤ (b : Int) + 1 := by omega
       have k8 : (O.length : Int) ≤ (b : Int) + 1 := by omega
       go_region_held3 (fun _ => True) (trivial) (first | fail)
       go_wp2_with fail
       go_meet
       exact ⟨by rw [← HB9.out], hd_ HF9.out.1, hd_ HF9.out.2⟩
      ·go_region_held3 (fun _ => True) (trivial) (first | (refine step_fits rfl _ _ 183 (by rfl) w.heap.size 186 _ 2 32 el_amb g0 b cp _ (by rfl) HP.out g0 _ (O.length - (b + 1)) _ _ (by rfl) HSf.out (fun u hu => ambC_one O u (List.mem_of_mem_drop hu)) (by omega) ?_; intro w9 o9 hg9))
       obtain ⟨f1, f2⟩ := HFIN.out w9 o9 hg9
       go_wp2_with fail
       go_meet
       exact ⟨by rw [HL2.out], hd_ f1, hd_ f2⟩
     case rest =>
      obtain ⟨rfl, HU, HXV⟩ := hcut
      have HZ := hd_ (show p8 < wc.heap.size ∧ p8 ≠ g0 ∧ p8 ≠ mb ∧ w.heap.size ≤ p8 from ⟨HXV.out.1, fun e => zn.out.1 e.symm, fun e => zn.out.2.1 e.symm, zn.out.2.2⟩)
      have x0 : wc.cell? ⟨p8, 0, none⟩ = some (.string ⟨(om O b).1.toArray⟩) := HXV.out.2 0 _ rfl
      have x1 : wc.cell? ⟨p8, 1, none⟩ = some (.string ⟨(om O b).2.toArray⟩) := HXV.out.2 1 _ rfl
      have hp8 := HXV.out.1
      have hbs := (HB.out b hb).2
      have hbt := (HB.out b hb).1
      have hRl := HJ.out.rl HW8.out HW10.out
      have hbl := hd_ hb
      have hgk1 : 0 < gk := by omega
      clear HT HX HL1 HX1 HSf HP zn HB
      by_cases hin : ∃ t, ((om O b).2, t) ∈ R
      ·obtain ⟨t, ht⟩ := hin
       have hlook : (Instr.lookup 160 (.map (some mb)) (.string ⟨(om O b).2.toArray⟩) true).run Tryz.prog wc = .ok (.tuple #[.string ⟨t.toArray⟩, .bool true]) wc :=
        HU.out.map.look Tryz.underlying160 Tryz.underlying9 Tryz.underlying9 zeroStr ⟨(om O b).2.toArray⟩ (by unfold maxLen; omega) (by simpa using ht) ⟨wc, Below.refl _ _⟩
       have HJ2 := hd_ (HJ.out.drop hb ht)
       rw [HO'.out] at HJ2
       clear ht
       go_wp2_with fail
       go_roundg (gk - 1)
       case measure => omega
       case rel => exact ⟨some ⟨g0, 0, none⟩, cp, O', R, rfl, HU, HJ2, by have := HLEN.out; omega⟩
      ·have hni : ∀ t, ((om O b).2, t) ∉ R := fun t ht => hin ⟨t, ht⟩
       obtain ⟨y, hy⟩ := HU.out.map.look_no Tryz.underlying160 Tryz.underlying9 Tryz.underlying9 zeroStr ⟨(om O b).2.toArray⟩ (by unfold maxLen; omega) (by simpa using hni)
       have hlook : (Instr.lookup 160 (.map (some mb)) (.string ⟨(om O b).2.toArray⟩) true).run Tryz.prog wc = .ok (.tuple #[.string y, .bool false]) wc := hy ⟨wc, Below.refl _ _⟩
       have HS1 := hd_ (show (⟨(om O b).2.toArray⟩ : ByteArray).size ≤ maxLen by unfold maxLen; omega)
       have HS2 := hd_ (show (⟨(om O b).1.toArray⟩ : ByteArray).size ≤ maxLen by unfold maxLen; omega)
       have HN := hd_ (show ∀ z, ((⟨(om O b).2.toArray⟩ : ByteArray).data.toList, z) ∉ R by simpa using hni)
       have HM3 := hd_ (show R.length < maxLen by unfold maxLen; omega)
       have hmin := HM.out
       have HJ2 := hd_ (HJ.out.take HW8.out HW10.out hb (fun q hq => by
        obtain ⟨j, hj, rfl⟩ := List.getElem_of_mem hq
        have := hmin j hj
        rw [om, om, List.getD_eq_getElem?_getD, List.getD_eq_getElem?_getD, List.getElem?_eq_getElem hj] at this
        rw [om, List.getD_eq_getElem?_getD]
        exact this) hni)
       rw [HO'.out] at HJ2
       have hRl2 : R.length + 1 ≤ 90 := by have := HJ2.out.rl HW8.out HW10.out; simpa using this
       clear hy hin hni hmin
       go_upto_region 15 with (at_mapUpdate; refine wpl_txtPut _ rfl _ _ _ 160 rfl 9 9 Tryz.underlying160 Tryz.underlying9 Tryz.underlying9 mb R.length R rfl HU.out.map HM3.out ⟨(om O b).2.toArray⟩ ⟨(om O b).1.toArray⟩ HS1.out HS2.out HN.out rfl rfl ?_; intro w9 hset9 hgr9)
       have HU9 := hd_ (HU.out.put (r := (om O b).2) (t := (om O b).1) (by simpa using hset9) hgr9)
       have y0 := hgr9.cell x0 (by intro e; injection e with e; exact HZ.out.2.2.1 e)
       have y1 := hgr9.cell x1 (by intro e; injection e with e; exact HZ.out.2.2.1 e)
       have HZ9 := hd_ (show p8 < w9.heap.size ∧ p8 ≠ g0 ∧ p8 ≠ mb ∧ w.heap.size ≤ p8 from ⟨Nat.lt_of_lt_of_le hp8 hgr9.size, HZ.out.2⟩)
       have hp9 := HZ9.out.1
       clear hset9 hgr9 x0 x1 hlook HU HXV HZ hp8 HM HM3 HS1 HS2 HN
       by_cases hr0 : (om O b).2 = []
       ·have he : (⟨(om O b).2.toArray⟩ : ByteArray).toList.isEmpty = true := isEmpty_yes (by show (om O b).2.length = 0; rw [hr0]; rfl)
        have he2 : (om O b).2.isEmpty = true := by rw [hr0]; rfl
        rw [if_pos hr0, List.append_nil] at HJ2
        clear hr0
        go_wp2_with fail
        go_roundg (gk - 1)
        case measure => omega
        case rel => exact ⟨some ⟨g0, 0, none⟩, cp, O', _, rfl, HU9, HJ2, by have := HLEN.out; rw [List.length_cons]; omega⟩
       ·have he : (⟨(om O b).2.toArray⟩ : ByteArray).toList.isEmpty = false := isEmpty_no (by
         show 0 < (om O b).2.length
         exact List.length_pos_iff.2 hr0)
        have he2 : (om O b).2.isEmpty = false := by simpa using hr0
        rw [if_neg hr0] at HJ2
        have HR0 := hd_ hr0
        clear hr0
        go_wp2_with fail
        go_loopw [3, 68] (fun t3 t68 wr => ∃ (k : Nat) (g1 : Option Addr) (c1 : Nat) (O1 : List Amb), k ≤ ws.length ∧ t68 = i64 k ∧ t3 = .slice g1 O1.length c1 ∧ Hid (O1 = O' ++ succs (om O b) ((lists ws).take k)) ∧ Hid (RS w wr g1 c1 mb O1 (((om O b).2, (om O b).1) :: R)) ∧ Hid (Box wr p8 #[.string ⟨(om O b).1.toArray⟩, .string ⟨(om O b).2.toArray⟩] ∧ (Value.slice g1 O1.length c1).ownBlock ≠ some p8)) (fun _ t68 _ => ws.length - (intOf t68).toNat)
        case atStart => exact ⟨0, some ⟨g0, 0, none⟩, cp, O', by omega, rfl, rfl, hd_ (by simp [succs]), HU9, hd_ ⟨⟨hp9, fun i u hu => by
         match i, hu with
         | 0, hu => injection hu with hu; subst hu; exact y0
         | 1, hu => injection hu with hu; subst hu; exact y1⟩, fun e => by injection e with e; exact HZ9.out.2.1 e.symm⟩⟩
        case round =>
         obtain ⟨k, g1, c1, O1, hk, rfl, rfl, HE, HV, HX⟩ := hrel
         clear HU9 y0 y1 hp9
         by_cases hlk : k < ws.length
         ·obtain ⟨bw, ow, rfl, hbw, cw⟩ := wd_at (HR.out.below HV.out.bel) hlk
          have cw := cw k hlk
          have sw := H8.out k hlk
          have v0 : wr.cell? ⟨p8, 0, none⟩ = some (.string ⟨(om O b).1.toArray⟩) := HX.out.1.2 0 _ rfl
          have v1 : wr.cell? ⟨p8, 1, none⟩ = some (.string ⟨(om O b).2.toArray⟩) := HX.out.1.2 1 _ rfl
          have hv := HX.out.1.1
          have hOl1 : O1.length ≤ 2000 := by
           have h0 := HLEN.out
           rw [HE.out, List.length_append]
           have h1 := succs_len (om O b) ((lists ws).take k)
           have h2 := HW10.out
           rw [List.length_take] at h1
           omega
          have hstep : succs (om O b) ((lists ws).take (k + 1)) = succs (om O b) ((lists ws).take k) ++ (match exR (om O b).2 (wd ws k).data.toList with | some q => [((om O b).1 ++ q.1, q.2)] | none => []) := by
           have e : (lists ws).take (k + 1) = (lists ws).take k ++ [(wd ws k).data.toList] := by rw [List.take_succ, lists_get hlk]; rfl
           rw [e, succs_snoc]
           cases exR (om O b).2 (wd ws k).data.toList <;> rfl
          have haf : ∀ V : World, Calls Tryz.prog 171 #[amv ⟨(om O b).1.toArray⟩ ⟨(om O b).2.toArray⟩, .string (wd ws k)] V fun e w' => e = .returned (amO ⟨(om O b).1.toArray⟩ ⟨(om O b).2.toArray⟩ (exR (om O b).2 (wd ws k).data.toList)) ∧ UpOf V w' := fun V => by
           have := after_any ⟨(om O b).1.toArray⟩ ⟨(om O b).2.toArray⟩ (wd ws k) V (by omega) (by omega) (by omega)
           simpa using this
          cases hx : exR (om O b).2 (wd ws k).data.toList with
          | none =>
           have HA : Hid (∀ V : World, Calls Tryz.prog 171 #[amv ⟨(om O b).1.toArray⟩ ⟨(om O b).2.toArray⟩, .string (wd ws k)] V fun e w' => e = .returned (.tuple #[amv ⟨#[]⟩ ⟨#[]⟩, .bool false]) ∧ UpOf V w') := hd_ (by rw [hx] at haf; exact haf)
           have HE2 := hd_ (show O1 = O' ++ succs (om O b) ((lists ws).take (k + 1)) by rw [hstep, hx, List.append_nil, HE.out])
           clear haf hx hstep HE
           go_wp2_with (first | (go_at_call 171; refine (HA.out _).mono ?_; rintro e w' ⟨rfl, g, rfl⟩) | ((with_reducible refine wru ?_); (repeat (go_big_quiet_step (fail))); refine wqn fun nq => ?_))
           go_roundw
           case rel => exact ⟨k + 1, g1, c1, O1, by omega, by go_num, rfl, HE2, hd_ (HV.out.below bw_), hd_ ⟨HX.out.1.below bw_, HX.out.2⟩⟩
           case measure => simp [intOf]; try omega
          | some q =>
           obtain ⟨T, hT⟩ : ∃ T : ByteArray, (⟨((om O b).1 ++ q.1).toArray⟩ : ByteArray) = T := ⟨_, rfl⟩
           obtain ⟨X, hX⟩ : ∃ X : ByteArray, (⟨q.2.toArray⟩ : ByteArray) = X := ⟨_, rfl⟩
           have HA : Hid (∀ V : World, Calls Tryz.prog 171 #[amv ⟨(om O b).1.toArray⟩ ⟨(om O b).2.toArray⟩, .string (wd ws k)] V fun e w' => e = .returned (.tuple #[amv T X, .bool true]) ∧ UpOf V w') := hd_ (by
            rw [hx] at haf
            rw [← hT, ← hX]
            simpa [amO] using haf)
           have HE2 := hd_ (show O1 ++ [(T.data.toList, X.data.toList)] = O' ++ succs (om O b) ((lists ws).take (k + 1)) by
            rw [hstep, hx, HE.out, List.append_assoc, ← hT, ← hX])
           clear haf hx hstep HE hT hX
           go_upto_region 21 with (go_at_call 171; refine (HA.out _).mono ?_; rintro e w' ⟨rfl, g5, rfl⟩)
           obtain ⟨C, hC⟩ : ∃ C, Obj.cells #[Value.string T, Value.string X] 186 = C := ⟨_, rfl⟩
           have hrds : Rds (up wr ((g5.al (.cells #[.string T, .string X] 186)).al (.cells #[.string T, .string X] 186))) 2 (some ⟨(up wr g5).heap.size + 1, 0, none⟩) 1 [.string T, .string X] := by
            have := rds_new (up wr (g5.al (.cells #[.string T, .string X] 186))) #[.string T, .string X] 186 2 1 rfl
            rw [size_al] at this
            exact this
           have hbel : Below wr.heap.size wr (up wr ((g5.al (.cells #[.string T, .string X] 186)).al (.cells #[.string T, .string X] 186))) := up_below _ _
           have HV2 := hd_ (HV.out.below hbel)
           have HX2 := hd_ (show Box (up wr ((g5.al (.cells #[.string T, .string X] 186)).al (.cells #[.string T, .string X] 186))) p8 #[.string ⟨(om O b).1.toArray⟩, .string ⟨(om O b).2.toArray⟩] ∧ (Value.slice g1 O1.length c1).ownBlock ≠ some p8 from ⟨HX.out.1.below hbel, HX.out.2⟩)
           have hone : ∀ u ∈ [Value.string T, Value.string X], u.oneCell' = true := fun u hu => by
            simp only [List.mem_cons, List.not_mem_nil, or_false] at hu
            obtain rfl | rfl := hu <;> rfl
           have HRD := hd_ hrds
           have HONE := hd_ hone
           have HOWN := hd_ HV2.out.own
           have hm1 : O1.length + 1 ≤ maxLen := by unfold maxLen; omega
           have hm2 : (O1.length + 1) * 32 ≤ 140737488355328 := by omega
           have hm3 := hd_ HV2.out.bel.size
           clear hrds hbel hone HV HX v0 v1 hv cw hC C
           go_wp2_with (at_builtin; refine wpl_appAt rfl _ _ 183 rfl w.heap.size 186 _ 2 32 el_amb (.slice g1 O1.length c1) O1.length (ambC O1) rfl HOWN.out _ 1 1 _ rfl HRD.out HONE.out (by omega) hm1 hm2 hm3.out ?_; intro g9 c9 wq o9 hg9 hat9; have HG9 := hd_ hg9; have O9 := hd_ o9; have HAT := hd_ hat9; clear hg9 o9 hat9)
           go_roundw
           case rel => exact ⟨k + 1, some ⟨g9, 0, none⟩, c9, O1 ++ [(T.data.toList, X.data.toList)], by omega, by go_num, congrArg (fun n => Value.slice (some ⟨g9, 0, none⟩) n c9) (by simp), HE2, hd_ (HV2.out.add (by rw [amb_cells]; exact O9.out) HG9.out HAT.out),
            hd_ ⟨⟨Nat.lt_of_lt_of_le HX2.out.1.1 HG9.out.size, fun i u hu => HG9.out.cell (HX2.out.1.2 i u hu) (fun e => HX2.out.2 e.symm)⟩, fun e => by
             injection e with e
             rcases HAT.out with h | h
             ·exact HX2.out.2 (by rw [h]; exact congrArg some e)
             ·have := HX2.out.1.1
              have e' : g9 = p8 := e
              omega⟩⟩
           case measure => simp [intOf]; try omega
         ·obtain rfl : k = ws.length := by omega
          have HE2 := hd_ (show O1 = O' ++ succs (om O b) (lists ws) by rw [HE.out, List.take_of_length_le (by rw [lists_len]; exact Nat.le_refl _)])
          have HJ3 := hd_ (show JW (lists ws) O1 (((om O b).2, (om O b).1) :: R) by rw [HE2.out]; exact HJ2.out)
          have hOl3 : O1.length ≤ O'.length + 10 := by
           rw [HE2.out, List.length_append]
           have h1 := succs_len (om O b) (lists ws)
           have h2 := HW10.out
           omega
          go_wp2_with fail
          go_roundg (gk - 1)
          case measure => omega
          case rel => exact ⟨g1, c1, O1, _, rfl, HV, HJ3, by have := HLEN.out; rw [List.length_cons]; omega⟩
theorem validCode_any (A : Option Addr) (c : Nat) (ws : List ByteArray) (w : World) (h : Rds w 1 A ws.length (strs ws)) (hn : ws.length ≤ 100000000) (hf : ∀ i, i < ws.length → (wd ws i).size ≤ 100000000) :
  Calls Tryz.prog 128 #[.slice A ws.length c] w fun e w' => e = .returned (.bool (vCode ws)) ∧ UpOf w w' := by
 have HF := hd_ hf
 clear hf
 have hmm := @run_makeMap Tryz.prog
 go_enter Tryz.func128, Tryz.ntmps128
 go_wp2_with fail
 go_loopw [9] (fun i wr => ∃ k : Nat, k ≤ ws.length ∧ i = i64 k ∧ Hid (∀ j, j < k → wdOk ws j = true) ∧ ∃ S, SetAt wr Tryz.prog 9 4 w.heap.size k S ∧ Hid (namesW ws k S) ∧ Below w.heap.size w wr) (fun i _ => ws.length - (intOf i).toNat)
 case atStart => exact ⟨0, by omega, rfl, fun i hi => by omega, [], SetAt.made _ _ _ _, fun s => by simp, bw_⟩
 case round =>
  obtain ⟨k, hk, rfl, hok, S, hset, hnm, hbel⟩ := hrel
  by_cases hlt : k < ws.length
  ·obtain ⟨b, off, rfl, hb, c0⟩ := wd_at (h.below hbel) hlt
   have c0 := c0 k hlt
   have f1 := HF.out k hlt
   have hBl := hset.lt
   have HSET := hd_ hset
   have HBEL := hd_ hbel
   by_cases z : (wd ws k).size = 0
   ·have hz := isEmpty_yes z
    have hf := hd_ (vCode_at hlt (wdOk_1 z))
    clear h hset hbel z
    refine as_up fun g0 => ?_
    go_wp2_with fail
    go_ret
    exact ⟨ret_bool hf.out.symm, UpOf.of (HBEL.out.trans (Below.mono bw_ HBEL.out.size))⟩
   have hz := isEmpty_no (s := wd ws k) (by omega)
   cases b1 : txtB 33 8 (wd ws k)
   ·have hf := hd_ (vCode_at hlt (wdOk_2 b1))
    clear h hset hbel
    refine as_up fun g0 => ?_
    go_wp2_with (first | (go_at_call 134; refine (ret_as (isText_any (wd ws k) 33 8 _ (by omega) (by omega) (by omega)) b1).mono ?_; rintro e w' ⟨rfl, rfl⟩))
    go_ret
    exact ⟨ret_bool hf.out.symm, UpOf.of (HBEL.out.trans (Below.mono bw_ HBEL.out.size))⟩
   ·cases b2 : memB S (wd ws k)
    ·have hq := hd_ (wdOk_fresh hnm.out (by omega) b1 b2)
     have hlook : ∀ g : Up wr, (Instr.lookup 146 (.map (some w.heap.size)) (.string (wd ws k)) false).run Tryz.prog (up wr g) = .ok (.bool false) (up wr g) := fun g => ((HSET.out.up g).look Tryz.underlying146 Tryz.underlying9 Tryz.underlying4 (zeroBoolD _) (wd ws k) (by unfold maxLen; omega)).trans (by rw [b2])
     clear h hset hbel
     refine as_up fun g0 => ?_
     go_wp2_with (first | (go_at_call 134; refine (ret_as (isText_any (wd ws k) 33 8 _ (by omega) (by omega) (by omega)) b1).mono ?_; rintro e w' ⟨rfl, rfl⟩) | (at_mapUpdate; refine wpl_setPut _ rfl _ _ _ 146 rfl 9 4 Tryz.underlying146 Tryz.underlying9 Tryz.underlying4 w.heap.size k S rfl (HSET.out.below bw_) (by unfold maxLen; omega) (wd ws k) (by unfold maxLen; omega) rfl rfl ?_; intro w1 hset1 hgr1))
     go_roundw
     case rel =>
      have hx := lt_ext (P := fun j => wdOk ws j = true) hok.out hq.out
      exact ⟨k + 1, by omega, by go_num, hx, _, hset1, namesW_step hnm.out, (HBEL.out.trans (Below.mono bw_ HBEL.out.size)).grown hgr1 (Nat.le_trans HBEL.out.size (up_below _ _).size) (fun j hj => by injection hj with hj; omega)⟩
     case measure => (simp [intOf]; try omega)
    ·have hf := hd_ (vCode_at hlt (wdOk_memB hnm.out b2))
     have hlook : ∀ g : Up wr, (Instr.lookup 146 (.map (some w.heap.size)) (.string (wd ws k)) false).run Tryz.prog (up wr g) = .ok (.bool true) (up wr g) := fun g => ((HSET.out.up g).look Tryz.underlying146 Tryz.underlying9 Tryz.underlying4 (zeroBoolD _) (wd ws k) (by unfold maxLen; omega)).trans (by rw [b2])
     clear h hset hbel
     refine as_up fun g0 => ?_
     go_wp2_with (first | (go_at_call 134; refine (ret_as (isText_any (wd ws k) 33 8 _ (by omega) (by omega) (by omega)) b1).mono ?_; rintro e w' ⟨rfl, rfl⟩))
     go_ret
     exact ⟨ret_bool hf.out.symm, UpOf.of (HBEL.out.trans (Below.mono bw_ HBEL.out.size))⟩
  ·obtain rfl : k = ws.length := by omega
   by_cases q : ws.length ≤ 10
   ·have hf := hd_ (vCode_true q hok.out)
    go_wp2_with fail
    go_ret
    exact ⟨ret_bool (by rw [hf.out]; exact decide_eq_true (by omega)), UpOf.of hbel⟩
   ·have hf := hd_ (vCode_len (ws := ws) (by omega))
    have q' : decide (ws.length ≤ 10) = false := decide_eq_false q
    go_wp2_with fail
    go_ret
    exact ⟨ret_bool (by rw [hf.out]; exact decide_eq_false (by omega)), UpOf.of hbel⟩
theorem vCode_8 {ws : List ByteArray} (h : vCode ws = true) : ws.length ≤ 10 ∧ ∀ i, i < ws.length → (wd ws i).size ≤ 8 := by
 obtain ⟨h1, h2⟩ := vCode_inv h
 exact ⟨h1, fun i hi => (txtB_inv (h2 i hi).2.1).1⟩
theorem twoReadings_any {two : List ByteArray → ByteArray × Int} (h2 : TwoOk two) (A : Option Addr) (c : Nat) (ws : List ByteArray) (w : World) (h : Rds w 1 A ws.length (strs ws)) (hn : ws.length ≤ 100000000) (hf : ∀ i, i < ws.length → (wd ws i).size ≤ 100000000) :
  Calls Tryz.prog 75 #[.slice A ws.length c] w fun e w' => e = .returned (.tuple #[.string (two ws).1, i64 (two ws).2]) ∧ UpOf w w' := by
 have HR := hd_ h
 have HF := hd_ hf
 clear h hf
 cases hv : vCode ws with
 | false =>
  have hr := hd_ ((h2 ws).2 hv)
  go_enter Tryz.func75, Tryz.ntmps75
  go_wp2_with (first | (go_at_call 128; refine (ret_as (validCode_any A c ws _ (HR.out.below bw_) hn HF.out) hv).mono ?_; rintro e w' ⟨rfl, g, rfl⟩))
  go_ret2
  rw [hr.out]
  exact ⟨rfl, uw_⟩
 | true =>
  have h8 := vCode_8 hv
  have HT := hd_ ((h2 ws).1 hv)
  have HRT : Hid (∀ V, Below w.heap.size w V → Calls Tryz.prog 129 #[.slice A ws.length c] V fun e w' => rtPost ws V e w') := hd_ fun V hV => restTexts_any A c ws V (HR.out.below hV) h8.1 h8.2
  clear h8
  go_enter Tryz.func75, Tryz.ntmps75
  go_wp2_with fail
  refine (ret_as (validCode_any A c ws _ (HR.out.below bw_) hn HF.out) hv).mono ?_
  rintro e w' ⟨rfl, g1, rfl⟩
  go_wp2_with fail
  refine (HRT.out _ bw_).mono ?_
  rintro e w' ⟨mb, R, rfl, hm, hd, g2, rfl⟩
  have h3 := hd.two
  by_cases hin : ∃ t, (([] : List UInt8), t) ∈ R
  ·obtain ⟨t, ht⟩ := hin
   have hlook := hm.look Tryz.underlying160 Tryz.underlying9 Tryz.underlying9 zeroStr ⟨#[]⟩ (by unfold maxLen; decide) ht ⟨_, Below.refl _ _⟩
   have hres := hd_ (show ((two ws).1, (two ws).2) = (⟨t.toArray⟩, 0) by
    obtain ⟨e1, e2⟩ := HT.out.uniq (h3.1 t ht)
    rw [← e1, e2, show (⟨(two ws).1.data.toList.toArray⟩ : ByteArray) = (two ws).1 from bs_of _])
   have HL := hd_ hlook
   clear h3 hd hm ht hlook
   replace HL : (Instr.lookup 160 (.map (some mb)) (.string ⟨#[]⟩) true).run Tryz.prog (up w (g1.tr g2)) = .ok (.tuple #[.string ⟨t.toArray⟩, .bool true]) (up w (g1.tr g2)) := HL.out
   go_wp2_with fail
   go_ret2
   have e := hres.out
   rw [Prod.mk.injEq] at e
   rw [e.1, e.2]
   exact ⟨rfl, uw_⟩
  ·have hni : ∀ t, (([] : List UInt8), t) ∉ R := fun t ht => hin ⟨t, ht⟩
   obtain ⟨y, hy⟩ := hm.look_no Tryz.underlying160 Tryz.underlying9 Tryz.underlying9 zeroStr ⟨#[]⟩ (by unfold maxLen; decide) hni
   have hres := hd_ (show ((two ws).1, (two ws).2) = (⟨#[]⟩, 3) by
    obtain ⟨e1, e2⟩ := HT.out.uniq (h3.2 hni)
    rw [e2, ← bs_of (two ws).1, e1])
   have HL := hd_ (hy ⟨_, Below.refl _ _⟩)
   clear h3 hd hm hy hni hin
   replace HL : (Instr.lookup 160 (.map (some mb)) (.string ⟨#[]⟩) true).run Tryz.prog (up w (g1.tr g2)) = .ok (.tuple #[.string y, .bool false]) (up w (g1.tr g2)) := HL.out
   go_wp2_with fail
   go_ret2
   have e := hres.out
   rw [Prod.mk.injEq] at e
   rw [e.1, e.2]
   exact ⟨rfl, uw_⟩
def valB : List UInt8 → Nat
 | [] => 0
 | c :: t => c.toNat * 256 ^ t.length + valB t
theorem valB_lt : ∀ l, valB l < 256 ^ l.length
 | [] => by simp [valB]
 | c :: t => by
  have h1 := valB_lt t
  have h2 := UInt8.toNat_lt c
  rw [valB, List.length_cons, Nat.pow_succ]
  have : c.toNat * 256 ^ t.length ≤ 255 * 256 ^ t.length := Nat.mul_le_mul_right _ (by omega)
  omega
theorem valB_less : ∀ a b : List UInt8, a.length = b.length → Op.bytesLess a b = true → valB a < valB b
 | [], [], _, h => by simp [Op.bytesLess] at h
 | [], _ :: _, h, _ => by simp at h
 | _ :: _, [], h, _ => by simp at h
 | a :: x, b :: y, hl, h => by
  have hl' : x.length = y.length := by simpa using hl
  simp only [Op.bytesLess, Bool.or_eq_true, Bool.and_eq_true, decide_eq_true_eq, beq_iff_eq] at h
  rw [valB, valB, hl']
  rcases h with h | ⟨rfl, h⟩
  ·have h1 := valB_lt x
   rw [hl'] at h1
   rw [UInt8.lt_iff_toNat_lt] at h
   have : (a.toNat + 1) * 256 ^ y.length ≤ b.toNat * 256 ^ y.length := Nat.mul_le_mul_right _ h
   rw [Nat.add_mul] at this
   omega
  ·have := valB_less x y hl' h
   omega
def valN (l : List UInt8) : Nat := 256 ^ l.length + valB l
theorem valN_less {a b : List UInt8} (h : lessT a b = true) : valN a < valN b := by
 rcases lessT_iff.1 h with h | ⟨h1, h2⟩
 ·have h1 := valB_lt a
  have h2 : 256 ^ (a.length + 1) ≤ 256 ^ b.length := Nat.pow_le_pow_right (by omega) h
  rw [Nat.pow_succ] at h2
  unfold valN
  omega
 ·have := valB_less a b h1 h2
  unfold valN
  rw [h1]
  omega
theorem two_ex : ∃ two, TwoOk two := by
 have key : ∀ ws : List ByteArray, ∃ r : ByteArray × Int, (vCode ws = true → IsTwo (lists ws) r.1.data.toList r.2) ∧ (vCode ws = false → r = (⟨#[]⟩, 1)) := fun ws => by
  cases hv : vCode ws with
  | false => exact ⟨(⟨#[]⟩, 1), fun h => (by cases h), fun _ => rfl⟩
  | true =>
   by_cases hs : ∃ s, Rst (lists ws) [] s
   ·obtain ⟨s, hs⟩ := hs
    obtain ⟨n, ⟨t, ht, hn⟩, hmin⟩ := exists_least (p := fun n => ∃ t, Rst (lists ws) [] t ∧ valN t = n) ⟨_, s, hs, rfl⟩
    refine ⟨(⟨t.toArray⟩, 0), fun _ => .inl ⟨rfl, ht, fun u hu => ?_⟩, fun h => (by cases h)⟩
    show lessT u t = false
    cases hl : lessT u t
    ·rfl
    ·have h1 := valN_less hl
     have h2 := hmin _ ⟨u, hu, rfl⟩
     omega
   ·exact ⟨(⟨#[]⟩, 3), fun _ => .inr ⟨rfl, rfl, fun s h => hs ⟨s, h⟩⟩, fun h => (by cases h)⟩
 exact ⟨fun ws => Classical.choose (key ws), fun ws => Classical.choose_spec (key ws)⟩
theorem btRow_any (d : DeskD) (A B : Option Addr) (c e : Nat) (s t : ByteArray) (w : World) (hts : t.size ≤ 1048576) (hk : kindOf s = 10) (hS : DSee w d A B) (hz : DkSz d e) :
  Calls Tryz.prog 31 #[dkv d A B c e, .string s, .string t] w fun r w' => mdPost d (sent (rowR d.stops t)) A B c e w r w' := by
 have HS := hd_ hS
 have HZ := hd_ hz
 have q10 : (s.toList == [114, 111, 119]) = true := by
  have := kind_test2 s (i := 10) (by omega)
  rw [hk] at this
  exact this
 obtain ⟨R1, hR1⟩ : ∃ R1, (rowR d.stops t).1 = R1 := ⟨_, rfl⟩
 obtain ⟨R2, hR2⟩ : ∃ R2, (rowR d.stops t).2 = R2 := ⟨_, rfl⟩
 have hRR : rowR d.stops t = (R1, R2) := by rw [← hR1, ← hR2]
 have HTF : Hid (∀ V, Rds V 1 A d.stops.length (ics d.stops) → Calls Tryz.prog 74 #[.slice A d.stops.length c, .string t] V fun e w' => e = .returned (.tuple #[.string R1, i64 R2]) ∧ UpOf V w') := hd_ fun V hr => by
  have := rowPlanR_any t A c d.stops V (by omega) hr HZ.out.s
  rw [hR1, hR2] at this
  exact this
 rw [hRR]
 clear hS hz hk hR1 hR2 hRR
 go_enter Tryz.func31, Tryz.ntmps31
 go_upto_region 1 with (fail)
 refine wpg (R := fun V => Hid (MD w V w.heap.size (w.heap.size + 1) (dkcs d A B c e))) (hd_ (MD.new _ _)) (fun V z => ?_)
 generalize hp9 : w.heap.size = p at z ⊢
 generalize hq9 : p + 1 = q at z ⊢
 clear hp9 hq9
 go_upto_region 3 with (fail)
 refine wpg (R := fun U => Hid (MD w U p q (dkcs d A B c e))) z (fun U z => ?_)
 have HL := hd_ (HS.out.1.below z.out.up.below)
 have hC : cel8 U.drew p d A B c e := z.out.cel
 refine wp_region_T (fun U => U.cell? ⟨p, 0, none⟩ = some (i64 (d).b.bars) ∧ U.cell? ⟨p, 1, none⟩ = some (i64 (d).b.rise) ∧ U.cell? ⟨p, 2, none⟩ = some (i64 (d).b.fall) ∧ U.cell? ⟨p, 3, none⟩ = some (i64 (d).b.clr) ∧ U.cell? ⟨p, 4, none⟩ = some (i64 (d).b.near) ∧ U.cell? ⟨p, 5, none⟩ = some (.slice A (d).stops.length c) ∧ U.cell? ⟨p, 6, none⟩ = some (.slice B (d).drills.length e) ∧ U.cell? ⟨p, 7, none⟩ = some (.string (d).log)) 9 (by kernel_rfl) ?_
 
 refine wtl 0 (hC) ?_
 refine wtp 1 (fun _ => hC) ?_
 refine wtl 2 (hC) ?_
 refine wtp 3 (fun _ => hC) ?_
 refine wto 4 fun K hK => ?_
 go_simp
 go_at_call 74
 refine (HTF.out _ (HL.out.below bw_)).mono ?_
 rintro r w' ⟨rfl, gf, rfl⟩
 have z2 := hd_ (z.out.below (V' := up U.drew gf) (bl_up (Below.drew (Below.refl _ _)) gf))
 refine hK.out _ _ (fun _ => z2.out.cel) (wtn ?_)
 clear hK K
 refine wpAnyT_gen (R := fun U1 => Hid (MD w U1 p q (dkcs d A B c e))) z2 (fun U1 z1 => ?_)
 clear z2 hC z HL
 refine wtp 5 (fun _ => z1.out.cel) ?_
 refine wtp 6 (fun _ => z1.out.cel) ?_
 refine wto 7 fun K hK => ?_
 go_simp
 go_at_call 33
 refine (sentence_any R1 R2 _).mono ?_
 rintro r w' ⟨X, n, rfl, ox, gx, rfl⟩
 have z2 := hd_ ((z1).out.below (V' := up U1 gx) (bl_up (Below.refl _ _) gx))
 have OX := hd_ ox
 clear ox
 refine hK.out _ _ (fun _ => z2.out.cel) (wtn ?_)
 clear hK K
 obtain ⟨hqT, r0, r1, r2, r3, r4, r5, r6, r7⟩ := z2.out.rs.eight
 obtain ⟨f0, f1, f2, f3, f4, f5, f6, f7⟩ := z2.out.rs.open8
 refine wto 8 fun K hK => ?_
 go_simp
 refine hK.out _ _ (fun _ => (blk_far8 z2.out.bx z2.out.ne _ _ _ _ _ _ _ _).eight.2) (wtn ?_)
 clear hK K
 refine wto 9 fun K hK => ?_
 go_simp
 refine hK.out _ _ tf_ (wtn ?_)
 clear hK K
 refine wtd ?_
 have hqW0 := (z1).out.rs.lt
 have HLE0 := hd_ (z1).out.up.below.size
 go_wp2_with fail
 refine post_gen (R := fun W => Blk W q 31 (dkcs (d) A B c e) ∧ W.ownsRow w.heap.size 9 1 (.slice X (sent (R1, R2)).length n) (sent (R1, R2)).length (strs (sent (R1, R2))) ∧ UpOf w W) ⟨blk_put8 z2.out.rs _ _ _ _ _ _ _ _, own_mono (own_all OX.out hqW0 _ _ _ _ _ _ _ _) HLE0.out, put8_up z2.out.up z2.out.hq _ _ _ _ _ _ _ _⟩ (fun W st => ?_)
 obtain ⟨s1, s2, s3⟩ := st
 obtain ⟨hqW, w0, w1, w2, w3, w4, w5, w6, w7⟩ := s1.eight
 clear s1 r0 r1 r2 r3 r4 r5 r6 r7 f0 f1 f2 f3 f4 f5 f6 f7
 exact bodyPost_ret (v := .tuple #[dkv (d) A B c e, .slice X (sent (R1, R2)).length n]) (by simp [results, Tryz.results31, go_sem, hqW, w0, w1, w2, w3, w4, w5, w6, w7]) rfl ⟨_, _, rfl, s2, s3⟩
theorem btCode_any {two : List ByteArray → ByteArray × Int} (h2 : TwoOk two) (d : DeskD) (A B : Option Addr) (c e : Nat) (s t : ByteArray) (w : World) (hts : t.size ≤ 1048576) (hk : kindOf s = 2) :
  Calls Tryz.prog 31 #[dkv d A B c e, .string s, .string t] w fun r w' => mdPost d (codeOut (two (wordsA [] t.data.toList))) A B c e w r w' := by
 have q10 : (s.toList == [114, 111, 119]) = false := by
  have := kind_test2 s (i := 10) (by omega)
  rw [hk] at this
  exact this
 have q2 : (s.toList == [99, 111, 100, 101]) = true := by
  have := kind_test2 s (i := 2) (by omega)
  rw [hk] at this
  exact this
 obtain ⟨W, hW⟩ : ∃ W, wordsA [] t.data.toList = W := ⟨_, rfl⟩
 have HW : Hid (∀ V, Calls Tryz.prog 76 #[.string t] V fun e w' => ∃ A c, e = .returned (.slice A W.length c) ∧ w'.ownsRow V.heap.size 9 1 (.slice A W.length c) W.length (strs W) ∧ UpOf V w') := hd_ fun V => by
  rw [← hW]; exact splitWords_any t V (by omega)
 have hWl : W.length ≤ 2000000 := by
  have := words_len t.data.toList []
  rw [hW, bsz] at this
  omega
 have HWB : Hid (∀ i, i < W.length → (wd W i).size ≤ 100000000) := hd_ fun i hi => by
  have := words_size t.data.toList [] (wd W i) (by rw [hW, ← wd_eq hi]; exact List.getElem_mem hi)
  rw [bsz] at this
  simp at this
  omega
 obtain ⟨R1, hR1⟩ : ∃ R1, (two W).1 = R1 := ⟨_, rfl⟩
 obtain ⟨R2, hR2⟩ : ∃ R2, (two W).2 = R2 := ⟨_, rfl⟩
 have hRR : two W = (R1, R2) := by rw [← hR1, ← hR2]
 have HTR : Hid (∀ V A1 c1, Rds V 1 A1 W.length (strs W) → Calls Tryz.prog 75 #[.slice A1 W.length c1] V fun e w' => e = .returned (.tuple #[.string R1, i64 R2]) ∧ UpOf V w') := hd_ fun V A1 c1 hr => by
  have := twoReadings_any h2 A1 c1 W V hr (by omega) HWB.out
  rw [hR1, hR2] at this
  exact this
 rw [hW, hRR]
 clear hk hR1 hR2 hRR hW
 by_cases h3 : R2 = 3
 ·have h3' : (R2 == 3) = true := by rw [beq_iff_eq]; exact h3
  have hfin : codeOut (R1, R2) = sent (⟨#[117, 110, 105, 113, 117, 101]⟩, 0) := by rw [codeOut, if_pos h3]; rfl
  rw [hfin]
  clear h3 hfin
  go_enter Tryz.func31, Tryz.ntmps31
  go_upto_region 1 with (fail)
  refine wpg (R := fun V => Hid (MD w V w.heap.size (w.heap.size + 1) (dkcs d A B c e))) (hd_ (MD.new _ _)) (fun V z => ?_)
  generalize hp9 : w.heap.size = p at z ⊢
  generalize hq9 : p + 1 = q at z ⊢
  clear hp9 hq9
  go_upto_region 8 with (first | (go_at_call 76; refine (HW.out _).mono ?_; rintro r w' ⟨A1, c1, rfl, o1, g1, rfl⟩) | (go_at_call 75; refine (HTR.out _ A1 c1 (Rds.of_own o1)).mono ?_; rintro r w' ⟨rfl, g2, rfl⟩))
  refine wpg (R := fun U => Hid (MD w U p q (dkcs d A B c e))) (hd_ (z.out.below bw_)) (fun U z => ?_)
  have hC : cel8 U.drew p d A B c e := z.out.cel
  refine wp_region_T (fun U => U.cell? ⟨p, 0, none⟩ = some (i64 (d).b.bars) ∧ U.cell? ⟨p, 1, none⟩ = some (i64 (d).b.rise) ∧ U.cell? ⟨p, 2, none⟩ = some (i64 (d).b.fall) ∧ U.cell? ⟨p, 3, none⟩ = some (i64 (d).b.clr) ∧ U.cell? ⟨p, 4, none⟩ = some (i64 (d).b.near) ∧ U.cell? ⟨p, 5, none⟩ = some (.slice A (d).stops.length c) ∧ U.cell? ⟨p, 6, none⟩ = some (.slice B (d).drills.length e) ∧ U.cell? ⟨p, 7, none⟩ = some (.string (d).log)) 5 (by kernel_rfl) ?_
  
  refine wtl 0 (hC) ?_
  refine wtp 1 (fun _ => hC) ?_
  refine wtp 2 (fun _ => hC) ?_
  refine wpAnyT_gen (R := fun U1 => Hid (MD w U1 p q (dkcs d A B c e))) (hd_ (z.out.below (V' := U.drew) (Below.drew (Below.refl _ _)))) (fun U1 z1 => ?_)
  refine wto 3 fun K hK => ?_
  go_simp
  go_at_call 33
  refine (sentence_any ⟨#[117, 110, 105, 113, 117, 101]⟩ 0 _).mono ?_
  rintro r w' ⟨X, n, rfl, ox, gx, rfl⟩
  have z2 := hd_ ((z1).out.below (V' := up U1 gx) (bl_up (Below.refl _ _) gx))
  have OX := hd_ ox
  clear ox
  refine hK.out _ _ (fun _ => z2.out.cel) (wtn ?_)
  clear hK K
  obtain ⟨hqT, r0, r1, r2, r3, r4, r5, r6, r7⟩ := z2.out.rs.eight
  obtain ⟨f0, f1, f2, f3, f4, f5, f6, f7⟩ := z2.out.rs.open8
  refine wto 4 fun K hK => ?_
  go_simp
  refine hK.out _ _ (fun _ => (blk_far8 z2.out.bx z2.out.ne _ _ _ _ _ _ _ _).eight.2) (wtn ?_)
  clear hK K
  refine wto 5 fun K hK => ?_
  go_simp
  refine hK.out _ _ tf_ (wtn ?_)
  clear hK K
  refine wtd ?_
  have hqW0 := (z1).out.rs.lt
  have HLE0 := hd_ (z1).out.up.below.size
  go_wp2_with fail
  refine post_gen (R := fun W => Blk W q 31 (dkcs (d) A B c e) ∧ W.ownsRow w.heap.size 9 1 (.slice X (sent (⟨#[117, 110, 105, 113, 117, 101]⟩, 0)).length n) (sent (⟨#[117, 110, 105, 113, 117, 101]⟩, 0)).length (strs (sent (⟨#[117, 110, 105, 113, 117, 101]⟩, 0))) ∧ UpOf w W) ⟨blk_put8 z2.out.rs _ _ _ _ _ _ _ _, own_mono (own_all OX.out hqW0 _ _ _ _ _ _ _ _) HLE0.out, put8_up z2.out.up z2.out.hq _ _ _ _ _ _ _ _⟩ (fun W st => ?_)
  obtain ⟨s1, s2, s3⟩ := st
  obtain ⟨hqW, w0, w1, w2, w3, w4, w5, w6, w7⟩ := s1.eight
  clear s1 r0 r1 r2 r3 r4 r5 r6 r7 f0 f1 f2 f3 f4 f5 f6 f7
  exact bodyPost_ret (v := .tuple #[dkv (d) A B c e, .slice X (sent (⟨#[117, 110, 105, 113, 117, 101]⟩, 0)).length n]) (by simp [results, Tryz.results31, go_sem, hqW, w0, w1, w2, w3, w4, w5, w6, w7]) rfl ⟨_, _, rfl, s2, s3⟩
 ·have h3' : (R2 == 3) = false := by rw [beq_eq_false_iff_ne]; exact h3
  have hfin : codeOut (R1, R2) = sent (R1, R2) := by rw [codeOut, if_neg h3]
  rw [hfin]
  clear h3 hfin
  go_enter Tryz.func31, Tryz.ntmps31
  go_upto_region 1 with (fail)
  refine wpg (R := fun V => Hid (MD w V w.heap.size (w.heap.size + 1) (dkcs d A B c e))) (hd_ (MD.new _ _)) (fun V z => ?_)
  generalize hp9 : w.heap.size = p at z ⊢
  generalize hq9 : p + 1 = q at z ⊢
  clear hp9 hq9
  go_upto_region 8 with (first | (go_at_call 76; refine (HW.out _).mono ?_; rintro r w' ⟨A1, c1, rfl, o1, g1, rfl⟩) | (go_at_call 75; refine (HTR.out _ A1 c1 (Rds.of_own o1)).mono ?_; rintro r w' ⟨rfl, g2, rfl⟩))
  refine wpg (R := fun U => Hid (MD w U p q (dkcs d A B c e))) (hd_ (z.out.below bw_)) (fun U z => ?_)
  have hC : cel8 U.drew p d A B c e := z.out.cel
  refine wp_region_T (fun U => U.cell? ⟨p, 0, none⟩ = some (i64 (d).b.bars) ∧ U.cell? ⟨p, 1, none⟩ = some (i64 (d).b.rise) ∧ U.cell? ⟨p, 2, none⟩ = some (i64 (d).b.fall) ∧ U.cell? ⟨p, 3, none⟩ = some (i64 (d).b.clr) ∧ U.cell? ⟨p, 4, none⟩ = some (i64 (d).b.near) ∧ U.cell? ⟨p, 5, none⟩ = some (.slice A (d).stops.length c) ∧ U.cell? ⟨p, 6, none⟩ = some (.slice B (d).drills.length e) ∧ U.cell? ⟨p, 7, none⟩ = some (.string (d).log)) 5 (by kernel_rfl) ?_
  
  refine wtl 0 (hC) ?_
  refine wtp 1 (fun _ => hC) ?_
  refine wtp 2 (fun _ => hC) ?_
  refine wpAnyT_gen (R := fun U1 => Hid (MD w U1 p q (dkcs d A B c e))) (hd_ (z.out.below (V' := U.drew) (Below.drew (Below.refl _ _)))) (fun U1 z1 => ?_)
  refine wto 3 fun K hK => ?_
  go_simp
  go_at_call 33
  refine (sentence_any R1 R2 _).mono ?_
  rintro r w' ⟨X, n, rfl, ox, gx, rfl⟩
  have z2 := hd_ ((z1).out.below (V' := up U1 gx) (bl_up (Below.refl _ _) gx))
  have OX := hd_ ox
  clear ox
  refine hK.out _ _ (fun _ => z2.out.cel) (wtn ?_)
  clear hK K
  obtain ⟨hqT, r0, r1, r2, r3, r4, r5, r6, r7⟩ := z2.out.rs.eight
  obtain ⟨f0, f1, f2, f3, f4, f5, f6, f7⟩ := z2.out.rs.open8
  refine wto 4 fun K hK => ?_
  go_simp
  refine hK.out _ _ (fun _ => (blk_far8 z2.out.bx z2.out.ne _ _ _ _ _ _ _ _).eight.2) (wtn ?_)
  clear hK K
  refine wto 5 fun K hK => ?_
  go_simp
  refine hK.out _ _ tf_ (wtn ?_)
  clear hK K
  refine wtd ?_
  have hqW0 := (z1).out.rs.lt
  have HLE0 := hd_ (z1).out.up.below.size
  go_wp2_with fail
  refine post_gen (R := fun W => Blk W q 31 (dkcs (d) A B c e) ∧ W.ownsRow w.heap.size 9 1 (.slice X (sent (R1, R2)).length n) (sent (R1, R2)).length (strs (sent (R1, R2))) ∧ UpOf w W) ⟨blk_put8 z2.out.rs _ _ _ _ _ _ _ _, own_mono (own_all OX.out hqW0 _ _ _ _ _ _ _ _) HLE0.out, put8_up z2.out.up z2.out.hq _ _ _ _ _ _ _ _⟩ (fun W st => ?_)
  obtain ⟨s1, s2, s3⟩ := st
  obtain ⟨hqW, w0, w1, w2, w3, w4, w5, w6, w7⟩ := s1.eight
  clear s1 r0 r1 r2 r3 r4 r5 r6 r7 f0 f1 f2 f3 f4 f5 f6 f7
  exact bodyPost_ret (v := .tuple #[dkv (d) A B c e, .slice X (sent (R1, R2)).length n]) (by simp [results, Tryz.results31, go_sem, hqW, w0, w1, w2, w3, w4, w5, w6, w7]) rfl ⟨_, _, rfl, s2, s3⟩
def btDrPost (d : DeskD) (o : Option Drill) (A B : Option Addr) (c e : Nat) (w : World) (r : Ending) (w' : World) : Prop := match o with
 | none => mdPost d [errL 7] A B c e w r w'
 | some x => if (addD d.drills x).2 = 0 then ∃ B' e', w'.ownsRow w.heap.size 112 3 (.slice B' (addD d.drills x).1.length e') (addD d.drills x).1.length (drcs (addD d.drills x).1) ∧ mdPost { d with drills := (addD d.drills x).1 } [dkText { d with drills := (addD d.drills x).1 }] A B' c e' w r w'
  else mdPost d [errL (addD d.drills x).2] A B c e w r w'
theorem rdDrill_v {t : ByteArray} {x : Drill} (h : rdDrill t = some x) : vDrill x = true := by
 unfold rdDrill at h
 split at h
 ·rename_i hb
  injection h with h
  rw [← h]
  exact (drillB_inv hb).2.2.1
 ·cases h
theorem addD_bd {l : List Drill} {x : Drill} (hl : DBd l) (h1 : x.name.size ≤ 100000000) (h2 : x.letters.size ≤ 100000000) : DBd (addD l x).1 := by
 have h0 : DBd [] := fun i hi => absurd hi (by simp)
 have hm : DBd (l ++ [x]) := fun i hi => by
  rw [List.length_append] at hi
  by_cases h : i < l.length
  ·have e : drl (l ++ [x]) i = drl l i := by rw [drl, drl, List.getD_eq_getElem?_getD, List.getD_eq_getElem?_getD, List.getElem?_append_left h]
   rw [e]; exact hl i h
  ·have e : drl (l ++ [x]) i = x := by
    have hi' : i = l.length := by simp at hi; omega
    rw [drl, List.getD_eq_getElem?_getD, hi', List.getElem?_append_right (Nat.le_refl _)]; simp
   rw [e]; exact ⟨h1, h2⟩
 rw [addD]
 (repeat' split) <;> first | exact h0 | exact hm
theorem addD_len (l : List Drill) (x : Drill) : (addD l x).1.length ≤ l.length + 1 := by
 rw [addD]
 (repeat' split) <;> simp
theorem btDrill_any (d : DeskD) (A B : Option Addr) (c e : Nat) (s t : ByteArray) (w : World) (hts : t.size ≤ 1048576) (hk : kindOf s = 3) (hS : DSee w d A B) (hz : DkSz d e) (hz1 : d.drills.length ≤ 10000000) (ht : Tab w) :
  Calls Tryz.prog 31 #[dkv d A B c e, .string s, .string t] w fun r w' => btDrPost d (rdDrill t) A B c e w r w' := by
 have HS := hd_ hS
 have HZ := hd_ hz
 have HT := hd_ ht
 have q10 : (s.toList == [114, 111, 119]) = false := by
  have := kind_test2 s (i := 10) (by omega)
  rw [hk] at this
  exact this
 have q2 : (s.toList == [99, 111, 100, 101]) = false := by
  have := kind_test2 s (i := 2) (by omega)
  rw [hk] at this
  exact this
 clear hS hz hk ht
 cases hr : rdDrill t with
 | none =>
  have HRD : Hid (∀ V, Tab V → Calls Tryz.prog 77 #[.string t] V fun e w' => e = .returned (.tuple #[drv dr0, .bool false]) ∧ UpOf V w') := hd_ fun V hV => by
   have := readDrillI_any t V hts hV
   rw [hr] at this
   exact this
  show Calls _ _ _ _ fun r w' => mdPost d [errL 7] A B c e w r w'
  clear hr
  go_enter Tryz.func31, Tryz.ntmps31
  go_upto_region 1 with (fail)
  refine wpg (R := fun V => Hid (MD w V w.heap.size (w.heap.size + 1) (dkcs d A B c e))) (hd_ (MD.new _ _)) (fun V z => ?_)
  generalize hp9 : w.heap.size = p at z ⊢
  generalize hq9 : p + 1 = q at z ⊢
  clear hp9 hq9
  go_upto_region 11 with (go_at_call 77; refine (HRD.out _ (HT.out.below (z.out.up.tr bw_).below)).mono ?_; rintro r w' ⟨rfl, g1, rfl⟩)
  refine wpg (R := fun U => Hid (MD w U p q (dkcs d A B c e))) (hd_ (z.out.below bw_)) (fun U z => ?_)
  have hC : cel8 U.drew p d A B c e := z.out.cel
  refine wp_region_T (fun U => U.cell? ⟨p, 0, none⟩ = some (i64 (d).b.bars) ∧ U.cell? ⟨p, 1, none⟩ = some (i64 (d).b.rise) ∧ U.cell? ⟨p, 2, none⟩ = some (i64 (d).b.fall) ∧ U.cell? ⟨p, 3, none⟩ = some (i64 (d).b.clr) ∧ U.cell? ⟨p, 4, none⟩ = some (i64 (d).b.near) ∧ U.cell? ⟨p, 5, none⟩ = some (.slice A (d).stops.length c) ∧ U.cell? ⟨p, 6, none⟩ = some (.slice B (d).drills.length e) ∧ U.cell? ⟨p, 7, none⟩ = some (.string (d).log)) 2 (by kernel_rfl) ?_
  
  refine wtl 0 (hC) ?_
  refine wto 1 fun K hK => ?_
  go_simp
  go_at_call 70
  refine (report_any 7 _).mono ?_
  rintro r w' ⟨X, n, rfl, ox, gx, rfl⟩
  have z2 := hd_ (z.out.below (V' := up U.drew gx) (bl_up (Below.drew (Below.refl _ _)) gx))
  have OX := hd_ ox
  clear ox
  refine hK.out _ _ (fun _ => z2.out.cel) (wtn ?_)
  clear hK K
  obtain ⟨hqT, r0, r1, r2, r3, r4, r5, r6, r7⟩ := z2.out.rs.eight
  obtain ⟨f0, f1, f2, f3, f4, f5, f6, f7⟩ := z2.out.rs.open8
  refine wto 2 fun K hK => ?_
  go_simp
  refine hK.out _ _ tf_ (wtn ?_)
  clear hK K
  refine wtp 3 tf_ ?_
  refine wtd ?_
  have hqU := z.out.rs.lt
  go_wp2_with fail
  refine bodyPost_ret (v := .tuple #[dkv (d) A B c e, .slice X 1 n]) (by simp [results, Tryz.results31, go_sem, hqT, r0, r1, r2, r3, r4, r5, r6, r7]) rfl ?_
  exact ⟨X, n, rfl, own_mono (own_all OX.out hqU _ _ _ _ _ _ _ _) z.out.up.below.size, put8_up z2.out.up z2.out.hq _ _ _ _ _ _ _ _⟩
 | some x =>
  have hv := rdDrill_v hr
  have hvi := vDrill_inv hv
  have s1 := (nameB_bd hvi.1).2
  have s2 := (txtB_inv hvi.2.2.1).1
  have HRD : Hid (∀ V, Tab V → Calls Tryz.prog 77 #[.string t] V fun e w' => e = .returned (.tuple #[drv x, .bool true]) ∧ UpOf V w') := hd_ fun V hV => by
   have := readDrillI_any t V hts hV
   rw [hr] at this
   exact this
  obtain ⟨L, hL⟩ : ∃ L, (addD d.drills x).1 = L := ⟨_, rfl⟩
  obtain ⟨C, hC⟩ : ∃ C, (addD d.drills x).2 = C := ⟨_, rfl⟩
  have HAD : Hid (∀ V, Rds V 3 B d.drills.length (drcs d.drills) → Calls Tryz.prog 78 #[.slice B d.drills.length e, .agg #[.string x.name, .string x.letters, i64 x.minutes]] V fun r w' => drsPost L.length L C V r w') := hd_ fun V hr => by
   have := addDrill_any B e d.drills x V hr HZ.out.n HZ.out.b (by omega) (by omega)
   rw [hL, hC] at this
   exact this
  have HLB : Hid (DBd L ∧ L.length ≤ d.drills.length + 1) := hd_ ⟨by rw [← hL]; exact addD_bd HZ.out.b (by omega) (by omega), by rw [← hL]; exact addD_len _ _⟩
  show Calls _ _ _ _ fun r w' => if (addD d.drills x).2 = 0 then ∃ B' e', w'.ownsRow w.heap.size 112 3 (.slice B' (addD d.drills x).1.length e') (addD d.drills x).1.length (drcs (addD d.drills x).1) ∧ mdPost { d with drills := (addD d.drills x).1 } [dkText { d with drills := (addD d.drills x).1 }] A B' c e' w r w'
   else mdPost d [errL (addD d.drills x).2] A B c e w r w'
  rw [hL, hC]
  clear hr hv hvi hL hC
  by_cases h0 : C = 0
  ·subst h0
   obtain ⟨D, hD⟩ : ∃ D : DeskD, { d with drills := L } = D := ⟨_, rfl⟩
   rw [hD]
   have HDL := hd_ (show L = D.drills by rw [← hD])
   have HDE := hd_ (show d.b = D.b ∧ d.stops = D.stops ∧ d.log = D.log from by rw [← hD]; exact ⟨rfl, rfl, rfl⟩)
   clear hD
   show Calls _ _ _ _ fun r w' => ∃ B' e', w'.ownsRow w.heap.size 112 3 (.slice B' L.length e') L.length (drcs L) ∧ mdPost D [dkText D] A B' c e' w r w'
   rw [HDL.out] at HLB HAD ⊢
   go_enter Tryz.func31, Tryz.ntmps31
   go_upto_region 1 with (fail)
   refine wpg (R := fun V => Hid (MD w V w.heap.size (w.heap.size + 1) (dkcs d A B c e))) (hd_ (MD.new _ _)) (fun V z => ?_)
   generalize hp9 : w.heap.size = p at z ⊢
   generalize hq9 : p + 1 = q at z ⊢
   clear hp9 hq9
   go_upto_region 12 with (go_at_call 77; refine (HRD.out _ (HT.out.below (z.out.up.tr bw_).below)).mono ?_; rintro r w' ⟨rfl, g1, rfl⟩)
   refine wpg (R := fun U9 => Hid (MD w U9 p q (dkcs d A B c e)) ∧ Box U9 (up V g1).heap.size #[.string x.name, .string x.letters, i64 x.minutes]) ⟨hd_ (z.out.below bw_), Box.new _ _ _⟩ (fun U9 y => ?_)
   obtain ⟨z8, hbx⟩ := y
   generalize (up V g1).heap.size = p10 at *
   have b0 : U9.cell? ⟨p10, 0, none⟩ = some (.string x.name) := hbx.2 0 _ rfl
   have b1 : U9.cell? ⟨p10, 1, none⟩ = some (.string x.letters) := hbx.2 1 _ rfl
   have b2 : U9.cell? ⟨p10, 2, none⟩ = some (i64 x.minutes) := hbx.2 2 _ rfl
   have hb10 := hbx.1
   obtain ⟨hpU, x0, x1, x2, x3, x4, x5, x6, x7⟩ := z8.out.bx.eight
   clear hbx z
   go_wp2_with fail
   refine (HAD.out _ (HS.out.2.below z8.out.up.below)).mono ?_
   rintro r w' ⟨B', e', rfl, hcp, ob, g2, rfl⟩
   have z9 := hd_ (z8.out.below (up_below U9 g2))
   have ONB := hd_ ob
   have HCP := hd_ hcp
   have HPB := hd_ hpU
   have HQB := hd_ z8.out.rs.lt
   have HBW := hd_ z8.out.up.below.size
   clear x0 x1 x2 x3 x4 x5 x6 x7 hpU b0 b1 b2 hb10 ob hcp z8
   go_upto_region 15 with (fail)
   refine wpg (R := fun U => Hid (MD w U p q (dkcs d A B c e)) ∧ Hid (U.ownsRow U9.heap.size 112 3 (.slice B' D.drills.length e') D.drills.length (drcs D.drills))) ⟨z9, ONB⟩ (fun U y => ?_)
   obtain ⟨z, ONB⟩ := y
   clear z9
   obtain ⟨hpU, x0, x1, x2, x3, x4, x5, x6, x7⟩ := z.out.bx.eight
   obtain ⟨f0, f1, f2, f3, f4, f5, f6, f7⟩ := z.out.bx.open8
   go_upto_region 16 with (fail)
   have hpb : p < U9.heap.size := HPB.out
   have y6 := hd_ (z.out.put 6 (.slice B' D.drills.length e'))
   refine wpg (R := fun T => Hid (MD w T p q (dkcs D A B' c e')) ∧ Hid (T.ownsRow U9.heap.size 112 3 (.slice B' D.drills.length e') D.drills.length (drcs D.drills))) ⟨hd_ (by
    have h := y6.out
    have e1 := HDE.out
    have e2 : (dkcs d A B c e).setIfInBounds 6 (.slice B' D.drills.length e') = dkcs D A B' c e' := by
     unfold dkcs
     rw [← e1.1, ← e1.2.1, ← e1.2.2]; rfl
    rw [e2] at h
    exact h), hd_ (own_setOld (p := ⟨p, 6, none⟩) ONB.out hpb _)⟩ (fun U y => ?_)
   obtain ⟨z, ONB⟩ := y
   have HSD : Hid (∀ V, Below U.heap.size U V → DSee V D A B') := hd_ fun V hV => by
    have h1 := (HS.out.below z.out.up.below).1.below hV
    unfold DSee
    rw [← HDE.out.2.1]
    exact ⟨h1, (Rds.of_own ONB.out).below hV⟩
   have HZD : Hid (DkSz D e') := hd_ ⟨by rw [← HDE.out.2.1]; exact HZ.out.s, by have := HLB.out.2; omega, HLB.out.1, by rw [← HDE.out.2.2]; exact HZ.out.l, HCP.out⟩
   clear x0 x1 x2 x3 x4 x5 x6 x7 f0 f1 f2 f3 f4 f5 f6 f7 hpU y6 hpb
   have hC : cel8 U.drew p D A B' c e' := z.out.cel
   refine wp_region_T (fun U => U.cell? ⟨p, 0, none⟩ = some (i64 (D).b.bars) ∧ U.cell? ⟨p, 1, none⟩ = some (i64 (D).b.rise) ∧ U.cell? ⟨p, 2, none⟩ = some (i64 (D).b.fall) ∧ U.cell? ⟨p, 3, none⟩ = some (i64 (D).b.clr) ∧ U.cell? ⟨p, 4, none⟩ = some (i64 (D).b.near) ∧ U.cell? ⟨p, 5, none⟩ = some (.slice A (D).stops.length c) ∧ U.cell? ⟨p, 6, none⟩ = some (.slice B' (D).drills.length e') ∧ U.cell? ⟨p, 7, none⟩ = some (.string (D).log)) 5 (by kernel_rfl) ?_
   
   refine wtl 0 (hC) ?_
   refine wtl 1 (hC) ?_
   refine wto 2 fun K hK => ?_
   go_simp
   go_at_call 11
   refine (deskTextI_any D A B' c e' _ (HSD.out _ (Below.drew (Below.refl _ _))) HZD.out (HT.out.below (z.out.up.tr bw_).below)).mono ?_
   rintro r w' ⟨rfl, gx, rfl⟩
   have z2 := hd_ (z.out.below (V' := up U.drew gx) (bl_up (Below.drew (Below.refl _ _)) gx))
   refine hK.out _ _ (fun _ => z2.out.cel) (wtn ?_)
   clear hK K
   have hqU := z2.out.rs.lt
   have HLE := hd_ z2.out.up.below.size
   obtain ⟨hqT, r0, r1, r2, r3, r4, r5, r6, r7⟩ := z2.out.rs.eight
   obtain ⟨f0, f1, f2, f3, f4, f5, f6, f7⟩ := z2.out.rs.open8
   refine wpAnyT_ready (rs := [3, 4]) (by kernel_rfl) (by simp) (AllReadyT.cons rfl (fun K hK => ?_) (AllReadyT.cons rfl (fun K hK => ?_) AllReadyT.nil))
   ·go_simp
    have z3 := hd_ (z2.out.below (V' := (up U.drew gx).alloc (.cells #[.string (dkText (D))] 9)) bw_)
    have OX := hd_ (World.ownsRow_lit (base := (up U.drew gx).heap.size) (e := 9) (size := 1) (up U.drew gx) #[.string (dkText (D))] 1 (Nat.le_refl _) (by unfold maxLen; omega) rfl)
    refine hK.out _ _ (fun _ => z3.out.cel) (wtn ?_)
    clear hK K
    refine wto 4 fun K hK => ?_
    go_simp
    refine hK.out _ _ (fun _ => (blk_far8 z3.out.bx z3.out.ne _ _ _ _ _ _ _ _).eight.2) (wtn ?_)
    clear hK K
    refine wto 5 fun K hK => ?_
    go_simp
    refine hK.out _ _ tf_ (wtn ?_)
    clear hK K
    refine wtd ?_
    go_wp2_with fail
    refine post_gen (R := fun W => Blk W q 31 (dkcs (D) A B' c e') ∧ W.ownsRow w.heap.size 9 1 (.slice (some ⟨(up U.drew gx).heap.size, 0, none⟩) 1 1) 1 (strs [dkText (D)]) ∧ W.ownsRow w.heap.size 112 3 (.slice B' (D).drills.length e') (D).drills.length (drcs (D).drills) ∧ UpOf w W) ⟨blk_put8 z3.out.rs _ _ _ _ _ _ _ _, own_mono (own_all OX.out hqU _ _ _ _ _ _ _ _) HLE.out, own_mono (own_all (own_below ONB.out (show Below U.heap.size U _ from bw_)) HQB.out _ _ _ _ _ _ _ _) HBW.out, put8_up z3.out.up z3.out.hq _ _ _ _ _ _ _ _⟩ (fun W st => ?_)
    obtain ⟨s1, s2, s4, s3⟩ := st
    obtain ⟨hqW, w0, w1, w2, w3, w4, w5, w6, w7⟩ := s1.eight
    clear s1 r0 r1 r2 r3 r4 r5 r6 r7 f0 f1 f2 f3 f4 f5 f6 f7
    exact bodyPost_ret (v := .tuple #[dkv (D) A B' c e', .slice (some ⟨(up U.drew gx).heap.size, 0, none⟩) 1 1]) (by simp [results, Tryz.results31, go_sem, hqW, w0, w1, w2, w3, w4, w5, w6, w7]) rfl ⟨_, _, s4, _, _, rfl, s2, s3⟩
   ·go_simp
    refine hK.out _ _ (fun _ => (blk_far8 z2.out.bx z2.out.ne _ _ _ _ _ _ _ _).eight.2) (wtn ?_)
    clear hK K
    refine wto 3 fun K hK => ?_
    go_simp
    refine hK.out _ _ (fun _ => ((blk_far8 z2.out.bx z2.out.ne _ _ _ _ _ _ _ _).alloc _).eight.2) (wtn ?_)
    clear hK K
    refine wto 5 fun K hK => ?_
    go_simp
    refine hK.out _ _ tf_ (wtn ?_)
    clear hK K
    refine wtd ?_
    go_wp2_with fail
    refine post_gen (R := fun W => Blk W q 31 (dkcs (D) A B' c e') ∧ W.ownsRow w.heap.size 9 1 (.slice (some ⟨(up U.drew gx).heap.size, 0, none⟩) 1 1) 1 (strs [dkText (D)]) ∧ W.ownsRow w.heap.size 112 3 (.slice B' (D).drills.length e') (D).drills.length (drcs (D).drills) ∧ UpOf w W) ⟨(blk_put8 z2.out.rs _ _ _ _ _ _ _ _).alloc _, own_txt (put8_up z2.out.up z2.out.hq _ _ _ _ _ _ _ _) (dkText (D)) (by simp only [World.size_setCell]), (own_mono (own_all (own_below ONB.out (show Below U.heap.size U (up U.drew gx) from bw_)) HQB.out _ _ _ _ _ _ _ _) HBW.out).alloc _, (put8_up z2.out.up z2.out.hq _ _ _ _ _ _ _ _).tr ((Below.refl _ _).alloc (Nat.le_refl _) _)⟩ (fun W st => ?_)
    obtain ⟨s1, s2, s4, s3⟩ := st
    obtain ⟨hqW, w0, w1, w2, w3, w4, w5, w6, w7⟩ := s1.eight
    clear s1 r0 r1 r2 r3 r4 r5 r6 r7 f0 f1 f2 f3 f4 f5 f6 f7
    exact bodyPost_ret (v := .tuple #[dkv (D) A B' c e', .slice (some ⟨(up U.drew gx).heap.size, 0, none⟩) 1 1]) (by simp [results, Tryz.results31, go_sem, hqW, w0, w1, w2, w3, w4, w5, w6, w7]) rfl ⟨_, _, s4, _, _, rfl, s2, s3⟩
  ·have h0' : (C != 0) = true := by rw [bne_iff_ne]; exact h0
   have hfin : ∀ r w', mdPost d [errL C] A B c e w r w' → (if C = 0 then ∃ B' e', w'.ownsRow w.heap.size 112 3 (.slice B' L.length e') L.length (drcs L) ∧ mdPost { d with drills := L } [dkText { d with drills := L }] A B' c e' w r w' else mdPost d [errL C] A B c e w r w') := fun r w' h => by rw [if_neg h0]; exact h
   refine (show Calls Tryz.prog 31 #[dkv d A B c e, .string s, .string t] w fun r w' => mdPost d [errL C] A B c e w r w' from ?_).mono hfin
   clear hfin h0
   go_enter Tryz.func31, Tryz.ntmps31
   go_upto_region 1 with (fail)
   refine wpg (R := fun V => Hid (MD w V w.heap.size (w.heap.size + 1) (dkcs d A B c e))) (hd_ (MD.new _ _)) (fun V z => ?_)
   generalize hp9 : w.heap.size = p at z ⊢
   generalize hq9 : p + 1 = q at z ⊢
   clear hp9 hq9
   go_upto_region 12 with (go_at_call 77; refine (HRD.out _ (HT.out.below (z.out.up.tr bw_).below)).mono ?_; rintro r w' ⟨rfl, g1, rfl⟩)
   refine wpg (R := fun U9 => Hid (MD w U9 p q (dkcs d A B c e)) ∧ Box U9 (up V g1).heap.size #[.string x.name, .string x.letters, i64 x.minutes]) ⟨hd_ (z.out.below bw_), Box.new _ _ _⟩ (fun U9 y => ?_)
   obtain ⟨z8, hbx⟩ := y
   generalize (up V g1).heap.size = p10 at *
   have b0 : U9.cell? ⟨p10, 0, none⟩ = some (.string x.name) := hbx.2 0 _ rfl
   have b1 : U9.cell? ⟨p10, 1, none⟩ = some (.string x.letters) := hbx.2 1 _ rfl
   have b2 : U9.cell? ⟨p10, 2, none⟩ = some (i64 x.minutes) := hbx.2 2 _ rfl
   have hb10 := hbx.1
   obtain ⟨hpU, x0, x1, x2, x3, x4, x5, x6, x7⟩ := z8.out.bx.eight
   clear hbx z
   go_wp2_with fail
   refine (HAD.out _ (HS.out.2.below z8.out.up.below)).mono ?_
   rintro r w' ⟨B', e', rfl, hcp, ob, g2, rfl⟩
   have z9 := hd_ (z8.out.below (up_below U9 g2))
   have ONB := hd_ ob
   have HCP := hd_ hcp
   have HPB := hd_ hpU
   have HQB := hd_ z8.out.rs.lt
   have HBW := hd_ z8.out.up.below.size
   clear x0 x1 x2 x3 x4 x5 x6 x7 hpU b0 b1 b2 hb10 ob hcp z8
   go_upto_region 14 with (fail)
   refine wpg (R := fun U => Hid (MD w U p q (dkcs d A B c e))) z9 (fun U z => ?_)
   have hC : cel8 U.drew p d A B c e := z.out.cel
   refine wp_region_T (fun U => U.cell? ⟨p, 0, none⟩ = some (i64 (d).b.bars) ∧ U.cell? ⟨p, 1, none⟩ = some (i64 (d).b.rise) ∧ U.cell? ⟨p, 2, none⟩ = some (i64 (d).b.fall) ∧ U.cell? ⟨p, 3, none⟩ = some (i64 (d).b.clr) ∧ U.cell? ⟨p, 4, none⟩ = some (i64 (d).b.near) ∧ U.cell? ⟨p, 5, none⟩ = some (.slice A (d).stops.length c) ∧ U.cell? ⟨p, 6, none⟩ = some (.slice B (d).drills.length e) ∧ U.cell? ⟨p, 7, none⟩ = some (.string (d).log)) 3 (by kernel_rfl) ?_
   
   refine wtl 0 (hC) ?_
   refine wtp 1 (fun _ => hC) ?_
   refine wto 2 fun K hK => ?_
   go_simp
   go_at_call 70
   refine (report_any C _).mono ?_
   rintro r w' ⟨X, n, rfl, ox, gx, rfl⟩
   have z2 := hd_ (z.out.below (V' := up U.drew gx) (bl_up (Below.drew (Below.refl _ _)) gx))
   have OX := hd_ ox
   clear ox
   refine hK.out _ _ (fun _ => z2.out.cel) (wtn ?_)
   clear hK K
   obtain ⟨hqT, r0, r1, r2, r3, r4, r5, r6, r7⟩ := z2.out.rs.eight
   obtain ⟨f0, f1, f2, f3, f4, f5, f6, f7⟩ := z2.out.rs.open8
   refine wto 3 fun K hK => ?_
   go_simp
   refine hK.out _ _ tf_ (wtn ?_)
   clear hK K
   refine wtp 4 tf_ ?_
   refine wtd ?_
   have hqU := z.out.rs.lt
   go_wp2_with fail
   refine bodyPost_ret (v := .tuple #[dkv (d) A B c e, .slice X 1 n]) (by simp [results, Tryz.results31, go_sem, hqT, r0, r1, r2, r3, r4, r5, r6, r7]) rfl ?_
   exact ⟨X, n, rfl, own_mono (own_all OX.out hqU _ _ _ _ _ _ _ _) z.out.up.below.size, put8_up z2.out.up z2.out.hq _ _ _ _ _ _ _ _⟩
theorem rds_new2 {V : World} {g : Up V} {o : Obj} {cs : Array Value} {t : TypeId} (sz m : Nat) (h : cs.size = m * sz) : Rds (up V ((g.al o).al (.cells cs t))) sz (some ⟨(up V g).heap.size + 1, 0, none⟩) m cs.toList := by
 have := rds_new (up V (g.al o)) cs t sz m h
 rw [size_al] at this
 exact this
theorem valuesOfI_any (s what : ByteArray) (w : World) (hs : s.size ≤ 1048576) (hs2 : what.size ≤ 9223372036854775807) (ht : Tab w) :
  Calls Tryz.prog 86 #[.string s, .string what] w fun e w' => ∃ A' c', e = .returned (.tuple #[.slice A' (vaR s what).1.length c', i64 (vaR s what).2]) ∧ w'.ownsRow w.heap.size 2 1 (.slice A' (vaR s what).1.length c') (vaR s what).1.length (ics (vaR s what).1) ∧ UpOf w w' := by
 have HT := hd_ ht
 clear ht
 by_cases h1 : codeL s = 0
 ·cases h2 : nameB what
  ·have hf := hd_ (vaR_2 h1 h2)
   go_enter Tryz.func86, Tryz.ntmps86
   go_wp2_with fail
   refine (wholeI_ok s _ (HT.out.below bw_) h1).mono ?_
   rintro e V ⟨rb, rfl, hl, hup⟩
   obtain ⟨A, c, hc, hrb, hown⟩ := hl.list
   have HO := hd_ (Rds.of_own hown)
   have HU := hd_ hup
   clear hl hown hup
   go_wp2_with (first | (go_at_call 139; refine (ret_as (isNameI_any _ _ hs2) h2).mono ?_; rintro e w' ⟨rfl, rfl⟩))
   go_ret2
   rw [hf.out]
   exact ⟨none, 0, rfl, ⟨rfl, .inl ⟨rfl, rfl⟩⟩, HU.out.tr bw_⟩
  ·have hf := hd_ (vaR_0 h1 h2)
   go_enter Tryz.func86, Tryz.ntmps86
   go_wp2_with fail
   refine (wholeI_ok s _ (HT.out.below bw_) h1).mono ?_
   rintro e V ⟨rb, rfl, hl, hup⟩
   obtain ⟨A, c, hc, hrb, hown⟩ := hl.list
   have HO := hd_ (Rds.of_own hown)
   have HU := hd_ hup
   clear hl hown hup
   go_wp2_with (first | (go_at_call 139; refine (ret_as (isNameI_any _ _ hs2) h2).mono ?_; rintro e w' ⟨rfl, rfl⟩))
   have hl4 := entsL_len h1
   generalize entsL s = l at *
   have hOwn := hd_ (World.ownsRow_lit (base := V.heap.size) (e := 2) (size := 1) V #[] 0 (Nat.le_refl _) (by unfold maxLen; omega) rfl)
   go_loopw [8, 28] (fun o i wr => ∃ (k : Nat) (A' : Option Addr) (c' : Nat), k ≤ l.length ∧ i = i64 k ∧ o = .slice A' (vals what (l.take k)).length c' ∧ wr.ownsRow V.heap.size 2 1 (.slice A' (vals what (l.take k)).length c') (vals what (l.take k)).length (ics (vals what (l.take k))) ∧ ∃ g : Up V, wr = up V g) (fun _ i _ => l.length - (intOf i).toNat)
   case atStart => exact ⟨0, _, _, by omega, rfl, rfl, hOwn.out, ex_up bw_⟩
   case round =>
    obtain ⟨k, A', c', hk, rfl, rfl, hown, g, rfl⟩ := hrel
    have hvl := Nat.le_trans (vals_len what (l.take k)) (by rw [List.length_take]; exact Nat.min_le_left _ _)
    by_cases hlt : k < l.length
    ·obtain ⟨b, off, rfl, hb, x0, x1, x2⟩ := en_at HO.out hlt
     by_cases q : l[k].what = what
     ·have qe := tl_teq q
      have hN := hd_ (vals_yes hlt q)
      clear q
      go_wp2_with (first | (at_builtin; go_must (refine wpl_appU rfl _ _ 28 rfl V V.heap.size 2 _ 1 8 el_int _ _ _ rfl (own_below hown bw_) _ 1 1 [i64 l[k].value] rfl (rds_new2 1 1 rfl) (fun u hu => by simp at hu; subst hu; rfl) (by unfold maxLen; omega) (by omega) (up_below V _).size bw_ (Nat.le_refl _) ?_; intro A2 c2 g2 o2)))
      go_roundw
      case rel => exact ⟨k + 1, A2, c2, by omega, by go_num, by rw [hN.out, List.length_append]; rfl, by rw [hN.out, List.length_append, ics_app]; exact o2, _, rfl⟩
      case measure => (simp [intOf]; try omega)
     ·have qe := tl_tne q
      have hN := hd_ (vals_not hlt q)
      clear q
      go_wp2_with fail
      go_roundw
      case rel => exact ⟨k + 1, A', c', by omega, by go_num, by rw [hN.out], by rw [hN.out]; exact own_below hown bw_, ex_up bw_⟩
      case measure => (simp [intOf]; try omega)
    ·obtain rfl : k = l.length := by omega
     rw [List.take_of_length_le (Nat.le_refl _)] at hown
     go_wp2_with fail
     go_ret2
     rw [hf.out]
     exact ⟨A', c', rfl, own_mono (own_below hown bw_) HU.out.below.size, HU.out.tr bw_⟩
 ·have hf := hd_ (vaR_1 (what := what) h1)
  have z := code_ne h1
  go_enter Tryz.func86, Tryz.ntmps86
  go_wp2_with (first | (go_at_call 120; refine (wholeI_no s _ hs (HT.out.below bw_) h1).mono ?_; rintro e w' ⟨rfl, g, rfl⟩))
  go_ret2
  rw [hf.out]
  exact ⟨none, 0, rfl, ⟨rfl, .inl ⟨rfl, rfl⟩⟩, uw_⟩
def whC (s what : ByteArray) : Int := if codeL s = 0 then (if nameB what = true then 0 else 2) else codeL s
theorem whC_1 {s what : ByteArray} (h : ¬ codeL s = 0) : whC s what = codeL s := by rw [whC, if_neg h]
theorem whC_2 {s what : ByteArray} (h : codeL s = 0) (h2 : nameB what = false) : whC s what = 2 := by rw [whC, if_pos h, if_neg (by rw [h2]; simp)]
theorem whatS_no (s what : ByteArray) (w : World) (hs : s.size ≤ 1048576) (hs2 : what.size ≤ 9223372036854775807) (h : ¬ codeL s = 0 ∨ nameB what = false) :
  Calls Tryz.prog 193 #[.string s, .string what] w fun e w' => ∃ p, e = .returned (.tuple #[.pointer p, i64 (whC s what)]) ∧ UpOf w w' := by
 by_cases h1 : codeL s = 0
 ·have h2 : nameB what = false := h.resolve_left (fun hn => hn h1)
  have hf := hd_ (whC_2 h1 h2)
  clear h
  go_enter Tryz.func193, Tryz.ntmps193
  go_wp2_with fail
  refine (codeS_ok s _ h1).mono ?_
  rintro e V ⟨rb, rfl, hl, hup⟩
  have HU := hd_ hup
  clear hup hl
  go_wp2_with (first | (go_at_call 177; refine (ret_as (isNameS_any _ _ hs2) h2).mono ?_; rintro e w' ⟨rfl, rfl⟩))
  go_ret2
  exact ⟨_, by rw [hf.out] <;> rfl, HU.out.tr bw_⟩
 ·have hf := hd_ (whC_1 (what := what) h1)
  have z : ((codeL s) == 0) = false := by rw [beq_eq_false_iff_ne]; exact h1
  clear h
  go_enter Tryz.func193, Tryz.ntmps193
  go_wp2_with fail
  refine (codeS_no s _ hs h1).mono ?_
  rintro e V ⟨p, rfl, hup⟩
  have HU := hd_ hup
  clear hup
  go_wp2_with fail
  go_ret2
  exact ⟨_, by rw [hf.out] <;> rfl, HU.out.tr bw_⟩
theorem whatS_ok (s what : ByteArray) (w : World) (hs2 : what.size ≤ 9223372036854775807) (h1 : codeL s = 0) (h2 : nameB what = true) :
  Calls Tryz.prog 193 #[.string s, .string what] w fun e w' => ∃ rb, e = .returned (.tuple #[.pointer (some ⟨rb, 0, none⟩), i64 0]) ∧ LS w.heap.size w' rb s (entsL s) (logR s).2.1 s.size ∧ UpOf w w' := by
 go_enter Tryz.func193, Tryz.ntmps193
 go_wp2_with fail
 refine (codeS_ok s _ h1).mono ?_
 rintro e V ⟨rb, rfl, hl, hup⟩
 have HU := hd_ hup
 have HL := hd_ hl
 clear hup hl
 go_wp2_with (first | (go_at_call 177; refine (ret_as (isNameS_any _ _ hs2) h2).mono ?_; rintro e w' ⟨rfl, rfl⟩))
 go_ret2
 exact ⟨rb, rfl, HL.out.below bw_, HU.out.tr bw_⟩
theorem valuesOfS_any (s what : ByteArray) (w : World) (hs : s.size ≤ 1048576) (hs2 : what.size ≤ 9223372036854775807) :
  Calls Tryz.prog 156 #[.string s, .string what] w fun e w' => ∃ A' c', e = .returned (.tuple #[.slice A' (vaR s what).1.length c', i64 (vaR s what).2]) ∧ w'.ownsRow w.heap.size 2 1 (.slice A' (vaR s what).1.length c') (vaR s what).1.length (ics (vaR s what).1) ∧ UpOf w w' := by
 by_cases h : codeL s = 0 ∧ nameB what = true
 ·obtain ⟨h1, h2⟩ := h
  have hf := hd_ (vaR_0 h1 h2)
  go_enter Tryz.func156, Tryz.ntmps156
  go_wp2_with fail
  refine (whatS_ok s what _ hs2 h1 h2).mono ?_
  rintro e V ⟨rb, rfl, hl, hup⟩
  obtain ⟨A, c, hc, hrb, hown⟩ := hl.list
  have HO := hd_ (Rds.of_own hown)
  have HU := hd_ hup
  clear hl hown hup
  go_wp2_with fail
  have hl4 := entsL_len h1
  generalize entsL s = l at *
  have hOwn := hd_ (World.ownsRow_lit (base := V.heap.size) (e := 2) (size := 1) V #[] 0 (Nat.le_refl _) (by unfold maxLen; omega) rfl)
  go_loopw [8, 9] (fun o i wr => ∃ (k : Nat) (A' : Option Addr) (c' : Nat), k ≤ l.length ∧ i = i64 k ∧ o = .slice A' (vals what (l.take k)).length c' ∧ wr.ownsRow V.heap.size 2 1 (.slice A' (vals what (l.take k)).length c') (vals what (l.take k)).length (ics (vals what (l.take k))) ∧ ∃ g : Up V, wr = up V g) (fun _ i _ => l.length - (intOf i).toNat)
  case atStart => exact ⟨0, _, _, by omega, rfl, rfl, hOwn.out, ex_up bw_⟩
  case round =>
   obtain ⟨k, A', c', hk, rfl, rfl, hown, g, rfl⟩ := hrel
   have hvl := Nat.le_trans (vals_len what (l.take k)) (by rw [List.length_take]; exact Nat.min_le_left _ _)
   by_cases hlt : k < l.length
   ·obtain ⟨b, off, rfl, hb, x0, x1, x2⟩ := en_at HO.out hlt
    by_cases q : l[k].what = what
    ·have qe := tl_teq q
     have hN := hd_ (vals_yes hlt q)
     clear q
     go_wp2_with (first | (at_builtin; go_must (refine wpl_appU rfl _ _ 28 rfl V V.heap.size 2 _ 1 8 el_int _ _ _ rfl (own_below hown bw_) _ 1 1 [i64 l[k].value] rfl (rds_new _ _ _ 1 1 rfl) (fun u hu => by simp at hu; subst hu; rfl) (by unfold maxLen; omega) (by omega) (up_below V _).size bw_ (Nat.le_refl _) ?_; intro A2 c2 g2 o2)))
     go_roundw
     case rel => exact ⟨k + 1, A2, c2, by omega, by go_num, by rw [hN.out, List.length_append]; rfl, by rw [hN.out, List.length_append, ics_app]; exact o2, _, rfl⟩
     case measure => (simp [intOf]; try omega)
    ·have qe := tl_tne q
     have hN := hd_ (vals_not hlt q)
     clear q
     go_wp2_with fail
     go_roundw
     case rel => exact ⟨k + 1, A', c', by omega, by go_num, by rw [hN.out], by rw [hN.out]; exact own_below hown bw_, ex_up bw_⟩
     case measure => (simp [intOf]; try omega)
   ·obtain rfl : k = l.length := by omega
    rw [List.take_of_length_le (Nat.le_refl _)] at hown
    go_wp2_with fail
    go_ret2
    rw [hf.out]
    exact ⟨A', c', rfl, own_mono (own_below hown bw_) HU.out.below.size, HU.out.tr bw_⟩
 ·have hf := hd_ (show vaR s what = ([], whC s what) by
   by_cases h1 : codeL s = 0
   ·have h2 : nameB what = false := by rw [← Bool.not_eq_true]; exact fun h2 => h ⟨h1, h2⟩
    rw [vaR_2 h1 h2, whC_2 h1 h2]
   ·rw [vaR_1 h1, whC_1 h1])
  have z : ((whC s what) != 0) = true := by
   rw [bne_iff_ne]
   by_cases h1 : codeL s = 0
   ·rw [whC_2 h1 (by rw [← Bool.not_eq_true]; exact fun h2 => h ⟨h1, h2⟩)]; decide
   ·rw [whC_1 h1]; exact h1
  have h' : ¬ codeL s = 0 ∨ nameB what = false := by
   by_cases h1 : codeL s = 0
   ·exact .inr (by rw [← Bool.not_eq_true]; exact fun h2 => h ⟨h1, h2⟩)
   ·exact .inl h1
  clear h
  go_enter Tryz.func156, Tryz.ntmps156
  go_wp2_with fail
  refine (whatS_no s what _ hs hs2 h').mono ?_
  rintro e V ⟨p, rfl, hup⟩
  have HU := hd_ hup
  clear hup
  go_wp2_with fail
  go_ret2
  rw [hf.out]
  exact ⟨none, 0, rfl, ⟨rfl, .inl ⟨rfl, rfl⟩⟩, HU.out.tr bw_⟩
theorem vals_mem {what : ByteArray} : ∀ {l : List Entry} {v : Int}, v ∈ vals what l → ∃ x ∈ l, x.value = v
 | [], v, h => by rw [vals] at h; cases h
 | x :: l, v, h => by
  rw [vals] at h
  split at h
  ·rcases List.mem_cons.1 h with rfl | h
   ·exact ⟨x, List.mem_cons_self .., rfl⟩
   ·obtain ⟨y, hy, e⟩ := vals_mem h
    exact ⟨y, List.mem_cons_of_mem _ hy, e⟩
  ·obtain ⟨y, hy, e⟩ := vals_mem h
   exact ⟨y, List.mem_cons_of_mem _ hy, e⟩
theorem vaR_bd (s what : ByteArray) : (vaR s what).1.length ≤ 4000 ∧ ∀ i, i < (vaR s what).1.length → -1000000000 ≤ num (vaR s what).1 i ∧ num (vaR s what).1 i ≤ 1000000000 := by
 by_cases h : codeL s = 0
 ·cases h2 : nameB what with
  | false => rw [vaR_2 h h2]; exact ⟨by simp, fun i hi => absurd hi (by simp)⟩
  | true =>
   rw [vaR_0 h h2]
   refine ⟨Nat.le_trans (vals_len _ _) (entsL_len h), fun i hi => ?_⟩
   have hm : num (vals what (entsL s)) i ∈ vals what (entsL s) := by
    rw [← num_eq hi]; exact List.getElem_mem hi
   obtain ⟨x, hx, e⟩ := vals_mem hm
   have hv := entsL_ok s x hx
   simp only [vEntry, Bool.and_eq_true] at hv
   have := btw_true hv.2
   rw [e] at this
   show -1000000000 ≤ num (vals what (entsL s)) i ∧ num (vals what (entsL s)) i ≤ 1000000000
   omega
 ·rw [vaR_1 h]; exact ⟨by simp, fun i hi => absurd hi (by simp)⟩
theorem adR_size {s : ByteArray} {x : Entry} (h : (adR s x).2 = 0) : (adR s x).1.size ≤ 4000 := by
 by_cases h1 : codeL s = 0
 ·cases h2 : vEntry x with
  | false => rw [adR_7 h1 h2]; decide
  | true =>
   by_cases h3 : x.day < dayL (entsL s)
   ·rw [adR_6 h1 h2 h3]; decide
   ·by_cases h4 : (s ++ newLine (stL s) x).size ≤ 4000
    ·rw [adR_0 h1 h2 h3 h4]; exact h4
    ·rw [adR_5 h1 h2 h3 h4]; decide
 ·rw [adR_1 h1] at h; exact absurd h h1
def entPost (d : DeskD) (sn : ByteArray) (o : Option (List Int)) (A B : Option Addr) (c e : Nat) (w : World) (r : Ending) (w' : World) : Prop := match o with
 | none => mdPost d [errL 7] A B c e w r w'
 | some l => if (adR d.log ⟨num l 0, sn, num l 1⟩).2 = 0 then mdPost { d with log := (adR d.log ⟨num l 0, sn, num l 1⟩).1 } (nmb (sumI (vaR (adR d.log ⟨num l 0, sn, num l 1⟩).1 sn).1, (vaR (adR d.log ⟨num l 0, sn, num l 1⟩).1 sn).2)) A B c e w r w'
  else mdPost d [errL (adR d.log ⟨num l 0, sn, num l 1⟩).2] A B c e w r w'
theorem enter_any (d : DeskD) (A B : Option Addr) (c e : Nat) (sd sn sv : ByteArray) (w : World) (h1 : sd.size ≤ 1048576) (h2 : sn.size ≤ 1048576) (h3 : sv.size ≤ 1048576) (hz : DkSz d e) (ht : Tab w) :
  Calls Tryz.prog 38 #[dkv d A B c e, .string sd, .string sn, .string sv] w fun r w' => entPost d sn (numsOf [sd, sv]) A B c e w r w' := by
 have HZ := hd_ hz
 have HT := hd_ ht
 have HF : Hid (∀ i, i < [sd, sv].length → (wd [sd, sv] i).size ≤ 100000000) := hd_ fun i hi => by
  match i, hi with
  | 0, _ => show sd.size ≤ _; omega
  | 1, _ => show sv.size ≤ _; omega
 clear hz ht
 cases hno : numsOf [sd, sv] with
 | none =>
  show Calls _ _ _ _ fun r w' => mdPost d [errL 7] A B c e w r w'
  go_enter Tryz.func38, Tryz.ntmps38
  go_upto_region 1 with (fail)
  refine wpg (R := fun V => Hid (MD w V w.heap.size (w.heap.size + 1) (dkcs d A B c e))) (hd_ (MD.new _ _)) (fun V z => ?_)
  generalize hp9 : w.heap.size = p at z ⊢
  generalize hq9 : p + 1 = q at z ⊢
  clear hp9 hq9
  go_wp2_with fail
  refine (readNumbers_any _ 2 [sd, sv] _ (rds_new V #[.string sd, .string sv] 9 1 2 rfl) (by simp) HF.out (HT.out.below (z.out.up.tr bw_).below)).mono ?_
  rintro r w' hr
  unfold rnPost at hr
  rw [hno] at hr
  obtain ⟨rfl, g1, rfl⟩ := hr
  go_upto_region 3 with (fail)
  refine wpg (R := fun U => Hid (MD w U p q (dkcs d A B c e))) (hd_ (z.out.below bw_)) (fun U z => ?_)
  have hC : cel8 U.drew p d A B c e := z.out.cel
  refine wp_region_T (fun U => U.cell? ⟨p, 0, none⟩ = some (i64 (d).b.bars) ∧ U.cell? ⟨p, 1, none⟩ = some (i64 (d).b.rise) ∧ U.cell? ⟨p, 2, none⟩ = some (i64 (d).b.fall) ∧ U.cell? ⟨p, 3, none⟩ = some (i64 (d).b.clr) ∧ U.cell? ⟨p, 4, none⟩ = some (i64 (d).b.near) ∧ U.cell? ⟨p, 5, none⟩ = some (.slice A (d).stops.length c) ∧ U.cell? ⟨p, 6, none⟩ = some (.slice B (d).drills.length e) ∧ U.cell? ⟨p, 7, none⟩ = some (.string (d).log)) 2 (by kernel_rfl) ?_
  
  refine wtl 0 (hC) ?_
  refine wto 1 fun K hK => ?_
  go_simp
  go_at_call 70
  refine (report_any 7 _).mono ?_
  rintro r w' ⟨X, n, rfl, ox, gx, rfl⟩
  have z2 := hd_ (z.out.below (V' := up U.drew gx) (bl_up (Below.drew (Below.refl _ _)) gx))
  have OX := hd_ ox
  clear ox
  refine hK.out _ _ (fun _ => z2.out.cel) (wtn ?_)
  clear hK K
  obtain ⟨hqT, r0, r1, r2, r3, r4, r5, r6, r7⟩ := z2.out.rs.eight
  obtain ⟨f0, f1, f2, f3, f4, f5, f6, f7⟩ := z2.out.rs.open8
  refine wto 2 fun K hK => ?_
  go_simp
  refine hK.out _ _ tf_ (wtn ?_)
  clear hK K
  refine wtp 3 tf_ ?_
  refine wtd ?_
  have hqU := z.out.rs.lt
  go_wp2_with fail
  refine bodyPost_ret (v := .tuple #[dkv (d) A B c e, .slice X 1 n]) (by simp [results, Tryz.results38, go_sem, hqT, r0, r1, r2, r3, r4, r5, r6, r7]) rfl ?_
  exact ⟨X, n, rfl, own_mono (own_all OX.out hqU _ _ _ _ _ _ _ _) z.out.up.below.size, put8_up z2.out.up z2.out.hq _ _ _ _ _ _ _ _⟩
 | some l =>
  have hl : l.length = 2 := by
   unfold numsOf at hno
   split at hno
   ·injection hno with hno; rw [← hno]; rfl
   ·cases hno
  obtain ⟨x, hx⟩ : ∃ x : Entry, (⟨num l 0, sn, num l 1⟩ : Entry) = x := ⟨_, rfl⟩
  obtain ⟨L, hL⟩ : ∃ L, (adR d.log x).1 = L := ⟨_, rfl⟩
  obtain ⟨C, hC⟩ : ∃ C, (adR d.log x).2 = C := ⟨_, rfl⟩
  have HAD : Hid (∀ V, Tab V → Calls Tryz.prog 85 #[.string d.log, .agg #[i64 (num l 0), .string sn, i64 (num l 1)]] V fun e w' => e = .returned (.tuple #[.string L, i64 C]) ∧ UpOf V w') := hd_ fun V hV => by
   have := addEntryI_any d.log x V HZ.out.l (by rw [← hx]; show sn.size ≤ _; omega) hV
   rw [hL, hC, ← hx] at this
   exact this
  have HLS : Hid (C = 0 → L.size ≤ 4000) := hd_ fun h => by rw [← hL]; exact adR_size (by rw [hC]; exact h)
  obtain ⟨N0, hN0⟩ : ∃ n, num l 0 = n := ⟨_, rfl⟩
  obtain ⟨N1, hN1⟩ : ∃ n, num l 1 = n := ⟨_, rfl⟩
  have hpost : ∀ r w', (if C = 0 then mdPost { d with log := L } (nmb (sumI (vaR L sn).1, (vaR L sn).2)) A B c e w r w' else mdPost d [errL C] A B c e w r w') → entPost d sn (some l) A B c e w r w' := fun r w' h => by
   show if (adR d.log ⟨num l 0, sn, num l 1⟩).2 = 0 then _ else _
   rw [hx, hL, hC]
   exact h
  rw [hN0, hN1] at HAD
  have HN0 := hd_ hN0
  have HN1 := hd_ hN1
  clear hx hL hC hN0 hN1
  refine (show Calls Tryz.prog 38 #[dkv d A B c e, .string sd, .string sn, .string sv] w fun r w' => (if C = 0 then mdPost { d with log := L } (nmb (sumI (vaR L sn).1, (vaR L sn).2)) A B c e w r w' else mdPost d [errL C] A B c e w r w') from ?_).mono hpost
  clear hpost
  by_cases h0 : C = 0
  ·subst h0
   have hLs := HLS.out rfl
   obtain ⟨D, hD⟩ : ∃ D : DeskD, { d with log := L } = D := ⟨_, rfl⟩
   have HDE := hd_ (show d.b = D.b ∧ d.stops = D.stops ∧ d.drills = D.drills ∧ L = D.log from by rw [← hD]; exact ⟨rfl, rfl, rfl, rfl⟩)
   rw [hD]
   clear hD
   obtain ⟨VL, hVL⟩ : ∃ VL, (vaR L sn).1 = VL := ⟨_, rfl⟩
   obtain ⟨VC, hVC⟩ : ∃ VC, (vaR L sn).2 = VC := ⟨_, rfl⟩
   have hvb := vaR_bd L sn
   rw [hVL] at hvb
   have HVB := hd_ hvb
   have HVO : Hid (∀ V, Tab V → Calls Tryz.prog 86 #[.string L, .string sn] V fun e w' => ∃ A' c', e = .returned (.tuple #[.slice A' VL.length c', i64 VC]) ∧ w'.ownsRow V.heap.size 2 1 (.slice A' VL.length c') VL.length (ics VL) ∧ UpOf V w') := hd_ fun V hV => by
    have := valuesOfI_any L sn V (by omega) (by omega) hV
    rw [hVL, hVC] at this
    exact this
   have hsum : -4000000000000 ≤ sumI VL ∧ sumI VL ≤ 4000000000000 := by
    have := sumI'_bd (l := VL) (B := 1000000000) (by omega) hvb.2 VL.length (Nat.le_refl _)
    rw [sumI', List.take_length] at this
    have := hvb.1
    omega
   obtain ⟨SV, hSV⟩ : ∃ SV, sumI VL = SV := ⟨_, rfl⟩
   have HSO : Hid (∀ V A1 c1, Rds V 1 A1 VL.length (ics VL) → Calls Tryz.prog 87 #[.slice A1 VL.length c1] V fun e w' => e = .returned (i64 SV) ∧ V = w') := hd_ fun V A1 c1 hr => by
    have := sumOf_any A1 c1 VL V hr (by have := HVB.out.1; omega) HVB.out.2
    rw [hSV] at this
    exact this
   rw [hSV] at hsum
   rw [hVL, hVC, hSV]
   obtain ⟨hs1, hs2⟩ := hsum
   clear hVL hVC hvb hSV
   refine (show Calls Tryz.prog 38 #[dkv d A B c e, .string sd, .string sn, .string sv] w fun r w' => mdPost D (nmb (SV, VC)) A B c e w r w' from ?_).mono (fun r w' h => by rw [if_pos rfl]; exact h)
   go_enter Tryz.func38, Tryz.ntmps38
   go_upto_region 1 with (fail)
   refine wpg (R := fun V => Hid (MD w V w.heap.size (w.heap.size + 1) (dkcs d A B c e))) (hd_ (MD.new _ _)) (fun V z => ?_)
   generalize hp9 : w.heap.size = p at z ⊢
   generalize hq9 : p + 1 = q at z ⊢
   clear hp9 hq9
   go_wp2_with fail
   refine (readNumbers_any _ 2 [sd, sv] _ (rds_new V #[.string sd, .string sv] 9 1 2 rfl) (by simp) HF.out (HT.out.below (z.out.up.tr bw_).below)).mono ?_
   rintro r w' hr
   unfold rnPost at hr
   rw [hno] at hr
   obtain ⟨AN, cn, rfl, on, g1, rfl⟩ := hr
   have hpos2 : 0 < l.length := by omega
   obtain ⟨bN, rfl⟩ : ∃ g, AN = some ⟨g, 0, none⟩ := by
    obtain ⟨_, ⟨_, h2⟩ | ⟨g, cap, cur, h1, _⟩⟩ := on
    ·omega
    ·injection h1 with h1
     exact ⟨g, h1⟩
   have hbN := on.lt bN rfl
   have hcc : ∀ (T : World), (h : Rds T 1 (some ⟨bN, 0, none⟩) l.length (ics l)) → ∀ i, i < 2 → T.cell? ⟨bN, i, none⟩ = some (i64 (num l i)) := fun T hT i hi => by
    obtain ⟨b9, o9, e9, _, hc9⟩ := hT.at (by omega)
    injection e9 with e9
    injection e9 with e91 e92
    subst e91 e92
    have := hc9 i (i64 (num l i)) (by rw [ics, List.getElem?_map, List.getElem?_eq_getElem (by omega), num_eq (by omega)]; rfl)
    rwa [Nat.zero_add] at this
   have HC2 := hd_ (hcc _ (Rds.of_own on))
   have HBN := hd_ hbN.2
   clear on hcc hbN
   rw [hl]
   go_upto_region 4 with (fail)
   refine wpg (R := fun U => Hid (MD w U p q (dkcs d A B c e)) ∧ U.cell? ⟨bN, 0, none⟩ = some (i64 N0) ∧ U.cell? ⟨bN, 1, none⟩ = some (i64 N1) ∧ bN < U.heap.size) ⟨hd_ (z.out.below bw_), by rw [← HN0.out]; exact HC2.out 0 (by omega), by rw [← HN1.out]; exact HC2.out 1 (by omega), HBN.out⟩ (fun U y => ?_)
   obtain ⟨z, n0, n1, hbU⟩ := y
   clear HC2 HBN
   obtain ⟨hpU, x0, x1, x2, x3, x4, x5, x6, x7⟩ := z.out.bx.eight
   obtain ⟨f0, f1, f2, f3, f4, f5, f6, f7⟩ := z.out.bx.open8
   go_wp2_with (first | ((with_reducible refine wru ?_); (repeat (go_big_quiet_step (first | (go_at_call 85; exact uq_ (HAD.out _ (HT.out.below (z.out.up.tr bw_).below)))))); refine wqn fun nq => ?_))
   have key : Hid (∀ g : Up U, MD w ((up U g).setCell ⟨p, 7, none⟩ (.string L)) p q (dkcs D A B c e)) := hd_ fun g => by
    have h := (z.out.below (up_below U g)).put 7 (.string L)
    have e1 := HDE.out
    have e2 : (dkcs d A B c e).setIfInBounds 7 (.string L) = dkcs D A B c e := by
     unfold dkcs
     rw [← e1.1, ← e1.2.1, ← e1.2.2.1, ← e1.2.2.2]; rfl
    rw [e2] at h
    exact h
   refine cg (R := fun T => Hid (MD w T p q (dkcs D A B c e))) (hd_ (key.out _)) (fun T z => ?_)
   clear key
   clear x0 x1 x2 x3 x4 x5 x6 x7 f0 f1 f2 f3 f4 f5 f6 f7 hpU n0 n1 hbU
   refine (HVO.out _ (HT.out.below z.out.up.below)).mono ?_
   rintro r w' ⟨AV, cv, rfl, ov, g5, rfl⟩
   go_upto_region 9 with (fail)
   refine wpg (R := fun U => Hid (MD w U p q (dkcs D A B c e)) ∧ Hid (Rds U 1 AV VL.length (ics VL))) ⟨hd_ (z.out.below bw_), hd_ (Rds.of_own ov)⟩ (fun U y => ?_)
   obtain ⟨z, HRV⟩ := y
   clear ov
   have hC : cel8 U.drew p D A B c e := z.out.cel
   refine wp_region_T (fun U => U.cell? ⟨p, 0, none⟩ = some (i64 (D).b.bars) ∧ U.cell? ⟨p, 1, none⟩ = some (i64 (D).b.rise) ∧ U.cell? ⟨p, 2, none⟩ = some (i64 (D).b.fall) ∧ U.cell? ⟨p, 3, none⟩ = some (i64 (D).b.clr) ∧ U.cell? ⟨p, 4, none⟩ = some (i64 (D).b.near) ∧ U.cell? ⟨p, 5, none⟩ = some (.slice A (D).stops.length c) ∧ U.cell? ⟨p, 6, none⟩ = some (.slice B (D).drills.length e) ∧ U.cell? ⟨p, 7, none⟩ = some (.string (D).log)) 6 (by kernel_rfl) ?_
   
   refine wtl 0 (hC) ?_
   refine wtp 1 (fun _ => hC) ?_
   refine wtp 3 (fun _ => hC) ?_
   refine wto 2 fun K hK => ?_
   go_simp
   go_at_call 87
   refine (HSO.out _ AV cv (HRV.out.below (Below.drew (Below.refl _ _)))).mono ?_
   rintro r w' ⟨rfl, rfl⟩
   refine hK.out _ _ (fun _ => hC) (wtn ?_)
   clear hK K
   refine wpAnyT_gen (R := fun U1 => Hid (MD w U1 p q (dkcs D A B c e))) (hd_ (z.out.below (V' := U.drew) (Below.drew (Below.refl _ _)))) (fun U1 z1 => ?_)
   clear hC
   refine wto 4 fun K hK => ?_
   go_simp
   go_at_call 35
   refine (number_any SV VC _ (by omega) (by omega) (HT.out.below z1.out.up.below)).mono ?_
   rintro r w' ⟨X, n, rfl, ox, gx, rfl⟩
   have z2 := hd_ ((z1).out.below (V' := up U1 gx) (bl_up (Below.refl _ _) gx))
   have OX := hd_ ox
   clear ox
   refine hK.out _ _ (fun _ => z2.out.cel) (wtn ?_)
   clear hK K
   obtain ⟨hqT, r0, r1, r2, r3, r4, r5, r6, r7⟩ := z2.out.rs.eight
   obtain ⟨f0, f1, f2, f3, f4, f5, f6, f7⟩ := z2.out.rs.open8
   refine wto 5 fun K hK => ?_
   go_simp
   refine hK.out _ _ (fun _ => (blk_far8 z2.out.bx z2.out.ne _ _ _ _ _ _ _ _).eight.2) (wtn ?_)
   clear hK K
   refine wto 6 fun K hK => ?_
   go_simp
   refine hK.out _ _ tf_ (wtn ?_)
   clear hK K
   refine wtd ?_
   have hqW0 := (z1).out.rs.lt
   have HLE0 := hd_ (z1).out.up.below.size
   go_wp2_with fail
   refine post_gen (R := fun W => Blk W q 31 (dkcs (D) A B c e) ∧ W.ownsRow w.heap.size 9 1 (.slice X (nmb (SV, VC)).length n) (nmb (SV, VC)).length (strs (nmb (SV, VC))) ∧ UpOf w W) ⟨blk_put8 z2.out.rs _ _ _ _ _ _ _ _, own_mono (own_all OX.out hqW0 _ _ _ _ _ _ _ _) HLE0.out, put8_up z2.out.up z2.out.hq _ _ _ _ _ _ _ _⟩ (fun W st => ?_)
   obtain ⟨s1, s2, s3⟩ := st
   obtain ⟨hqW, w0, w1, w2, w3, w4, w5, w6, w7⟩ := s1.eight
   clear s1 r0 r1 r2 r3 r4 r5 r6 r7 f0 f1 f2 f3 f4 f5 f6 f7
   exact bodyPost_ret (v := .tuple #[dkv (D) A B c e, .slice X (nmb (SV, VC)).length n]) (by simp [results, Tryz.results38, go_sem, hqW, w0, w1, w2, w3, w4, w5, w6, w7]) rfl ⟨_, _, rfl, s2, s3⟩
  ·have h0' : (C != 0) = true := by rw [bne_iff_ne]; exact h0
   refine (show Calls Tryz.prog 38 #[dkv d A B c e, .string sd, .string sn, .string sv] w fun r w' => mdPost d [errL C] A B c e w r w' from ?_).mono (fun r w' h => by rw [if_neg h0]; exact h)
   clear h0
   go_enter Tryz.func38, Tryz.ntmps38
   go_upto_region 1 with (fail)
   refine wpg (R := fun V => Hid (MD w V w.heap.size (w.heap.size + 1) (dkcs d A B c e))) (hd_ (MD.new _ _)) (fun V z => ?_)
   generalize hp9 : w.heap.size = p at z ⊢
   generalize hq9 : p + 1 = q at z ⊢
   clear hp9 hq9
   go_wp2_with fail
   refine (readNumbers_any _ 2 [sd, sv] _ (rds_new V #[.string sd, .string sv] 9 1 2 rfl) (by simp) HF.out (HT.out.below (z.out.up.tr bw_).below)).mono ?_
   rintro r w' hr
   unfold rnPost at hr
   rw [hno] at hr
   obtain ⟨AN, cn, rfl, on, g1, rfl⟩ := hr
   have hpos2 : 0 < l.length := by omega
   obtain ⟨bN, rfl⟩ : ∃ g, AN = some ⟨g, 0, none⟩ := by
    obtain ⟨_, ⟨_, h2⟩ | ⟨g, cap, cur, h1, _⟩⟩ := on
    ·omega
    ·injection h1 with h1
     exact ⟨g, h1⟩
   have hbN := on.lt bN rfl
   have hcc : ∀ (T : World), (h : Rds T 1 (some ⟨bN, 0, none⟩) l.length (ics l)) → ∀ i, i < 2 → T.cell? ⟨bN, i, none⟩ = some (i64 (num l i)) := fun T hT i hi => by
    obtain ⟨b9, o9, e9, _, hc9⟩ := hT.at (by omega)
    injection e9 with e9
    injection e9 with e91 e92
    subst e91 e92
    have := hc9 i (i64 (num l i)) (by rw [ics, List.getElem?_map, List.getElem?_eq_getElem (by omega), num_eq (by omega)]; rfl)
    rwa [Nat.zero_add] at this
   have HC2 := hd_ (hcc _ (Rds.of_own on))
   have HBN := hd_ hbN.2
   clear on hcc hbN
   rw [hl]
   go_upto_region 4 with (fail)
   refine wpg (R := fun U => Hid (MD w U p q (dkcs d A B c e)) ∧ U.cell? ⟨bN, 0, none⟩ = some (i64 N0) ∧ U.cell? ⟨bN, 1, none⟩ = some (i64 N1) ∧ bN < U.heap.size) ⟨hd_ (z.out.below bw_), by rw [← HN0.out]; exact HC2.out 0 (by omega), by rw [← HN1.out]; exact HC2.out 1 (by omega), HBN.out⟩ (fun U y => ?_)
   obtain ⟨z, n0, n1, hbU⟩ := y
   clear HC2 HBN
   obtain ⟨hpU, x0, x1, x2, x3, x4, x5, x6, x7⟩ := z.out.bx.eight
   go_wp2_with (first | ((with_reducible refine wru ?_); (repeat (go_big_quiet_step (first | (go_at_call 85; exact uq_ (HAD.out _ (HT.out.below (z.out.up.tr bw_).below)))))); refine wqn fun nq => ?_))
   refine wpg (R := fun U => Hid (MD w U p q (dkcs d A B c e))) (hd_ (z.out.below bw_)) (fun U z => ?_)
   have hC : cel8 U.drew p d A B c e := z.out.cel
   refine wp_region_T (fun U => U.cell? ⟨p, 0, none⟩ = some (i64 (d).b.bars) ∧ U.cell? ⟨p, 1, none⟩ = some (i64 (d).b.rise) ∧ U.cell? ⟨p, 2, none⟩ = some (i64 (d).b.fall) ∧ U.cell? ⟨p, 3, none⟩ = some (i64 (d).b.clr) ∧ U.cell? ⟨p, 4, none⟩ = some (i64 (d).b.near) ∧ U.cell? ⟨p, 5, none⟩ = some (.slice A (d).stops.length c) ∧ U.cell? ⟨p, 6, none⟩ = some (.slice B (d).drills.length e) ∧ U.cell? ⟨p, 7, none⟩ = some (.string (d).log)) 3 (by kernel_rfl) ?_
   
   refine wtl 0 (hC) ?_
   refine wtp 1 (fun _ => hC) ?_
   refine wto 2 fun K hK => ?_
   go_simp
   go_at_call 70
   refine (report_any C _).mono ?_
   rintro r w' ⟨X, n, rfl, ox, gx, rfl⟩
   have z2 := hd_ (z.out.below (V' := up U.drew gx) (bl_up (Below.drew (Below.refl _ _)) gx))
   have OX := hd_ ox
   clear ox
   refine hK.out _ _ (fun _ => z2.out.cel) (wtn ?_)
   clear hK K
   obtain ⟨hqT, r0, r1, r2, r3, r4, r5, r6, r7⟩ := z2.out.rs.eight
   obtain ⟨f0, f1, f2, f3, f4, f5, f6, f7⟩ := z2.out.rs.open8
   refine wto 3 fun K hK => ?_
   go_simp
   refine hK.out _ _ tf_ (wtn ?_)
   clear hK K
   refine wtp 4 tf_ ?_
   refine wtd ?_
   have hqU := z.out.rs.lt
   go_wp2_with fail
   refine bodyPost_ret (v := .tuple #[dkv (d) A B c e, .slice X 1 n]) (by simp [results, Tryz.results38, go_sem, hqT, r0, r1, r2, r3, r4, r5, r6, r7]) rfl ?_
   exact ⟨X, n, rfl, own_mono (own_all OX.out hqU _ _ _ _ _ _ _ _) z.out.up.below.size, put8_up z2.out.up z2.out.hq _ _ _ _ _ _ _ _⟩
theorem rds_grown {w w' : World} {sz n : Nat} {A : Option Addr} {xs : List Value} {row : Option Nat} (h : Rds w sz A n xs) (hg : w.grownBy w' row) (hne : ∀ b off, A = some ⟨b, off, none⟩ → some b ≠ row) : Rds w' sz A n xs :=
 ⟨h.1, fun h0 => by
  obtain ⟨b, off, e, hb, hc⟩ := h.2 h0
  exact ⟨b, off, e, Nat.lt_of_lt_of_le hb hg.size, fun j u hu => hg.cell (hc j u hu) (hne b off e)⟩⟩
theorem listDrills_any (d : DeskD) (A B : Option Addr) (c e : Nat) (s : ByteArray) (w : World) (hS : DSee w d A B) (hz : DkSz d e) (hk : kindOf s = 4) (ht : Tab w) :
  Calls Tryz.prog 39 #[dkv d A B c e, .string s] w fun r w' => txPost (d.drills.map drText ++ [okLine d.drills.length]) w r w' := by
 have HS := hd_ hS
 have HZ := hd_ hz
 have HT := hd_ ht
 have q4 : (s.toList == [100, 114, 105, 108, 108, 115]) = true := by
  have := kind_test2 s (i := 4) (by omega)
  rw [hk] at this
  exact this
 obtain ⟨R, hR⟩ : ∃ R, d.drills.map drText ++ [okLine d.drills.length] = R := ⟨_, rfl⟩
 have HR := hd_ hR
 rw [hR]
 clear hS hz hk ht hR
 go_enter Tryz.func39, Tryz.ntmps39
 go_upto_region 1 with (fail)
 refine wpg (R := fun V => Box V w.heap.size (dkcs d A B c e) ∧ UpOf w V) ⟨Box.new _ _ _, uw_⟩ (fun V z => ?_)
 obtain ⟨hb, hB⟩ := z
 have HU := hd_ hB
 obtain ⟨hpV, x0, x1, x2, x3, x4, x5, x6, x7⟩ := hb.eight
 clear hb hB
 generalize w.heap.size = p at *
 have hOwn := hd_ (World.ownsRow_lit (base := V.heap.size) (e := 9) (size := 1) V #[] 0 (Nat.le_refl _) (by unfold maxLen; omega) rfl)
 go_wp2_with fail
 have hdn := HZ.out.n
 clear x0 x1 x2 x3 x4 x5 x6 x7 hpV
 go_loopw [5, 18] (fun t5 t18 wr => ∃ (k : Nat) (L : List ByteArray) (A1 : Option Addr) (c1 : Nat), k ≤ d.drills.length ∧ t18 = i64 k ∧ t5 = .slice A1 L.length c1 ∧ Hid (L = (d.drills.take k).map drText) ∧ Hid (wr.ownsRow V.heap.size 9 1 (.slice A1 L.length c1) L.length (strs L)) ∧ ∃ g : Up V, wr = up V g) (fun _ t18 _ => d.drills.length - (intOf t18).toNat)
 case atStart => exact ⟨0, [], _, _, by omega, rfl, rfl, hd_ rfl, hd_ hOwn.out, ex_up bw_⟩
 case round =>
  obtain ⟨k, L, A1, c1, hk, rfl, rfl, HE, HO, g, rfl⟩ := hrel
  clear hOwn
  have hLl : L.length ≤ 100000000 := by rw [HE.out, List.length_map, List.length_take]; omega
  by_cases hlt : k < d.drills.length
  ·obtain ⟨b, off, rfl, hb, x0, x1, x2⟩ := drl_at ((HS.out.2.below HU.out.below).below (up_below V g)) hlt
   obtain ⟨f1, f2⟩ := HZ.out.b k hlt
   obtain ⟨T, hT⟩ : ∃ T, drText (drl d.drills k) = T := ⟨_, rfl⟩
   have HDT : Hid (∀ V, Tab V → Calls Tryz.prog 88 #[.agg #[.string (drl d.drills k).name, .string (drl d.drills k).letters, i64 (drl d.drills k).minutes]] V fun e w' => e = .returned (.string T) ∧ UpOf V w') := hd_ fun V hV => by
    rw [← hT]; exact drillText_any (drl d.drills k) V (by omega) (by omega) hV
   have HE2 := hd_ (show L ++ [T] = (d.drills.take (k + 1)).map drText by
    rw [List.take_succ, List.map_append, ← HE.out, List.getElem?_eq_getElem hlt, drl_eq hlt, ← hT]; rfl)
   clear hT HE
   go_wp2_with (first | (go_at_call 88; refine (HDT.out _ (HT.out.below (HU.out.tr bw_).below)).mono ?_; rintro e w' ⟨rfl, g, rfl⟩) | (at_builtin; go_must (refine wpl_appU rfl _ _ 24 rfl V V.heap.size 9 _ 1 16 el_str (.slice A1 L.length c1) L.length (strs L) rfl (own_below HO.out bw_) _ 1 1 [.string T] rfl (rds_new _ _ _ 1 1 rfl) (fun u hu => by simp at hu; subst hu; rfl) (by unfold maxLen; omega) (by omega) (show Below V.heap.size V _ from bw_).size bw_ (Nat.le_refl _) ?_; intro A2 c2 g2 o2)))
   go_roundw
   case rel => exact ⟨k + 1, L ++ [T], A2, c2, by omega, by go_num, congrArg (fun n => Value.slice A2 n c2) (by simp), HE2, hd_ (by rw [List.length_append, strs_app]; exact o2), ex_up bw_⟩
   case measure => simp [intOf]; try omega
  ·obtain rfl : k = d.drills.length := by omega
   have HF := hd_ (show R = L ++ [okLine L.length] by rw [← HR.out, HE.out, List.take_length, List.length_map])
   clear HE
   go_wp2_with fail
   refine (listed_any V.heap.size A1 c1 L (up V g) (up_below V g).size HO.out (by omega) (HT.out.below (HU.out.tr (up_below V g)).below) V (up_below V g) (Nat.le_refl _)).mono ?_
   rintro r w' ⟨A2, c2, rfl, o2, g2, rfl⟩
   go_wp2_with fail
   go_ret
   refine ⟨A2, c2, ?_, ?_, HU.out.tr bw_⟩
   ·rw [HF.out, List.length_append]; rfl
   ·rw [HF.out, List.length_append]; exact own_mono o2 HU.out.below.size
theorem listLog_any (d : DeskD) (A B : Option Addr) (c e : Nat) (s : ByteArray) (w : World) (hz : DkSz d e) (hk : kindOf s = 8) (hv : vDesk d = true) (ht : Tab w) :
  Calls Tryz.prog 39 #[dkv d A B c e, .string s] w fun r w' => txPost ((entsL d.log).map ewords ++ [okLine (entsL d.log).length]) w r w' := by
 have HZ := hd_ hz
 have HT := hd_ ht
 have q4 : (s.toList == [100, 114, 105, 108, 108, 115]) = false := by
  have := kind_test2 s (i := 4) (by omega)
  rw [hk] at this
  exact this
 have hcl := (vDesk_inv hv).2.2.2
 obtain ⟨E, hE⟩ : ∃ E, entsL d.log = E := ⟨_, rfl⟩
 have hEl : E.length ≤ 4000 := by rw [← hE]; exact entsL_len hcl
 have HEV : Hid (∀ i (h : i < E.length), vEntry E[i] = true) := hd_ fun i h => by
  have := entsL_ok d.log E[i] (by rw [hE]; exact List.getElem_mem h)
  exact this
 have HEO : Hid (∀ V, Tab V → Calls Tryz.prog 68 #[.string d.log] V fun e w' => ∃ A' c', e = .returned (.tuple #[.slice A' E.length c', i64 0]) ∧ w'.ownsRow V.heap.size 127 3 (.slice A' E.length c') E.length (encs E) ∧ UpOf V w') := hd_ fun V hV => by
  have := entriesOfI_any d.log V HZ.out.l hV
  rw [enR, if_pos hcl, hE] at this
  exact this
 rw [hE]
 obtain ⟨R, hR⟩ : ∃ R, E.map ewords ++ [okLine E.length] = R := ⟨_, rfl⟩
 have HR := hd_ hR
 rw [hR]
 clear hz hk ht hR hv hcl hE
 go_enter Tryz.func39, Tryz.ntmps39
 go_upto_region 1 with (fail)
 refine wpg (R := fun V => Box V w.heap.size (dkcs d A B c e) ∧ UpOf w V) ⟨Box.new _ _ _, uw_⟩ (fun V z => ?_)
 obtain ⟨hb, hB⟩ := z
 have HU := hd_ hB
 obtain ⟨hpV, x0, x1, x2, x3, x4, x5, x6, x7⟩ := hb.eight
 clear hb hB
 generalize w.heap.size = p at *
 have hOwn := hd_ (World.ownsRow_lit (base := V.heap.size) (e := 9) (size := 1) V #[] 0 (Nat.le_refl _) (by unfold maxLen; omega) rfl)
 go_wp2_with fail
 refine (HEO.out _ (HT.out.below (HU.out.tr bw_).below)).mono ?_
 rintro r w' ⟨AE, cE, rfl, oe, g0, rfl⟩
 have HNE : Hid (∀ b off, AE = some ⟨b, off, none⟩ → b ≠ V.heap.size) := hd_ fun b off hb => by
  subst hb
  have := (oe.lt b rfl).1
  rw [World.size_alloc] at this
  omega
 have HRE := hd_ (Rds.of_own oe)
 have hup : Hid (Below V.heap.size V (up (V.alloc (.cells #[] 9)) g0)) := hd_ bw_
 have HO0 := hd_ (own_below hOwn.out (up_below _ g0))
 clear oe hOwn x0 x1 x2 x3 x4 x5 x6 x7 hpV
 go_wp2_with fail
 generalize up (V.alloc (.cells #[] 9)) g0 = V2 at *
 go_loopw [5, 38] (fun t5 t38 wr => ∃ (k : Nat) (L : List ByteArray) (ga c1 : Nat), k ≤ E.length ∧ t38 = i64 k ∧ t5 = .slice (some ⟨ga, 0, none⟩) L.length c1 ∧ Hid (L = (E.take k).map ewords) ∧ Hid (wr.ownsRow V.heap.size 9 1 (.slice (some ⟨ga, 0, none⟩) L.length c1) L.length (strs L)) ∧ Hid (Rds wr 3 AE E.length (encs E) ∧ ∀ b off, AE = some ⟨b, off, none⟩ → b ≠ ga) ∧ Hid (Below V.heap.size V wr)) (fun _ t38 _ => E.length - (intOf t38).toNat)
 case atStart => exact ⟨0, [], _, _, by omega, rfl, rfl, hd_ rfl, HO0, hd_ ⟨HRE.out, HNE.out⟩, hup⟩
 case round =>
  obtain ⟨k, L, ga, c1, hk, rfl, rfl, HE, HO, HRr, HBv⟩ := hrel
  clear HRE hup HO0 HNE
  have hLl : L.length ≤ 4000 := by rw [HE.out, List.length_map, List.length_take]; omega
  by_cases hlt : k < E.length
  ·obtain ⟨b, off, rfl, hb, x0, x1, x2⟩ := en_at HRr.out.1 hlt
   have hbne := HRr.out.2 b off rfl
   obtain ⟨X, hX⟩ : ∃ X, E[k] = X := ⟨_, rfl⟩
   have hvX : vEntry X = true := by rw [← hX]; exact HEV.out k hlt
   rw [hX] at x0 x1 x2
   obtain ⟨T, hT⟩ : ∃ T, ewords X = T := ⟨_, rfl⟩
   have HDT : Hid (∀ V, Tab V → Calls Tryz.prog 90 #[.agg #[i64 X.day, .string X.what, i64 X.value]] V fun e w' => e = .returned (.string T) ∧ UpOf V w') := hd_ fun V hV => by
    rw [← hT]; exact words_any X hvX V hV
   have HE2 := hd_ (show L ++ [T] = (E.take (k + 1)).map ewords by
    rw [List.take_succ, List.map_append, ← HE.out, List.getElem?_eq_getElem hlt, hX, ← hT]; rfl)
   have HTw := hd_ (HT.out.below (HU.out.tr HBv.out).below)
   have HGA := hd_ (HO.out.lt ga rfl).1
   clear hT HE hX hvX
   go_wp2_with (first | (go_at_call 90; refine (HDT.out _ (HTw.out.below bw_)).mono ?_; rintro e w' ⟨rfl, g, rfl⟩) | (at_builtin; go_must (refine wpl_appAt rfl _ _ 24 rfl V.heap.size 9 _ 1 16 el_str (.slice (some ⟨ga, 0, none⟩) L.length c1) L.length (strs L) rfl (own_below HO.out bw_) _ 1 1 [.string T] rfl (rds_new _ _ _ 1 1 rfl) (fun u hu => by simp at hu; subst hu; rfl) (by omega) (by unfold maxLen; omega) (by omega) (Nat.le_trans HBv.out.size (show Below wr.heap.size wr _ from bw_).size) ?_; intro g9 c9 w9 o9 hg9 hat9; have HG9 := hd_ hg9; have O9 := hd_ o9; have HAT := hd_ hat9; clear hg9 o9 hat9)))
   go_roundw
   case rel => exact ⟨k + 1, L ++ [T], g9, c9, by omega, by go_num, congrArg (fun n => Value.slice (some ⟨g9, 0, none⟩) n c9) (by simp), HE2, hd_ (by rw [List.length_append, strs_app]; exact O9.out),
    hd_ ⟨rds_grown (HRr.out.1.below bw_) HG9.out (fun b' off' e9 e8 => by
     injection e9 with e9
     injection e9 with e9
     injection e8 with e8
     exact hbne (by rw [e9]; exact e8)), fun b' off' e9 e8 => by
     injection e9 with e9
     injection e9 with e9
     rcases HAT.out with h | h
     ·injection h with h
      have h' : ga = g9 := h
      exact hbne (by rw [e9, e8, ← h'])
     ·have hlt9 : b < g9 := by
       rw [h]
       exact Nat.lt_of_lt_of_le hb (show Below wr.heap.size wr _ from bw_).size
      omega⟩,
    hd_ ((HBv.out.trans (Below.mono bw_ HBv.out.size)).grown HG9.out (Nat.le_trans HBv.out.size (show Below wr.heap.size wr _ from bw_).size) (fun k hk => by injection hk with hk; rw [← hk]; exact HGA.out))⟩
   case measure => simp [intOf]; try omega
  ·obtain rfl : k = E.length := by omega
   have HF := hd_ (show R = L ++ [okLine L.length] by rw [← HR.out, HE.out, List.take_length, List.length_map])
   clear HE
   go_wp2_with fail
   refine (listed_any V.heap.size (some ⟨ga, 0, none⟩) c1 L wr HBv.out.size HO.out (by omega) (HT.out.below (HU.out.tr HBv.out).below) V HBv.out (Nat.le_refl _)).mono ?_
   rintro r w' ⟨A2, c2, rfl, o2, g2, rfl⟩
   go_wp2_with fail
   go_ret
   refine ⟨A2, c2, ?_, ?_, HU.out.tr bw_⟩
   ·rw [HF.out, List.length_append]; rfl
   ·rw [HF.out, List.length_append]; exact own_mono o2 HU.out.below.size
theorem copied_any (d : DeskD) (A B : Option Addr) (c e : Nat) (w : World) (h : DSee w d A B) (hn : d.stops.length ≤ 100000000) (hm : d.drills.length ≤ 100000000) :
  Calls Tryz.prog 29 #[dkv d A B c e] w fun r w' => ∃ A' B' c' e', r = .returned (dkv d A' B' c' e') ∧ DOwn w.heap.size w' d A' B' c' e' ∧ UpOf w w' := by
 have HR := hd_ h
 clear h
 go_enter Tryz.func29, Tryz.ntmps29
 go_upto_region 1 with (fail)
 refine wpg (R := fun V => Hid (MD w V w.heap.size (w.heap.size + 1) (dkcs d A B c e))) (hd_ (MD.new _ _)) (fun V z => ?_)
 generalize hp9 : w.heap.size = p at z ⊢
 generalize hq9 : p + 1 = q at z ⊢
 obtain ⟨hpV, x0, x1, x2, x3, x4, x5, x6, x7⟩ := z.out.bx.eight
 obtain ⟨f0, f1, f2, f3, f4, f5, f6, f7⟩ := z.out.bx.open8
 have HQ : Hid (q < V.heap.size) := hd_ z.out.rs.lt
 have hst := hd_ (World.ownsRow_lit (base := V.heap.size) (e := 2) (size := 1) V #[] 0 (Nat.le_refl _) (by unfold maxLen; omega) rfl)
 have HSt := hd_ (HR.out.1.below z.out.up.below)
 go_upto_region 2 with (at_builtin; go_must (refine wpl_appU rfl _ _ 28 rfl V V.heap.size 2 _ 1 8 el_int64 (.slice (some ⟨V.heap.size, 0, none⟩) 0 0) 0 [] rfl hst.out _ d.stops.length _ (ics d.stops) rfl (HSt.out.below bw_) (fun u hu => by simp only [ics, List.mem_map] at hu; obtain ⟨_, _, rfl⟩ := hu; rfl) (by unfold maxLen; omega) (by omega) (show Below V.heap.size V _ from bw_).size bw_ (Nat.le_refl _) ?_; intro A1 c1 g1 o1))
 have HPV := hd_ hpV
 have HQV := HQ
 have HVW := hd_ z.out.up.below.size
 refine wpg (R := fun U => Hid (MD w U p q (dkcs d A1 B c1 e)) ∧ Hid (U.ownsRow V.heap.size 2 1 (.slice A1 d.stops.length c1) d.stops.length (ics d.stops)) ∧ V.heap.size ≤ U.heap.size) ⟨hd_ (by
   have := (z.out.below (up_below V g1)).put 5 (.slice A1 d.stops.length c1)
   exact this), hd_ (own_setOld (p := ⟨p, 5, none⟩) (by simpa using o1) hpV _), by rw [World.size_setCell]; exact (up_below V g1).size⟩ (fun U y => ?_)
 obtain ⟨y1, y2, y3⟩ := y
 clear x0 x1 x2 x3 x4 x5 x6 x7 f0 f1 f2 f3 f4 f5 f6 f7 hpV hst HSt HQ z
 obtain ⟨hpU, x0, x1, x2, x3, x4, x5, x6, x7⟩ := y1.out.bx.eight
 obtain ⟨f0, f1, f2, f3, f4, f5, f6, f7⟩ := y1.out.bx.open8
 have hst := hd_ (World.ownsRow_lit (base := U.heap.size) (e := 112) (size := 3) U #[] 0 (Nat.le_refl _) (by unfold maxLen; omega) rfl)
 have HSt := hd_ (HR.out.2.below y1.out.up.below)
 go_upto_region 3 with (at_builtin; go_must (refine wpl_appU rfl _ _ 29 rfl U U.heap.size 112 _ 3 40 el_drl (.slice (some ⟨U.heap.size, 0, none⟩) 0 0) 0 [] rfl hst.out _ d.drills.length _ (drcs d.drills) rfl (HSt.out.below bw_) (dr_one d.drills) (by unfold maxLen; omega) (by omega) (show Below U.heap.size U _ from bw_).size bw_ (Nat.le_refl _) ?_; intro A2 c2 g2 o2))
 refine wpg (R := fun T => Hid (MD w T p q (dkcs d A1 A2 c1 c2)) ∧ Hid (T.ownsRow V.heap.size 2 1 (.slice A1 d.stops.length c1) d.stops.length (ics d.stops)) ∧ Hid (T.ownsRow U.heap.size 112 3 (.slice A2 d.drills.length c2) d.drills.length (drcs d.drills))) ⟨hd_ (by
   have := (y1.out.below (up_below U g2)).put 6 (.slice A2 d.drills.length c2)
   exact this), hd_ (own_setOld (p := ⟨p, 6, none⟩) (own_below y2.out (up_below U g2)) HPV.out _), hd_ (own_setOld (p := ⟨p, 6, none⟩) (by simpa using o2) hpU _)⟩ (fun T s => ?_)
 obtain ⟨s1, s2, s3⟩ := s
 have hqV := HQV.out
 clear x0 x1 x2 x3 x4 x5 x6 x7 f0 f1 f2 f3 f4 f5 f6 f7 hpU hst HSt y1 y2
 obtain ⟨hpT, x0, x1, x2, x3, x4, x5, x6, x7⟩ := s1.out.bx.eight
 obtain ⟨hqT, r0, r1, r2, r3, r4, r5, r6, r7⟩ := s1.out.rs.eight
 obtain ⟨f0, f1, f2, f3, f4, f5, f6, f7⟩ := s1.out.rs.open8
 have hne := s1.out.ne
 go_wp2_with fail
 refine bodyPost_ret (v := dkv d A1 A2 c1 c2) (by simp [results, Tryz.results29, go_sem, hqT, r0, r1, r2, r3, r4, r5, r6, r7]) rfl ?_
 exact ⟨A1, A2, c1, c2, rfl, ⟨own_mono (own_all s2.out (by omega) _ _ _ _ _ _ _ _) HVW.out, own_mono (own_all s3.out (by omega) _ _ _ _ _ _ _ _) (Nat.le_trans HVW.out y3)⟩, put8_up s1.out.up s1.out.hq _ _ _ _ _ _ _ _⟩
theorem wordB_txt (n : Int) (s : ByteArray) (h : 0 ≤ n) : wordB n s = (decide (1 ≤ s.size) && txtB 33 n.toNat s) := by
 rw [wordB, txtB, Bool.and_assoc]
 congr 2
 rw [decide_eq_decide]; omega
theorem vText_1 {ws : List ByteArray} {n : Int} (h : btw n 1 80 = false) : vText ws n = false := by rw [vText, h]; rfl
theorem vText_2 {ws : List ByteArray} {n : Int} (h : ¬ ws.length ≤ 40) : vText ws n = false := by rw [vText, decide_eq_false h, Bool.and_false, Bool.false_and]
theorem vText_3 {ws : List ByteArray} {n : Int} {i : Nat} (hi : i < ws.length) (h : wordB n (wd ws i) = false) : vText ws n = false := by rw [vText, rall_at hi h, Bool.and_false]
theorem vText_0 {ws : List ByteArray} {n : Int} (h1 : btw n 1 80 = true) (h2 : ws.length ≤ 40) (h : ∀ i, i < ws.length → wordB n (wd ws i) = true) : vText ws n = true := by
 rw [vText, h1, decide_eq_true h2, rall_true h]; rfl
theorem vText_inv {ws : List ByteArray} {n : Int} (h : vText ws n = true) : (1 ≤ n ∧ n ≤ 80) ∧ ws.length ≤ 40 ∧ ∀ i, i < ws.length → 0 < (wd ws i).size ∧ ((wd ws i).size : Int) ≤ n := by
 simp only [vText, Bool.and_eq_true, decide_eq_true_eq, List.all_eq_true, List.mem_range, wordB] at h
 exact ⟨btw_true h.1.1, h.1.2, fun i hi => ⟨(h.2 i hi).1.1, (h.2 i hi).1.2⟩⟩
theorem validText_any (n : Int) (A : Option Addr) (c : Nat) (ws : List ByteArray) (w : World) (h : Rds w 1 A ws.length (strs ws)) (hn : ws.length ≤ 100000000) (hf : WBd ws) :
  Calls Tryz.prog 131 #[.slice A ws.length c, i64 n] w fun e w' => e = .returned (.bool (vText ws n)) ∧ UpOf w w' := by
 have HF := hd_ hf
 have HR := hd_ h
 clear hf h
 cases b1 : btw n 1 80 with
 | false =>
  have hr := hd_ (vText_1 (ws := ws) b1)
  go_enter Tryz.func131, Tryz.ntmps131
  go_wp2_with (first | (go_at_call 118; refine (ret_as (between_any n 1 80 _) b1).mono ?_; rintro e w' ⟨rfl, rfl⟩))
  go_ret
  exact ⟨ret_bool hr.out.symm, uw_⟩
 | true =>
  have hb := btw_true b1
  by_cases h40 : ws.length ≤ 40
  ·have h40' : ¬ (40 : Int) < ws.length := by omega
   go_enter Tryz.func131, Tryz.ntmps131
   go_wp2_with (first | (go_at_call 118; refine (ret_as (between_any n 1 80 _) b1).mono ?_; rintro e w' ⟨rfl, rfl⟩))
   go_loopw [17] (fun t17 wr => ∃ k : Nat, k ≤ ws.length ∧ t17 = i64 k ∧ Hid (∀ j, j < k → wordB n (wd ws j) = true) ∧ ∃ g : Up w, wr = up w g) (fun t17 _ => ws.length - (intOf t17).toNat)
   case atStart => exact ⟨0, by omega, rfl, hd_ (fun j hj => by omega), ex_up bw_⟩
   case round =>
    obtain ⟨k, hk, rfl, HK, g, rfl⟩ := hrel
    by_cases hlt : k < ws.length
    ·obtain ⟨b, off, rfl, hb', c0⟩ := wd_at HR.out hlt
     have c0 := c0 k hlt
     have f1 := HF.out k hlt
     by_cases z : (wd ws k).size = 0
     ·have z' : ((wd ws k).size : Int) = 0 := by omega
      have hf := hd_ (vText_3 (n := n) hlt (by rw [wordB, decide_eq_false (by omega)]; rfl))
      go_wp2_with fail
      go_ret
      exact ⟨ret_bool hf.out.symm, uw_⟩
     ·have z' : ¬ ((wd ws k).size : Int) = 0 := by omega
      have z2 : (((wd ws k).size : Int) == 0) = false := beq_eq_false_iff_ne.2 z'
      have hit : ∀ V, Calls Tryz.prog 134 #[.string (wd ws k), .int .u8 33, i64 n] V fun e w' => e = .returned (.bool (wordB n (wd ws k))) ∧ V = w' := fun V => by
       have := isText_any (wd ws k) 33 n.toNat V (by omega) (by omega) (by omega)
       rw [show ((n.toNat : Nat) : Int) = n by omega] at this
       rw [wordB_txt n _ (by omega), decide_eq_true (by omega), Bool.true_and]
       exact this
      cases b2 : wordB n (wd ws k) with
      | false =>
       rw [b2] at hit
       have HI := hd_ hit
       have hf := hd_ (vText_3 (n := n) hlt b2)
       clear hit b2 z
       go_wp2_with (first | (go_at_call 134; refine (HI.out _).mono ?_; rintro e w' ⟨rfl, rfl⟩))
       go_ret
       exact ⟨ret_bool hf.out.symm, uw_⟩
      | true =>
       rw [b2] at hit
       have HI := hd_ hit
       have HK2 := hd_ (lt_ext (P := fun j => wordB n (wd ws j) = true) HK.out b2)
       clear hit b2 z
       go_wp2_with (first | (go_at_call 134; refine (HI.out _).mono ?_; rintro e w' ⟨rfl, rfl⟩))
       go_roundw
       case rel => exact ⟨k + 1, by omega, by go_num, HK2, ex_up bw_⟩
       case measure => simp [intOf]; try omega
    ·obtain rfl : k = ws.length := by omega
     have hf := hd_ (vText_0 b1 h40 HK.out)
     go_wp2_with fail
     go_ret
     exact ⟨ret_bool hf.out.symm, uw_⟩
  ·have h40' : (40 : Int) < ws.length := by omega
   have hr := hd_ (vText_2 (n := n) h40)
   go_enter Tryz.func131, Tryz.ntmps131
   go_wp2_with (first | (go_at_call 118; refine (ret_as (between_any n 1 80 _) b1).mono ?_; rintro e w' ⟨rfl, rfl⟩))
   go_ret
   exact ⟨ret_bool hr.out.symm, uw_⟩
end Go.Proofs.YtbianlkenallaaaGreatDoor

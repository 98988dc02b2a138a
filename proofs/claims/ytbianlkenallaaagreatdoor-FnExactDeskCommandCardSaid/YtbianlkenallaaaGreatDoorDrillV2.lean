/-
  A valid drill: of the program and of the reference. The bounds stand at each.
-/
import Derived.Test.YtbianlkenallaaaGreatDoorMgC
import Derived.Test.YtbianlkenallaaaGreatDoorMgA
import Derived.Deep.WholeRow
set_option linter.all false
set_option maxHeartbeats 1000000
set_option maxRecDepth 10000
namespace Go.Proofs.YtbianlkenallaaaGreatDoor
open Go.RowKit
def idxB (s : ByteArray) (c : UInt8) : Int := match (List.range s.size).find? (fun i => decide (byteAt s i = c)) with | some i => i | none => -1
theorem find_first {p : Nat → Bool} {m k : Nat} (hk : k < m) (hp : p k = true) (hn : ∀ j, j < k → p j = false) : (List.range m).find? p = some k := by
 rw [List.find?_eq_some_iff_getElem]
 refine ⟨hp, k, by rw [List.length_range]; exact hk, List.getElem_range _, fun j hj => ?_⟩
 rw [List.getElem_range]
 rw [hn j hj]; rfl
theorem idxB_at {s : ByteArray} {c : UInt8} {k : Nat} (hk : k < s.size) (h : byteAt s k = c) (hn : ∀ j, j < k → byteAt s j ≠ c) : idxB s c = k := by
 rw [idxB, find_first hk (decide_eq_true h) (fun j hj => decide_eq_false (hn j hj))]
theorem idxB_no {s : ByteArray} {c : UInt8} (hn : ∀ j, j < s.size → byteAt s j ≠ c) : idxB s c = -1 := by
 rw [idxB, List.find?_eq_none.2 (fun j hj => by rw [List.mem_range] at hj; simpa using hn j hj)]
theorem idxB_bd (s : ByteArray) (c : UInt8) : -1 ≤ idxB s c ∧ idxB s c < s.size + 1 := by
 unfold idxB
 split
 ·rename_i i hi
  have := List.mem_of_find?_eq_some hi
  rw [List.mem_range] at this
  omega
 ·omega
theorem idxB_new {s : ByteArray} {i : Nat} (hi : i < s.size) (h : newAt s i = true) : idxB s (byteAt s i) = i := by
 simp only [newAt, List.all_eq_true, List.mem_range, decide_eq_true_eq] at h
 exact idxB_at hi rfl h
theorem find_rangeD {p : Nat → Bool} {m : Nat} (h : ∃ n, n < m ∧ p n = true) : ∃ n, (List.range m).find? p = some n ∧ n < m ∧ p n = true ∧ ∀ j, j < n → p j = false := by
 cases hf : (List.range m).find? p with
 | none =>
   obtain ⟨n, hn, hp⟩ := h
   rw [List.find?_eq_none] at hf
   exact absurd hp (hf n (List.mem_range.2 hn))
 | some n =>
   have h1 := List.find?_some hf
   rw [List.find?_eq_some_iff_getElem] at hf
   obtain ⟨_, i, hi, he, hj⟩ := hf
   rw [List.length_range] at hi
   rw [List.getElem_range] at he
   subst he
   exact ⟨i, rfl, hi, h1, fun j hj' => by have := hj j hj'; rw [List.getElem_range] at this; simpa using this⟩
theorem idxB_old {s : ByteArray} {i : Nat} (hi : i < s.size) (h : newAt s i = false) : idxB s (byteAt s i) ≠ i := by
 intro he
 rw [← Bool.not_eq_true] at h
 refine h (newAt_yes fun j hj e => ?_)
 have : ∃ q, q ≤ j ∧ idxB s (byteAt s i) = (q : Nat) := by
  obtain ⟨m, h1, h2, h3, h4⟩ := (show ∃ n, (List.range s.size).find? (fun k => decide (byteAt s k = byteAt s i)) = some n ∧ n < s.size ∧ _ ∧ ∀ l, l < n → (fun k => decide (byteAt s k = byteAt s i)) l = false from find_rangeD ⟨j, by omega, decide_eq_true e⟩)
  refine ⟨m, ?_, by rw [idxB, h1]⟩
  by_cases hm : m ≤ j
  ·exact hm
  ·have h5 := h4 j (by omega)
   have h6 : byteAt s j ≠ byteAt s i := by simpa using h5
   exact absurd e h6
 obtain ⟨q, hq, e2⟩ := this
 omega
theorem l05Index_any (s : ByteArray) (c : UInt8) (x : Int) (hx : (c.toNat : Int) = x) (w : World) (hs : s.size ≤ 9223372036854775807) :
 Calls Tryz.prog 176 #[.string s, .int .u8 x] w fun e w' => e = .returned (i64 (idxB s c)) ∧ w = w' := by
 go_enter Tryz.func176, Tryz.ntmps176
 go_wp2_with fail
 go_loop [5] (fun i => ∃ k : Nat, k ≤ s.size ∧ i = i64 k ∧ Hid (∀ j, j < k → byteAt s j ≠ c)) (fun i => s.size - (intOf i).toNat)
 case atStart => exact ⟨0, by omega, rfl, fun i hi => by omega⟩
 case round =>
  obtain ⟨k, hk, rfl, hok⟩ := hrel
  by_cases hlt : k < s.size
  ·have e := hd_ (byteAt_eq hlt)
   by_cases p1 : (s[k].toNat : Int) = x
   ·have p1' : ((s[k].toNat : Int) == x) = true := by rw [beq_iff_eq]; exact p1
    have hf := hd_ (idxB_at hlt (show byteAt s k = c by rw [← e.out]; exact UInt8.toNat_inj.1 (by omega)) hok.out)
    clear p1
    go_wp2_with fail
    go_ret
    exact ⟨by rw [hf.out] <;> rfl, rfl⟩
   ·have p1' : ((s[k].toNat : Int) == x) = false := by rw [beq_eq_false_iff_ne]; exact p1
    have hq := hd_ (show byteAt s k ≠ c by rw [← e.out]; intro h; exact p1 (by rw [h]; exact hx))
    clear p1
    go_wp2_with fail
    go_round
    case rel => have hy := lt_ext (P := fun j => byteAt s j ≠ c) hok.out hq.out; exact ⟨k + 1, by omega, by go_num, hy⟩
    case measure => (simp [intOf]; try omega)
  ·have hf := hd_ (idxB_no (s := s) (c := c) (fun i hi => hok.out i (by omega)))
   go_wp2_with fail
   go_ret
   exact ⟨by rw [hf.out] <;> rfl, rfl⟩
theorem l17Text_any (s : ByteArray) (most : Nat) (w : World) (hm : most ≤ 1000000) (hs : s.size ≤ 9223372036854775807) :
 Calls Tryz.prog 178 #[.string s, i64 most] w fun e w' => e = .returned (.bool (txtB 33 most s)) ∧ w = w' := by
 go_enter Tryz.func178, Tryz.ntmps178
 go_wp2_with fail
 go_loop [5] (fun i => ∃ k : Nat, k ≤ s.size ∧ i = i64 k ∧ Hid (∀ j, j < k → txtC 33 (byteAt s j) = true)) (fun i => s.size - (intOf i).toNat)
 case atStart => exact ⟨0, by omega, rfl, fun i hi => by omega⟩
 case round =>
  obtain ⟨k, hk, rfl, hok⟩ := hrel
  by_cases hlt : k < s.size
  ·have e := byteAt_eq hlt
   by_cases p1 : (byteAt s k).toNat < 33
   ·have hf := hd_ (txtB_at (lo := 33) (most := most) hlt (decide_eq_false (by omega)))
    have p1' : ((byteAt s k).toNat : Int) < 33 := by omega
    rw [← e] at p1'
    go_wp2_with fail
    go_ret
    exact ⟨rb_ hf.out.symm, rfl⟩
   by_cases p2 : 126 < (byteAt s k).toNat
   ·have hf := hd_ (txtB_at (lo := 33) (most := most) hlt (decide_eq_false (by omega)))
    have p1' : 33 ≤ ((byteAt s k).toNat : Int) := by omega
    have p2' : 126 < ((byteAt s k).toNat : Int) := by omega
    rw [← e] at p1' p2'
    go_wp2_with fail
    go_ret
    exact ⟨rb_ hf.out.symm, rfl⟩
   have hq := hd_ (show txtC 33 (byteAt s k) = true from decide_eq_true (by omega))
   have p1' : 33 ≤ ((byteAt s k).toNat : Int) := by omega
   have p2' : ((byteAt s k).toNat : Int) ≤ 126 := by omega
   rw [← e] at p1' p2'
   go_wp2_with fail
   go_round
   case rel => have hx := lt_ext (P := fun j => txtC 33 (byteAt s j) = true) hok.out hq.out; exact ⟨k + 1, by omega, by go_num, hx⟩
   case measure => (simp [intOf]; try omega)
  ·have hall : ∀ i, i < s.size → txtC 33 (byteAt s i) = true := fun i hi => hok.out i (by omega)
   have hf : Hid (txtB 33 most s = decide (s.size ≤ most)) := by
    show _ = _
    by_cases h : s.size ≤ most
    ·rw [txtB_true h hall, decide_eq_true h]
    ·rw [txtB_len h, decide_eq_false h]
   clear hall
   go_wp2_with fail
   go_ret
   exact ⟨rb_ (by rw [hf.out, decide_eq_decide] <;> omega), rfl⟩
theorem l21One_any (d : Drill) (w : World) (h1 : d.name.size ≤ 9223372036854775807) (h2 : d.letters.size ≤ 9223372036854775807) :
 Calls Tryz.prog 143 #[drv d] w fun e w' => e = .returned (.bool (vDrill d)) ∧ UpOf w w' := by
 go_enter Tryz.func143, Tryz.ntmps143
 go_upto_region 1 with (fail)
 refine wpg (R := fun V => Box V w.heap.size #[.string d.name, .string d.letters, i64 d.minutes] ∧ UpOf w V) ⟨Box.new _ _ _, uw_⟩ (fun V z => ?_)
 obtain ⟨⟨hq, hc⟩, hB⟩ := z
 have c0 := hc 0 _ rfl
 have c1 := hc 1 _ rfl
 have c2 := hc 2 _ rfl
 have HB := hd_ hB
 clear hc hB
 generalize w.heap.size = q at *
 go_wp2_with fail
 go_loopw [3] (fun i wr => ∃ k : Nat, k ≤ d.letters.size ∧ i = i64 k ∧ Hid (∀ j, j < k → newAt d.letters j = true) ∧ ∃ g : Up V, wr = up V g) (fun i _ => d.letters.size - (intOf i).toNat)
 case atStart => exact ⟨0, by omega, rfl, fun i hi => by omega, ex_up bw_⟩
 case round =>
  obtain ⟨k, hk, rfl, hok, g, rfl⟩ := hrel
  by_cases hlt : k < d.letters.size
  ·have e := hd_ (byteAt_eq hlt)
   have hi := idxB_bd d.letters (byteAt d.letters k)
   cases q0 : newAt d.letters k
   ·have hf := hd_ (vDrill_5 (newB_at hlt q0))
    have hne : (idxB d.letters (byteAt d.letters k) != (k : Int)) = true := by rw [bne_iff_ne]; exact idxB_old hlt q0
    clear q0
    have hcl := hd_ (fun (W : World) => l05Index_any d.letters (byteAt d.letters k) (d.letters[k].toNat) (by rw [e.out]) W h2)
    generalize idxB d.letters (byteAt d.letters k) = ix at *
    go_wp2_with (first | ((with_reducible refine wru ?_); (repeat (go_big_quiet_step (first | (go_at_call 176; exact uqs_ (hcl.out _))))); refine wqn fun nq => ?_))
    go_ret
    exact ⟨rb_ hf.out.symm, HB.out.tr bw_⟩
   ·have hne : (idxB d.letters (byteAt d.letters k) != (k : Int)) = false := by rw [bne_eq_false_iff_eq]; exact idxB_new hlt q0
    have hq0 := hd_ q0
    clear q0
    have hcl := hd_ (fun (W : World) => l05Index_any d.letters (byteAt d.letters k) (d.letters[k].toNat) (by rw [e.out]) W h2)
    generalize idxB d.letters (byteAt d.letters k) = ix at *
    go_wp2_with (first | ((with_reducible refine wru ?_); (repeat (go_big_quiet_step (first | (go_at_call 176; exact uqs_ (hcl.out _))))); refine wqn fun nq => ?_))
    go_roundw
    case rel => have hx := lt_ext (P := fun j => newAt d.letters j = true) hok.out hq0.out; exact ⟨k + 1, by omega, by go_num, hx, ex_up bw_⟩
    case measure => (simp [intOf]; try omega)
  ·have hnew := hd_ (newB_true (s := d.letters) (fun i hi => hok.out i (by omega)))
   cases q1 : nameB d.name
   ·have hf := hd_ (vDrill_1 q1)
    go_wp2_with (first | (go_at_call 177; refine cs_ (ra_ (isNameS_any d.name _ h1) q1) ?_) | (go_at_call 178; refine cs_ (ra_ (l17Text_any d.letters 8 _ (by omega) h2) (by assumption)) ?_) | (go_at_call 141; refine cs_ (ra_ (in_any _ _ _ _) (by assumption)) ?_) | ((with_reducible refine wru ?_); refine wrz fun _ => ?_))
    go_ret
    exact ⟨rb_ hf.out.symm, HB.out.tr bw_⟩
   by_cases q2 : 0 < d.letters.size
   rotate_left
   ·have hf := hd_ (vDrill_2 q2)
    have hz := isEmpty_yes (s := d.letters) (by omega)
    cases q3 : txtB 33 8 d.letters
    ·go_wp2_with (first | (go_at_call 177; refine cs_ (ra_ (isNameS_any d.name _ h1) q1) ?_) | (go_at_call 178; refine cs_ (ra_ (l17Text_any d.letters 8 _ (by omega) h2) (by assumption)) ?_) | (go_at_call 141; refine cs_ (ra_ (in_any _ _ _ _) (by assumption)) ?_) | ((with_reducible refine wru ?_); refine wrz fun _ => ?_))
     go_ret
     exact ⟨rb_ hf.out.symm, HB.out.tr bw_⟩
    ·go_wp2_with (first | (go_at_call 177; refine cs_ (ra_ (isNameS_any d.name _ h1) q1) ?_) | (go_at_call 178; refine cs_ (ra_ (l17Text_any d.letters 8 _ (by omega) h2) (by assumption)) ?_) | (go_at_call 141; refine cs_ (ra_ (in_any _ _ _ _) (by assumption)) ?_) | ((with_reducible refine wru ?_); refine wrz fun _ => ?_))
     go_ret
     exact ⟨rb_ hf.out.symm, HB.out.tr bw_⟩
   have hz := isEmpty_no q2
   cases q3 : txtB 33 8 d.letters
   ·have hf := hd_ (vDrill_3 q3)
    go_wp2_with (first | (go_at_call 177; refine cs_ (ra_ (isNameS_any d.name _ h1) q1) ?_) | (go_at_call 178; refine cs_ (ra_ (l17Text_any d.letters 8 _ (by omega) h2) (by assumption)) ?_) | (go_at_call 141; refine cs_ (ra_ (in_any _ _ _ _) (by assumption)) ?_) | ((with_reducible refine wru ?_); refine wrz fun _ => ?_))
    go_ret
    exact ⟨rb_ hf.out.symm, HB.out.tr bw_⟩
   cases q4 : btw d.minutes 1 600
   ·have hf := hd_ (vDrill_4 q4)
    go_wp2_with (first | (go_at_call 177; refine cs_ (ra_ (isNameS_any d.name _ h1) q1) ?_) | (go_at_call 178; refine cs_ (ra_ (l17Text_any d.letters 8 _ (by omega) h2) (by assumption)) ?_) | (go_at_call 141; refine cs_ (ra_ (in_any _ _ _ _) (by assumption)) ?_) | ((with_reducible refine wru ?_); refine wrz fun _ => ?_))
    go_ret
    exact ⟨rb_ hf.out.symm, HB.out.tr bw_⟩
   have hf := hd_ (vDrill_0 q1 q2 q3 q4 hnew.out)
   go_wp2_with (first | (go_at_call 177; refine cs_ (ra_ (isNameS_any d.name _ h1) q1) ?_) | (go_at_call 178; refine cs_ (ra_ (l17Text_any d.letters 8 _ (by omega) h2) (by assumption)) ?_) | (go_at_call 141; refine cs_ (ra_ (in_any _ _ _ _) (by assumption)) ?_) | ((with_reducible refine wru ?_); refine wrz fun _ => ?_))
   go_ret
   exact ⟨rb_ hf.out.symm, HB.out.tr bw_⟩
def SeenAt (V : World) (q : Nat) (S : Nat → Bool) : Prop := q < V.heap.size ∧ ∀ c, c < 256 → V.cell? ⟨q, c, none⟩ = some (.bool (S c)) ∧ V.frozen? ⟨q, c, none⟩ = false
theorem zero256 : Tryz.zeroCells179 = Array.replicate 256 (.bool false) := by kernel_rfl
theorem seen_new (V : World) : SeenAt (V.alloc (.cells Tryz.zeroCells179 179)) V.heap.size (fun _ => false) :=
 ⟨by simp, fun c hc => ⟨by rw [World.cell?_alloc_new, zero256]; simp [hc], World.frozen?_alloc_new _ _ _ _⟩⟩
theorem SeenAt.put {V : World} {q : Nat} {S : Nat → Bool} (h : SeenAt V q S) (c : Nat) : SeenAt (V.setCell ⟨q, c, none⟩ (.bool true)) q (fun j => decide (j = c) || S j) := by
 refine ⟨by rw [World.size_setCell]; exact h.1, fun j hj => ⟨?_, by rw [World.frozen?_setCell]; exact (h.2 j hj).2⟩⟩
 by_cases e : j = c
 ·subst e
  rw [World.cell?_setCell_same (h := (h.2 j hj).1)]; simp
 ·rw [World.cell?_setCell_other (h := fun h2 => e (by injection h2 with _ h2; exact h2.symm)), (h.2 j hj).1]; show some (Value.bool (S j)) = some (Value.bool (decide (j = c) || S j)); rw [decide_eq_false e]; rfl
def seenF (s : ByteArray) (k c : Nat) : Bool := (List.range k).any fun j => decide ((byteAt s j).toNat = c)
theorem seenF_new (s : ByteArray) (k : Nat) : seenF s k (byteAt s k).toNat = !newAt s k := by
 rw [Bool.eq_iff_iff, Bool.not_eq_true', ← Bool.not_eq_true]
 simp only [seenF, newAt, List.any_eq_true, List.all_eq_true, List.mem_range, decide_eq_true_eq]
 constructor
 ·rintro ⟨j, hj, e⟩ h
  exact h j hj (UInt8.toNat_inj.1 e)
 ·intro h
  refine Classical.byContradiction fun hn => h fun j hj e => hn ⟨j, hj, by rw [e]⟩
theorem seenF_step (s : ByteArray) (k : Nat) : (fun j => decide (j = (byteAt s k).toNat) || seenF s k j) = seenF s (k + 1) := by
 funext j
 simp only [seenF, List.range_succ, List.any_append, List.any_cons, List.any_nil, Bool.or_false]
 rw [Bool.or_comm]
 congr 1
 rw [decide_eq_decide]
 exact eq_comm
theorem validDrill_any (d : Drill) (w : World) (h1 : d.name.size ≤ 9223372036854775807) (h2 : d.letters.size ≤ 9223372036854775807) :
 Calls Tryz.prog 119 #[drv d] w fun e w' => e = .returned (.bool (vDrill d)) ∧ UpOf w w' := by
 go_enter Tryz.func119, Tryz.ntmps119
 go_upto_region 1 with (fail)
 refine wpg (R := fun V => Box V w.heap.size #[.string d.name, .string d.letters, i64 d.minutes] ∧ UpOf w V) ⟨Box.new _ _ _, uw_⟩ (fun V z => ?_)
 obtain ⟨⟨hq, hc⟩, hB⟩ := z
 have c0 := hc 0 _ rfl
 have c1 := hc 1 _ rfl
 have c2 := hc 2 _ rfl
 have HB := hd_ hB
 clear hc hB
 generalize w.heap.size = q at *
 cases q1 : nameB d.name
 ·have hf := hd_ (vDrill_1 q1)
  go_wp2_with (first | (go_at_call 139; refine cs_ (ra_ (isNameI_any d.name _ h1) q1) ?_) | (go_at_call 134; refine cs_ (ra_ (isText_any d.letters 33 8 _ (by omega) (by omega) h2) (by assumption)) ?_) | (go_at_call 118; refine cs_ (ra_ (between_any _ _ _ _) (by assumption)) ?_))
  go_ret
  exact ⟨rb_ hf.out.symm, HB.out.tr bw_⟩
 by_cases q2 : 0 < d.letters.size
 rotate_left
 ·have hf := hd_ (vDrill_2 q2)
  have hz := isEmpty_yes (s := d.letters) (by omega)
  cases q3 : txtB 33 8 d.letters
  ·go_wp2_with (first | (go_at_call 139; refine cs_ (ra_ (isNameI_any d.name _ h1) q1) ?_) | (go_at_call 134; refine cs_ (ra_ (isText_any d.letters 33 8 _ (by omega) (by omega) h2) (by assumption)) ?_) | (go_at_call 118; refine cs_ (ra_ (between_any _ _ _ _) (by assumption)) ?_))
   go_ret
   exact ⟨rb_ hf.out.symm, HB.out.tr bw_⟩
  ·go_wp2_with (first | (go_at_call 139; refine cs_ (ra_ (isNameI_any d.name _ h1) q1) ?_) | (go_at_call 134; refine cs_ (ra_ (isText_any d.letters 33 8 _ (by omega) (by omega) h2) (by assumption)) ?_) | (go_at_call 118; refine cs_ (ra_ (between_any _ _ _ _) (by assumption)) ?_))
   go_ret
   exact ⟨rb_ hf.out.symm, HB.out.tr bw_⟩
 have hz := isEmpty_no q2
 cases q3 : txtB 33 8 d.letters
 ·have hf := hd_ (vDrill_3 q3)
  go_wp2_with (first | (go_at_call 139; refine cs_ (ra_ (isNameI_any d.name _ h1) q1) ?_) | (go_at_call 134; refine cs_ (ra_ (isText_any d.letters 33 8 _ (by omega) (by omega) h2) (by assumption)) ?_) | (go_at_call 118; refine cs_ (ra_ (between_any _ _ _ _) (by assumption)) ?_))
  go_ret
  exact ⟨rb_ hf.out.symm, HB.out.tr bw_⟩
 cases q4 : btw d.minutes 1 600
 ·have hf := hd_ (vDrill_4 q4)
  go_wp2_with (first | (go_at_call 139; refine cs_ (ra_ (isNameI_any d.name _ h1) q1) ?_) | (go_at_call 134; refine cs_ (ra_ (isText_any d.letters 33 8 _ (by omega) (by omega) h2) (by assumption)) ?_) | (go_at_call 118; refine cs_ (ra_ (between_any _ _ _ _) (by assumption)) ?_))
  go_ret
  exact ⟨rb_ hf.out.symm, HB.out.tr bw_⟩
 go_upto_region 3 with (first | (go_at_call 139; refine cs_ (ra_ (isNameI_any d.name _ h1) q1) ?_) | (go_at_call 134; refine cs_ (ra_ (isText_any d.letters 33 8 _ (by omega) (by omega) h2) (by assumption)) ?_) | (go_at_call 118; refine cs_ (ra_ (between_any _ _ _ _) (by assumption)) ?_))
 have hst := fun W : World => run_storeCells_new (P := Tryz.prog) W 179 Tryz.zeroCells179 Tryz.zeroCells179 (by kernel_rfl) rfl (by kernel_rfl)
 go_upto_region 4 with (fail)
 refine wpg (R := fun U => Hid (SeenAt U V.heap.size (seenF d.letters 0)) ∧ Hid (Below V.heap.size V U)) ⟨hd_ (seen_new V), hd_ bw_⟩ (fun U z => ?_)
 obtain ⟨z1, z2⟩ := z
 have hqU : q < U.heap.size := Nat.lt_of_lt_of_le hq z2.out.size
 have d1 := (z2.out.cell (p := ⟨q, 1, none⟩) hq).trans c1
 obtain ⟨p, hp⟩ := nm_ (V.heap.size)
 have HQ := hd_ (hp ▸ hq)
 have C1 := hd_ c1
 rw [hp]
 rw [hp] at z1 z2
 have HP := hd_ hp
 clear c0 c1 c2 hst hq hp
 go_wp2_with fail
 clear hqU d1
 go_loopw [30] (fun i wr => ∃ k : Nat, k ≤ d.letters.size ∧ i = i64 k ∧ Hid (∀ j, j < k → newAt d.letters j = true) ∧ Hid (SeenAt wr p (seenF d.letters k)) ∧ Hid (Below p V wr)) (fun i _ => d.letters.size - (intOf i).toNat)
 case atStart => exact ⟨0, by omega, rfl, fun i hi => by omega, z1, z2⟩
 case round =>
  obtain ⟨k, hk, rfl, hok, z1, z2⟩ := hrel
  have hqU : q < wr.heap.size := (by have := HQ.out; have := z2.out.size; have := HP.out; omega)
  have d1 := (z2.out.cell (p := ⟨q, 1, none⟩) HQ.out).trans C1.out
  have hpU := z1.out.1
  by_cases hlt : k < d.letters.size
  ·have e := hd_ (byteAt_eq hlt)
   have hb : d.letters[k].toNat < 256 := UInt8.toNat_lt _
   have x1 := (z1.out.2 _ hb).1
   have x2 := (z1.out.2 _ hb).2
   rw [e.out, seenF_new, ← e.out] at x1
   cases q0 : newAt d.letters k
   ·have hf := hd_ (vDrill_5 (newB_at hlt q0))
    rw [q0] at x1
    clear q0
    go_wp2_with fail
    go_ret
    exact ⟨rb_ hf.out.symm, HB.out.tr (HP.out ▸ z2.out)⟩
   ·have hq0 := hd_ q0
    rw [q0] at x1
    clear q0
    go_wp2_with fail
    go_roundw
    case rel => have hx := lt_ext (P := fun j => newAt d.letters j = true) hok.out hq0.out; exact ⟨k + 1, by omega, by go_num, hx, hd_ (by rw [← seenF_step, ← e.out]; exact z1.out.put _), hd_ (z2.out.setCell (p := ⟨p, _, none⟩) (Nat.le_refl _) _)⟩
    case measure => (simp [intOf]; try omega)
  ·have hnew := hd_ (newB_true (s := d.letters) (fun i hi => hok.out i (by omega)))
   have hf := hd_ (vDrill_0 q1 q2 q3 q4 hnew.out)
   go_wp2_with fail
   go_ret
   exact ⟨rb_ hf.out.symm, HB.out.tr (HP.out ▸ z2.out)⟩
end Go.Proofs.YtbianlkenallaaaGreatDoor

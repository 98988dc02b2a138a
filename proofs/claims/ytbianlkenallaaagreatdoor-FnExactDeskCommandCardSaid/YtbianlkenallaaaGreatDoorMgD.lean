/-
  Common parts, put together: DrillV3, Drill1, CodeT3, Move4, Move5, Move6, Far, Far2, ConsR7, Drill2, CodeV, AlignR1, AlignR2.
-/
import Derived.Test.YtbianlkenallaaaGreatDoorDrillV2
import Derived.Test.YtbianlkenallaaaGreatDoorMgC
import Derived.Test.YtbianlkenallaaaGreatDoorMgA
import Derived.Test.YtbianlkenallaaaGreatDoorMgB
import Derived.StillTail
import Derived.StillTailTactics
import Derived.Deep.LoopGhost
import Derived.Test.YtbianlkenallaaaGreatDoorDeskV
import Derived.Test.YtbianlkenallaaaGreatDoorAlign1
set_option linter.all false
set_option maxHeartbeats 4000000
set_option maxRecDepth 10000
namespace Go.Proofs.YtbianlkenallaaaGreatDoor
open Go.RowKit
def DBd (l : List Drill) : Prop := ∀ i, i < l.length → (drl l i).name.size ≤ 100000000 ∧ (drl l i).letters.size ≤ 100000000
def namesD (l : List Drill) (k : Nat) (S : List ByteArray) : Prop := ∀ s, s ∈ S ↔ ∃ j, j < k ∧ (drl l j).name = s
section
variable {l : List Drill} {k : Nat} {S : List ByteArray}
theorem namesD_step (h : namesD l k S) : namesD l (k + 1) ((drl l k).name :: S) := by
 intro s
 rw [List.mem_cons, h s]
 constructor
 ·rintro (rfl | ⟨j, hj, e⟩)
  ·exact ⟨k, by omega, rfl⟩
  ·exact ⟨j, by omega, e⟩
 ·rintro ⟨j, hj, e⟩
  rcases Nat.lt_succ_iff_lt_or_eq.1 hj with h' | h'
  ·exact .inr ⟨j, h', e⟩
  ·subst h'; exact .inl e.symm
theorem okD_memB (h : namesD l k S) (hm : memB S (drl l k).name = true) : okD l k = false := by
 obtain ⟨j, hj, e⟩ := (h _).1 (memB_iff.1 hm)
 exact okD_name hj e
theorem okD_fresh (h : namesD l k S) (hv : vDrill (drl l k) = true) (hm : memB S (drl l k).name = false) : okD l k = true := by
 refine okD_true hv fun j hj e => ?_
 have := memB_iff.2 ((h _).2 ⟨j, hj, e⟩)
 rw [hm] at this
 cases this
end
theorem zeroBoolD (w : World) : (zeroValue 4).run Tryz.prog w = .ok (.bool false) w := by kernel_rfl
theorem validDrills_any (A : Option Addr) (c : Nat) (l : List Drill) (w : World) (h : Rds w 3 A l.length (drcs l)) (hn : l.length ≤ 100000000) (hf : DBd l) :
 Calls Tryz.prog 67 #[.slice A l.length c] w fun e w' => e = .returned (.bool (vDrills l)) ∧ UpOf w w' := by
 have HF := hd_ hf
 clear hf
 have hmm := @run_makeMap Tryz.prog
 go_enter Tryz.func67, Tryz.ntmps67
 go_wp2_with fail
 go_loopw [9] (fun i wr => ∃ k : Nat, k ≤ l.length ∧ i = i64 k ∧ Hid (∀ j, j < k → okD l j = true) ∧ ∃ S, SetAt wr Tryz.prog 9 4 w.heap.size k S ∧ Hid (namesD l k S) ∧ Below w.heap.size w wr) (fun i _ => l.length - (intOf i).toNat)
 case atStart => exact ⟨0, by omega, rfl, fun i hi => by omega, [], SetAt.made _ _ _ _, fun s => by simp, bw_⟩
 case round =>
  obtain ⟨k, hk, rfl, hok, S, hset, hnm, hbel⟩ := hrel
  by_cases hlt : k < l.length
  ·obtain ⟨b, off, rfl, hb, c0, c1, c2⟩ := drl_at (h.below hbel) hlt
   obtain ⟨f1, f2⟩ := HF.out k hlt
   have hBl := hset.lt
   have HSET := hd_ hset
   have HBEL := hd_ hbel
   cases b1 : vDrill (drl l k)
   ·have hf := hd_ (vDrills_at hlt (okD_no b1))
    clear h hset hbel
    refine as_up fun g0 => ?_
    go_wp2_with (first | (go_at_call 119; refine cu_ (ra_ (validDrill_any (drl l k) _ (by omega) (by omega)) b1) fun g => ?_))
    go_ret
    exact ⟨rb_ hf.out.symm, UpOf.of (HBEL.out.trans (Below.mono bw_ HBEL.out.size))⟩
   ·cases b2 : memB S (drl l k).name
    ·have hq := hd_ (okD_fresh hnm.out b1 b2)
     have hlook : ∀ g : Up wr, (Instr.lookup 146 (.map (some w.heap.size)) (.string (drl l k).name) false).run Tryz.prog (up wr g) = .ok (.bool false) (up wr g) := fun g => ((HSET.out.up g).look Tryz.underlying146 Tryz.underlying9 Tryz.underlying4 (zeroBoolD _) (drl l k).name (by unfold maxLen; omega)).trans (by rw [b2])
     clear h hset hbel
     refine as_up fun g0 => ?_
     go_wp2_with (first | (go_at_call 119; refine cu_ (ra_ (validDrill_any (drl l k) _ (by omega) (by omega)) b1) fun g => ?_) | (at_mapUpdate; refine wpl_setPut _ rfl _ _ _ 146 rfl 9 4 Tryz.underlying146 Tryz.underlying9 Tryz.underlying4 w.heap.size k S rfl (HSET.out.below bw_) (by unfold maxLen; omega) (drl l k).name (by unfold maxLen; omega) rfl rfl ?_; intro w1 hset1 hgr1))
     go_roundw
     case rel =>
      have hx := lt_ext (P := fun j => okD l j = true) hok.out hq.out
      exact ⟨k + 1, by omega, by go_num, hx, _, hset1, namesD_step hnm.out, (HBEL.out.trans (Below.mono bw_ HBEL.out.size)).grown hgr1 (Nat.le_trans HBEL.out.size (ub_ _ _).size) (fun j hj => by injection hj with hj; omega)⟩
     case measure => (simp [intOf]; try omega)
    ·have hf := hd_ (vDrills_at hlt (okD_memB hnm.out b2))
     have hlook : ∀ g : Up wr, (Instr.lookup 146 (.map (some w.heap.size)) (.string (drl l k).name) false).run Tryz.prog (up wr g) = .ok (.bool true) (up wr g) := fun g => ((HSET.out.up g).look Tryz.underlying146 Tryz.underlying9 Tryz.underlying4 (zeroBoolD _) (drl l k).name (by unfold maxLen; omega)).trans (by rw [b2])
     clear h hset hbel
     refine as_up fun g0 => ?_
     go_wp2_with (first | (go_at_call 119; refine cu_ (ra_ (validDrill_any (drl l k) _ (by omega) (by omega)) b1) fun g => ?_))
     go_ret
     exact ⟨rb_ hf.out.symm, UpOf.of (HBEL.out.trans (Below.mono bw_ HBEL.out.size))⟩
  ·obtain rfl : k = l.length := by omega
   by_cases q : l.length ≤ 10
   ·have hf := hd_ (vDrills_true q hok.out)
    go_wp2_with fail
    go_ret
    exact ⟨rb_ (by rw [hf.out]; exact decide_eq_true (by omega)), UpOf.of hbel⟩
   ·have hf := hd_ (vDrills_len (l := l) (by omega))
    have q' : decide (l.length ≤ 10) = false := decide_eq_false q
    go_wp2_with fail
    go_ret
    exact ⟨rb_ (by rw [hf.out]; exact decide_eq_false (by omega)), UpOf.of hbel⟩
theorem text_eqD {s t : ByteArray} (h : (s.toList == t.toList) = true) : s = t := by
 rw [beq_iff_eq, ByteArray.toList_eq, ByteArray.toList_eq] at h
 exact ba_ext h
theorem text_neD {s t : ByteArray} (h : (s.toList == t.toList) = false) : s ≠ t := by
 intro e
 subst e
 simp at h
def idxD (l : List Drill) (n : Nat) (s : ByteArray) : Int := match (List.range n).find? (fun i => decide ((drl l i).name = s)) with | some i => i | none => -1
theorem idxD_at {l : List Drill} {n k : Nat} {s : ByteArray} (hk : k < n) (h : (drl l k).name = s) (hn : ∀ j, j < k → (drl l j).name ≠ s) : idxD l n s = k := by
 rw [idxD, find_first hk (decide_eq_true h) (fun j hj => decide_eq_false (hn j hj))]
theorem idxD_no {l : List Drill} {n : Nat} {s : ByteArray} (hn : ∀ j, j < n → (drl l j).name ≠ s) : idxD l n s = -1 := by
 rw [idxD, List.find?_eq_none.2 (fun j hj => by rw [List.mem_range] at hj; simpa using hn j hj)]
theorem idxD_some (l : List Drill) (n : Nat) (s : ByteArray) : idxD l n s = -1 ∧ (∀ j, j < n → (drl l j).name ≠ s) ∨ ∃ k, k < n ∧ idxD l n s = (k : Nat) ∧ (drl l k).name = s ∧ ∀ j, j < k → (drl l j).name ≠ s := by
 by_cases h : ∃ j, j < n ∧ decide ((drl l j).name = s) = true
 ·obtain ⟨m, h1, h2, h3, h4⟩ := find_rangeD (p := fun j => decide ((drl l j).name = s)) h
  exact .inr ⟨m, h2, by rw [idxD, h1], of_decide_eq_true h3, fun j hj => of_decide_eq_false (h4 j hj)⟩
 ·have : ∀ j, j < n → (drl l j).name ≠ s := fun j hj e => h ⟨j, hj, decide_eq_true e⟩
  exact .inl ⟨idxD_no this, this⟩
theorem l21Find_any (A : Option Addr) (n c : Nat) (l : List Drill) (s : ByteArray) (w : World) (h : Rds w 3 A l.length (drcs l)) (hn : n ≤ l.length) (hl : l.length ≤ 100000000) :
 Calls Tryz.prog 144 #[.slice A n c, .string s] w fun e w' => e = .returned (i64 (idxD l n s)) ∧ w = w' := by
 go_enter Tryz.func144, Tryz.ntmps144
 go_wp2_with fail
 go_loop [5] (fun i => ∃ k : Nat, k ≤ n ∧ i = i64 k ∧ Hid (∀ j, j < k → (drl l j).name ≠ s)) (fun i => n - (intOf i).toNat)
 case atStart => exact ⟨0, by omega, rfl, fun i hi => by omega⟩
 case round =>
  obtain ⟨k, hk, rfl, hok⟩ := hrel
  by_cases hlt : k < n
  ·obtain ⟨b, off, rfl, hb, c0, c1, c2⟩ := drl_at h (show k < l.length by omega)
   cases p1 : ((drl l k).name.toList == s.toList)
   ·have hq := hd_ (text_neD p1)
    go_wp2_with fail
    go_round
    case rel => have hy := lt_ext (P := fun j => (drl l j).name ≠ s) hok.out hq.out; exact ⟨k + 1, by omega, by go_num, hy⟩
    case measure => (simp [intOf]; try omega)
   ·have hf := hd_ (idxD_at hlt (text_eqD p1) hok.out)
    go_wp2_with fail
    go_ret
    exact ⟨by rw [hf.out] <;> rfl, rfl⟩
  ·have hf := hd_ (idxD_no (l := l) (n := n) (s := s) (fun i hi => hok.out i (by omega)))
   go_wp2_with fail
   go_ret
   exact ⟨by rw [hf.out] <;> rfl, rfl⟩
theorem l21Ok_any (A : Option Addr) (c : Nat) (l : List Drill) (w : World) (h : Rds w 3 A l.length (drcs l)) (hc : l.length ≤ c) (hn : l.length ≤ 100000000) (hf : DBd l) :
 Calls Tryz.prog 94 #[.slice A l.length c] w fun e w' => e = .returned (.bool (vDrills l)) ∧ UpOf w w' := by
 have HF := hd_ hf
 clear hf
 go_enter Tryz.func94, Tryz.ntmps94
 go_wp2_with ((with_reducible refine wru ?_); refine wrz fun _ => ?_)
 go_loopw [3] (fun i wr => ∃ k : Nat, k ≤ l.length ∧ i = i64 k ∧ Hid (∀ j, j < k → okD l j = true) ∧ ∃ g : Up w, wr = up w g) (fun i _ => l.length - (intOf i).toNat)
 case atStart => exact ⟨0, by omega, rfl, fun i hi => by omega, ex_up bw_⟩
 case round =>
  obtain ⟨k, hk, rfl, hok, g, rfl⟩ := hrel
  by_cases hlt : k < l.length
  ·have HR := hd_ h
   obtain ⟨b, off, rfl, hb, c0, c1, c2⟩ := drl_at h hlt
   obtain ⟨f1, f2⟩ := HF.out k hlt
   clear h
   cases b1 : vDrill (drl l k)
   ·have hf := hd_ (vDrills_at hlt (okD_no b1))
    go_wp2_with (first | ((with_reducible refine wru ?_); (repeat (go_big_quiet_step (first | (go_at_call 143; exact uq_ (ra_ (l21One_any (drl l k) _ (by omega) (by omega)) b1))))); refine wqn fun nq => ?_))
    go_ret
    exact ⟨rb_ hf.out.symm, uw_⟩
   ·have B1 := hd_ b1
    rcases idxD_some l k (drl l k).name with ⟨e1, e2⟩ | ⟨m, m1, e1, e2, _⟩
    ·have hq := hd_ (okD_true b1 e2)
     have hcl := hd_ (fun (W : World) (hW : Below w.heap.size w W) => show Calls Tryz.prog 144 #[.slice (some ⟨b, off, none⟩) k c, .string (drl l k).name] W fun e w' => e = .returned (i64 (-1)) ∧ W = w' from by have := l21Find_any (some ⟨b, off, none⟩) k c l (drl l k).name W (HR.out.below hW) (by omega) hn; rwa [e1] at this)
     clear e1 e2 b1
     go_wp2_with (first | ((with_reducible refine wru ?_); (repeat (go_big_quiet_step (first | (go_at_call 143; exact uq_ (ra_ (l21One_any (drl l k) _ (by omega) (by omega)) B1.out)) | (go_at_call 144; exact uqs_ (hcl.out _ bw_))))); refine wqn fun nq => ?_))
     go_roundw
     case rel => have hx := lt_ext (P := fun j => okD l j = true) hok.out hq.out; exact ⟨k + 1, by omega, by go_num, hx, ex_up bw_⟩
     case measure => (simp [intOf]; try omega)
    ·have hf := hd_ (vDrills_at hlt (okD_name m1 e2))
     have hcl := hd_ (fun (W : World) (hW : Below w.heap.size w W) => show Calls Tryz.prog 144 #[.slice (some ⟨b, off, none⟩) k c, .string (drl l k).name] W fun e w' => e = .returned (i64 m) ∧ W = w' from by have := l21Find_any (some ⟨b, off, none⟩) k c l (drl l k).name W (HR.out.below hW) (by omega) hn; rwa [e1] at this)
     clear e1 e2 b1
     go_wp2_with (first | ((with_reducible refine wru ?_); (repeat (go_big_quiet_step (first | (go_at_call 143; exact uq_ (ra_ (l21One_any (drl l k) _ (by omega) (by omega)) B1.out)) | (go_at_call 144; exact uqs_ (hcl.out _ bw_))))); refine wqn fun nq => ?_))
     go_ret
     exact ⟨rb_ hf.out.symm, uw_⟩
  ·obtain rfl : k = l.length := by omega
   by_cases q : l.length ≤ 10
   ·have hf := hd_ (vDrills_true q hok.out)
    go_wp2_with ((with_reducible refine wru ?_); refine wrz fun _ => ?_)
    go_ret
    exact ⟨rb_ (by rw [hf.out]; exact decide_eq_true (by omega)), uw_⟩
   ·have hf := hd_ (vDrills_len (l := l) (by omega))
    have q' : decide (l.length ≤ 10) = false := decide_eq_false q
    go_wp2_with ((with_reducible refine wru ?_); refine wrz fun _ => ?_)
    go_ret
    exact ⟨rb_ (by rw [hf.out]; exact decide_eq_false (by omega)), uw_⟩
theorem drillText_any (d : Drill) (w : World) (h1 : d.name.size ≤ 9223372036854775807) (h2 : d.letters.size ≤ 9223372036854775807) (ht : Tab w) :
 Calls Tryz.prog 88 #[drv d] w fun e w' => e = .returned (.string (drText d)) ∧ UpOf w w' := by
 have HT := hd_ ht
 clear ht
 cases hv : vDrill d with
 | false =>
   have hr := hd_ (show drText d = ⟨#[]⟩ by rw [drText, hv]; rfl)
   go_enter Tryz.func88, Tryz.ntmps88
   go_upto_region 1 with (fail)
   refine wpg (R := fun V => Box V w.heap.size #[.string d.name, .string d.letters, i64 d.minutes] ∧ UpOf w V) ⟨Box.new _ _ _, uw_⟩ (fun V z => ?_)
   obtain ⟨⟨hq, hc⟩, hB⟩ := z
   have c0 := hc 0 _ rfl
   have c1 := hc 1 _ rfl
   have c2 := hc 2 _ rfl
   have HB := hd_ hB
   clear hc hB
   generalize w.heap.size = q at *
   go_wp2_with (first | (go_at_call 119; refine cu_ (ra_ (validDrill_any d _ h1 h2) hv) fun g => ?_) | ((with_reducible refine wru ?_); refine wrz fun _ => ?_))
   go_ret
   rw [hr.out]
   exact ⟨rfl, HB.out.tr bw_⟩
 | true =>
   have hr := hd_ (show drText d = drTextV d by rw [drText, hv]; rfl)
   obtain ⟨a, b, c, e, _⟩ := vDrill_inv hv
   have s1 := (nameB_bd a).2
   have s2 := (txtB_inv c).1
   have s3 := (dec_bytes (n := d.minutes) (by omega) (by omega)).2.2
   have e1 := e.1
   have e2 := e.2
   clear a b c e
   go_enter Tryz.func88, Tryz.ntmps88
   go_upto_region 1 with (fail)
   refine wpg (R := fun V => Box V w.heap.size #[.string d.name, .string d.letters, i64 d.minutes] ∧ UpOf w V) ⟨Box.new _ _ _, uw_⟩ (fun V z => ?_)
   obtain ⟨⟨hq, hc⟩, hB⟩ := z
   have c0 := hc 0 _ rfl
   have c1 := hc 1 _ rfl
   have c2 := hc 2 _ rfl
   have HB := hd_ hB
   clear hc hB
   generalize w.heap.size = q at *
   have HTV := hd_ (HT.out.below HB.out.below)
   go_wp2_with (first | (go_at_call 119; refine cu_ (ra_ (validDrill_any d _ h1 h2) hv) fun g => ?_) | ((with_reducible refine wru ?_); (repeat (go_big_quiet_step (first | (go_at_call 41; exact uq_ (decI_any d.minutes _ (by omega) (by omega) (HTV.out.below bw_)))))); refine wqn fun nq => ?_))
   go_ret
   rw [hr.out]
   exact ⟨rfl, HB.out.tr bw_⟩
theorem trimRight_any (s : ByteArray) (e : Nat) (w : World) (hs : s.size ≤ 1000000) (he : e ≤ s.size) (h1 : e = 0 ∨ byteAt s (e - 1) ≠ 32) (h2 : ∀ i, e ≤ i → i < s.size → byteAt s i = 32) :
 Calls Tryz.prog 137 #[.string s] w fun r w' => r = .returned (.string (s.extract 0 e)) ∧ UpOf w w' := by
 have H1 := hd_ h1
 have H2 := hd_ h2
 clear h1 h2
 go_enter Tryz.func137, Tryz.ntmps137
 go_wp2_with fail
 go_loopw [3] (fun t3 wr => ∃ k : Nat, e ≤ k ∧ k ≤ s.size ∧ t3 = i64 k ∧ ∃ g : Up w, wr = up w g) (fun t3 _ => (intOf t3).toNat)
 case atStart => exact ⟨s.size, he, Nat.le_refl _, rfl, ex_up bw_⟩
 case round =>
  obtain ⟨k, hk, hks, rfl, g, rfl⟩ := hrel
  by_cases hk0 : k = 0
  ·have he0 : e = 0 := by omega
   subst hk0
   subst he0
   go_wp2_with fail
   go_ret
   exact ⟨rfl, uw_⟩
  ·obtain ⟨j, rfl⟩ : ∃ j, k = j + 1 := ⟨k - 1, by omega⟩
   have hjs : j < s.size := by omega
   have eb := byteAt_eq hjs
   have hpos : (0 : Int) < ((j + 1 : Nat) : Int) := by omega
   have hj1 : (((j + 1 : Nat) : Int) - 1).toNat = j := by omega
   by_cases hlt : e ≤ j
   ·have hb : byteAt s j = 32 := H2.out j hlt hjs
    have hb2 : (((byteAt s j).toNat : Int) == 32) = true := by rw [hb]; rfl
    clear hb hk0
    go_wp2_with fail
    go_roundw
    case rel => exact ⟨j, hlt, by omega, by go_num, ex_up bw_⟩
    case measure => simp [intOf]; try omega
   ·have hej : e = j + 1 := by omega
    have hb : byteAt s j ≠ 32 := by
     rcases H1.out with h | h
     ·omega
     ·rwa [hej] at h
    have hb2 : (((byteAt s j).toNat : Int) == 32) = false := by
     rw [beq_eq_false_iff_ne]
     intro h
     exact hb (UInt8.toNat_inj.1 (by show (byteAt s j).toNat = 32; omega))
    have HE := hd_ hej
    clear hb hk0 hej
    go_wp2_with fail
    go_ret
    rw [HE.out]
    exact ⟨rfl, uw_⟩
def idxS (l : List ByteArray) (s : ByteArray) : Int := match l.findIdx? fun x => decide (x = s) with
 | some k => k
 | none => -1
theorem IdxIs.eq {l : List ByteArray} {s : ByteArray} {i : Int} (h : IdxIs l s i) : i = idxS l s := by
 unfold idxS
 rcases h with ⟨rfl, hn⟩ | ⟨k, rfl, hk, he, hn⟩
 ·have : (l.findIdx? fun x => decide (x = s)) = none := by
   rw [List.findIdx?_eq_none_iff]
   intro x hx
   obtain ⟨j, hj, rfl⟩ := List.getElem_of_mem hx
   rw [wd_eq hj]
   exact decide_eq_false (hn j hj)
  rw [this]
 ·have : (l.findIdx? fun x => decide (x = s)) = some k := by
   rw [List.findIdx?_eq_some_iff_getElem]
   refine ⟨hk, by rw [wd_eq hk]; exact decide_eq_true he, fun j hj => ?_⟩
   rw [wd_eq (by omega)]
   simpa using hn j hj
  rw [this]
theorem idxS_is (l : List ByteArray) (s : ByteArray) : IdxIs l s (idxS l s) := by
 unfold idxS
 cases h : l.findIdx? fun x => decide (x = s) with
 | none =>
   rw [List.findIdx?_eq_none_iff] at h
   exact .inl ⟨rfl, fun j hj e => by
    have := h l[j] (List.getElem_mem hj)
    rw [wd_eq hj] at this
    exact of_decide_eq_false this e⟩
 | some k =>
   rw [List.findIdx?_eq_some_iff_getElem] at h
   obtain ⟨hk, h1, h2⟩ := h
   rw [wd_eq hk] at h1
   refine .inr ⟨k, rfl, hk, of_decide_eq_true h1, fun j hj e => ?_⟩
   have := h2 j hj
   rw [wd_eq (by omega)] at this
   simp [e] at this
theorem l17IdxS_any (A : Option Addr) (c : Nat) (l : List ByteArray) (s : ByteArray) (w : World) (h : Rds w 1 A l.length (strs l)) (hn : l.length ≤ 100000000) :
 Calls Tryz.prog 188 #[.slice A l.length c, .string s] w fun e w' => e = .returned (i64 (idxS l s)) ∧ w = w' :=
 (l17Index_any A c l s w h hn).mono fun e w' ⟨i, h1, h2, h3⟩ => ⟨by rw [h1, h2.eq], h3⟩
theorem l17Ok_any (A : Option Addr) (c : Nat) (ws : List ByteArray) (w : World) (h : Rds w 1 A ws.length (strs ws)) (hc : ws.length ≤ c) (hn : ws.length ≤ 100000000) (hf : ∀ i, i < ws.length → (wd ws i).size ≤ 100000000) :
 Calls Tryz.prog 186 #[.slice A ws.length c] w fun e w' => e = .returned (.bool (vCode ws)) ∧ UpOf w w' := by
 have HR := hd_ h
 have HF := hd_ hf
 have HC := hd_ hc
 clear h hf hc
 go_enter Tryz.func186, Tryz.ntmps186
 go_wp2_with fail
 go_loopw [3] (fun t3 wr => ∃ k : Nat, k ≤ ws.length ∧ t3 = i64 k ∧ Hid (∀ j, j < k → wdOk ws j = true) ∧ UpOf w wr) (fun t3 _ => ws.length - (intOf t3).toNat)
 case atStart => exact ⟨0, by omega, rfl, fun j hj => absurd hj (by omega), UpOf.refl _⟩
 case round =>
  obtain ⟨k, hk, rfl, HN, g, rfl⟩ := hrel
  by_cases hlt : k < ws.length
  ·have hlt' : (k : Int) < (ws.length : Int) := by omega
   have hkc := HC.out
   have hkc' : (k : Int) ≤ (c : Int) := by omega
   obtain ⟨b, off, rfl, hb, hcc⟩ := wd_at HR.out hlt
   have c0 := hcc k hlt
   have hS0 := HF.out k hlt
   have HIX : Hid (∀ V, Below w.heap.size w V → Calls Tryz.prog 188 #[.slice (some ⟨b, off, none⟩) k c, .string (wd ws k)] V fun e w' => e = .returned (i64 (idxS (ws.take k) (wd ws k))) ∧ V = w') := hd_ fun V hV => by
    have hl : (ws.take k).length = k := by rw [List.length_take]; omega
    have hr := (HR.out.below hV).pre (m := k) (by omega)
    rw [Nat.mul_one, show (strs ws).take k = strs (ws.take k) from (List.map_take ..).symm] at hr
    have := l17IdxS_any (some ⟨b, off, none⟩) c (ws.take k) (wd ws k) V (by rw [hl]; exact hr) (by omega)
    rw [hl] at this
    exact this
   have hix := idxS_is (ws.take k) (wd ws k)
   have hwt : ∀ j, j < k → wd (ws.take k) j = wd ws j := fun j hj => by
    rw [wd, wd, List.getD_eq_getElem?_getD, List.getD_eq_getElem?_getD, List.getElem?_take, if_pos hj]
   have hlk : (ws.take k).length = k := by rw [List.length_take]; omega
   obtain ⟨z, hz⟩ := nm_ (idxS (ws.take k) (wd ws k))
   rw [hz] at HIX hix
   clear hcc hkc hz
   by_cases h0 : (wd ws k).size = 0
   ·have he := isEmpty_yes h0
    have hres := hd_ (vCode_at hlt (wdOk_1 h0))
    clear h0 hix hwt hlk
    obtain ⟨S, hS⟩ := nm_ (wd ws k)
    rw [hS] at c0 he HIX
    clear hS hS0
    go_wp2_with ((with_reducible refine wru ?_); refine wrz fun _ => ?_)
    go_ret
    rw [hres.out]
    exact ⟨rfl, uw_⟩
   ·have he := isEmpty_no (s := wd ws k) (by omega)
    cases q1 : txtB 33 8 (wd ws k) with
    | false =>
      have hres := hd_ (vCode_at hlt (wdOk_2 q1))
      clear hix hwt hlk
      obtain ⟨S, hS⟩ := nm_ (wd ws k)
      rw [hS] at c0 he HIX q1 hS0 h0
      clear hS h0
      go_wp2_with (first | ((with_reducible refine wru ?_); (repeat (go_big_quiet_step (first | (go_at_call 178; exact uqs_ (ra_ (l17Text_any S 8 _ (by omega) (by omega)) q1))))); refine wqn fun nq => ?_))
      go_ret
      rw [hres.out]
      exact ⟨rfl, uw_⟩
    | true =>
      rcases hix with ⟨rfl, hno⟩ | ⟨j, rfl, hj, hej, _⟩
      ·have HOK : Hid (wdOk ws k = true) := hd_ (wdOk_0 (by omega) q1 fun j hj => by rw [← hwt j hj]; exact hno j (by omega))
       clear hno hwt hlk
       obtain ⟨S, hS⟩ := nm_ (wd ws k)
       rw [hS] at c0 he HIX q1 hS0 h0
       clear hS h0
       go_wp2_with (first | ((with_reducible refine wru ?_); (repeat (go_big_quiet_step (first | (go_at_call 178; exact uqs_ (ra_ (l17Text_any S 8 _ (by omega) (by omega)) q1)) | (go_at_call 188; exact uqs_ (HIX.out _ bw_))))); refine wqn fun nq => ?_))
       go_roundw
       case rel => exact ⟨k + 1, by omega, by go_num, hd_ fun j hj => by
        by_cases e : j = k
        ·rw [e]; exact HOK.out
        ·exact HN.out j (by omega), uw_⟩
       case measure => (simp [intOf]; try omega)
      ·rw [hlk] at hj
       rw [hwt j hj] at hej
       have hres := hd_ (vCode_at hlt (wdOk_3 hj hej))
       clear hej hwt hlk
       obtain ⟨S, hS⟩ := nm_ (wd ws k)
       rw [hS] at c0 he HIX q1 hS0 h0
       clear hS h0
       go_wp2_with (first | ((with_reducible refine wru ?_); (repeat (go_big_quiet_step (first | (go_at_call 178; exact uqs_ (ra_ (l17Text_any S 8 _ (by omega) (by omega)) q1)) | (go_at_call 188; exact uqs_ (HIX.out _ bw_))))); refine wqn fun nq => ?_))
       go_ret
       rw [hres.out]
       exact ⟨rfl, uw_⟩
  ·obtain rfl : k = ws.length := by omega
   by_cases h10 : ws.length ≤ 10
   ·have h10' : (ws.length : Int) ≤ 10 := by omega
    have hres := hd_ (vCode_true h10 HN.out)
    go_wp2_with ((with_reducible refine wru ?_); refine wrz fun _ => ?_)
    go_ret
    rw [hres.out]
    exact ⟨rfl, uw_⟩
   ·have h10' : ¬ (ws.length : Int) ≤ 10 := by omega
    have hres := hd_ (vCode_len h10)
    go_wp2_with ((with_reducible refine wru ?_); refine wrz fun _ => ?_)
    go_ret
    rw [hres.out]
    exact ⟨rfl, uw_⟩
theorem isRow_any (s : ByteArray) (w : World) (hs : s.size ≤ 9223372036854775807) :
 Calls Tryz.prog 126 #[.string s] w fun e w' => e = .returned (.bool (isRowB s)) ∧ w = w' := by
 have HT : Hid (∀ V, Calls Tryz.prog 134 #[.string s, .int .u8 32, i64 30] V fun e w' => e = .returned (.bool (txtB 32 30 s)) ∧ V = w') := hd_ fun V => isText_any s 32 30 V (by omega) (by omega) hs
 have hr : Hid (isRowB s = (txtB 32 30 s && (decide (s.size = 0) || decide (byteAt s (s.size - 1) ≠ 32)))) := hd_ rfl
 cases hv : txtB 32 30 s with
 | false =>
   have HT2 : Hid (∀ V, Calls Tryz.prog 134 #[.string s, .int .u8 32, i64 30] V fun e w' => e = .returned (.bool false) ∧ V = w') := hd_ fun V => by rw [← hv]; exact HT.out V
   have hr2 : Hid (isRowB s = false) := hd_ (by rw [hr.out, hv]; rfl)
   clear HT hr hv
   go_enter Tryz.func126, Tryz.ntmps126
   go_wp2_with (first | (go_at_call 134; refine cs_ (HT2.out _) ?_))
   go_ret
   rw [hr2.out]
   exact ⟨rfl, rfl⟩
 | true =>
   have HT2 : Hid (∀ V, Calls Tryz.prog 134 #[.string s, .int .u8 32, i64 30] V fun e w' => e = .returned (.bool true) ∧ V = w') := hd_ fun V => by rw [← hv]; exact HT.out V
   clear HT
   by_cases h0 : s.size = 0
   ·have hz := isEmpty_yes h0
    have hr2 : Hid (isRowB s = true) := hd_ (by rw [hr.out, hv, decide_eq_true h0]; rfl)
    clear hr hv
    go_enter Tryz.func126, Tryz.ntmps126
    go_wp2_with (first | (go_at_call 134; refine cs_ (HT2.out _) ?_))
    go_ret
    rw [hr2.out]
    exact ⟨rfl, rfl⟩
   ·have hz := isEmpty_no (s := s) (by omega)
    have hlt : s.size - 1 < s.size := by omega
    have e := byteAt_eq hlt
    have hi1 : ((s.size : Int) - 1).toNat = s.size - 1 := by omega
    have hb : (((byteAt s (s.size - 1)).toNat : Int) != 32) = decide (byteAt s (s.size - 1) ≠ 32) := by
     rw [Bool.eq_iff_iff, bne_iff_ne, decide_eq_true_eq]
     constructor
     ·intro h e; rw [e] at h; exact h rfl
     ·intro h e; exact h (UInt8.toNat_inj.1 (by show (byteAt s (s.size - 1)).toNat = 32; omega))
    by_cases e2 : byteAt s (s.size - 1) = 32
    ·have hb2 : (((byteAt s (s.size - 1)).toNat : Int) != 32) = false := by rw [hb, decide_eq_false (fun h => h e2)]
     have hr2 : Hid (isRowB s = false) := hd_ (by rw [hr.out, hv, decide_eq_false h0, decide_eq_false (fun h => h e2)]; rfl)
     clear hr hv hb e2
     go_enter Tryz.func126, Tryz.ntmps126
     go_wp2_with (first | (go_at_call 134; refine cs_ (HT2.out _) ?_))
     go_ret
     rw [hr2.out]
     exact ⟨rfl, rfl⟩
    ·have hb2 : (((byteAt s (s.size - 1)).toNat : Int) != 32) = true := by rw [hb, decide_eq_true e2]
     have hr2 : Hid (isRowB s = true) := hd_ (by rw [hr.out, hv, decide_eq_false h0, decide_eq_true e2]; rfl)
     clear hr hv hb e2
     go_enter Tryz.func126, Tryz.ntmps126
     go_wp2_with (first | (go_at_call 134; refine cs_ (HT2.out _) ?_))
     go_ret
     rw [hr2.out]
     exact ⟨rfl, rfl⟩
def rowM (l : List Int) : Nat → Nat → List UInt8 → Nat
 | _, _, [] => 0
 | at', i, c :: t => if c = 32 then rowM l at' (i + 1) t else (planL l i at').length + rowM l (i + 1) (i + 1) t
theorem rowPlanI_any (s : ByteArray) (A : Option Addr) (cap : Nat) (l : List Int) (w : World) (hs : s.size ≤ 30) (hv : vStops l = true) (h : Rds w 1 A l.length (ics l)) (hn : l.length ≤ 100000000) :
 Calls Tryz.prog 127 #[.slice A l.length cap, .string s] w fun e w' => e = .returned (.tuple #[.string (bs (rowA l 0 0 s.data.toList)), i64 (rowM l 0 0 s.data.toList)]) ∧ UpOf w w' := by
 obtain ⟨L, hL⟩ := nm_ (s.data.toList)
 have HL := hd_ hL
 have hLn := hd_ (show L.length = s.size by rw [← hL]; rfl)
 have HR := hd_ h
 have HV := hd_ hv
 rw [hL]
 clear h hv hL
 go_enter Tryz.func127, Tryz.ntmps127
 go_wp2_with fail
 go_loopw [6, 7, 8, 13] (fun out cnt at' i wr => ∃ (k a m : Nat) (T : List UInt8), k ≤ s.size ∧ i = i64 k ∧ at' = i64 a ∧ cnt = i64 m ∧ out = .string (bs T) ∧ a ≤ 30 ∧ Hid (T.length ≤ 32 * k ∧ m ≤ 30 * k ∧ rowA l 0 0 L = T ++ rowA l a k (L.drop k) ∧ rowM l 0 0 L = m + rowM l a k (L.drop k)) ∧ ∃ g : Up w, wr = up w g) (fun _ _ _ i _ => s.size - (intOf i).toNat)
 case atStart => exact ⟨0, 0, 0, [], by omega, rfl, rfl, rfl, rfl, by omega, hd_ ⟨by simp, by omega, by simp, by simp⟩, ex_up bw_⟩
 case round =>
  obtain ⟨k, a, m, T, hk, rfl, rfl, rfl, rfl, ha, HK, g, rfl⟩ := hrel
  by_cases hlt : k < s.size
  ·have hkl : k < L.length := by rw [hLn.out]; exact hlt
   have h1 : (k : Int) + 1 ≤ (s.size : Int) := by omega
   have hob := hd_ (one_byte s HL.out hkl)
   have hdr := hd_ (drop_at hkl)
   have e := byteAt_eq hlt
   have hbk : byteAt s k = L.getD k 0 := by unfold byteAt; rw [HL.out]
   by_cases q : L.getD k 0 = 32
   ·have hq : (((byteAt s k).toNat : Int) == 32) = true := by rw [hbk, q]; rfl
    have hrel2 := hd_ (show T.length ≤ 32 * (k + 1) ∧ m ≤ 30 * (k + 1) ∧ rowA l 0 0 L = T ++ rowA l a (k + 1) (L.drop (k + 1)) ∧ rowM l 0 0 L = m + rowM l a (k + 1) (L.drop (k + 1)) from by
     obtain ⟨q1, q2, q3, q4⟩ := HK.out
     rw [q3, q4, hdr.out, rowA, rowM, if_pos q, if_pos q]
     exact ⟨by omega, by omega, rfl, rfl⟩)
    clear q hkl HK hbk
    go_wp2_with fail
    refine ⟨⟨k + 1, a, m, T, by omega, by go_num, rfl, rfl, rfl, ha, hrel2, ex_up bw_⟩, by simp [intOf]; try omega⟩
   ·have hq : (((byteAt s k).toNat : Int) == 32) = false := by
     rw [beq_eq_false_iff_ne, hbk]
     intro h
     exact q (UInt8.toNat_inj.1 (by show (L.getD k 0).toNat = 32; omega))
    obtain ⟨P, hP⟩ := nm_ (planL l k a)
    have hPl : P.length ≤ 30 := by rw [← hP]; exact planL_len l (by omega) ha
    have HC : Hid (∀ V, Below w.heap.size w V → Calls Tryz.prog 168 #[.slice A l.length cap, i64 a, i64 k] V fun e w' => e = .returned (.string (bs P)) ∧ UpOf V w') := hd_ fun V hV => by
     rw [← hP]
     exact planBetween_any a k A cap l V ha (by omega) HV.out (HR.out.below hV) hn
    have hsl : ∀ wx : World, (Instr.slice 9 (.string s) (some (i64 k)) (some (.int .i64 ((k : Int) + 1))) none).run Tryz.prog wx = .ok (.string (s.extract k (k + 1))) wx := fun wx => by
     have := run_slice_string (P := Tryz.prog) wx 9 s .i64 .i64 (k : Int) ((k + 1 : Nat) : Int) Tryz.underlying9 (by omega) (by omega) (by omega)
     simpa using this
    have hPz : (bs P).size = P.length := by rw [← bsz, bs_list]
    have hTz : T.length ≤ 960 := by have := HK.out.1; omega
    have hez : (s.extract k (k + 1)).size = 1 := by rw [hob.out]; rfl
    have hrel2 := hd_ (show (T ++ (P ++ 39 :: [L.getD k 0])).length ≤ 32 * (k + 1) ∧ m + P.length ≤ 30 * (k + 1) ∧ rowA l 0 0 L = (T ++ (P ++ 39 :: [L.getD k 0])) ++ rowA l (k + 1) (k + 1) (L.drop (k + 1)) ∧ rowM l 0 0 L = (m + P.length) + rowM l (k + 1) (k + 1) (L.drop (k + 1)) from by
     obtain ⟨q1, q2, q3, q4⟩ := HK.out
     rw [q3, q4, hdr.out, rowA, rowM, if_neg q, if_neg q, hP]
     refine ⟨by simp; omega, by omega, by simp, by omega⟩)
    have hmb : (m : Int) ≤ 1000 := by have := HK.out.2.1; omega
    clear q hkl HK hbk
    go_wp2_with (first | (go_at_call 168; refine cu_ (HC.out _ bw_) fun g => ?_))
    refine ⟨⟨k + 1, k + 1, m + P.length, T ++ (P ++ 39 :: [L.getD k 0]), by omega, by go_num, by go_num, by go_num, congrArg Value.string ?_, by omega, hrel2, ex_up bw_⟩, by simp [intOf]; try omega⟩
    rw [hob.out]
    apply ByteArray.ext
    apply Array.ext'
    simp
  ·obtain rfl : k = s.size := by omega
   have hfin := hd_ (show rowA l 0 0 L = T ∧ rowM l 0 0 L = m from by
    obtain ⟨q1, q2, q3, q4⟩ := HK.out
    rw [q3, q4, List.drop_of_length_le (by rw [hLn.out]; exact Nat.le_refl _), rowA, rowM]
    simp)
   go_wp2_with fail
   go_ret2
   rw [hfin.out.1, hfin.out.2]
   exact ⟨rfl, uw_⟩
theorem isRow_len {s : ByteArray} (h : isRowB s = true) : s.size ≤ 30 := by
 unfold isRowB at h
 rw [Bool.and_eq_true] at h
 exact (txtB_inv h.1).1
theorem rowPlanR_any (s : ByteArray) (A : Option Addr) (cap : Nat) (l : List Int) (w : World) (hs : s.size ≤ 9223372036854775807) (h : Rds w 1 A l.length (ics l)) (hn : l.length ≤ 100000000) :
 Calls Tryz.prog 74 #[.slice A l.length cap, .string s] w fun e w' => e = .returned (.tuple #[.string (rowR l s).1, i64 (rowR l s).2]) ∧ UpOf w w' := by
 have HR := hd_ h
 clear h
 cases hv : vStops l with
 | false =>
   have hr := hd_ (show rowR l s = (⟨#[]⟩, 1) by unfold rowR; rw [hv]; rfl)
   go_enter Tryz.func74, Tryz.ntmps74
   go_wp2_with (first | (go_at_call 66; refine cu_ (ra_ (validStops_any A cap l _ (HR.out.below bw_) hn) hv) fun g => ?_))
   go_ret2
   rw [hr.out]
   exact ⟨rfl, uw_⟩
 | true =>
   cases hi : isRowB s with
   | false =>
     have hr := hd_ (show rowR l s = (⟨#[]⟩, 2) by unfold rowR; rw [hv, hi]; rfl)
     go_enter Tryz.func74, Tryz.ntmps74
     go_wp2_with (first | (go_at_call 66; refine cu_ (ra_ (validStops_any A cap l _ (HR.out.below bw_) hn) hv) fun g => ?_) | (go_at_call 126; refine cs_ (ra_ (isRow_any s _ hs) hi) ?_))
     go_ret2
     rw [hr.out]
     exact ⟨rfl, uw_⟩
   | true =>
     have hr := hd_ (show rowR l s = (bs (rowA l 0 0 s.data.toList), 0) by unfold rowR; rw [hv, hi]; rfl)
     go_enter Tryz.func74, Tryz.ntmps74
     go_wp2_with (first | (go_at_call 66; refine cu_ (ra_ (validStops_any A cap l _ (HR.out.below bw_) hn) hv) fun g => ?_) | (go_at_call 126; refine cs_ (ra_ (isRow_any s _ hs) hi) ?_) | (go_at_call 127; refine cu_ (rowPlanI_any s A cap l _ (isRow_len hi) hv (HR.out.below bw_) hn) fun g => ?_))
     go_ret2
     rw [hr.out]
     exact ⟨rfl, uw_⟩
theorem l00Text_any (s : ByteArray) (most : Nat) (w : World) (hm : most ≤ 1000000) (hs : s.size ≤ 9223372036854775807) :
 Calls Tryz.prog 222 #[.string s, i64 most] w fun e w' => e = .returned (.bool (txtB 32 most s)) ∧ w = w' := by
 go_enter Tryz.func222, Tryz.ntmps222
 go_wp2_with fail
 go_loop [5] (fun i => ∃ k : Nat, k ≤ s.size ∧ i = i64 k ∧ Hid (∀ j, j < k → txtC 32 (byteAt s j) = true)) (fun i => s.size - (intOf i).toNat)
 case atStart => exact ⟨0, by omega, rfl, fun i hi => by omega⟩
 case round =>
  obtain ⟨k, hk, rfl, hok⟩ := hrel
  by_cases hlt : k < s.size
  ·have e := byteAt_eq hlt
   by_cases p1 : (byteAt s k).toNat < 32
   ·have hf := hd_ (txtB_at (lo := 32) (most := most) hlt (decide_eq_false (by omega)))
    have p1' : ((byteAt s k).toNat : Int) < 32 := by omega
    rw [← e] at p1'
    go_wp2_with fail
    go_ret
    exact ⟨rb_ hf.out.symm, rfl⟩
   by_cases p2 : 126 < (byteAt s k).toNat
   ·have hf := hd_ (txtB_at (lo := 32) (most := most) hlt (decide_eq_false (by omega)))
    have p1' : 32 ≤ ((byteAt s k).toNat : Int) := by omega
    have p2' : 126 < ((byteAt s k).toNat : Int) := by omega
    rw [← e] at p1' p2'
    go_wp2_with fail
    go_ret
    exact ⟨rb_ hf.out.symm, rfl⟩
   have hq := hd_ (show txtC 32 (byteAt s k) = true from decide_eq_true (by omega))
   have p1' : 32 ≤ ((byteAt s k).toNat : Int) := by omega
   have p2' : ((byteAt s k).toNat : Int) ≤ 126 := by omega
   rw [← e] at p1' p2'
   go_wp2_with fail
   go_round
   case rel => have hx := lt_ext (P := fun j => txtC 32 (byteAt s j) = true) hok.out hq.out; exact ⟨k + 1, by omega, by go_num, hx⟩
   case measure => (simp [intOf]; try omega)
  ·have hall : ∀ i, i < s.size → txtC 32 (byteAt s i) = true := fun i hi => hok.out i (by omega)
   have hf : Hid (txtB 32 most s = decide (s.size ≤ most)) := by
    show _ = _
    by_cases h : s.size ≤ most
    ·rw [txtB_true h hall, decide_eq_true h]
    ·rw [txtB_len h, decide_eq_false h]
   clear hall
   go_wp2_with fail
   go_ret
   exact ⟨rb_ (by rw [hf.out, decide_eq_decide] <;> omega), rfl⟩
theorem rowS_any (s : ByteArray) (w : World) (hs : s.size ≤ 9223372036854775807) :
 Calls Tryz.prog 198 #[.string s] w fun e w' => e = .returned (.bool (isRowB s)) ∧ w = w' := by
 have HT : Hid (∀ V, Calls Tryz.prog 222 #[.string s, i64 30] V fun e w' => e = .returned (.bool (txtB 32 30 s)) ∧ V = w') := hd_ fun V => l00Text_any s 30 V (by omega) hs
 have hr : Hid (isRowB s = (txtB 32 30 s && (decide (s.size = 0) || decide (byteAt s (s.size - 1) ≠ 32)))) := hd_ rfl
 cases hv : txtB 32 30 s with
 | false =>
   have HT2 : Hid (∀ V, Calls Tryz.prog 222 #[.string s, i64 30] V fun e w' => e = .returned (.bool false) ∧ V = w') := hd_ fun V => by rw [← hv]; exact HT.out V
   have hr2 : Hid (isRowB s = false) := hd_ (by rw [hr.out, hv]; rfl)
   clear HT hr hv
   go_enter Tryz.func198, Tryz.ntmps198
   go_wp2_with (first | (go_at_call 222; refine cs_ (HT2.out _) ?_))
   go_ret
   rw [hr2.out]
   exact ⟨rfl, rfl⟩
 | true =>
   have HT2 : Hid (∀ V, Calls Tryz.prog 222 #[.string s, i64 30] V fun e w' => e = .returned (.bool true) ∧ V = w') := hd_ fun V => by rw [← hv]; exact HT.out V
   clear HT
   by_cases h0 : s.size = 0
   ·have hz := isEmpty_yes h0
    have hr2 : Hid (isRowB s = true) := hd_ (by rw [hr.out, hv, decide_eq_true h0]; rfl)
    clear hr hv
    go_enter Tryz.func198, Tryz.ntmps198
    go_wp2_with (first | (go_at_call 222; refine cs_ (HT2.out _) ?_))
    go_ret
    rw [hr2.out]
    exact ⟨rfl, rfl⟩
   ·have hz := isEmpty_no (s := s) (by omega)
    have hlt : s.size - 1 < s.size := by omega
    have e := byteAt_eq hlt
    have hi1 : ((s.size : Int) - 1).toNat = s.size - 1 := by omega
    have hb : (((byteAt s (s.size - 1)).toNat : Int) != 32) = decide (byteAt s (s.size - 1) ≠ 32) := by
     rw [Bool.eq_iff_iff, bne_iff_ne, decide_eq_true_eq]
     constructor
     ·intro h e; rw [e] at h; exact h rfl
     ·intro h e; exact h (UInt8.toNat_inj.1 (by show (byteAt s (s.size - 1)).toNat = 32; omega))
    by_cases e2 : byteAt s (s.size - 1) = 32
    ·have hb2 : (((byteAt s (s.size - 1)).toNat : Int) != 32) = false := by rw [hb, decide_eq_false (fun h => h e2)]
     have hr2 : Hid (isRowB s = false) := hd_ (by rw [hr.out, hv, decide_eq_false h0, decide_eq_false (fun h => h e2)]; rfl)
     clear hr hv hb e2
     go_enter Tryz.func198, Tryz.ntmps198
     go_wp2_with (first | (go_at_call 222; refine cs_ (HT2.out _) ?_))
     go_ret
     rw [hr2.out]
     exact ⟨rfl, rfl⟩
    ·have hb2 : (((byteAt s (s.size - 1)).toNat : Int) != 32) = true := by rw [hb, decide_eq_true e2]
     have hr2 : Hid (isRowB s = true) := hd_ (by rw [hr.out, hv, decide_eq_false h0, decide_eq_true e2]; rfl)
     clear hr hv hb e2
     go_enter Tryz.func198, Tryz.ntmps198
     go_wp2_with (first | (go_at_call 222; refine cs_ (HT2.out _) ?_))
     go_ret
     rw [hr2.out]
     exact ⟨rfl, rfl⟩
def dsl (l : List Int) (tg : Nat) : List Int := (List.range 31).map fun c => (dst l tg c : Int)
theorem dsl_get (l : List Int) (tg : Nat) {c : Nat} (hc : c ≤ 30) : (ics (dsl l tg))[c]? = some (i64 (dst l tg c)) := by
 have : c < 31 := by omega
 simp [ics, dsl, this]
theorem lit3_at {j : Nat} (hj : j < 3) : (⟨#[35, 60, 62]⟩ : ByteArray)[j]'(by show j < 3; exact hj) = mvB j := by
 have h3 : j = 0 ∨ j = 1 ∨ j = 2 := by omega
 rcases h3 with rfl | rfl | rfl <;> rfl
theorem l11Moves_any (c0 tg : Nat) (A : Option Addr) (cap : Nat) (l : List Int) (B : Option Addr) (bc : Nat) (w : World) (hc0 : c0 ≤ 30) (ht : tg ≤ 30) (hv : vStops l = true) (h : Rds w 1 A l.length (ics l)) (hn : l.length ≤ 100000000) (hB : Rds w 1 B 31 (ics (dsl l tg))) :
 Calls Tryz.prog 223 #[.slice A l.length cap, .slice B 31 bc, i64 c0] w fun e w' => e = .returned (.string (bs (planL l tg c0))) ∧ UpOf w w' := by
 have HR := hd_ h
 have HV := hd_ hv
 clear h hv
 obtain ⟨b, off, rfl, hb, hcs⟩ := hB.at (by omega)
 have HCS : Hid (∀ (c : Nat), c ≤ 30 → ∀ g : Up w, (up w g).cell? ⟨b, off + c, none⟩ = some (i64 (dst l tg c))) := hd_ fun c hc g => (g.below.cell (p := ⟨b, off + c, none⟩) hb).trans (hcs c _ (dsl_get l tg hc))
 clear hcs hB hb
 have hOwn := hd_ (World.ownsRow_lit (base := w.heap.size) (e := 5) (size := 1) w #[] 0 (Nat.le_refl _) (by unfold maxLen; omega) rfl)
 go_enter Tryz.func223, Tryz.ntmps223
 go_wp2_with ((with_reducible refine wru ?_); refine wrz fun _ => ?_)
 go_loopw [7, 8] (fun out cur wr => ∃ (c : Nat) (L : List UInt8) (A1 : Option Addr) (c1 : Nat), c ≤ 30 ∧ cur = i64 c ∧ out = .slice A1 L.length c1 ∧ Hid (planL l tg c0 = L ++ planL l tg c) ∧ Hid (wr.ownsRow w.heap.size 5 1 (.slice A1 L.length c1) L.length (Lib.byteCells L)) ∧ ∃ g : Up w, wr = up w g) (fun _ cur _ => dst l tg (intOf cur).toNat)
 case atStart => exact ⟨c0, [], _, _, hc0, rfl, rfl, hd_ rfl, hd_ hOwn.out, ex_up bw_⟩
 case round =>
  obtain ⟨c, L, A1, c1, hc, rfl, rfl, HP, HO, g1, rfl⟩ := hrel
  clear hOwn
  have hcn : (c : Int) < 31 := by omega
  have hc2 := HCS.out c hc
  by_cases he : c = tg
  ·have hz : dst l tg c = 0 := by rw [he]; exact dst_self l ht
   have hcv := conv_own HO.out rfl (Below.refl _ _)
   have hz1 : decide (0 < dst l tg c) = false := decide_eq_false (by omega)
   have hz2 : ¬ 0 < dst l tg c := by omega
   have HE := hd_ he
   clear hz he
   go_wp2_with ((with_reducible refine wru ?_); refine wrz fun _ => ?_)
   go_ret
   refine ⟨?_, uw_⟩
   show Ending.returned (.string ⟨L.toArray⟩) = _
   rw [HP.out, HE.out, planL_self l ht, List.append_nil]
  ·have hpos : 0 < dst l tg c := Nat.pos_of_ne_zero fun h0 => he (dst_zero ht hc h0)
   go_wp2_with ((with_reducible refine wru ?_); refine wrz fun _ => ?_)
   go_loopw [7, 8, 9] (fun out cur jj wr => ∃ j : Nat, j ≤ 3 ∧ cur = i64 c ∧ out = .slice A1 L.length c1 ∧ jj = i64 j ∧ Hid (∀ i, i < j → goodMv l tg c i = none) ∧ Hid (wr.ownsRow w.heap.size 5 1 (.slice A1 L.length c1) L.length (Lib.byteCells L)) ∧ ∃ g : Up w, wr = up w g) (fun _ _ jj _ => 3 - (intOf jj).toNat)
   case atStart => exact ⟨0, by omega, rfl, rfl, rfl, hd_ (fun i hi => by omega), hd_ (ob_ HO.out bw_), _, rfl⟩
   case round =>
    obtain ⟨j, hj, rfl, rfl, rfl, HG, HQ, g2, rfl⟩ := hrel
    clear HO
    by_cases hj3 : j < 3
    ·have hj' : (j : Int) < 3 := by omega
     have e3 := lit3_at hj3
     have hL30 : L.length ≤ 30 := by
      have := planL_len l ht hc0
      rw [HP.out, List.length_append] at this
      omega
     cases hm : mvTo l j c with
     | none =>
       have HC : Hid (∀ W, Below w.heap.size w W → Calls Tryz.prog 231 #[.slice A l.length cap, i64 c, .int .u8 ((mvB j).toNat : Int)] W fun e w' => e = .returned (i64 (-1)) ∧ UpOf W w') := hd_ fun W hW => by
        have := l11Next_any j c A cap l W hj3 hc HV.out (HR.out.below hW) hn _ rfl
        rwa [nxX_none hm] at this
       have hg : ∀ i, i < j + 1 → goodMv l tg c i = none := fun i hi => by
        by_cases q : i = j
        ·subst q; unfold goodMv; rw [hm]
        ·exact HG.out i (by omega)
       go_wp2_with (first | (go_at_call 231; refine cu_ (HC.out _ bw_) fun g => ?_) | ((with_reducible refine wru ?_); refine wrz fun _ => ?_))
       go_roundw
       case rel => exact ⟨j + 1, by omega, rfl, rfl, by go_num, hd_ hg, hd_ (ob_ HQ.out bw_), _, rfl⟩
       case measure => simp [intOf]; try omega
     | some d =>
       have hd30 := mvTo_bd HV.out hc hm
       have hdn : (d : Int) < 31 := by omega
       have hd0 : (0 : Int) ≤ (d : Int) := by omega
       have HC : Hid (∀ W, Below w.heap.size w W → Calls Tryz.prog 231 #[.slice A l.length cap, i64 c, .int .u8 ((mvB j).toNat : Int)] W fun e w' => e = .returned (i64 d) ∧ UpOf W w') := hd_ fun W hW => by
        have := l11Next_any j c A cap l W hj3 hc HV.out (HR.out.below hW) hn _ rfl
        rwa [nxX_some hm] at this
       have hc1 := HCS.out d hd30
       have hx1 : (dst l tg d : Int) ≤ 30 := by have := (dst_spec l ht hd30).1; omega
       have hx2 : (dst l tg c : Int) ≤ 30 := by have := (dst_spec l ht hc).1; omega
       by_cases e : dst l tg d + 1 = dst l tg c
       ·have ht1 : ((dst l tg d : Int) + 1 == (dst l tg c : Int)) = true := by rw [beq_iff_eq]; omega
        have hgj : goodMv l tg c j = some d := by unfold goodMv; rw [hm]; exact if_pos e
        have hps := hd_ (planL_step hj3 HG.out hgj)
        have hlt : dst l tg d < dst l tg c := by omega
        go_wp2_with (first | (go_at_call 231; refine cu_ (HC.out _ bw_) fun g => ?_) | (at_builtin; go_must (refine wpl_appU rfl _ _ 22 rfl w w.heap.size 5 _ 1 1 el_byte (.slice A1 L.length c1) L.length (Lib.byteCells L) rfl (ob_ HQ.out bw_) _ 1 1 [.int .u8 ((mvB j).toNat : Int)] rfl (rds_new _ _ _ 1 1 rfl) (fun u hu => by simp at hu; subst hu; rfl) (by unfold maxLen; omega) (by omega) (ub_ w _).size bw_ (Nat.le_refl _) ?_; intro A2 c2 g2 o2)) | ((with_reducible refine wru ?_); refine wrz fun _ => ?_))
        refine ⟨⟨d, L ++ [mvB j], A2, c2, hd30, rfl, congrArg (fun n => Value.slice A2 n c2) (by simp), hd_ (by rw [HP.out, hps.out, List.append_assoc]; rfl), hd_ ?_, _, rfl⟩, by simpa [intOf] using hlt⟩
        rw [show [Value.int .u8 ((mvB j).toNat : Int)] = Lib.byteCells [mvB j] from rfl, byteCells_snoc, show L.length + 1 = (L ++ [mvB j]).length by simp] at o2
        exact o2
       ·have ht1 : ((dst l tg d : Int) + 1 == (dst l tg c : Int)) = false := by rw [beq_eq_false_iff_ne]; omega
        have hg : ∀ i, i < j + 1 → goodMv l tg c i = none := fun i hi => by
         by_cases q : i = j
         ·subst q; unfold goodMv; rw [hm]; exact if_neg e
         ·exact HG.out i (by omega)
        go_wp2_with (first | (go_at_call 231; refine cu_ (HC.out _ bw_) fun g => ?_) | ((with_reducible refine wru ?_); refine wrz fun _ => ?_))
        go_roundw
        case rel => exact ⟨j + 1, by omega, rfl, rfl, by go_num, hd_ hg, hd_ (ob_ HQ.out bw_), _, rfl⟩
        case measure => simp [intOf]; try omega
    ·obtain rfl : j = 3 := by omega
     exact (goodMv_ex HV.out ht hc he HG.out).elim
structure FS (w wr : World) (q : Nat) (f : Nat → Int) : Prop where
 a : Blk wr q 2 (arrD f)
 u : UpOf w wr
 hq : w.heap.size ≤ q
section
variable {w wr wr' : World} {q : Nat} {f g : Nat → Int}
theorem FS.congr (h : FS w wr q f) (e : ∀ i, i < 31 → f i = g i) : FS w wr q g := ⟨arrD_congr e ▸ h.a, h.u, h.hq⟩
theorem FS.below (h : FS w wr q f) (hb : Below wr.heap.size wr wr') : FS w wr' q f := ⟨h.a.up ⟨wr', hb⟩, h.u.tr hb, h.hq⟩
theorem FS.put (h : FS w wr q f) (i : Nat) (v : Int) : FS w (wr.setCell ⟨q, i, none⟩ (i64 v)) q (fun j => if j = i then v else f j) :=
 ⟨by rw [← arrD_set]; exact h.a.put i _, UpOf.of (h.u.below.setCell (p := ⟨q, i, none⟩) h.hq _), h.hq⟩
theorem FS.cell (h : FS w wr q f) {i : Nat} (hi : i < 31) : wr.cell? ⟨q, i, none⟩ = some (i64 (f i)) := by rw [h.a.cell, arrD_get _ hi]
end
def Up31 (l : List Int) (tg : Nat) (D : Nat → Int) : Prop := D tg = 0 ∧ ∀ c, c ≤ 30 → (dst l tg c : Int) ≤ D c ∧ D c ≤ 31
def Still (l : List Int) (D : Nat → Int) (k : Nat) : Prop := ∀ c, c < k → ∀ j d, j < 3 → mvTo l j c = some d → D c ≤ D d + 1
def sum31 (D : Nat → Int) : Nat := ((List.range 31).map fun i => (D i).toNat).sum
def sumAt (w : World) (q : Nat) : Nat := sum31 fun i => intOf ((w.cell? ⟨q, i, none⟩).getD undef)
theorem sum31_congr {f g : Nat → Int} (h : ∀ i, i < 31 → f i = g i) : sum31 f = sum31 g := by
 unfold sum31
 congr 1
 exact List.map_congr_left fun i hi => by rw [h i (List.mem_range.1 hi)]
theorem FS.sum {w wr : World} {q : Nat} {f : Nat → Int} (h : FS w wr q f) : sumAt wr q = sum31 f := sum31_congr fun i hi => by rw [h.cell hi]; rfl
theorem sum_lt {f g : Nat → Int} {n k : Nat} (hk : k < n) (h : ∀ i, i < n → i ≠ k → f i = g i) (hlt : (f k).toNat < (g k).toNat) : ((List.range n).map fun i => (f i).toNat).sum < ((List.range n).map fun i => (g i).toNat).sum := by
 induction n with
 | zero => omega
 | succ n ih =>
   rw [List.range_succ, List.map_append, List.map_append, List.sum_append, List.sum_append]
   simp only [List.map_cons, List.map_nil, List.sum_cons, List.sum_nil, Nat.add_zero]
   by_cases e : k = n
   ·subst e
    have : ((List.range k).map fun i => (f i).toNat) = (List.range k).map fun i => (g i).toNat := List.map_congr_left fun i hi => by
     have := List.mem_range.1 hi
     rw [h i (by omega) (by omega)]
    rw [this]
    omega
   ·have h1 := ih (by omega) (fun i hi hn => h i (by omega) hn)
    rw [h n (by omega) (by omega)]
    omega
theorem sum31_put {D : Nat → Int} {k : Nat} {v : Int} (hk : k ≤ 30) (hv : 0 ≤ v) (h : v < D k) : sum31 (fun j => if j = k then v else D j) < sum31 D :=
 sum_lt (n := 31) (k := k) (by omega) (fun i _ hn => by rw [if_neg hn]) (by rw [if_pos rfl]; omega)
theorem Up31.put {l : List Int} {tg : Nat} {D : Nat → Int} {k j d : Nat} (hv : vStops l = true) (ht : tg ≤ 30) (h : Up31 l tg D) (hk : k ≤ 30) (hj : j < 3) (hm : mvTo l j k = some d) (hd : d ≤ 30) (hlt : D d + 1 < D k) :
 Up31 l tg (fun i => if i = k then D d + 1 else D i) := by
 have h1 := h.2 d hd
 have h2 := dst_le (tg := tg) hv ht hk hj hm
 have hne : tg ≠ k := fun e => by
  have := h.1
  rw [e] at this
  omega
 refine ⟨by show (if tg = k then D d + 1 else D tg) = 0; rw [if_neg hne]; exact h.1, fun c hc => ?_⟩
 show (dst l tg c : Int) ≤ (if c = k then D d + 1 else D c) ∧ (if c = k then D d + 1 else D c) ≤ 31
 by_cases e : c = k
 ·subst e
  have h3 := h.2 c hc
  rw [if_pos rfl]
  omega
 ·rw [if_neg e]
  exact h.2 c hc
theorem Up31.end {l : List Int} {tg : Nat} {D : Nat → Int} (hv : vStops l = true) (ht : tg ≤ 30) (h : Up31 l tg D) (hs : Still l D 31) : ∀ c, c ≤ 30 → D c = dst l tg c :=
 dst_stable hv ht h.1 (fun c hc => (h.2 c hc).1) (fun c hc k d hk hm => hs c (by omega) k d hk hm)
theorem make31 (u : World) (n : Nat) (hn : n ≤ 100000000) : (Instr.makeSlice 28 (i64 n) (i64 n)).run Tryz.prog u = .ok (.slice (some ⟨u.heap.size, 0, none⟩) n n) (u.alloc (.cells (madeCells #[i64 0] n) 2)) := by
 have hi : (Tryz.prog.info? 2).map (fun i => (i.zero, i.size, i.bytes)) = some (some (i64 0), 1, 8) := by kernel_rfl
 obtain ⟨i0, hi, hz0, hz1, hz2⟩ := info_parts hi
 have h := run_make (P := Tryz.prog) u 28 2 i0 _ Tryz.underlying28 hi hz0 .i64 .i64 n n (by omega) (Int.le_refl _) (by rw [hz2]; omega) (by omega)
 simpa [hz1, Value.cells] using h
theorem made31 : madeCells #[i64 0] 31 = arrD fun _ => 0 := by rw [arrD_zero]; kernel_rfl
def bN (v : Value) : Nat := match v with | .bool true => 1 | _ => 0
def Pass (l : List Int) (D D' : Nat → Int) (b : Bool) (k j : Nat) : Prop :=
 (b = true → sum31 D' < sum31 D) ∧ (b = false → sum31 D' ≤ sum31 D ∧ Still l D' k ∧ ∀ i, i < j → ∀ d, mvTo l i k = some d → D' k ≤ D' d + 1)
theorem Pass.start (l : List Int) (D : Nat → Int) : Pass l D D false 0 0 := ⟨fun h => (by cases h), fun _ => ⟨Nat.le_refl _, fun c hc => by omega, fun i hi => by omega⟩⟩
section
variable {l : List Int} {D D' : Nat → Int} {b : Bool}
theorem Pass.le {k j : Nat} (h : Pass l D D' b k j) : sum31 D' ≤ sum31 D := by
 cases b with
 | true => exact Nat.le_of_lt (h.1 rfl)
 | false => exact (h.2 rfl).1
theorem Pass.col {k : Nat} (h : Pass l D D' b k 3) : Pass l D D' b (k + 1) 0 :=
 ⟨h.1, fun hb => ⟨(h.2 hb).1, fun c hc j d hj hm => by
  by_cases e : c = k
  ·subst e; exact (h.2 hb).2.2 j hj d hm
  ·exact (h.2 hb).2.1 c (by omega) j d hj hm, fun i hi => by omega⟩⟩
theorem Pass.next {k j : Nat} (h : Pass l D D' b k j) (hm : ∀ d, mvTo l j k = some d → D' k ≤ D' d + 1) : Pass l D D' b k (j + 1) :=
 ⟨h.1, fun hb => ⟨(h.2 hb).1, (h.2 hb).2.1, fun i hi d he => by
  by_cases e : i = j
  ·subst e; exact hm d he
  ·exact (h.2 hb).2.2 i (by omega) d he⟩⟩
theorem Pass.put {k j : Nat} {v : Int} (h : Pass l D D' b k j) (hk : k ≤ 30) (hv : 0 ≤ v) (hlt : v < D' k) : Pass l D (fun i => if i = k then v else D' i) true k (j + 1) :=
 ⟨fun _ => Nat.lt_of_lt_of_le (sum31_put hk hv hlt) h.le, fun h => by cases h⟩
end
theorem rds_dsl {w : World} {q tg : Nat} {l : List Int} {D : Nat → Int} {t : TypeId} (h : Blk w q t (arrD D)) (hD : ∀ c, c ≤ 30 → D c = dst l tg c) : Rds w 1 (some ⟨q, 0, none⟩) 31 (ics (dsl l tg)) :=
 ⟨by simp [ics, dsl], fun _ => ⟨q, 0, rfl, h.lt, fun j u hu => by
  have hj : j < 31 := by
   rcases Nat.lt_or_ge j 31 with h | h
   ·exact h
   ·rw [List.getElem?_eq_none (by simp [ics, dsl]; omega)] at hu; cases hu
  rw [dsl_get l tg (by omega)] at hu
  rw [Nat.zero_add, h.cell, arrD_get _ hj, hD j (by omega), hu]⟩⟩
theorem l11Far_any (tg : Nat) (A : Option Addr) (cap : Nat) (l : List Int) (w : World) (ht : tg ≤ 30) (hv : vStops l = true) (h : Rds w 1 A l.length (ics l)) (hn : l.length ≤ 100000000) :
 Calls Tryz.prog 224 #[.slice A l.length cap, i64 tg] w fun e w' => (∃ q, e = .returned (.slice (some ⟨q, 0, none⟩) 31 31) ∧ Rds w' 1 (some ⟨q, 0, none⟩) 31 (ics (dsl l tg))) ∧ UpOf w w' := by
 have HR := hd_ h
 have HV := hd_ hv
 clear h hv
 have hmk : ∀ u : World, (Instr.makeSlice 28 (i64 31) (i64 31)).run Tryz.prog u = .ok (.slice (some ⟨u.heap.size, 0, none⟩) 31 31) (u.alloc (.cells (arrD fun _ => 0) 2)) := fun u => by
  have := make31 u 31 (by omega)
  rw [made31] at this
  exact this
 go_enter Tryz.func224, Tryz.ntmps224
 go_upto_region 2 with (fail)
 have HF := hd_ (show FS w (w.alloc (.cells (arrD fun _ => 0) 2)) w.heap.size (fun _ => 0) from ⟨Blk.new _ _ _, uw_, Nat.le_refl _⟩)
 obtain ⟨q, hq⟩ := nm_ (w.heap.size)
 rw [hq] at HF
 rw [hq]
 clear hq hmk
 go_wp2_with fail
 go_loopw [6] (fun i wr => ∃ k : Nat, k ≤ 31 ∧ i = i64 k ∧ Hid (FS w wr q (fun i => if i < k then 31 else 0))) (fun i _ => 31 - (intOf i).toNat)
 case atStart => exact ⟨0, by omega, rfl, hd_ (HF.out.congr fun i hi => by rw [if_neg (by omega)])⟩
 case round =>
  obtain ⟨k, hk, rfl, D⟩ := hrel
  clear HF
  by_cases hlt : k < 31
  ·have hlt' : (k : Int) < 31 := by omega
   have d0 := D.out.a.lt
   have d1 := D.out.cell hlt
   have d2 := D.out.a.free k
   go_wp2_with fail
   go_roundw
   case rel => exact ⟨k + 1, by omega, by go_num, hd_ ((D.out.put k 31).congr fun i hi => by
    by_cases e : i = k
    ·rw [if_pos e, if_pos (by omega)]
    ·rw [if_neg e]; by_cases e2 : i < k
     ·rw [if_pos e2, if_pos (by omega)]
     ·rw [if_neg e2, if_neg (by omega)])⟩
   case measure => (simp [intOf]; try omega)
  ·have hge : ¬ (k : Int) < 31 := by omega
   have D0 := hd_ (D.out.congr (g := fun _ => 31) fun i hi => by rw [if_pos (by omega)])
   clear D hlt
   clear hk
   have d0 := D0.out.a.lt
   have d1 := D0.out.cell (show tg < 31 by omega)
   have d2 := D0.out.a.free tg
   have ht' : (tg : Int) < 31 := by omega
   go_wp2_with fail
   have D1 := hd_ (D0.out.put tg 0)
   have U1 := hd_ (show Up31 l tg (fun j => if j = tg then 0 else 31) from ⟨if_pos rfl, fun c hc => by
    show (dst l tg c : Int) ≤ (if c = tg then 0 else 31) ∧ (if c = tg then (0 : Int) else 31) ≤ 31
    have := (dst_spec l ht hc).1
    by_cases e : c = tg
    ·rw [if_pos e, e, dst_self l ht]; omega
    ·rw [if_neg e]; omega⟩)
   refine wpg (R := fun U => ∃ D, Hid (FS w U q D) ∧ Hid (Up31 l tg D)) ⟨_, D1, U1⟩ (fun V1 z => ?_)
   obtain ⟨D, DF, DU⟩ := z
   clear D0 D1 U1 d0 d1 d2
   go_loopw [7] (fun ch wr => ∃ (b : Bool) (D : Nat → Int), ch = .bool b ∧ Hid (FS w wr q D) ∧ Hid (Up31 l tg D) ∧ Hid (b = false → Still l D 31)) (fun ch wr => 2 * sumAt wr q + bN ch)
   case atStart => exact ⟨true, D, rfl, DF, DU, hd_ fun h => by cases h⟩
   case round =>
    obtain ⟨b, D, rfl, DF, DU, DS⟩ := hrel
    cases b with
    | false =>
      have hend := hd_ (DU.out.end HV.out ht (DS.out rfl))
      clear DS
      go_wp2_with fail
      go_ret
      exact ⟨⟨q, rfl, rds_dsl DF.out.a hend.out⟩, DF.out.u⟩
    | true =>
      clear DS
      have hsum := hd_ DF.out.sum
      go_wp2_with fail
      go_loopw [7, 8] (fun ch a wr => ∃ (k : Nat) (b : Bool) (D' : Nat → Int), k ≤ 31 ∧ ch = .bool b ∧ a = i64 k ∧ Hid (FS w wr q D') ∧ Hid (Up31 l tg D') ∧ Hid (Pass l D D' b k 0)) (fun _ a _ => 31 - (intOf a).toNat)
      case atStart => exact ⟨0, false, D, by omega, rfl, rfl, DF, DU, hd_ (Pass.start l D)⟩
      case round =>
       obtain ⟨k, b, D', hk, rfl, rfl, EF, EU, EP⟩ := hrel
       clear DF DU
       by_cases hlt : k < 31
       ·have hlt' : (k : Int) ≤ 30 := by omega
        go_wp2_with fail
        go_loopw [7, 9] (fun ch jj wr => ∃ (j : Nat) (b : Bool) (D' : Nat → Int), j ≤ 3 ∧ ch = .bool b ∧ jj = i64 j ∧ Hid (FS w wr q D') ∧ Hid (Up31 l tg D') ∧ Hid (Pass l D D' b k j)) (fun _ jj _ => 3 - (intOf jj).toNat)
        case atStart => exact ⟨0, b, D', by omega, rfl, rfl, EF, EU, EP⟩
        case round =>
         obtain ⟨j, b2, D2, hj, rfl, rfl, FF, FU, FP⟩ := hrel
         clear EF EU EP
         by_cases hj3 : j < 3
         ·have hj' : (j : Int) < 3 := by omega
          have e3 := lit3_at hj3
          have hk30 : k ≤ 30 := by omega
          have F2 := hd_ (show ∀ V, Below wr.heap.size wr V → Rds V 1 A l.length (ics l) from fun V hV => HR.out.below (FF.out.u.tr hV).below)
          have f0 := FF.out.a.lt
          cases hm : mvTo l j k with
          | none =>
            have HC : Hid (∀ W, Below wr.heap.size wr W → Calls Tryz.prog 231 #[.slice A l.length cap, i64 k, .int .u8 ((mvB j).toNat : Int)] W fun e w' => e = .returned (i64 (-1)) ∧ UpOf W w') := hd_ fun W hW => by
             have := l11Next_any j k A cap l W hj3 hk30 HV.out (F2.out W hW) hn _ rfl
             rwa [nxX_none hm] at this
            have G := hd_ (FP.out.next (fun d he => by rw [hm] at he; cases he))
            clear FP F2
            go_wp2_with (first | (go_at_call 231; refine cu_ (HC.out _ bw_) fun g => ?_) | ((with_reducible refine wru ?_); refine wrz fun _ => ?_))
            go_roundw
            case rel => exact ⟨j + 1, b2, D2, by omega, rfl, by go_num, hd_ (FF.out.below bw_), FU, G⟩
            case measure => simp [intOf]; try omega
          | some d =>
            have hd30 := mvTo_bd HV.out hk30 hm
            have hdn : (d : Int) < 31 := by omega
            have hkn : (k : Int) < 31 := by omega
            have hd0 : (0 : Int) ≤ (d : Int) := by omega
            have HC : Hid (∀ W, Below wr.heap.size wr W → Calls Tryz.prog 231 #[.slice A l.length cap, i64 k, .int .u8 ((mvB j).toNat : Int)] W fun e w' => e = .returned (i64 d) ∧ UpOf W w') := hd_ fun W hW => by
             have := l11Next_any j k A cap l W hj3 hk30 HV.out (F2.out W hW) hn _ rfl
             rwa [nxX_some hm] at this
            have hc1 : ∀ g : Up wr, (up wr g).cell? ⟨q, d, none⟩ = some (i64 (D2 d)) := fun g => (FF.out.below g.below).cell (by omega)
            have hc2 : ∀ g : Up wr, (up wr g).cell? ⟨q, k, none⟩ = some (i64 (D2 k)) := fun g => (FF.out.below g.below).cell (by omega)
            have hfr : ∀ g : Up wr, (up wr g).frozen? ⟨q, k, none⟩ = false := fun g => (FF.out.below g.below).a.free k
            have hx1 : D2 d ≤ 31 := (FU.out.2 d hd30).2
            have hx2 : 0 ≤ D2 d := by have := (FU.out.2 d hd30).1; omega
            clear F2
            have hge0 : decide ((0 : Int) ≤ (d : Int)) = true := decide_eq_true hd0
            obtain ⟨v1, hv1⟩ := nm_ (D2 d)
            obtain ⟨v2, hv2⟩ := nm_ (D2 k)
            by_cases e : D2 d + 1 < D2 k
            ·have G := hd_ (FP.out.put hk30 (v := D2 d + 1) (by omega) e)
             have GU := hd_ (FU.out.put HV.out ht hk30 hj3 hm hd30 e)
             have e' : decide (D2 d + 1 < D2 k) = true := decide_eq_true e
             rw [hv1] at hc1 e' hx1 hx2 G GU
             rw [hv2] at hc2 e'
             have HE := hd_ e
             clear FP FU hm e hv1 hv2
             go_wp2_with (first | (go_at_call 231; refine cu_ (HC.out _ bw_) fun g => ?_) | ((with_reducible refine wru ?_); refine wrz fun _ => ?_))
             go_roundw
             case rel => exact ⟨j + 1, true, _, by omega, rfl, by go_num, hd_ ((FF.out.below bw_).put k (v1 + 1)), GU, G⟩
             case measure => simp [intOf]; try omega
            ·have G := hd_ (FP.out.next (fun d' he => by rw [hm] at he; injection he with he; subst he; omega))
             have e' : decide (D2 d + 1 < D2 k) = false := decide_eq_false e
             rw [hv1] at hc1 e' hx1 hx2
             rw [hv2] at hc2 e'
             have HE := hd_ e
             clear FP hm e hv1 hv2
             go_wp2_with (first | (go_at_call 231; refine cu_ (HC.out _ bw_) fun g => ?_) | ((with_reducible refine wru ?_); refine wrz fun _ => ?_))
             go_roundw
             case rel => exact ⟨j + 1, b2, D2, by omega, rfl, by go_num, hd_ (FF.out.below bw_), FU, G⟩
             case measure => simp [intOf]; try omega
         ·obtain rfl : j = 3 := by omega
          have G := hd_ (FP.out.col)
          clear FP
          go_wp2_with fail
          refine ⟨⟨k + 1, b2, D2, by omega, rfl, by go_num, FF, FU, G⟩, by simp [intOf]; try omega⟩
       ·have hge : ¬ (k : Int) ≤ 30 := by omega
        have hk31 : k = 31 := by omega
        have G : Hid (Pass l D D' b 31 0) := hd_ (by rw [← hk31]; exact EP.out)
        clear EP hlt hk31
        go_wp2_with fail
        refine ⟨⟨b, D', rfl, EF, EU, hd_ fun hb => (G.out.2 hb).2.1⟩, ?_⟩
        rw [EF.out.sum, hsum.out]
        cases b with
        | true => have := G.out.1 rfl; show 2 * _ + 1 < 2 * _ + 1; omega
        | false => have := (G.out.2 rfl).1; show 2 * _ + 0 < 2 * _ + 1; omega
theorem l11Plan_any (s : ByteArray) (A : Option Addr) (cap : Nat) (l : List Int) (w : World) (hs : s.size ≤ 30) (hv : vStops l = true) (h : Rds w 1 A l.length (ics l)) (hn : l.length ≤ 100000000) :
 Calls Tryz.prog 199 #[.slice A l.length cap, .string s] w fun e w' => e = .returned (.tuple #[.string (bs (rowA l 0 0 s.data.toList)), i64 (rowM l 0 0 s.data.toList)]) ∧ UpOf w w' := by
 obtain ⟨L, hL⟩ := nm_ (s.data.toList)
 have HL := hd_ hL
 have hLn := hd_ (show L.length = s.size by rw [← hL]; rfl)
 have HR := hd_ h
 have HV := hd_ hv
 have HOw := hd_ (World.ownsRow_lit (base := w.heap.size) (e := 5) (size := 1) w #[] 0 (Nat.le_refl _) (by unfold maxLen; omega) rfl)
 rw [hL]
 clear h hv hL
 go_enter Tryz.func199, Tryz.ntmps199
 go_wp2_with fail
 go_loopw [6, 7, 8, 9] (fun out at' cnt i wr => ∃ (k a m : Nat) (T : List UInt8) (A1 : Option Addr) (c1 : Nat), k ≤ s.size ∧ i = i64 k ∧ at' = i64 a ∧ cnt = i64 m ∧ out = .slice A1 T.length c1 ∧ a ≤ 30 ∧ Hid (T.length ≤ 32 * k ∧ m ≤ 30 * k ∧ rowA l 0 0 L = T ++ rowA l a k (L.drop k) ∧ rowM l 0 0 L = m + rowM l a k (L.drop k)) ∧ Hid (wr.ownsRow w.heap.size 5 1 (.slice A1 T.length c1) T.length (Lib.byteCells T)) ∧ ∃ g : Up w, wr = up w g) (fun _ _ _ i _ => s.size - (intOf i).toNat)
 case atStart => exact ⟨0, 0, 0, [], _, _, by omega, rfl, rfl, rfl, rfl, by omega, hd_ ⟨by simp, by omega, by simp, by simp⟩, hd_ HOw.out, ex_up bw_⟩
 case round =>
  clear HOw
  obtain ⟨k, a, m, T, A1, c1, hk, rfl, rfl, rfl, rfl, ha, HK, HO, g, rfl⟩ := hrel
  by_cases hlt : k < s.size
  ·have hkl : k < L.length := by rw [hLn.out]; exact hlt
   have h1 : (k : Int) + 1 ≤ (s.size : Int) := by omega
   have hlt' : (k : Int) < (s.size : Int) := by omega
   have hdr := hd_ (drop_at hkl)
   have e := byteAt_eq hlt
   have hbk : byteAt s k = L.getD k 0 := by unfold byteAt; rw [HL.out]
   by_cases q : L.getD k 0 = 32
   ·have hq : (((byteAt s k).toNat : Int) == 32) = true := by rw [hbk, q]; rfl
    have hrel2 := hd_ (show T.length ≤ 32 * (k + 1) ∧ m ≤ 30 * (k + 1) ∧ rowA l 0 0 L = T ++ rowA l a (k + 1) (L.drop (k + 1)) ∧ rowM l 0 0 L = m + rowM l a (k + 1) (L.drop (k + 1)) from by
     obtain ⟨q1, q2, q3, q4⟩ := HK.out
     rw [q3, q4, hdr.out, rowA, rowM, if_pos q, if_pos q]
     exact ⟨by omega, by omega, rfl, rfl⟩)
    clear q hkl HK hbk
    go_wp2_with fail
    go_roundw
    case rel => exact ⟨k + 1, a, m, T, A1, c1, by omega, by go_num, rfl, rfl, rfl, ha, hrel2, HO, ex_up bw_⟩
    case measure => simp [intOf]; try omega
   ·have hq : (((byteAt s k).toNat : Int) == 32) = false := by
     rw [beq_eq_false_iff_ne, hbk]
     intro h
     exact q (UInt8.toNat_inj.1 (by show (L.getD k 0).toNat = 32; omega))
    obtain ⟨P, hP⟩ := nm_ (planL l k a)
    have hPl : P.length ≤ 30 := by rw [← hP]; exact planL_len l (by omega) ha
    have HM : Hid (∀ V q, Below w.heap.size w V → Rds V 1 (some ⟨q, 0, none⟩) 31 (ics (dsl l k)) → Calls Tryz.prog 223 #[.slice A l.length cap, .slice (some ⟨q, 0, none⟩) 31 31, i64 a] V fun e w' => e = .returned (.string (bs P)) ∧ UpOf V w') := hd_ fun V q hV hq => by
     rw [← hP]
     exact l11Moves_any a k A cap l _ 31 V ha (by omega) HV.out (HR.out.below hV) hn hq
    have hPz : (bs P).size = P.length := by rw [← bsz, bs_list]
    have hTz : T.length ≤ 960 := by have := HK.out.1; omega
    have hrel2 := hd_ (show (T ++ (P ++ 39 :: [L.getD k 0])).length ≤ 32 * (k + 1) ∧ m + P.length ≤ 30 * (k + 1) ∧ rowA l 0 0 L = (T ++ (P ++ 39 :: [L.getD k 0])) ++ rowA l (k + 1) (k + 1) (L.drop (k + 1)) ∧ rowM l 0 0 L = (m + P.length) + rowM l (k + 1) (k + 1) (L.drop (k + 1)) from by
     obtain ⟨q1, q2, q3, q4⟩ := HK.out
     rw [q3, q4, hdr.out, rowA, rowM, if_neg q, if_neg q, hP]
     refine ⟨by simp; omega, by omega, by simp, by omega⟩)
    have hmb : (m : Int) ≤ 1000 := by have := HK.out.2.1; omega
    obtain ⟨ch, hch⟩ := nm_ (L.getD k 0)
    rw [hch] at hbk hrel2
    rw [hbk] at e hq
    clear q hkl HK hch hP hbk
    go_wp2_with fail
    refine (l11Far_any k A cap l _ (by omega) HV.out (HR.out.below bw_) hn).mono ?_
    rintro e w' ⟨⟨q, rfl, hq9⟩, g2, rfl⟩
    go_wp2_with fail
    refine cu_ (HM.out _ q bw_ hq9) fun g3 => ?_
    clear hq9
    go_upto_region 10 with (at_builtin; go_must (refine wpl_appS rfl _ _ 22 9 rfl w w.heap.size 5 el_byte Tryz.underlying9 A1 c1 T rfl (ob_ HO.out bw_) (bs P) rfl (by omega) (show Below w.heap.size w _ from bw_).size bw_ (Nat.le_refl _) ?_; intro A2 c2 g4 o4))
    rw [bs_list] at o4
    obtain ⟨T2, hT2⟩ := nm_ (T ++ P)
    have HT2 := hd_ (show T ++ (P ++ 39 :: [ch]) = T2 ++ [39, ch] by rw [← hT2]; simp)
    have hT2l : T2.length ≤ 1000 := by rw [← hT2, List.length_append]; omega
    rw [HT2.out] at hrel2
    have hT2n : T.length + P.length = T2.length := by rw [← hT2, List.length_append]
    rw [hT2] at o4
    rw [hT2n]
    have O4 := hd_ o4
    clear o4 HO hT2 HT2 hT2n
    go_wp2_with (at_builtin; go_must (refine wpl_appU rfl _ _ 22 rfl w w.heap.size 5 _ 1 1 el_byte (.slice A2 T2.length c2) T2.length (Lib.byteCells T2) rfl (ob_ O4.out bw_) _ 2 2 [.int .u8 39, .int .u8 (ch.toNat : Int)] rfl (rds_new _ #[.int .u8 39, .int .u8 (ch.toNat : Int)] _ 1 2 rfl) (fun u hu => by simp at hu; obtain rfl | rfl := hu <;> rfl) (by unfold maxLen; omega) (by omega) (show Below w.heap.size w _ from bw_).size bw_ (Nat.le_refl _) ?_; intro A3 c3 g5 o5))
    go_roundw
    case rel => exact ⟨k + 1, k + 1, m + P.length, T2 ++ [39, ch], A3, c3, by omega, by go_num, by go_num, by go_num, congrArg (fun n => Value.slice A3 n c3) (by simp), by omega, hrel2, hd_ (by rw [List.length_append]; simpa [Lib.byteCells] using o5), ex_up bw_⟩
    case measure => simp [intOf]; try omega
  ·obtain rfl : k = s.size := by omega
   have hfin := hd_ (show rowA l 0 0 L = T ∧ rowM l 0 0 L = m from by
    obtain ⟨q1, q2, q3, q4⟩ := HK.out
    rw [q3, q4, List.drop_of_length_le (by rw [hLn.out]; exact Nat.le_refl _), rowA, rowM]
    simp)
   have hcv := conv_own (w := up w g) (w1 := up w g) HO.out rfl (Below.refl _ _)
   go_wp2_with fail
   go_ret2
   rw [hfin.out.1, hfin.out.2]
   exact ⟨rfl, uw_⟩
theorem rowPlanS_any (s : ByteArray) (A : Option Addr) (cap : Nat) (l : List Int) (w : World) (hs : s.size ≤ 9223372036854775807) (h : Rds w 1 A l.length (ics l)) (hn : l.length ≤ 100000000) :
 Calls Tryz.prog 163 #[.slice A l.length cap, .string s] w fun e w' => e = .returned (.tuple #[.string (rowR l s).1, i64 (rowR l s).2]) ∧ UpOf w w' := by
 have HR := hd_ h
 clear h
 cases hv : vStops l with
 | false =>
   have hr := hd_ (show rowR l s = (⟨#[]⟩, 1) by unfold rowR; rw [hv]; rfl)
   go_enter Tryz.func163, Tryz.ntmps163
   go_wp2_with (first | (go_at_call 93; refine cu_ (ra_ (l11Ok_any A cap l _ (HR.out.below bw_) hn) hv) fun g => ?_))
   go_ret2
   rw [hr.out]
   exact ⟨rfl, uw_⟩
 | true =>
   cases hi : isRowB s with
   | false =>
     have hr := hd_ (show rowR l s = (⟨#[]⟩, 2) by unfold rowR; rw [hv, hi]; rfl)
     go_enter Tryz.func163, Tryz.ntmps163
     go_wp2_with (first | (go_at_call 93; refine cu_ (ra_ (l11Ok_any A cap l _ (HR.out.below bw_) hn) hv) fun g => ?_) | (go_at_call 198; refine cs_ (ra_ (rowS_any s _ hs) hi) ?_))
     go_ret2
     rw [hr.out]
     exact ⟨rfl, uw_⟩
   | true =>
     have hr := hd_ (show rowR l s = (bs (rowA l 0 0 s.data.toList), 0) by unfold rowR; rw [hv, hi]; rfl)
     go_enter Tryz.func163, Tryz.ntmps163
     go_wp2_with (first | (go_at_call 93; refine cu_ (ra_ (l11Ok_any A cap l _ (HR.out.below bw_) hn) hv) fun g => ?_) | (go_at_call 198; refine cs_ (ra_ (rowS_any s _ hs) hi) ?_) | (go_at_call 199; refine cu_ (l11Plan_any s A cap l _ (isRow_len hi) hv (HR.out.below bw_) hn) fun g => ?_))
     go_ret2
     rw [hr.out]
     exact ⟨rfl, uw_⟩
theorem dlU_len (d : Drill) (n : Nat) : (dlU d n).length = n := by simp [dlU]
theorem dlU_get (d : Drill) {n i : Nat} (h : i < n) : (dlU d n)[i]? = some (dlC d i) := by simp [dlU, h]
theorem dlU_four (d : Drill) (k : Nat) : dlU d (4 * (k + 1)) = dlU d (4 * k) ++ (List.replicate 3 (byteAt d.letters (k % d.letters.size)) ++ [32]) := by
 have e : ∀ r, r < 4 → (4 * k + r) % 4 = r ∧ (4 * k + r) / 4 = k := fun r hr => by omega
 rw [show 4 * (k + 1) = 4 * k + 1 + 1 + 1 + 1 by omega]
 simp only [dlU, List.range_succ, List.map_append, List.map_cons, List.map_nil, List.append_assoc]
 congr 1
 simp only [List.replicate, List.cons_append, List.nil_append]
 have f0 := e 0 (by omega)
 have f1 := e 1 (by omega)
 have f2 := e 2 (by omega)
 have f3 := e 3 (by omega)
 rw [Nat.add_zero] at f0
 simp only [dlC, f0, show 4 * k + 1 + 1 = 4 * k + 2 from rfl, show 4 * k + 1 + 1 + 1 = 4 * k + 3 from rfl, f1, f2, f3]
 simp
theorem dlU_take (d : Drill) {n m : Nat} (h : n ≤ m) : (dlU d m).take n = dlU d n := by
 simp only [dlU, ← List.map_take, List.take_range, Nat.min_eq_left h]
theorem dl_trim {d : Drill} (hv : vDrill d = true) {n : Nat} (h1 : 1 ≤ n) : ∃ e, e ≤ n ∧ dlA d n = dlU d e ∧ (e = 0 ∨ dlC d (e - 1) ≠ 32) ∧ ∀ i, e ≤ i → i < n → dlC d i = 32 := by
 obtain ⟨_, b, c, _, _⟩ := vDrill_inv hv
 have hl : ∀ i, i % 4 ≠ 3 → dlC d i ≠ 32 := fun i hi he => by
  rw [dlC, if_neg hi] at he
  have := (txtB_inv c).2 (i / 4 % d.letters.size) (Nat.mod_lt _ b)
  rw [he] at this
  exact absurd this.1 (by decide)
 by_cases h4 : n % 4 = 0
 ·refine ⟨n - 1, by omega, by rw [dlA, if_pos h4], .inr (hl _ (by omega)), fun i hi hin => ?_⟩
  rw [dlC, if_pos (by omega)]
 ·refine ⟨n, Nat.le_refl _, by rw [dlA, if_neg h4], .inr (hl _ (by omega)), fun i hi hin => by omega⟩
theorem drillLine_any (d : Drill) (n : Int) (w : World) (h1 : d.name.size ≤ 9223372036854775807) (h2 : d.letters.size ≤ 9223372036854775807) :
 Calls Tryz.prog 84 #[drv d, i64 n] w fun e w' => e = .returned (.tuple #[.string (dlR d n).1, i64 (dlR d n).2]) ∧ UpOf w w' := by
 cases hv : vDrill d with
 | false =>
   have hr := hd_ (show dlR d n = (⟨#[]⟩, 1) by rw [dlR, hv]; rfl)
   go_enter Tryz.func84, Tryz.ntmps84
   go_upto_region 1 with (fail)
   refine wpg (R := fun V => Box V w.heap.size #[.string d.name, .string d.letters, i64 d.minutes] ∧ UpOf w V) ⟨Box.new _ _ _, uw_⟩ (fun V z => ?_)
   obtain ⟨⟨hq, hc⟩, hB⟩ := z
   have c0 := hc 0 _ rfl
   have c1 := hc 1 _ rfl
   have c2 := hc 2 _ rfl
   have HB := hd_ hB
   clear hc hB
   generalize w.heap.size = q at *
   go_wp2_with (first | (go_at_call 119; refine cu_ (ra_ (validDrill_any d _ h1 h2) hv) fun g => ?_))
   go_ret2
   rw [hr.out]
   exact ⟨rfl, HB.out.tr bw_⟩
 | true =>
   cases hb : btw n 1 80 with
   | false =>
     have hr := hd_ (show dlR d n = (⟨#[]⟩, 2) by rw [dlR, hv, hb]; rfl)
     go_enter Tryz.func84, Tryz.ntmps84
     go_upto_region 1 with (fail)
     refine wpg (R := fun V => Box V w.heap.size #[.string d.name, .string d.letters, i64 d.minutes] ∧ UpOf w V) ⟨Box.new _ _ _, uw_⟩ (fun V z => ?_)
     obtain ⟨⟨hq, hc⟩, hB⟩ := z
     have c0 := hc 0 _ rfl
     have c1 := hc 1 _ rfl
     have c2 := hc 2 _ rfl
     have HB := hd_ hB
     clear hc hB
     generalize w.heap.size = q at *
     go_wp2_with (first | (go_at_call 119; refine cu_ (ra_ (validDrill_any d _ h1 h2) hv) fun g => ?_) | (go_at_call 118; refine cs_ (ra_ (between_any n 1 80 _) hb) ?_))
     go_ret2
     rw [hr.out]
     exact ⟨rfl, HB.out.tr bw_⟩
   | true =>
     have hr := hd_ (show dlR d n = (bs (dlA d n.toNat), 0) by rw [dlR, hv, hb]; rfl)
     have hbb := btw_true hb
     obtain ⟨N, rfl⟩ : ∃ N : Nat, n = (N : Int) := ⟨n.toNat, by omega⟩
     have hN1 : 1 ≤ N := by omega
     have hN2 : N ≤ 80 := by omega
     have hinv := vDrill_inv hv
     have hl0 : 0 < d.letters.size := hinv.2.1
     have hl8 : d.letters.size ≤ 8 := (txtB_inv hinv.2.2.1).1
     have HV := hd_ hv
     obtain ⟨sz, hsz⟩ := nm_ (d.letters.size)
     have HSZ := hd_ hsz
     clear hinv hbb
     rw [hsz] at hl0 hl8
     go_enter Tryz.func84, Tryz.ntmps84
     go_upto_region 1 with (fail)
     refine wpg (R := fun V => Box V w.heap.size #[.string d.name, .string d.letters, i64 d.minutes] ∧ UpOf w V) ⟨Box.new _ _ _, uw_⟩ (fun V z => ?_)
     obtain ⟨⟨hq, hc⟩, hB⟩ := z
     have c0 := hc 0 _ rfl
     have c1 := hc 1 _ rfl
     have c2 := hc 2 _ rfl
     have HB := hd_ hB
     clear hc hB
     generalize w.heap.size = q at *
     go_wp2_with (first | (go_at_call 119; refine cu_ (ra_ (validDrill_any d _ h1 h2) hv) fun g => ?_) | (go_at_call 118; refine cs_ (ra_ (between_any _ 1 80 _) hb) ?_))
     clear hv hb
     go_loopw [6, 7] (fun t6 t7 wr => ∃ (k : Nat) (S : ByteArray), S.size = 4 * k ∧ 4 * k ≤ N + 3 ∧ t7 = i64 k ∧ t6 = .string S ∧ Hid (S = bs (dlU d (4 * k))) ∧ ∃ g : Up V, wr = up V g) (fun _ t7 _ => 30 - (intOf t7).toNat)
     case atStart => exact ⟨0, ⟨#[]⟩, rfl, by omega, rfl, rfl, hd_ rfl, ex_up bw_⟩
     case round =>
      obtain ⟨k, S, hS, hk, rfl, rfl, HE, g, rfl⟩ := hrel
      by_cases hlt : 4 * k < N
      ·have hlt' : (4 * (k : Int)) < (N : Int) := by omega
       obtain ⟨a, ha⟩ := nm_ (k % sz)
       have ha1 : a < sz := by rw [← ha]; exact Nat.mod_lt _ hl0
       have hmod : (k : Int) % (sz : Int) = (a : Int) := by rw [← ha]; rfl
       have hsl : ∀ wx : World, (Instr.slice 9 (.string d.letters) (some (i64 a)) (some (.int .i64 ((a : Int) + 1))) none).run Tryz.prog wx = .ok (.string (d.letters.extract a (a + 1))) wx := fun wx => by
        have := run_slice_string (P := Tryz.prog) wx 9 d.letters .i64 .i64 (a : Int) ((a + 1 : Nat) : Int) Tryz.underlying9 (by omega) (by omega) (by omega)
        simpa using this
       have hone : d.letters.extract a (a + 1) = bs [byteAt d.letters a] := one_byte d.letters rfl (by show a < d.letters.size; omega)
       obtain ⟨R, hR⟩ := nm_ (bs (List.replicate 3 (byteAt d.letters a)))
       have hRz : R.size = 3 := by rw [← hR]; rfl
       have hrep : Hid (∀ W : World, Calls Tryz.prog 136 #[.string (d.letters.extract a (a + 1)), i64 3] W fun e w' => e = .returned (.string R) ∧ UpOf W w') := hd_ fun W => by
        rw [← hR, hone]; exact repeat_any (byteAt d.letters a) 3 W (by omega) (by omega)
       have HE2 : Hid (S ++ (R ++ ⟨#[32]⟩) = bs (dlU d (4 * (k + 1)))) := hd_ (by
        rw [dlU_four, HSZ.out, ha, HE.out, ← hR]
        apply ByteArray.ext
        apply Array.ext'
        simp)
       clear hR HE hone ha
       go_wp2_with (first | (go_at_call 136; refine cu_ (hrep.out _) fun g => ?_))
       trace_state
       go_roundw
       case rel => exact ⟨k + 1, _, by (simp only [ByteArray.size_append, hS, hRz]; show 4 * k + (3 + 1) = _; omega), by omega, by go_num, rfl, HE2, ex_up bw_⟩
       case measure => simp [intOf]; try omega
      ·have hlt' : ¬ (4 * (k : Int)) < (N : Int) := by omega
       have hNS : (N : Int) ≤ (S.size : Int) := by omega
       obtain ⟨e, he1, he2, he3, he4⟩ := dl_trim HV.out hN1
       have hex : S.extract 0 N = bs (dlU d N) := by
        rw [HE.out, bs_extract, bs_list, List.drop_zero, Nat.sub_zero, dlU_take d (by omega)]
       have hat : ∀ i, i < N → byteAt (S.extract 0 N) i = dlC d i := fun i hi => by
        rw [hex, byteAt, bs_list, List.getD_eq_getElem?_getD, dlU_get d hi]; rfl
       have hexs : (S.extract 0 N).size = N := by rw [hex, bs_size, dlU_len]
       have htr : Hid (∀ W : World, Calls Tryz.prog 137 #[.string (S.extract 0 N)] W fun r w' => r = .returned (.string (bs (dlA d N))) ∧ UpOf W w') := hd_ fun W => by
        have := trimRight_any (S.extract 0 N) e W (by omega) (by omega) (by
         rcases he3 with h | h
         ·exact .inl h
         ·by_cases h0 : e = 0
          ·exact .inl h0
          ·rw [hat _ (by omega)]; exact .inr h) (fun i h1 h2 => by rw [hat _ (by omega)]; exact he4 i h1 (by omega))
        rw [he2]
        rw [hex, bs_extract, bs_list, List.drop_zero, Nat.sub_zero, dlU_take d he1] at this
        rw [hex]
        exact this
       clear hex hat hexs he1 he2 he3 he4 HE
       go_wp2_with (first | (go_at_call 137; refine cu_ (htr.out _) fun g => ?_))
       go_ret2
       rw [hr.out]
       exact ⟨rfl, HB.out.tr bw_⟩
theorem validCode_any (A : Option Addr) (c : Nat) (ws : List ByteArray) (w : World) (h : Rds w 1 A ws.length (strs ws)) (hn : ws.length ≤ 100000000) (hf : ∀ i, i < ws.length → (wd ws i).size ≤ 100000000) :
 Calls Tryz.prog 128 #[.slice A ws.length c] w fun e w' => e = .returned (.bool (vCode ws)) ∧ UpOf w w' := by
 have HF := hd_ hf
 clear hf
 have hmm := @run_makeMap Tryz.prog
 go_enter Tryz.func128, Tryz.ntmps128
 go_wp2_with fail
 go_loopw [9] (fun i wr => ∃ k : Nat, k ≤ ws.length ∧ i = i64 k ∧ Hid (∀ j, j < k → wdOk ws j = true) ∧ ∃ S, SetAt wr Tryz.prog 9 4 w.heap.size k S ∧ Hid (namesW ws k S) ∧ Below w.heap.size w wr) (fun i _ => ws.length - (intOf i).toNat)
 case atStart => exact ⟨0, by omega, rfl, fun i hi => by omega, [], SetAt.made _ _ _ _, fun s => by simp, bw_⟩
 case round =>
  obtain ⟨k, hk, rfl, hok, S, hset, hnm, hbel⟩ := hrel
  by_cases hlt : k < ws.length
  ·obtain ⟨b, off, rfl, hb, c0⟩ := wd_at (h.below hbel) hlt
   have c0 := c0 k hlt
   have f1 := HF.out k hlt
   have hBl := hset.lt
   have HSET := hd_ hset
   have HBEL := hd_ hbel
   by_cases z : (wd ws k).size = 0
   ·have hz := isEmpty_yes z
    have hf := hd_ (vCode_at hlt (wdOk_1 z))
    clear h hset hbel z
    refine as_up fun g0 => ?_
    go_wp2_with fail
    go_ret
    exact ⟨rb_ hf.out.symm, UpOf.of (HBEL.out.trans (Below.mono bw_ HBEL.out.size))⟩
   have hz := isEmpty_no (s := wd ws k) (by omega)
   cases b1 : txtB 33 8 (wd ws k)
   ·have hf := hd_ (vCode_at hlt (wdOk_2 b1))
    clear h hset hbel
    refine as_up fun g0 => ?_
    go_wp2_with (first | (go_at_call 134; refine cs_ (ra_ (isText_any (wd ws k) 33 8 _ (by omega) (by omega) (by omega)) b1) ?_))
    go_ret
    exact ⟨rb_ hf.out.symm, UpOf.of (HBEL.out.trans (Below.mono bw_ HBEL.out.size))⟩
   ·cases b2 : memB S (wd ws k)
    ·have hq := hd_ (wdOk_fresh hnm.out (by omega) b1 b2)
     have hlook : ∀ g : Up wr, (Instr.lookup 146 (.map (some w.heap.size)) (.string (wd ws k)) false).run Tryz.prog (up wr g) = .ok (.bool false) (up wr g) := fun g => ((HSET.out.up g).look Tryz.underlying146 Tryz.underlying9 Tryz.underlying4 (zeroBoolD _) (wd ws k) (by unfold maxLen; omega)).trans (by rw [b2])
     clear h hset hbel
     refine as_up fun g0 => ?_
     go_wp2_with (first | (go_at_call 134; refine cs_ (ra_ (isText_any (wd ws k) 33 8 _ (by omega) (by omega) (by omega)) b1) ?_) | (at_mapUpdate; refine wpl_setPut _ rfl _ _ _ 146 rfl 9 4 Tryz.underlying146 Tryz.underlying9 Tryz.underlying4 w.heap.size k S rfl (HSET.out.below bw_) (by unfold maxLen; omega) (wd ws k) (by unfold maxLen; omega) rfl rfl ?_; intro w1 hset1 hgr1))
     go_roundw
     case rel =>
      have hx := lt_ext (P := fun j => wdOk ws j = true) hok.out hq.out
      exact ⟨k + 1, by omega, by go_num, hx, _, hset1, namesW_step hnm.out, (HBEL.out.trans (Below.mono bw_ HBEL.out.size)).grown hgr1 (Nat.le_trans HBEL.out.size (ub_ _ _).size) (fun j hj => by injection hj with hj; omega)⟩
     case measure => (simp [intOf]; try omega)
    ·have hf := hd_ (vCode_at hlt (wdOk_memB hnm.out b2))
     have hlook : ∀ g : Up wr, (Instr.lookup 146 (.map (some w.heap.size)) (.string (wd ws k)) false).run Tryz.prog (up wr g) = .ok (.bool true) (up wr g) := fun g => ((HSET.out.up g).look Tryz.underlying146 Tryz.underlying9 Tryz.underlying4 (zeroBoolD _) (wd ws k) (by unfold maxLen; omega)).trans (by rw [b2])
     clear h hset hbel
     refine as_up fun g0 => ?_
     go_wp2_with (first | (go_at_call 134; refine cs_ (ra_ (isText_any (wd ws k) 33 8 _ (by omega) (by omega) (by omega)) b1) ?_))
     go_ret
     exact ⟨rb_ hf.out.symm, UpOf.of (HBEL.out.trans (Below.mono bw_ HBEL.out.size))⟩
  ·obtain rfl : k = ws.length := by omega
   by_cases q : ws.length ≤ 10
   ·have hf := hd_ (vCode_true q hok.out)
    go_wp2_with fail
    go_ret
    exact ⟨rb_ (by rw [hf.out]; exact decide_eq_true (by omega)), UpOf.of hbel⟩
   ·have hf := hd_ (vCode_len (ws := ws) (by omega))
    have q' : decide (ws.length ≤ 10) = false := decide_eq_false q
    go_wp2_with fail
    go_ret
    exact ⟨rb_ (by rw [hf.out]; exact decide_eq_false (by omega)), UpOf.of hbel⟩
theorem l19Text_any (s : ByteArray) (w : World) (hs : s.size ≤ 9223372036854775807) :
 Calls Tryz.prog 215 #[.string s] w fun e w' => e = .returned (.bool (typed s)) ∧ w = w' := by
 go_enter Tryz.func215, Tryz.ntmps215
 go_wp2_with fail
 refine cs_ (l00Text_any s 60 w (by omega) hs) ?_
 go_wp2_with fail
 go_ret
 exact ⟨rfl, rfl⟩
theorem l19Two_any (a b : ByteArray) (w : World) (ha : a.size ≤ 9223372036854775807) (hb : b.size ≤ 9223372036854775807) :
 Calls Tryz.prog 184 #[.string a, .string b] w fun e w' => e = .returned (i64 (if typed a && typed b then 0 else 2)) ∧ w = w' := by
 cases h1 : typed a with
 | false =>
   go_enter Tryz.func184, Tryz.ntmps184
   go_wp2_with fail
   refine cs_ (ra_ (l19Text_any a w ha) h1) ?_
   go_wp2_with fail
   go_ret
   exact ⟨rfl, rfl⟩
 | true =>
   cases h2 : typed b with
   | false =>
     go_enter Tryz.func184, Tryz.ntmps184
     go_wp2_with fail
     refine cs_ (ra_ (l19Text_any a w ha) h1) ?_
     go_wp2_with fail
     refine cs_ (ra_ (l19Text_any b w hb) h2) ?_
     go_wp2_with fail
     go_ret
     exact ⟨rfl, rfl⟩
   | true =>
     go_enter Tryz.func184, Tryz.ntmps184
     go_wp2_with fail
     refine cs_ (ra_ (l19Text_any a w ha) h1) ?_
     go_wp2_with fail
     refine cs_ (ra_ (l19Text_any b w hb) h2) ?_
     go_wp2_with fail
     go_ret
     exact ⟨rfl, rfl⟩
theorem l19Swap_any (x y : ByteArray) (w : World) (hx : x.size ≤ 1000000) (hy : y.size ≤ 1000000) :
 Calls Tryz.prog 221 #[.string x, .string y] w fun e w' => e = .returned (.bool (okAl x y 0 0 4)) ∧ UpOf w w' := by
 by_cases h1 : 1 < x.size
 ·have h1' : (2 : Int) ≤ x.size := by omega
  have h1'' : (1 : Int) < x.size := by omega
  have h0x : (0 : Int) < x.size := by omega
  have a0 := byteAt_eq (s := x) (i := 0) (by omega)
  have a1 := byteAt_eq h1
  by_cases h2 : 1 < y.size
  ·have h2' : (2 : Int) ≤ y.size := by omega
   have h2'' : (1 : Int) < y.size := by omega
   have h0y : (0 : Int) < y.size := by omega
   have b0 := byteAt_eq (s := y) (i := 0) (by omega)
   have b1 := byteAt_eq h2
   by_cases q1 : byteAt x 0 = byteAt x 1
   ·have q1' : (((byteAt x 0).toNat : Int) != ((byteAt x 1).toNat : Int)) = false := by rw [byte_bne, decide_eq_false (fun h => h q1)]
    have Q1 := hd_ q1
    clear q1
    have hf : Hid (okAl x y 0 0 4 = false) := hd_ (by exact decide_eq_false (fun h => h.2.2.1 Q1.out))
    go_enter Tryz.func221, Tryz.ntmps221
    go_wp2_with ((with_reducible refine wru ?_); refine wrz fun _ => ?_)
    go_ret
    rw [hf.out]
    exact ⟨rfl, uw_⟩
   ·have q1' : (((byteAt x 0).toNat : Int) != ((byteAt x 1).toNat : Int)) = true := by rw [byte_bne, decide_eq_true q1]
    have Q1 := hd_ q1
    clear q1
    by_cases q2 : byteAt x 0 = byteAt y 1
    ·have q2' : (((byteAt x 0).toNat : Int) == ((byteAt y 1).toNat : Int)) = true := by rw [byte_beq, decide_eq_true q2]
     have Q2 := hd_ q2
     clear q2
     by_cases q3 : byteAt x 1 = byteAt y 0
     ·have q3' : (((byteAt x 1).toNat : Int) == ((byteAt y 0).toNat : Int)) = true := by rw [byte_beq, decide_eq_true q3]
      have Q3 := hd_ q3
      clear q3
      have hf : Hid (okAl x y 0 0 4 = true) := hd_ (by exact decide_eq_true ⟨by omega, by omega, Q1.out, Q2.out, Q3.out⟩)
      go_enter Tryz.func221, Tryz.ntmps221
      go_wp2_with ((with_reducible refine wru ?_); refine wrz fun _ => ?_)
      go_ret
      rw [hf.out]
      exact ⟨rfl, uw_⟩
     ·have q3' : (((byteAt x 1).toNat : Int) == ((byteAt y 0).toNat : Int)) = false := by rw [byte_beq, decide_eq_false q3]
      have Q3 := hd_ q3
      clear q3
      have hf : Hid (okAl x y 0 0 4 = false) := hd_ (by exact decide_eq_false (fun h => Q3.out h.2.2.2.2))
      go_enter Tryz.func221, Tryz.ntmps221
      go_wp2_with ((with_reducible refine wru ?_); refine wrz fun _ => ?_)
      go_ret
      rw [hf.out]
      exact ⟨rfl, uw_⟩
    ·have q2' : (((byteAt x 0).toNat : Int) == ((byteAt y 1).toNat : Int)) = false := by rw [byte_beq, decide_eq_false q2]
     have Q2 := hd_ q2
     clear q2
     have hf : Hid (okAl x y 0 0 4 = false) := hd_ (by exact decide_eq_false (fun h => Q2.out h.2.2.2.1))
     go_enter Tryz.func221, Tryz.ntmps221
     go_wp2_with ((with_reducible refine wru ?_); refine wrz fun _ => ?_)
     go_ret
     rw [hf.out]
     exact ⟨rfl, uw_⟩
  ·have h2' : ¬ (2 : Int) ≤ y.size := by omega
   have hf : Hid (okAl x y 0 0 4 = false) := hd_ (by exact decide_eq_false (fun h => h2 (by omega)))
   go_enter Tryz.func221, Tryz.ntmps221
   go_wp2_with ((with_reducible refine wru ?_); refine wrz fun _ => ?_)
   go_ret
   rw [hf.out]
   exact ⟨rfl, uw_⟩
 ·have h1' : ¬ (2 : Int) ≤ x.size := by omega
  have hf : Hid (okAl x y 0 0 4 = false) := hd_ (by exact decide_eq_false (fun h => h1 (by omega)))
  go_enter Tryz.func221, Tryz.ntmps221
  go_wp2_with ((with_reducible refine wru ?_); refine wrz fun _ => ?_)
  go_ret
  rw [hf.out]
  exact ⟨rfl, uw_⟩
def rowD (n m : Nat) (Q : Nat → Nat) (I : Nat) : Array Value := ((List.range (n + 1)).map fun i => if I ≤ i then Value.slice (some ⟨Q i, 0, none⟩) (m + 1) (m + 1) else .slice none 0 0).toArray
theorem rowD_get {n m I i : Nat} {Q : Nat → Nat} (h : i ≤ n) : (rowD n m Q I)[i]? = some (if I ≤ i then Value.slice (some ⟨Q i, 0, none⟩) (m + 1) (m + 1) else .slice none 0 0) := by
 have : i < n + 1 := by omega
 simp [rowD, this]
theorem rowD_size (n m I : Nat) (Q : Nat → Nat) : (rowD n m Q I).size = n + 1 := by simp [rowD]
theorem rowD_set {n m i b : Nat} {Q : Nat → Nat} (hi : i ≤ n) : (rowD n m Q (i + 1)).setIfInBounds i (.slice (some ⟨b, 0, none⟩) (m + 1) (m + 1)) = rowD n m (fun x => if x = i then b else Q x) i := by
 apply Array.ext_getElem?
 intro j
 by_cases hj : j ≤ n
 ·rw [rowD_get hj, Array.getElem?_setIfInBounds]
  by_cases e : i = j
  ·subst e
   rw [if_pos rfl, if_pos (by rw [rowD_size]; omega), if_pos (Nat.le_refl _), if_pos rfl]
  ·rw [if_neg e, rowD_get hj]
   by_cases hl : i + 1 ≤ j
   ·rw [if_pos hl, if_pos (by omega), if_neg (fun h => e h.symm)]
   ·rw [if_neg hl, if_neg (by omega)]
 ·rw [Array.getElem?_eq_none (by rw [Array.size_setIfInBounds, rowD_size]; omega), Array.getElem?_eq_none (by rw [rowD_size]; omega)]
theorem made_rowsD (n m : Nat) (Q : Nat → Nat) : madeCells #[Value.slice none 0 0] (n + 1) = rowD n m Q (n + 1) := by
 rw [made_any, rowD]
 congr 1
 exact List.map_congr_left fun i hi => by rw [if_neg (by have := List.mem_range.1 hi; omega)]
theorem mkS_row (u : World) (m : Nat) (hn : m ≤ 1000000) : (Instr.makeSlice 28 (.int .i64 ((m : Int) + 1)) (.int .i64 ((m : Int) + 1))).run Tryz.prog u = .ok (.slice (some ⟨u.heap.size, 0, none⟩) (m + 1) (m + 1)) (u.alloc (.cells (arrN m fun _ => 0) 2)) := by
 have hi : (Tryz.prog.info? 2).map (fun i => (i.zero, i.size, i.bytes)) = some (some (i64 0), 1, 8) := by kernel_rfl
 obtain ⟨i0, hi, hz0, hz1, hz2⟩ := info_parts hi
 have h := run_make (P := Tryz.prog) u 28 2 i0 _ Tryz.underlying28 hi hz0 .i64 .i64 ((m + 1 : Nat) : Int) ((m + 1 : Nat) : Int) (by omega) (Int.le_refl _) (by rw [hz2]; omega) (by omega)
 have e : ((m : Int) + 1) = ((m + 1 : Nat) : Int) := by omega
 rw [e, ← made_row]
 simpa [hz1, Value.cells] using h
theorem mkS_rows (u : World) (n m : Nat) (Q : Nat → Nat) (hn : n ≤ 1000000) : (Instr.makeSlice 211 (.int .i64 ((n : Int) + 1)) (.int .i64 ((n : Int) + 1))).run Tryz.prog u = .ok (.slice (some ⟨u.heap.size, 0, none⟩) (n + 1) (n + 1)) (u.alloc (.cells (rowD n m Q (n + 1)) 28)) := by
 have hi : (Tryz.prog.info? 28).map (fun i => (i.zero, i.size, i.bytes)) = some (some (.slice none 0 0), 1, 24) := by kernel_rfl
 obtain ⟨i0, hi, hz0, hz1, hz2⟩ := info_parts hi
 have h := run_make (P := Tryz.prog) u 211 28 i0 _ Tryz.underlying211 hi hz0 .i64 .i64 ((n + 1 : Nat) : Int) ((n + 1 : Nat) : Int) (by omega) (Int.le_refl _) (by rw [hz2]; omega) (by omega)
 have e : ((n : Int) + 1) = ((n + 1 : Nat) : Int) := by omega
 rw [e, ← made_rowsD n m Q]
 simpa [hz1, Value.cells] using h
structure Ax (w wr : World) (B n m I : Nat) (Q : Nat → Nat) (a b : ByteArray) : Prop where
 o : Blk wr B 28 (rowD n m Q I)
 r : ∀ i, I ≤ i → i ≤ n → Blk wr (Q i) 2 (arrN m (cst a b i))
 u : UpOf w wr
 hB : w.heap.size ≤ B
def rwF (a b : ByteArray) (i K k : Nat) : Int := if K ≤ k then cst a b i k else 0
structure Cx (w wr : World) (B n m I : Nat) (Q : Nat → Nat) (R K : Nat) (a b : ByteArray) : Prop where
 t : Ax w wr B n m (I + 1) Q a b
 r : Blk wr R 2 (arrN m (rwF a b I K))
 hR : w.heap.size ≤ R
 ne : ∀ x, I + 1 ≤ x → x ≤ n → Q x ≠ R
theorem blk_ty {w : World} {p q : Nat} {t u : TypeId} {x y : Array Value} (h : Blk w p t x) (h' : Blk w q u y) (hne : t ≠ u) : p ≠ q := fun e => by
 subst e
 unfold Blk at h h'
 rw [h] at h'
 simp only [Option.some.injEq, Obj.cells.injEq] at h'
 exact hne h'.2.1
section
variable {w wr wr' : World} {B n m I R K : Nat} {Q : Nat → Nat} {a b : ByteArray}
theorem Ax.below (h : Ax w wr B n m I Q a b) (hb : Below wr.heap.size wr wr') : Ax w wr' B n m I Q a b :=
 ⟨h.o.up ⟨wr', hb⟩, fun i hi hn => (h.r i hi hn).up ⟨wr', hb⟩, h.u.tr hb, h.hB⟩
theorem Ax.row (h : Ax w wr B n m I Q a b) {i : Nat} (hi : I ≤ i) (hn : i ≤ n) : wr.cell? ⟨B, i, none⟩ = some (.slice (some ⟨Q i, 0, none⟩) (m + 1) (m + 1)) := by
 rw [h.o.cell, rowD_get hn, if_pos hi]
theorem Ax.cell (h : Ax w wr B n m I Q a b) {i j : Nat} (hi : I ≤ i) (hn : i ≤ n) (hj : j ≤ m) : wr.cell? ⟨Q i, j, none⟩ = some (i64 (cst a b i j)) := by
 rw [(h.r i hi hn).cell, arrN_get _ hj]
theorem Cx.below (h : Cx w wr B n m I Q R K a b) (hb : Below wr.heap.size wr wr') : Cx w wr' B n m I Q R K a b :=
 ⟨h.t.below hb, h.r.up ⟨wr', hb⟩, h.hR, h.ne⟩
theorem Cx.cell (h : Cx w wr B n m I Q R K a b) {j : Nat} (hk : K ≤ j) (hj : j ≤ m) : wr.cell? ⟨R, j, none⟩ = some (i64 (cst a b I j)) := by
 rw [h.r.cell, arrN_get _ hj, rwF, if_pos hk]
theorem Cx.at (h : Cx w wr B n m I Q R K a b) {j : Nat} (hj : j ≤ m) : ∃ v, wr.cell? ⟨R, j, none⟩ = some (i64 v) := ⟨_, by rw [h.r.cell, arrN_get _ hj]⟩
theorem Ax.fresh (h : Ax w wr B n m (I + 1) Q a b) : Cx w (wr.alloc (.cells (arrN m fun _ => 0) 2)) B n m I Q wr.heap.size (m + 1) a b :=
 ⟨h.below (bl_alloc (Below.refl _ _) _), by
  have h1 := Blk.new wr 2 (arrN m fun _ => 0)
  have e : arrN m (fun _ => 0) = arrN m (rwF a b I (m + 1)) := arrN_congr fun i hi => by rw [rwF, if_neg (by omega)]
  rw [e] at h1 ⊢
  exact h1, h.u.below.size, fun x h1 h2 => Nat.ne_of_lt (h.r x h1 h2).lt⟩
theorem Cx.put {k : Nat} (h : Cx w wr B n m I Q R (k + 1) a b) : Cx w (wr.setCell ⟨R, k, none⟩ (i64 (cst a b I k))) B n m I Q R k a b :=
 ⟨⟨h.t.o.far (p := ⟨R, k, none⟩) (blk_ty h.t.o h.r (by decide)) _, fun i hi hn => (h.t.r i hi hn).far (p := ⟨R, k, none⟩) (h.ne i hi hn) _, UpOf.of (h.t.u.below.setCell (p := ⟨R, k, none⟩) h.hR _), h.t.hB⟩, by
   have h1 := h.r.put k (i64 (cst a b I k))
   rw [arrN_set] at h1
   have e : arrN m (fun j => if j = k then cst a b I k else rwF a b I (k + 1) j) = arrN m (rwF a b I k) := arrN_congr fun j _ => by
    unfold rwF
    by_cases e : j = k
    ·rw [if_pos e, if_pos (by omega), e]
    ·rw [if_neg e]
     by_cases h : k + 1 ≤ j
     ·rw [if_pos h, if_pos (by omega)]
     ·rw [if_neg h, if_neg (by omega)]
   rw [e] at h1
   exact h1, h.hR, h.ne⟩
theorem Cx.done (h : Cx w wr B n m I Q R 0 a b) (hI : I ≤ n) : Ax w (wr.setCell ⟨B, I, none⟩ (.slice (some ⟨R, 0, none⟩) (m + 1) (m + 1))) B n m I (fun x => if x = I then R else Q x) a b where
 o := by
  have h1 := h.t.o.put I (.slice (some ⟨R, 0, none⟩) (m + 1) (m + 1))
  rw [rowD_set hI] at h1
  exact h1
 r := fun i hi hn => by
  show Blk _ (if i = I then R else Q i) _ _
  by_cases e : i = I
  ·rw [if_pos e, e]
   have h1 := h.r.far (p := ⟨B, I, none⟩) (blk_ty h.r h.t.o (by decide)) (.slice (some ⟨R, 0, none⟩) (m + 1) (m + 1))
   have e2 : arrN m (rwF a b I 0) = arrN m (cst a b I) := arrN_congr fun j _ => by rw [rwF, if_pos (Nat.zero_le _)]
   rw [e2] at h1
   exact h1
  ·rw [if_neg e]
   have h2 := h.t.r i (by omega) hn
   exact h2.far (p := ⟨B, I, none⟩) (blk_ty h2 h.t.o (by decide)) _
 u := UpOf.of (h.t.u.below.setCell (p := ⟨B, I, none⟩) h.t.hB _)
 hB := h.t.hB
end
section
variable {a b : ByteArray} {i k : Nat}
theorem cst_B (hi : i = a.size) (hk : k < b.size) : min ((a.size : Int) + b.size) (cst a b i (k + 1) + 1) = cst a b i k := by
 have hb := cst_bd a b _ i k rfl
 obtain ⟨j, hj, ho, he⟩ := cst_ex (a := a) (b := b) (i := i) (k := k) (.inr hk)
 have h5 : j = 0 ∨ j = 1 ∨ j = 2 ∨ j = 3 ∨ j = 4 := by omega
 rcases h5 with rfl | rfl | rfl | rfl | rfl
 ·simp only [sdi, sdk, ser, if_true, if_false, Nat.reduceEqDiff, reduceIte, Nat.add_zero] at he
  omega
 all_goals
  simp only [okAl, if_true, if_false, Nat.reduceEqDiff, reduceIte, decide_eq_true_eq] at ho
  omega
theorem cst_C (hi : i < a.size) (hk : k = b.size) : min ((a.size : Int) + b.size) (cst a b (i + 1) k + 1) = cst a b i k := by
 have hb := cst_bd a b _ i k rfl
 obtain ⟨j, hj, ho, he⟩ := cst_ex (a := a) (b := b) (i := i) (k := k) (.inl hi)
 have h5 : j = 0 ∨ j = 1 ∨ j = 2 ∨ j = 3 ∨ j = 4 := by omega
 rcases h5 with rfl | rfl | rfl | rfl | rfl
 ·simp only [okAl, if_true, if_false, Nat.reduceEqDiff, reduceIte, decide_eq_true_eq] at ho
  omega
 ·simp only [sdi, sdk, ser, if_true, if_false, Nat.reduceEqDiff, reduceIte, Nat.add_zero] at he
  omega
 all_goals
  simp only [okAl, if_true, if_false, Nat.reduceEqDiff, reduceIte, decide_eq_true_eq] at ho
  omega
theorem cst_D2 (hi : i < a.size) (hk : k < b.size) (he2 : byteAt a i = byteAt b k) : min (min (min ((a.size : Int) + b.size) (cst a b (i + 1) (k + 1))) (cst a b (i + 1) k + 1)) (cst a b i (k + 1) + 1) = cst a b i k ∧ okAl a b i k 4 = false := by
 have h4 : okAl a b i k 4 = false := by
  simp only [okAl, if_true, if_false, Nat.reduceEqDiff, reduceIte, decide_eq_false_iff_not]
  rintro ⟨_, _, h3, h4, h5⟩
  exact h3 (by rw [he2, h5])
 refine ⟨?_, h4⟩
 have hb := cst_bd a b _ i k rfl
 have l0 := cst_le (a := a) (b := b) (i := i) (k := k) (j := 0) (by omega) (by simp [okAl, hk])
 have l1 := cst_le (a := a) (b := b) (i := i) (k := k) (j := 1) (by omega) (by simp [okAl, hi])
 have l2 := cst_le (a := a) (b := b) (i := i) (k := k) (j := 2) (by omega) (by simp [okAl, hi, hk, he2])
 obtain ⟨j, hj, ho, he⟩ := cst_ex (a := a) (b := b) (i := i) (k := k) (.inl hi)
 have h5 : j = 0 ∨ j = 1 ∨ j = 2 ∨ j = 3 ∨ j = 4 := by omega
 rcases h5 with rfl | rfl | rfl | rfl | rfl
 ·simp only [sdi, sdk, ser, if_true, if_false, Nat.reduceEqDiff, reduceIte, Nat.add_zero] at he l0 l1 l2
  omega
 ·simp only [sdi, sdk, ser, if_true, if_false, Nat.reduceEqDiff, reduceIte, Nat.add_zero] at he l0 l1 l2
  omega
 ·simp only [sdi, sdk, ser, if_true, if_false, Nat.reduceEqDiff, reduceIte, Nat.add_zero] at he l0 l1 l2
  omega
 ·simp only [okAl, if_true, if_false, Nat.reduceEqDiff, reduceIte, decide_eq_true_eq] at ho
  exact absurd he2 ho.2.2
 ·rw [h4] at ho; cases ho
theorem cst_D3 (hi : i < a.size) (hk : k < b.size) (hne : byteAt a i ≠ byteAt b k) (h4 : okAl a b i k 4 = false) : min (min (min ((a.size : Int) + b.size) (cst a b (i + 1) (k + 1) + 1)) (cst a b (i + 1) k + 1)) (cst a b i (k + 1) + 1) = cst a b i k := by
 have hb := cst_bd a b _ i k rfl
 have l0 := cst_le (a := a) (b := b) (i := i) (k := k) (j := 0) (by omega) (by simp [okAl, hk])
 have l1 := cst_le (a := a) (b := b) (i := i) (k := k) (j := 1) (by omega) (by simp [okAl, hi])
 have l2 := cst_le (a := a) (b := b) (i := i) (k := k) (j := 3) (by omega) (by simp [okAl, hi, hk, hne])
 obtain ⟨j, hj, ho, he⟩ := cst_ex (a := a) (b := b) (i := i) (k := k) (.inl hi)
 have h5 : j = 0 ∨ j = 1 ∨ j = 2 ∨ j = 3 ∨ j = 4 := by omega
 rcases h5 with rfl | rfl | rfl | rfl | rfl
 ·simp only [sdi, sdk, ser, if_true, if_false, Nat.reduceEqDiff, reduceIte, Nat.add_zero] at he l0 l1 l2
  omega
 ·simp only [sdi, sdk, ser, if_true, if_false, Nat.reduceEqDiff, reduceIte, Nat.add_zero] at he l0 l1 l2
  omega
 ·simp only [okAl, if_true, if_false, Nat.reduceEqDiff, reduceIte, decide_eq_true_eq] at ho
  exact absurd ho.2.2 hne
 ·simp only [sdi, sdk, ser, if_true, if_false, Nat.reduceEqDiff, reduceIte, Nat.add_zero] at he l0 l1 l2
  omega
 ·rw [h4] at ho; cases ho
theorem cst_D4 (hi : i < a.size) (hk : k < b.size) (hne : byteAt a i ≠ byteAt b k) (h4 : okAl a b i k 4 = true) : min (min (min (min ((a.size : Int) + b.size) (cst a b (i + 1) (k + 1) + 1)) (cst a b (i + 1) k + 1)) (cst a b i (k + 1) + 1)) (cst a b (i + 2) (k + 2) + 1) = cst a b i k := by
 have hb := cst_bd a b _ i k rfl
 have l0 := cst_le (a := a) (b := b) (i := i) (k := k) (j := 0) (by omega) (by simp [okAl, hk])
 have l1 := cst_le (a := a) (b := b) (i := i) (k := k) (j := 1) (by omega) (by simp [okAl, hi])
 have l2 := cst_le (a := a) (b := b) (i := i) (k := k) (j := 3) (by omega) (by simp [okAl, hi, hk, hne])
 have l4 := cst_le (a := a) (b := b) (i := i) (k := k) (j := 4) (by omega) h4
 obtain ⟨j, hj, ho, he⟩ := cst_ex (a := a) (b := b) (i := i) (k := k) (.inl hi)
 have h5 : j = 0 ∨ j = 1 ∨ j = 2 ∨ j = 3 ∨ j = 4 := by omega
 rcases h5 with rfl | rfl | rfl | rfl | rfl
 ·simp only [sdi, sdk, ser, if_true, if_false, Nat.reduceEqDiff, reduceIte, Nat.add_zero] at he l0 l1 l2 l4
  omega
 ·simp only [sdi, sdk, ser, if_true, if_false, Nat.reduceEqDiff, reduceIte, Nat.add_zero] at he l0 l1 l2 l4
  omega
 ·simp only [okAl, if_true, if_false, Nat.reduceEqDiff, reduceIte, decide_eq_true_eq] at ho
  exact absurd ho.2.2 hne
 ·simp only [sdi, sdk, ser, if_true, if_false, Nat.reduceEqDiff, reduceIte, Nat.add_zero] at he l0 l1 l2 l4
  omega
 ·simp only [sdi, sdk, ser, if_true, if_false, Nat.reduceEqDiff, reduceIte, Nat.add_zero] at he l0 l1 l2 l4
  omega
end
end Go.Proofs.YtbianlkenallaaaGreatDoor

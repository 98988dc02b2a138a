/-
  Valid defects: the program's and the reference's; what answers are. The bounds stand at each.
-/
import Derived.Test.YtfggbcmpgkhlaaaTestP
import Derived.Test.YtfggbcmpgkhlaaaInts
import Derived.Test.YtfggbcmpgkhlaaaSet
namespace Go.Proofs.Ytfggbcmpgkhlaaa
open Go.RowKit
theorem between_any (n lo hi : Int) (w : World) :
    Calls Try.prog 39 #[i64 n, i64 lo, i64 hi] w fun e w' => e = .returned (.bool (btw n lo hi)) ∧ w = w' := by
  go_enter Try.func39, Try.ntmps39
  go_wp2
  all_goals go_ret
  all_goals exact ⟨ret_bool (by simp [btw]; omega), rfl⟩
theorem in_any (n lo hi : Int) (w : World) :
    Calls Try.prog 67 #[i64 n, i64 lo, i64 hi] w fun e w' => e = .returned (.bool (btw n lo hi)) ∧ w = w' := by
  go_enter Try.func67, Try.ntmps67
  go_wp2
  all_goals go_ret
  all_goals exact ⟨ret_bool (by simp [btw]; omega), rfl⟩
theorem num_at {w : World} {A : Option Addr} {l : List Int} (h : Rds w 1 A l.length (ics l)) {k : Nat} (hk : k < l.length) :
    ∃ b off, A = some ⟨b, off, none⟩ ∧ b < w.heap.size ∧ ∀ i, i < l.length → w.cell? ⟨b, off + i, none⟩ = some (i64 (num l i)) := by
  obtain ⟨b, off, rfl, hb, _⟩ := int_at h rfl hk
  refine ⟨b, off, rfl, hb, fun i hi => ?_⟩
  obtain ⟨b', off', e, _, c0⟩ := int_at h rfl hi
  injection e with e
  injection e with e1 e2
  subst e1 e2
  rwa [num_eq hi] at c0
def DAt (w : World) (b o : Nat) (d : Defect) : Prop := b < w.heap.size ∧ w.cell? ⟨b, o, none⟩ = some (.string d.name) ∧ w.cell? ⟨b, o + 1, none⟩ = some (i64 d.weight) ∧ w.cell? ⟨b, o + 2, none⟩ = some (.string d.signs)
theorem DAt.below {w w' : World} {b o : Nat} {d : Defect} (a : DAt w b o d) (hb : Below w.heap.size w w') : DAt w' b o d :=
  ⟨Nat.lt_of_lt_of_le a.1 hb.size, (hb.cell (p := ⟨b, o, none⟩) a.1).trans a.2.1, (hb.cell (p := ⟨b, o + 1, none⟩) a.1).trans a.2.2.1, (hb.cell (p := ⟨b, o + 2, none⟩) a.1).trans a.2.2.2⟩
theorem def_all {w : World} {A : Option Addr} {l : List Defect} (h : Rds w 3 A l.length (dfcs l)) {k : Nat} (hk : k < l.length) :
    ∃ b off, A = some ⟨b, off, none⟩ ∧ b < w.heap.size ∧ ∀ i, i < l.length → DAt w b (off + i * 3) (dat l i) := by
  obtain ⟨b, off, rfl, hb, _⟩ := df_at h hk
  refine ⟨b, off, rfl, hb, fun i hi => ?_⟩
  obtain ⟨b', off', e, _, c0, c1, c2⟩ := df_at h hi
  injection e with e
  injection e with e1 e2
  subst e1 e2
  rw [dat_eq hi] at c0 c1 c2
  exact ⟨hb, c0, c1, c2⟩
theorem text_eq {s t : ByteArray} (h : (s.toList == t.toList) = true) : s = t := by
  rw [beq_iff_eq, ByteArray.toList_eq, ByteArray.toList_eq] at h
  exact ba_ext h
theorem text_ne {s t : ByteArray} (h : (s.toList == t.toList) = false) : s ≠ t := by
  intro e
  subst e
  simp at h
def namesOf (l : List Defect) (k : Nat) (S : List ByteArray) : Prop := ∀ s, s ∈ S ↔ ∃ j, j < k ∧ (dat l j).name = s
theorem namesOf_step {l : List Defect} {k : Nat} {S : List ByteArray} (h : namesOf l k S) : namesOf l (k + 1) ((dat l k).name :: S) := by
  intro s
  rw [List.mem_cons, h s]
  constructor
  · rintro (rfl | ⟨j, hj, e⟩)
    · exact ⟨k, by omega, rfl⟩
    · exact ⟨j, by omega, e⟩
  · rintro ⟨j, hj, e⟩
    rcases Nat.lt_succ_iff_lt_or_eq.1 hj with h' | h'
    · exact .inr ⟨j, h', e⟩
    · subst h'; exact .inl e.symm
theorem okD_memB {l : List Defect} {n k : Nat} {S : List ByteArray} (h : namesOf l k S) (hm : memB S (dat l k).name = true) : okD l n k = false := by
  obtain ⟨j, hj, e⟩ := (h _).1 (memB_iff.1 hm)
  exact okD_name hj e
theorem okD_fresh {l : List Defect} {n k : Nat} {S : List ByteArray} (h : namesOf l k S) (hv : vDef n (dat l k) = true) (hm : memB S (dat l k).name = false) : okD l n k = true := by
  refine okD_true hv fun j hj e => ?_
  have := memB_iff.2 ((h _).2 ⟨j, hj, e⟩)
  rw [hm] at this
  cases this
theorem zeroBool (w : World) : (zeroValue 4).run Try.prog w = .ok (.bool false) w := by kernel_rfl
theorem vDef_1 {n : Nat} {d : Defect} (h : nameB d.name = false) : vDef n d = false := by simp [vDef, h]
theorem vDef_2 {n : Nat} {d : Defect} (h : btw d.weight 1 1000 = false) : vDef n d = false := by simp [vDef, h]
theorem vDef_3 {n : Nat} {d : Defect} (h : d.signs.size ≠ n) : vDef n d = false := by simp [vDef, h]
theorem vDef_4 {n : Nat} {d : Defect} {i : Nat} (hi : i < d.signs.size) (h : signC (byteAt d.signs i) = false) : vDef n d = false := by
  rw [vDef, signsB, rall_at hi h, Bool.and_false]
theorem vDef_0 {n : Nat} {d : Defect} (h1 : nameB d.name = true) (h2 : btw d.weight 1 1000 = true) (h3 : d.signs.size = n) (h4 : ∀ i, i < d.signs.size → signC (byteAt d.signs i) = true) : vDef n d = true := by
  rw [vDef, h1, h2, decide_eq_true h3, signsB, rall_true h4]; rfl
theorem signC_1 {c : UInt8} (h : ((c.toNat : Int) != 48) = false) : signC c = true := by
  have : (c.toNat : Int) = 48 := by simpa using h
  simp [signC, this]
theorem signC_2 {c : UInt8} (h : ((c.toNat : Int) != 49) = false) : signC c = true := by
  have : (c.toNat : Int) = 49 := by simpa using h
  simp [signC, this]
theorem signC_0 {c : UInt8} (h : ((c.toNat : Int) != 48) = true) (h2 : ((c.toNat : Int) != 49) = true) : signC c = false := by
  have h1 : ¬ (c.toNat : Int) = 48 := by simpa using h
  have h3 : ¬ (c.toNat : Int) = 49 := by simpa using h2
  rw [signC, decide_eq_false h1, decide_eq_false h3]; rfl
theorem size_of_bne {a b : Nat} (h : ((a : Int) != (b : Int)) = false) : a = b := by
  have : (a : Int) = b := by simpa using h
  omega
set_option maxRecDepth 10000 in
set_option maxHeartbeats 4000000 in
theorem validDefects_any (A B : Option Addr) (c c' : Nat) (l : List Defect) (ps : List Int) (w : World) (h : Rds w 3 A l.length (dfcs l)) (hp : Rds w 1 B ps.length (ics ps)) (hn : l.length ≤ 100000000) (hm : ps.length ≤ 100000000)
    (hs : ∀ i, i < l.length → (dat l i).name.size ≤ 100000000 ∧ (dat l i).signs.size ≤ 100000000) :
    Calls Try.prog 38 #[.slice A l.length c, .slice B ps.length c'] w fun e w' => e = .returned (.bool (vDefects l ps)) ∧ UpOf w w' := by
  have HS := Lib.hid hs
  clear hs
  have hmm := @run_makeMap Try.prog
  by_cases g1 : 6 < ps.length
  · have hf := Lib.hid (vDefects_len (l := l) (ps := ps) (by omega))
    go_enter Try.func38, Try.ntmps38
    go_wp2_with (first | ((with_reducible refine wp_region_up (by kernel_rfl) (by kernel_rfl) ?_); (repeat (go_big_quiet_step (fail))); refine wpQuiet_nil ?_; intro _ hw'; obtain ⟨nq, hw''⟩ := hw'; subst hw''))
    go_ret
    exact ⟨ret_bool hf.out.symm, UpOf.of (by repeat (first | exact Below.refl _ _ | refine bl_tr ?_ _ | refine bl_al ?_ _ | refine bl_dr ?_ | refine bl_up ?_ _ | refine Below.drew ?_ | refine bl_alloc ?_ _ | refine Below.setCell ?_ (by first | (simp; done) | (simp; omega)) _))⟩
  by_cases g2 : 10 < l.length
  · have hf := Lib.hid (vDefects_len (l := l) (ps := ps) (by omega))
    have g1' : decide (6 < ps.length) = false := decide_eq_false g1
    go_enter Try.func38, Try.ntmps38
    go_wp2_with (first | ((with_reducible refine wp_region_up (by kernel_rfl) (by kernel_rfl) ?_); (repeat (go_big_quiet_step (fail))); refine wpQuiet_nil ?_; intro _ hw'; obtain ⟨nq, hw''⟩ := hw'; subst hw''))
    go_ret
    exact ⟨ret_bool hf.out.symm, UpOf.of (by repeat (first | exact Below.refl _ _ | refine bl_tr ?_ _ | refine bl_al ?_ _ | refine bl_dr ?_ | refine bl_up ?_ _ | refine Below.drew ?_ | refine bl_alloc ?_ _ | refine Below.setCell ?_ (by first | (simp; done) | (simp; omega)) _))⟩
  have g1' : decide (6 < ps.length) = false := decide_eq_false g1
  have g2' : decide (10 < l.length) = false := decide_eq_false g2
  go_enter Try.func38, Try.ntmps38
  go_wp2_with (first | ((with_reducible refine wp_region_up (by kernel_rfl) (by kernel_rfl) ?_); (repeat (go_big_quiet_step (fail))); refine wpQuiet_nil ?_; intro _ hw'; obtain ⟨nq, hw''⟩ := hw'; subst hw''))
  have HLEN := Lib.hid (show l.length ≤ 10 ∧ ps.length ≤ 6 by omega)
  clear g1' g2'
  go_loopw [21] (fun i wr => ∃ k : Nat, k ≤ ps.length ∧ i = i64 k ∧ Hid (∀ j, j < k → btw (num ps j) 1 100 = true) ∧ ∃ g : Up w, wr = up w g) (fun i _ => ps.length - (intOf i).toNat)
  case atStart => exact ⟨0, by omega, rfl, fun i hi => by omega, ex_up (by repeat (first | exact Below.refl _ _ | refine bl_tr ?_ _ | refine bl_al ?_ _ | refine bl_dr ?_ | refine bl_up ?_ _ | refine Below.drew ?_ | refine bl_alloc ?_ _ | refine Below.setCell ?_ (by first | (simp; done) | (simp; omega)) _))⟩
  case round =>
    obtain ⟨k, hk, rfl, hok, g, rfl⟩ := hrel
    by_cases hlt : k < ps.length
    · obtain ⟨b, off, rfl, hb, hc⟩ := num_at hp hlt
      have c0 := hc k hlt
      clear hc
      cases b0 : btw (num ps k) 1 100
      · have hf := Lib.hid (vDefects_price (l := l) hlt b0)
        go_wp2_with (first | (go_at_call 39; refine (ret_as (between_any _ _ _ _) b0).mono ?_; rintro e w' ⟨rfl, rfl⟩) | ((with_reducible refine wp_region_up (by kernel_rfl) (by kernel_rfl) ?_); (repeat (go_big_quiet_step (first | (go_at_call 39; first | exact upq_tr_same (ret_as (between_any _ _ _ _) b0) | exact upq_same (ret_as (between_any _ _ _ _) b0))))); refine wpQuiet_nil ?_; intro _ hw'; obtain ⟨nq, hw''⟩ := hw'; subst hw''))
        go_ret
        exact ⟨ret_bool hf.out.symm, UpOf.of (by repeat (first | exact Below.refl _ _ | refine bl_tr ?_ _ | refine bl_al ?_ _ | refine bl_dr ?_ | refine bl_up ?_ _ | refine Below.drew ?_ | refine bl_alloc ?_ _ | refine Below.setCell ?_ (by first | (simp; done) | (simp; omega)) _))⟩
      · have hq := Lib.hid b0
        go_wp2_with (first | (go_at_call 39; refine (ret_as (between_any _ _ _ _) b0).mono ?_; rintro e w' ⟨rfl, rfl⟩) | ((with_reducible refine wp_region_up (by kernel_rfl) (by kernel_rfl) ?_); (repeat (go_big_quiet_step (first | (go_at_call 39; first | exact upq_tr_same (ret_as (between_any _ _ _ _) b0) | exact upq_same (ret_as (between_any _ _ _ _) b0))))); refine wpQuiet_nil ?_; intro _ hw'; obtain ⟨nq, hw''⟩ := hw'; subst hw''))
        go_roundw
        case rel => have hx := lt_ext (P := fun j => btw (num ps j) 1 100 = true) hok.out hq.out; exact ⟨k + 1, by omega, by go_num, hx, ex_up (by repeat (first | exact Below.refl _ _ | refine bl_tr ?_ _ | refine bl_al ?_ _ | refine bl_dr ?_ | refine bl_up ?_ _ | refine Below.drew ?_ | refine bl_alloc ?_ _ | refine Below.setCell ?_ (by first | (simp; done) | (simp; omega)) _))⟩
        case measure => (simp [intOf]; try omega)
    · have HOK := Lib.hid (show ∀ j, j < ps.length → btw (num ps j) 1 100 = true from fun j hj => hok.out j (by omega))
      clear hok
      have hbel0 := up_below w g
      revert hbel0
      generalize up w g = W0
      intro hbel0
      have HB0 := Lib.hid hbel0
      have hs0 := hbel0.size
      replace h := h.below hbel0
      clear hbel0 hp
      go_wp2_with (first | ((with_reducible refine wp_region_up (by kernel_rfl) (by kernel_rfl) ?_); (repeat (go_big_quiet_step (fail))); refine wpQuiet_nil ?_; intro _ hw'; obtain ⟨nq, hw''⟩ := hw'; subst hw''))
      clear hlt hk
      go_loopw [32] (fun i wr => ∃ k : Nat, k ≤ l.length ∧ i = i64 k ∧ Hid (∀ j, j < k → okD l ps.length j = true) ∧ ∃ S, SetAt wr Try.prog 9 4 W0.heap.size k S ∧ Hid (namesOf l k S) ∧ Below W0.heap.size W0 wr) (fun i _ => l.length - (intOf i).toNat)
      case atStart => exact ⟨0, by omega, rfl, fun i hi => by omega, [], SetAt.made _ _ _ _, fun s => by simp, (by repeat (first | exact Below.refl _ _ | refine bl_tr ?_ _ | refine bl_al ?_ _ | refine bl_dr ?_ | refine bl_up ?_ _ | refine Below.drew ?_ | refine bl_alloc ?_ _ | refine Below.setCell ?_ (by first | (simp; done) | (simp; omega)) _))⟩
      case round =>
        obtain ⟨k, hk, rfl, hok, S, hset, hnm, hbel⟩ := hrel
        by_cases hlt : k < l.length
        · obtain ⟨b, off, rfl, hb, ha⟩ := def_all (h.below hbel) hlt
          obtain ⟨_, c0, c1, c2⟩ := ha k hlt
          obtain ⟨f1, f2⟩ := HS.out k hlt
          have hBl := hset.lt
          have HSET := Lib.hid hset
          have HBEL := Lib.hid (HB0.out.trans (hbel.mono hs0))
          have HB2 := Lib.hid hbel
          have hn12 : Hid (nameB (dat l k).name = true → (dat l k).name.size ≤ 12) := fun e => (nameB_bd e).2
          clear h hset hbel ha
          refine as_up fun g0 => ?_
          cases b1 : nameB (dat l k).name
          · have hf := Lib.hid (vDefects_at (ps := ps) hlt (okD_no (vDef_1 b1)))
            go_wp2_with (first | (go_at_call 58; refine (ret_as (isNameI_any _ _ (by omega)) b1).mono ?_; rintro e w' ⟨rfl, rfl⟩) | ((with_reducible refine wp_region_up (by kernel_rfl) (by kernel_rfl) ?_); (repeat (go_big_quiet_step (first | (go_at_call 58; first | exact upq_tr_same (ret_as (isNameI_any _ _ (by omega)) b1) | exact upq_same (ret_as (isNameI_any _ _ (by omega)) b1))))); refine wpQuiet_nil ?_; intro _ hw'; obtain ⟨nq, hw''⟩ := hw'; subst hw''))
            go_ret
            exact ⟨ret_bool hf.out.symm, UpOf.of (HBEL.out.trans (Below.mono (by repeat (first | exact Below.refl _ _ | refine bl_tr ?_ _ | refine bl_al ?_ _ | refine bl_dr ?_ | refine bl_up ?_ _ | refine Below.drew ?_ | refine bl_alloc ?_ _ | refine Below.setCell ?_ (by first | (simp; done) | (simp; omega)) _)) HBEL.out.size))⟩
          cases b2 : memB S (dat l k).name
          · have hlook : ∀ g : Up wr, (Instr.lookup 84 (.map (some W0.heap.size)) (.string (dat l k).name) false).run Try.prog (up wr g) = .ok (.bool false) (up wr g) := fun g => ((HSET.out.up g).look Try.underlying84 Try.underlying9 Try.underlying4 (zeroBool _) (dat l k).name (by unfold maxLen; omega)).trans (by rw [b2])
            cases b3 : btw (dat l k).weight 1 1000
            · have hf := Lib.hid (vDefects_at (ps := ps) hlt (okD_no (vDef_2 b3)))
              go_wp2_with (first | (go_at_call 58; refine (ret_as (isNameI_any _ _ (by omega)) b1).mono ?_; rintro e w' ⟨rfl, rfl⟩) | (go_at_call 39; refine (ret_as (between_any _ _ _ _) b3).mono ?_; rintro e w' ⟨rfl, rfl⟩) | ((with_reducible refine wp_region_up (by kernel_rfl) (by kernel_rfl) ?_); (repeat (go_big_quiet_step (first | (go_at_call 58; first | exact upq_tr_same (ret_as (isNameI_any _ _ (by omega)) b1) | exact upq_same (ret_as (isNameI_any _ _ (by omega)) b1)) | (go_at_call 39; first | exact upq_tr_same (ret_as (between_any _ _ _ _) b3) | exact upq_same (ret_as (between_any _ _ _ _) b3))))); refine wpQuiet_nil ?_; intro _ hw'; obtain ⟨nq, hw''⟩ := hw'; subst hw''))
              go_ret
              exact ⟨ret_bool hf.out.symm, UpOf.of (HBEL.out.trans (Below.mono (by repeat (first | exact Below.refl _ _ | refine bl_tr ?_ _ | refine bl_al ?_ _ | refine bl_dr ?_ | refine bl_up ?_ _ | refine Below.drew ?_ | refine bl_alloc ?_ _ | refine Below.setCell ?_ (by first | (simp; done) | (simp; omega)) _)) HBEL.out.size))⟩
            cases b4 : (((dat l k).signs.size : Int) != (ps.length : Int))
            · have hsz := Lib.hid (size_of_bne b4)
              have hne0 : (up wr g0).heap.size ≠ W0.heap.size := by have := (up_below wr g0).size; omega
              have hB4 := Lib.hid b1
              have hB5 := Lib.hid b3
              have hB6 := Lib.hid b2
              go_wp2_with (first | (go_at_call 58; refine (ret_as (isNameI_any _ _ (by omega)) b1).mono ?_; rintro e w' ⟨rfl, rfl⟩) | (go_at_call 39; refine (ret_as (between_any _ _ _ _) b3).mono ?_; rintro e w' ⟨rfl, rfl⟩) | (at_mapUpdate; refine wpl_setPut _ rfl _ _ _ 84 rfl 9 4 Try.underlying84 Try.underlying9 Try.underlying4 W0.heap.size k S rfl (HSET.out.below (by repeat (first | exact Below.refl _ _ | refine bl_tr ?_ _ | refine bl_al ?_ _ | refine bl_dr ?_ | refine bl_up ?_ _ | refine Below.drew ?_ | refine bl_alloc ?_ _ | refine Below.setCell ?_ (by first | (simp; done) | (simp; omega)) _))) (by unfold maxLen; omega) (dat l k).name (by unfold maxLen; omega) rfl rfl ?_; intro w1 hset1 hgr1; have d2 : w1.cell? ⟨(up wr g0).heap.size, 2, none⟩ = some (.string (dat l k).signs) := (World.cell?_of_block (hgr1.block _ (by simp) (fun e => hne0 (by injection e)))).trans (by simp); have hs1 := Lib.hid hset1; have hg1 := Lib.hid hgr1; clear hset1 hgr1))
              clear b1 b2 b3 b4 hlook
              go_loop [66] (fun i => ∃ j : Nat, j ≤ (dat l k).signs.size ∧ i = i64 j ∧ Hid (∀ i, i < j → signC (byteAt (dat l k).signs i) = true)) (fun i => (dat l k).signs.size - (intOf i).toNat)
              case atStart => exact ⟨0, by omega, rfl, fun j hj => by omega⟩
              case round =>
                obtain ⟨j, hj, rfl, hsg⟩ := hrel
                by_cases hlt2 : j < (dat l k).signs.size
                · have hbb := Lib.hid (byteAt_eq hlt2)
                  cases q1 : (((dat l k).signs[j].toNat : Int) != 48)
                  · have hq := Lib.hid (show signC (byteAt (dat l k).signs j) = true by rw [← hbb.out]; exact signC_1 q1)
                    go_wp2
                    go_round
                    case rel => have hx := lt_ext (P := fun i => signC (byteAt (dat l k).signs i) = true) hsg.out hq.out; exact ⟨j + 1, by omega, by go_num, hx⟩
                    case measure => (simp [intOf]; try omega)
                  cases q2 : (((dat l k).signs[j].toNat : Int) != 49)
                  · have hq := Lib.hid (show signC (byteAt (dat l k).signs j) = true by rw [← hbb.out]; exact signC_2 q2)
                    go_wp2
                    go_round
                    case rel => have hx := lt_ext (P := fun i => signC (byteAt (dat l k).signs i) = true) hsg.out hq.out; exact ⟨j + 1, by omega, by go_num, hx⟩
                    case measure => (simp [intOf]; try omega)
                  have hf := Lib.hid (vDefects_at (ps := ps) hlt (okD_no (vDef_4 hlt2 (show signC (byteAt (dat l k).signs j) = false by rw [← hbb.out]; exact signC_0 q1 q2))))
                  go_wp2
                  go_ret
                  exact ⟨ret_bool hf.out.symm, UpOf.of ((HBEL.out.trans (Below.mono (by repeat (first | exact Below.refl _ _ | refine bl_tr ?_ _ | refine bl_al ?_ _ | refine bl_dr ?_ | refine bl_up ?_ _ | refine Below.drew ?_ | refine bl_alloc ?_ _ | refine Below.setCell ?_ (by first | (simp; done) | (simp; omega)) _)) HBEL.out.size)).grown hg1.out (Nat.le_trans HBEL.out.size (Nat.le_trans (up_below wr g0).size (by simp))) (fun j hj => by injection hj with hj; omega))⟩
                · have hq := Lib.hid (okD_fresh hnm.out (vDef_0 hB4.out hB5.out hsz.out (fun i hi => hsg.out i (by omega))) hB6.out)
                  go_wp2
                  go_roundw
                  case rel =>
                    have hx := lt_ext (P := fun j => okD l ps.length j = true) hok.out hq.out
                    exact ⟨k + 1, by omega, by go_num, hx, _, hs1.out, namesOf_step hnm.out, (HB2.out.trans (Below.mono (by repeat (first | exact Below.refl _ _ | refine bl_tr ?_ _ | refine bl_al ?_ _ | refine bl_dr ?_ | refine bl_up ?_ _ | refine Below.drew ?_ | refine bl_alloc ?_ _ | refine Below.setCell ?_ (by first | (simp; done) | (simp; omega)) _)) HB2.out.size)).grown hg1.out (Nat.le_trans HB2.out.size (Nat.le_trans (up_below wr g0).size (by simp))) (fun j hj => by injection hj with hj; omega)⟩
                  case measure => (simp [intOf]; try omega)
            · have hf := Lib.hid (vDefects_at (ps := ps) hlt (okD_no (vDef_3 (n := ps.length) (fun e => by rw [e] at b4; simp at b4))))
              go_wp2_with (first | (go_at_call 58; refine (ret_as (isNameI_any _ _ (by omega)) b1).mono ?_; rintro e w' ⟨rfl, rfl⟩) | (go_at_call 39; refine (ret_as (between_any _ _ _ _) b3).mono ?_; rintro e w' ⟨rfl, rfl⟩) | ((with_reducible refine wp_region_up (by kernel_rfl) (by kernel_rfl) ?_); (repeat (go_big_quiet_step (first | (go_at_call 58; first | exact upq_tr_same (ret_as (isNameI_any _ _ (by omega)) b1) | exact upq_same (ret_as (isNameI_any _ _ (by omega)) b1)) | (go_at_call 39; first | exact upq_tr_same (ret_as (between_any _ _ _ _) b3) | exact upq_same (ret_as (between_any _ _ _ _) b3))))); refine wpQuiet_nil ?_; intro _ hw'; obtain ⟨nq, hw''⟩ := hw'; subst hw''))
              go_ret
              exact ⟨ret_bool hf.out.symm, UpOf.of (HBEL.out.trans (Below.mono (by repeat (first | exact Below.refl _ _ | refine bl_tr ?_ _ | refine bl_al ?_ _ | refine bl_dr ?_ | refine bl_up ?_ _ | refine Below.drew ?_ | refine bl_alloc ?_ _ | refine Below.setCell ?_ (by first | (simp; done) | (simp; omega)) _)) HBEL.out.size))⟩
          · have hf := Lib.hid (vDefects_at (ps := ps) hlt (okD_memB (n := ps.length) hnm.out b2))
            have hlook : ∀ g : Up wr, (Instr.lookup 84 (.map (some W0.heap.size)) (.string (dat l k).name) false).run Try.prog (up wr g) = .ok (.bool true) (up wr g) := fun g => ((HSET.out.up g).look Try.underlying84 Try.underlying9 Try.underlying4 (zeroBool _) (dat l k).name (by unfold maxLen; omega)).trans (by rw [b2])
            go_wp2_with (first | (go_at_call 58; refine (ret_as (isNameI_any _ _ (by omega)) b1).mono ?_; rintro e w' ⟨rfl, rfl⟩) | ((with_reducible refine wp_region_up (by kernel_rfl) (by kernel_rfl) ?_); (repeat (go_big_quiet_step (first | (go_at_call 58; first | exact upq_tr_same (ret_as (isNameI_any _ _ (by omega)) b1) | exact upq_same (ret_as (isNameI_any _ _ (by omega)) b1))))); refine wpQuiet_nil ?_; intro _ hw'; obtain ⟨nq, hw''⟩ := hw'; subst hw''))
            go_ret
            exact ⟨ret_bool hf.out.symm, UpOf.of (HBEL.out.trans (Below.mono (by repeat (first | exact Below.refl _ _ | refine bl_tr ?_ _ | refine bl_al ?_ _ | refine bl_dr ?_ | refine bl_up ?_ _ | refine Below.drew ?_ | refine bl_alloc ?_ _ | refine Below.setCell ?_ (by first | (simp; done) | (simp; omega)) _)) HBEL.out.size))⟩
        · obtain rfl : k = l.length := by omega
          have hf := Lib.hid (vDefects_true HLEN.out HOK.out hok.out)
          go_wp2_with (first | ((with_reducible refine wp_region_up (by kernel_rfl) (by kernel_rfl) ?_); (repeat (go_big_quiet_step (fail))); refine wpQuiet_nil ?_; intro _ hw'; obtain ⟨nq, hw''⟩ := hw'; subst hw''))
          go_ret
          exact ⟨ret_bool hf.out.symm, UpOf.of (HB0.out.trans (hbel.mono HB0.out.size))⟩
end Go.Proofs.Ytfggbcmpgkhlaaa

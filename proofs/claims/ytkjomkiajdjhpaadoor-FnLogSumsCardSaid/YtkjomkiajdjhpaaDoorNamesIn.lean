/-
  NamesIn, of the program and of the reference. The bounds stand at each; the program's leans on the laid table.
-/
import Derived.Test.YtkjomkiajdjhpaaDoorVals2
import Derived.Test.YtkjomkiajdjhpaaDoorSet
namespace Go.Proofs.YtkjomkiajdjhpaaDoor
open Go.RowKit
def addN (acc : List ByteArray) (x : Entry) : List ByteArray := if memB acc x.what = true then acc else acc ++ [x.what]
def namesN (l : List Entry) : List ByteArray := l.foldl addN []
theorem names_take {l : List Entry} {k : Nat} (h : k < l.length) : namesN (l.take (k + 1)) = addN (namesN (l.take k)) l[k] := by
  unfold namesN
  rw [ents_take h, List.foldl_append]
  rfl
theorem addN_yes {acc : List ByteArray} {x : Entry} (h : memB acc x.what = true) : addN acc x = acc := by rw [addN, if_pos h]
theorem addN_not {acc : List ByteArray} {x : Entry} (h : memB acc x.what = false) : addN acc x = acc ++ [x.what] := by rw [addN, if_neg (by rw [h]; simp)]
theorem foldl_len : ∀ (l : List Entry) (acc : List ByteArray), (l.foldl addN acc).length ≤ acc.length + l.length
  | [], acc => by simp
  | x :: l, acc => by
    rw [List.foldl_cons]
    have h := foldl_len l (addN acc x)
    have h2 : (addN acc x).length ≤ acc.length + 1 := by
      rw [addN]; split
      · omega
      · simp
    simp only [List.length_cons]
    omega
theorem names_len (l : List Entry) : (namesN l).length ≤ l.length := by
  have h := foldl_len l []
  simp only [List.length_nil, Nat.zero_add] at h
  exact h
theorem memB_app (a : List ByteArray) (x t : ByteArray) : memB (a ++ [x]) t = memB (x :: a) t := by
  simp [memB, Bool.or_comm]
theorem memB_cons (a : List ByteArray) (x t : ByteArray) : memB (x :: a) t = (decide (x.data.toList = t.data.toList) || memB a t) := by simp [memB]
theorem memB_step {S acc : List ByteArray} (h : ∀ t, memB S t = memB acc t) (x : ByteArray) : ∀ t, memB (x :: S) t = memB (acc ++ [x]) t := fun t => by
  rw [memB_app, memB_cons, memB_cons, h]
def naR (s : ByteArray) : List ByteArray × Int := if codeL s = 0 then (namesN (entsL s), 0) else ([], codeL s)
theorem naR_no {s : ByteArray} (h : ¬ codeL s = 0) : naR s = ([], codeL s) := by rw [naR, if_neg h]
theorem naR_ok {s : ByteArray} (h : codeL s = 0) : naR s = (namesN (entsL s), 0) := by rw [naR, if_pos h]
theorem zeroBool (w : World) : (zeroValue 4).run Tryd.prog w = .ok (.bool false) w := by kernel_rfl
theorem own_not {w : World} {base e size n m : Nat} {v : Value} {xs : List Value} (h : w.ownsRow base e size v n xs) (hm : m < base) : v.ownBlock = none ∨ v.ownBlock ≠ some m := by
  cases hv : v.ownBlock with
  | none => exact .inl rfl
  | some k =>
    refine .inr fun e => ?_
    injection e with e
    have := (h.lt k hv).1
    omega
set_option maxRecDepth 10000 in
set_option maxHeartbeats 2000000 in
theorem namesInI_any (s : ByteArray) (w : World) (hs : s.size ≤ 1048576) (ht : Tab w) :
    Calls Tryd.prog 31 #[.string s] w fun e w' => ∃ A' c', e = .returned (.tuple #[.slice A' (naR s).1.length c', i64 (naR s).2]) ∧ w'.ownsRow w.heap.size 9 1 (.slice A' (naR s).1.length c') (naR s).1.length (strs (naR s).1) ∧ UpOf w w' := by
  have HT := Lib.hid ht
  clear ht
  by_cases h1 : codeL s = 0
  · have hf := Lib.hid (naR_ok h1)
    have hmm := @run_makeMap Tryd.prog
    have hl4 := entsL_len h1
    have hval := Lib.hid (entsL_ok s)
    go_enter Tryd.func31, Tryd.ntmps31
    go_wp2_with fail
    refine (wholeI_ok s _ (HT.out.below (by repeat (first | exact Below.refl _ _ | refine bl_tr ?_ _ | refine bl_al ?_ _ | refine bl_dr ?_ | refine bl_up ?_ _ | refine Below.drew ?_ | refine bl_alloc ?_ _ | refine Below.setCell ?_ (by first | (simp; done) | (simp; omega)) _))) h1).mono ?_
    rintro e V ⟨rb, rfl, hl, hup⟩
    obtain ⟨A, c, hc, hrb, hown⟩ := hl.list
    have HO := Lib.hid (Rds.of_own hown)
    have HU := Lib.hid hup
    clear hl hown hup
    have hOwn := World.ownsRow_lit (base := V.heap.size + 1) (e := 9) (size := 1) (V.alloc (.map #[] 0)) #[] 0 (by simp) (by unfold maxLen; omega) rfl
    rw [show (V.alloc (.map #[] 0)).heap.size = V.heap.size + 1 by simp] at hOwn
    have hOwn := Lib.hid hOwn
    have hSet := Lib.hid (SetAt.made V Tryd.prog 9 4)
    go_wp2_with (first | ((with_reducible refine wp_region_up (by kernel_rfl) (by kernel_rfl) ?_); (repeat (go_big_quiet_step (fail))); refine wpQuiet_nil ?_; intro _ hw'; obtain ⟨nq, hw''⟩ := hw'; subst hw''))
    generalize entsL s = l at *
    go_loopw [7, 25] (fun o i wr => ∃ (k : Nat) (A' : Option Addr) (c' : Nat) (S acc : List ByteArray), k ≤ l.length ∧ i = i64 k ∧ o = .slice A' acc.length c' ∧ acc.length ≤ k ∧ Hid (namesN (l.take k) = acc) ∧ SetAt wr Tryd.prog 9 4 V.heap.size k S ∧ Hid (∀ t, memB S t = memB acc t) ∧ wr.ownsRow (V.heap.size + 1) 9 1 (.slice A' acc.length c') acc.length (strs acc) ∧ Below V.heap.size V wr) (fun _ i _ => l.length - (intOf i).toNat)
    case atStart => exact ⟨0, _, _, [], [], by omega, rfl, rfl, Nat.le_refl _, rfl, hSet.out.below (by repeat (first | exact Below.refl _ _ | refine bl_tr ?_ _ | refine bl_al ?_ _ | refine bl_dr ?_ | refine bl_up ?_ _ | refine Below.drew ?_ | refine bl_alloc ?_ _ | refine Below.setCell ?_ (by first | (simp; done) | (simp; omega)) _)), fun t => rfl, own_below hOwn.out (by repeat (first | exact Below.refl _ _ | refine bl_tr ?_ _ | refine bl_al ?_ _ | refine bl_dr ?_ | refine bl_up ?_ _ | refine Below.drew ?_ | refine bl_alloc ?_ _ | refine Below.setCell ?_ (by first | (simp; done) | (simp; omega)) _)), (by repeat (first | exact Below.refl _ _ | refine bl_tr ?_ _ | refine bl_al ?_ _ | refine bl_dr ?_ | refine bl_up ?_ _ | refine Below.drew ?_ | refine bl_alloc ?_ _ | refine Below.setCell ?_ (by first | (simp; done) | (simp; omega)) _))⟩
    case round =>
      obtain ⟨k, A', c', S, acc, hk, rfl, rfl, hal, hnm, hset, hS, hown, hbel⟩ := hrel
      by_cases hlt : k < l.length
      · obtain ⟨b, off, rfl, hb, x0, x1, x2⟩ := en_at (HO.out.below hbel) hlt
        obtain ⟨_, _, hnb, _, _⟩ := vEntry_inv (hval.out l[k] (List.getElem_mem hlt))
        have hsz := (nameB_bd hnb).2
        have hBl := hset.lt
        have HSET := Lib.hid hset
        have HBEL := Lib.hid hbel
        have HOWN := Lib.hid hown
        have hNE := Lib.hid (own_not hown (Nat.lt_succ_self V.heap.size))
        cases b2 : memB acc l[k].what
        · have hN := Lib.hid (show namesN (l.take (k + 1)) = acc ++ [l[k].what] by rw [names_take hlt, hnm.out, addN_not b2])
          have hlook : ∀ g : Up wr, (Instr.lookup 91 (.map (some V.heap.size)) (.string l[k].what) false).run Tryd.prog (up wr g) = .ok (.bool false) (up wr g) := fun g => ((HSET.out.up g).look Tryd.underlying91 Tryd.underlying9 Tryd.underlying4 (zeroBool _) l[k].what (by unfold maxLen; omega)).trans (by rw [hS.out, b2])
          clear hset hbel hown hnb
          refine as_up fun g0 => ?_
          go_wp2_with (first | (at_mapUpdate; refine wpl_setPut _ rfl _ _ _ 91 rfl 9 4 Tryd.underlying91 Tryd.underlying9 Tryd.underlying4 V.heap.size k S rfl (HSET.out.below (by repeat (first | exact Below.refl _ _ | refine bl_tr ?_ _ | refine bl_al ?_ _ | refine bl_dr ?_ | refine bl_up ?_ _ | refine Below.drew ?_ | refine bl_alloc ?_ _ | refine Below.setCell ?_ (by first | (simp; done) | (simp; omega)) _))) (by unfold maxLen; omega) l[k].what (by unfold maxLen; omega) rfl rfl ?_; intro W1 hset1 hgr1; have hx1 := ((Blk.new_al (g := g0) 27 #[i64 l[k].day, .string l[k].what, i64 l[k].value]).grown hgr1 (by intro he; injection he with he; have := up_below wr g0; have := this.size; omega)).cell 1; have hx2 := ((Blk.new_al (g := g0) 27 #[i64 l[k].day, .string l[k].what, i64 l[k].value]).grown hgr1 (by intro he; injection he with he; have := up_below wr g0; have := this.size; omega)).lt; simp only [List.getElem?_toArray, List.getElem?_cons_zero, List.getElem?_cons_succ] at hx1; have HSET1 := Lib.hid hset1; have HGR1 := Lib.hid hgr1; clear hset1 hgr1) | (at_builtin; go_must (refine wpl_app rfl _ _ 47 rfl (V.heap.size + 1) 9 _ 1 16 el_str (.slice A' acc.length c') acc.length (strs acc) rfl (own_below ((own_below HOWN.out (by repeat (first | exact Below.refl _ _ | refine bl_tr ?_ _ | refine bl_al ?_ _ | refine bl_dr ?_ | refine bl_up ?_ _ | refine Below.drew ?_ | refine bl_alloc ?_ _ | refine Below.setCell ?_ (by first | (simp; done) | (simp; omega)) _))).kept HGR1.out hNE.out) (by repeat (first | exact Below.refl _ _ | refine bl_tr ?_ _ | refine bl_al ?_ _ | refine bl_dr ?_ | refine bl_up ?_ _ | refine Below.drew ?_ | refine bl_alloc ?_ _ | refine Below.setCell ?_ (by first | (simp; done) | (simp; omega)) _))) _ 1 1 [.string l[k].what] rfl (rds_new _ _ _ 1 1 rfl) (fun u hu => by simp at hu; subst hu; rfl) (by unfold maxLen; omega) (by omega) (Nat.le_trans (Nat.le_trans hBl (Nat.le_trans (up_below wr _).size HGR1.out.size)) (Below.size (B := 0) (Below.alloc (Below.refl 0 _) (Nat.zero_le _) _))) ?_); intro A2 c2 W2 o2 hgr2))
          go_roundw
          case rel =>
            have hW0 : V.heap.size ≤ (up wr (g0.al (.cells #[i64 l[k].day, .string l[k].what, i64 l[k].value] 27))).heap.size := Nat.le_trans HBEL.out.size (up_below _ _).size
            have hW1 : V.heap.size ≤ W1.heap.size := Nat.le_trans hW0 HGR1.out.size
            exact ⟨k + 1, A2, c2, l[k].what :: S, acc ++ [l[k].what], by omega, by go_num, by rw [List.length_append]; rfl, by simp; omega, hN, (HSET1.out.below (by repeat (first | exact Below.refl _ _ | refine bl_tr ?_ _ | refine bl_al ?_ _ | refine bl_dr ?_ | refine bl_up ?_ _ | refine Below.drew ?_ | refine bl_alloc ?_ _ | refine Below.setCell ?_ (by first | (simp; done) | (simp; omega)) _))).kept hgr2 (ne_row hNE.out), Lib.hid (memB_step hS.out _), by rw [List.length_append, strs_app]; exact o2,
              (((HBEL.out.trans (Below.mono (by repeat (first | exact Below.refl _ _ | refine bl_tr ?_ _ | refine bl_al ?_ _ | refine bl_dr ?_ | refine bl_up ?_ _ | refine Below.drew ?_ | refine bl_alloc ?_ _ | refine Below.setCell ?_ (by first | (simp; done) | (simp; omega)) _)) HBEL.out.size)).grown HGR1.out hW0 (fun j hj => by injection hj with hj; omega)).alloc hW1 _).grown hgr2 (Nat.le_trans hW1 (by simp)) (fun j hj => Nat.le_trans (Nat.le_succ _) (HOWN.out.lt j hj).1)⟩
          case measure => (simp [intOf]; try omega)
        · have hN := Lib.hid (show namesN (l.take (k + 1)) = acc by rw [names_take hlt, hnm.out, addN_yes b2])
          have hlook : ∀ g : Up wr, (Instr.lookup 91 (.map (some V.heap.size)) (.string l[k].what) false).run Tryd.prog (up wr g) = .ok (.bool true) (up wr g) := fun g => ((HSET.out.up g).look Tryd.underlying91 Tryd.underlying9 Tryd.underlying4 (zeroBool _) l[k].what (by unfold maxLen; omega)).trans (by rw [hS.out, b2])
          clear hset hbel hown hnb
          refine as_up fun g0 => ?_
          go_wp2_with (first | ((with_reducible refine wp_region_up (by kernel_rfl) (by kernel_rfl) ?_); (repeat (go_big_quiet_step (fail))); refine wpQuiet_nil ?_; intro _ hw'; obtain ⟨nq, hw''⟩ := hw'; subst hw''))
          go_roundw
          case rel => exact ⟨k + 1, A', c', S, acc, by omega, by go_num, rfl, by omega, hN, (HSET.out.below (by repeat (first | exact Below.refl _ _ | refine bl_tr ?_ _ | refine bl_al ?_ _ | refine bl_dr ?_ | refine bl_up ?_ _ | refine Below.drew ?_ | refine bl_alloc ?_ _ | refine Below.setCell ?_ (by first | (simp; done) | (simp; omega)) _))).mono (Nat.le_succ _), hS, own_below HOWN.out (by repeat (first | exact Below.refl _ _ | refine bl_tr ?_ _ | refine bl_al ?_ _ | refine bl_dr ?_ | refine bl_up ?_ _ | refine Below.drew ?_ | refine bl_alloc ?_ _ | refine Below.setCell ?_ (by first | (simp; done) | (simp; omega)) _)), HBEL.out.trans (Below.mono (by repeat (first | exact Below.refl _ _ | refine bl_tr ?_ _ | refine bl_al ?_ _ | refine bl_dr ?_ | refine bl_up ?_ _ | refine Below.drew ?_ | refine bl_alloc ?_ _ | refine Below.setCell ?_ (by first | (simp; done) | (simp; omega)) _)) HBEL.out.size)⟩
          case measure => (simp [intOf]; try omega)
      · obtain rfl : k = l.length := by omega
        have hnm2 := hnm.out
        rw [List.take_of_length_le (Nat.le_refl _)] at hnm2
        have HN2 := Lib.hid hnm2
        have HOWN := Lib.hid hown
        have HBEL := Lib.hid hbel
        clear hnm hnm2 hset hown hbel
        refine as_up fun g0 => ?_
        go_wp2_with (first | ((with_reducible refine wp_region_up (by kernel_rfl) (by kernel_rfl) ?_); (repeat (go_big_quiet_step (fail))); refine wpQuiet_nil ?_; intro _ hw'; obtain ⟨nq, hw''⟩ := hw'; subst hw''))
        go_ret2
        rw [hf.out, HN2.out]
        exact ⟨A', c', rfl, own_mono (own_below HOWN.out (by repeat (first | exact Below.refl _ _ | refine bl_tr ?_ _ | refine bl_al ?_ _ | refine bl_dr ?_ | refine bl_up ?_ _ | refine Below.drew ?_ | refine bl_alloc ?_ _ | refine Below.setCell ?_ (by first | (simp; done) | (simp; omega)) _))) (Nat.le_trans HU.out.below.size (Nat.le_succ _)), HU.out.tr (HBEL.out.trans (Below.mono (by repeat (first | exact Below.refl _ _ | refine bl_tr ?_ _ | refine bl_al ?_ _ | refine bl_dr ?_ | refine bl_up ?_ _ | refine Below.drew ?_ | refine bl_alloc ?_ _ | refine Below.setCell ?_ (by first | (simp; done) | (simp; omega)) _)) HBEL.out.size))⟩
  · have hf := Lib.hid (naR_no h1)
    have z := code_ne h1
    go_enter Tryd.func31, Tryd.ntmps31
    go_wp2_with (first | (go_at_call 63; refine (wholeI_no s _ hs (HT.out.below (by repeat (first | exact Below.refl _ _ | refine bl_tr ?_ _ | refine bl_al ?_ _ | refine bl_dr ?_ | refine bl_up ?_ _ | refine Below.drew ?_ | refine bl_alloc ?_ _ | refine Below.setCell ?_ (by first | (simp; done) | (simp; omega)) _))) h1).mono ?_; rintro e w' ⟨rfl, g, rfl⟩) | ((with_reducible refine wp_region_up (by kernel_rfl) (by kernel_rfl) ?_); (repeat (go_big_quiet_step (first | (go_at_call 63; first | exact upq_tr (wholeI_no s _ hs (HT.out.below (by repeat (first | exact Below.refl _ _ | refine bl_tr ?_ _ | refine bl_al ?_ _ | refine bl_dr ?_ | refine bl_up ?_ _ | refine Below.drew ?_ | refine bl_alloc ?_ _ | refine Below.setCell ?_ (by first | (simp; done) | (simp; omega)) _))) h1) | exact upq (wholeI_no s _ hs (HT.out.below (by repeat (first | exact Below.refl _ _ | refine bl_tr ?_ _ | refine bl_al ?_ _ | refine bl_dr ?_ | refine bl_up ?_ _ | refine Below.drew ?_ | refine bl_alloc ?_ _ | refine Below.setCell ?_ (by first | (simp; done) | (simp; omega)) _))) h1))))); refine wpQuiet_nil ?_; intro _ hw'; obtain ⟨nq, hw''⟩ := hw'; subst hw''))
    go_ret2
    rw [hf.out]
    exact ⟨none, 0, rfl, ⟨rfl, .inl ⟨rfl, rfl⟩⟩, UpOf.of (by repeat (first | exact Below.refl _ _ | refine bl_tr ?_ _ | refine bl_al ?_ _ | refine bl_dr ?_ | refine bl_up ?_ _ | refine Below.drew ?_ | refine bl_alloc ?_ _ | refine Below.setCell ?_ (by first | (simp; done) | (simp; omega)) _))⟩
theorem memB_take {acc : List ByteArray} {j : Nat} (h : j < acc.length) (t : ByteArray) : memB (acc.take (j + 1)) t = (memB (acc.take j) t || decide (acc[j].data.toList = t.data.toList)) := by
  unfold memB
  rw [List.take_add_one, List.getElem?_eq_getElem h, Option.toList_some, List.any_append]
  simp
set_option maxRecDepth 10000 in
set_option maxHeartbeats 2000000 in
theorem namesInS_any (s : ByteArray) (w : World) (hs : s.size ≤ 1048576) :
    Calls Tryd.prog 40 #[.string s] w fun e w' => ∃ A' c', e = .returned (.tuple #[.slice A' (naR s).1.length c', i64 (naR s).2]) ∧ w'.ownsRow w.heap.size 9 1 (.slice A' (naR s).1.length c') (naR s).1.length (strs (naR s).1) ∧ UpOf w w' := by
  by_cases h1 : codeL s = 0
  · have hf := Lib.hid (naR_ok h1)
    have hl4 := entsL_len h1
    have hval := Lib.hid (entsL_ok s)
    go_enter Tryd.func40, Tryd.ntmps40
    go_wp2_with fail
    refine (codeS_ok s _ h1).mono ?_
    rintro e V ⟨rb, rfl, hl, hup⟩
    obtain ⟨A, c, hc, hrb, hown⟩ := hl.list
    have HO := Lib.hid (Rds.of_own hown)
    have HU := Lib.hid hup
    clear hl hown hup
    have hOwn := Lib.hid (World.ownsRow_lit (base := V.heap.size) (e := 9) (size := 1) V #[] 0 (Nat.le_refl _) (by unfold maxLen; omega) rfl)
    go_wp2_with (first | ((with_reducible refine wp_region_up (by kernel_rfl) (by kernel_rfl) ?_); (repeat (go_big_quiet_step (fail))); refine wpQuiet_nil ?_; intro _ hw'; obtain ⟨nq, hw''⟩ := hw'; subst hw''))
    generalize entsL s = l at *
    go_loopw [6, 7] (fun o i wr => ∃ (k : Nat) (A' : Option Addr) (c' : Nat) (acc : List ByteArray), k ≤ l.length ∧ i = i64 k ∧ o = .slice A' acc.length c' ∧ acc.length ≤ k ∧ Hid (namesN (l.take k) = acc) ∧ wr.ownsRow V.heap.size 9 1 (.slice A' acc.length c') acc.length (strs acc) ∧ ∃ g : Up V, wr = up V g) (fun _ i _ => l.length - (intOf i).toNat)
    case atStart => exact ⟨0, _, _, [], by omega, rfl, rfl, Nat.le_refl _, rfl, hOwn.out, ex_up (by repeat (first | exact Below.refl _ _ | refine bl_tr ?_ _ | refine bl_al ?_ _ | refine bl_dr ?_ | refine bl_up ?_ _ | refine Below.drew ?_ | refine bl_alloc ?_ _ | refine Below.setCell ?_ (by first | (simp; done) | (simp; omega)) _))⟩
    case round =>
      obtain ⟨k, A', c', acc, hk, rfl, rfl, hal, hnm, hown, g, rfl⟩ := hrel
      by_cases hlt : k < l.length
      · obtain ⟨b, off, rfl, hb, x0, x1, x2⟩ := en_at HO.out hlt
        have HOWN := Lib.hid hown
        clear hown
        go_wp2_with (first | ((with_reducible refine wp_region_up (by kernel_rfl) (by kernel_rfl) ?_); (repeat (go_big_quiet_step (fail))); refine wpQuiet_nil ?_; intro _ hw'; obtain ⟨nq, hw''⟩ := hw'; subst hw''))
        go_loopw [8, 9] (fun fd j wr => ∃ (n : Nat) (d : Bool), n ≤ acc.length ∧ j = i64 n ∧ fd = .bool d ∧ Hid (memB (acc.take n) l[k].what = d) ∧ ∃ g2 : Up (up V g), wr = up V (g.tr g2)) (fun _ j _ => acc.length - (intOf j).toNat)
        case atStart => exact ⟨0, false, by omega, rfl, rfl, by show memB (acc.take 0) _ = false; simp [memB], ⟨_, Below.refl _ _⟩, rfl⟩
        case round =>
          obtain ⟨n, d, hn, rfl, rfl, hd, g2, rfl⟩ := hrel
          by_cases hlt2 : n < acc.length
          · obtain ⟨b2, off2, rfl, hb2, hcc⟩ := str_at (Rds.of_own HOWN.out) hlt2
            have y0 := hcc n hlt2
            have hmt := Lib.hid (memB_take hlt2 l[k].what)
            clear hcc
            cases d with
            | true =>
              have hd2 := Lib.hid (show memB (acc.take (n + 1)) l[k].what = true by rw [hmt.out, hd.out]; rfl)
              go_wp2_with (first | ((with_reducible refine wp_region_up (by kernel_rfl) (by kernel_rfl) ?_); (repeat (any_goals (first | go_big_quiet_step (fail) | quiet_step (fail) | (refine wpQuiet_step (fun K hK => ?_); go_simp; split <;> (refine hK _ ?_; clear hK K))))); all_goals (refine wpQuiet_nil ?_; intro _ hw'; obtain ⟨nq, hw''⟩ := hw'; subst hw'')))
              go_roundw
              case rel => exact ⟨n + 1, true, by omega, by go_num, rfl, hd2, ex_tr (by repeat (first | exact Below.refl _ _ | refine bl_tr ?_ _ | refine bl_al ?_ _ | refine bl_dr ?_ | refine bl_up ?_ _ | refine Below.drew ?_ | refine bl_alloc ?_ _ | refine Below.setCell ?_ (by first | (simp; done) | (simp; omega)) _))⟩
              case measure => (simp [intOf]; try omega)
            | false =>
              by_cases q : acc[n] = l[k].what
              · have hd2 := Lib.hid (show memB (acc.take (n + 1)) l[k].what = true by rw [hmt.out, hd.out, q]; simp)
                have qe := tl_teq q
                clear q
                go_wp2_with (first | ((with_reducible refine wp_region_up (by kernel_rfl) (by kernel_rfl) ?_); (repeat (any_goals (first | go_big_quiet_step (fail) | quiet_step (fail) | (refine wpQuiet_step (fun K hK => ?_); go_simp; split <;> (refine hK _ ?_; clear hK K))))); all_goals (refine wpQuiet_nil ?_; intro _ hw'; obtain ⟨nq, hw''⟩ := hw'; subst hw'')))
                go_roundw
                case rel => exact ⟨n + 1, true, by omega, by go_num, rfl, hd2, ex_tr (by repeat (first | exact Below.refl _ _ | refine bl_tr ?_ _ | refine bl_al ?_ _ | refine bl_dr ?_ | refine bl_up ?_ _ | refine Below.drew ?_ | refine bl_alloc ?_ _ | refine Below.setCell ?_ (by first | (simp; done) | (simp; omega)) _))⟩
                case measure => (simp [intOf]; try omega)
              · have hd2 := Lib.hid (show memB (acc.take (n + 1)) l[k].what = false by rw [hmt.out, hd.out, decide_eq_false (fun h => q (ba_ext h))]; rfl)
                have qe := tl_tne q
                clear q
                go_wp2_with (first | ((with_reducible refine wp_region_up (by kernel_rfl) (by kernel_rfl) ?_); (repeat (any_goals (first | go_big_quiet_step (fail) | quiet_step (fail) | (refine wpQuiet_step (fun K hK => ?_); go_simp; split <;> (refine hK _ ?_; clear hK K))))); all_goals (refine wpQuiet_nil ?_; intro _ hw'; obtain ⟨nq, hw''⟩ := hw'; subst hw'')))
                go_roundw
                case rel => exact ⟨n + 1, false, by omega, by go_num, rfl, hd2, ex_tr (by repeat (first | exact Below.refl _ _ | refine bl_tr ?_ _ | refine bl_al ?_ _ | refine bl_dr ?_ | refine bl_up ?_ _ | refine Below.drew ?_ | refine bl_alloc ?_ _ | refine Below.setCell ?_ (by first | (simp; done) | (simp; omega)) _))⟩
                case measure => (simp [intOf]; try omega)
          · obtain rfl : n = acc.length := by omega
            have hd1 := hd.out
            rw [List.take_of_length_le (Nat.le_refl _)] at hd1
            have HD := Lib.hid hd1
            clear hd hd1
            cases d with
            | true =>
              have hN := Lib.hid (show namesN (l.take (k + 1)) = acc by rw [names_take hlt, hnm.out, addN_yes HD.out])
              go_wp2_with (first | ((with_reducible refine wp_region_up (by kernel_rfl) (by kernel_rfl) ?_); (repeat (go_big_quiet_step (fail))); refine wpQuiet_nil ?_; intro _ hw'; obtain ⟨nq, hw''⟩ := hw'; subst hw''))
              go_roundw
              case rel => exact ⟨k + 1, A', c', acc, by omega, by go_num, rfl, by omega, hN, own_below HOWN.out (by repeat (first | exact Below.refl _ _ | refine bl_tr ?_ _ | refine bl_al ?_ _ | refine bl_dr ?_ | refine bl_up ?_ _ | refine Below.drew ?_ | refine bl_alloc ?_ _ | refine Below.setCell ?_ (by first | (simp; done) | (simp; omega)) _)), ex_up (by repeat (first | exact Below.refl _ _ | refine bl_tr ?_ _ | refine bl_al ?_ _ | refine bl_dr ?_ | refine bl_up ?_ _ | refine Below.drew ?_ | refine bl_alloc ?_ _ | refine Below.setCell ?_ (by first | (simp; done) | (simp; omega)) _))⟩
              case measure => (simp [intOf]; try omega)
            | false =>
              have hN := Lib.hid (show namesN (l.take (k + 1)) = acc ++ [l[k].what] by rw [names_take hlt, hnm.out, addN_not HD.out])
              go_wp2_with (first | (at_builtin; go_must (refine wpl_appU rfl _ _ 47 rfl V V.heap.size 9 _ 1 16 el_str (.slice A' acc.length c') acc.length (strs acc) rfl (own_below HOWN.out (by repeat (first | exact Below.refl _ _ | refine bl_tr ?_ _ | refine bl_al ?_ _ | refine bl_dr ?_ | refine bl_up ?_ _ | refine Below.drew ?_ | refine bl_alloc ?_ _ | refine Below.setCell ?_ (by first | (simp; done) | (simp; omega)) _))) _ 1 1 [.string l[k].what] rfl (rds_new _ _ _ 1 1 rfl) (fun u hu => by simp at hu; subst hu; rfl) (by unfold maxLen; omega) (by omega) (up_below V _).size (by repeat (first | exact Below.refl _ _ | refine bl_tr ?_ _ | refine bl_al ?_ _ | refine bl_dr ?_ | refine bl_up ?_ _ | refine Below.drew ?_ | refine bl_alloc ?_ _ | refine Below.setCell ?_ (by first | (simp; done) | (simp; omega)) _)) (Nat.le_refl _) ?_; intro A2 c2 g2 o2)) | ((with_reducible refine wp_region_up (by kernel_rfl) (by kernel_rfl) ?_); (repeat (go_big_quiet_step (fail))); refine wpQuiet_nil ?_; intro _ hw'; obtain ⟨nq, hw''⟩ := hw'; subst hw''))
              go_roundw
              case rel => exact ⟨k + 1, A2, c2, acc ++ [l[k].what], by omega, by go_num, by rw [List.length_append]; rfl, by simp; omega, hN, by rw [List.length_append, strs_app]; exact o2, _, rfl⟩
              case measure => (simp [intOf]; try omega)
      · obtain rfl : k = l.length := by omega
        have hnm2 := hnm.out
        rw [List.take_of_length_le (Nat.le_refl _)] at hnm2
        have HN2 := Lib.hid hnm2
        have HOWN := Lib.hid hown
        clear hnm hnm2 hown
        go_wp2_with (first | ((with_reducible refine wp_region_up (by kernel_rfl) (by kernel_rfl) ?_); (repeat (go_big_quiet_step (fail))); refine wpQuiet_nil ?_; intro _ hw'; obtain ⟨nq, hw''⟩ := hw'; subst hw''))
        go_ret2
        rw [hf.out, HN2.out]
        exact ⟨A', c', rfl, own_mono (own_below HOWN.out (by repeat (first | exact Below.refl _ _ | refine bl_tr ?_ _ | refine bl_al ?_ _ | refine bl_dr ?_ | refine bl_up ?_ _ | refine Below.drew ?_ | refine bl_alloc ?_ _ | refine Below.setCell ?_ (by first | (simp; done) | (simp; omega)) _))) HU.out.below.size, HU.out.tr (by repeat (first | exact Below.refl _ _ | refine bl_tr ?_ _ | refine bl_al ?_ _ | refine bl_dr ?_ | refine bl_up ?_ _ | refine Below.drew ?_ | refine bl_alloc ?_ _ | refine Below.setCell ?_ (by first | (simp; done) | (simp; omega)) _))⟩
  · have hf := Lib.hid (naR_no h1)
    have z := code_ne h1
    go_enter Tryd.func40, Tryd.ntmps40
    go_wp2_with fail
    refine (codeS_no s _ hs h1).mono ?_
    rintro e V ⟨p, rfl, hup⟩
    have HU := Lib.hid hup
    clear hup
    go_wp2_with (first | ((with_reducible refine wp_region_up (by kernel_rfl) (by kernel_rfl) ?_); (repeat (go_big_quiet_step (fail))); refine wpQuiet_nil ?_; intro _ hw'; obtain ⟨nq, hw''⟩ := hw'; subst hw''))
    go_ret2
    rw [hf.out]
    exact ⟨none, 0, rfl, ⟨rfl, .inl ⟨rfl, rfl⟩⟩, HU.out.tr (by repeat (first | exact Below.refl _ _ | refine bl_tr ?_ _ | refine bl_al ?_ _ | refine bl_dr ?_ | refine bl_up ?_ _ | refine Below.drew ?_ | refine bl_alloc ?_ _ | refine Below.setCell ?_ (by first | (simp; done) | (simp; omega)) _))⟩
end Go.Proofs.YtkjomkiajdjhpaaDoor

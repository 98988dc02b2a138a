/-
  The worst price and the next test: the program's planner, which remembers. The bounds stand at each.
-/
import Derived.Test.YtfggbcmpgkhlaaaTest4
import Derived.Test.YtfggbcmpgkhlaaaMemo
namespace Go.Proofs.Ytfggbcmpgkhlaaa
open Go.RowKit
theorem zeroInt (w : World) : (zeroValue 2).run Try.prog w = .ok (.int .i64 0) w := by kernel_rfl
/-- the planner lies in block p, its map in block m -/
structure Plan (w : World) (p m : Nat) (A B : Option Addr) (c d : Nat) (l : List Defect) (ps : List Int) (N : Nat) : Prop where
  box : Blk w p 88 #[.slice A l.length c, .slice B ps.length d, .map (some m)]
  memo : MemoAt w Try.prog 9 2 m N (fun s => (wst l ps s).1)
  list : Rds w 3 A l.length (dfcs l)
  prices : Rds w 1 B ps.length (ics ps)
  pm : p ≠ m
  am : 0 < l.length * 3 → ∀ b off, A = some ⟨b, off, none⟩ → b ≠ m
  bm : 0 < ps.length * 1 → ∀ b off, B = some ⟨b, off, none⟩ → b ≠ m
section
variable {w w' : World} {p m : Nat} {A B : Option Addr} {c d : Nat} {l : List Defect} {ps : List Int} {N : Nat}
theorem Plan.below (h : Plan w p m A B c d l ps N) (hb : Below w.heap.size w w') : Plan w' p m A B c d l ps N :=
  ⟨(hb.block p h.box.lt).trans h.box, h.memo.below hb, h.list.below hb, h.prices.below hb, h.pm, h.am, h.bm⟩
theorem Plan.up (h : Plan w p m A B c d l ps N) (g : Up w) : Plan (Go.Proofs.Ytfggbcmpgkhlaaa.up w g) p m A B c d l ps N := h.below g.below
theorem Plan.put (h : Plan w p m A B c d l ps N) {N' : Nat} (hg : w.grownBy w' (some m)) (hm : MemoAt w' Try.prog 9 2 m N' (fun s => (wst l ps s).1)) : Plan w' p m A B c d l ps N' :=
  ⟨h.box.grown hg (fun e => h.pm (by injection e)), hm, h.list.grown hg (fun hn b off e e2 => h.am hn b off e (by injection e2)), h.prices.grown hg (fun hn b off e e2 => h.bm hn b off e (by injection e2)), h.pm, h.am, h.bm⟩
theorem Plan.mono (h : Plan w p m A B c d l ps N) {N' : Nat} (hn : N ≤ N') : Plan w p m A B c d l ps N' := ⟨h.box, h.memo.mono hn, h.list, h.prices, h.pm, h.am, h.bm⟩
theorem Plan.c0 (h : Plan w p m A B c d l ps N) : w.cell? ⟨p, 0, none⟩ = some (.slice A l.length c) := by rw [h.box.cell]; rfl
theorem Plan.c1 (h : Plan w p m A B c d l ps N) : w.cell? ⟨p, 1, none⟩ = some (.slice B ps.length d) := by rw [h.box.cell]; rfl
theorem Plan.c2 (h : Plan w p m A B c d l ps N) : w.cell? ⟨p, 2, none⟩ = some (.map (some m)) := by rw [h.box.cell]; rfl
theorem Plan.cells {b off t : Nat} (h : Plan w p m A (some ⟨b, off, none⟩) c d l ps N) (ht : t < ps.length) : w.cell? ⟨p, 1, none⟩ = some (.slice (some ⟨b, off, none⟩) ps.length d) ∧ w.cell? ⟨b, off + t, none⟩ = some (i64 (num ps t)) := by
  refine ⟨h.c1, ?_⟩
  obtain ⟨b', off', e, _, hc⟩ := num_at h.prices ht
  injection e with e
  injection e with e1 e2
  subst e1 e2
  exact hc t ht
end
def cnt : Nat → Nat
  | 0 => 0
  | f + 1 => 6 * (2 * cnt f) + 1
def priceOk (p m : Nat) (A B : Option Addr) (c d : Nat) (l : List Defect) (ps : List Int) (f : Nat) : Prop :=
  ∀ (s : ByteArray) (w : World) (N : Nat), holes s = f → s.size = ps.length → Plan w p m A B c d l ps N → N + cnt f ≤ 1000000000 →
    Calls Try.prog 46 #[.pointer (some ⟨p, 0, none⟩), .string s] w fun e w' => e = .returned (i64 (wst l ps s).1) ∧ Plan w' p m A B c d l ps (N + cnt f) ∧ w.grownBy w' (some m)
theorem grown_drew (w : World) (row : Option Nat) : w.grownBy w.drew row := ⟨rfl, rfl, rfl, Nat.le_refl _, fun _ _ _ => rfl⟩
def bt (x : Int) : UInt8 := UInt8.ofNat x.toNat
theorem bt48 : bt 48 = 48 := rfl
theorem bt49 : bt 49 = 49 := rfl
theorem answeredB (s : ByteArray) (t : Nat) (x : Int) (w : World) (ht : t < s.size) (hx : 0 ≤ x ∧ x < 256) : Calls Try.prog 44 #[.string s, i64 t, .int .u8 x] w fun e w' => e = .returned (.string (put s t (bt x))) ∧ UpOf w w' := by
  have := answered_any s t (bt x) w ht
  rwa [show ((bt x).toNat : Int) = x by simp [bt]; omega] at this
set_option maxRecDepth 10000 in
set_option maxHeartbeats 4000000 in
theorem through_any {p m : Nat} {A B : Option Addr} {c d : Nat} {l : List Defect} {ps : List Int} (hv : vDefects l ps = true) {f : Nat} (ih : priceOk p m A B c d l ps f) (s : ByteArray) (t : Nat) (w : World) (N : Nat) (hf : holes s = f + 1) (hs : s.size = ps.length) (ht : t < ps.length) (h63 : (byteAt s t).toNat = 63)
    (h : Plan w p m A B c d l ps N) (hN : N + 2 * cnt f ≤ 1000000000) :
    Calls Try.prog 59 #[.pointer (some ⟨p, 0, none⟩), .string s, i64 t] w fun e w' => e = .returned (i64 (thr l ps s t)) ∧ Plan w' p m A B c d l ps (N + 2 * cnt f) ∧ w.grownBy w' (some m) := by
  obtain ⟨hl10, hp6, hpb, _⟩ := vDefects_inv hv
  obtain ⟨n1, n2⟩ := hpb t ht
  obtain ⟨m1, m2⟩ := wst_le (s := put s t (bt 48)) hv (by rw [put_size, hs])
  obtain ⟨m3, m4⟩ := wst_le (s := put s t (bt 49)) hv (by rw [put_size, hs])
  have he48 := Lib.hid (show holes (put s t (bt 48)) = f by rw [bt48]; have := holes_put (c := 48) (show t < s.size by omega) h63 (by decide); omega)
  have he49 := Lib.hid (show holes (put s t (bt 49)) = f by rw [bt49]; have := holes_put (c := 49) (show t < s.size by omega) h63 (by decide); omega)
  have hTm : thr l ps s t = num ps t + max (wst l ps (put s t (bt 48))).1 (wst l ps (put s t (bt 49))).1 := rfl
  have hTa : Hid ((wst l ps (put s t (bt 48))).1 < (wst l ps (put s t (bt 49))).1 → IntKind.i64.wrap (num ps t + (wst l ps (put s t (bt 49))).1) = thr l ps s t) := fun h => by
    rw [IntKind.wrap_i64, hTm]; omega
  have hTb : Hid (¬ (wst l ps (put s t (bt 48))).1 < (wst l ps (put s t (bt 49))).1 → IntKind.i64.wrap (num ps t + (wst l ps (put s t (bt 48))).1) = thr l ps s t) := fun h => by
    rw [IntKind.wrap_i64, hTm]; omega
  clear hTm
  obtain ⟨b, off, rfl, hb, hc⟩ := num_at h.prices ht
  have hts : t < s.size := by omega
  replace h : Plan w.drew p m A (some ⟨b, off, none⟩) c d l ps N := h.below ((Below.refl _ _).drew)
  clear hc hv hpb h63 hf
  go_enter Try.func59, Try.ntmps59
  go_wp2_with fail
  go_region_held3 (fun w' => w'.cell? ⟨p, 1, none⟩ = some (.slice (some ⟨b, off, none⟩) ps.length d) ∧ w'.cell? ⟨b, off + t, none⟩ = some (i64 (num ps t))) (first | exact Plan.cells (by assumption) ht | exact Plan.cells (Plan.up (by assumption) _) ht) (first | (go_at_call 44; refine (answeredB s t _ _ hts (by omega)).mono ?_; rintro e w' ⟨rfl, g, rfl⟩) | (go_at_call 46; refine (ih _ _ _ (by first | exact he48.out | exact he49.out) (by rw [put_size]; exact hs) (Plan.up (by assumption) _) (by omega)).mono ?_; rintro e w' ⟨rfl, hP2, hg2⟩))
  go_wp2_with fail
  all_goals go_ret
  all_goals refine ⟨?_, ?_, ?_⟩
  all_goals first
    | exact ret_int (hTa.out (by assumption))
    | exact ret_int (hTb.out (by assumption))
    | (have h3 : Plan w' p m A (some ⟨b, off, none⟩) c d l ps (N + cnt f + cnt f) := by assumption
       exact h3.mono (by omega))
    | exact (by repeat (first | exact grown_refl _ _ | exact grown_drew _ _ | refine gr_up ?_ _ | refine gr_by ?_ (by assumption)))
/-- the least price so far, -1 where there is none -/
def lst (r : Int × Int) : Int := if r.2 < 0 then -1 else r.1
theorem lst_fin {l : List Defect} {ps : List Int} {s : ByteArray} (hv : vDefects l ps = true) (hs : s.size = ps.length) (h : foundB l s = false) : lst (scan (thr l ps s) s ps.length) = (wst l ps s).1 := by
  obtain ⟨t, _, e, _⟩ := wst_spec hv hs h
  rw [wst_eq hv hs h] at e ⊢
  rw [e, lst, if_neg (by show ¬ (t : Int) < 0; omega)]
theorem lst_bd {l : List Defect} {ps : List Int} {s : ByteArray} (hv : vDefects l ps = true) (hs : s.size = ps.length) {k : Nat} (hk : k ≤ ps.length) : -1 ≤ lst (scan (thr l ps s) s k) ∧ lst (scan (thr l ps s) s k) ≤ 700 ∧ (lst (scan (thr l ps s) s k) < 0 ↔ (scan (thr l ps s) s k).2 < 0) ∧ (0 ≤ (scan (thr l ps s) s k).2 → lst (scan (thr l ps s) s k) = (scan (thr l ps s) s k).1) := by
  rcases scan_spec (thr l ps s) s k with ⟨e, _⟩ | ⟨t, ht, e, _⟩
  · rw [e, lst]; simp
  · have := thr_le (t := t) hv hs (by omega)
    rw [e, lst, if_neg (by show ¬ (t : Int) < 0; omega)]
    refine ⟨by show -1 ≤ thr l ps s t; omega, this.2, ⟨fun h => ?_, fun h => ?_⟩, fun _ => rfl⟩
    · exfalso; have h' : thr l ps s t < 0 := h; omega
    · exfalso; have h' : (t : Int) < 0 := h; omega
theorem lst_of {c t : Int} (h : 0 ≤ t) : lst (c, t) = c := by rw [lst, if_neg (by show ¬ t < 0; omega)]
def priceP (p m : Nat) (A B : Option Addr) (c d : Nat) (l : List Defect) (ps : List Int) : Prop := ∀ f, priceOk p m A B c d l ps f
set_option maxRecDepth 10000 in
set_option maxHeartbeats 4000000 in
theorem price_all (p m : Nat) (A B : Option Addr) (c d : Nat) (l : List Defect) (ps : List Int) (hv : vDefects l ps = true) : ∀ f, priceOk p m A B c d l ps f := by
  obtain ⟨hl10, hp6, hpb, _⟩ := vDefects_inv hv
  intro f
  induction f with
  | zero =>
    intro s w N hf hs hP hN
    have b1 := found_full hv hs hf
    have hw := Lib.hid (wst_found (ps := ps) b1)
    have hz := vDefects_sizes hv hs
    have c0 := hP.c0
    have hpw := hP.box.lt
    have HL := hP.list
    have HP := Lib.hid hP
    clear hP
    go_enter Try.func46, Try.ntmps46
    go_wp2_with (first | (go_at_call 42; refine (ret_as (isFound_any _ _ _ _ _ (HL.below (by repeat (first | exact Below.refl _ _ | refine bl_tr ?_ _ | refine bl_al ?_ _ | refine bl_dr ?_ | refine bl_up ?_ _ | refine Below.drew ?_ | refine bl_alloc ?_ _ | refine Below.setCell ?_ (by first | (simp; done) | (simp; omega)) _))) (by omega) (by omega) hz) b1).mono ?_; rintro e w' ⟨rfl, g, rfl⟩) | ((with_reducible refine wp_region_up (by kernel_rfl) (by kernel_rfl) ?_); (repeat (go_big_quiet_step (first | (go_at_call 42; first | exact upq_tr (ret_as (isFound_any _ _ _ _ _ (HL.below (by repeat (first | exact Below.refl _ _ | refine bl_tr ?_ _ | refine bl_al ?_ _ | refine bl_dr ?_ | refine bl_up ?_ _ | refine Below.drew ?_ | refine bl_alloc ?_ _ | refine Below.setCell ?_ (by first | (simp; done) | (simp; omega)) _))) (by omega) (by omega) hz) b1) | exact upq (ret_as (isFound_any _ _ _ _ _ (HL.below (by repeat (first | exact Below.refl _ _ | refine bl_tr ?_ _ | refine bl_al ?_ _ | refine bl_dr ?_ | refine bl_up ?_ _ | refine Below.drew ?_ | refine bl_alloc ?_ _ | refine Below.setCell ?_ (by first | (simp; done) | (simp; omega)) _))) (by omega) (by omega) hz) b1))))); refine wpQuiet_nil ?_; intro _ hw'; obtain ⟨nq, hw''⟩ := hw'; subst hw''))
    go_ret
    rw [hw.out]
    exact ⟨rfl, HP.out.up _, grown_up _ _⟩
  | succ f ih =>
    intro s w N hf hs hP hN
    have hz := vDefects_sizes hv hs
    have hpw := hP.box.lt
    have c0 := hP.c0
    have c2 := hP.c2
    have HL := hP.list
    have HP := Lib.hid hP
    have HN := Lib.hid hN
    have hcn := Lib.hid (show cnt (f + 1) = 6 * (2 * cnt f) + 1 from rfl)
    cases b1 : foundB l s
    · have hw := Lib.hid (wst_eq hv hs b1)
      obtain ⟨hit, x, hx, hlook⟩ := hP.memo.look (t := 86) Try.underlying86 Try.underlying9 Try.underlying2 zeroInt s (by unfold maxLen; omega)
      clear hP hN
      cases hit with
      | true =>
        obtain rfl := hx rfl
        go_enter Try.func46, Try.ntmps46
        go_wp2_with (first | (go_at_call 42; refine (ret_as (isFound_any _ _ _ _ _ (HL.below (by repeat (first | exact Below.refl _ _ | refine bl_tr ?_ _ | refine bl_al ?_ _ | refine bl_dr ?_ | refine bl_up ?_ _ | refine Below.drew ?_ | refine bl_alloc ?_ _ | refine Below.setCell ?_ (by first | (simp; done) | (simp; omega)) _))) (by omega) (by omega) hz) b1).mono ?_; rintro e w' ⟨rfl, g, rfl⟩) | ((with_reducible refine wp_region_up (by kernel_rfl) (by kernel_rfl) ?_); (repeat (go_big_quiet_step (first | (go_at_call 42; first | exact upq_tr (ret_as (isFound_any _ _ _ _ _ (HL.below (by repeat (first | exact Below.refl _ _ | refine bl_tr ?_ _ | refine bl_al ?_ _ | refine bl_dr ?_ | refine bl_up ?_ _ | refine Below.drew ?_ | refine bl_alloc ?_ _ | refine Below.setCell ?_ (by first | (simp; done) | (simp; omega)) _))) (by omega) (by omega) hz) b1) | exact upq (ret_as (isFound_any _ _ _ _ _ (HL.below (by repeat (first | exact Below.refl _ _ | refine bl_tr ?_ _ | refine bl_al ?_ _ | refine bl_dr ?_ | refine bl_up ?_ _ | refine Below.drew ?_ | refine bl_alloc ?_ _ | refine Below.setCell ?_ (by first | (simp; done) | (simp; omega)) _))) (by omega) (by omega) hz) b1))))); refine wpQuiet_nil ?_; intro _ hw'; obtain ⟨nq, hw''⟩ := hw'; subst hw''))
        go_ret
        exact ⟨rfl, (HP.out.up _).mono (by omega), grown_up _ _⟩
      | false =>
        go_enter Try.func46, Try.ntmps46
        go_wp2_with (first | (go_at_call 42; refine (ret_as (isFound_any _ _ _ _ _ (HL.below (by repeat (first | exact Below.refl _ _ | refine bl_tr ?_ _ | refine bl_al ?_ _ | refine bl_dr ?_ | refine bl_up ?_ _ | refine Below.drew ?_ | refine bl_alloc ?_ _ | refine Below.setCell ?_ (by first | (simp; done) | (simp; omega)) _))) (by omega) (by omega) hz) b1).mono ?_; rintro e w' ⟨rfl, g, rfl⟩) | ((with_reducible refine wp_region_up (by kernel_rfl) (by kernel_rfl) ?_); (repeat (go_big_quiet_step (first | (go_at_call 42; first | exact upq_tr (ret_as (isFound_any _ _ _ _ _ (HL.below (by repeat (first | exact Below.refl _ _ | refine bl_tr ?_ _ | refine bl_al ?_ _ | refine bl_dr ?_ | refine bl_up ?_ _ | refine Below.drew ?_ | refine bl_alloc ?_ _ | refine Below.setCell ?_ (by first | (simp; done) | (simp; omega)) _))) (by omega) (by omega) hz) b1) | exact upq (ret_as (isFound_any _ _ _ _ _ (HL.below (by repeat (first | exact Below.refl _ _ | refine bl_tr ?_ _ | refine bl_al ?_ _ | refine bl_dr ?_ | refine bl_up ?_ _ | refine Below.drew ?_ | refine bl_alloc ?_ _ | refine Below.setCell ?_ (by first | (simp; done) | (simp; omega)) _))) (by omega) (by omega) hz) b1))))); refine wpQuiet_nil ?_; intro _ hw'; obtain ⟨nq, hw''⟩ := hw'; subst hw''))
        have hfin := Lib.hid (lst_fin hv hs b1)
        have HF := Lib.hid b1
        have HC := Lib.hid (show Plan (up w g) p m A B c d l ps N from HP.out.up g)
        have HG0 := Lib.hid (grown_up (w := w) g (some m))
        have hV := Lib.hid hv
        have hwl := wst_le hv hs
        clear hw b1 c0 c2 HL HP hlook hv hx
        revert HC HG0
        generalize up w g = W
        intro HC HG0
        go_loopw [7, 29] (fun least i wr => ∃ k : Nat, k ≤ ps.length ∧ i = i64 k ∧ least = i64 (lst (scan (thr l ps s) s k)) ∧ ∃ n : Nat, n ≤ 6 ∧ Hid (n ≤ k ∧ Plan wr p m A B c d l ps (N + n * (2 * cnt f)) ∧ w.grownBy wr (some m))) (fun _ i _ => ps.length - (intOf i).toNat)
        case atStart => exact ⟨0, by omega, rfl, rfl, 0, by omega, by omega, by simpa using HC.out, HG0.out⟩
        case round =>
          obtain ⟨k, hk, rfl, rfl, n, hn6, hrest⟩ := hrel
          by_cases hlt : k < ps.length
          · have hks : k < s.size := by omega
            cases q1 : ((s[k].toNat : Int) != 63)
            · have h63 := Lib.hid (open63 hks q1)
              have hb1 := Lib.hid (show n * (2 * cnt f) ≤ 5 * (2 * cnt f) from Nat.mul_le_mul_right _ (by have := hrest.out.1; omega))
              have hb2 := Lib.hid (show (n + 1) * (2 * cnt f) = n * (2 * cnt f) + 2 * cnt f from Nat.succ_mul _ _)
              obtain ⟨t1, t2⟩ := thr_le (s := s) hV.out hs hlt
              have hsp := Lib.hid (lst_bd hV.out hs (k := k) (by omega))
              obtain ⟨hnk, hP, hG⟩ := hrest.out
              have hbd : N + n * (2 * cnt f) + 2 * cnt f ≤ 1000000000 := by have := HN.out; have := hcn.out; have := hb1.out; omega
              have HP1 := Lib.hid hP
              have HG1 := Lib.hid hG
              clear hP hG hrest
              by_cases q2 : (scan (thr l ps s) s k).2 < 0
              · have hN := Lib.hid (scan_take h63.out (.inl q2))
                have e1 : lst (scan (thr l ps s) s k) < 0 := hsp.out.2.2.1.2 q2
                go_wp2_with (go_at_call 59; refine (through_any hV.out ih s k _ _ hf hs hlt h63.out HP1.out hbd).mono ?_; rintro e w' ⟨rfl, hP2, hg2⟩)
                go_roundw
                case rel => exact ⟨k + 1, by omega, by go_num, by rw [hN.out]; try exact congrArg i64 (Eq.symm (lst_of (by omega))), n + 1, by omega, by omega, by rw [hb2.out, ← Nat.add_assoc]; exact hP2, gr_by HG1.out hg2⟩
                case measure => (simp [intOf]; try omega)
              · have e1 : 0 ≤ lst (scan (thr l ps s) s k) := by have := hsp.out.2.2.1; omega
                have e2 := Lib.hid (hsp.out.2.2.2 (by omega))
                by_cases q3 : thr l ps s k < lst (scan (thr l ps s) s k)
                · have hN := Lib.hid (scan_take h63.out (.inr (by rw [← e2.out]; exact q3)))
                  go_wp2_with (go_at_call 59; refine (through_any hV.out ih s k _ _ hf hs hlt h63.out HP1.out hbd).mono ?_; rintro e w' ⟨rfl, hP2, hg2⟩)
                  go_roundw
                  case rel => exact ⟨k + 1, by omega, by go_num, by rw [hN.out]; try exact congrArg i64 (Eq.symm (lst_of (by omega))), n + 1, by omega, by omega, by rw [hb2.out, ← Nat.add_assoc]; exact hP2, gr_by HG1.out hg2⟩
                  case measure => (simp [intOf]; try omega)
                · have hN := Lib.hid (scan_keep (cost := thr l ps s) (s := s) (k := k) (by rw [← e2.out]; intro e; rcases e with e | e; exact q2 e; exact q3 e))
                  go_wp2_with (go_at_call 59; refine (through_any hV.out ih s k _ _ hf hs hlt h63.out HP1.out hbd).mono ?_; rintro e w' ⟨rfl, hP2, hg2⟩)
                  go_roundw
                  case rel => exact ⟨k + 1, by omega, by go_num, by rw [hN.out]; try exact congrArg i64 (Eq.symm (rfl)), n + 1, by omega, by omega, by rw [hb2.out, ← Nat.add_assoc]; exact hP2, gr_by HG1.out hg2⟩
                  case measure => (simp [intOf]; try omega)
            · have hN := Lib.hid (scan_skip (cost := thr l ps s) (shut63 hks q1))
              go_wp2_with (first | ((with_reducible refine wp_region_up (by kernel_rfl) (by kernel_rfl) ?_); (repeat (go_big_quiet_step (fail))); refine wpQuiet_nil ?_; intro _ hw'; obtain ⟨nq, hw''⟩ := hw'; subst hw''))
              go_roundw
              case rel => exact ⟨k + 1, by omega, by go_num, by rw [hN.out], n, hn6, by have := hrest.out.1; omega, hrest.out.2⟩
              case measure => (simp [intOf]; try omega)
          · obtain rfl : k = ps.length := by omega
            obtain ⟨hnk, hP, hG⟩ := hrest.out
            rw [hfin.out]
            have hb1 := Lib.hid (show n * (2 * cnt f) ≤ 6 * (2 * cnt f) from Nat.mul_le_mul_right _ hn6)
            have c2 := hP.c2
            have hpr := hP.box.lt
            have HP1 := Lib.hid hP
            have HG1 := Lib.hid hG
            have hbd := Lib.hid (show N + n * (2 * cnt f) ≤ 1000000000 by have := HN.out; have := hcn.out; have := hb1.out; omega)
            have hwf : (Lit.int .i64 (wst l ps s).1).wf = true := by
              simp only [Lit.wf, Bool.and_eq_true, decide_eq_true_eq]
              have e1 : IntKind.i64.min = -9223372036854775808 := by decide
              have e2 : IntKind.i64.max = 9223372036854775807 := by decide
              omega
            clear hP hG hrest
            go_wp2_with (at_mapUpdate; refine wpl_memoPut _ rfl _ _ _ 86 rfl 9 2 Try.underlying86 Try.underlying9 Try.underlying2 m _ (fun s => (wst l ps s).1) rfl (HP1.out.memo.below (by repeat (first | exact Below.refl _ _ | refine bl_tr ?_ _ | refine bl_al ?_ _ | refine bl_dr ?_ | refine bl_up ?_ _ | refine Below.drew ?_ | refine bl_alloc ?_ _ | refine Below.setCell ?_ (by first | (simp; done) | (simp; omega)) _))) (by unfold maxLen; have := hbd.out; omega) s (by unfold maxLen; omega) rfl rfl hwf ?_; intro w1 hm1 hg1)
            go_ret
            exact ⟨rfl, (HP1.out.put hg1 hm1).mono (by have := hcn.out; have := hb1.out; omega), grown_trans HG1.out hg1⟩
    · have hw := Lib.hid (wst_found (ps := ps) b1)
      clear hP hN
      go_enter Try.func46, Try.ntmps46
      go_wp2_with (first | (go_at_call 42; refine (ret_as (isFound_any _ _ _ _ _ (HL.below (by repeat (first | exact Below.refl _ _ | refine bl_tr ?_ _ | refine bl_al ?_ _ | refine bl_dr ?_ | refine bl_up ?_ _ | refine Below.drew ?_ | refine bl_alloc ?_ _ | refine Below.setCell ?_ (by first | (simp; done) | (simp; omega)) _))) (by omega) (by omega) hz) b1).mono ?_; rintro e w' ⟨rfl, g, rfl⟩) | ((with_reducible refine wp_region_up (by kernel_rfl) (by kernel_rfl) ?_); (repeat (go_big_quiet_step (first | (go_at_call 42; first | exact upq_tr (ret_as (isFound_any _ _ _ _ _ (HL.below (by repeat (first | exact Below.refl _ _ | refine bl_tr ?_ _ | refine bl_al ?_ _ | refine bl_dr ?_ | refine bl_up ?_ _ | refine Below.drew ?_ | refine bl_alloc ?_ _ | refine Below.setCell ?_ (by first | (simp; done) | (simp; omega)) _))) (by omega) (by omega) hz) b1) | exact upq (ret_as (isFound_any _ _ _ _ _ (HL.below (by repeat (first | exact Below.refl _ _ | refine bl_tr ?_ _ | refine bl_al ?_ _ | refine bl_dr ?_ | refine bl_up ?_ _ | refine Below.drew ?_ | refine bl_alloc ?_ _ | refine Below.setCell ?_ (by first | (simp; done) | (simp; omega)) _))) (by omega) (by omega) hz) b1))))); refine wpQuiet_nil ?_; intro _ hw'; obtain ⟨nq, hw''⟩ := hw'; subst hw''))
      go_ret
      rw [hw.out]
      exact ⟨rfl, (HP.out.up _).mono (by omega), grown_up _ _⟩
end Go.Proofs.Ytfggbcmpgkhlaaa

/-
  The reference's drawing of a ware: whatever it draws, its list of breaks is short. The bounds stand at it.
-/
import Derived.Test.YtiibpldfnnhhlaaDoorSrcK
import Derived.Test.YtiibpldfnnhhlaaDoorGot2
import Derived.Deep.DeepMust
namespace Go.Proofs.YtiibpldfnnhhlaaDoor
open Go.RowKit
/-- the state while a ware is drawn: the result's cell q4, the ware's box q5, the source at b -/
structure NB (w V : World) (b : Nat) (A : Option Addr) (n c q4 q5 : Nat) (nm : ByteArray) (Ab : Option Addr) (cb : Nat) (l : List Brk) (k : Nat) : Prop where
  r4 : Blk V q4 29 #[.string ⟨#[]⟩, .slice none 0 0]
  r5 : Blk V q5 29 #[.string nm, .slice Ab l.length cb]
  row : V.ownsRow w.heap.size 69 2 (.slice Ab l.length cb) l.length (bkcs l)
  src : SrcAt V b A n c k
  byt : Byt V b A n
  gr : w.grownBy V (some b)
  b4 : w.heap.size ≤ q4
  b5 : w.heap.size ≤ q5
  ne : q4 ≠ q5
  f4 : (Value.slice Ab l.length cb).ownBlock ≠ some q4
  f5 : (Value.slice Ab l.length cb).ownBlock ≠ some q5
  lt : b < w.heap.size
section
variable {w V V' : World} {b : Nat} {A Ab : Option Addr} {n c q4 q5 k k' cb : Nat} {nm : ByteArray} {l : List Brk}
theorem NB.bel (h : NB w V b A n c q4 q5 nm Ab cb l k) (hb : Below V.heap.size V V') : NB w V' b A n c q4 q5 nm Ab cb l k :=
  ⟨h.r4.up ⟨V', hb⟩, h.r5.up ⟨V', hb⟩, own_below h.row hb, h.src.bel hb, h.byt.bel hb, gr_up h.gr ⟨V', hb⟩, h.b4, h.b5, h.ne, h.f4, h.f5, h.lt⟩
theorem NB.call (h : NB w V b A n c q4 q5 nm Ab cb l k) (hg : V.grownBy V' (some b)) (hs : SrcAt V' b A n c k') : NB w V' b A n c q4 q5 nm Ab cb l k' := by
  have h1 := h.b4
  have h2 := h.b5
  have h3 := h.lt
  exact ⟨h.r4.grown hg (fun e => by injection e with e; omega), h.r5.grown hg (fun e => by injection e with e; omega), own_keepK h.row hg (fun x e e2 => by injection e with e; have := (h.row.lt x e2).1; omega), hs, h.byt.grown hg, grown_trans h.gr hg, h1, h2, h.ne, h.f4, h.f5, h3⟩
theorem NB.raw (h : NB w V b A n c q4 q5 nm Ab cb l k) : q5 < V.heap.size ∧ (V.cell? ⟨q5, 0, none⟩ = some (.string nm) ∧ V.cell? ⟨q5, 1, none⟩ = some (.slice Ab l.length cb)) ∧ (V.frozen? ⟨q5, 0, none⟩ = false ∧ V.frozen? ⟨q5, 1, none⟩ = false) :=
  ⟨h.r5.lt, ⟨h.r5.cell 0, h.r5.cell 1⟩, h.r5.free 0, h.r5.free 1⟩
theorem NB.app (h : NB w V b A n c q4 q5 nm Ab cb l k) {g cap : Nat} {x : Brk} (hg : V.grownBy V' (Value.slice Ab l.length cb).ownBlock) (o : V'.ownsRow w.heap.size 69 2 (.slice (some ⟨g, 0, none⟩) (l.length + 1) cap) (l.length + 1) (bkcs l ++ [i64 x.fr, i64 x.pr])) (hat : (Value.slice Ab l.length cb).ownBlock = some g ∨ g = V.heap.size) :
    NB w (V'.setCell ⟨q5, 1, none⟩ (.slice (some ⟨g, 0, none⟩) (l.length + 1) cap)) b A n c q4 q5 nm (some ⟨g, 0, none⟩) cap (l ++ [x]) k := by
  have hne4 : g ≠ q4 := by
    rcases hat with e | e
    · exact fun e9 => h.f4 (by rw [e, e9])
    · have := h.r4.lt; omega
  have hne5 : g ≠ q5 := by
    rcases hat with e | e
    · exact fun e9 => h.f5 (by rw [e, e9])
    · have := h.r5.lt; omega
  have h2 := h.b5
  have h3 := h.lt
  have r4 := h.r4.grown hg (fun e => h.f4 e.symm)
  have r5 := h.r5.grown hg (fun e => h.f5 e.symm)
  have hlb : ∀ x, (Value.slice Ab l.length cb).ownBlock = some x → w.heap.size ≤ x := fun x e => (h.row.lt x e).1
  have s2 := h.src.kept hg (fun e => by have := hlb b e.symm; omega)
  have y2 := h.byt.kept hg (fun j hj => by have := hlb j hj; omega)
  have gr2 : w.grownBy V' (some b) := gr_far h.gr hg (fun j hj => hlb j hj)
  have hl : (l ++ [x]).length = l.length + 1 := by simp
  have gp := grown_put V' q5 1 (.slice (some ⟨g, 0, none⟩) (l.length + 1) cap)
  refine ⟨r4.far h.ne _, by rw [hl]; exact r5.put 1 _, ?_, s2.kept gp (fun e => by injection e with e; omega), y2.kept gp (fun j hj => by injection hj with hj; omega), gr_new gr2 h2 _, h.b4, h2, h.ne, fun e => hne4 (by injection e), fun e => hne5 (by injection e), h3⟩
  rw [hl, show bkcs (l ++ [x]) = bkcs l ++ [i64 x.fr, i64 x.pr] by simp [bkcs, Brk.cells]]
  exact own_keepK o gp (fun y e e2 => by injection e with e; injection e2 with e2; have e2 : g = y := e2; omega)
end
/-- the breaks so far are in order, and what comes next fits -/
structure WV (l : List Brk) (fr pr : Int) : Prop where
  ok : ∀ i, i < l.length → brkAt ⟨⟨#[]⟩, l⟩ i = true
  zero : l.length = 0 → fr = 1
  last : 0 < l.length → (brk ⟨⟨#[]⟩, l⟩ (l.length - 1)).fr < fr ∧ pr < (brk ⟨⟨#[]⟩, l⟩ (l.length - 1)).pr
theorem brk_snoc_lt {l : List Brk} {x : Brk} {i : Nat} (h : i < l.length) : brk ⟨⟨#[]⟩, l ++ [x]⟩ i = brk ⟨⟨#[]⟩, l⟩ i := by simp [brk, List.getElem?_append_left h]
theorem brk_snoc_eq (l : List Brk) (x : Brk) : brk ⟨⟨#[]⟩, l ++ [x]⟩ l.length = x := by simp [brk]
theorem WV.nil (p : Int) : WV [] 1 p := ⟨fun i hi => by simp at hi, fun _ => rfl, fun h => by simp at h⟩
theorem WV.step {l : List Brk} {fr pr a b : Int} (h : WV l fr pr) (h1 : vBrk ⟨fr, pr⟩ = true) (ha : 0 ≤ a) (hb : 0 ≤ b) : WV (l ++ [⟨fr, pr⟩]) (fr + (1 + a)) (pr - (1 + b)) := by
  refine ⟨fun i hi => ?_, fun h0 => by simp at h0, fun _ => ?_⟩
  · rw [List.length_append, List.length_singleton] at hi
    by_cases hl : i < l.length
    · have := h.ok i hl
      unfold brkAt at this ⊢
      rw [brk_snoc_lt hl]
      by_cases h0 : i = 0
      · rw [if_pos h0] at this ⊢; exact this
      · rw [brk_snoc_lt (i := i - 1) (by omega)]; exact this
    · obtain rfl : i = l.length := by omega
      unfold brkAt
      rw [brk_snoc_eq, h1, Bool.true_and]
      by_cases h0 : l.length = 0
      · rw [if_pos h0]; exact decide_eq_true (h.zero h0)
      · rw [if_neg h0, brk_snoc_lt (i := l.length - 1) (by omega)]; exact decide_eq_true (h.last (by omega))
  · rw [List.length_append, List.length_singleton, Nat.add_sub_cancel, brk_snoc_eq]
    exact ⟨by show fr < fr + (1 + a); omega, by show pr - (1 + b) < pr; omega⟩
def warePost (b : Nat) (A : Option Addr) (n c k : Nat) (nm : ByteArray) (w : World) (e : Ending) (w' : World) : Prop :=
  ∃ (l : List Brk) (Ab : Option Addr) (cb k' : Nat), e = .returned (.agg #[.string nm, .slice Ab l.length cb]) ∧ l.length ≤ 3 ∧ w'.ownsRow w.heap.size 69 2 (.slice Ab l.length cb) l.length (bkcs l) ∧ k' ≤ k + 16 ∧ SrcAt w' b A n c k' ∧ w.grownBy w' (some b) ∧ 1 ≤ l.length ∧ ∀ i, i < l.length → brkAt ⟨⟨#[]⟩, l⟩ i = true
set_option maxRecDepth 10000 in
set_option maxHeartbeats 4000000 in
theorem drawWare_any (b : Nat) (A : Option Addr) (n c k : Nat) (nm : ByteArray) (w : World) (h : SrcAt w b A n c k) (hb : Byt w b A n) (hk : k ≤ 800000) (hn : n ≤ 1000000) :
    Calls Tryd.prog 74 #[.pointer (some ⟨b, 0, none⟩), .string nm] w (warePost b A n c k nm w) := by
  have hlt := h.lt
  have HS := Lib.hid h
  have HB := Lib.hid hb
  clear h hb
  go_enter Tryd.func74, Tryd.ntmps74
  go_wp2_with fail
  refine cg (R := fun V => NB w V b A n c w.heap.size (w.heap.size + 1 + 1) nm (some ⟨w.heap.size + 1, 0, none⟩) 0 [] k) ?_ (fun V hN => ?_)
  · have e1 : ∀ (u : World) (o : Obj), (u.alloc o).heap.size = u.heap.size + 1 := fun u o => by simp
    refine ⟨((Blk.new w _ _).alloc _).alloc _, ?_, ?_, ((HS.out.alloc _).alloc _).alloc _, ((HB.out.alloc _).alloc _).alloc _, gr_alloc (gr_alloc (gr_alloc (grown_refl w _) _) _) _, Nat.le_refl _, by omega, by omega, ?_, ?_, hlt⟩
    · have := Blk.new ((w.alloc (.cells #[.string ⟨#[]⟩, .slice none 0 0] 29)).alloc (.cells #[] 69)) 29 #[.string nm, .slice (some ⟨w.heap.size + 1, 0, none⟩) 0 0]
      rw [e1, e1] at this
      exact this
    · have := World.ownsRow_lit (base := w.heap.size) (e := 69) (size := 2) (w.alloc (.cells #[.string ⟨#[]⟩, .slice none 0 0] 29)) #[] 0 (by rw [e1]; omega) (by unfold maxLen; omega) rfl
      rw [e1] at this
      exact own_below this (by repeat (first | exact Below.refl _ _ | refine bl_tr ?_ _ | refine bl_al ?_ _ | refine bl_dr ?_ | refine bl_up ?_ _ | refine Below.drew ?_ | refine bl_alloc ?_ _ | refine Below.setCell ?_ (by first | (simp; done) | (simp; omega)) _))
    · intro e; injection e with e; have e : w.heap.size + 1 = w.heap.size := e; omega
    · intro e; injection e with e; have e : w.heap.size + 1 = w.heap.size + 1 + 1 := e; omega
  have HN := Lib.hid hN
  obtain ⟨q4, hq4⟩ : ∃ q, w.heap.size = q := ⟨_, rfl⟩
  clear hN HS HB
  refine (pick_any b A n c k 150 V HN.out.src HN.out.byt (by omega) hn (by omega)).mono ?_
  rintro e V1 ⟨x1, k1, rfl, y0, y1, hk1, hs1, hg1⟩
  have HN1 := Lib.hid (HN.out.call hg1 hs1)
  clear HN hs1 hg1
  go_wp2_with fail
  refine (pick_any b A n c k1 3 V1 HN1.out.src HN1.out.byt (by omega) hn (by omega)).mono ?_
  rintro e V2 ⟨x2, k2, rfl, z0, z1, hk2, hs2, hg2⟩
  have HN2 := Lib.hid (HN1.out.call hg2 hs2)
  clear HN1 hs2 hg2
  obtain ⟨j0, rfl⟩ : ∃ j : Nat, x2 = (j : Int) := ⟨x2.toNat, by omega⟩
  have hj0 : j0 ≤ 2 := by omega
  have hpr : 50 ≤ 50 + x1 ∧ 50 + x1 ≤ 200 := by omega
  clear z1 y1 y0 z0
  go_wp2_with fail
  obtain ⟨q5, hq5⟩ : ∃ q5, q4 + 1 + 1 = q5 := ⟨_, rfl⟩
  have h45 : ¬ q4 = q5 := by omega
  rw [hq4, hq5] at HN2
  rw [hq5]
  have HQ4 := Lib.hid hq4
  clear hq5 hq4
  go_loopw [6, 7, 8] (fun f p kk wr => ∃ (l : List Brk) (Ab : Option Addr) (cb j k' : Nat) (fr pr : Int), kk = i64 j ∧ f = i64 fr ∧ p = i64 pr ∧ (1 ≤ fr ∧ fr ≤ 1 + 9 * (l.length : Int)) ∧ (50 - 40 * (l.length : Int) ≤ pr ∧ pr ≤ 200) ∧ l.length + j ≤ 3 ∧ k' + 4 * j ≤ k + 16 ∧ Hid (WV l fr pr) ∧ (l.length = 0 → 0 < j ∧ 0 < pr) ∧ Hid (NB w wr b A n c q4 q5 nm Ab cb l k')) (fun _ _ kk _ => (intOf kk).toNat)
  case atStart => exact ⟨[], _, _, j0 + 1, k2, 1, 50 + x1, by go_num, rfl, rfl, by simp, by simp; omega, by simp; omega, by omega, WV.nil _, fun _ => ⟨by omega, by omega⟩, HN2.out⟩
  case round =>
    obtain ⟨l, Ab, cb, j, k', fr, pr, rfl, rfl, rfl, ⟨hf0, hf1⟩, ⟨hp0, hp1⟩, hlj, hkj, hWV, hl1, hN⟩ := hrel
    clear HN2
    obtain ⟨q5l, ⟨c0, c1⟩, f0, f1⟩ := hN.out.raw
    have q4l := hN.out.r4.lt
    have q40 := hN.out.r4.cell 0
    have q41 := hN.out.r4.cell 1
    have q4f0 := hN.out.r4.free 0
    have q4f1 := hN.out.r4.free 1
    simp only [List.getElem?_toArray, List.getElem?_cons_zero, List.getElem?_cons_succ] at q40 q41
    by_cases hj : 0 < j ∧ 0 < pr
    · obtain ⟨hj1, hj2⟩ := hj
      have hj3 : (0 : Int) < (j : Int) := by omega
      have hbs : w.heap.size ≤ wr.heap.size := hN.out.gr.size
      clear q40 q41 q4f0 q4f1
      go_wp2_with (at_builtin; go_must (refine wpl_appAt rfl _ _ 27 rfl w.heap.size 69 _ 2 16 el_brk (.slice Ab l.length cb) l.length (bkcs l) rfl (own_below hN.out.row (by repeat (first | exact Below.refl _ _ | refine bl_tr ?_ _ | refine bl_al ?_ _ | refine bl_dr ?_ | refine bl_up ?_ _ | refine Below.drew ?_ | refine bl_alloc ?_ _ | refine Below.setCell ?_ (by first | (simp; done) | (simp; omega)) _))) _ 1 1 [i64 fr, i64 pr] rfl (rds_new _ #[i64 fr, i64 pr] _ 2 1 rfl) (fun u hu => by simp at hu; rcases hu with rfl | rfl <;> rfl) (by omega) (by unfold maxLen; omega) (by omega) (Nat.le_trans hbs (Below.size (B := wr.heap.size) (w := wr) (by repeat (first | exact Below.refl _ _ | refine bl_tr ?_ _ | refine bl_al ?_ _ | refine bl_dr ?_ | refine bl_up ?_ _ | refine Below.drew ?_ | refine bl_alloc ?_ _ | refine Below.setCell ?_ (by first | (simp; done) | (simp; omega)) _)))) ?_); intro g3 c3 w3 o3 hg3 hat3; have HP := Lib.hid (NB.app (x := ⟨fr, pr⟩) (hN.out.bel (by repeat (first | exact Below.refl _ _ | refine bl_tr ?_ _ | refine bl_al ?_ _ | refine bl_dr ?_ | refine bl_up ?_ _ | refine Below.drew ?_ | refine bl_alloc ?_ _ | refine Below.setCell ?_ (by first | (simp; done) | (simp; omega)) _))) hg3 o3 hat3); have hq9 := (hN.out.bel (V' := _) (by repeat (first | exact Below.refl _ _ | refine bl_tr ?_ _ | refine bl_al ?_ _ | refine bl_dr ?_ | refine bl_up ?_ _ | refine Below.drew ?_ | refine bl_alloc ?_ _ | refine Below.setCell ?_ (by first | (simp; done) | (simp; omega)) _))).r5.grown hg3 (fun e => hN.out.f5 e.symm); have k1' := hq9.cell 1; have f1' := hq9.free 1; have k2' := hq9.lt; simp only [List.getElem?_toArray, List.getElem?_cons_succ, List.getElem?_cons_zero] at k1'; clear hq9 o3 hg3 hat3)
      refine (pick_any b A n c k' 9 _ HP.out.src HP.out.byt (by omega) hn (by omega)).mono ?_
      rintro e V4 ⟨x4, k4, rfl, y4, z4, hk4, hs4, hg4⟩
      have HP4 := Lib.hid (HP.out.call hg4 hs4)
      clear HP hs4 hg4 k1' f1' k2' c0 c1 f0 f1 q5l
      go_wp2_with fail
      refine (pick_any b A n c k4 40 V4 HP4.out.src HP4.out.byt (by omega) hn (by omega)).mono ?_
      rintro e V5 ⟨x5, k5, rfl, y5, z5, hk5, hs5, hg5⟩
      have HP5 := Lib.hid (HP4.out.call hg5 hs5)
      clear HP4 hs5 hg5
      have b4 : 0 ≤ x4 ∧ x4 ≤ 8 := by omega
      have HWV := Lib.hid (hWV.out.step (show vBrk ⟨fr, pr⟩ = true by simp only [vBrk, btw, Bool.and_eq_true, decide_eq_true_eq]; omega) y4 y5)
      have b5 : 0 ≤ x5 ∧ x5 ≤ 39 := by omega
      clear y4 z4 y5 z5
      go_wp2_with fail
      go_roundw
      case rel => exact ⟨l ++ [⟨fr, pr⟩], some ⟨g3, 0, none⟩, c3, j - 1, k5, fr + (1 + x4), pr - (1 + x5), by go_num, by go_num, by go_num, by rw [List.length_append, List.length_singleton]; omega, by rw [List.length_append, List.length_singleton]; omega, by rw [List.length_append, List.length_singleton]; omega, by omega, HWV, fun h9 => by simp at h9, HP5⟩
      case measure => (simp [intOf]; try omega)
    · rcases Nat.eq_zero_or_pos j with rfl | hj1
      · go_wp2_with fail
        exact bodyPost_ret (v := .agg #[.string nm, .slice Ab l.length cb]) (by simp [results, Tryd.results74, go_sem, q40, q41]) rfl ⟨l, Ab, cb, k', rfl, by omega, own_keepK (own_keepK hN.out.row (grown_put _ _ 0 _) (fun x e => by injection e with e; rw [← e]; exact hN.out.f4)) (grown_put _ _ 1 _) (fun x e => by injection e with e; rw [← e]; exact hN.out.f4), by omega, (hN.out.src.far (p := ⟨q4, 0, none⟩) (by show b ≠ q4; have := HQ4.out; omega) _).far (p := ⟨q4, 1, none⟩) (by show b ≠ q4; have := HQ4.out; omega) _, gr_new (gr_new hN.out.gr (p := ⟨q4, 0, none⟩) (by show _ ≤ q4; exact Nat.le_of_eq HQ4.out) _) (p := ⟨q4, 1, none⟩) (by show _ ≤ q4; exact Nat.le_of_eq HQ4.out) _, by omega, hWV.out.ok⟩
      · have hj2 : ¬ 0 < pr := fun h => hj ⟨hj1, h⟩
        have hj3 : (0 : Int) < (j : Int) := by omega
        go_wp2_with fail
        exact bodyPost_ret (v := .agg #[.string nm, .slice Ab l.length cb]) (by simp [results, Tryd.results74, go_sem, q40, q41]) rfl ⟨l, Ab, cb, k', rfl, by omega, own_keepK (own_keepK hN.out.row (grown_put _ _ 0 _) (fun x e => by injection e with e; rw [← e]; exact hN.out.f4)) (grown_put _ _ 1 _) (fun x e => by injection e with e; rw [← e]; exact hN.out.f4), by omega, (hN.out.src.far (p := ⟨q4, 0, none⟩) (by show b ≠ q4; have := HQ4.out; omega) _).far (p := ⟨q4, 1, none⟩) (by show b ≠ q4; have := HQ4.out; omega) _, gr_new (gr_new hN.out.gr (p := ⟨q4, 0, none⟩) (by show _ ≤ q4; exact Nat.le_of_eq HQ4.out) _) (p := ⟨q4, 1, none⟩) (by show _ ≤ q4; exact Nat.le_of_eq HQ4.out) _, by omega, hWV.out.ok⟩
end Go.Proofs.YtiibpldfnnhhlaaDoor

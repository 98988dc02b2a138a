/-
  BestOffers of the program. The bounds stand at it.
-/
import Derived.Test.YtiibpldfnnhhlaaBestP
import Derived.Test.YtiibpldfnnhhlaaOnly
import Derived.Test.YtiibpldfnnhhlaaApp
import Derived.Test.YtiibpldfnnhhlaaIntsTo
import Derived.Test.YtiibpldfnnhhlaaGen
import Derived.Deep.RegionHeld3
import Derived.Deep.DeepMust
namespace Go.Proofs.Ytiibpldfnnhhlaa
open Go.RowKit
theorem el_int : ElemOf Try.prog 35 2 (i64 0) 1 8 := elem_of Try.underlying35 (by kernel_rfl) rfl (by omega)
theorem ics_set (l : List Int) (k : Nat) (x : Int) : (ics l).set k (i64 x) = ics (l.set k x) := by simp [ics, List.map_set]
theorem ics_one (l : List Int) : ∀ u ∈ ics l, u.oneCell' = true := fun u hu => by
  simp only [ics, List.mem_map] at hu
  obtain ⟨x, _, rfl⟩ := hu
  rfl
/-- the chooser in block p, its numbers in block t -/
structure CH (W V : World) (p t : Nat) (A O : Option Addr) (c d : Nat) (l : List Ware) (os : List Offer) (tm best : List Int) (least : Int) (B : Option Addr) (bc : Nat) : Prop where
  box : Blk V p 105 #[.slice A l.length c, .slice O os.length d, .slice (some ⟨t, 0, none⟩) os.length os.length, .slice B best.length bc, i64 least]
  bst : V.ownsRow (p + 1) 2 1 (.slice B best.length bc) best.length (ics best)
  tim : V.ownsRow t 2 1 (.slice (some ⟨t, 0, none⟩) os.length os.length) os.length (ics tm)
  len : tm.length = os.length
  bel : Below W.heap.size W V
  tp : t + 1 = p
  tw : W.heap.size ≤ t
section
variable {W V V' : World} {p t : Nat} {A O B : Option Addr} {c d bc : Nat} {l : List Ware} {os : List Offer} {tm best : List Int} {least : Int}
theorem CH.cells (h : CH W V p t A O c d l os tm best least B bc) : p < V.heap.size ∧ (V.cell? ⟨p, 0, none⟩ = some (.slice A l.length c) ∧ V.cell? ⟨p, 1, none⟩ = some (.slice O os.length d) ∧ V.cell? ⟨p, 2, none⟩ = some (.slice (some ⟨t, 0, none⟩) os.length os.length) ∧ V.cell? ⟨p, 3, none⟩ = some (.slice B best.length bc) ∧ V.cell? ⟨p, 4, none⟩ = some (i64 least)) ∧ V.frozen? ⟨p, 3, none⟩ = false ∧ V.frozen? ⟨p, 4, none⟩ = false :=
  ⟨h.box.lt, ⟨h.box.cell 0, h.box.cell 1, h.box.cell 2, h.box.cell 3, h.box.cell 4⟩, h.box.free 3, h.box.free 4⟩
theorem CH.grown {row : Option Nat} (h : CH W V p t A O c d l os tm best least B bc) (hg : V.grownBy V' row) (hr : ∀ x, row = some x → p < x ∧ (Value.slice B best.length bc).ownBlock ≠ some x) : CH W V' p t A O c d l os tm best least B bc := by
  have h1 := h.tp
  have h2 := h.tw
  refine ⟨h.box.grown hg (fun e => by have := (hr p e.symm).1; omega), h.bst.kept hg ?_, h.tim.kept hg (.inr (fun e => by have e : some t = row := e; have := (hr t e.symm).1; omega)), h.len, h.bel.grown hg h.bel.size (fun k hk => by have := (hr k hk).1; omega), h1, h2⟩
  cases hv : (Value.slice B best.length bc).ownBlock with
  | none => exact .inl rfl
  | some q => exact .inr (fun e => (hr q e.symm).2 hv)
theorem CH.up (h : CH W V p t A O c d l os tm best least B bc) (g : Up V) : CH W (Go.Proofs.Ytiibpldfnnhhlaa.up V g) p t A O c d l os tm best least B bc := h.grown (grown_up g none) (fun x e => by cases e)
theorem Only.ofBelow {lo hi : Nat} {w w' : World} (hb : Below w.heap.size w w') : Only lo hi w w' := (Only.refl lo hi w).up ⟨w', hb⟩
theorem CH.below' (h : CH W V p t A O c d l os tm best least B bc) (hb : Below V.heap.size V V') : CH W V' p t A O c d l os tm best least B bc := h.up ⟨V', hb⟩
/-- a number is written -/
theorem CH.put (h : CH W V p t A O c d l os tm best least B bc) (k : Nat) (x : Int) : CH W (V.setCell ⟨t, k, none⟩ (i64 x)) p t A O c d l os (tm.set k x) best least B bc := by
  have h1 := h.tp
  obtain ⟨s1, s2⟩ := h.tim.stored k (i64 x)
  rw [ics_set] at s1
  refine ⟨h.box.far (by show p ≠ t; omega) _, h.bst.kept s2 ?_, s1, by rw [List.length_set]; exact h.len, h.bel.setCell h.tw _, h1, h.tw⟩
  cases hv : (Value.slice B best.length bc).ownBlock with
  | none => exact .inl rfl
  | some q => exact .inr (fun e => by injection e with e; have := (h.bst.lt q hv).1; omega)
/-- the best so far is written -/
theorem CH.setB (h : CH W V p t A O c d l os tm best least B bc) {B' : Option Addr} {bc' : Nat} {best' : List Int} (o : V.ownsRow (p + 1) 2 1 (.slice B' best'.length bc') best'.length (ics best')) (x : Int) : CH W ((V.setCell ⟨p, 3, none⟩ (.slice B' best'.length bc')).setCell ⟨p, 4, none⟩ (i64 x)) p t A O c d l os tm best' x B' bc' := by
  have h1 := h.tp
  have h2 := h.tw
  have g1 : V.grownBy ((V.setCell ⟨p, 3, none⟩ (.slice B' best'.length bc')).setCell ⟨p, 4, none⟩ (i64 x)) (some p) := grown_trans (grown_put V p 3 _) (grown_put _ p 4 _)
  refine ⟨(h.box.put 3 _).put 4 _, o.kept g1 ?_, h.tim.kept g1 (.inr (fun e => by injection e with e; have e : t = p := e; omega)), h.len, (h.bel.setCell (p := ⟨p, 3, none⟩) (by show _ ≤ p; omega) _).setCell (p := ⟨p, 4, none⟩) (by show _ ≤ p; omega) _, h1, h2⟩
  cases hv : (Value.slice B' best'.length bc').ownBlock with
  | none => exact .inl rfl
  | some q => exact .inr (fun e => by injection e with e; have := (o.lt q hv).1; omega)
end
/-- what the choosing from an offer on does -/
def chooseOk (W : World) (p t : Nat) (A O : Option Addr) (c d : Nat) (l : List Ware) (os : List Offer) (j : Nat) : Prop :=
  ∀ (k : Nat) (R : Option Addr) (rc : Nat) (r tm best : List Int) (cost least s : Int) (B : Option Addr) (bc : Nat) (V : World), k + j = os.length → CH W V p t A O c d l os tm best least B bc → Rds V 1 R l.length (ics r) → restOk l r s → s ≤ 40 → 0 ≤ cost → cost ≤ 40000000 * (k : Int) →
    Calls Try.prog 83 #[.pointer (some ⟨p, 0, none⟩), i64 k, .slice R l.length rc, i64 cost] V fun e V' => e = .returned (.tuple #[]) ∧ ∃ tm' B' bc', CH W V' p t A O c d l os tm' (wlk l os j r (tm.take k) cost (best, least)).1 (wlk l os j r (tm.take k) cost (best, least)).2 B' bc' ∧ tm'.take k = tm.take k ∧ Only t (p + 1) V V' ∧
      ∀ x, x < V.heap.size → (Value.slice B best.length bc).ownBlock ≠ some x → (Value.slice B' (wlk l os j r (tm.take k) cost (best, least)).1.length bc').ownBlock ≠ some x
set_option maxRecDepth 10000 in
set_option maxHeartbeats 4000000 in
theorem choose_leaf (W : World) (p t : Nat) (A O : Option Addr) (c d : Nat) (l : List Ware) (os : List Offer) (hA : WSee W A l) (hv : vWares l = true) (h4 : os.length ≤ 4) : chooseOk W p t A O c d l os 0 := by
  intro k R rc r tm best cost least s B bc V hk hC hR hrs hs hc0 hc1
  obtain rfl : k = os.length := by omega
  have HR := Lib.hid hR
  have HRS := Lib.hid hrs
  have HC := Lib.hid hC
  have HV := Lib.hid hv
  have hbs := restOk_bsk hv hrs
  have hwl : wlk l os 0 r (tm.take os.length) cost (best, least) = leafB l r tm cost (best, least) := by
    show leafB l r (tm.take os.length) cost (best, least) = _
    rw [← hC.len, List.take_length]
  rw [hwl]
  have h30 := (vWares_inv hv).1
  have hrl := hrs.1
  obtain ⟨hpl, ⟨c0, c1, c2, c3, c4⟩, f3, f4⟩ := hC.cells
  have cb := fun (V' : World) (hb : Below V.heap.size V V') => basketPrice_any A R c rc l r V' ((hA.below hC.bel).below hb) (by rw [hrl]; exact hR.below hb) h30 hrl (vWares_inv hv).2 (fun i hi => by have := hrs.2.1 i (by omega); omega)
  rw [hrl] at cb
  have CB := Lib.hid cb
  generalize hbk : bsk l r l.length = bk at *
  have HBK := Lib.hid hbk
  clear hR hrs hC hv cb hwl hbk
  have hlen := HC.out.len
  have HLEN := Lib.hid hlen
  have htp := HC.out.tp
  clear hlen
  have hz : least < 0 ∨ ((¬ least < 0 ∧ cost + bk < least) ∨ (¬ least < 0 ∧ ¬ cost + bk < least)) := by omega
  rcases hz with h1 | ⟨h1, h2⟩ | ⟨h1, h2⟩
  · have hlf : Hid (leafB l r tm cost (best, least) = (tm, cost + bk)) := by
      show leafB l r tm cost (best, least) = _
      rw [leafB, HBK.out, if_pos (.inl h1)]
    go_enter Try.func83, Try.ntmps83
    go_wp2_with fail
    refine (CB.out _ (by repeat (first | exact Below.refl _ _ | refine bl_tr ?_ _ | refine bl_al ?_ _ | refine bl_dr ?_ | refine bl_up ?_ _ | refine Below.drew ?_ | refine bl_alloc ?_ _ | refine Below.setCell ?_ (by first | (simp; done) | (simp; omega)) _))).mono ?_
    rintro e w' ⟨rfl, g1, rfl⟩
    have hOwn := Lib.hid (World.ownsRow_lit (base := V.heap.size) (e := 2) (size := 1) (up V g1) #[] 0 (up_below V g1).size (by unfold maxLen; omega) rfl)
    go_wp2_with (at_builtin; go_must (refine wpl_app rfl _ _ 35 rfl V.heap.size 2 _ 1 8 el_int _ 0 [] rfl hOwn.out (some ⟨t, 0, none⟩) os.length os.length (ics tm) rfl ((Rds.of_own HC.out.tim).below (by repeat (first | exact Below.refl _ _ | refine bl_tr ?_ _ | refine bl_al ?_ _ | refine bl_dr ?_ | refine bl_up ?_ _ | refine Below.drew ?_ | refine bl_alloc ?_ _ | refine Below.setCell ?_ (by first | (simp; done) | (simp; omega)) _))) (ics_one _) (by unfold maxLen; omega) (by omega) (Below.size (B := V.heap.size) (w := V) (by repeat (first | exact Below.refl _ _ | refine bl_tr ?_ _ | refine bl_al ?_ _ | refine bl_dr ?_ | refine bl_up ?_ _ | refine Below.drew ?_ | refine bl_alloc ?_ _ | refine Below.setCell ?_ (by first | (simp; done) | (simp; omega)) _))) ?_); intro A2 c2 W2 o2 hgr2; rw [Nat.zero_add] at o2; rw [Nat.zero_add]; have HB2 := Lib.hid (Below.grown (B := V.heap.size) (a := V) (by repeat (first | exact Below.refl _ _ | refine bl_tr ?_ _ | refine bl_al ?_ _ | refine bl_dr ?_ | refine bl_up ?_ _ | refine Below.drew ?_ | refine bl_alloc ?_ _ | refine Below.setCell ?_ (by first | (simp; done) | (simp; omega)) _)) hgr2 (Below.size (B := V.heap.size) (w := V) (by repeat (first | exact Below.refl _ _ | refine bl_tr ?_ _ | refine bl_al ?_ _ | refine bl_dr ?_ | refine bl_up ?_ _ | refine Below.drew ?_ | refine bl_alloc ?_ _ | refine Below.setCell ?_ (by first | (simp; done) | (simp; omega)) _))) (fun k hk => by have hk : some (up V g1).heap.size = some k := hk; injection hk with hk; have := (up_below V g1).size; omega)); have HC2 := Lib.hid (HC.out.below' HB2.out); obtain ⟨hpl2, ⟨d0, d1, d2, d3, d4⟩, e3, e4⟩ := HC2.out.cells; have O2 := Lib.hid o2; clear o2 hgr2)
    refine bodyPost_ret (results_none rfl _ _ _) rfl ?_
    rw [hlf.out]
    have o3 := O2.out
    rw [List.nil_append, ← HLEN.out] at o3
    have hf := CH.setB HC2.out (own_mono o3 (show p + 1 ≤ V.heap.size from hpl)) (cost + bk)
    rw [HLEN.out] at hf o3
    exact ⟨rfl, tm, A2, c2, hf, rfl, ((Only.ofBelow HB2.out).set (p := ⟨p, 3, none⟩) ⟨by show t ≤ p; omega, by show p < p + 1; omega⟩ _).set (p := ⟨p, 4, none⟩) ⟨by show t ≤ p; omega, by show p < p + 1; omega⟩ _, fun x hx _ hb => by
      have hb : (Value.slice A2 tm.length c2).ownBlock = some x := hb
      rw [HLEN.out] at hb
      have := (o3.lt x hb).1
      omega⟩
  · have hlf : Hid (leafB l r tm cost (best, least) = (tm, cost + bk)) := by
      show leafB l r tm cost (best, least) = _
      rw [leafB, HBK.out, if_pos (.inr h2)]
    go_enter Try.func83, Try.ntmps83
    go_wp2_with fail
    refine (CB.out _ (by repeat (first | exact Below.refl _ _ | refine bl_tr ?_ _ | refine bl_al ?_ _ | refine bl_dr ?_ | refine bl_up ?_ _ | refine Below.drew ?_ | refine bl_alloc ?_ _ | refine Below.setCell ?_ (by first | (simp; done) | (simp; omega)) _))).mono ?_
    rintro e w' ⟨rfl, g1, rfl⟩
    have hOwn := Lib.hid (World.ownsRow_lit (base := V.heap.size) (e := 2) (size := 1) (up V g1) #[] 0 (up_below V g1).size (by unfold maxLen; omega) rfl)
    go_wp2_with (at_builtin; go_must (refine wpl_app rfl _ _ 35 rfl V.heap.size 2 _ 1 8 el_int _ 0 [] rfl hOwn.out (some ⟨t, 0, none⟩) os.length os.length (ics tm) rfl ((Rds.of_own HC.out.tim).below (by repeat (first | exact Below.refl _ _ | refine bl_tr ?_ _ | refine bl_al ?_ _ | refine bl_dr ?_ | refine bl_up ?_ _ | refine Below.drew ?_ | refine bl_alloc ?_ _ | refine Below.setCell ?_ (by first | (simp; done) | (simp; omega)) _))) (ics_one _) (by unfold maxLen; omega) (by omega) (Below.size (B := V.heap.size) (w := V) (by repeat (first | exact Below.refl _ _ | refine bl_tr ?_ _ | refine bl_al ?_ _ | refine bl_dr ?_ | refine bl_up ?_ _ | refine Below.drew ?_ | refine bl_alloc ?_ _ | refine Below.setCell ?_ (by first | (simp; done) | (simp; omega)) _))) ?_); intro A2 c2 W2 o2 hgr2; rw [Nat.zero_add] at o2; rw [Nat.zero_add]; have HB2 := Lib.hid (Below.grown (B := V.heap.size) (a := V) (by repeat (first | exact Below.refl _ _ | refine bl_tr ?_ _ | refine bl_al ?_ _ | refine bl_dr ?_ | refine bl_up ?_ _ | refine Below.drew ?_ | refine bl_alloc ?_ _ | refine Below.setCell ?_ (by first | (simp; done) | (simp; omega)) _)) hgr2 (Below.size (B := V.heap.size) (w := V) (by repeat (first | exact Below.refl _ _ | refine bl_tr ?_ _ | refine bl_al ?_ _ | refine bl_dr ?_ | refine bl_up ?_ _ | refine Below.drew ?_ | refine bl_alloc ?_ _ | refine Below.setCell ?_ (by first | (simp; done) | (simp; omega)) _))) (fun k hk => by have hk : some (up V g1).heap.size = some k := hk; injection hk with hk; have := (up_below V g1).size; omega)); have HC2 := Lib.hid (HC.out.below' HB2.out); obtain ⟨hpl2, ⟨d0, d1, d2, d3, d4⟩, e3, e4⟩ := HC2.out.cells; have O2 := Lib.hid o2; clear o2 hgr2)
    refine bodyPost_ret (results_none rfl _ _ _) rfl ?_
    rw [hlf.out]
    have o3 := O2.out
    rw [List.nil_append, ← HLEN.out] at o3
    have hf := CH.setB HC2.out (own_mono o3 (show p + 1 ≤ V.heap.size from hpl)) (cost + bk)
    rw [HLEN.out] at hf o3
    exact ⟨rfl, tm, A2, c2, hf, rfl, ((Only.ofBelow HB2.out).set (p := ⟨p, 3, none⟩) ⟨by show t ≤ p; omega, by show p < p + 1; omega⟩ _).set (p := ⟨p, 4, none⟩) ⟨by show t ≤ p; omega, by show p < p + 1; omega⟩ _, fun x hx _ hb => by
      have hb : (Value.slice A2 tm.length c2).ownBlock = some x := hb
      rw [HLEN.out] at hb
      have := (o3.lt x hb).1
      omega⟩
  · have hlf : Hid (leafB l r tm cost (best, least) = (best, least)) := by
      show leafB l r tm cost (best, least) = _
      rw [leafB, HBK.out, if_neg (by omega)]
    go_enter Try.func83, Try.ntmps83
    go_wp2_with fail
    refine (CB.out _ (by repeat (first | exact Below.refl _ _ | refine bl_tr ?_ _ | refine bl_al ?_ _ | refine bl_dr ?_ | refine bl_up ?_ _ | refine Below.drew ?_ | refine bl_alloc ?_ _ | refine Below.setCell ?_ (by first | (simp; done) | (simp; omega)) _))).mono ?_
    rintro e w' ⟨rfl, g1, rfl⟩
    go_wp2_with fail
    refine bodyPost_ret (results_none rfl _ _ _) rfl ?_
    rw [hlf.out]
    exact ⟨rfl, tm, B, bc, HC.out.below' (by repeat (first | exact Below.refl _ _ | refine bl_tr ?_ _ | refine bl_al ?_ _ | refine bl_dr ?_ | refine bl_up ?_ _ | refine Below.drew ?_ | refine bl_alloc ?_ _ | refine Below.setCell ?_ (by first | (simp; done) | (simp; omega)) _)), rfl, Only.ofBelow (by repeat (first | exact Below.refl _ _ | refine bl_tr ?_ _ | refine bl_al ?_ _ | refine bl_dr ?_ | refine bl_up ?_ _ | refine Below.drew ?_ | refine bl_alloc ?_ _ | refine Below.setCell ?_ (by first | (simp; done) | (simp; omega)) _)), fun x _ hx => hx⟩
theorem iat_set {l : List Int} {k i : Nat} {x : Int} (hk : k < l.length) : iat (l.set k x) i = if i = k then x else iat l i := by
  unfold iat
  simp only [List.getD_eq_getElem?_getD]
  by_cases h : i = k
  · subst h; rw [List.getElem?_set_self hk, if_pos rfl]; rfl
  · rw [List.getElem?_set_ne (fun e => h e.symm), if_neg h]
theorem take_put {l : List Int} {k : Nat} {x : Int} (hk : k < l.length) : (l.set k x).take (k + 1) = l.take k ++ [x] := by
  rw [List.take_succ_eq_append_getElem (by rw [List.length_set]; exact hk), List.take_set_of_le (Nat.le_refl k), List.getElem_set_self]
theorem ints_ext {a b : List Int} (h : a.length = b.length) (h2 : ∀ i, i < a.length → iat a i = iat b i) : a = b := by
  apply List.ext_getElem h
  intro i h3 h4
  rw [iat_eq h3, iat_eq h4, h2 i h3]
theorem Only.new {lo hi x : Nat} {V w w' : World} (h : Only lo hi V w) (hg : w.grownBy w' (some x)) (hx : V.heap.size ≤ x) : Only lo hi V w' :=
  ⟨hg.os.trans h.os, hg.tape.trans h.tape, hg.output.trans h.output, Nat.le_trans h.size hg.size, fun i hi' hne => (hg.block i (Nat.lt_of_lt_of_le hi' h.size) (fun e => by injection e with e; omega)).trans (h.block i hi' hne)⟩
theorem lop_fit {f : Nat → List Int → BSt → BSt} {m : List Int} {n : Nat} {r : List Int} {st : BSt} (hn : n ≤ 40) (h : fitsM r m = true) : lop f m (41 - n) n r st = lop f m (41 - (n + 1)) (n + 1) (subM r m) (f n r st) := by
  rw [show 41 - n = (41 - (n + 1)) + 1 by omega, lop, if_pos h]
theorem lop_no {f : Nat → List Int → BSt → BSt} {m : List Int} {n : Nat} {r : List Int} {st : BSt} (hn : n ≤ 40) (h : fitsM r m = false) : lop f m (41 - n) n r st = f n r st := by
  rw [show 41 - n = (40 - n) + 1 by omega, lop, if_neg (by simp [h])]
set_option maxRecDepth 10000 in
set_option maxHeartbeats 8000000 in
theorem choose_step (W : World) (p t : Nat) (A O : Option Addr) (c d : Nat) (l : List Ware) (os : List Offer) (hO : OSee W O os) (hv : vOffers l os = true) (h4 : os.length ≤ 4) (j : Nat) (ih : chooseOk W p t A O c d l os j) : chooseOk W p t A O c d l os (j + 1) := by
  intro k R rc r tm best cost least s B bc V hk hC hR hrs hs hc0 hc1
  have hkl : k < os.length := by omega
  obtain ⟨fin, hfin⟩ : ∃ fin, wlk l os (j + 1) r (tm.take k) cost (best, least) = fin := ⟨_, rfl⟩
  rw [hfin]
  obtain ⟨hvw, _, hoo⟩ := vOffers_inv hv
  obtain ⟨hmm, hms, hp0, hp1⟩ := offerOk_inv (hoo k hkl)
  obtain ⟨hml, hmb⟩ := isMany_inv hmm
  have hfin2 : lop (fun n r' st' => wlk l os j r' (tm.take k ++ [(n : Int)]) (cost + (n : Int) * (oat os k).price) st') (oat os k).many (41 - 0) 0 r (best, least) = fin := by
    rw [← hfin]
    show _ = lop (fun n r' st' => wlk l os j r' (tm.take k ++ [(n : Int)]) (cost + (n : Int) * (oat os (os.length - (j + 1))).price) st') (oat os (os.length - (j + 1))).many 41 0 r (best, least)
    rw [show os.length - (j + 1) = k by omega]
  obtain ⟨bo, offo, Ai, ci, rfl, hbo, o0, o1, ri⟩ := offer_at hO hkl
  generalize (oat os k).many = m at *
  generalize (oat os k).price = pr at *
  rw [hml] at o0
  have hl0 : 0 < l.length := by
    rcases Nat.eq_zero_or_pos l.length with h0 | h0
    · exfalso
      have : sumI m = 0 := by unfold sumI; rw [hml, h0]; rfl
      omega
    · exact h0
  have h30 := (vWares_inv hvw).1
  have OC := Lib.hid (show ∀ V' : World, Below W.heap.size W V' → bo < V'.heap.size ∧ V'.cell? ⟨bo, offo + k * 2, none⟩ = some (.slice Ai l.length ci) ∧ V'.cell? ⟨bo, offo + k * 2 + 1, none⟩ = some (i64 pr) from
    fun V' hb => ⟨Nat.lt_of_lt_of_le hbo hb.size, (hb.cell (p := ⟨bo, offo + k * 2, none⟩) hbo).trans o0, (hb.cell (p := ⟨bo, offo + k * 2 + 1, none⟩) hbo).trans o1⟩)
  have HRI := Lib.hid ri
  have HR := Lib.hid hR
  have HRS := Lib.hid hrs
  have HC := Lib.hid hC
  have HMB := Lib.hid hmb
  have HML := Lib.hid hml
  have HF := Lib.hid hfin2
  obtain ⟨F, hF⟩ : ∃ F, F = (fun (n : Nat) (r' : List Int) (st' : BSt) => wlk l os j r' (tm.take k ++ [(n : Int)]) (cost + (n : Int) * pr) st') := ⟨_, rfl⟩
  have HFF := Lib.hid (show ∀ n r' st', F n r' st' = wlk l os j r' (tm.take k ++ [(n : Int)]) (cost + (n : Int) * pr) st' from fun n r' st' => by rw [hF])
  have HF := Lib.hid (show lop F m (41 - 0) 0 r (best, least) = fin by rw [hF]; exact hfin2)
  obtain ⟨hpl, ⟨c0, c1, c2, c3, c4⟩, f3, f4⟩ := hC.cells
  have htp := hC.tp
  have htw := hC.tw
  have hk0 : ((k : Int) == (os.length : Int)) = false := by rw [beq_eq_false_iff_ne]; omega
  have hOwn := Lib.hid (World.ownsRow_lit (base := V.heap.size) (e := 2) (size := 1) V #[] 0 (Nat.le_refl _) (by unfold maxLen; omega) rfl)
  clear hR hrs hC hmb hml hfin2 hF hfin ri o0 o1 hmm hoo hvw
  go_enter Try.func83, Try.ntmps83
  go_wp2_with (at_builtin; go_must (refine wpl_app rfl _ _ 35 rfl V.heap.size 2 _ 1 8 el_int _ 0 [] rfl hOwn.out R l.length rc (ics r) rfl (HR.out.below (by repeat (first | exact Below.refl _ _ | refine bl_tr ?_ _ | refine bl_al ?_ _ | refine bl_dr ?_ | refine bl_up ?_ _ | refine Below.drew ?_ | refine bl_alloc ?_ _ | refine Below.setCell ?_ (by first | (simp; done) | (simp; omega)) _))) (ics_one _) (by unfold maxLen; omega) (by omega) (Below.size (B := V.heap.size) (w := V) (by repeat (first | exact Below.refl _ _ | refine bl_tr ?_ _ | refine bl_al ?_ _ | refine bl_dr ?_ | refine bl_up ?_ _ | refine Below.drew ?_ | refine bl_alloc ?_ _ | refine Below.setCell ?_ (by first | (simp; done) | (simp; omega)) _))) ?_); intro A1 cA W2 o2 hgr2; rw [Nat.zero_add] at o2; rw [Nat.zero_add]; have HB2 := Lib.hid (Below.grown (B := V.heap.size) (a := V) (by repeat (first | exact Below.refl _ _ | refine bl_tr ?_ _ | refine bl_al ?_ _ | refine bl_dr ?_ | refine bl_up ?_ _ | refine Below.drew ?_ | refine bl_alloc ?_ _ | refine Below.setCell ?_ (by first | (simp; done) | (simp; omega)) _)) hgr2 (Below.size (B := V.heap.size) (w := V) (by repeat (first | exact Below.refl _ _ | refine bl_tr ?_ _ | refine bl_al ?_ _ | refine bl_dr ?_ | refine bl_up ?_ _ | refine Below.drew ?_ | refine bl_alloc ?_ _ | refine Below.setCell ?_ (by first | (simp; done) | (simp; omega)) _))) (fun k hk => by have hk : some V.heap.size = some k := hk; injection hk with hk; omega)); have O2 := Lib.hid o2; clear o2 hgr2)
  obtain ⟨a1, ofa, rfl, _, _⟩ := (Rds.of_own O2.out).at (by omega)
  obtain ⟨ha1, ha2, rfl⟩ := own_block O2.out rfl
  have HC2 := Lib.hid (HC.out.below' HB2.out)
  clear c0 c1 c2 c3 c4 f3 f4 hOwn
  have HAP := Lib.hid (show ∀ x, some a1 = some x → (Value.slice B best.length bc).ownBlock ≠ some x from fun x e he => by injection e with e; have := (HC.out.bst.lt x he).2; omega)
  go_loopw [8] (fun nn wr => ∃ (n : Nat) (r' tm' best' : List Int) (least' : Int) (B' : Option Addr) (bc' : Nat), nn = i64 n ∧ n ≤ 40 ∧ Hid (CH W wr p t A (some ⟨bo, offo, none⟩) c d l os tm' best' least' B' bc') ∧ Hid (tm'.take k = tm.take k) ∧ Hid (wr.ownsRow V.heap.size 2 1 (.slice (some ⟨a1, 0, none⟩) l.length cA) l.length (ics r')) ∧ Hid (restOk l r' (s - n)) ∧ Hid (lop F m (41 - n) n r' (best', least') = fin) ∧ Hid (Only t (p + 1) V wr) ∧ Hid (∀ x, x < V.heap.size → (Value.slice B best.length bc).ownBlock ≠ some x → (Value.slice B' best'.length bc').ownBlock ≠ some x) ∧ Hid ((Value.slice B' best'.length bc').ownBlock ≠ some a1)) (fun nn _ => 41 - (intOf nn).toNat)
  case atStart => exact ⟨0, r, tm, best, least, B, bc, rfl, by omega, HC2.out, rfl, O2.out, (show restOk l r (s - ((0 : Nat) : Int)) by simpa using HRS.out), HF.out, Only.ofBelow HB2.out, fun x _ hx => hx, HAP.out a1 rfl⟩
  case round =>
    obtain ⟨n, r', tm', best', least', B', bc', rfl, hn, hCr, htm, hrow, hro, hlo, hon, hke, hap⟩ := hrel
    clear HC2 O2 HC HF HB2 HR HAP
    obtain ⟨hpl', ⟨c0, c1, c2, c3, c4⟩, f3, f4⟩ := hCr.out.cells
    obtain ⟨hbo', o0', o1'⟩ := OC.out wr hCr.out.bel
    have hlt' := hCr.out.len
    have hft := hCr.out.tim.frozenAt k
    obtain ⟨u0, ht0⟩ : ∃ u, wr.cell? ⟨t, k, none⟩ = some u := by
      have h1 := hCr.out.tim.cellAt k (by omega)
      have h2 := hCr.out.tim.1
      rw [List.getElem?_eq_getElem (by omega)] at h1
      exact ⟨_, h1⟩
    have HTL := Lib.hid hlt'
    have htl : t < wr.heap.size := by omega
    have hbt : ¬ bo = t := by omega
    have hpt : ¬ p = t := by omega
    have hq0 : 0 ≤ (n : Int) * pr := Int.mul_nonneg (by omega) hp0
    have hq1 : (n : Int) * pr ≤ 40000000 := Int.le_trans (Int.mul_le_mul (show (n : Int) ≤ 40 by omega) hp1 hp0 (by omega)) (by omega)
    have HCP := Lib.hid (hCr.out.put k (n : Int))
    have hrp := Lib.hid (show (wr.setCell ⟨t, k, none⟩ (i64 (n : Int))).ownsRow V.heap.size 2 1 (.slice (some ⟨a1, 0, none⟩) l.length cA) l.length (ics r') from hrow.out.kept (grown_put _ _ _ _) (.inr (fun e => by injection e with e; have e : a1 = t := e; omega)))
    have htk := Lib.hid (show (tm'.set k (n : Int)).take (k + 1) = tm.take k ++ [(n : Int)] by rw [take_put (by omega), htm.out])
    clear hlt'
    go_wp2_with fail
    have ci := ih (k + 1) (some ⟨a1, 0, none⟩) cA r' (tm'.set k (n : Int)) best' (cost + (n : Int) * pr) least' (s - n) B' bc' _ (by omega) HCP.out (Rds.of_own hrp.out) hro.out (by omega) (by omega) (by rw [show ((k + 1 : Nat) : Int) = (k : Int) + 1 from rfl]; omega)
    rw [htk.out, ← HFF.out n r' (best', least')] at ci
    obtain ⟨⟨best3, least3⟩, hst⟩ : ∃ st, F n r' (best', least') = st := ⟨_, rfl⟩
    rw [hst, show ((k + 1 : Nat) : Int) = (k : Int) + 1 from rfl] at ci
    have HST := Lib.hid hst
    refine ci.mono ?_
    clear ci hst
    rintro e V2 ⟨rfl, tm3, B3, bc3, hC3, ht3, hO3, hK3⟩
    have hsz : (wr.setCell ⟨t, k, none⟩ (i64 (n : Int))).heap.size = wr.heap.size := by simp [World.setCell]
    have hza := (hrow.out.lt a1 rfl).2
    have HC3 := Lib.hid hC3
    have R3 := Lib.hid (hO3.own hrp.out (.inl (show p + 1 ≤ V.heap.size from hpl)))
    have A3 := Lib.hid (hK3 a1 (by omega) hap.out)
    have K3 := Lib.hid (show ∀ x, x < V.heap.size → (Value.slice B best.length bc).ownBlock ≠ some x → (Value.slice B3 best3.length bc3).ownBlock ≠ some x from fun x hx hb => hK3 x (by have := hon.out.size; omega) (hke.out x hx hb))
    have N3 := Lib.hid ((hon.out.set (p := ⟨t, k, none⟩) ⟨Nat.le_refl _, by show t < p + 1; omega⟩ (i64 (n : Int))).trans hO3)
    have T3 := Lib.hid (show tm3.take k = tm.take k by
      have h1 := congrArg (List.take k) ht3
      rw [List.take_take, Nat.min_eq_left (by omega), List.take_append_of_le_length (by have := HC3.out.len; have := HTL.out; rw [← htm.out, List.length_take]; omega), List.take_take, Nat.min_self] at h1
      exact h1)
    clear hC3 hO3 hK3 ht3 hsz hrow hap hke hon htm hCr HCP hrp htk c0 c1 c2 c3 c4 f3 f4 o0' o1' hbo' ht0 hft hpl' htl HTL
    obtain ⟨hpl', ⟨c0, c1, c2, c3, c4⟩, f3, f4⟩ := HC3.out.cells
    obtain ⟨hbo', o0', o1'⟩ := OC.out V2 HC3.out.bel
    go_wp2_with fail
    clear c0 c1 c2 c3 c4 f3 f4 o0' o1' hbo' hpl'
    go_loopw [90] (fun ii wr => ∃ (i : Nat) (ys : List Int), ii = i64 i ∧ i ≤ l.length ∧ Hid (∀ x, x < i → iat m x ≤ iat r' x) ∧ Hid (ys.length = l.length) ∧ Hid (∀ x, x < l.length → iat ys x = if x < i then iat r' x - iat m x else iat r' x) ∧ Hid (wr.ownsRow V.heap.size 2 1 (.slice (some ⟨a1, 0, none⟩) l.length cA) l.length (ics ys)) ∧ Hid (V2.grownBy wr (some a1))) (fun ii _ => l.length - (intOf ii).toNat)
    case atStart => exact ⟨0, r', rfl, by omega, fun x hx => by omega, hro.out.1, fun x hx => by rw [if_neg (by omega)], R3.out, grown_refl _ _⟩
    case round =>
      obtain ⟨i, ys, rfl, hi, hfi, hyl, hyv, hyr, hyg⟩ := hrel
      by_cases hil : i < l.length
      · have HCW := Lib.hid (HC3.out.grown hyg.out (fun x e => by injection e with e; subst e; exact ⟨by omega, A3.out⟩))
        have hyi := hyv.out i hil
        rw [if_neg (by omega)] at hyi
        have hy0 := hyr.out.cellAt i (by omega)
        rw [ics_get (show i < ys.length by have := hyl.out; omega), iat_eq (show i < ys.length by have := hyl.out; omega), hyi] at hy0
        have hyf := hyr.out.frozenAt i
        obtain ⟨bi, offi, rfl, hbi, m0⟩ := ints_at (HRI.out.below HCW.out.bel) (show i < m.length by have := HML.out; omega)
        obtain ⟨v0, v1⟩ := HMB.out i (by have := HML.out; omega)
        obtain ⟨u0, u1⟩ := hro.out.2.1 i (by have := hro.out.1; omega)
        have hya := (hyr.out.lt a1 rfl).2
        have S := Lib.hid (hyr.out.stored i (i64 (iat r' i - iat m i)))
        clear hyi
        have HYS := Lib.hid (show ∀ x, x < l.length → iat (ys.set i (iat r' i - iat m i)) x = if x < i + 1 then iat r' x - iat m x else iat r' x from fun x hx => by
          rw [iat_set (by have := hyl.out; omega)]
          by_cases e : x = i
          · subst e; rw [if_pos rfl, if_pos (by omega)]
          · rw [if_neg e, hyv.out x hx]
            by_cases h9 : x < i
            · rw [if_pos h9, if_pos (by omega)]
            · rw [if_neg h9, if_neg (by omega)])
        by_cases hneg : iat r' i - iat m i < 0
        · have hno := Lib.hid (show (best3, least3) = fin by rw [← hlo.out, lop_no hn (fitsM_at (show i < m.length by have := HML.out; omega) (by omega)), HST.out])
          go_wp2_with fail
          refine bodyPost_ret (results_none rfl _ _ _) rfl ?_
          rw [← hno.out]
          exact ⟨rfl, tm3, B3, bc3, HCW.out.grown S.out.2 (fun x e => by injection e with e; subst e; exact ⟨by omega, A3.out⟩), T3.out, (N3.out.new hyg.out ha1).new S.out.2 ha1, K3.out⟩
        · have hle := Lib.hid (show ∀ x, x < i + 1 → iat m x ≤ iat r' x from lt_ext (P := fun x => iat m x ≤ iat r' x) hfi.out (by omega))
          go_wp2_with fail
          go_roundw
          case rel => exact ⟨i + 1, ys.set i (iat r' i - iat m i), by go_num, by omega, hle, (show (ys.set i _).length = l.length by rw [List.length_set]; exact hyl.out), HYS, (show World.ownsRow _ _ _ _ _ _ (ics (ys.set i _)) by rw [← ics_set]; exact S.out.1), (show World.grownBy _ _ _ from grown_trans hyg.out S.out.2)⟩
          case measure => (simp [intOf]; try omega)
      · obtain rfl : i = l.length := by omega
        have hfit := fitsM_true (r := r') (m := m) (fun x hx => hfi.out x (by have := HML.out; omega))
        have hys : ys = subM r' m := by
          refine ints_ext (by rw [subM_len, hyl.out, hro.out.1]) (fun x hx => ?_)
          have hx' : x < l.length := by have := hyl.out; omega
          rw [hyv.out x hx', if_pos hx', subM_at (by have := hro.out.1; omega)]
        have hro2 := restOk_sub hro.out (by rw [HML.out, hro.out.1]) (fun x hx => (HMB.out x hx).1) hms hfit
        have hpos := restOk_pos hro2
        have HRO2 := Lib.hid hro2
        have hlo2 := hlo.out
        rw [lop_fit hn hfit, HST.out] at hlo2
        have HLO2 := Lib.hid hlo2
        subst hys
        clear hlo2 hro2 hfit
        go_wp2_with fail
        go_roundw
        case rel => exact ⟨n + 1, subM r' m, tm3, best3, least3, B3, bc3, by go_num, by omega, HC3.out.grown hyg.out (fun x e => by injection e with e; subst e; exact ⟨by omega, A3.out⟩), T3.out, hyr.out, (show restOk l (subM r' m) (s - ((n + 1 : Nat) : Int)) by rw [show s - ((n + 1 : Nat) : Int) = s - n - 1 by omega]; exact HRO2.out), HLO2.out, N3.out.new hyg.out ha1, K3.out, A3.out⟩
        case measure => (simp [intOf]; try omega)
end Go.Proofs.Ytiibpldfnnhhlaa

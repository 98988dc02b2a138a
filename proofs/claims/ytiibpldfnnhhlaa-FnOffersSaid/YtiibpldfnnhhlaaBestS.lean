/-
  BestOffers of the reference: its walk through all ways. The bounds stand at each.
-/
import Derived.Test.YtiibpldfnnhhlaaBestI
import Derived.Test.YtiibpldfnnhhlaaAppAt
import Derived.StillTailTactics
namespace Go.Proofs.Ytiibpldfnnhhlaa
open Go.RowKit
theorem own_keep {V V' : World} {base e size n : Nat} {v : Value} {xs : List Value} {row : Option Nat} (h : V.ownsRow base e size v n xs) (hg : V.grownBy V' row) (hne : ∀ x, row = some x → v.ownBlock ≠ some x) : V'.ownsRow base e size v n xs :=
  h.kept hg (by
    cases hv : v.ownBlock with
    | none => exact .inl rfl
    | some q => exact .inr (fun e => hne q e.symm hv))
theorem own_cut {V : World} {base e size n k c : Nat} {A : Option Addr} {xs : List Value} (h : V.ownsRow base e size (.slice A n c) n xs) (hk : k ≤ n) : V.ownsRow base e size (.slice A k c) k (xs.take (k * size)) := by
  rcases h.2 with ⟨hv, h0⟩ | ⟨g, cap, cur, hv, hb, hg, hc, hm, hz, ht⟩
  · subst h0
    obtain rfl : k = 0 := by omega
    injection hv with e1 _ e2
    subst e1 e2
    exact ⟨by simp, .inl ⟨rfl, rfl⟩⟩
  · injection hv with e1 _ e2
    subst e1 e2
    have hle : k * size ≤ n * size := Nat.mul_le_mul_right _ hk
    refine ⟨by rw [List.length_take, h.1]; omega, .inr ⟨g, c, cur, rfl, hb, hg, by omega, hm, hz, ?_⟩⟩
    rw [← ht, List.take_take, Nat.min_eq_left hle]
theorem own_cap {w : World} {base e size n c : Nat} {A : Option Addr} {xs : List Value} (h : w.ownsRow base e size (.slice A n c) n xs) : n ≤ c := by
  rcases h.2 with ⟨hv, h0⟩ | ⟨g, cap, cur, hv, _, _, hle, _⟩
  · omega
  · injection hv with _ _ hc
    omega
structure WK (W V : World) (p : Nat) (A O : Option Addr) (c d : Nat) (l : List Ware) (os : List Offer) (L : Option Addr) (lc : Nat) (r tk best : List Int) (least : Int) (T : Option Addr) (tc : Nat) (B : Option Addr) (bc : Nat) : Prop where
  box : Blk V p 101 #[.slice A l.length c, .slice O os.length d, .slice L l.length lc, .slice T tk.length tc, .slice B best.length bc, i64 least]
  lef : V.ownsRow W.heap.size 2 1 (.slice L l.length lc) l.length (ics r)
  tak : V.ownsRow W.heap.size 2 1 (.slice T tk.length tc) tk.length (ics tk)
  bst : V.ownsRow W.heap.size 2 1 (.slice B best.length bc) best.length (ics best)
  bel : Below W.heap.size W V
  pw : W.heap.size ≤ p
  a1 : (Value.slice L l.length lc).ownBlock ≠ some p
  a2 : (Value.slice T tk.length tc).ownBlock ≠ some p
  a3 : (Value.slice B best.length bc).ownBlock ≠ some p
  a4 : ∀ x, (Value.slice L l.length lc).ownBlock = some x → (Value.slice T tk.length tc).ownBlock ≠ some x
  a5 : ∀ x, (Value.slice L l.length lc).ownBlock = some x → (Value.slice B best.length bc).ownBlock ≠ some x
  a6 : ∀ x, (Value.slice T tk.length tc).ownBlock = some x → (Value.slice B best.length bc).ownBlock ≠ some x
section
variable {W V V' : World} {p : Nat} {A O L T B : Option Addr} {c d lc tc bc : Nat} {l : List Ware} {os : List Offer} {r tk best : List Int} {least : Int}
theorem WK.cells (h : WK W V p A O c d l os L lc r tk best least T tc B bc) : p < V.heap.size ∧ (V.cell? ⟨p, 0, none⟩ = some (.slice A l.length c) ∧ V.cell? ⟨p, 1, none⟩ = some (.slice O os.length d) ∧ V.cell? ⟨p, 2, none⟩ = some (.slice L l.length lc) ∧ V.cell? ⟨p, 3, none⟩ = some (.slice T tk.length tc) ∧ V.cell? ⟨p, 4, none⟩ = some (.slice B best.length bc) ∧ V.cell? ⟨p, 5, none⟩ = some (i64 least)) ∧ V.frozen? ⟨p, 3, none⟩ = false ∧ V.frozen? ⟨p, 4, none⟩ = false ∧ V.frozen? ⟨p, 5, none⟩ = false :=
  ⟨h.box.lt, ⟨h.box.cell 0, h.box.cell 1, h.box.cell 2, h.box.cell 3, h.box.cell 4, h.box.cell 5⟩, h.box.free 3, h.box.free 4, h.box.free 5⟩
theorem WK.below' (h : WK W V p A O c d l os L lc r tk best least T tc B bc) (hb : Below V.heap.size V V') : WK W V' p A O c d l os L lc r tk best least T tc B bc :=
  ⟨h.box.up ⟨V', hb⟩, own_below h.lef hb, own_below h.tak hb, own_below h.bst hb, h.bel.trans (hb.mono h.bel.size), h.pw, h.a1, h.a2, h.a3, h.a4, h.a5, h.a6⟩
/-- a store into the struct itself -/
theorem WK.rows (h : WK W V p A O c d l os L lc r tk best least T tc B bc) (i : Nat) (u : Value) :
    (V.setCell ⟨p, i, none⟩ u).ownsRow W.heap.size 2 1 (.slice L l.length lc) l.length (ics r) ∧ (V.setCell ⟨p, i, none⟩ u).ownsRow W.heap.size 2 1 (.slice T tk.length tc) tk.length (ics tk) ∧ (V.setCell ⟨p, i, none⟩ u).ownsRow W.heap.size 2 1 (.slice B best.length bc) best.length (ics best) ∧ Below W.heap.size W (V.setCell ⟨p, i, none⟩ u) :=
  ⟨own_keep h.lef (grown_put V p i u) (fun x e => by injection e with e; rw [← e]; exact h.a1), own_keep h.tak (grown_put V p i u) (fun x e => by injection e with e; rw [← e]; exact h.a2), own_keep h.bst (grown_put V p i u) (fun x e => by injection e with e; rw [← e]; exact h.a3), h.bel.setCell (p := ⟨p, i, none⟩) h.pw _⟩
theorem WK.setL (h : WK W V p A O c d l os L lc r tk best least T tc B bc) (x : Int) : WK W (V.setCell ⟨p, 5, none⟩ (i64 x)) p A O c d l os L lc r tk best x T tc B bc := by
  obtain ⟨h1, h2, h3, h4⟩ := h.rows 5 (i64 x)
  exact ⟨h.box.put 5 _, h1, h2, h3, h4, h.pw, h.a1, h.a2, h.a3, h.a4, h.a5, h.a6⟩
theorem WK.cut (h : WK W V p A O c d l os L lc r tk best least T tc B bc) (k : Nat) (hk : k ≤ tk.length) : WK W (V.setCell ⟨p, 3, none⟩ (.slice T k tc)) p A O c d l os L lc r (tk.take k) best least T tc B bc := by
  obtain ⟨h1, h2, h3, h4⟩ := h.rows 3 (.slice T k tc)
  have hl : (tk.take k).length = k := by rw [List.length_take]; omega
  have h5 := own_cut h2 hk
  rw [Nat.mul_one, show (ics tk).take k = ics (tk.take k) by simp [ics, List.map_take]] at h5
  have e : ∀ n, (Value.slice T n tc).ownBlock = (Value.slice T tk.length tc).ownBlock := fun n => by cases T <;> rfl
  refine ⟨by rw [hl]; exact h.box.put 3 _, h1, by rw [hl]; exact h5, h3, h4, h.pw, h.a1, ?_, h.a3, ?_, h.a5, ?_⟩
  · rw [e]; exact h.a2
  · rw [e]; exact h.a4
  · rw [e]; exact h.a6
theorem WK.setB (h : WK W V p A O c d l os L lc r tk best least T tc B bc) {V2 : World} {B' : Option Addr} {bc' : Nat} {best' : List Int} (hb : Below V.heap.size V V2) (o : V2.ownsRow V.heap.size 2 1 (.slice B' best'.length bc') best'.length (ics best')) : WK W (V2.setCell ⟨p, 4, none⟩ (.slice B' best'.length bc')) p A O c d l os L lc r tk best' least T tc B' bc' := by
  have h' := h.below' hb
  obtain ⟨h1, h2, h3, h4⟩ := h'.rows 4 (.slice B' best'.length bc')
  have hp := h.box.lt
  have hf : ∀ x, (Value.slice B' best'.length bc').ownBlock = some x → V.heap.size ≤ x := fun x e => (o.lt x e).1
  refine ⟨h'.box.put 4 _, h1, h2, own_keep (own_mono o h.bel.size) (grown_put V2 p 4 _) (fun x e e2 => by injection e with e; have := hf x e2; omega), h4, h.pw, h.a1, h.a2, fun e => ?_, h.a4, fun x e e2 => ?_, fun x e e2 => ?_⟩
  · have := hf p e; omega
  · have := hf x e2; have := (h.lef.lt x e).2; omega
  · have := hf x e2; have := (h.tak.lt x e).2; omega
theorem WK.app (h : WK W V p A O c d l os L lc r tk best least T tc B bc) {V1 V2 : World} {g cap : Nat} {n : Int} (hb : Below V.heap.size V V1) (hg : V1.grownBy V2 (Value.slice T tk.length tc).ownBlock) (o : V2.ownsRow W.heap.size 2 1 (.slice (some ⟨g, 0, none⟩) (tk.length + 1) cap) (tk.length + 1) (ics tk ++ [i64 n])) (hat : (Value.slice T tk.length tc).ownBlock = some g ∨ g = V1.heap.size) :
    WK W (V2.setCell ⟨p, 3, none⟩ (.slice (some ⟨g, 0, none⟩) (tk.length + 1) cap)) p A O c d l os L lc r (tk ++ [n]) best least (some ⟨g, 0, none⟩) cap B bc := by
  have h' := h.below' hb
  have b2 := h'.box.grown hg (fun e => h.a2 e.symm)
  have l2 := own_keep h'.lef hg (fun x e e2 => h.a4 x e2 e)
  have s2 := own_keep h'.bst hg (fun x e e2 => h.a6 x e e2)
  have e2 := h'.bel.grown hg h'.bel.size (fun k hk => (h'.tak.lt k hk).1)
  have hl : (tk ++ [n]).length = tk.length + 1 := by simp
  have hgp : g ≠ p := by
    rcases hat with e | e
    · exact fun e9 => h.a2 (by rw [e, e9])
    · have := h'.box.lt; omega
  have gr := grown_put V2 p 3 (.slice (some ⟨g, 0, none⟩) (tk.length + 1) cap)
  refine ⟨by rw [hl]; exact b2.put 3 _, own_keep l2 gr (fun x e => by injection e with e; rw [← e]; exact h.a1), ?_, own_keep s2 gr (fun x e => by injection e with e; rw [← e]; exact h.a3), e2.setCell (p := ⟨p, 3, none⟩) h.pw _, h.pw, h.a1, ?_, h.a3, ?_, h.a5, ?_⟩
  · rw [hl]
    have := own_keep o gr (fun x e e9 => hgp (by injection e with e; injection e9 with e9; have e9 : g = x := e9; omega))
    rw [show ics (tk ++ [n]) = ics tk ++ [i64 n] by simp [ics]]
    exact this
  · exact fun e => hgp (by injection e)
  · intro x e e9
    injection e9 with e9
    have e9 : g = x := e9
    rcases hat with e3 | e3
    · exact h.a4 x e (by rw [e3, e9])
    · have := (h'.lef.lt x e).2; omega
  · intro x e9 e
    injection e9 with e9
    have e9 : g = x := e9
    rcases hat with e3 | e3
    · exact h.a6 x (by rw [e3, e9]) e
    · have := (h'.bst.lt x e).2; omega
/-- what is left is written -/
theorem WK.put {la : Nat} (h : WK W V p A O c d l os (some ⟨la, 0, none⟩) lc r tk best least T tc B bc) (i : Nat) (x : Int) : WK W (V.setCell ⟨la, i, none⟩ (i64 x)) p A O c d l os (some ⟨la, 0, none⟩) lc (r.set i x) tk best least T tc B bc := by
  obtain ⟨s1, s2⟩ := h.lef.stored i (i64 x)
  rw [ics_set] at s1
  have hla := (h.lef.lt la rfl).1
  have hp : p ≠ la := fun e => h.a1 (by rw [e]; rfl)
  exact ⟨h.box.far hp _, s1, own_keep h.tak s2 (fun x e => by injection e with e; rw [← e]; exact h.a4 la rfl), own_keep h.bst s2 (fun x e => by injection e with e; rw [← e]; exact h.a5 la rfl), h.bel.setCell (p := ⟨la, i, none⟩) hla _, h.pw, h.a1, h.a2, h.a3, h.a4, h.a5, h.a6⟩
end
set_option maxRecDepth 10000 in
theorem l00Own_any (M : Option Addr) (n cM : Nat) (many : List Int) (w : World) (_he : many.length = n) (hm : Rds w 1 M n (ics many)) (hn : n ≤ 100000000) :
    Calls Try.prog 81 #[.slice M n cM] w fun e w' => ∃ A' c', e = .returned (.slice A' n c') ∧ w'.ownsRow w.heap.size 2 1 (.slice A' n c') n (ics many) ∧ UpOf w w' := by
  have hOwn := Lib.hid (World.ownsRow_lit (base := w.heap.size) (e := 2) (size := 1) w #[] 0 (Nat.le_refl _) (by unfold maxLen; omega) rfl)
  go_enter Try.func81, Try.ntmps81
  go_wp2_with (at_builtin; go_must (refine wpl_app rfl _ _ 35 rfl w.heap.size 2 _ 1 8 el_int _ 0 [] rfl hOwn.out M n cM (ics many) rfl (hm.below (by repeat (first | exact Below.refl _ _ | refine bl_tr ?_ _ | refine bl_al ?_ _ | refine bl_dr ?_ | refine bl_up ?_ _ | refine Below.drew ?_ | refine bl_alloc ?_ _ | refine Below.setCell ?_ (by first | (simp; done) | (simp; omega)) _))) (ics_one _) (by unfold maxLen; omega) (by omega) (Below.size (B := w.heap.size) (w := w) (by repeat (first | exact Below.refl _ _ | refine bl_tr ?_ _ | refine bl_al ?_ _ | refine bl_dr ?_ | refine bl_up ?_ _ | refine Below.drew ?_ | refine bl_alloc ?_ _ | refine Below.setCell ?_ (by first | (simp; done) | (simp; omega)) _))) ?_); intro A1 cA W2 o2 hgr2; rw [Nat.zero_add] at o2; rw [Nat.zero_add]; have HB2 := Lib.hid (Below.grown (B := w.heap.size) (a := w) (by repeat (first | exact Below.refl _ _ | refine bl_tr ?_ _ | refine bl_al ?_ _ | refine bl_dr ?_ | refine bl_up ?_ _ | refine Below.drew ?_ | refine bl_alloc ?_ _ | refine Below.setCell ?_ (by first | (simp; done) | (simp; omega)) _)) hgr2 (Below.size (B := w.heap.size) (w := w) (by repeat (first | exact Below.refl _ _ | refine bl_tr ?_ _ | refine bl_al ?_ _ | refine bl_dr ?_ | refine bl_up ?_ _ | refine Below.drew ?_ | refine bl_alloc ?_ _ | refine Below.setCell ?_ (by first | (simp; done) | (simp; omega)) _))) (fun k hk => by have hk : some w.heap.size = some k := hk; injection hk with hk; omega)); have O2 := Lib.hid o2; clear o2 hgr2)
  go_ret
  exact ⟨A1, cA, rfl, O2.out, .of HB2.out⟩
def walkOk (W : World) (p : Nat) (A O : Option Addr) (c d : Nat) (l : List Ware) (os : List Offer) (L : Option Addr) (lc : Nat) (j : Nat) : Prop :=
  ∀ (k : Nat) (r tk best : List Int) (cost least s : Int) (T : Option Addr) (tc : Nat) (B : Option Addr) (bc : Nat) (V : World), k + j = os.length → tk.length = k → WK W V p A O c d l os L lc r tk best least T tc B bc → restOk l r s → s ≤ 40 → 0 ≤ cost → cost ≤ 40000000 * (k : Int) →
    Calls Try.prog 82 #[.pointer (some ⟨p, 0, none⟩), i64 k, i64 cost] V fun e V' => e = .returned (.tuple #[]) ∧ ∃ T' tc' B' bc', WK W V' p A O c d l os L lc r tk (wlk l os j r tk cost (best, least)).1 (wlk l os j r tk cost (best, least)).2 T' tc' B' bc'
set_option maxRecDepth 10000 in
set_option maxHeartbeats 4000000 in
theorem walk_leaf (W : World) (p : Nat) (A O : Option Addr) (c d : Nat) (l : List Ware) (os : List Offer) (L : Option Addr) (lc : Nat) (hA : WSee W A l) (hv : vWares l = true) (h4 : os.length ≤ 4) : walkOk W p A O c d l os L lc 0 := by
  intro k r tk best cost least s T tc B bc V hk htk hC hrs hs hc0 hc1
  obtain rfl : k = os.length := by omega
  have HC := Lib.hid hC
  have hbs := restOk_bsk hv hrs
  have hwl : wlk l os 0 r tk cost (best, least) = leafB l r tk cost (best, least) := rfl
  rw [hwl]
  have h30 := (vWares_inv hv).1
  have hrl := hrs.1
  obtain ⟨hpl, ⟨c0, c1, c2, c3, c4, c5⟩, f3, f4, f5⟩ := hC.cells
  have cb := fun (V' : World) (hb : Below V.heap.size V V') => l26Basket_any A L c lc l r V' ((hA.below hC.bel).below hb) (by rw [hrl]; exact (Rds.of_own hC.lef).below hb) h30 hrl (vWares_inv hv).2 (fun i hi => by have := hrs.2.1 i (by omega); omega)
  rw [hrl] at cb
  have CB := Lib.hid cb
  generalize hbk : bsk l r l.length = bk at *
  have HBK := Lib.hid hbk
  have HTK := Lib.hid htk
  rw [htk] at c3
  have hpt := Rds.of_own hC.tak
  rw [htk] at hpt
  have co := fun (V' : World) (hb : Rds V' 1 T os.length (ics tk)) => l00Own_any T os.length tc tk V' HTK.out hb (by omega)
  have CO := Lib.hid co
  clear hrs hC hv cb hwl hbk co htk
  have hz : least < 0 ∨ ((¬ least < 0 ∧ cost + bk < least) ∨ (¬ least < 0 ∧ ¬ cost + bk < least)) := by omega
  rcases hz with h1 | ⟨h1, h2⟩ | ⟨h1, h2⟩
  · have hlf : Hid (leafB l r tk cost (best, least) = (tk, cost + bk)) := by
      show leafB l r tk cost (best, least) = _
      rw [leafB, HBK.out, if_pos (.inl h1)]
    go_enter Try.func82, Try.ntmps82
    go_wp2_with (first | (go_at_call 68; refine (CB.out _ (by repeat (first | exact Below.refl _ _ | refine bl_tr ?_ _ | refine bl_al ?_ _ | refine bl_dr ?_ | refine bl_up ?_ _ | refine Below.drew ?_ | refine bl_alloc ?_ _ | refine Below.setCell ?_ (by first | (simp; done) | (simp; omega)) _))).mono ?_; rintro e w' ⟨rfl, g, rfl⟩) | ((with_reducible refine wp_region_up (by kernel_rfl) (by kernel_rfl) ?_); (repeat (go_big_quiet_step (first | (go_at_call 68; first | exact upq_tr (CB.out _ (by repeat (first | exact Below.refl _ _ | refine bl_tr ?_ _ | refine bl_al ?_ _ | refine bl_dr ?_ | refine bl_up ?_ _ | refine Below.drew ?_ | refine bl_alloc ?_ _ | refine Below.setCell ?_ (by first | (simp; done) | (simp; omega)) _))) | exact upq (CB.out _ (by repeat (first | exact Below.refl _ _ | refine bl_tr ?_ _ | refine bl_al ?_ _ | refine bl_dr ?_ | refine bl_up ?_ _ | refine Below.drew ?_ | refine bl_alloc ?_ _ | refine Below.setCell ?_ (by first | (simp; done) | (simp; omega)) _))))))); refine wpQuiet_nil ?_; intro _ hw'; obtain ⟨nq, hw''⟩ := hw'; subst hw''))
    have H5 := Lib.hid ((HC.out.below' (up_below V nq)).setL (cost + bk))
    refine (CO.out _ (by have := Rds.of_own H5.out.tak; rw [HTK.out] at this; exact this)).mono ?_
    rintro e w' ⟨A2, c2, rfl, o2, g2, rfl⟩
    have O2 := Lib.hid o2
    clear o2
    have h4f := H5.out.box.free 4
    have h4c := H5.out.box.cell 4
    have h4p := H5.out.box.lt
    go_wp2_with fail
    refine bodyPost_ret (results_none rfl _ _ _) rfl ?_
    rw [hlf.out]
    have o3 := O2.out
    rw [← HTK.out] at o3
    have hf := H5.out.setB (up_below _ g2) o3
    rw [HTK.out] at hf
    exact ⟨rfl, T, tc, A2, c2, hf⟩
  · have hlf : Hid (leafB l r tk cost (best, least) = (tk, cost + bk)) := by
      show leafB l r tk cost (best, least) = _
      rw [leafB, HBK.out, if_pos (.inr h2)]
    go_enter Try.func82, Try.ntmps82
    go_wp2_with (first | (go_at_call 68; refine (CB.out _ (by repeat (first | exact Below.refl _ _ | refine bl_tr ?_ _ | refine bl_al ?_ _ | refine bl_dr ?_ | refine bl_up ?_ _ | refine Below.drew ?_ | refine bl_alloc ?_ _ | refine Below.setCell ?_ (by first | (simp; done) | (simp; omega)) _))).mono ?_; rintro e w' ⟨rfl, g, rfl⟩) | ((with_reducible refine wp_region_up (by kernel_rfl) (by kernel_rfl) ?_); (repeat (go_big_quiet_step (first | (go_at_call 68; first | exact upq_tr (CB.out _ (by repeat (first | exact Below.refl _ _ | refine bl_tr ?_ _ | refine bl_al ?_ _ | refine bl_dr ?_ | refine bl_up ?_ _ | refine Below.drew ?_ | refine bl_alloc ?_ _ | refine Below.setCell ?_ (by first | (simp; done) | (simp; omega)) _))) | exact upq (CB.out _ (by repeat (first | exact Below.refl _ _ | refine bl_tr ?_ _ | refine bl_al ?_ _ | refine bl_dr ?_ | refine bl_up ?_ _ | refine Below.drew ?_ | refine bl_alloc ?_ _ | refine Below.setCell ?_ (by first | (simp; done) | (simp; omega)) _))))))); refine wpQuiet_nil ?_; intro _ hw'; obtain ⟨nq, hw''⟩ := hw'; subst hw''))
    have H5 := Lib.hid ((HC.out.below' (up_below V nq)).setL (cost + bk))
    refine (CO.out _ (by have := Rds.of_own H5.out.tak; rw [HTK.out] at this; exact this)).mono ?_
    rintro e w' ⟨A2, c2, rfl, o2, g2, rfl⟩
    have O2 := Lib.hid o2
    clear o2
    have h4f := H5.out.box.free 4
    have h4c := H5.out.box.cell 4
    have h4p := H5.out.box.lt
    go_wp2_with fail
    refine bodyPost_ret (results_none rfl _ _ _) rfl ?_
    rw [hlf.out]
    have o3 := O2.out
    rw [← HTK.out] at o3
    have hf := H5.out.setB (up_below _ g2) o3
    rw [HTK.out] at hf
    exact ⟨rfl, T, tc, A2, c2, hf⟩
  · have hlf : Hid (leafB l r tk cost (best, least) = (best, least)) := by
      show leafB l r tk cost (best, least) = _
      rw [leafB, HBK.out, if_neg (by omega)]
    go_enter Try.func82, Try.ntmps82
    go_wp2_with (first | (go_at_call 68; refine (CB.out _ (by repeat (first | exact Below.refl _ _ | refine bl_tr ?_ _ | refine bl_al ?_ _ | refine bl_dr ?_ | refine bl_up ?_ _ | refine Below.drew ?_ | refine bl_alloc ?_ _ | refine Below.setCell ?_ (by first | (simp; done) | (simp; omega)) _))).mono ?_; rintro e w' ⟨rfl, g, rfl⟩) | ((with_reducible refine wp_region_up (by kernel_rfl) (by kernel_rfl) ?_); (repeat (go_big_quiet_step (first | (go_at_call 68; first | exact upq_tr (CB.out _ (by repeat (first | exact Below.refl _ _ | refine bl_tr ?_ _ | refine bl_al ?_ _ | refine bl_dr ?_ | refine bl_up ?_ _ | refine Below.drew ?_ | refine bl_alloc ?_ _ | refine Below.setCell ?_ (by first | (simp; done) | (simp; omega)) _))) | exact upq (CB.out _ (by repeat (first | exact Below.refl _ _ | refine bl_tr ?_ _ | refine bl_al ?_ _ | refine bl_dr ?_ | refine bl_up ?_ _ | refine Below.drew ?_ | refine bl_alloc ?_ _ | refine Below.setCell ?_ (by first | (simp; done) | (simp; omega)) _))))))); refine wpQuiet_nil ?_; intro _ hw'; obtain ⟨nq, hw''⟩ := hw'; subst hw''))
    refine bodyPost_ret (results_none rfl _ _ _) rfl ?_
    rw [hlf.out]
    exact ⟨rfl, T, tc, B, bc, HC.out.below' (by repeat (first | exact Below.refl _ _ | refine bl_tr ?_ _ | refine bl_al ?_ _ | refine bl_dr ?_ | refine bl_up ?_ _ | refine Below.drew ?_ | refine bl_alloc ?_ _ | refine Below.setCell ?_ (by first | (simp; done) | (simp; omega)) _))⟩
theorem all_succ {i : Nat} (q : Nat → Bool) : (List.range (i + 1)).all q = ((List.range i).all q && q i) := by rw [List.range_succ, List.all_append]; simp
set_option maxRecDepth 10000 in
set_option maxHeartbeats 8000000 in
theorem walk_step (W : World) (p : Nat) (A O : Option Addr) (c d : Nat) (l : List Ware) (os : List Offer) (L : Option Addr) (lc : Nat) (hO : OSee W O os) (hv : vOffers l os = true) (h4 : os.length ≤ 4) (j : Nat) (ih : walkOk W p A O c d l os L lc j) : walkOk W p A O c d l os L lc (j + 1) := by
  intro k r tk best cost least s T tc B bc V hk htk hC hrs hs hc0 hc1
  subst htk
  have hkl : tk.length < os.length := by omega
  obtain ⟨fin, hfin⟩ : ∃ fin, wlk l os (j + 1) r tk cost (best, least) = fin := ⟨_, rfl⟩
  rw [hfin]
  obtain ⟨hvw, _, hoo⟩ := vOffers_inv hv
  obtain ⟨hmm, hms, hp0, hp1⟩ := offerOk_inv (hoo tk.length hkl)
  obtain ⟨hml, hmb⟩ := isMany_inv hmm
  have hfin2 : lop (fun n r' st' => wlk l os j r' (tk ++ [(n : Int)]) (cost + (n : Int) * (oat os tk.length).price) st') (oat os tk.length).many (41 - 0) 0 r (best, least) = fin := by
    rw [← hfin]
    show _ = lop (fun n r' st' => wlk l os j r' (tk ++ [(n : Int)]) (cost + (n : Int) * (oat os (os.length - (j + 1))).price) st') (oat os (os.length - (j + 1))).many 41 0 r (best, least)
    rw [show os.length - (j + 1) = tk.length by omega]
  obtain ⟨bo, offo, Ai, ci, rfl, hbo, o0, o1, ri⟩ := offer_at hO hkl
  generalize (oat os tk.length).many = m at *
  generalize (oat os tk.length).price = pr at *
  rw [hml] at o0
  have hl0 : 0 < l.length := by
    rcases Nat.eq_zero_or_pos l.length with h0 | h0
    · exfalso
      have : sumI m = 0 := by unfold sumI; rw [hml, h0]; rfl
      omega
    · exact h0
  have h30 := (vWares_inv hvw).1
  obtain ⟨la, ofa, rfl, _, _⟩ := (Rds.of_own hC.lef).at (by omega)
  obtain ⟨hla1, hla2, rfl⟩ := own_block hC.lef rfl
  obtain ⟨bi, offi, rfl, hbi, _⟩ := ints_at ri (show 0 < m.length by omega)
  have OC := Lib.hid (show ∀ V' : World, Below W.heap.size W V' → bo < V'.heap.size ∧ V'.cell? ⟨bo, offo + tk.length * 2, none⟩ = some (.slice (some ⟨bi, offi, none⟩) l.length ci) ∧ V'.cell? ⟨bo, offo + tk.length * 2 + 1, none⟩ = some (i64 pr) from
    fun V' hb => ⟨Nat.lt_of_lt_of_le hbo hb.size, (hb.cell (p := ⟨bo, offo + tk.length * 2, none⟩) hbo).trans o0, (hb.cell (p := ⟨bo, offo + tk.length * 2 + 1, none⟩) hbo).trans o1⟩)
  have MC := Lib.hid (show ∀ V' : World, Below W.heap.size W V' → ∀ i, i < l.length → bi < V'.heap.size ∧ V'.cell? ⟨bi, offi + i, none⟩ = some (i64 (iat m i)) from fun V' hb i hi => by
    obtain ⟨b9, o9, e9, hb9, h9⟩ := ints_at ri (show i < m.length by omega)
    injection e9 with e9
    injection e9 with e1 e2 _
    subst e1 e2
    exact ⟨Nat.lt_of_lt_of_le hbi hb.size, (hb.cell (p := ⟨bi, offi + i, none⟩) hbi).trans h9⟩)
  have HRS := Lib.hid hrs
  have HC := Lib.hid hC
  have HMB := Lib.hid hmb
  have HML := Lib.hid hml
  obtain ⟨F, hF⟩ : ∃ F, F = (fun (n : Nat) (r' : List Int) (st' : BSt) => wlk l os j r' (tk ++ [(n : Int)]) (cost + (n : Int) * pr) st') := ⟨_, rfl⟩
  have HFF := Lib.hid (show ∀ n r' st', F n r' st' = wlk l os j r' (tk ++ [(n : Int)]) (cost + (n : Int) * pr) st' from fun n r' st' => by rw [hF])
  have HF := Lib.hid (show lop F m (41 - 0) 0 r (best, least) = fin by rw [hF]; exact hfin2)
  obtain ⟨hpl, ⟨c0, c1, c2, c3, c4, c5⟩, f3, f4, f5⟩ := hC.cells
  have hpw := hC.pw
  have hpla : la ≠ p := fun e => hC.a1 (by rw [e]; rfl)
  have hk0 : ((tk.length : Int) == (os.length : Int)) = false := by rw [beq_eq_false_iff_ne]; omega
  have hbp : ¬ bo = p := by omega
  have hkl' : (tk.length : Int) < (os.length : Int) := by omega
  clear hrs hC hmb hml hfin2 hF hfin ri o0 o1 hmm hoo hvw
  go_enter Try.func82, Try.ntmps82
  go_wp2_with (first | ((with_reducible refine wp_region_up (by kernel_rfl) (by kernel_rfl) ?_); (repeat (go_big_quiet_step (fail))); refine wpQuiet_nil ?_; intro _ hw'; obtain ⟨nq, hw''⟩ := hw'; subst hw''))
  go_loopw [8] (fun nn wr => ∃ (n : Nat) (r' best' : List Int) (least' : Int) (T' : Option Addr) (tc' : Nat) (B' : Option Addr) (bc' : Nat), nn = i64 n ∧ n ≤ 40 ∧ Hid (WK W wr p A (some ⟨bo, offo, none⟩) c d l os (some ⟨la, 0, none⟩) lc r' tk best' least' T' tc' B' bc') ∧ Hid (restOk l r' (s - n)) ∧ Hid (lop F m (41 - n) n r' (best', least') = fin) ∧ Hid (∀ x, x < l.length → iat r' x = iat r x - (n : Int) * iat m x)) (fun nn _ => 41 - (intOf nn).toNat)
  case atStart => exact ⟨0, r, best, least, T, tc, B, bc, rfl, by omega, HC.out.below' (by repeat (first | exact Below.refl _ _ | refine bl_tr ?_ _ | refine bl_al ?_ _ | refine bl_dr ?_ | refine bl_up ?_ _ | refine Below.drew ?_ | refine bl_alloc ?_ _ | refine Below.setCell ?_ (by first | (simp; done) | (simp; omega)) _)), (show restOk l r (s - ((0 : Nat) : Int)) by simpa using HRS.out), HF.out, fun x hx => by simp⟩
  case round =>
    obtain ⟨n, r', best', least', T', tc', B', bc', rfl, hn, hCr, hro, hlo, hrv⟩ := hrel
    clear HC HF c0 c1 c2 c3 c4 c5 f3 f4 f5
    obtain ⟨hpl', ⟨c0, c1, c2, c3, c4, c5⟩, f3, f4, f5⟩ := hCr.out.cells
    have hq0 : 0 ≤ (n : Int) * pr := Int.mul_nonneg (by omega) hp0
    have hq1 : (n : Int) * pr ≤ 40000000 := Int.le_trans (Int.mul_le_mul (show (n : Int) ≤ 40 by omega) hp1 hp0 (by omega)) (by omega)
    go_wp2_with (at_builtin; go_must (refine wpl_appAt rfl _ _ 35 rfl W.heap.size 2 _ 1 8 el_int (.slice T' tk.length tc') tk.length (ics tk) rfl (own_below hCr.out.tak (by repeat (first | exact Below.refl _ _ | refine bl_tr ?_ _ | refine bl_al ?_ _ | refine bl_dr ?_ | refine bl_up ?_ _ | refine Below.drew ?_ | refine bl_alloc ?_ _ | refine Below.setCell ?_ (by first | (simp; done) | (simp; omega)) _))) _ 1 1 [i64 (n : Int)] rfl (rds_new _ #[i64 (n : Int)] _ 1 1 rfl) (fun u hu => by simp at hu; subst hu; rfl) (by omega) (by unfold maxLen; omega) (by omega) (Nat.le_trans hCr.out.bel.size (Below.size (B := wr.heap.size) (w := wr) (by repeat (first | exact Below.refl _ _ | refine bl_tr ?_ _ | refine bl_al ?_ _ | refine bl_dr ?_ | refine bl_up ?_ _ | refine Below.drew ?_ | refine bl_alloc ?_ _ | refine Below.setCell ?_ (by first | (simp; done) | (simp; omega)) _)))) ?_); intro g3 k3 w3 o3 hg3 hat3; have HA3 := Lib.hid (hCr.out.app (n := (n : Int)) (by repeat (first | exact Below.refl _ _ | refine bl_tr ?_ _ | refine bl_al ?_ _ | refine bl_dr ?_ | refine bl_up ?_ _ | refine Below.drew ?_ | refine bl_alloc ?_ _ | refine Below.setCell ?_ (by first | (simp; done) | (simp; omega)) _)) hg3 o3 hat3); have hq3 := ((hCr.out.below' (V' := _) (by repeat (first | exact Below.refl _ _ | refine bl_tr ?_ _ | refine bl_al ?_ _ | refine bl_dr ?_ | refine bl_up ?_ _ | refine Below.drew ?_ | refine bl_alloc ?_ _ | refine Below.setCell ?_ (by first | (simp; done) | (simp; omega)) _))).box.grown hg3 (fun e => hCr.out.a2 e.symm)); have q3f := hq3.free 3; have q3c := hq3.cell 3; have q3l := hq3.lt; obtain ⟨hbo3, o03, o13⟩ := OC.out w3 ((hCr.out.below' (V' := _) (by repeat (first | exact Below.refl _ _ | refine bl_tr ?_ _ | refine bl_al ?_ _ | refine bl_dr ?_ | refine bl_up ?_ _ | refine Below.drew ?_ | refine bl_alloc ?_ _ | refine Below.setCell ?_ (by first | (simp; done) | (simp; omega)) _))).bel.grown hg3 (hCr.out.below' (V' := _) (by repeat (first | exact Below.refl _ _ | refine bl_tr ?_ _ | refine bl_al ?_ _ | refine bl_dr ?_ | refine bl_up ?_ _ | refine Below.drew ?_ | refine bl_alloc ?_ _ | refine Below.setCell ?_ (by first | (simp; done) | (simp; omega)) _))).bel.size (fun k hk => (hCr.out.tak.lt k hk).1)); clear hq3 o3 hg3 hat3)
    have ci := ih (tk.length + 1) r' (tk ++ [(n : Int)]) best' (cost + (n : Int) * pr) least' (s - n) _ _ B' bc' _ (by omega) (by simp) HA3.out hro.out (by omega) (by omega) (by rw [show ((tk.length + 1 : Nat) : Int) = (tk.length : Int) + 1 from rfl]; omega)
    rw [← HFF.out n r' (best', least')] at ci
    obtain ⟨⟨best3, least3⟩, hst⟩ : ∃ st, F n r' (best', least') = st := ⟨_, rfl⟩
    rw [hst, show ((tk.length + 1 : Nat) : Int) = (tk.length : Int) + 1 from rfl] at ci
    have HST := Lib.hid hst
    refine ci.mono ?_
    clear ci hst
    rintro e V3 ⟨rfl, T3, tc3, B3, bc3, hC3⟩
    have hlen3 : (tk ++ [(n : Int)]).length = tk.length + 1 := by simp
    have htk3 := hC3.tak
    rw [hlen3] at htk3
    obtain ⟨t3, of3, rfl, _, _⟩ := (Rds.of_own htk3).at (by omega)
    obtain ⟨ht31, ht32, rfl⟩ := own_block htk3 rfl
    have hcap3 := own_cap htk3
    have H4 := hC3.cut tk.length (by simp)
    rw [show (tk ++ [(n : Int)]).take tk.length = tk by simp] at H4
    have HC4 := Lib.hid H4
    have hbel3 := hC3.bel
    clear c0 c1 c2 c3 c4 c5 f3 f4 f5 hCr HA3 q3f q3c q3l hbo3 o03 o13 hpl'
    obtain ⟨hpl', ⟨c0, c1, c2, c3, c4, c5⟩, f3, f4, f5⟩ := hC3.cells
    rw [hlen3] at c3
    have hcap4 : (tk.length : Int) ≤ (tc3 : Int) := by omega
    have hle4 : (tk.length : Int) ≤ (tk.length : Int) + 1 := by omega
    clear hC3 H4 htk3 hlen3
    go_wp2_with fail
    refine wpg (R := fun V => WK W V p A (some ⟨bo, offo, none⟩) c d l os (some ⟨la, 0, none⟩) lc r' tk best3 least3 (some ⟨t3, 0, none⟩) tc3 B3 bc3) HC4.out (fun V4 hC4 => ?_)
    clear HC4 c0 c1 c2 c3 c4 c5 f3 f4 f5 hpl' hbel3
    have HC4 := Lib.hid hC4
    obtain ⟨hpl', ⟨c0, c1, c2, c3, c4, c5⟩, f3, f4, f5⟩ := hC4.cells
    obtain ⟨hbo4, o04, o14⟩ := OC.out V4 hC4.bel
    have hlal := (hC4.lef.lt la rfl).2
    clear hC4
    go_loopw [9, 10] (fun fb ii wr => ∃ (i : Nat) (b : Bool), fb = .bool b ∧ ii = i64 i ∧ i ≤ l.length ∧ Hid (((List.range i).all fun x => decide (iat m x ≤ iat r' x)) = b) ∧ ∃ g : Up V4, wr = up V4 g) (fun _ ii _ => l.length - (intOf ii).toNat)
    case atStart => exact ⟨0, true, rfl, rfl, by omega, by simp [Hid], ex_up (by repeat (first | exact Below.refl _ _ | refine bl_tr ?_ _ | refine bl_al ?_ _ | refine bl_dr ?_ | refine bl_up ?_ _ | refine Below.drew ?_ | refine bl_alloc ?_ _ | refine Below.setCell ?_ (by first | (simp; done) | (simp; omega)) _))⟩
    case round =>
      obtain ⟨i, b, rfl, rfl, hi, hb, g, rfl⟩ := hrel
      by_cases hil : i < l.length
      · have hz0 := HC4.out.lef.cellAt i (by omega)
        rw [ics_get (show i < r'.length by have := hro.out.1; omega), iat_eq (show i < r'.length by have := hro.out.1; omega)] at hz0
        obtain ⟨hbi4, m04⟩ := MC.out V4 HC4.out.bel i hil
        have hsu := all_succ (i := i) (fun x => decide (iat m x ≤ iat r' x))
        rw [hb.out] at hsu
        cases b with
        | false =>
          have hN := Lib.hid (show ((List.range (i + 1)).all fun x => decide (iat m x ≤ iat r' x)) = false by rw [hsu]; rfl)
          clear hsu
          go_wp2_with (first | ((with_reducible refine wp_region_up (by kernel_rfl) (by kernel_rfl) ?_); (repeat (go_big_quiet_step (fail))); refine wpQuiet_nil ?_; intro _ hw'; obtain ⟨nq, hw''⟩ := hw'; subst hw''))
          go_roundw
          case rel => exact ⟨i + 1, false, rfl, by go_num, by omega, hN, ex_up (by repeat (first | exact Below.refl _ _ | refine bl_tr ?_ _ | refine bl_al ?_ _ | refine bl_dr ?_ | refine bl_up ?_ _ | refine Below.drew ?_ | refine bl_alloc ?_ _ | refine Below.setCell ?_ (by first | (simp; done) | (simp; omega)) _))⟩
          case measure => (simp [intOf]; try omega)
        | true =>
          obtain ⟨q, hq⟩ : ∃ q, decide (iat r' i ≥ iat m i) = q := ⟨_, rfl⟩
          have hN := Lib.hid (show ((List.range (i + 1)).all fun x => decide (iat m x ≤ iat r' x)) = q by rw [hsu, Bool.true_and]; exact hq)
          clear hsu
          go_wp2_with (first | ((with_reducible refine wp_region_up (by kernel_rfl) (by kernel_rfl) ?_); (repeat (go_big_quiet_step (fail))); refine wpQuiet_nil ?_; intro _ hw'; obtain ⟨nq, hw''⟩ := hw'; subst hw''))
          go_roundw
          case rel => exact ⟨i + 1, q, rfl, by go_num, by omega, hN, ex_up (by repeat (first | exact Below.refl _ _ | refine bl_tr ?_ _ | refine bl_al ?_ _ | refine bl_dr ?_ | refine bl_up ?_ _ | refine Below.drew ?_ | refine bl_alloc ?_ _ | refine Below.setCell ?_ (by first | (simp; done) | (simp; omega)) _))⟩
          case measure => (simp [intOf]; try omega)
      · obtain rfl : i = l.length := by omega
        have hfb := Lib.hid (show fitsM r' m = b by rw [fitsM, HML.out]; exact hb.out)
        cases b with
        | false =>
          have hno := Lib.hid (show (best3, least3) = fin by rw [← hlo.out, lop_no hn hfb.out, HST.out])
          go_wp2_with (first | ((with_reducible refine wp_region_up (by kernel_rfl) (by kernel_rfl) ?_); (repeat (go_big_quiet_step (fail))); refine wpQuiet_nil ?_; intro _ hw'; obtain ⟨nq, hw''⟩ := hw'; subst hw''))
          refine wpg (R := fun V => WK W V p A (some ⟨bo, offo, none⟩) c d l os (some ⟨la, 0, none⟩) lc r' tk best3 least3 (some ⟨t3, 0, none⟩) tc3 B3 bc3) (HC4.out.below' (by repeat (first | exact Below.refl _ _ | refine bl_tr ?_ _ | refine bl_al ?_ _ | refine bl_dr ?_ | refine bl_up ?_ _ | refine Below.drew ?_ | refine bl_alloc ?_ _ | refine Below.setCell ?_ (by first | (simp; done) | (simp; omega)) _))) (fun V5 hC5 => ?_)
          have HC5 := Lib.hid hC5
          obtain ⟨hpl', ⟨c0, c1, c2, c3, c4, c5⟩, f3, f4, f5⟩ := hC5.cells
          obtain ⟨hbo4, o04, o14⟩ := OC.out V5 hC5.bel
          have hlal := (hC5.lef.lt la rfl).2
          go_loopw [12] (fun ii wr => ∃ (i : Nat) (ys : List Int), ii = i64 i ∧ i ≤ l.length ∧ Hid (ys.length = l.length) ∧ Hid (∀ x, x < l.length → iat ys x = if x < i then iat r x else iat r' x) ∧ Hid (WK W wr p A (some ⟨bo, offo, none⟩) c d l os (some ⟨la, 0, none⟩) lc ys tk best3 least3 (some ⟨t3, 0, none⟩) tc3 B3 bc3)) (fun ii _ => l.length - (intOf ii).toNat)
          case atStart => exact ⟨0, r', rfl, by omega, hro.out.1, fun x hx => by rw [if_neg (by omega)], HC5.out⟩
          case round =>
            obtain ⟨i, ys, rfl, hi, hyl, hyv, hyC⟩ := hrel
            clear c0 c1 c2 c3 c4 c5 f3 f4 f5 hpl' o04 o14 hbo4 hlal HC5
            by_cases hil : i < l.length
            · have hri := hrv.out i hil
              have hq2 : 0 ≤ (n : Int) * iat m i := Int.mul_nonneg (by omega) (HMB.out i (by have := HML.out; omega)).1
              have hq3 : (n : Int) * iat m i ≤ 800 := Int.le_trans (Int.mul_le_mul (show (n : Int) ≤ 40 by omega) (HMB.out i (by have := HML.out; omega)).2 (HMB.out i (by have := HML.out; omega)).1 (by omega)) (by omega)
              have hset := Lib.hid (show iat r' i + (n : Int) * iat m i = iat r i by omega)
              clear hri
              obtain ⟨hpl', ⟨c0, c1, c2, c3, c4, c5⟩, f3, f4, f5⟩ := hyC.out.cells
              obtain ⟨hbo4, o04, o14⟩ := OC.out wr hyC.out.bel
              have hlal := (hyC.out.lef.lt la rfl).2
              obtain ⟨hbi4, m04⟩ := MC.out wr hyC.out.bel i hil
              have hyi := hyv.out i hil
              rw [if_neg (by omega)] at hyi
              have hy0 := hyC.out.lef.cellAt i (by omega)
              rw [ics_get (show i < ys.length by have := hyl.out; omega), iat_eq (show i < ys.length by have := hyl.out; omega), hyi] at hy0
              have hyf := hyC.out.lef.frozenAt i
              obtain ⟨v0, v1⟩ := HMB.out i (by have := HML.out; omega)
              obtain ⟨u0, u1⟩ := hro.out.2.1 i (by have := hro.out.1; omega)
              clear hyi
              refine as_up fun g0 => ?_
              go_wp2_with fail
              go_still_tail 18, (by kernel_rfl)
              change wpList _ _ _ _ _ (World.drew _)
              rw [drew_up]
              go_wp2_with fail
              go_roundw
              case rel => exact ⟨i + 1, ys.set i (iat r' i + (n : Int) * iat m i), by go_num, by omega, (show (ys.set i _).length = l.length by rw [List.length_set]; exact hyl.out), (fun x hx => by
                rw [hset.out, iat_set (by have := hyl.out; omega)]
                by_cases e : x = i
                · subst e; rw [if_pos rfl, if_pos (by omega)]
                · rw [if_neg e, hyv.out x hx]
                  by_cases h9 : x < i
                  · rw [if_pos h9, if_pos (by omega)]
                  · rw [if_neg h9, if_neg (by omega)]), (hyC.out.below' (V' := up wr g0.dr) (by repeat (first | exact Below.refl _ _ | refine bl_tr ?_ _ | refine bl_al ?_ _ | refine bl_dr ?_ | refine bl_up ?_ _ | refine Below.drew ?_ | refine bl_alloc ?_ _ | refine Below.setCell ?_ (by first | (simp; done) | (simp; omega)) _))).put i (iat r' i + (n : Int) * iat m i)⟩
              case measure => (simp [intOf]; try omega)
            · obtain rfl : i = l.length := by omega
              have hys : ys = r := by
                refine ints_ext (by rw [hyl.out, HRS.out.1]) (fun x hx => ?_)
                have hx' : x < l.length := by have := hyl.out; omega
                rw [hyv.out x hx', if_pos hx']
              subst hys
              obtain ⟨hpl', ⟨c0, c1, c2, c3, c4, c5⟩, f3, f4, f5⟩ := hyC.out.cells
              obtain ⟨hbo4, o04, o14⟩ := OC.out wr hyC.out.bel
              have hlal := (hyC.out.lef.lt la rfl).2
              go_wp2_with (first | ((with_reducible refine wp_region_up (by kernel_rfl) (by kernel_rfl) ?_); (repeat (go_big_quiet_step (fail))); refine wpQuiet_nil ?_; intro _ hw'; obtain ⟨nq, hw''⟩ := hw'; subst hw''))
              go_end0
              rw [← hno.out]
              exact ⟨rfl, _, _, _, _, hyC.out.below' (by repeat (first | exact Below.refl _ _ | refine bl_tr ?_ _ | refine bl_al ?_ _ | refine bl_dr ?_ | refine bl_up ?_ _ | refine Below.drew ?_ | refine bl_alloc ?_ _ | refine Below.setCell ?_ (by first | (simp; done) | (simp; omega)) _))⟩
        | true =>
          go_wp2_with (first | ((with_reducible refine wp_region_up (by kernel_rfl) (by kernel_rfl) ?_); (repeat (go_big_quiet_step (fail))); refine wpQuiet_nil ?_; intro _ hw'; obtain ⟨nq, hw''⟩ := hw'; subst hw''))
          refine wpg (R := fun V => WK W V p A (some ⟨bo, offo, none⟩) c d l os (some ⟨la, 0, none⟩) lc r' tk best3 least3 (some ⟨t3, 0, none⟩) tc3 B3 bc3) (HC4.out.below' (by repeat (first | exact Below.refl _ _ | refine bl_tr ?_ _ | refine bl_al ?_ _ | refine bl_dr ?_ | refine bl_up ?_ _ | refine Below.drew ?_ | refine bl_alloc ?_ _ | refine Below.setCell ?_ (by first | (simp; done) | (simp; omega)) _))) (fun V5 hC5 => ?_)
          have HC5 := Lib.hid hC5
          obtain ⟨hpl', ⟨c0, c1, c2, c3, c4, c5⟩, f3, f4, f5⟩ := hC5.cells
          obtain ⟨hbo4, o04, o14⟩ := OC.out V5 hC5.bel
          have hlal := (hC5.lef.lt la rfl).2
          go_loopw [11] (fun ii wr => ∃ (i : Nat) (ys : List Int), ii = i64 i ∧ i ≤ l.length ∧ Hid (ys.length = l.length) ∧ Hid (∀ x, x < l.length → iat ys x = if x < i then iat r' x - iat m x else iat r' x) ∧ Hid (WK W wr p A (some ⟨bo, offo, none⟩) c d l os (some ⟨la, 0, none⟩) lc ys tk best3 least3 (some ⟨t3, 0, none⟩) tc3 B3 bc3)) (fun ii _ => l.length - (intOf ii).toNat)
          case atStart => exact ⟨0, r', rfl, by omega, hro.out.1, fun x hx => by rw [if_neg (by omega)], HC5.out⟩
          case round =>
            obtain ⟨i, ys, rfl, hi, hyl, hyv, hyC⟩ := hrel
            clear c0 c1 c2 c3 c4 c5 f3 f4 f5 hpl' o04 o14 hbo4 hlal HC5
            by_cases hil : i < l.length
            · obtain ⟨hpl', ⟨c0, c1, c2, c3, c4, c5⟩, f3, f4, f5⟩ := hyC.out.cells
              obtain ⟨hbo4, o04, o14⟩ := OC.out wr hyC.out.bel
              have hlal := (hyC.out.lef.lt la rfl).2
              obtain ⟨hbi4, m04⟩ := MC.out wr hyC.out.bel i hil
              have hyi := hyv.out i hil
              rw [if_neg (by omega)] at hyi
              have hy0 := hyC.out.lef.cellAt i (by omega)
              rw [ics_get (show i < ys.length by have := hyl.out; omega), iat_eq (show i < ys.length by have := hyl.out; omega), hyi] at hy0
              have hyf := hyC.out.lef.frozenAt i
              obtain ⟨v0, v1⟩ := HMB.out i (by have := HML.out; omega)
              obtain ⟨u0, u1⟩ := hro.out.2.1 i (by have := hro.out.1; omega)
              clear hyi
              refine as_up fun g0 => ?_
              go_wp2_with fail
              go_still_tail 16, (by kernel_rfl)
              change wpList _ _ _ _ _ (World.drew _)
              rw [drew_up]
              go_wp2_with fail
              go_roundw
              case rel => exact ⟨i + 1, ys.set i (iat r' i - iat m i), by go_num, by omega, (show (ys.set i _).length = l.length by rw [List.length_set]; exact hyl.out), (fun x hx => by
                rw [iat_set (by have := hyl.out; omega)]
                by_cases e : x = i
                · subst e; rw [if_pos rfl, if_pos (by omega)]
                · rw [if_neg e, hyv.out x hx]
                  by_cases h9 : x < i
                  · rw [if_pos h9, if_pos (by omega)]
                  · rw [if_neg h9, if_neg (by omega)]), (hyC.out.below' (V' := up wr g0.dr) (by repeat (first | exact Below.refl _ _ | refine bl_tr ?_ _ | refine bl_al ?_ _ | refine bl_dr ?_ | refine bl_up ?_ _ | refine Below.drew ?_ | refine bl_alloc ?_ _ | refine Below.setCell ?_ (by first | (simp; done) | (simp; omega)) _))).put i (iat r' i - iat m i)⟩
              case measure => (simp [intOf]; try omega)
            · obtain rfl : i = l.length := by omega
              have hys : ys = subM r' m := by
                refine ints_ext (by rw [subM_len, hyl.out, hro.out.1]) (fun x hx => ?_)
                have hx' : x < l.length := by have := hyl.out; omega
                rw [hyv.out x hx', if_pos hx', subM_at (by have := hro.out.1; omega)]
              have hro2 := restOk_sub hro.out (by rw [HML.out, hro.out.1]) (fun x hx => (HMB.out x hx).1) hms hfb.out
              have hpos := restOk_pos hro2
              have HRO2 := Lib.hid hro2
              have hlo2 := hlo.out
              rw [lop_fit hn hfb.out, HST.out] at hlo2
              have HLO2 := Lib.hid hlo2
              have HSV := Lib.hid (show ∀ x, x < l.length → iat (subM r' m) x = iat r x - ((n + 1 : Nat) : Int) * iat m x from fun x hx => by
                rw [subM_at (by have := hro.out.1; omega), hrv.out x hx, show ((n + 1 : Nat) : Int) = (n : Int) + 1 from rfl, Int.add_mul, Int.one_mul]
                omega)
              subst hys
              clear hlo2 hro2
              obtain ⟨hpl', ⟨c0, c1, c2, c3, c4, c5⟩, f3, f4, f5⟩ := hyC.out.cells
              obtain ⟨hbo4, o04, o14⟩ := OC.out wr hyC.out.bel
              have hlal := (hyC.out.lef.lt la rfl).2
              go_wp2_with (first | ((with_reducible refine wp_region_up (by kernel_rfl) (by kernel_rfl) ?_); (repeat (go_big_quiet_step (fail))); refine wpQuiet_nil ?_; intro _ hw'; obtain ⟨nq, hw''⟩ := hw'; subst hw''))
              go_roundw
              case rel => exact ⟨n + 1, subM r' m, best3, least3, some ⟨t3, 0, none⟩, tc3, B3, bc3, by go_num, by omega, hyC.out.below' (by repeat (first | exact Below.refl _ _ | refine bl_tr ?_ _ | refine bl_al ?_ _ | refine bl_dr ?_ | refine bl_up ?_ _ | refine Below.drew ?_ | refine bl_alloc ?_ _ | refine Below.setCell ?_ (by first | (simp; done) | (simp; omega)) _)), (show restOk l (subM r' m) (s - ((n + 1 : Nat) : Int)) by rw [show s - ((n + 1 : Nat) : Int) = s - n - 1 by omega]; exact HRO2.out), HLO2.out, HSV.out⟩
              case measure => (simp [intOf]; try omega)
end Go.Proofs.Ytiibpldfnnhhlaa

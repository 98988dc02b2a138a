/-
  The law's copy and measure of a desk. The bounds stand at each.
-/
import Derived.Test.YtbianlkenallaaaDoorMgA
import Derived.Test.YtbianlkenallaaaDoorIntsTo
namespace Go.Proofs.YtbianlkenallaaaDoor
open Go.RowKit
theorem toBasket_any (b : Bsk) (w : World) : Calls Tryd.prog 15 #[bsv b] w fun e w' => e = .returned (bsv b) ∧ UpOf w w' := by
  go_enter Tryd.func15, Tryd.ntmps15
  go_wp2_with (first | ((with_reducible refine wp_region_up (by kernel_rfl) (by kernel_rfl) ?_); (repeat (go_big_quiet_step (fail))); refine wpQuiet_nil ?_; intro _ hw'; obtain ⟨nq, hw''⟩ := hw'; subst hw''))
  exact bodyPost_ret (v := bsv b) (by simp [results, Tryd.results15, go_sem]) rfl ⟨rfl, UpOf.of (by repeat (first | exact Below.refl _ _ | refine bl_tr ?_ _ | refine bl_al ?_ _ | refine bl_dr ?_ | refine bl_up ?_ _ | refine Below.drew ?_ | refine bl_alloc ?_ _ | refine Below.setCell ?_ (by first | (simp; done) | (simp; omega)) _))⟩
theorem calls_gen {P : Program} {f : FuncId} {args : Array Value} {w : World} {Q : Ending → World → Prop} {R : World → Prop} (st : R w) (h : ∀ W, R W → Calls P f args W Q) : Calls P f args w Q := h w st
theorem post_gen {P : Program} {F : Func} {Q : Ending → World → Prop} {x : Exit} {a : Act} {w : World} {R : World → Prop} (st : R w) (h : ∀ W, R W → bodyPost P F Q x a W) : bodyPost P F Q x a w := h w st
theorem act_gen {K : Act → World → Prop} {a : Act} {w : World} {R : World → Prop} (st : R w) (h : ∀ W, R W → K a W) : K a w := h w st
/-- an argument's box, the result's cells, the cells that are filled -/
structure TD (w W : World) (p q s : Nat) (x r o : Array Value) : Prop where
  box : Box W p x
  res : Blk W q 33 r
  out : Blk W s 33 o
  bel : Below w.heap.size w W
  ps : p ≠ s
  qs : q ≠ s
  pq : p ≠ q
  hs : w.heap.size ≤ s
  hq : w.heap.size ≤ q
section
variable {w W W' : World} {p q s : Nat} {x r o : Array Value}
theorem TD.below (h : TD w W p q s x r o) (hb : Below W.heap.size W W') : TD w W' p q s x r o :=
  ⟨h.box.below hb, (hb.block q h.res.lt).trans h.res, (hb.block s h.out.lt).trans h.out, h.bel.trans (hb.mono h.bel.size), h.ps, h.qs, h.pq, h.hs, h.hq⟩
theorem TD.up (h : TD w W p q s x r o) (g : Up W) : TD w (Go.Proofs.YtbianlkenallaaaDoor.up W g) p q s x r o := h.below g.below
theorem box_far {b : Nat} (h : Box W b x) {a : Addr} (hp : b ≠ a.block) (u : Value) : Box (W.setCell a u) b x :=
  ⟨by simpa [World.setCell] using h.1, fun i u' hu => (World.cell?_of_block (w := W) (Below.heap_setCell W a u b hp)).trans (h.2 i u' hu)⟩
theorem TD.put (h : TD w W p q s x r o) (i : Nat) (u : Value) : TD w (W.setCell ⟨s, i, none⟩ u) p q s x r (o.setIfInBounds i u) :=
  ⟨box_far h.box h.ps _, h.res.far h.qs _, h.out.put i u, h.bel.setCell h.hs _, h.ps, h.qs, h.pq, h.hs, h.hq⟩
theorem TD.putR (h : TD w W p q s x r o) (i : Nat) (u : Value) : TD w (W.setCell ⟨q, i, none⟩ u) p q s x (r.setIfInBounds i u) o :=
  ⟨box_far h.box h.pq _, h.res.put i u, h.out.far (Ne.symm h.qs) _, h.bel.setCell h.hq _, h.ps, h.qs, h.pq, h.hs, h.hq⟩
theorem TD.outs {o0 o1 o2 o3 o4 o5 o6 o7 : Value} (h : TD w W p q s x r #[o0, o1, o2, o3, o4, o5, o6, o7]) : s < W.heap.size ∧ W.cell? ⟨s, 0, none⟩ = some o0 ∧ W.cell? ⟨s, 1, none⟩ = some o1 ∧ W.cell? ⟨s, 2, none⟩ = some o2 ∧ W.cell? ⟨s, 3, none⟩ = some o3 ∧
    W.cell? ⟨s, 4, none⟩ = some o4 ∧ W.cell? ⟨s, 5, none⟩ = some o5 ∧ W.cell? ⟨s, 6, none⟩ = some o6 ∧ W.cell? ⟨s, 7, none⟩ = some o7 ∧ (∀ i, W.frozen? ⟨s, i, none⟩ = false) :=
  ⟨h.out.lt, h.out.cell 0, h.out.cell 1, h.out.cell 2, h.out.cell 3, h.out.cell 4, h.out.cell 5, h.out.cell 6, h.out.cell 7, fun i => h.out.free i⟩
theorem TD.ress {o0 o1 o2 o3 o4 o5 o6 o7 : Value} (h : TD w W p q s x #[o0, o1, o2, o3, o4, o5, o6, o7] o) : q < W.heap.size ∧ W.cell? ⟨q, 0, none⟩ = some o0 ∧ W.cell? ⟨q, 1, none⟩ = some o1 ∧ W.cell? ⟨q, 2, none⟩ = some o2 ∧ W.cell? ⟨q, 3, none⟩ = some o3 ∧
    W.cell? ⟨q, 4, none⟩ = some o4 ∧ W.cell? ⟨q, 5, none⟩ = some o5 ∧ W.cell? ⟨q, 6, none⟩ = some o6 ∧ W.cell? ⟨q, 7, none⟩ = some o7 ∧ (∀ i, W.frozen? ⟨q, i, none⟩ = false) :=
  ⟨h.res.lt, h.res.cell 0, h.res.cell 1, h.res.cell 2, h.res.cell 3, h.res.cell 4, h.res.cell 5, h.res.cell 6, h.res.cell 7, fun i => h.res.free i⟩
theorem TD.all {r0 r1 r2 r3 r4 r5 r6 r7 : Value} (h : TD w W p q s x #[r0, r1, r2, r3, r4, r5, r6, r7] o) (u0 u1 u2 u3 u4 u5 u6 u7 : Value) : TD w ((((((((W.setCell ⟨q, 0, none⟩ u0).setCell ⟨q, 1, none⟩ u1).setCell ⟨q, 2, none⟩ u2).setCell ⟨q, 3, none⟩ u3).setCell ⟨q, 4, none⟩ u4).setCell ⟨q, 5, none⟩ u5).setCell ⟨q, 6, none⟩ u6).setCell ⟨q, 7, none⟩ u7) p q s x #[u0, u1, u2, u3, u4, u5, u6, u7] o := by
  have h0 : TD w _ p q s x #[u0, r1, r2, r3, r4, r5, r6, r7] o := h.putR 0 u0
  have h1 : TD w _ p q s x #[u0, u1, r2, r3, r4, r5, r6, r7] o := h0.putR 1 u1
  have h2 : TD w _ p q s x #[u0, u1, u2, r3, r4, r5, r6, r7] o := h1.putR 2 u2
  have h3 : TD w _ p q s x #[u0, u1, u2, u3, r4, r5, r6, r7] o := h2.putR 3 u3
  have h4 : TD w _ p q s x #[u0, u1, u2, u3, u4, r5, r6, r7] o := h3.putR 4 u4
  have h5 : TD w _ p q s x #[u0, u1, u2, u3, u4, u5, r6, r7] o := h4.putR 5 u5
  have h6 : TD w _ p q s x #[u0, u1, u2, u3, u4, u5, u6, r7] o := h5.putR 6 u6
  have h7 : TD w _ p q s x #[u0, u1, u2, u3, u4, u5, u6, u7] o := h6.putR 7 u7
  exact h7
end
abbrev zc : Array Value := #[i64 0, i64 0, i64 0, i64 0, i64 0, .slice none 0 0, .slice none 0 0, .string ⟨#[]⟩]
theorem own_setOld {w : World} {base : Nat} {e : TypeId} {size : Nat} {v : Value} {n : Nat} {xs : List Value} (h : w.ownsRow base e size v n xs) {p : Addr} (hp : p.block < base) (u : Value) : (w.setCell p u).ownsRow base e size v n xs := by
  refine h.kept (row := some p.block) ⟨rfl, rfl, rfl, by simp [World.setCell], fun k _ hne => Below.heap_setCell w p u k (fun e => hne (by rw [e]))⟩ ?_
  cases hv : v.ownBlock with
  | none => exact .inl rfl
  | some k =>
    refine .inr fun he => ?_
    injection he with he
    have := (h.lt k hv).1
    omega
theorem own_all {W : World} {q base : Nat} {e : TypeId} {size : Nat} {v : Value} {n : Nat} {xs : List Value} (h : W.ownsRow base e size v n xs) (hp : q < base) (u0 u1 u2 u3 u4 u5 u6 u7 : Value) : (((((((((W.setCell ⟨q, 0, none⟩ u0).setCell ⟨q, 1, none⟩ u1).setCell ⟨q, 2, none⟩ u2).setCell ⟨q, 3, none⟩ u3).setCell ⟨q, 4, none⟩ u4).setCell ⟨q, 5, none⟩ u5).setCell ⟨q, 6, none⟩ u6).setCell ⟨q, 7, none⟩ u7)).ownsRow base e size v n xs := by
  have h0 := own_setOld (p := ⟨q, 0, none⟩) h hp u0
  have h1 := own_setOld (p := ⟨q, 1, none⟩) h0 hp u1
  have h2 := own_setOld (p := ⟨q, 2, none⟩) h1 hp u2
  have h3 := own_setOld (p := ⟨q, 3, none⟩) h2 hp u3
  have h4 := own_setOld (p := ⟨q, 4, none⟩) h3 hp u4
  have h5 := own_setOld (p := ⟨q, 5, none⟩) h4 hp u5
  have h6 := own_setOld (p := ⟨q, 6, none⟩) h5 hp u6
  have h7 := own_setOld (p := ⟨q, 7, none⟩) h6 hp u7
  exact h7
theorem td_new (w : World) (x : Array Value) : TD w (((w.alloc (.cells x 27)).alloc (.cells zc 33)).alloc (.cells zc 33)) w.heap.size (w.heap.size + 1) (w.heap.size + 1 + 1) x zc zc := by
  have e1 : (w.alloc (.cells x 27)).heap.size = w.heap.size + 1 := by simp
  have e2 : ((w.alloc (.cells x 27)).alloc (.cells zc 33)).heap.size = w.heap.size + 1 + 1 := by simp
  have X1 := (Blk.new (w.alloc (.cells x 27)) 33 zc).alloc (.cells zc 33)
  have X2 := Blk.new ((w.alloc (.cells x 27)).alloc (.cells zc 33)) 33 zc
  rw [e1] at X1
  rw [e2] at X2
  exact ⟨(Box.new w x 27).below (by repeat (first | exact Below.refl _ _ | refine bl_tr ?_ _ | refine bl_al ?_ _ | refine bl_dr ?_ | refine bl_up ?_ _ | refine Below.drew ?_ | refine bl_alloc ?_ _ | refine Below.setCell ?_ (by first | (simp; done) | (simp; omega)) _)), X1, X2, (by repeat (first | exact Below.refl _ _ | refine bl_tr ?_ _ | refine bl_al ?_ _ | refine bl_dr ?_ | refine bl_up ?_ _ | refine Below.drew ?_ | refine bl_alloc ?_ _ | refine Below.setCell ?_ (by first | (simp; done) | (simp; omega)) _)), by omega, by omega, by omega, by omega, by omega⟩
/-- the desk's slices are the call's own -/
def DOwn (base : Nat) (w : World) (d : DeskD) (A B : Option Addr) (c e : Nat) : Prop := w.ownsRow base 2 1 (.slice A d.stops.length c) d.stops.length (ics d.stops) ∧ w.ownsRow base 62 3 (.slice B d.drills.length e) d.drills.length (drcs d.drills)
theorem DOwn.see {base : Nat} {w : World} {d : DeskD} {A B : Option Addr} {c e : Nat} (h : DOwn base w d A B c e) : DSee w d A B := ⟨Rds.of_own h.1, Rds.of_own h.2⟩
set_option maxRecDepth 10000 in
set_option maxHeartbeats 1000000 in
theorem toDeskO_any (d : DeskD) (A B : Option Addr) (c e : Nat) (w : World) (h : DSee w d A B) (hn : d.stops.length ≤ 100000000) (hm : d.drills.length ≤ 100000000) :
    Calls Tryd.prog 7 #[dkv d A B c e] w fun r w' => ∃ A' B', r = .returned (dkv d A' B' d.stops.length d.drills.length) ∧ DOwn w.heap.size w' d A' B' d.stops.length d.drills.length ∧ UpOf w w' := by
  have H := Lib.hid h
  clear h
  go_enter Tryd.func7, Tryd.ntmps7
  go_wp2_with fail
  have hs0 := td_new w (dkcs d A B c e)
  generalize w.heap.size + 1 + 1 = s at *
  generalize w.heap.size + 1 = q at *
  generalize hp : w.heap.size = p at *
  refine calls_gen (R := fun V => TD w V p q s (dkcs d A B c e) zc zc) hs0 (fun W0 st0 => ?_)
  have S0 := Lib.hid st0
  obtain ⟨l1, _, _, _, _, _, x5, x6, x7⟩ := st0.box.eight
  obtain ⟨l3, z0, z1, z2, z3, z4, z5, z6, z7, f3⟩ := st0.outs
  clear hs0 st0
  refine (toBasket_any d.b _).mono ?_
  rintro r w' ⟨rfl, g1, rfl⟩
  go_wp2_with fail
  refine calls_gen (R := fun V => TD w V p q s (dkcs d A B c e) zc #[i64 d.b.bars, i64 d.b.rise, i64 d.b.fall, i64 d.b.clr, i64 d.b.near, .slice none 0 0, .slice none 0 0, .string ⟨#[]⟩]) ((((((S0.out.up g1).put 0 (i64 d.b.bars)).put 1 (i64 d.b.rise)).put 2 (i64 d.b.fall)).put 3 (i64 d.b.clr)).put 4 (i64 d.b.near)) (fun W1 st1 => ?_)
  have S1 := Lib.hid st1
  have hpW1 : p ≤ W1.heap.size := Nat.le_trans (Nat.le_of_eq hp.symm) S1.out.bel.size
  clear l1 x5 x6 x7 l3 z0 z1 z2 z3 z4 z5 z6 z7 f3
  obtain ⟨l1, _, _, _, _, _, x5, x6, x7⟩ := st1.box.eight
  obtain ⟨l3, z0, z1, z2, z3, z4, z5, z6, z7, f3⟩ := st1.outs
  clear st1
  refine (toInt64S_any _ _ _ _ (H.out.1.below S1.out.bel) hn).mono ?_
  rintro r w' ⟨b2, rfl, o2, g2, rfl⟩
  go_wp2_with fail
  refine calls_gen (R := fun V => TD w V p q s (dkcs d A B c e) zc #[i64 d.b.bars, i64 d.b.rise, i64 d.b.fall, i64 d.b.clr, i64 d.b.near, .slice (some ⟨b2, 0, none⟩) d.stops.length d.stops.length, .slice none 0 0, .string ⟨#[]⟩] ∧
    V.ownsRow W1.heap.size 2 1 (.slice (some ⟨b2, 0, none⟩) d.stops.length d.stops.length) d.stops.length (ics d.stops) ∧ W1.heap.size ≤ V.heap.size) ⟨(S1.out.up g2).put 5 _, own_setOld o2 l3 _, by simp [World.setCell]⟩ (fun W2 st2 => ?_)
  have S2 := Lib.hid st2
  have hpW2 : p ≤ W2.heap.size := Nat.le_trans (Nat.le_of_eq hp.symm) S2.out.1.bel.size
  have hq1 : q < W1.heap.size := S1.out.res.lt
  clear l1 x5 x6 x7 z0 z1 z2 z3 z4 z5 z6 z7 f3
  obtain ⟨l1, _, _, _, _, _, x5, x6, x7⟩ := st2.1.box.eight
  obtain ⟨l4, z0, z1, z2, z3, z4, z5, z6, z7, f3⟩ := st2.1.outs
  obtain ⟨l5, y0, y1, y2, y3, y4, y5, y6, y7, f4⟩ := st2.1.ress
  clear st2 o2
  refine (toDrillS_any _ _ _ _ (H.out.2.below S2.out.1.bel) hm).mono ?_
  rintro r w' ⟨b3, rfl, o3, g3, rfl⟩
  have o2 := own_up S2.out.2.1 g3
  simp only []
  iterate 6 go_step
  refine act_gen (R := fun V => TD w V p q s (dkcs d A B c e) zc #[i64 d.b.bars, i64 d.b.rise, i64 d.b.fall, i64 d.b.clr, i64 d.b.near, .slice (some ⟨b2, 0, none⟩) d.stops.length d.stops.length, .slice (some ⟨b3, 0, none⟩) d.drills.length d.drills.length, .string ⟨#[]⟩] ∧
    V.ownsRow W1.heap.size 2 1 (.slice (some ⟨b2, 0, none⟩) d.stops.length d.stops.length) d.stops.length (ics d.stops) ∧
    V.ownsRow W2.heap.size 62 3 (.slice (some ⟨b3, 0, none⟩) d.drills.length d.drills.length) d.drills.length (drcs d.drills)) ⟨(S2.out.1.up g3).put 6 _, own_setOld o2 l3 _, own_setOld o3 l4 _⟩ (fun W3 st3 => ?_)
  have S3 := Lib.hid st3
  have hq2 : q < W2.heap.size := l5
  clear l1 x5 x6 x7 z0 z1 z2 z3 z4 z5 z6 z7 f3 l5 y0 y1 y2 y3 y4 y5 y6 y7 f4 o2 o3
  obtain ⟨l1, _, _, _, _, _, x5, x6, x7⟩ := st3.1.box.eight
  obtain ⟨l6, z0, z1, z2, z3, z4, z5, z6, z7, f3⟩ := st3.1.outs
  clear st3
  iterate 17 go_step
  refine act_gen (R := fun V => TD w V p q s (dkcs d A B c e) zc #[i64 d.b.bars, i64 d.b.rise, i64 d.b.fall, i64 d.b.clr, i64 d.b.near, .slice (some ⟨b2, 0, none⟩) d.stops.length d.stops.length, .slice (some ⟨b3, 0, none⟩) d.drills.length d.drills.length, .string d.log] ∧ V.ownsRow W1.heap.size 2 1 (.slice (some ⟨b2, 0, none⟩) d.stops.length d.stops.length) d.stops.length (ics d.stops) ∧ V.ownsRow W2.heap.size 62 3 (.slice (some ⟨b3, 0, none⟩) d.drills.length d.drills.length) d.drills.length (drcs d.drills)) ⟨S3.out.1.put 7 _, own_setOld S3.out.2.1 l3 _, own_setOld S3.out.2.2 l4 _⟩ (fun W4 st4 => ?_)
  have S4 := Lib.hid st4
  clear l1 x5 x6 x7 z0 z1 z2 z3 z4 z5 z6 z7 f3 l6
  obtain ⟨l6, z0, z1, z2, z3, z4, z5, z6, z7, f3⟩ := st4.1.outs
  obtain ⟨l5, y0, y1, y2, y3, y4, y5, y6, y7, f4⟩ := st4.1.ress
  clear st4
  iterate 11 go_step
  refine act_gen (R := fun V => TD w V p q s (dkcs d A B c e) #[i64 d.b.bars, i64 d.b.rise, i64 d.b.fall, i64 d.b.clr, i64 d.b.near, .slice (some ⟨b2, 0, none⟩) d.stops.length d.stops.length, .slice (some ⟨b3, 0, none⟩) d.drills.length d.drills.length, .string d.log] #[i64 d.b.bars, i64 d.b.rise, i64 d.b.fall, i64 d.b.clr, i64 d.b.near, .slice (some ⟨b2, 0, none⟩) d.stops.length d.stops.length, .slice (some ⟨b3, 0, none⟩) d.drills.length d.drills.length, .string d.log] ∧ V.ownsRow W1.heap.size 2 1 (.slice (some ⟨b2, 0, none⟩) d.stops.length d.stops.length) d.stops.length (ics d.stops) ∧ V.ownsRow W2.heap.size 62 3 (.slice (some ⟨b3, 0, none⟩) d.drills.length d.drills.length) d.drills.length (drcs d.drills)) ⟨S4.out.1.all _ _ _ _ _ _ _ _, own_all S4.out.2.1 hq1 _ _ _ _ _ _ _ _, own_all S4.out.2.2 hq2 _ _ _ _ _ _ _ _⟩ (fun W5 st5 => ?_)
  have S5 := Lib.hid st5
  clear l6 z0 z1 z2 z3 z4 z5 z6 z7 f3 l5 y0 y1 y2 y3 y4 y5 y6 y7 f4
  obtain ⟨l5, y0, y1, y2, y3, y4, y5, y6, y7, f4⟩ := st5.1.ress
  clear st5
  go_wp2_with fail
  exact bodyPost_ret (v := dkv d (some ⟨b2, 0, none⟩) (some ⟨b3, 0, none⟩) d.stops.length d.drills.length) (by simp [results, Tryd.results7, go_sem, y0, y1, y2, y3, y4, y5, y6, y7]) rfl ⟨_, _, rfl, ⟨own_mono S5.out.2.1 (Nat.le_trans (Nat.le_of_eq hp) hpW1), own_mono S5.out.2.2 (Nat.le_trans (Nat.le_of_eq hp) hpW2)⟩, UpOf.of S5.out.1.bel⟩
theorem toDesk_any (d : DeskD) (A B : Option Addr) (c e : Nat) (w : World) (h : DSee w d A B) (hn : d.stops.length ≤ 100000000) (hm : d.drills.length ≤ 100000000) :
    Calls Tryd.prog 7 #[dkv d A B c e] w fun r w' => ∃ A' B' c' e', r = .returned (dkv d A' B' c' e') ∧ DSee w' d A' B' ∧ UpOf w w' := by
  refine (toDeskO_any d A B c e w h hn hm).mono ?_
  rintro r w' ⟨A', B', rfl, ho, hu⟩
  exact ⟨A', B', _, _, rfl, ho.see, hu⟩
end Go.Proofs.YtbianlkenallaaaDoor

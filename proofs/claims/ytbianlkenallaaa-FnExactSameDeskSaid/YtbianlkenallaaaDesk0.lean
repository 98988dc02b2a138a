/-
  The console's state: contracts of the laws' own functions on it (equal, marked, held), and its beginning. The bounds stand at each.
-/
import Derived.Test.YtbianlkenallaaaDrills
import Derived.Test.YtbianlkenallaaaInts
namespace Go.Proofs.Ytbianlkenallaaa
open Go.RowKit
structure Bsk where
  bars : Int
  rise : Int
  fall : Int
  clr : Int
  near : Int
abbrev bsv (b : Bsk) : Value := .agg #[i64 b.bars, i64 b.rise, i64 b.fall, i64 b.clr, i64 b.near]
structure DeskD where
  b : Bsk
  stops : List Int
  drills : List Drill
  log : ByteArray
abbrev dkcs (d : DeskD) (A B : Option Addr) (c e : Nat) : Array Value := #[i64 d.b.bars, i64 d.b.rise, i64 d.b.fall, i64 d.b.clr, i64 d.b.near, .slice A d.stops.length c, .slice B d.drills.length e, .string d.log]
abbrev dkv (d : DeskD) (A B : Option Addr) (c e : Nat) : Value := .agg #[i64 d.b.bars, i64 d.b.rise, i64 d.b.fall, i64 d.b.clr, i64 d.b.near, .slice A d.stops.length c, .slice B d.drills.length e, .string d.log]
/-- what a desk's slices hold -/
def DSee (w : World) (d : DeskD) (A B : Option Addr) : Prop := Rds w 1 A d.stops.length (ics d.stops) ∧ Rds w 3 B d.drills.length (drcs d.drills)
theorem DSee.below {w w' : World} {d : DeskD} {A B : Option Addr} (h : DSee w d A B) (hb : Below w.heap.size w w') : DSee w' d A B := ⟨h.1.below hb, h.2.below hb⟩
/-- two boxes, one behind the other -/
theorem box2 (w : World) (x y : Array Value) (t t' : TypeId) : (∀ i, ((w.alloc (.cells x t)).alloc (.cells y t')).cell? ⟨w.heap.size, i, none⟩ = x[i]?) ∧ (∀ i, ((w.alloc (.cells x t)).alloc (.cells y t')).cell? ⟨w.heap.size + 1, i, none⟩ = y[i]?) ∧
    ((w.alloc (.cells x t)).alloc (.cells y t')).heap.size = w.heap.size + 2 ∧ Below w.heap.size w ((w.alloc (.cells x t)).alloc (.cells y t')) := by
  have e1 : (w.alloc (.cells x t)).heap.size = w.heap.size + 1 := by simp
  refine ⟨fun i => ?_, fun i => ?_, by simp, ((Below.refl _ _).alloc (Nat.le_refl _) _).alloc (by simp) _⟩
  · rw [World.cell?_alloc_lt _ _ _ (by rw [e1]; show w.heap.size < _; omega)]
    exact World.cell?_alloc_new _ _ _ _
  · have := World.cell?_alloc_new (w.alloc (.cells x t)) y t' i
    rwa [e1] at this
/-- block b begins with these cells -/
def Box (w : World) (b : Nat) (x : Array Value) : Prop := b < w.heap.size ∧ ∀ i u, x[i]? = some u → w.cell? ⟨b, i, none⟩ = some u
theorem Box.new (w : World) (x : Array Value) (t : TypeId) : Box (w.alloc (.cells x t)) w.heap.size x := ⟨by simp, fun i u h => by rw [World.cell?_alloc_new]; exact h⟩
theorem Box.below {w w' : World} {b : Nat} {x : Array Value} (h : Box w b x) (hb : Below w.heap.size w w') : Box w' b x := ⟨Nat.lt_of_lt_of_le h.1 hb.size, fun i u hu => (hb.cell (p := ⟨b, i, none⟩) h.1).trans (h.2 i u hu)⟩
theorem Box.eight {w : World} {b : Nat} {x0 x1 x2 x3 x4 x5 x6 x7 : Value} (h : Box w b #[x0, x1, x2, x3, x4, x5, x6, x7]) : b < w.heap.size ∧ w.cell? ⟨b, 0, none⟩ = some x0 ∧ w.cell? ⟨b, 1, none⟩ = some x1 ∧ w.cell? ⟨b, 2, none⟩ = some x2 ∧ w.cell? ⟨b, 3, none⟩ = some x3 ∧
    w.cell? ⟨b, 4, none⟩ = some x4 ∧ w.cell? ⟨b, 5, none⟩ = some x5 ∧ w.cell? ⟨b, 6, none⟩ = some x6 ∧ w.cell? ⟨b, 7, none⟩ = some x7 :=
  ⟨h.1, h.2 0 _ rfl, h.2 1 _ rfl, h.2 2 _ rfl, h.2 3 _ rfl, h.2 4 _ rfl, h.2 5 _ rfl, h.2 6 _ rfl, h.2 7 _ rfl⟩
theorem eqBasket_any (b : Bsk) (w : World) :
    Calls Try.prog 15 #[bsv b, bsv b] w fun e w' => e = .returned (.bool true) ∧ UpOf w w' := by
  go_enter Try.func15, Try.ntmps15
  go_wp2_with (first | ((with_reducible refine wp_region_up (by kernel_rfl) (by kernel_rfl) ?_); (repeat (go_big_quiet_step (fail))); refine wpQuiet_nil ?_; intro _ hw'; obtain ⟨nq, hw''⟩ := hw'; subst hw''))
  go_ret
  exact ⟨rfl, UpOf.of (by repeat (first | exact Below.refl _ _ | refine bl_tr ?_ _ | refine bl_al ?_ _ | refine bl_dr ?_ | refine bl_up ?_ _ | refine Below.drew ?_ | refine bl_alloc ?_ _ | refine Below.setCell ?_ (by first | (simp; done) | (simp; omega)) _))⟩
set_option maxRecDepth 10000 in
theorem eqDesk_any (d : DeskD) (A B A' B' : Option Addr) (c e c' e' : Nat) (w : World) (h : DSee w d A B) (h' : DSee w d A' B') (hn : d.stops.length ≤ 100000000) (hm : d.drills.length ≤ 100000000) :
    Calls Try.prog 7 #[dkv d A B c e, dkv d A' B' c' e'] w fun e w' => e = .returned (.bool true) ∧ UpOf w w' := by
  go_enter Try.func7, Try.ntmps7
  go_wp2_with fail
  obtain ⟨x0, y0, hs, hB⟩ := box2 w (dkcs d A B c e) (dkcs d A' B' c' e') 27 27
  have x5 := x0 5
  have x6 := x0 6
  have x7 := x0 7
  have y5 := y0 5
  have y6 := y0 6
  have y7 := y0 7
  have k1 : w.heap.size < w.heap.size + 2 := by omega
  have k2 : w.heap.size + 1 < w.heap.size + 2 := by omega
  rw [← hs] at k1 k2
  have h1 := h.below hB
  have h2 := h'.below hB
  have HB := Lib.hid hB
  clear x0 y0 hs hB h h'
  simp only [List.getElem?_toArray, List.getElem?_cons_succ, List.getElem?_cons_zero] at x5 x6 x7 y5 y6 y7
  revert x5 x6 x7 y5 y6 y7 k1 k2 h1 h2 HB
  generalize (w.alloc (.cells (dkcs d A B c e) 27)).alloc (.cells (dkcs d A' B' c' e') 27) = W
  intro k1 k2 h1 h2 HB x5 x6 x7 y5 y6 y7
  refine (eqBasket_any _ _).mono ?_
  rintro e w' ⟨rfl, g1, rfl⟩
  go_wp2_with fail
  refine (eqInt64S_any _ _ _ _ _ _ (h1.1.below (by repeat (first | exact Below.refl _ _ | refine bl_tr ?_ _ | refine bl_al ?_ _ | refine bl_dr ?_ | refine bl_up ?_ _ | refine Below.drew ?_ | refine bl_alloc ?_ _ | refine Below.setCell ?_ (by first | (simp; done) | (simp; omega)) _))) (h2.1.below (by repeat (first | exact Below.refl _ _ | refine bl_tr ?_ _ | refine bl_al ?_ _ | refine bl_dr ?_ | refine bl_up ?_ _ | refine Below.drew ?_ | refine bl_alloc ?_ _ | refine Below.setCell ?_ (by first | (simp; done) | (simp; omega)) _))) hn).mono ?_
  rintro e w' ⟨rfl, g2, rfl⟩
  go_wp2_with fail
  refine (eqDrillS_any _ _ _ _ _ _ (h1.2.below (by repeat (first | exact Below.refl _ _ | refine bl_tr ?_ _ | refine bl_al ?_ _ | refine bl_dr ?_ | refine bl_up ?_ _ | refine Below.drew ?_ | refine bl_alloc ?_ _ | refine Below.setCell ?_ (by first | (simp; done) | (simp; omega)) _))) (h2.2.below (by repeat (first | exact Below.refl _ _ | refine bl_tr ?_ _ | refine bl_al ?_ _ | refine bl_dr ?_ | refine bl_up ?_ _ | refine Below.drew ?_ | refine bl_alloc ?_ _ | refine Below.setCell ?_ (by first | (simp; done) | (simp; omega)) _))) hm).mono ?_
  rintro e w' ⟨rfl, g3, rfl⟩
  go_wp2_with fail
  go_ret
  exact ⟨rfl, UpOf.of (HB.out.trans (Below.mono (by repeat (first | exact Below.refl _ _ | refine bl_tr ?_ _ | refine bl_al ?_ _ | refine bl_dr ?_ | refine bl_up ?_ _ | refine Below.drew ?_ | refine bl_alloc ?_ _ | refine Below.setCell ?_ (by first | (simp; done) | (simp; omega)) _)) HB.out.size))⟩
/-- the state at the beginning -/
def dk0 : DeskD := ⟨⟨44, 3, 2, 2, 3⟩, [], [], ByteArray.empty⟩
theorem dsee0 (w : World) : DSee w dk0 none none := ⟨Rds.empty _ _ _, Rds.empty _ _ _⟩
theorem newDeskI_any (w : World) : Calls Try.prog 6 #[] w fun e w' => e = .returned (dkv dk0 none none 0 0) ∧ UpOf w w' := by
  go_enter Try.func6, Try.ntmps6
  go_wp2_with (first | ((with_reducible refine wp_region_up (by kernel_rfl) (by kernel_rfl) ?_); (repeat (go_big_quiet_step (fail))); refine wpQuiet_nil ?_; intro _ hw'; obtain ⟨nq, hw''⟩ := hw'; subst hw''))
  exact bodyPost_ret (v := dkv dk0 none none 0 0) (by simp [results, Try.results6, go_sem, dk0]; rfl) rfl ⟨rfl, UpOf.of (by repeat (first | exact Below.refl _ _ | refine bl_tr ?_ _ | refine bl_al ?_ _ | refine bl_dr ?_ | refine bl_up ?_ _ | refine Below.drew ?_ | refine bl_alloc ?_ _ | refine Below.setCell ?_ (by first | (simp; done) | (simp; omega)) _))⟩
theorem l28New_any (w : World) : Calls Try.prog 14 #[] w fun e w' => e = .returned (.agg #[i64 44, i64 3, i64 2, i64 2, i64 3, .slice none 0 0, .slice none 0 0, .string ⟨#[]⟩]) ∧ UpOf w w' := by
  go_enter Try.func14, Try.ntmps14
  go_wp2_with (first | ((with_reducible refine wp_region_up (by kernel_rfl) (by kernel_rfl) ?_); (repeat (go_big_quiet_step (fail))); refine wpQuiet_nil ?_; intro _ hw'; obtain ⟨nq, hw''⟩ := hw'; subst hw''))
  exact bodyPost_ret (v := .agg #[i64 44, i64 3, i64 2, i64 2, i64 3, .slice none 0 0, .slice none 0 0, .string ⟨#[]⟩]) (by simp [results, Try.results14, go_sem]) rfl ⟨rfl, UpOf.of (by repeat (first | exact Below.refl _ _ | refine bl_tr ?_ _ | refine bl_al ?_ _ | refine bl_dr ?_ | refine bl_up ?_ _ | refine Below.drew ?_ | refine bl_alloc ?_ _ | refine Below.setCell ?_ (by first | (simp; done) | (simp; omega)) _))⟩
theorem bl_set {a w : World} {b i : Nat} (h : Below a.heap.size a w) (hb : a.heap.size ≤ b) (u : Value) : Below a.heap.size a (w.setCell ⟨b, i, none⟩ u) := h.setCell hb u
set_option maxRecDepth 10000 in
set_option maxHeartbeats 1000000 in
theorem newDeskS_any (w : World) : Calls Try.prog 5 #[] w fun e w' => e = .returned (dkv dk0 none none 0 0) ∧ UpOf w w' := by
  go_enter Try.func5, Try.ntmps5
  go_wp2_with fail
  refine (l28New_any _).mono ?_
  rintro e w' ⟨rfl, g, rfl⟩
  have hb := (Blk.new w 27 #[i64 0, i64 0, i64 0, i64 0, i64 0, .slice none 0 0, .slice none 0 0, .string ⟨#[]⟩]).up g
  have hb8 := (((((((hb.put 0 (i64 44)).put 1 (i64 3)).put 2 (i64 2)).put 3 (i64 2)).put 4 (i64 3)).put 5 (.slice none 0 0)).put 6 (.slice none 0 0)).put 7 (.string ⟨#[]⟩)
  have hB : Below w.heap.size w (((((((((up (w.alloc (.cells #[i64 0, i64 0, i64 0, i64 0, i64 0, .slice none 0 0, .slice none 0 0, .string ⟨#[]⟩] 27)) g).setCell ⟨w.heap.size, 0, none⟩ (i64 44)).setCell ⟨w.heap.size, 1, none⟩ (i64 3)).setCell ⟨w.heap.size, 2, none⟩ (i64 2)).setCell ⟨w.heap.size, 3, none⟩ (i64 2)).setCell ⟨w.heap.size, 4, none⟩ (i64 3)).setCell ⟨w.heap.size, 5, none⟩ (.slice none 0 0)).setCell ⟨w.heap.size, 6, none⟩ (.slice none 0 0)).setCell ⟨w.heap.size, 7, none⟩ (.string ⟨#[]⟩)) := by
    iterate 8 refine bl_set ?_ (Nat.le_refl _) _
    exact bl_up ((Below.refl _ _).alloc (Nat.le_refl _) _) g
  go_wp2_with fail
  have c0 := hb8.cell 0
  have c1 := hb8.cell 1
  have c2 := hb8.cell 2
  have c3 := hb8.cell 3
  have c4 := hb8.cell 4
  have c5 := hb8.cell 5
  have c6 := hb8.cell 6
  have c7 := hb8.cell 7
  have HB := Lib.hid hB
  clear hB hb hb8
  revert c0 c1 c2 c3 c4 c5 c6 c7 HB
  generalize ((((((((up (w.alloc (.cells #[i64 0, i64 0, i64 0, i64 0, i64 0, .slice none 0 0, .slice none 0 0, .string ⟨#[]⟩] 27)) g).setCell ⟨w.heap.size, 0, none⟩ (i64 44)).setCell ⟨w.heap.size, 1, none⟩ (i64 3)).setCell ⟨w.heap.size, 2, none⟩ (i64 2)).setCell ⟨w.heap.size, 3, none⟩ (i64 2)).setCell ⟨w.heap.size, 4, none⟩ (i64 3)).setCell ⟨w.heap.size, 5, none⟩ (.slice none 0 0)).setCell ⟨w.heap.size, 6, none⟩ (.slice none 0 0)).setCell ⟨w.heap.size, 7, none⟩ (.string ⟨#[]⟩) = W
  intro c0 c1 c2 c3 c4 c5 c6 c7 HB
  simp at c0 c1 c2 c3 c4 c5 c6 c7
  exact bodyPost_ret (v := dkv dk0 none none 0 0) (by simp [results, Try.results5, go_sem, c0, c1, c2, c3, c4, c5, c6, c7, dk0]; rfl) rfl ⟨rfl, UpOf.of HB.out⟩
end Go.Proofs.Ytbianlkenallaaa

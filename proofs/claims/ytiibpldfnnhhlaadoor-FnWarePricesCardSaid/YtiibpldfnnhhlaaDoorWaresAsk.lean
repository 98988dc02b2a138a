/-
  The reference's drawing of price lists with numbers, whatever the bytes are. The bounds stand at each.
-/
import Derived.Test.YtiibpldfnnhhlaaDoorDrawManyB
import Derived.Test.YtiibpldfnnhhlaaDoorSpoil
namespace Go.Proofs.YtiibpldfnnhhlaaDoor
open Go.RowKit
def askPost (w : World) (e : Ending) (w' : World) : Prop :=
  ∃ (l : List Ware) (A1 : Option Addr) (c1 : Nat) (k m : Int), e = .returned (.tuple #[.slice A1 l.length c1, i64 k, i64 m]) ∧ WSee w' A1 l ∧ WShort 12 l ∧ l.length ≤ 31 ∧ UpOf w w'
set_option maxRecDepth 10000 in
set_option maxHeartbeats 1000000 in
theorem l26Ask_any (A : Option Addr) (n c : Nat) (zs : List Int) (w : World) (hz : ∀ z ∈ zs, 0 ≤ z ∧ z ≤ 255) (h : Rds w 1 A n (bytes zs)) (hn : n ≤ 4096) :
    Calls Tryd.prog 53 #[.slice A n c] w (askPost w) := by
  go_enter Tryd.func53, Tryd.ntmps53
  have HR := Lib.hid h
  clear h
  go_wp2_with fail
  refine (l00From_any A n c _).mono ?_
  rintro e w1 ⟨rfl, rfl⟩
  have B0 := Lib.hid (byt_new hz HR.out (.cells #[.slice A n c, .int .i64 0, .int .u64 0] 105))
  go_wp2_with fail
  refine (l26Bent_any w.heap.size A n c 0 _ (src_new w A n c) B0.out (by omega) (by omega)).mono ?_
  rintro e w2 ⟨l, A1, c1, ps, k2, rfl, hw, hsh, hl, hk2, hs2, hg2⟩
  have W2 := Lib.hid hw
  have SH := Lib.hid hsh
  have S2 := Lib.hid hs2
  have B2 := Lib.hid (B0.out.grown hg2)
  have G2 := Lib.hid hg2
  have hq2 : w.heap.size < w2.heap.size := Nat.lt_of_lt_of_le (by simp) G2.out.size
  clear hw hsh hs2 hg2 B0
  have hw1 : IntKind.i64.wrap ((l.length : Int) + 1) = (l.length : Int) + 1 := by rw [IntKind.wrap_i64]; omega
  go_wp2_with fail
  refine (pick_any w.heap.size A n c k2 ((l.length : Int) + 1) w2 S2.out B2.out (by omega) (by omega) (by omega)).mono ?_
  rintro e w3 ⟨x, k3, rfl, y0, y1, hk3, hs3, hg3⟩
  have W3 := Lib.hid (WGot.grown W2.out hg3 (fun x e => by injection e with e; simp; omega))
  have S3 := Lib.hid hs3
  have B3 := Lib.hid (B2.out.grown hg3)
  have G3 := Lib.hid (grown_trans G2.out hg3)
  clear hs3 hg3 W2 S2 B2 G2
  go_wp2_with fail
  refine (pick_any w.heap.size A n c k3 16 w3 S3.out B3.out (by omega) (by omega) (by omega)).mono ?_
  rintro e w4 ⟨y, k4, rfl, z0, z1, hk4, hs4, hg4⟩
  have W4 := Lib.hid (WGot.grown W3.out hg4 (fun x e => by injection e with e; simp; omega))
  have S4 := Lib.hid hs4
  have B4 := Lib.hid (B3.out.grown hg4)
  have G4 := Lib.hid (grown_trans G3.out hg4)
  clear hs4 hg4 W3 S3 B3 G3
  go_wp2_with fail
  refine (one_any w.heap.size A n c k4 10 w4 S4.out B4.out (by omega) (by omega) (by omega)).mono ?_
  rintro e w5 ⟨t, k5, rfl, hk5, hs5, hg5⟩
  have W5 := Lib.hid (WGot.grown W4.out hg5 (fun x e => by injection e with e; simp; omega))
  have S5 := Lib.hid hs5
  have B5 := Lib.hid (B4.out.grown hg5)
  have G5 := Lib.hid (grown_trans G4.out hg5)
  clear hs5 hg5 W4 S4 B4 G4
  have hq5 : w.heap.size < w5.heap.size := Nat.lt_of_lt_of_le (by simp) G5.out.size
  cases t with
  | true =>
    go_wp2_with fail
    refine (among_any w.heap.size A n c k5 (some ⟨w5.heap.size, 0, none⟩) 4 [-1, 0, 1000, 1001] _ (S5.out.alloc _) (B5.out.alloc _) (by omega) (by omega) (rds_newA 1 4 rfl rfl) (by decide) (by decide) (adr_ne hq5)).mono ?_
    rintro e w6 ⟨v6, k6, rfl, ⟨d6, hd6, rfl⟩, hk6, hs6, hg6⟩
    have W6 := Lib.hid (WGot.grown (WGot.below W5.out ((Below.refl _ _).alloc (Nat.le_refl _) _)) hg6 (fun x e => by injection e with e; simp; omega))
    have S6 := Lib.hid hs6
    have B6 := Lib.hid ((B5.out.alloc _).grown hg6)
    have G6 := Lib.hid (grown_trans (gr_alloc G5.out _) hg6)
    clear hs6 hg6 W5 S5 B5 G5
    go_wp2_with fail
    go_ret3
    exact ⟨l, A1, c1, _, d6, rfl, WGot.see W6.out, SH.out, hl, (up_of_grown ((Below.refl _ _).alloc (Nat.le_refl _) _) G6.out (fun k hk => by injection hk with hk; omega))⟩
  | false =>
    go_wp2_with fail
    refine (pick_any w.heap.size A n c k5 30 w5 S5.out B5.out (by omega) (by omega) (by omega)).mono ?_
    rintro e w6 ⟨d6, k6, rfl, a0, a1, hk6, hs6, hg6⟩
    have W6 := Lib.hid (WGot.grown W5.out hg6 (fun x e => by injection e with e; simp; omega))
    have S6 := Lib.hid hs6
    have B6 := Lib.hid (B5.out.grown hg6)
    have G6 := Lib.hid (grown_trans G5.out hg6)
    clear hs6 hg6 W5 S5 B5 G5
    go_wp2_with fail
    go_ret3
    exact ⟨l, A1, c1, _, d6, rfl, WGot.see W6.out, SH.out, hl, (up_of_grown ((Below.refl _ _).alloc (Nat.le_refl _) _) G6.out (fun k hk => by injection hk with hk; omega))⟩
set_option maxRecDepth 10000 in
set_option maxHeartbeats 1000000 in
theorem drawCheapest_any (A : Option Addr) (n c : Nat) (zs : List Int) (w : World) (hz : ∀ z ∈ zs, 0 ≤ z ∧ z ≤ 255) (h : Rds w 1 A n (bytes zs)) (hn : n ≤ 4096) :
    Calls Tryd.prog 16 #[.slice A n c] w (askPost w) := by
  have HR := Lib.hid h
  clear h
  go_enter Tryd.func16, Tryd.ntmps16
  go_wp2_with fail
  refine (l26Ask_any A n c zs _ hz HR.out hn).mono ?_
  rintro e w1 ⟨l, A1, c1, k, m, rfl, hw, hsh, hl, g1, rfl⟩
  have W1 := Lib.hid hw
  have SH := Lib.hid hsh
  clear hw hsh
  go_wp2_with fail
  go_ret3
  exact ⟨l, A1, c1, k, m, rfl, W1.out.below (by repeat (first | exact Below.refl _ _ | refine bl_tr ?_ _ | refine bl_al ?_ _ | refine bl_dr ?_ | refine bl_up ?_ _ | refine Below.drew ?_ | refine bl_alloc ?_ _ | refine Below.setCell ?_ (by first | (simp; done) | (simp; omega)) _)), SH.out, hl, UpOf.of (by repeat (first | exact Below.refl _ _ | refine bl_tr ?_ _ | refine bl_al ?_ _ | refine bl_dr ?_ | refine bl_up ?_ _ | refine Below.drew ?_ | refine bl_alloc ?_ _ | refine Below.setCell ?_ (by first | (simp; done) | (simp; omega)) _))⟩
theorem l00MaxK_any (a b : Int) (w : World) :
    Calls Tryd.prog 63 #[i64 a, i64 b] w fun e w' => (∃ x : Int, e = .returned (i64 x)) ∧ w = w' := by
  by_cases h : a > b
  · go_enter Tryd.func63, Tryd.ntmps63
    go_wp2
    go_ret
    exact ⟨⟨_, rfl⟩, rfl⟩
  · go_enter Tryd.func63, Tryd.ntmps63
    go_wp2
    go_ret
    exact ⟨⟨_, rfl⟩, rfl⟩
set_option maxRecDepth 10000 in
set_option maxHeartbeats 1000000 in
theorem drawMostFor_any (A : Option Addr) (n c : Nat) (zs : List Int) (w : World) (hz : ∀ z ∈ zs, 0 ≤ z ∧ z ≤ 255) (h : Rds w 1 A n (bytes zs)) (hn : n ≤ 4096) :
    Calls Tryd.prog 19 #[.slice A n c] w (askPost w) := by
  have HR := Lib.hid h
  clear h
  go_enter Tryd.func19, Tryd.ntmps19
  go_wp2_with fail
  refine (l26Ask_any A n c zs _ hz HR.out hn).mono ?_
  rintro e V ⟨l, A1, c1, k, m, rfl, hw, hsh, hl, hu⟩
  have W1 := Lib.hid hw
  have SH := Lib.hid hsh
  have HU := Lib.hid hu
  have HR1 := Lib.hid (HR.out.below hu.below)
  clear hw hsh hu HR
  go_wp2_with fail
  refine (l00From_any A n c _).mono ?_
  rintro e w1 ⟨rfl, rfl⟩
  have B0 := Lib.hid (byt_new hz HR1.out (.cells #[.slice A n c, .int .i64 0, .int .u64 0] 105))
  clear HR1
  go_wp2_with fail
  refine (one_any V.heap.size A n c 0 10 _ (src_new V A n c) B0.out (by omega) (by omega) (by omega)).mono ?_
  rintro e w2 ⟨t, k2, rfl, hk2, hs2, hg2⟩
  have S2 := Lib.hid hs2
  have B2 := Lib.hid (B0.out.grown hg2)
  have G2 := Lib.hid hg2
  have hq2 : V.heap.size < w2.heap.size := Nat.lt_of_lt_of_le (by simp) G2.out.size
  clear hs2 hg2 B0
  cases t with
  | true =>
    go_wp2_with fail
    refine (among_any V.heap.size A n c k2 (some ⟨w2.heap.size, 0, none⟩) 4 [-1, 0, 1000000000, 1000000001] _ (S2.out.alloc _) (B2.out.alloc _) (by omega) (by omega) (rds_newA 1 4 rfl rfl) (by decide) (by decide) (adr_ne hq2)).mono ?_
    rintro e w3 ⟨v3, k3, rfl, ⟨d3, hd3, rfl⟩, hk3, hs3, hg3⟩
    have u3 := up_of_grown ((Below.refl _ _).alloc (Nat.le_refl _) _) (grown_trans (gr_alloc G2.out _) hg3) (fun k hk => by injection hk with hk; omega)
    have W3 := Lib.hid (W1.out.below u3.below)
    have U3 := Lib.hid (HU.out.tr u3.below)
    clear hs3 hg3 u3
    go_wp2_with fail
    go_ret3
    exact ⟨l, A1, c1, k, d3, rfl, W3.out, SH.out, hl, U3.out⟩
  | false =>
    have u3 := up_of_grown ((Below.refl _ _).alloc (Nat.le_refl _) _) G2.out (fun k hk => by injection hk with hk; omega)
    have W3 := Lib.hid (W1.out.below u3.below)
    have U3 := Lib.hid (HU.out.tr u3.below)
    clear u3
    go_wp2_with fail
    refine (l00MaxK_any 0 m w2).mono ?_
    rintro e w' ⟨⟨x, rfl⟩, rfl⟩
    go_wp2_with fail
    go_ret3
    exact ⟨l, A1, c1, k, _, rfl, W3.out, SH.out, hl, U3.out⟩
def basketPost (w : World) (e : Ending) (w' : World) : Prop :=
  ∃ (l : List Ware) (A1 : Option Addr) (c1 : Nat) (ms : List Int) (A2 : Option Addr) (c2 : Nat), e = .returned (.tuple #[.slice A1 l.length c1, .slice A2 ms.length c2]) ∧ WSee w' A1 l ∧ WShort 12 l ∧ l.length ≤ 31 ∧ Rds w' 1 A2 ms.length (ics ms) ∧ ms.length ≤ 32 ∧ UpOf w w'
set_option maxRecDepth 10000 in
set_option maxHeartbeats 1000000 in
theorem drawBasket_any (A : Option Addr) (n c : Nat) (zs : List Int) (w : World) (hz : ∀ z ∈ zs, 0 ≤ z ∧ z ≤ 255) (h : Rds w 1 A n (bytes zs)) (hn : n ≤ 4096) :
    Calls Tryd.prog 22 #[.slice A n c] w (basketPost w) := by
  go_enter Tryd.func22, Tryd.ntmps22
  have HR := Lib.hid h
  clear h
  go_wp2_with fail
  refine (l00From_any A n c _).mono ?_
  rintro e w1 ⟨rfl, rfl⟩
  have B0 := Lib.hid (byt_new hz HR.out (.cells #[.slice A n c, .int .i64 0, .int .u64 0] 105))
  go_wp2_with fail
  refine (l26Bent_any w.heap.size A n c 0 _ (src_new w A n c) B0.out (by omega) (by omega)).mono ?_
  rintro e w2 ⟨l, A1, c1, ps, k2, rfl, hw, hsh, hl, hk2, hs2, hg2⟩
  have W2 := Lib.hid hw
  have SH := Lib.hid hsh
  have S2 := Lib.hid hs2
  have B2 := Lib.hid (B0.out.grown hg2)
  have G2 := Lib.hid hg2
  have hq2 : w.heap.size < w2.heap.size := Nat.lt_of_lt_of_le (by simp) G2.out.size
  clear hw hsh hs2 hg2 B0
  go_wp2_with fail
  refine (drawManyB_any w.heap.size A n c k2 A1 l.length c1 w2 S2.out B2.out (by omega) (by omega) hl).mono ?_
  rintro e w3 ⟨ms, A3, c3, k3, rfl, ho3, hl3, hk3, hs3, hg3⟩
  have O3 := Lib.hid (Rds.of_own ho3)
  clear ho3
  have W3 := Lib.hid (WGot.grown W2.out hg3 (fun x e => by injection e with e; simp; omega))
  have S3 := Lib.hid hs3
  have B3 := Lib.hid (B2.out.grown hg3)
  have G3 := Lib.hid (grown_trans G2.out hg3)
  clear hs3 hg3 W2 S2 B2 G2
  go_wp2_with fail
  go_ret2
  exact ⟨l, A1, c1, ms, A3, c3, rfl, WGot.see W3.out, SH.out, hl, O3.out, hl3, (up_of_grown ((Below.refl _ _).alloc (Nat.le_refl _) _) G3.out (fun k hk => by injection hk with hk; omega))⟩
def raisePost (w : World) (e : Ending) (w' : World) : Prop :=
  ∃ (l : List Ware) (A1 : Option Addr) (c1 : Nat) (k : Int), e = .returned (.tuple #[.slice A1 l.length c1, i64 k]) ∧ WSee w' A1 l ∧ WShort 12 l ∧ l.length ≤ 31 ∧ UpOf w w'
set_option maxRecDepth 10000 in
set_option maxHeartbeats 1000000 in
theorem drawRaise_any (A : Option Addr) (n c : Nat) (zs : List Int) (w : World) (hz : ∀ z ∈ zs, 0 ≤ z ∧ z ≤ 255) (h : Rds w 1 A n (bytes zs)) (hn : n ≤ 4096) :
    Calls Tryd.prog 25 #[.slice A n c] w (raisePost w) := by
  go_enter Tryd.func25, Tryd.ntmps25
  have HR := Lib.hid h
  clear h
  go_wp2_with fail
  refine (l00From_any A n c _).mono ?_
  rintro e w1 ⟨rfl, rfl⟩
  have B0 := Lib.hid (byt_new hz HR.out (.cells #[.slice A n c, .int .i64 0, .int .u64 0] 105))
  go_wp2_with fail
  refine (l26Bent_any w.heap.size A n c 0 _ (src_new w A n c) B0.out (by omega) (by omega)).mono ?_
  rintro e w2 ⟨l, A1, c1, ps, k2, rfl, hw, hsh, hl, hk2, hs2, hg2⟩
  have W2 := Lib.hid hw
  have SH := Lib.hid hsh
  have S2 := Lib.hid hs2
  have B2 := Lib.hid (B0.out.grown hg2)
  have G2 := Lib.hid hg2
  have hq2 : w.heap.size < w2.heap.size := Nat.lt_of_lt_of_le (by simp) G2.out.size
  clear hw hsh hs2 hg2 B0
  go_wp2_with fail
  refine (one_any w.heap.size A n c k2 8 w2 S2.out B2.out (by omega) (by omega) (by omega)).mono ?_
  rintro e w5 ⟨t, k5, rfl, hk5, hs5, hg5⟩
  have W5 := Lib.hid (WGot.grown W2.out hg5 (fun x e => by injection e with e; simp; omega))
  have S5 := Lib.hid hs5
  have B5 := Lib.hid (B2.out.grown hg5)
  have G5 := Lib.hid (grown_trans G2.out hg5)
  clear hs5 hg5 W2 S2 B2 G2
  have hq5 : w.heap.size < w5.heap.size := Nat.lt_of_lt_of_le (by simp) G5.out.size
  cases t with
  | true =>
    go_wp2_with fail
    refine (among_any w.heap.size A n c k5 (some ⟨w5.heap.size, 0, none⟩) 4 [-1, 0, 1000, 1001] _ (S5.out.alloc _) (B5.out.alloc _) (by omega) (by omega) (rds_newA 1 4 rfl rfl) (by decide) (by decide) (adr_ne hq5)).mono ?_
    rintro e w6 ⟨v6, k6, rfl, ⟨d6, hd6, rfl⟩, hk6, hs6, hg6⟩
    have W6 := Lib.hid (WGot.grown (WGot.below W5.out ((Below.refl _ _).alloc (Nat.le_refl _) _)) hg6 (fun x e => by injection e with e; simp; omega))
    have S6 := Lib.hid hs6
    have B6 := Lib.hid ((B5.out.alloc _).grown hg6)
    have G6 := Lib.hid (grown_trans (gr_alloc G5.out _) hg6)
    clear hs6 hg6 W5 S5 B5 G5
    go_wp2_with fail
    go_ret2
    exact ⟨l, A1, c1, d6, rfl, WGot.see W6.out, SH.out, hl, (up_of_grown ((Below.refl _ _).alloc (Nat.le_refl _) _) G6.out (fun k hk => by injection hk with hk; omega))⟩
  | false =>
    go_wp2_with fail
    refine (pick_any w.heap.size A n c k5 200 w5 S5.out B5.out (by omega) (by omega) (by omega)).mono ?_
    rintro e w6 ⟨d6, k6, rfl, a0, a1, hk6, hs6, hg6⟩
    have W6 := Lib.hid (WGot.grown W5.out hg6 (fun x e => by injection e with e; simp; omega))
    have S6 := Lib.hid hs6
    have B6 := Lib.hid (B5.out.grown hg6)
    have G6 := Lib.hid (grown_trans G5.out hg6)
    clear hs6 hg6 W5 S5 B5 G5
    go_wp2_with fail
    go_ret2
    exact ⟨l, A1, c1, d6, rfl, WGot.see W6.out, SH.out, hl, (up_of_grown ((Below.refl _ _).alloc (Nat.le_refl _) _) G6.out (fun k hk => by injection hk with hk; omega))⟩
def wtPost (w : World) (e : Ending) (w' : World) : Prop :=
  ∃ (x : Ware) (Ab : Option Addr) (cb : Nat), e = .returned (.agg #[.string x.name, .slice Ab x.brs.length cb]) ∧ Rds w' 2 Ab x.brs.length (bkcs x.brs) ∧ x.name.size ≤ 12 ∧ x.brs.length ≤ 12 ∧ UpOf w w'
set_option maxRecDepth 10000 in
set_option maxHeartbeats 1000000 in
theorem drawWareText_any (A : Option Addr) (n c : Nat) (zs : List Int) (w : World) (hz : ∀ z ∈ zs, 0 ≤ z ∧ z ≤ 255) (h : Rds w 1 A n (bytes zs)) (hn : n ≤ 4096) :
    Calls Tryd.prog 30 #[.slice A n c] w (wtPost w) := by
  have HR := Lib.hid h
  clear h
  go_enter Tryd.func30, Tryd.ntmps30
  go_wp2_with fail
  refine cg (R := fun V => Hid (Blk V w.heap.size 29 #[.string ⟨#[]⟩, .slice none 0 0]) ∧ Hid (Rds V 1 A n (bytes zs)) ∧ Hid (UpOf w V) ∧ Hid (w.heap.size < V.heap.size)) ⟨Lib.hid (Blk.new _ _ _), Lib.hid (HR.out.below (by repeat (first | exact Below.refl _ _ | refine bl_tr ?_ _ | refine bl_al ?_ _ | refine bl_dr ?_ | refine bl_up ?_ _ | refine Below.drew ?_ | refine bl_alloc ?_ _ | refine Below.setCell ?_ (by first | (simp; done) | (simp; omega)) _))), Lib.hid UpOf.of (by repeat (first | exact Below.refl _ _ | refine bl_tr ?_ _ | refine bl_al ?_ _ | refine bl_dr ?_ | refine bl_up ?_ _ | refine Below.drew ?_ | refine bl_alloc ?_ _ | refine Below.setCell ?_ (by first | (simp; done) | (simp; omega)) _)), Lib.hid (by simp)⟩ (fun V z => ?_)
  obtain ⟨z1, z2, z3, z4⟩ := z
  clear HR
  refine (l00From_any A n c V).mono ?_
  rintro e w1 ⟨rfl, rfl⟩
  have B0 := Lib.hid (byt_new hz z2.out (.cells #[.slice A n c, .int .i64 0, .int .u64 0] 105))
  go_wp2_with fail
  refine (l26Bent_any V.heap.size A n c 0 _ (src_new V A n c) B0.out (by omega) (by omega)).mono ?_
  rintro e w2 ⟨l, A1, c1, ps, k2, rfl, hw, hsh, hl, hk2, hs2, hg2⟩
  have W2 := Lib.hid hw
  have SH := Lib.hid hsh
  have S2 := Lib.hid hs2
  have Y2 := Lib.hid (B0.out.grown hg2)
  have G2 := Lib.hid hg2
  have Z2 := Lib.hid ((z1.out.alloc (.cells #[.slice A n c, .int .i64 0, .int .u64 0] 105)).grown hg2 (fun e => by injection e with e; have := z4.out; omega))
  have U2 := Lib.hid (z3.out.tr (up_of_grown ((Below.refl _ _).alloc (Nat.le_refl _) _) hg2 (fun k hk => by injection hk with hk; omega)).below)
  have hlo := Lib.hid (show V.heap.size ≤ w2.heap.size from Nat.le_trans (by simp) hg2.size)
  have hq := Lib.hid (show w.heap.size < w2.heap.size from Nat.lt_of_lt_of_le z4.out hlo.out)
  clear hw hsh hs2 hg2 B0 z1 z2 z3
  have q0 := Z2.out.lt
  have q1 := Z2.out.cell 0
  have q2 := Z2.out.cell 1
  have q3 := Z2.out.free 0
  have q4 := Z2.out.free 1
  simp only [List.getElem?_toArray, List.getElem?_cons_zero, List.getElem?_cons_succ] at q1 q2
  have HUB := fun (a b : Value) => Lib.hid (UpOf.of ((U2.out.below.setCell (p := ⟨w.heap.size, 0, none⟩) (Nat.le_refl _) a).setCell (p := ⟨w.heap.size, 1, none⟩) (Nat.le_refl _) b))
  by_cases hl0 : l.length = 0
  · have hz0 : ((l.length : Int) == 0) = true := by rw [beq_iff_eq]; omega
    go_wp2_with fail
    exact bodyPost_ret (v := .agg #[.string ⟨#[]⟩, .slice none 0 0]) (by simp [results, Tryd.results30, go_sem, q1, q2]) rfl ⟨⟨⟨#[]⟩, []⟩, none, 0, rfl, Rds.empty _ _ _, by show 0 ≤ 12; omega, by show 0 ≤ 12; omega, (HUB _ _).out⟩
  · have hz0 : ((l.length : Int) == 0) = false := by rw [beq_eq_false_iff_ne]; omega
    have hlp : (0 : Int) < (l.length : Int) := by omega
    obtain ⟨a, rfl⟩ : ∃ a, A1 = some ⟨a, 0, none⟩ := own_addr W2.out.row (by omega)
    have T := Lib.hid (show TS (V.alloc (.cells #[.slice A n c, .int .i64 0, .int .u64 0] 105)) w2 V.heap.size A n c a c1 l ps 0 k2 from ⟨S2.out, Y2.out, W2.out, G2.out, by simp, by omega⟩)
    obtain ⟨r0, r2, r3, r4, r1⟩ := T.out.raw
    have r1 : w2.cell? ⟨a, 0, none⟩ = some (.string (wat l 0).name) := by simpa using r1
    have r2 : w2.cell? ⟨a, 1, none⟩ = some (.slice (pat ps 0).1 (wat l 0).brs.length (pat ps 0).2) := by simpa using r2
    obtain ⟨s1, s2⟩ := SH.out 0 (by omega)
    have hlt := Lib.hid (show w.heap.size < (V.alloc (.cells #[.slice A n c, .int .i64 0, .int .u64 0] 105)).heap.size from Nat.lt_of_lt_of_le z4.out (by simp))
    clear r3 r4
    go_wp2_with fail
    exact bodyPost_ret (v := .agg #[.string (wat l 0).name, .slice (pat ps 0).1 (wat l 0).brs.length (pat ps 0).2]) (by simp [results, Tryd.results30, go_sem, q1, q2]) rfl ⟨wat l 0, _, _, rfl, Rds.of_own (own_keepK (own_keepK T.out.inn (grown_put _ _ 0 _) (fun x e e2 => by injection e with e; have := (T.out.inn.lt x e2).1; have := hlt.out; omega)) (grown_put _ _ 1 _) (fun x e e2 => by injection e with e; have := (T.out.inn.lt x e2).1; have := hlt.out; omega)), s1, s2, (HUB _ _).out⟩
end Go.Proofs.YtiibpldfnnhhlaaDoor

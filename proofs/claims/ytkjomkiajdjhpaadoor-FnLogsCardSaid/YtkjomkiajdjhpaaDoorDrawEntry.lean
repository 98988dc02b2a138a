/-
  The reference's drawing of an entry: whatever it draws, its name is short. The bounds stand at it.
-/
import Derived.Test.YtkjomkiajdjhpaaDoorSrc2
import Derived.Test.YtkjomkiajdjhpaaDoorTakeI
namespace Go.Proofs.YtkjomkiajdjhpaaDoor
open Go.RowKit
/-- the state between two draws: the result's cell q4, the entry's block q5, the source at b -/
structure DE (w V : World) (b : Nat) (A : Option Addr) (n c q4 q5 : Nat) (x : Entry) (k : Nat) : Prop where
  r4 : Blk V q4 27 #[i64 0, .string ⟨#[]⟩, i64 0]
  r5 : Blk V q5 27 #[i64 x.day, .string x.what, i64 x.value]
  src : SrcAt V b A n c k
  byt : Byt V b A n
  gr : w.grownBy V (some b)
  b4 : w.heap.size ≤ q4
  b5 : w.heap.size ≤ q5
  ne : q4 ≠ q5
  lt : b < w.heap.size
section
variable {w V V' : World} {b : Nat} {A : Option Addr} {n c q4 q5 k k' : Nat} {x : Entry}
theorem DE.alloc (h : DE w V b A n c q4 q5 x k) (o : Obj) : DE w (V.alloc o) b A n c q4 q5 x k :=
  ⟨h.r4.alloc o, h.r5.alloc o, h.src.alloc o, h.byt.alloc o, gr_alloc h.gr o, h.b4, h.b5, h.ne, h.lt⟩
theorem DE.call (h : DE w V b A n c q4 q5 x k) (hg : V.grownBy V' (some b)) (hs : SrcAt V' b A n c k') : DE w V' b A n c q4 q5 x k' :=
  ⟨h.r4.grown hg (fun e => by injection e with e; have := h.b4; have := h.lt; omega), h.r5.grown hg (fun e => by injection e with e; have := h.b5; have := h.lt; omega), hs, h.byt.grown hg, grown_trans h.gr hg, h.b4, h.b5, h.ne, h.lt⟩
theorem DE.set0 (h : DE w V b A n c q4 q5 x k) (d : Int) : DE w (V.setCell ⟨q5, 0, none⟩ (i64 d)) b A n c q4 q5 ⟨d, x.what, x.value⟩ k :=
  ⟨h.r4.far h.ne _, h.r5.put 0 _, h.src.far (by have := h.b5; have := h.lt; show b ≠ q5; omega) _, h.byt.far (by have := h.b5; have := h.lt; show b ≤ q5; omega) _, gr_new h.gr h.b5 _, h.b4, h.b5, h.ne, h.lt⟩
theorem DE.set1 (h : DE w V b A n c q4 q5 x k) (s : ByteArray) : DE w (V.setCell ⟨q5, 1, none⟩ (.string s)) b A n c q4 q5 ⟨x.day, s, x.value⟩ k :=
  ⟨h.r4.far h.ne _, h.r5.put 1 _, h.src.far (by have := h.b5; have := h.lt; show b ≠ q5; omega) _, h.byt.far (by have := h.b5; have := h.lt; show b ≤ q5; omega) _, gr_new h.gr h.b5 _, h.b4, h.b5, h.ne, h.lt⟩
theorem DE.set2 (h : DE w V b A n c q4 q5 x k) (v : Int) : DE w (V.setCell ⟨q5, 2, none⟩ (i64 v)) b A n c q4 q5 ⟨x.day, x.what, v⟩ k :=
  ⟨h.r4.far h.ne _, h.r5.put 2 _, h.src.far (by have := h.b5; have := h.lt; show b ≠ q5; omega) _, h.byt.far (by have := h.b5; have := h.lt; show b ≤ q5; omega) _, gr_new h.gr h.b5 _, h.b4, h.b5, h.ne, h.lt⟩
theorem DE.raw (h : DE w V b A n c q4 q5 x k) : (q4 < V.heap.size ∧ q5 < V.heap.size) ∧ (V.cell? ⟨q4, 0, none⟩ = some (i64 0) ∧ V.cell? ⟨q4, 1, none⟩ = some (.string ⟨#[]⟩) ∧ V.cell? ⟨q4, 2, none⟩ = some (i64 0)) ∧ (V.cell? ⟨q5, 0, none⟩ = some (i64 x.day) ∧ V.cell? ⟨q5, 1, none⟩ = some (.string x.what) ∧ V.cell? ⟨q5, 2, none⟩ = some (i64 x.value)) ∧
    (V.frozen? ⟨q4, 0, none⟩ = false ∧ V.frozen? ⟨q4, 1, none⟩ = false ∧ V.frozen? ⟨q4, 2, none⟩ = false) ∧ (V.frozen? ⟨q5, 0, none⟩ = false ∧ V.frozen? ⟨q5, 1, none⟩ = false ∧ V.frozen? ⟨q5, 2, none⟩ = false) :=
  ⟨⟨h.r4.lt, h.r5.lt⟩, ⟨h.r4.cell 0, h.r4.cell 1, h.r4.cell 2⟩, ⟨h.r5.cell 0, h.r5.cell 1, h.r5.cell 2⟩, ⟨h.r4.free 0, h.r4.free 1, h.r4.free 2⟩, ⟨h.r5.free 0, h.r5.free 1, h.r5.free 2⟩⟩
theorem DE.fin (h : DE w V b A n c q4 q5 x k) (u0 u1 u2 : Value) : SrcAt (((V.setCell ⟨q4, 0, none⟩ u0).setCell ⟨q4, 1, none⟩ u1).setCell ⟨q4, 2, none⟩ u2) b A n c k ∧ w.grownBy (((V.setCell ⟨q4, 0, none⟩ u0).setCell ⟨q4, 1, none⟩ u1).setCell ⟨q4, 2, none⟩ u2) (some b) := by
  have hne : b ≠ q4 := by have := h.b4; have := h.lt; omega
  exact ⟨((h.src.far (p := ⟨q4, 0, none⟩) hne _).far (p := ⟨q4, 1, none⟩) hne _).far (p := ⟨q4, 2, none⟩) hne _, gr_new (gr_new (gr_new h.gr h.b4 _) h.b4 _) h.b4 _⟩
end
theorem rds_newAt {w : World} {cs : Array Value} {t : TypeId} {p : Nat} (sz m : Nat) (hp : w.heap.size = p) (h : cs.size = m * sz) : Rds (w.alloc (.cells cs t)) sz (some ⟨p, 0, none⟩) m cs.toList := by
  subst hp; exact rds_new w cs t sz m h
theorem addr_ne {p b : Nat} (h : b < p) : ∀ b' off, (some (⟨p, 0, none⟩ : Addr)) = some ⟨b', off, none⟩ → b' ≠ b := by
  intro b' off e
  injection e with e
  injection e with e _
  omega
def nm4 : List ByteArray := [⟨#[115, 101, 101, 110]⟩, ⟨#[112, 97, 103, 101, 115]⟩, ⟨#[115, 116, 97, 114, 45, 51]⟩, ⟨#[98, 101, 108, 108, 115]⟩]
def nm3 : List ByteArray := [⟨#[]⟩, ⟨#[83, 101, 101, 110]⟩, ⟨#[97, 32, 98]⟩]
theorem nm4_size : ∀ x ∈ nm4, x.size ≤ 12 := by decide
theorem nm3_size : ∀ x ∈ nm3, x.size ≤ 12 := by decide
set_option maxRecDepth 10000 in
set_option maxHeartbeats 4000000 in
theorem drawEntry_any (b : Nat) (A : Option Addr) (n c k : Nat) (day : Int) (w : World) (h : SrcAt w b A n c k) (hb : Byt w b A n) (hk : k ≤ 800000) (hn : n ≤ 1000000) (d0 : 0 ≤ day) (d1 : day ≤ 1000000) :
    Calls Tryd.prog 81 #[.pointer (some ⟨b, 0, none⟩), i64 day] w fun e w' => ∃ (x : Entry) (k' : Nat), e = .returned (env x) ∧ x.what.size ≤ 12 ∧ k' ≤ k + 10 ∧ SrcAt w' b A n c k' ∧ w.grownBy w' (some b) := by
  have hlt := h.lt
  have HS := Lib.hid h
  have HB := Lib.hid hb
  clear h hb
  go_enter Tryd.func81, Tryd.ntmps81
  go_wp2_with fail
  refine (pick_any b A n c k 4 _ (HS.out.alloc _) (HB.out.alloc _) (by omega) hn (by omega)).mono ?_
  rintro e w1 ⟨x1, k1, rfl, y0, y1, hk1, hs1, hg1⟩
  obtain ⟨q4, hq4⟩ : ∃ q, w.heap.size = q := ⟨_, rfl⟩
  obtain ⟨q5, hq5⟩ : ∃ q, w1.heap.size = q := ⟨_, rfl⟩
  have b4 := (Blk.new w 27 #[i64 0, .string ⟨#[]⟩, i64 0]).grown hg1 (fun e => by injection e with e; omega)
  rw [hq4] at b4
  have hle : w.heap.size + 1 ≤ w1.heap.size := by have := hg1.size; simpa using this
  have H1 := Lib.hid (show DE w (w1.alloc (.cells #[i64 (day + x1), .string ⟨#[]⟩, i64 0] 27)) b A n c q4 q5 ⟨day + x1, ⟨#[]⟩, 0⟩ k1 from
    ⟨b4.alloc _, by rw [← hq5]; exact Blk.new w1 _ _, hs1.alloc _, (HB.out.alloc _).grown hg1 |>.alloc _, gr_alloc (grown_trans (gr_alloc (grown_refl w _) _) hg1) _, by omega, by omega, by omega, hlt⟩)
  have hm1 : k1 ≤ k + 2 := hk1
  clear hs1 hg1 b4 HB HS
  go_wp2_with fail
  refine cg (R := fun V => DE w V b A n c q4 q5 ⟨day + x1, ⟨#[]⟩, 0⟩ k1 ∧ Rds V 1 (some ⟨q5 + 1, 0, none⟩) 4 (strs nm4)) ⟨H1.out.alloc _, rds_newAt 1 4 (by simp; omega) rfl⟩ (fun V z => ?_)
  refine (text_any b A n c k1 (some ⟨q5 + 1, 0, none⟩) 4 nm4 V z.1.src z.1.byt (by omega) hn z.2 (by decide) (by decide) (addr_ne (by have := z.1.b5; omega))).mono ?_
  rintro e w2 ⟨v2, k2, rfl, ⟨s1, hs1, rfl⟩, hk2, hs2, hg2⟩
  have hs1s := nm4_size s1 hs1
  have H2 := z.1.call hg2 hs2
  obtain ⟨⟨l4, l5⟩, ⟨c40, c41, c42⟩, ⟨c50, c51, c52⟩, ⟨f40, f41, f42⟩, ⟨f50, f51, f52⟩⟩ := H2.raw
  clear z H1 hs2 hg2 hs1
  go_wp2_with fail
  have H3 := H2.set1 s1
  clear l4 l5 c40 c41 c42 c50 c51 c52 f40 f41 f42 f50 f51 f52
  refine (pick_any b A n c k2 900 _ H3.src H3.byt (by omega) hn (by omega)).mono ?_
  rintro e w3 ⟨x2, k3, rfl, y2, y3, hk3, hs3, hg3⟩
  have H4 := H3.call hg3 hs3
  obtain ⟨⟨l4, l5⟩, ⟨c40, c41, c42⟩, ⟨c50, c51, c52⟩, ⟨f40, f41, f42⟩, ⟨f50, f51, f52⟩⟩ := H4.raw
  clear H2 H3 hs3 hg3
  go_wp2_with fail
  have H5 := H4.set2 (x2 - 200)
  clear l4 l5 c40 c41 c42 c50 c51 c52 f40 f41 f42 f50 f51 f52
  refine (pick_any b A n c k3 24 _ H5.src H5.byt (by omega) hn (by omega)).mono ?_
  rintro e w4 ⟨x3, k4, rfl, y4, y5, hk4, hs4, hg4⟩
  have H6 := H5.call hg4 hs4
  clear H4 H5 hs4 hg4
  have hq6 : b < w4.heap.size := Nat.lt_of_lt_of_le H6.lt H6.gr.size
  by_cases t0 : x3 = 0
  · subst t0
    go_wp2_with fail
    refine cg (R := fun V => DE w V b A n c q4 q5 _ k4 ∧ Rds V 1 (some ⟨w4.heap.size, 0, none⟩) 4 (ics [-1, 0, 100000, 100001])) ⟨H6.alloc _, rds_newAt 1 4 rfl rfl⟩ (fun V z => ?_)
    refine (among_any b A n c k4 (some ⟨w4.heap.size, 0, none⟩) 4 [-1, 0, 100000, 100001] V z.1.src z.1.byt (by omega) hn z.2 (by decide) (by decide) (addr_ne hq6)).mono ?_
    rintro e w5 ⟨v5, k5, rfl, ⟨d5, hd5, rfl⟩, hk5, hs5, hg5⟩
    have H7 := z.1.call hg5 hs5
    obtain ⟨⟨l4, l5⟩, ⟨c40, c41, c42⟩, ⟨c50, c51, c52⟩, ⟨f40, f41, f42⟩, ⟨f50, f51, f52⟩⟩ := H7.raw
    clear z hs5 hg5 H6
    go_wp2_with fail
    have F := (H7.set0 d5).fin (i64 d5) (.string s1) (i64 (x2 - 200))
    exact bodyPost_ret (v := env ⟨d5, s1, x2 - 200⟩) (by simp [results, Tryd.results81, go_sem, c40, c41, c42]) rfl ⟨⟨d5, s1, x2 - 200⟩, k5, rfl, hs1s, by omega, F.1, F.2⟩
  by_cases t1 : x3 = 1
  · subst t1
    go_wp2_with fail
    refine cg (R := fun V => DE w V b A n c q4 q5 _ k4 ∧ Rds V 1 (some ⟨w4.heap.size, 0, none⟩) 3 (strs nm3)) ⟨H6.alloc _, rds_newAt 1 3 rfl rfl⟩ (fun V z => ?_)
    refine (text_any b A n c k4 (some ⟨w4.heap.size, 0, none⟩) 3 nm3 V z.1.src z.1.byt (by omega) hn z.2 (by decide) (by decide) (addr_ne hq6)).mono ?_
    rintro e w5 ⟨v5, k5, rfl, ⟨d5, hd5, rfl⟩, hk5, hs5, hg5⟩
    have hd5s := nm3_size d5 hd5
    have H7 := z.1.call hg5 hs5
    obtain ⟨⟨l4, l5⟩, ⟨c40, c41, c42⟩, ⟨c50, c51, c52⟩, ⟨f40, f41, f42⟩, ⟨f50, f51, f52⟩⟩ := H7.raw
    clear z hs5 hg5 H6 hd5
    go_wp2_with fail
    have F := (H7.set1 d5).fin (i64 (day + x1)) (.string d5) (i64 (x2 - 200))
    exact bodyPost_ret (v := env ⟨day + x1, d5, x2 - 200⟩) (by simp [results, Tryd.results81, go_sem, c40, c41, c42]) rfl ⟨⟨day + x1, d5, x2 - 200⟩, k5, rfl, hd5s, by omega, F.1, F.2⟩
  by_cases t2 : x3 = 2
  · subst t2
    go_wp2_with fail
    refine cg (R := fun V => DE w V b A n c q4 q5 _ k4 ∧ Rds V 1 (some ⟨w4.heap.size, 0, none⟩) 5 (ics [-1000001, -1000000, 1000000, 1000001, -9223372036854775808])) ⟨H6.alloc _, rds_newAt 1 5 rfl rfl⟩ (fun V z => ?_)
    refine (among_any b A n c k4 (some ⟨w4.heap.size, 0, none⟩) 5 [-1000001, -1000000, 1000000, 1000001, -9223372036854775808] V z.1.src z.1.byt (by omega) hn z.2 (by decide) (by decide) (addr_ne hq6)).mono ?_
    rintro e w5 ⟨v5, k5, rfl, ⟨d5, hd5, rfl⟩, hk5, hs5, hg5⟩
    have H7 := z.1.call hg5 hs5
    obtain ⟨⟨l4, l5⟩, ⟨c40, c41, c42⟩, ⟨c50, c51, c52⟩, ⟨f40, f41, f42⟩, ⟨f50, f51, f52⟩⟩ := H7.raw
    clear z hs5 hg5 H6 hd5
    go_wp2_with fail
    have F := (H7.set2 d5).fin (i64 (day + x1)) (.string s1) (i64 d5)
    exact bodyPost_ret (v := env ⟨day + x1, s1, d5⟩) (by simp [results, Tryd.results81, go_sem, c40, c41, c42]) rfl ⟨⟨day + x1, s1, d5⟩, k5, rfl, hs1s, by omega, F.1, F.2⟩
  · have u0 : (x3 == 0) = false := by rw [beq_eq_false_iff_ne]; exact t0
    have u1 : (x3 == 1) = false := by rw [beq_eq_false_iff_ne]; exact t1
    have u2 : (x3 == 2) = false := by rw [beq_eq_false_iff_ne]; exact t2
    obtain ⟨⟨l4, l5⟩, ⟨c40, c41, c42⟩, ⟨c50, c51, c52⟩, ⟨f40, f41, f42⟩, ⟨f50, f51, f52⟩⟩ := H6.raw
    go_wp2_with fail
    have F := H6.fin (i64 (day + x1)) (.string s1) (i64 (x2 - 200))
    exact bodyPost_ret (v := env ⟨day + x1, s1, x2 - 200⟩) (by simp [results, Tryd.results81, go_sem, c40, c41, c42]) rfl ⟨⟨day + x1, s1, x2 - 200⟩, k4, rfl, hs1s, by omega, F.1, F.2⟩
end Go.Proofs.YtkjomkiajdjhpaaDoor

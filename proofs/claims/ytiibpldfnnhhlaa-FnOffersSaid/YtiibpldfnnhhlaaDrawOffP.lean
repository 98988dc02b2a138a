/-
  The state while an offer is drawn: its box q, its numbers in block m. The bounds stand at it.
-/
import Derived.Test.YtiibpldfnnhhlaaBentO
import Derived.Test.YtiibpldfnnhhlaaBestI2
namespace Go.Proofs.Ytiibpldfnnhhlaa
open Go.RowKit
theorem OGot.far {lo : Nat} {w w' : World} {A : Option Addr} {c : Nat} {l : List Offer} {ps : List Ptr} {row : Option Nat} (h : OGot lo w A c l ps) (hg : w.grownBy w' row) (hA : ∀ x, row = some x → ablk A ≠ some x) (hP : ∀ x, row = some x → ∀ i (hi : i < ps.length), ablk ps[i].1 ≠ some x) : OGot lo w' A c l ps :=
  ⟨h.len, own_keepK h.row hg (fun x e e2 => hA x e (by rw [← e2, own_ablk])), fun i a b => own_keepK (h.inner i a b) hg (fun x e e2 => hP x e i b (by rw [← e2, own_ablk])), h.apart, h.outer⟩
structure XB (w V : World) (b : Nat) (A : Option Addr) (n c k B q m N : Nat) (pr : Int) (ms : List Int) (A' : Option Addr) (c' : Nat) (l : List Offer) (ps : List Ptr) : Prop where
  box : Blk V q 67 #[.slice (some ⟨m, 0, none⟩) N N, i64 pr]
  row : V.ownsRow B 2 1 (.slice (some ⟨m, 0, none⟩) N N) N (ics ms)
  got : OGot w.heap.size V A' c' l ps
  src : SrcAt V b A n c k
  byt : Byt V b A n
  gr : w.grownBy V (some b)
  lt : b < w.heap.size
  lo : w.heap.size ≤ B
  bq : B ≤ q
  ne : q ≠ m
  hA : ∀ k, ablk A' = some k → k < B
  hP : ∀ i (hi : i < ps.length) k, ablk ps[i].1 = some k → k < B
section
variable {w V V' : World} {b : Nat} {A A' : Option Addr} {n c c' k k' B q m N : Nat} {pr : Int} {ms : List Int} {l : List Offer} {ps : List Ptr}
theorem XB.mlo (h : XB w V b A n c k B q m N pr ms A' c' l ps) : B ≤ m ∧ m < V.heap.size := h.row.lt m rfl
theorem XB.bel (h : XB w V b A n c k B q m N pr ms A' c' l ps) (hb : Below V.heap.size V V') : XB w V' b A n c k B q m N pr ms A' c' l ps :=
  ⟨h.box.up ⟨V', hb⟩, own_below h.row hb, h.got.below hb, h.src.bel hb, h.byt.bel hb, gr_up h.gr ⟨V', hb⟩, h.lt, h.lo, h.bq, h.ne, h.hA, h.hP⟩
theorem XB.call (h : XB w V b A n c k B q m N pr ms A' c' l ps) (hg : V.grownBy V' (some b)) (hs : SrcAt V' b A n c k') : XB w V' b A n c k' B q m N pr ms A' c' l ps := by
  have h1 := h.lt
  have h2 := h.lo
  have h3 := h.bq
  have h4 := h.mlo
  exact ⟨h.box.grown hg (fun e => by injection e with e; omega), own_keepK h.row hg (fun x e e2 => by injection e with e; have e2 : some m = some x := e2; injection e2 with e2; omega), h.got.grown hg (fun x e => by injection e with e; omega), hs, h.byt.grown hg, grown_trans h.gr hg, h1, h2, h3, h.ne, h.hA, h.hP⟩
theorem XB.put (h : XB w V b A n c k B q m N pr ms A' c' l ps) (j : Nat) (x : Int) : XB w (V.setCell ⟨m, j, none⟩ (i64 x)) b A n c k B q m N pr (ms.set j x) A' c' l ps := by
  have h1 := h.lt
  have h2 := h.lo
  have h4 := h.mlo
  have s := h.row.stored j (i64 x)
  have hg : V.grownBy (V.setCell ⟨m, j, none⟩ (i64 x)) (some m) := s.2
  refine ⟨h.box.far (p := ⟨m, j, none⟩) h.ne _, ?_, h.got.far hg (fun x e e2 => by injection e with e; have := h.hA x e2; omega) (fun x e i hi e2 => by injection e with e; have := h.hP i hi x e2; omega), h.src.far (p := ⟨m, j, none⟩) (by show b ≠ m; omega) _, h.byt.kept hg (fun j hj => by injection hj with hj; omega), gr_new h.gr (p := ⟨m, j, none⟩) (by show w.heap.size ≤ m; omega) _, h1, h2, h.bq, h.ne, h.hA, h.hP⟩
  have := s.1
  rwa [show (ics ms).set j (i64 x) = ics (ms.set j x) by simp [ics, List.map_set]] at this
theorem XB.raw (h : XB w V b A n c k B q m N pr ms A' c' l ps) : (q < V.heap.size ∧ V.cell? ⟨q, 0, none⟩ = some (.slice (some ⟨m, 0, none⟩) N N) ∧ V.cell? ⟨q, 1, none⟩ = some (i64 pr)) ∧ m < V.heap.size ∧ ∀ j, V.frozen? ⟨m, j, none⟩ = false :=
  ⟨⟨h.box.lt, h.box.cell 0, h.box.cell 1⟩, h.mlo.2, fun j => h.row.frozenAt j⟩
theorem XB.len (h : XB w V b A n c k B q m N pr ms A' c' l ps) : ms.length = N := by
  have := h.row.1
  simpa [ics] using this
theorem XB.at (h : XB w V b A n c k B q m N pr ms A' c' l ps) {j : Nat} (hj : j < N) : V.cell? ⟨m, j, none⟩ = some (i64 (iat ms j)) := by
  have hl := h.len
  have := (Rds.of_own h.row).at (by omega)
  obtain ⟨b', off, e, _, hc⟩ := this
  injection e with e
  injection e with e1 e2 _
  subst e1 e2
  have := hc j _ (ics_get (show j < ms.length by omega))
  rwa [Nat.zero_add, iat_eq] at this
/-- the offer that has been drawn is appended -/
theorem XB.app (h : XB w V b A n c k B q m N pr ms A' c' l ps) {g cap : Nat} (hV : V.heap.size ≤ V'.heap.size) {U : World} (hU : Below V.heap.size V U) (hgU : U.heap.size = V.heap.size + 1)
    (ho : V'.ownsRow w.heap.size 67 2 (.slice (some ⟨g, 0, none⟩) (l.length + 1) cap) (l.length + 1) (ocs l ps ++ [.slice (some ⟨m, 0, none⟩) N N, i64 pr]))
    (hg : U.grownBy V' (ablk A')) (hat : ablk A' = some g ∨ g = U.heap.size) : OGot w.heap.size V' (some ⟨g, 0, none⟩) cap (l ++ [⟨ms, pr⟩]) (ps ++ [(some ⟨m, 0, none⟩, N)]) := by
  have hl := h.len
  refine OGot.step2 (x := ⟨ms, pr⟩) (p := (some ⟨m, 0, none⟩, N)) (h.got.below hU) h.hA h.hP h.lo ?_ ?_ hg hat
  · show U.ownsRow B 2 1 (.slice (some ⟨m, 0, none⟩) ms.length N) ms.length (ics ms)
    rw [hl]
    exact own_below h.row hU
  · show V'.ownsRow w.heap.size 67 2 _ _ (ocs l ps ++ [.slice (some ⟨m, 0, none⟩) ms.length N, i64 pr])
    rw [hl]
    exact ho
end
/-- while an offer is made: its numbers' block and its box, as far as they are there -/
structure MK (w V : World) (b : Nat) (A : Option Addr) (n c k B N : Nat) (mo qo : Option Nat) (A' : Option Addr) (c' : Nat) (l : List Offer) (ps : List Ptr) : Prop where
  got : OGot w.heap.size V A' c' l ps
  src : SrcAt V b A n c k
  byt : Byt V b A n
  gr : w.grownBy V (some b)
  lt : b < w.heap.size
  lo : w.heap.size ≤ B
  bs : B ≤ V.heap.size
  hA : ∀ k, ablk A' = some k → k < B
  hP : ∀ i (hi : i < ps.length) k, ablk ps[i].1 = some k → k < B
  hm : ∀ m, mo = some m → V.ownsRow B 2 1 (.slice (some ⟨m, 0, none⟩) N N) N (ics (zer N))
  hq : ∀ q, qo = some q → Blk V q 67 #[.slice none 0 0, i64 0] ∧ B ≤ q
  ne : ∀ m q, mo = some m → qo = some q → q ≠ m
  sm : N ≤ 100000000
section
variable {w V V' : World} {b : Nat} {A A' : Option Addr} {n c c' k k' B N : Nat} {mo qo : Option Nat} {l : List Offer} {ps : List Ptr}
theorem MK.bel (h : MK w V b A n c k B N mo qo A' c' l ps) (hb : Below V.heap.size V V') : MK w V' b A n c k B N mo qo A' c' l ps :=
  ⟨h.got.below hb, h.src.bel hb, h.byt.bel hb, gr_up h.gr ⟨V', hb⟩, h.lt, h.lo, Nat.le_trans h.bs hb.size, h.hA, h.hP, fun m e => own_below (h.hm m e) hb, fun q e => ⟨(h.hq q e).1.up ⟨V', hb⟩, (h.hq q e).2⟩, h.ne, h.sm⟩
theorem MK.call (h : MK w V b A n c k B N mo qo A' c' l ps) (hg : V.grownBy V' (some b)) (hs : SrcAt V' b A n c k') : MK w V' b A n c k' B N mo qo A' c' l ps := by
  have h1 := h.lt
  have h2 := h.lo
  exact ⟨h.got.grown hg (fun x e => by injection e with e; omega), hs, h.byt.grown hg, grown_trans h.gr hg, h1, h2, Nat.le_trans h.bs hg.size, h.hA, h.hP,
    fun m e => own_keepK (h.hm m e) hg (fun x e1 e2 => by injection e1 with e1; have := ((h.hm m e).lt x e2).1; omega), fun q e => ⟨(h.hq q e).1.grown hg (fun e1 => by injection e1 with e1; have := (h.hq q e).2; omega), (h.hq q e).2⟩, h.ne, h.sm⟩
theorem MK.make (h : MK w V b A n c k B N none qo A' c' l ps) : MK w (V.alloc (.cells (madeCells #[i64 0] N) 2)) b A n c k B N (some V.heap.size) qo A' c' l ps := by
  have hb : Below V.heap.size V (V.alloc (.cells (madeCells #[i64 0] N) 2)) := (Below.refl _ _).alloc (Nat.le_refl _) _
  have hz := h.sm
  have h0 := h.bel hb
  refine ⟨h0.got, h0.src, h0.byt, h0.gr, h0.lt, h0.lo, h0.bs, h0.hA, h0.hP, fun m e => ?_, h0.hq, fun m q e e2 => ?_, h0.sm⟩
  · injection e with e
    subst e
    have := World.ownsRow_lit (base := B) (e := 2) (size := 1) V (madeCells #[i64 0] N) N h.bs (by unfold maxLen; omega) (by rw [size_madeCells, Nat.mul_one])
    rwa [zer_made] at this
  · injection e with e
    have := (h.hq q e2).1.lt
    omega
theorem MK.box (h : MK w V b A n c k B N mo none A' c' l ps) : MK w (V.alloc (.cells #[.slice none 0 0, i64 0] 67)) b A n c k B N mo (some V.heap.size) A' c' l ps := by
  have hb : Below V.heap.size V (V.alloc (.cells #[.slice none 0 0, i64 0] 67)) := (Below.refl _ _).alloc (Nat.le_refl _) _
  have h0 := h.bel hb
  refine ⟨h0.got, h0.src, h0.byt, h0.gr, h0.lt, h0.lo, h0.bs, h0.hA, h0.hP, h0.hm, fun q e => ?_, fun m q e e2 => ?_, h0.sm⟩
  · injection e with e
    subst e
    exact ⟨Blk.new _ _ _, h.bs⟩
  · injection e2 with e2
    have := ((h.hm m e).lt m rfl).2
    omega
theorem MK.raw {m q : Nat} (h : MK w V b A n c k B N (some m) (some q) A' c' l ps) : (q < V.heap.size ∧ V.cell? ⟨q, 0, none⟩ = some (.slice none 0 0) ∧ V.cell? ⟨q, 1, none⟩ = some (i64 0)) ∧ V.frozen? ⟨q, 0, none⟩ = false ∧ V.frozen? ⟨q, 1, none⟩ = false :=
  let hq := (h.hq q rfl).1
  ⟨⟨hq.lt, hq.cell 0, hq.cell 1⟩, hq.free 0, hq.free 1⟩
theorem MK.fin {m q : Nat} (h : MK w V b A n c k B N (some m) (some q) A' c' l ps) (pr : Int) : XB w ((V.setCell ⟨q, 0, none⟩ (.slice (some ⟨m, 0, none⟩) N N)).setCell ⟨q, 1, none⟩ (i64 pr)) b A n c k B q m N pr (zer N) A' c' l ps := by
  have hq := (h.hq q rfl).1
  have hB := (h.hq q rfl).2
  have h1 := h.lt
  have h2 := h.lo
  have hne := h.ne m q rfl rfl
  have g1 := grown_put V q 0 (.slice (some ⟨m, 0, none⟩) N N)
  have g2 := grown_trans g1 (grown_put (V.setCell ⟨q, 0, none⟩ (.slice (some ⟨m, 0, none⟩) N N)) q 1 (i64 pr))
  refine ⟨(hq.put 0 _).put 1 _, own_keepK (h.hm m rfl) g2 (fun x e e2 => by injection e with e; have e2 : some m = some x := e2; injection e2 with e2; omega), h.got.far g2 (fun x e e2 => by injection e with e; have := h.hA x e2; omega) (fun x e i hi e2 => by injection e with e; have := h.hP i hi x e2; omega),
    h.src.kept g2 (fun e => by injection e with e; omega), h.byt.kept g2 (fun j hj => by injection hj with hj; omega), gr_far h.gr g2 (fun j hj => by injection hj with hj; omega), h1, h2, hB, hne, h.hA, h.hP⟩
end
/-- all offers have so many numbers -/
def OLen (L : Nat) (l : List Offer) : Prop := ∀ i, i < l.length → (oat l i).many.length = L
theorem OLen.nil {m : Nat} : OLen m [] := fun i hi => by simp at hi
theorem OLen.snoc {m : Nat} {l : List Offer} {x : Offer} (h : OLen m l) (h2 : x.many.length = m) : OLen m (l ++ [x]) := fun i hi => by
  rw [List.length_append, List.length_singleton] at hi
  rcases Nat.lt_or_ge i l.length with h3 | h3
  · have e : oat (l ++ [x]) i = oat l i := by simp [oat, List.getElem?_append_left h3]
    rw [e]; exact h i h3
  · obtain rfl : i = l.length := by omega
    have e : oat (l ++ [x]) l.length = x := by simp [oat]
    rw [e]; exact h2
theorem OLen.short {m m' : Nat} {l : List Offer} (h : OLen m l) (hm : m ≤ m') : OShort m' l := fun i hi => by rw [h i hi]; exact hm
theorem make_ints (u : World) (n : Nat) (hn : n ≤ 100000000) : (Instr.makeSlice 35 (i64 n) (i64 n)).run Try.prog u = .ok (.slice (some ⟨u.heap.size, 0, none⟩) n n) (u.alloc (.cells (madeCells #[i64 0] n) 2)) := by
  have hi : (Try.prog.info? 2).map (fun i => (i.zero, i.size, i.bytes)) = some (some (i64 0), 1, 8) := by kernel_rfl
  obtain ⟨i0, hi, hz0, hz1, hz2⟩ := info_parts hi
  have h := run_make (P := Try.prog) u 35 2 i0 _ Try.underlying35 hi hz0 .i64 .i64 n n (by omega) (Int.le_refl _) (by rw [hz2]; omega) (by omega)
  simpa [hz1, Value.cells] using h
/-- the drawn offer right behind its making: the numbers first, or the call first -/
theorem XB.made {w U V : World} {b : Nat} {A A' : Option Addr} {n c c' k N : Nat} {pr : Int} {l : List Offer} {ps : List Ptr} {B m : Nat} (hN : N ≤ 100000000) (hlt : b < w.heap.size) (hlo : w.heap.size ≤ B)
    (hgot : OGot w.heap.size U A' c' l ps) (hA : ∀ k, ablk A' = some k → k < B) (hP : ∀ i (hi : i < ps.length) k, ablk ps[i].1 = some k → k < B) (hs : SrcAt U b A n c k) (hb : Byt U b A n) (hg : w.grownBy U (some b))
    (hrow : U.ownsRow B 2 1 (.slice (some ⟨m, 0, none⟩) N N) N (ics (zer N))) (hBU : B ≤ U.heap.size) : XB w (U.alloc (.cells #[.slice (some ⟨m, 0, none⟩) N N, i64 pr] 67)) b A n c k B U.heap.size m N pr (zer N) A' c' l ps := by
  have hm := (hrow.lt m rfl).2
  have hbel : Below U.heap.size U (U.alloc (.cells #[.slice (some ⟨m, 0, none⟩) N N, i64 pr] 67)) := (Below.refl _ _).alloc (Nat.le_refl _) _
  exact ⟨Blk.new _ _ _, own_below hrow hbel, hgot.below hbel, hs.alloc _, hb.alloc _, gr_alloc hg _, hlt, hlo, hBU, by omega, hA, hP⟩
end Go.Proofs.Ytiibpldfnnhhlaa

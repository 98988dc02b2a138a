/-
  The reference's drawing of defects, and of defects with prices. The bounds stand at each.
-/
import Derived.Test.YtfggbcmpgkhlaaaSrcKept
import Derived.Test.YtfggbcmpgkhlaaaDrawnP
import Derived.Test.YtfggbcmpgkhlaaaStrApp
import Derived.Test.YtfggbcmpgkhlaaaStrs0
import Derived.Test.YtfggbcmpgkhlaaaGen
import Derived.Deep.RegionHeld3
import Derived.Deep.DeepMust
namespace Go.Proofs.Ytfggbcmpgkhlaaa
open Go.RowKit
theorem el_def : ElemOf Try.prog 24 38 (.agg #[.string ByteArray.empty, i64 0, .string ByteArray.empty]) 3 40 := elem_of Try.underlying24 (by kernel_rfl) rfl (by omega)
theorem drawnD_nil (m : Nat) : drawnD m [] := ⟨by simp, fun i hi => by simp at hi⟩
theorem drawnD_snoc {m : Nat} {l : List Defect} (h : drawnD m l) (hl : l.length < 7) {x : Defect} (hn : x.name = nm7.getD l.length ⟨#[]⟩) (hw : 1 ≤ x.weight ∧ x.weight ≤ 9) (hz : x.signs.size = m) (hb : signsB x.signs = true) : drawnD m (l ++ [x]) := by
  refine ⟨by rw [List.length_append, List.length_singleton]; omega, fun i hi => ?_⟩
  rw [List.length_append, List.length_singleton] at hi
  rcases Nat.lt_or_ge i l.length with h1 | h1
  · have e : dat (l ++ [x]) i = dat l i := by simp [dat, List.getElem?_append_left h1]
    rw [e]
    exact h.2 i h1
  · obtain rfl : i = l.length := by omega
    have e : dat (l ++ [x]) l.length = x := by simp [dat]
    rw [e]
    exact ⟨hn, hw, hz, hb⟩
def sgnOk (l : List UInt8) : Prop := ∀ x ∈ l, x = 48 ∨ x = 49
theorem sgnOk_snoc {l : List UInt8} (h : sgnOk l) {x : UInt8} (hx : x = 48 ∨ x = 49) : sgnOk (l ++ [x]) := fun y hy => by
  rw [List.mem_append, List.mem_singleton] at hy
  rcases hy with hy | rfl
  · exact h y hy
  · exact hx
theorem sgnOk_signs {l : List UInt8} (h : sgnOk l) : signsB ⟨l.toArray⟩ = true := rall_true fun i hi => by
  have hi' : i < l.length := hi
  have e : byteAt ⟨l.toArray⟩ i = l[i] := by simp [byteAt, hi']
  rw [e]
  rcases h l[i] (List.getElem_mem hi') with e | e <;> rw [e] <;> rfl
theorem dfcs_snoc (l : List Defect) (x : Defect) : dfcs (l ++ [x]) = dfcs l ++ [.string x.name, i64 x.weight, .string x.signs] := by simp [dfcs, Defect.cells]
theorem Rds.far {w w' : World} {size b : Nat} {A : Option Addr} {n : Nat} {cs : List Value} {row : Option Nat} (h : Rds w size A n cs) (hg : w.grownBy w' row) (hA : ∀ b' off, A = some ⟨b', off, none⟩ → b' < b) (hr : ∀ j, row = some j → b ≤ j) : Rds w' size A n cs :=
  h.grown hg (fun _ b' off e he => by have := hA b' off e; have := hr b' he.symm; omega)
theorem grown_dr (w : World) (row : Option Nat) : w.grownBy w.drew row := ⟨rfl, rfl, rfl, Nat.le_refl _, fun _ _ _ => rfl⟩
theorem cell_kd {w w1 w2 V : World} {b q : Nat} {o : Nat} {v : Value} (h : w.cell? ⟨q, o, none⟩ = some v) (hq : q < w.heap.size) (hne : q ≠ b) (hg : w1.grownBy w2 (some b)) (ha : Below w.heap.size w w1) (hb : Below w2.heap.size w2 V) : V.cell? ⟨q, o, none⟩ = some v := by
  have h1 := (hg.cell_far ⟨q, o, none⟩ (Nat.lt_of_lt_of_le hq ha.size) (fun e => hne (by injection e))).trans ((ha.cell (p := ⟨q, o, none⟩) hq).trans h)
  exact (hb.cell (p := ⟨q, o, none⟩) (Nat.lt_of_lt_of_le (Nat.lt_of_lt_of_le hq ha.size) hg.size)).trans h1
theorem SrcAt.bel {w V : World} {b n c k : Nat} {A : Option Addr} (h : SrcAt w b A n c k) (hb : Below w.heap.size w V) : SrcAt V b A n c k := h.kept (grown_up ⟨V, hb⟩ none) (by simp)
theorem Byt.bel {w V : World} {b n : Nat} {A : Option Addr} (h : Byt w b A n) (hb : Below w.heap.size w V) : Byt V b A n := h.kept (grown_up ⟨V, hb⟩ none) (fun j hj => by cases hj)
theorem blk3 {w w2 : World} {b : Nat} (hb : b < w.heap.size) (hg : (w.alloc (.cells #[.string ⟨#[]⟩, i64 0, .string ⟨#[]⟩] 38)).drew.grownBy w2 (some b)) :
    Blk w2 w.heap.size 38 #[.string ⟨#[]⟩, i64 0, .string ⟨#[]⟩] ∧ (w2.cell? ⟨w.heap.size, 0, none⟩ = some (.string ⟨#[]⟩) ∧ w2.cell? ⟨w.heap.size, 1, none⟩ = some (i64 0) ∧ w2.cell? ⟨w.heap.size, 2, none⟩ = some (.string ⟨#[]⟩)) ∧ w2.frozen? ⟨w.heap.size, 0, none⟩ = false ∧ w2.frozen? ⟨w.heap.size, 1, none⟩ = false ∧ w2.frozen? ⟨w.heap.size, 2, none⟩ = false := by
  have QB := (Blk.new w 38 #[.string ⟨#[]⟩, i64 0, .string ⟨#[]⟩]).drew.grown hg (fun e => by injection e with e; omega)
  exact ⟨QB, ⟨QB.cell 0, QB.cell 1, QB.cell 2⟩, QB.free 0, QB.free 1, QB.free 2⟩
theorem cell_ks {V : World} {p : Addr} {u v : Value} {q o : Nat} (h : V.cell? ⟨q, o, none⟩ = some v) (hne : q ≠ p.block) : (V.setCell p u).cell? ⟨q, o, none⟩ = some v :=
  (World.cell?_of_block (w := V) (a := ⟨q, o, none⟩) (Below.heap_setCell V p u q hne)).trans h
theorem rds_newA {w : World} {cs : Array Value} {t : TypeId} {p : Nat} (sz m : Nat) (hp : w.heap.size = p) (h : cs.size = m * sz) : Rds (w.alloc (.cells cs t)) sz (some ⟨p, 0, none⟩) m cs.toList := by
  subst hp; exact rds_new w cs t sz m h
theorem exit_gen {Q : Exit → Act → World → Prop} {x : Exit} {a : Act} {w : World} {R : World → Prop} (st : R w) (h : ∀ W, R W → Q x a W) : Q x a w := h w st
/-- the state while a defect is drawn: its block q, the source at b, the names at nb, the list so far -/
structure DD (w V : World) (b : Nat) (A : Option Addr) (n c nb q : Nat) (x : Defect) (k : Nat) (l : List Defect) (A' : Option Addr) (c' : Nat) : Prop where
  bk : Blk V q 38 #[.string x.name, i64 x.weight, .string x.signs]
  src : SrcAt V b A n c k
  byt : Byt V b A n
  nms : Rds V 1 (some ⟨nb, 0, none⟩) 7 (strs nm7)
  own : V.ownsRow (nb + 1) 38 3 (.slice A' l.length c') l.length (dfcs l)
  gr : w.grownBy V (some b)
  apart : (Value.slice A' l.length c').ownBlock ≠ some q
  qn : nb < q
  bn : b < nb
section
variable {w V V' : World} {b : Nat} {A A' : Option Addr} {n c nb q k k' c' : Nat} {x : Defect} {l : List Defect}
theorem DD.call (h : DD w V b A n c nb q x k l A' c') (hg : V.grownBy V' (some b)) (hs : SrcAt V' b A n c k') : DD w V' b A n c nb q x k' l A' c' := by
  have h1 := h.qn
  have h2 := h.bn
  exact ⟨h.bk.grown hg (fun e => by injection e with e; omega), hs, h.byt.grown hg, h.nms.grown hg (fun _ b' off e he => by injection e with e; injection e with e _; injection he with he; omega),
    h.own.kept hg (by cases hv : (Value.slice A' l.length c').ownBlock with | none => exact .inl rfl | some q => exact .inr (fun e => by injection e with e; have := (h.own.lt q hv).1; omega)), grown_trans h.gr hg, h.apart, h.qn, h.bn⟩
theorem DD.set2 (hw : w.heap.size = nb) (h : DD w V b A n c nb q x k l A' c') (s : ByteArray) : DD w (V.setCell ⟨q, 2, none⟩ (.string s)) b A n c nb q ⟨x.name, x.weight, s⟩ k l A' c' := by
  have h1 := h.qn
  have h2 := h.bn
  have hg := grown_put V q 2 (.string s)
  exact ⟨h.bk.put 2 _, h.src.far (by show b ≠ q; omega) _, h.byt.far (by show b ≤ q; omega) _, h.nms.grown hg (fun _ b' off e he => by injection e with e; injection e with e _; injection he with he; omega), h.own.kept hg (.inr h.apart), gr_new h.gr (by show w.heap.size ≤ q; omega) _, h.apart, h.qn, h.bn⟩
theorem DD.raw (h : DD w V b A n c nb q x k l A' c') : q < V.heap.size ∧ (V.cell? ⟨q, 0, none⟩ = some (.string x.name) ∧ V.cell? ⟨q, 1, none⟩ = some (i64 x.weight) ∧ V.cell? ⟨q, 2, none⟩ = some (.string x.signs)) ∧ (V.frozen? ⟨q, 0, none⟩ = false ∧ V.frozen? ⟨q, 1, none⟩ = false ∧ V.frozen? ⟨q, 2, none⟩ = false) :=
  ⟨h.bk.lt, ⟨h.bk.cell 0, h.bk.cell 1, h.bk.cell 2⟩, ⟨h.bk.free 0, h.bk.free 1, h.bk.free 2⟩⟩
end
theorem dd_start {w wr w1 w2 V : World} {b : Nat} {A A' : Option Addr} {n c nb q k2 c' : Nat} {x : Defect} {l : List Defect} (hbn : b < nb) (hnb : nb < wr.heap.size) (HBT : Byt wr b A n) (HNR : Rds wr 1 (some ⟨nb, 0, none⟩) 7 (strs nm7)) (HOWN : wr.ownsRow (nb + 1) 38 3 (.slice A' l.length c') l.length (dfcs l)) (HGR : w.grownBy wr (some b))
    (h1 : Below wr.heap.size wr w1) (hg : w1.grownBy w2 (some b)) (hs : SrcAt w2 b A n c k2) (hq : wr.heap.size ≤ q) (hk : w2.grownBy V (some q)) (hB : Blk V q 38 #[.string x.name, i64 x.weight, .string x.signs]) : DD w V b A n c nb q x k2 l A' c' := by
  have o1 := own_below HOWN h1
  have o2 := o1.kept hg (by cases hv : (Value.slice A' l.length c').ownBlock with | none => exact .inl rfl | some q => exact .inr (fun e => by injection e with e; have := (HOWN.lt q hv).1; omega))
  have ha : (Value.slice A' l.length c').ownBlock ≠ some q := fun e => by have := (HOWN.lt q e).2; omega
  have b2 := (HBT.bel h1).grown hg
  have n2 := ((HNR.below h1).grown hg (fun _ b' off e he => by injection e with e; injection e with e _; injection he with he; omega))
  refine ⟨hB, hs.kept hk (fun e => by injection e with e; omega), b2.kept hk (fun j hj => by injection hj with hj; omega), n2.grown hk (fun _ b' off e he => by injection e with e; injection e with e _; injection he with he; omega), o2.kept hk (.inr ha), ?_, ha, by omega, hbn⟩
  have g1 : w.grownBy w2 (some b) := grown_trans (gr_up HGR ⟨w1, h1⟩) hg
  exact gr_far g1 hk (fun j hj => by injection hj with hj; have := HGR.size; omega)
set_option maxRecDepth 10000 in
set_option maxHeartbeats 4000000 in
theorem l23Draw_any (b : Nat) (A : Option Addr) (n c k m : Nat) (w : World) (h : SrcAt w b A n c k) (hb : Byt w b A n) (hk : k ≤ 100000) (hn : n ≤ 1000000) (hm : m ≤ 5) :
    Calls Try.prog 37 #[.pointer (some ⟨b, 0, none⟩), i64 m] w fun e w' => ∃ (l : List Defect) (A' : Option Addr) (c' : Nat), e = .returned (.slice A' l.length c') ∧ w'.ownsRow w.heap.size 38 3 (.slice A' l.length c') l.length (dfcs l) ∧ drawnD m l ∧ w.grownBy w' (some b) := by
  have hlt := h.lt
  have HS := Lib.hid h
  have HB := Lib.hid hb
  have hOwn := Lib.hid (World.ownsRow_lit (base := w.heap.size + 1) (e := 38) (size := 3) (w.alloc (.cells #[.string ⟨#[98, 101, 108, 108]⟩, .string ⟨#[98, 101, 108, 116]⟩, .string ⟨#[98, 97, 114, 45, 51]⟩, .string ⟨#[115, 104, 105, 102, 116]⟩, .string ⟨#[115, 112, 114, 105, 110, 103]⟩, .string ⟨#[114, 97, 105, 108]⟩, .string ⟨#[107, 101, 121]⟩] 9)) #[] 0 (by simp) (by unfold maxLen; omega) rfl)
  have hNm := Lib.hid ((rds_new w #[.string ⟨#[98, 101, 108, 108]⟩, .string ⟨#[98, 101, 108, 116]⟩, .string ⟨#[98, 97, 114, 45, 51]⟩, .string ⟨#[115, 104, 105, 102, 116]⟩, .string ⟨#[115, 112, 114, 105, 110, 103]⟩, .string ⟨#[114, 97, 105, 108]⟩, .string ⟨#[107, 101, 121]⟩] 9 1 7 rfl).alloc (.cells #[] 38))
  clear h hb
  go_enter Try.func37, Try.ntmps37
  go_wp2_with fail
  refine cg (R := fun V => SrcAt V b A n c k ∧ Byt V b A n ∧ V.ownsRow (w.heap.size + 1) 38 3 (.slice (some ⟨w.heap.size + 1, 0, none⟩) 0 0) 0 [] ∧ Rds V 1 (some ⟨w.heap.size, 0, none⟩) 7 (strs nm7) ∧ w.grownBy V (some b)) ⟨(HS.out.alloc _).alloc _, (HB.out.alloc _).alloc _, (by have := hOwn.out; rwa [World.size_alloc] at this), hNm.out, gr_alloc (gr_alloc (grown_refl w _) _) _⟩ (fun V z => ?_)
  obtain ⟨z1, z2, z3, z4, z5⟩ := z
  refine (pick_any b A n c k 8 V z1 z2 (by omega) hn (by omega)).mono ?_
  rintro e w1 ⟨x, k1, rfl, y0, y1, hk1, hs1, hg1⟩
  obtain ⟨j0, rfl⟩ : ∃ j : Nat, x = (j : Int) := ⟨x.toNat, by omega⟩
  have hj0 : j0 ≤ 7 := by omega
  have S1 := Lib.hid hs1
  have B1 := Lib.hid (z2.grown hg1)
  have O1 := Lib.hid (z3.kept hg1 (.inr (fun e => by injection e with e; have e : w.heap.size + 1 = b := e; omega)))
  have N1 := Lib.hid (z4.grown hg1 (fun _ b' off e he => by injection e with e; injection e with e _; injection he with he; omega))
  have G1 := Lib.hid (grown_trans z5 hg1)
  clear hs1 hg1 y1 y0 z1 z2 z3 z4 z5 hOwn hNm HS HB
  obtain ⟨nb, hnb⟩ : ∃ nb, w.heap.size = nb := ⟨_, rfl⟩
  rw [hnb] at O1 N1 hlt
  rw [hnb]
  go_wp2_with fail
  go_loopw [6, 7] (fun o kk wr => ∃ (l : List Defect) (A' : Option Addr) (c' j k' : Nat), kk = i64 j ∧ o = .slice A' l.length c' ∧ Hid (drawnD m l) ∧ l.length + j ≤ 7 ∧ k' + 12 * j ≤ k + 90 ∧ SrcAt wr b A n c k' ∧ Byt wr b A n ∧ Rds wr 1 (some ⟨nb, 0, none⟩) 7 (strs nm7) ∧ wr.ownsRow (nb + 1) 38 3 (.slice A' l.length c') l.length (dfcs l) ∧ w.grownBy wr (some b)) (fun _ kk _ => (intOf kk).toNat)
  case atStart => exact ⟨[], _, _, j0, k1, rfl, rfl, drawnD_nil m, by simp; omega, by omega, S1.out, B1.out, N1.out, O1.out, G1.out⟩
  case round =>
    obtain ⟨l, A', c', j, k', rfl, rfl, hva, hlj, hkj, hs, hbt, hnr, hown, hgr⟩ := hrel
    have HSR := Lib.hid hs
    have HBT := Lib.hid hbt
    have HNR := Lib.hid hnr
    have HOWN := Lib.hid hown
    have HGR := Lib.hid hgr
    clear hs hbt hnr hown hgr
    by_cases hj : 0 < j
    · have hj' : (0 : Int) < (j : Int) := by omega
      have hl7 : l.length < 7 := by omega
      obtain ⟨b', off', e', hbn, hcc⟩ := str_at (ss := nm7) HNR.out (i := 0) (by decide)
      injection e' with e'
      injection e' with e1 e2 _
      subst e1 e2
      have c0 := hcc l.length hl7
      rw [Nat.zero_add] at c0
      obtain ⟨nm, hnm⟩ : ∃ nm, nm7.getD l.length ByteArray.empty = nm := ⟨_, rfl⟩
      rw [hnm] at c0
      have HNM := Lib.hid hnm
      have hne : nb ≠ b := by omega
      have hl7' : (l.length : Int) < 7 := by omega
      have hbw : b < wr.heap.size := by omega
      clear hcc hnm
      go_wp2_with fail
      go_region_held3 (fun w' => w'.cell? ⟨nb, l.length, none⟩ = some (.string nm)) (first | exact c0 | (refine (Below.cell (B := wr.heap.size) (w := wr) ?_ (p := ⟨nb, l.length, none⟩) hbn).trans c0; (repeat (first | exact Below.refl _ _ | refine bl_al ?_ _ | refine bl_dr ?_ | refine bl_up ?_ _ | refine Below.drew ?_ | refine bl_alloc ?_ _ | refine Below.setCell ?_ (by first | (simp; done) | (simp; omega)) _)); done) | (refine cell_kd c0 hbn hne (by assumption) ?_ ?_ <;> ((repeat (first | exact Below.refl _ _ | refine bl_al ?_ _ | refine bl_dr ?_ | refine bl_up ?_ _ | refine Below.drew ?_ | refine bl_alloc ?_ _ | refine Below.setCell ?_ (by first | (simp; done) | (simp; omega)) _)); done)) | ((repeat refine cell_ks ?_ (by show nb ≠ wr.heap.size; omega)); (refine cell_kd c0 hbn hne (by assumption) ?_ ?_ <;> ((repeat (first | exact Below.refl _ _ | refine bl_al ?_ _ | refine bl_dr ?_ | refine bl_up ?_ _ | refine Below.drew ?_ | refine bl_alloc ?_ _ | refine Below.setCell ?_ (by first | (simp; done) | (simp; omega)) _)); done)))) (first | (go_at_call 49; refine (pick_any b A n c k' 9 _ (SrcAt.bel HSR.out (by repeat (first | exact Below.refl _ _ | refine bl_tr ?_ _ | refine bl_al ?_ _ | refine bl_dr ?_ | refine bl_up ?_ _ | refine Below.drew ?_ | refine bl_alloc ?_ _ | refine Below.setCell ?_ (by first | (simp; done) | (simp; omega)) _))) (Byt.bel HBT.out (by repeat (first | exact Below.refl _ _ | refine bl_tr ?_ _ | refine bl_al ?_ _ | refine bl_dr ?_ | refine bl_up ?_ _ | refine Below.drew ?_ | refine bl_alloc ?_ _ | refine Below.setCell ?_ (by first | (simp; done) | (simp; omega)) _))) (by omega) hn (by omega)).mono ?_; rintro e w2 ⟨x, k2, rfl, y0, y1, hk2, hs2, hg2⟩; (first | (have QBT := blk3 hbw hg2; obtain ⟨QB, ⟨q0, q1, q2⟩, f0, f1, f2⟩ := QBT) | skip)))
      all_goals
        have hx9 : x < 9 := by omega
        have hwr : IntKind.i64.wrap (1 + x) = 1 + x := by rw [IntKind.wrap_i64]; omega
        rw [hwr]
        first
          | (refine exit_gen (R := fun V => DD w V b A n c nb wr.heap.size ⟨nm, 1 + x, ⟨#[]⟩⟩ k2 l A' c') (dd_start hlt hbn HBT.out HNR.out HOWN.out HGR.out (((Below.refl _ _).alloc (Nat.le_refl _) _).drew) hg2 hs2 (Nat.le_refl _) (grown_trans (grown_trans (grown_put _ _ 0 _) (grown_put _ _ 1 _)) (grown_put _ _ 2 _)) (((QB.put 0 _).put 1 _).put 2 _)) (fun V hD => ?_); clear QB q0 q1 q2 f0 f1 f2; generalize wr.heap.size = q at *)
          | (refine exit_gen (R := fun V => DD w V b A n c nb w2.heap.size ⟨nm, 1 + x, ⟨#[]⟩⟩ k2 l A' c') (dd_start hlt hbn HBT.out HNR.out HOWN.out HGR.out ((Below.refl _ _).drew) hg2 hs2 hg2.size (World.grownBy_alloc _ _ _) (Blk.new _ _ _)) (fun V hD => ?_); generalize w2.heap.size = q at *)
      all_goals
        have HD := Lib.hid hD
        have hqn : nb < q := hD.qn
        have hqV : q < V.heap.size := hD.bk.lt
        clear hD hs2 hg2
        have hOwn := Lib.hid (World.ownsRow_lit (base := V.heap.size) (e := 5) (size := 1) V #[] 0 (Nat.le_refl _) (by unfold maxLen; omega) rfl)
        go_wp2_with fail
        go_loopw [9, 10] (fun o kk wr => ∃ (s : List UInt8) (A3 : Option Addr) (c3 k3 : Nat), kk = i64 s.length ∧ o = .slice A3 s.length c3 ∧ Hid (sgnOk s) ∧ s.length ≤ m ∧ k3 ≤ k2 + 2 * s.length ∧ SrcAt wr b A n c k3 ∧ Byt wr b A n ∧ wr.ownsRow V.heap.size 5 1 (.slice A3 s.length c3) s.length (Lib.byteCells s) ∧ V.grownBy wr (some b)) (fun _ kk _ => m - (intOf kk).toNat)
        case atStart => exact ⟨[], _, _, k2, rfl, rfl, fun x hx => (by simp at hx), by simp, by simp, HD.out.src.alloc _, HD.out.byt.alloc _, hOwn.out, gr_alloc (grown_refl V _) _⟩
        case round =>
          obtain ⟨s, A3, c3, k3, rfl, rfl, hsg, hsm, hk3, hs, hbt, hown, hgr⟩ := hrel
          have HS3 := Lib.hid hs
          have HB3 := Lib.hid hbt
          have HO3 := Lib.hid hown
          have HG3 := Lib.hid hgr
          clear hs hbt hown hgr hOwn
          by_cases hj3 : s.length < m
          · go_wp2_with fail
            refine (pick_any b A n c k3 2 _ HS3.out HB3.out (by omega) (by omega) (by omega)).mono ?_
            rintro e w2 ⟨x, k4, rfl, y0, y1, hk4, hs2, hg2⟩
            have S3 := Lib.hid hs2
            have B3 := Lib.hid (HB3.out.grown hg2)
            have O3 := Lib.hid (HO3.out.kept hg2 (by cases hv : (Value.slice A3 s.length c3).ownBlock with | none => exact .inl rfl | some q => exact .inr (fun e => by injection e with e; have := (HO3.out.lt q hv).1; omega)))
            have G3 := Lib.hid (grown_trans HG3.out hg2)
            clear hs2 hg2 HS3 HB3 HO3 HG3
            have hx2 : x = 0 ∨ x = 1 := by omega
            have hbs : V.heap.size ≤ w2.heap.size := G3.out.size
            clear y1 y0
            rcases hx2 with rfl | rfl
            · have hb1 : (w2.alloc (.cells #[.int .u8 48] 5)).ownsRow V.heap.size 5 1 (.slice A3 s.length c3) s.length (Lib.byteCells s) := own_below O3.out (by repeat (first | exact Below.refl _ _ | refine bl_tr ?_ _ | refine bl_al ?_ _ | refine bl_dr ?_ | refine bl_up ?_ _ | refine Below.drew ?_ | refine bl_alloc ?_ _ | refine Below.setCell ?_ (by first | (simp; done) | (simp; omega)) _))
              have hb2 : V.heap.size ≤ (w2.alloc (.cells #[.int .u8 48] 5)).heap.size := by simp; omega
              go_wp2_with (at_builtin; refine wpl_app rfl _ _ 22 rfl V.heap.size 5 (.int .u8 0) 1 1 el_byte (.slice A3 s.length c3) s.length (Lib.byteCells s) rfl hb1 (some ⟨w2.heap.size, 0, none⟩) 1 1 [.int .u8 48] rfl (rds_new _ #[.int .u8 48] _ 1 1 rfl) (fun u hu => by simp at hu; subst hu; rfl) (by unfold maxLen; omega) (by omega) hb2 ?_; intro A4 c4 W2 o2 hgr2)
              go_roundw
              case rel => exact ⟨s ++ [48], A4, c4, k4, by rw [List.length_append]; go_num, by rw [List.length_append]; rfl, sgnOk_snoc hsg.out (by decide), by rw [List.length_append, List.length_singleton]; omega, by rw [List.length_append, List.length_singleton]; omega,
                (S3.out.alloc _).kept hgr2 (fun e => absurd (O3.out.lt _ e.symm).1 (by omega)),
                (B3.out.alloc _).kept hgr2 (fun j hj => by have := (O3.out.lt j hj).1; omega),
                by rw [List.length_append]; simpa [Lib.byteCells] using o2, gr_far (gr_alloc G3.out _) hgr2 (fun j hj => (O3.out.lt j hj).1)⟩
              case measure => (simp [intOf]; try omega)
            · have hb1 : (w2.alloc (.cells #[.int .u8 49] 5)).ownsRow V.heap.size 5 1 (.slice A3 s.length c3) s.length (Lib.byteCells s) := own_below O3.out (by repeat (first | exact Below.refl _ _ | refine bl_tr ?_ _ | refine bl_al ?_ _ | refine bl_dr ?_ | refine bl_up ?_ _ | refine Below.drew ?_ | refine bl_alloc ?_ _ | refine Below.setCell ?_ (by first | (simp; done) | (simp; omega)) _))
              have hb2 : V.heap.size ≤ (w2.alloc (.cells #[.int .u8 49] 5)).heap.size := by simp; omega
              go_wp2_with (at_builtin; refine wpl_app rfl _ _ 22 rfl V.heap.size 5 (.int .u8 0) 1 1 el_byte (.slice A3 s.length c3) s.length (Lib.byteCells s) rfl hb1 (some ⟨w2.heap.size, 0, none⟩) 1 1 [.int .u8 49] rfl (rds_new _ #[.int .u8 49] _ 1 1 rfl) (fun u hu => by simp at hu; subst hu; rfl) (by unfold maxLen; omega) (by omega) hb2 ?_; intro A4 c4 W2 o2 hgr2)
              go_roundw
              case rel => exact ⟨s ++ [49], A4, c4, k4, by rw [List.length_append]; go_num, by rw [List.length_append]; rfl, sgnOk_snoc hsg.out (by decide), by rw [List.length_append, List.length_singleton]; omega, by rw [List.length_append, List.length_singleton]; omega,
                (S3.out.alloc _).kept hgr2 (fun e => absurd (O3.out.lt _ e.symm).1 (by omega)),
                (B3.out.alloc _).kept hgr2 (fun j hj => by have := (O3.out.lt j hj).1; omega),
                by rw [List.length_append]; simpa [Lib.byteCells] using o2, gr_far (gr_alloc G3.out _) hgr2 (fun j hj => (O3.out.lt j hj).1)⟩
              case measure => (simp [intOf]; try omega)
          · have hm2 : s.length = m := by omega
            subst hm2
            have cv := conv_own HO3.out rfl (Below.refl _ _)
            have H4 := HD.out.call HG3.out HS3.out
            obtain ⟨l4, ⟨q0, q1, q2⟩, ⟨f0, f1, f2⟩⟩ := H4.raw
            have H5 := Lib.hid (H4.set2 hnb ⟨s.toArray⟩)
            have hsz5 : nb + 1 ≤ wr.heap.size := by have := HG3.out.size; omega
            have hss := Lib.hid (show (⟨s.toArray⟩ : ByteArray).size = s.length from rfl)
            have hsb := Lib.hid (sgnOk_signs hsg.out)
            clear H4
            obtain ⟨s5, hs5⟩ : ∃ s5, (⟨s.toArray⟩ : ByteArray) = s5 := ⟨_, rfl⟩
            rw [hs5] at cv H5 hss hsb
            clear hs5
            go_wp2_with (at_builtin; go_must (refine wpl_app rfl _ _ 24 rfl (nb + 1) 38 _ 3 40 el_def (.slice A' l.length c') l.length (dfcs l) rfl (own_below H5.out.own (by repeat (first | exact Below.refl _ _ | refine bl_tr ?_ _ | refine bl_al ?_ _ | refine bl_dr ?_ | refine bl_up ?_ _ | refine Below.drew ?_ | refine bl_alloc ?_ _ | refine Below.setCell ?_ (by first | (simp; done) | (simp; omega)) _))) _ 1 1 [.string nm, i64 (1 + x), .string s5] rfl (rds_newA (cs := #[.string nm, i64 (1 + x), .string s5]) 3 1 (by simp [World.setCell]) rfl) (fun u hu => by simp at hu; rcases hu with rfl | rfl | rfl <;> rfl) (by unfold maxLen; omega) (by omega) (by simp; omega) ?_); intro A2 c2 W2 o2 hgr2)
            go_roundw
            case rel => exact ⟨l ++ [⟨nm, 1 + x, s5⟩], A2, c2, j - 1, k3, by go_num, by rw [List.length_append]; rfl, drawnD_snoc hva.out hl7 HNM.out.symm ⟨by show 1 ≤ 1 + x; omega, by show 1 + x ≤ 9; omega⟩ hss.out hsb.out, by rw [List.length_append, List.length_singleton]; omega, by omega,
              (H5.out.src.alloc _).kept hgr2 (fun e => absurd (H5.out.own.lt _ e.symm).1 (by omega)),
              (H5.out.byt.alloc _).kept hgr2 (fun j hj => by have := (H5.out.own.lt j hj).1; omega),
              (H5.out.nms.alloc _).grown hgr2 (fun _ b' off e he => by injection e with e; injection e with e _; have := (H5.out.own.lt b' he.symm).1; omega),
              by rw [List.length_append, dfcs_snoc]; exact o2, gr_far (gr_alloc H5.out.gr _) hgr2 (fun j hj => by have := (H5.out.own.lt j hj).1; omega)⟩
            case measure => (simp [intOf]; try omega)
    · obtain rfl : j = 0 := by omega
      go_wp2_with fail
      go_ret
      exact ⟨l, A', c', rfl, by rw [← hnb] at HOWN; exact own_mono HOWN.out (by omega), hva.out, HGR.out⟩
end Go.Proofs.Ytfggbcmpgkhlaaa

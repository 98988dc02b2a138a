/-
  The reference's drawing of a price list: whatever it draws, it is short. The bounds stand at each.
-/
import Derived.Test.YtiibpldfnnhhlaaDoorDrawWare
import Derived.Deep.DeepMust
namespace Go.Proofs.YtiibpldfnnhhlaaDoor
open Go.RowKit
section
variable {lo : Nat} {w w' : World} {A : Option Addr} {c : Nat} {l : List Ware} {ps : List Ptr}
theorem WGot.grown {row : Option Nat} (h : WGot lo w A c l ps) (hg : w.grownBy w' row) (hr : ∀ x, row = some x → x < lo) : WGot lo w' A c l ps :=
  ⟨h.len, own_keepK h.row hg (fun x e e2 => by have := hr x e; have := (h.row.lt x e2).1; omega), h.ptr, fun i a b => own_keepK (h.inner i a b) hg (fun x e e2 => by have := hr x e; have := ((h.inner i a b).lt x e2).1; omega), h.apart, h.outer⟩
/-- one more ware: its own row is made in a block that was not there, then it is appended -/
theorem WGot.step2 {B g c' : Nat} {x : Ware} {p : Ptr} (h : WGot lo w A c l ps) (hA : ∀ k, ablk A = some k → k < B) (hP : ∀ i (hi : i < ps.length) k, ablk ps[i].1 = some k → k < B) (hlo : lo ≤ B)
    (hx : w.ownsRow B 69 2 (.slice p.1 x.brs.length p.2) x.brs.length (bkcs x.brs))
    (ho : w'.ownsRow lo 29 2 (.slice (some ⟨g, 0, none⟩) (l.length + 1) c') (l.length + 1) (wcs l ps ++ [.string x.name, .slice p.1 x.brs.length p.2]))
    (hg : w.grownBy w' (ablk A)) (hat : ablk A = some g ∨ g = w.heap.size) : WGot lo w' (some ⟨g, 0, none⟩) c' (l ++ [x]) (ps ++ [p]) := by
  have hlen := h.len
  have hN : ∀ k, ablk p.1 = some k → B ≤ k ∧ k < w.heap.size := fun k e => hx.lt k (by rw [own_ablk]; exact e)
  have hPA : ablk p.1 = none ∨ ablk p.1 ≠ ablk A := by
    cases hq : ablk p.1 with
    | none => exact .inl rfl
    | some k => exact .inr fun e => by have := hN k hq; have := hA k e.symm; omega
  have hPI : ∀ i (hi : i < ps.length), ablk p.1 = none ∨ ablk p.1 ≠ ablk ps[i].1 := fun i hi => by
    cases hq : ablk p.1 with
    | none => exact .inl rfl
    | some k => exact .inr fun e => by have := hN k hq; have := hP i hi k e.symm; omega
  have hG : ∀ a : Option Nat, (a = none ∨ a ≠ ablk A) → (∀ k, a = some k → k < w.heap.size) → a = none ∨ a ≠ ablk (some (⟨g, 0, none⟩ : Addr)) := fun a h1 h2 => by
    rcases hat with e | e
    · have : ablk (some (⟨g, 0, none⟩ : Addr)) = ablk A := e.symm
      rw [this]; exact h1
    · refine .inr fun e2 => ?_
      have := h2 g e2
      omega
  have gl : ∀ i (hi : i < (ps ++ [p]).length), (∃ hi' : i < ps.length, (ps ++ [p])[i] = ps[i]) ∨ (i = ps.length ∧ (ps ++ [p])[i] = p) := fun i hi => by
    by_cases h1 : i < ps.length
    · exact .inl ⟨h1, List.getElem_append_left h1⟩
    · have h2 : i = ps.length := by rw [List.length_append, List.length_singleton] at hi; omega
      subst h2
      exact .inr ⟨rfl, by rw [List.getElem_append_right (Nat.le_refl _)]; simp⟩
  have hrow : w'.ownsRow lo 29 2 (.slice (some ⟨g, 0, none⟩) (l ++ [x]).length c') (l ++ [x]).length (wcs (l ++ [x]) (ps ++ [p])) := by
    rw [wcs_snoc hlen, List.length_append, List.length_singleton]
    exact ho
  refine ⟨by simp [hlen], hrow, fun i a b => ?_, fun i a b => ?_, fun i j hi hj hne => ?_, fun i hi => ?_⟩
  · have hz : i < ((l ++ [x]).zip (ps ++ [p])).length := by rw [List.length_zip]; omega
    have := flat_get wcell_len ((l ++ [x]).zip (ps ++ [p])) hz (j := 1) (by omega)
    rw [wcs, this, List.getElem_zip]
    rfl
  · rcases gl i b with ⟨h1, e⟩ | ⟨h1, e⟩
    · have hl : i < l.length := by omega
      have hi := (h.inner i hl h1).kept hg (by rw [own_ablk]; exact h.outer i h1)
      have e2 : (l ++ [x])[i] = l[i] := List.getElem_append_left hl
      have e3 : wat (l ++ [x]) i = wat l i := by rw [← wat_eq a, ← wat_eq hl]; exact e2
      simp only [e3]
      rw [e, e2]
      exact hi
    · have e2 : (l ++ [x])[i] = x := by rw [List.getElem_append_right (by omega)]; simp
      have e3 : wat (l ++ [x]) i = x := by rw [← wat_eq a]; exact e2
      simp only [e3]
      rw [e, e2]
      exact own_mono (hx.kept hg (by rw [own_ablk]; exact hPA)) hlo
  · rcases gl i hi with ⟨h1, e⟩ | ⟨h1, e⟩ <;> rcases gl j hj with ⟨h2, e2⟩ | ⟨h2, e2⟩ <;> rw [e, e2]
    · exact h.apart i j h1 h2 hne
    · exact ne_flip (hPI i h1)
    · exact hPI j h2
    · omega
  · rcases gl i hi with ⟨h1, e⟩ | ⟨h1, e⟩ <;> rw [e]
    · exact hG _ (h.outer i h1) fun k e => (WHas.pLt h h1 e).2
    · exact hG _ hPA fun k e => (hN k e).2
end
/-- short wares -/
def WShort (m : Nat) (l : List Ware) : Prop := ∀ i, i < l.length → (wat l i).name.size ≤ 12 ∧ (wat l i).brs.length ≤ m
theorem WShort.nil {m : Nat} : WShort m [] := fun i hi => by simp at hi
theorem WShort.snoc {m : Nat} {l : List Ware} {x : Ware} (h : WShort m l) (h1 : x.name.size ≤ 12) (h2 : x.brs.length ≤ m) : WShort m (l ++ [x]) := fun i hi => by
  rw [List.length_append, List.length_singleton] at hi
  rcases Nat.lt_or_ge i l.length with h3 | h3
  · have e : wat (l ++ [x]) i = wat l i := by simp [wat, List.getElem?_append_left h3]
    rw [e]; exact h i h3
  · obtain rfl : i = l.length := by omega
    have e : wat (l ++ [x]) l.length = x := by simp [wat]
    rw [e]; exact ⟨h1, h2⟩
theorem WShort.up {m m' : Nat} {l : List Ware} (h : WShort m l) (hm : m ≤ m') : WShort m' l := fun i hi => ⟨(h i hi).1, Nat.le_trans (h i hi).2 hm⟩
theorem WShort.set {m j : Nat} {l : List Ware} {x : Ware} (h : WShort m l) (h1 : x.name.size ≤ 12) (h2 : x.brs.length ≤ m) : WShort m (l.set j x) := fun i hi => by
  rw [List.length_set] at hi
  by_cases hij : j = i
  · subst hij
    have e : wat (l.set j x) j = x := by simp [wat, hi]
    rw [e]; exact ⟨h1, h2⟩
  · have e : wat (l.set j x) i = wat l i := by simp [wat, List.getElem?_set_ne hij]
    rw [e]; exact h i hi
/-- every ware has a break -/
def WOne (l : List Ware) : Prop := ∀ i, i < l.length → 1 ≤ (wat l i).brs.length
theorem WOne.nil : WOne [] := fun i hi => by simp at hi
theorem WOne.snoc {l : List Ware} {x : Ware} (h : WOne l) (h2 : 1 ≤ x.brs.length) : WOne (l ++ [x]) := fun i hi => by
  rw [List.length_append, List.length_singleton] at hi
  rcases Nat.lt_or_ge i l.length with h3 | h3
  · have e : wat (l ++ [x]) i = wat l i := by simp [wat, List.getElem?_append_left h3]
    rw [e]; exact h i h3
  · obtain rfl : i = l.length := by omega
    have e : wat (l ++ [x]) l.length = x := by simp [wat]
    rw [e]; exact h2
def nm5 : List ByteArray := [⟨#[114, 105, 98, 98, 111, 110]⟩, ⟨#[112, 97, 112, 101, 114]⟩, ⟨#[99, 97, 114, 98, 111, 110]⟩, ⟨#[111, 105, 108]⟩, ⟨#[98, 114, 117, 115, 104, 45, 50]⟩]
theorem nm5_size : ∀ i, i < 5 → (nm5.getD i ByteArray.empty).size ≤ 12 := by decide
def listPost (b : Nat) (A : Option Addr) (n c k m s kk : Nat) (w : World) (e : Ending) (w' : World) : Prop :=
  ∃ (l : List Ware) (A' : Option Addr) (c' : Nat) (ps : List Ptr) (k' : Nat), e = .returned (.slice A' l.length c') ∧ WGot w.heap.size w' A' c' l ps ∧ WShort s l ∧ l.length ≤ m ∧ k' ≤ k + kk ∧ SrcAt w' b A n c k' ∧ w.grownBy w' (some b)
def drawPost (b : Nat) (A : Option Addr) (n c k : Nat) (w : World) (e : Ending) (w' : World) : Prop :=
  ∃ (l : List Ware) (A' : Option Addr) (c' : Nat) (ps : List Ptr) (k' : Nat), e = .returned (.slice A' l.length c') ∧ WGot w.heap.size w' A' c' l ps ∧ WShort 3 l ∧ WOne l ∧ l.length ≤ 4 ∧ k' ≤ k + 66 ∧ SrcAt w' b A n c k' ∧ w.grownBy w' (some b)
set_option maxRecDepth 10000 in
set_option maxHeartbeats 4000000 in
theorem l26DrawO_any (b : Nat) (A : Option Addr) (n c k : Nat) (w : World) (h : SrcAt w b A n c k) (hb : Byt w b A n) (hk : k ≤ 100000) (hn : n ≤ 1000000) :
    Calls Tryd.prog 76 #[.pointer (some ⟨b, 0, none⟩)] w (drawPost b A n c k w) := by
  have hlt := h.lt
  have HS := Lib.hid h
  have HB := Lib.hid hb
  clear h hb
  go_enter Tryd.func76, Tryd.ntmps76
  go_wp2_with fail
  refine cg (R := fun V => SrcAt V b A n c k ∧ Byt V b A n ∧ WGot (w.heap.size + 1) V (some ⟨w.heap.size + 1, 0, none⟩) 0 [] [] ∧ Rds V 1 (some ⟨w.heap.size, 0, none⟩) 5 (strs nm5) ∧ w.grownBy V (some b)) ⟨(HS.out.alloc _).alloc _, (HB.out.alloc _).alloc _, ?_, (rds_new w _ _ 1 5 rfl).alloc _, gr_alloc (gr_alloc (grown_refl w _) _) _⟩ (fun V z => ?_)
  · have e1 : ∀ (u : World) (o : Obj), (u.alloc o).heap.size = u.heap.size + 1 := fun u o => by simp
    have := World.ownsRow_lit (base := w.heap.size + 1) (e := 29) (size := 2) (w.alloc (.cells #[.string ⟨#[114, 105, 98, 98, 111, 110]⟩, .string ⟨#[112, 97, 112, 101, 114]⟩, .string ⟨#[99, 97, 114, 98, 111, 110]⟩, .string ⟨#[111, 105, 108]⟩, .string ⟨#[98, 114, 117, 115, 104, 45, 50]⟩] 9)) #[] 0 (by rw [e1]; omega) (by unfold maxLen; omega) rfl
    rw [e1] at this
    exact WGot.lit this
  obtain ⟨z1, z2, z3, z4, z5⟩ := z
  refine (pick_any b A n c k 5 V z1 z2 (by omega) hn (by omega)).mono ?_
  rintro e w1 ⟨x, k1, rfl, y0, y1, hk1, hs1, hg1⟩
  obtain ⟨j0, rfl⟩ : ∃ j : Nat, x = (j : Int) := ⟨x.toNat, by omega⟩
  have hj0 : j0 ≤ 4 := by omega
  have S1 := Lib.hid hs1
  have B1 := Lib.hid (z2.grown hg1)
  have O1 := Lib.hid (z3.grown hg1 (fun x e => by injection e with e; omega))
  have N1 := Lib.hid (z4.grown hg1 (fun _ b' off e he => by injection e with e; injection e with e _; injection he with he; omega))
  have G1 := Lib.hid (grown_trans z5 hg1)
  clear hs1 hg1 y1 y0 z1 z2 z3 z4 z5 HS HB
  obtain ⟨nb, hnb⟩ : ∃ nb, w.heap.size = nb := ⟨_, rfl⟩
  rw [hnb] at O1 N1 hlt
  rw [hnb]
  have HNB := Lib.hid hnb
  clear hnb
  go_wp2_with fail
  go_loopw [4, 5] (fun o kk wr => ∃ (l : List Ware) (A' : Option Addr) (c' : Nat) (ps : List Ptr) (j k' : Nat), kk = i64 j ∧ o = .slice A' l.length c' ∧ Hid (WShort 3 l) ∧ Hid (WOne l) ∧ l.length + j ≤ 4 ∧ k' + 16 * j ≤ k + 66 ∧ Hid (SrcAt wr b A n c k') ∧ Hid (Byt wr b A n) ∧ Hid (Rds wr 1 (some ⟨nb, 0, none⟩) 5 (strs nm5)) ∧ Hid (WGot (nb + 1) wr A' c' l ps) ∧ Hid (w.grownBy wr (some b))) (fun _ kk _ => (intOf kk).toNat)
  case atStart => exact ⟨[], _, _, [], j0, k1, rfl, rfl, WShort.nil, WOne.nil, by simp; omega, by omega, S1.out, B1.out, N1.out, O1.out, G1.out⟩
  case round =>
    obtain ⟨l, A', c', ps, j, k', rfl, rfl, hva, hvo, hlj, hkj, hs, hbt, hnr, hgot, hgr⟩ := hrel
    clear S1 B1 N1 O1 G1
    by_cases hj : 0 < j
    · have hj' : (0 : Int) < (j : Int) := by omega
      have hl5 : (l.length : Int) < 5 := by omega
      obtain ⟨b', off', e', hbn, hcc⟩ := str_at (ss := nm5) hnr.out (i := 0) (by decide)
      injection e' with e'
      injection e' with e1 e2 _
      subst e1 e2
      have c0 := hcc l.length (by show l.length < 5; omega)
      rw [Nat.zero_add] at c0
      have hnz := nm5_size l.length (by omega)
      generalize nm5.getD l.length ByteArray.empty = nm at *
      clear hcc
      go_wp2_with fail
      refine (drawWare_any b A n c k' nm wr hs.out hbt.out (by omega) hn).mono ?_
      rintro e w2 ⟨lb, Ab, cb, k2, rfl, hlb, hrow, hk2, hs2, hg2, hb1, _⟩
      have S2 := Lib.hid hs2
      have B2 := Lib.hid (hbt.out.grown hg2)
      have N2 := Lib.hid (hnr.out.grown hg2 (fun _ b' off e he => by injection e with e; injection e with e _; injection he with he; omega))
      have W2 := Lib.hid (hgot.out.grown hg2 (fun x e => by injection e with e; omega))
      have G2 := Lib.hid (grown_trans hgr.out hg2)
      have HA := Lib.hid (fun k (e : ablk A' = some k) => (WHas.aLt hgot.out e).2)
      have HP := Lib.hid (fun i (hi : i < ps.length) k (e : ablk ps[i].1 = some k) => (WHas.pLt hgot.out hi e).2)
      have HR := Lib.hid hrow
      have hsz := Lib.hid (show nb + 1 ≤ wr.heap.size from hbn)
      have hsz2 := Lib.hid hg2.size
      clear hs2 hg2 hrow c0 hbn hs hbt hnr hgot hgr
      have hl4 : l.length ≤ 4 := by omega
      go_wp2_with (at_builtin; go_must (refine wpl_appAt rfl _ _ 39 rfl (nb + 1) 29 _ 2 40 el_ware (.slice A' l.length c') l.length (wcs l ps) rfl (own_below W2.out.row (by repeat (first | exact Below.refl _ _ | refine bl_tr ?_ _ | refine bl_al ?_ _ | refine bl_dr ?_ | refine bl_up ?_ _ | refine Below.drew ?_ | refine bl_alloc ?_ _ | refine Below.setCell ?_ (by first | (simp; done) | (simp; omega)) _))) _ 1 1 [.string nm, .slice Ab lb.length cb] rfl (rds_new _ #[.string nm, .slice Ab lb.length cb] _ 2 1 rfl) (fun u hu => by simp at hu; rcases hu with rfl | rfl <;> rfl) (by omega) (by unfold maxLen; omega) (by omega) (Nat.le_trans hsz.out (Nat.le_trans hsz2.out (Below.size (B := w2.heap.size) (w := w2) (by repeat (first | exact Below.refl _ _ | refine bl_tr ?_ _ | refine bl_al ?_ _ | refine bl_dr ?_ | refine bl_up ?_ _ | refine Below.drew ?_ | refine bl_alloc ?_ _ | refine Below.setCell ?_ (by first | (simp; done) | (simp; omega)) _))))) ?_); intro g3 c3 w3 o3 hg3 hat3; rw [own_ablk] at hg3 hat3; have HG3 := Lib.hid (And.intro o3 (And.intro hg3 hat3)); clear o3 hg3 hat3)
      obtain ⟨o3, hg3, hat3⟩ := HG3.out
      have hlo3 : ∀ x, ablk A' = some x → nb + 1 ≤ x := fun x e => (WHas.aLt W2.out e).1
      have ST := WGot.step2 (x := ⟨nm, lb⟩) (p := (Ab, cb)) (W2.out.below ((Below.refl _ _).alloc (Nat.le_refl _) _)) HA.out HP.out hsz.out (own_below HR.out ((Below.refl _ _).alloc (Nat.le_refl _) _)) o3 hg3 hat3
      go_roundw
      case rel => exact ⟨l ++ [⟨nm, lb⟩], some ⟨g3, 0, none⟩, c3, ps ++ [(Ab, cb)], j - 1, k2, by go_num, by rw [List.length_append]; rfl, WShort.snoc hva.out hnz (by show lb.length ≤ 3; omega), Lib.hid (hvo.out.snoc hb1), by rw [List.length_append, List.length_singleton]; omega, by omega,
        (show SrcAt w3 b A n c k2 from (S2.out.alloc _).kept hg3 (fun e => by have := hlo3 b e.symm; omega)), (show Byt w3 b A n from (B2.out.alloc _).kept hg3 (fun x e => by have := hlo3 x e; omega)),
        (show Rds w3 1 (some ⟨nb, 0, none⟩) 5 (strs nm5) from (N2.out.alloc _).grown hg3 (fun _ b' off e he => by injection e with e; injection e with e _; have := hlo3 b' he.symm; omega)), Lib.hid ST, (show w.grownBy w3 (some b) from gr_far (gr_alloc G2.out _) hg3 (fun x e => by have := hlo3 x e; have := HNB.out; omega))⟩
      case measure => (simp [intOf]; try omega)
    · obtain rfl : j = 0 := by omega
      go_wp2_with fail
      go_ret
      exact ⟨l, A', c', ps, k', rfl, hgot.out.mono (by have := HNB.out; omega), hva.out, hvo.out, by omega, by omega, hs.out, hgr.out⟩
theorem l26Draw_any (b : Nat) (A : Option Addr) (n c k : Nat) (w : World) (h : SrcAt w b A n c k) (hb : Byt w b A n) (hk : k ≤ 100000) (hn : n ≤ 1000000) :
    Calls Tryd.prog 76 #[.pointer (some ⟨b, 0, none⟩)] w (listPost b A n c k 4 3 66 w) :=
  (l26DrawO_any b A n c k w h hb hk hn).mono (by
    rintro e w' ⟨l, A', c', ps, k', h0, h1, h2, _, h4⟩
    exact ⟨l, A', c', ps, k', h0, h1, h2, h4⟩)
end Go.Proofs.YtiibpldfnnhhlaaDoor

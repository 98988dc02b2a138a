/-
  The reference's drawing of a log's entries: valid ones, in order. The bounds stand at each.
-/
import Derived.Test.YtkjomkiajdjhpaaDoorDrawEntry
import Derived.Test.YtkjomkiajdjhpaaDoorLogOfP
namespace Go.Proofs.YtkjomkiajdjhpaaDoor
open Go.RowKit
theorem gr_far {a w w' : World} {row row2 : Option Nat} (h : a.grownBy w row) (k : w.grownBy w' row2) (hr : ∀ j, row2 = some j → a.heap.size ≤ j) : a.grownBy w' row :=
  ⟨k.os.trans h.os, k.tape.trans h.tape, k.output.trans h.output, Nat.le_trans h.size k.size, fun i hi hne => (k.block i (Nat.lt_of_lt_of_le hi h.size) (fun e => by have := hr i e.symm; omega)).trans (h.block i hi hne)⟩
theorem SrcAt.kept {w w' : World} {b n c k : Nat} {A : Option Addr} {row : Option Nat} (h : SrcAt w b A n c k) (hg : w.grownBy w' row) (hne : some b ≠ row) : SrcAt w' b A n c k := by
  obtain ⟨s, h0, h1, hB⟩ := h
  exact ⟨s, h0, h1, hB.grown hg hne⟩
theorem Byt.kept {w w' : World} {b n : Nat} {A : Option Addr} {row : Option Nat} (h : Byt w b A n) (hg : w.grownBy w' row) (hr : ∀ j, row = some j → b ≤ j) : Byt w' b A n := by
  obtain ⟨zs, h1, h2, h3⟩ := h
  exact ⟨zs, h1, h2.grown hg (fun hn b' off hA he => by have := h3 (by omega) b' off hA; have := hr b' he.symm; omega), h3⟩
theorem dayL_snoc (l : List Entry) (x : Entry) : dayL (l ++ [x]) = x.day := by
  have hl : (l ++ [x]).length = l.length + 1 := by simp
  have e : eat (l ++ [x]) l.length = x := by simp [eat]
  rw [dayL, if_neg (by omega), hl, Nat.add_sub_cancel, e]
theorem sort_snoc {l : List Entry} {x : Entry} (h : sortE l) (hx : dayL l ≤ x.day) : sortE (l ++ [x]) := by
  intro i hi
  rw [List.length_append, List.length_singleton] at hi
  rcases Nat.lt_or_ge (i + 1) l.length with h1 | h1
  · rw [List.getElem_append_left (by omega), List.getElem_append_left (by omega)]
    exact h i h1
  · have h2 : i + 1 = l.length := by omega
    rw [List.getElem_append_left (by omega), List.getElem_append_right (by omega)]
    simp only [h2, Nat.sub_self, List.getElem_cons_zero]
    rw [dayL, if_neg (by omega), show l.length - 1 = i by omega, eat_at (by omega)] at hx
    exact hx
theorem encs_snoc (l : List Entry) (x : Entry) : encs (l ++ [x]) = encs l ++ [i64 x.day, .string x.what, i64 x.value] := by simp [encs, Entry.cells]
set_option maxRecDepth 10000 in
set_option maxHeartbeats 4000000 in
theorem entries_any (b : Nat) (A : Option Addr) (n c k most : Nat) (w : World) (h : SrcAt w b A n c k) (hb : Byt w b A n) (hk : k ≤ 100000) (hn : n ≤ 1000000) (hm : most ≤ 1000) :
    Calls Tryd.prog 65 #[.pointer (some ⟨b, 0, none⟩), i64 most] w fun e w' => ∃ (l : List Entry) (A' : Option Addr) (c' : Nat), e = .returned (.slice A' l.length c') ∧ w'.ownsRow w.heap.size 27 3 (.slice A' l.length c') l.length (encs l) ∧ (∀ x ∈ l, vEntry x = true) ∧ sortE l ∧ l.length ≤ most ∧ w.grownBy w' (some b) := by
  have hlt := h.lt
  have HS := Lib.hid h
  have HB := Lib.hid hb
  have hOwn := Lib.hid (World.ownsRow_lit (base := w.heap.size) (e := 27) (size := 3) w #[] 0 (Nat.le_refl _) (by unfold maxLen; omega) rfl)
  clear h hb
  go_enter Tryd.func65, Tryd.ntmps65
  go_wp2_with fail
  refine (pick_any b A n c k ((most : Int) + 1) _ (HS.out.alloc _) (HB.out.alloc _) (by omega) hn (by omega)).mono ?_
  rintro e w1 ⟨x, k1, rfl, y0, y1, hk1, hs1, hg1⟩
  obtain ⟨j0, rfl⟩ : ∃ j : Nat, x = (j : Int) := ⟨x.toNat, by omega⟩
  have hj0 : j0 ≤ most := by omega
  have S1 := Lib.hid hs1
  have B1 := Lib.hid ((HB.out.alloc _).grown hg1)
  have O1 := Lib.hid (hOwn.out.kept hg1 (.inr (fun e => by injection e with e; exact absurd e.symm (Nat.ne_of_lt hlt))))
  have G1 := Lib.hid (show w.grownBy w1 (some b) from grown_trans (gr_alloc (grown_refl w _) _) hg1)
  clear hs1 hg1 y1 y0
  go_wp2_with fail
  go_loopw [5, 6, 7] (fun o d kk wr => ∃ (l : List Entry) (A' : Option Addr) (c' j k' : Nat) (day : Int), kk = i64 j ∧ o = .slice A' l.length c' ∧ d = i64 day ∧ day = dayL l ∧ (0 ≤ day ∧ day ≤ 100000) ∧ Hid (sortE l) ∧ Hid (∀ x ∈ l, vEntry x = true) ∧ l.length + j ≤ most ∧ k' + 10 * j ≤ k + 2 + 10 * most ∧ SrcAt wr b A n c k' ∧ Byt wr b A n ∧ wr.ownsRow w.heap.size 27 3 (.slice A' l.length c') l.length (encs l) ∧ w.grownBy wr (some b)) (fun _ _ kk _ => (intOf kk).toNat)
  case atStart => exact ⟨[], _, _, j0, k1, 0, rfl, rfl, rfl, rfl, ⟨by omega, by omega⟩, fun i hi => by simp at hi, fun x hx => by simp at hx, by simp; omega, by omega, S1.out, B1.out, O1.out, G1.out⟩
  case round =>
    obtain ⟨l, A', c', j, k', day, rfl, rfl, rfl, hdl, ⟨hd0, hd1⟩, hso, hva, hlj, hkj, hs, hbt, hown, hgr⟩ := hrel
    have HSR := Lib.hid hs
    have HBT := Lib.hid hbt
    have HOWN := Lib.hid hown
    have HGR := Lib.hid hgr
    have HDL := Lib.hid hdl
    clear hs hbt hown hgr hdl
    by_cases hj : 0 < j
    · have hj' : (0 : Int) < (j : Int) := by omega
      go_wp2_with fail
      refine (drawEntry_any b A n c k' day wr HSR.out HBT.out (by omega) hn hd0 (by omega)).mono ?_
      rintro e w2 ⟨x, k2, rfl, hxs, hk2, hs2, hg2⟩
      have S2 := Lib.hid hs2
      have B2 := Lib.hid (HBT.out.grown hg2)
      have O2 := Lib.hid (HOWN.out.kept hg2 (by cases hv : (Value.slice A' l.length c').ownBlock with | none => exact .inl rfl | some q => exact .inr (fun e => by injection e with e; have := (HOWN.out.lt q hv).1; omega)))
      have G2 := Lib.hid (grown_trans HGR.out hg2)
      clear hs2 hg2 HSR HBT HOWN HGR
      have hx9 : x.what.size ≤ 9223372036854775807 := by omega
      go_wp2_with fail
      refine cg (R := fun V => EAt V w2.heap.size 0 x ∧ UpOf w2 V) ⟨EAt.new, UpOf.of (by repeat (first | exact Below.refl _ _ | refine bl_tr ?_ _ | refine bl_al ?_ _ | refine bl_dr ?_ | refine bl_up ?_ _ | refine Below.drew ?_ | refine bl_alloc ?_ _ | refine Below.setCell ?_ (by first | (simp; done) | (simp; omega)) _))⟩ (fun V z => ?_)
      have HE := Lib.hid z.1
      have HU := Lib.hid z.2
      have HQN := Lib.hid (show some w2.heap.size ≠ (Value.slice A' l.length c').ownBlock from fun e => absurd (O2.out.lt _ e.symm).2 (Nat.lt_irrefl _))
      generalize w2.heap.size = q at *
      clear z
      obtain ⟨b1, hb1⟩ : ∃ b1, vEntry x = b1 := ⟨_, rfl⟩
      refine (ret_as (l27Ok_any x q 0 V HE.out hx9) hb1).mono ?_
      rintro e w' ⟨rfl, g, rfl⟩
      obtain ⟨hq, e0, e1, e2⟩ := HE.out.below (up_below V g)
      simp only [Nat.zero_add] at e1 e2
      cases b1 with
      | false =>
        go_wp2_with fail
        go_roundw
        case rel => exact ⟨l, A', c', j - 1, k2, day, by go_num, rfl, rfl, HDL.out, ⟨hd0, hd1⟩, hso, hva, by omega, by omega, S2.out.kept (grown_trans (grown_up ⟨_, HU.out.below⟩ none) (grown_up g none)) (by simp), B2.out.kept (grown_trans (grown_up ⟨_, HU.out.below⟩ none) (grown_up g none)) (fun j hj => by cases hj), own_below (own_below O2.out HU.out.below) (up_below V g), gr_up (gr_up G2.out ⟨_, HU.out.below⟩) g⟩
        case measure => (simp [intOf]; try omega)
      | true =>
        have hxv := vEntry_inv hb1
        obtain ⟨hx0, hx1, _⟩ := hxv
        by_cases q2 : day ≤ x.day
        · go_wp2_with (at_builtin; go_must (refine wpl_app rfl _ _ 34 rfl w.heap.size 27 _ 3 32 el_entry (.slice A' l.length c') l.length (encs l) rfl (own_below (own_below O2.out HU.out.below) (by repeat (first | exact Below.refl _ _ | refine bl_tr ?_ _ | refine bl_al ?_ _ | refine bl_dr ?_ | refine bl_up ?_ _ | refine Below.drew ?_ | refine bl_alloc ?_ _ | refine Below.setCell ?_ (by first | (simp; done) | (simp; omega)) _))) _ 1 1 [i64 x.day, .string x.what, i64 x.value] rfl (rds_new _ #[i64 x.day, .string x.what, i64 x.value] _ 3 1 rfl) (fun u hu => by simp at hu; rcases hu with rfl | rfl | rfl <;> rfl) (by unfold maxLen; omega) (by omega) (Nat.le_trans (Nat.le_trans G2.out.size HU.out.below.size) (Below.size (B := 0) (w := V) (Below.alloc (Below.mono (up_below V g) (Nat.zero_le _)) (Nat.zero_le _) _))) ?_); intro A2 c2 W2 o2 hgr2; have EW := (HE.out.below (by repeat (first | exact Below.refl _ _ | refine bl_tr ?_ _ | refine bl_al ?_ _ | refine bl_dr ?_ | refine bl_up ?_ _ | refine Below.drew ?_ | refine bl_alloc ?_ _ | refine Below.setCell ?_ (by first | (simp; done) | (simp; omega)) _))).grown hgr2 HQN.out; obtain ⟨wq, we0, we1, we2⟩ := EW)
          go_roundw
          case rel => exact ⟨l ++ [x], A2, c2, j - 1, k2, x.day, by go_num, by rw [List.length_append]; rfl, rfl, (dayL_snoc l x).symm, ⟨hx0, hx1⟩, sort_snoc hso.out (by rw [← HDL.out]; exact q2), fun y hy => by
              rw [List.mem_append, List.mem_singleton] at hy
              rcases hy with hy | rfl
              · exact hva.out y hy
              · exact hb1, by rw [List.length_append, List.length_singleton]; omega, by omega,
            (((S2.out.kept (grown_up ⟨_, HU.out.below⟩ none) (by simp)).kept (grown_up g none) (by simp)).alloc _).kept hgr2 (fun e => absurd (O2.out.lt _ e.symm).1 (by omega)),
            (((B2.out.kept (grown_up ⟨_, HU.out.below⟩ none) (fun j hj => by cases hj)).kept (grown_up g none) (fun j hj => by cases hj)).alloc _).kept hgr2 (fun j hj => by have := (O2.out.lt j hj).1; omega),
            by rw [List.length_append, encs_snoc]; exact o2, gr_far (gr_alloc (gr_up (gr_up G2.out ⟨_, HU.out.below⟩) g) _) hgr2 (fun j hj => (O2.out.lt j hj).1)⟩
          case measure => (simp [intOf]; try omega)
        · go_wp2_with fail
          go_roundw
          case rel => exact ⟨l, A', c', j - 1, k2, day, by go_num, rfl, rfl, HDL.out, ⟨hd0, hd1⟩, hso, hva, by omega, by omega, S2.out.kept (grown_trans (grown_up ⟨_, HU.out.below⟩ none) (grown_up g none)) (by simp), B2.out.kept (grown_trans (grown_up ⟨_, HU.out.below⟩ none) (grown_up g none)) (fun j hj => by cases hj), own_below (own_below O2.out HU.out.below) (up_below V g), gr_up (gr_up G2.out ⟨_, HU.out.below⟩) g⟩
          case measure => (simp [intOf]; try omega)
    · obtain rfl : j = 0 := by omega
      go_wp2_with fail
      go_ret
      exact ⟨l, A', c', rfl, HOWN.out, hva.out, hso.out, by omega, HGR.out⟩
end Go.Proofs.YtkjomkiajdjhpaaDoor

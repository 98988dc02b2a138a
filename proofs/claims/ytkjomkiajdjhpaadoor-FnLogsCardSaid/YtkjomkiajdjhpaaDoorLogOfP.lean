/-
  A log made of entries: plain facts. No program. No condition but what stands at each.
-/
import Derived.Test.YtkjomkiajdjhpaaDoorAddEntry2
namespace Go.Proofs.YtkjomkiajdjhpaaDoor
open Go.RowKit
def mk1 (acc : ByteArray × Int) (x : Entry) : ByteArray × Int := (acc.1 ++ newLine acc.2 x, stampP acc.2 x)
def mkB (l : List Entry) : ByteArray × Int := l.foldl mk1 (⟨#[]⟩, 0)
theorem e_take {l : List Entry} {k : Nat} (h : k < l.length) : l.take (k + 1) = l.take k ++ [l[k]] := by
  rw [List.take_add_one, List.getElem?_eq_getElem h]; rfl
theorem mkB_take {l : List Entry} {k : Nat} (h : k < l.length) : mkB (l.take (k + 1)) = ((mkB (l.take k)).1 ++ newLine (mkB (l.take k)).2 l[k], stampP (mkB (l.take k)).2 l[k]) := by
  unfold mkB
  rw [e_take h, List.foldl_append]
  rfl
theorem mkF_size : ∀ (l : List Entry) (acc : ByteArray × Int), acc.1.size ≤ (l.foldl mk1 acc).1.size
  | [], acc => Nat.le_refl _
  | x :: l, acc => by
    rw [List.foldl_cons]
    refine Nat.le_trans ?_ (mkF_size l (mk1 acc x))
    simp only [mk1, ByteArray.size_append]
    omega
theorem mkB_mono (l : List Entry) (k : Nat) : (mkB (l.take k)).1.size ≤ (mkB l).1.size := by
  have h : mkB l = (l.drop k).foldl mk1 (mkB (l.take k)) := by
    unfold mkB
    rw [← List.foldl_append, List.take_append_drop]
  rw [h]
  exact mkF_size _ _
theorem mkF_bd : ∀ (l : List Entry) (acc : ByteArray × Int), (∀ x ∈ l, vEntry x = true) → 0 ≤ acc.2 → acc.2 < 65519 → (l.foldl mk1 acc).1.size ≤ acc.1.size + 73 * l.length ∧ 0 ≤ (l.foldl mk1 acc).2 ∧ (l.foldl mk1 acc).2 < 65519
  | [], acc, _, h0, h1 => ⟨by simp, h0, h1⟩
  | x :: l, acc, hv, h0, h1 => by
    have hb := stampP_bd acc.2 x
    have ih := mkF_bd l (mk1 acc x) (fun y hy => hv y (by simp [hy])) hb.1 hb.2
    have hn := newLine_len (hv x (by simp)) acc.2
    rw [List.foldl_cons]
    refine ⟨?_, ih.2⟩
    refine Nat.le_trans ih.1 ?_
    simp only [mk1, ByteArray.size_append, List.length_cons]
    omega
theorem mkB_bd (l : List Entry) (h : ∀ x ∈ l, vEntry x = true) : (mkB l).1.size ≤ 73 * l.length ∧ 0 ≤ (mkB l).2 ∧ (mkB l).2 < 65519 := by
  have h2 := mkF_bd l (⟨#[]⟩, 0) h (by decide) (by decide)
  have e : (⟨#[]⟩ : ByteArray).size = 0 := rfl
  rw [e, Nat.zero_add] at h2
  exact h2
def sortE (l : List Entry) : Prop := ∀ i (h : i + 1 < l.length), l[i].day ≤ l[i + 1].day
def sortB (l : List Entry) : Bool := (List.range (l.length - 1)).all fun i => decide ((eat l i).day ≤ (eat l (i + 1)).day)
theorem eat_at {l : List Entry} {i : Nat} (h : i < l.length) : eat l i = l[i] := by
  rw [eat, List.getD_eq_getElem?_getD, List.getElem?_eq_getElem h]; rfl
theorem sortB_iff {l : List Entry} : sortB l = true ↔ sortE l := by
  unfold sortB sortE
  rw [List.all_eq_true]
  constructor
  · intro h i hi
    have := of_decide_eq_true (h i (List.mem_range.2 (by omega)))
    rwa [eat_at (by omega), eat_at hi] at this
  · intro h i hi
    have hi := List.mem_range.1 hi
    have := h i (by omega)
    refine decide_eq_true ?_
    rwa [eat_at (by omega), eat_at (by omega)]
def lgR (l : List Entry) : ByteArray × Int := if l.all vEntry = true then (if sortB l = true then (if (mkB l).1.size ≤ 4000 then ((mkB l).1, 0) else (⟨#[]⟩, 5)) else (⟨#[]⟩, 6)) else (⟨#[]⟩, 7)
theorem lgR_7 {l : List Entry} {k : Nat} (h : k < l.length) (h2 : vEntry l[k] = false) : lgR l = (⟨#[]⟩, 7) := by
  rw [lgR, if_neg]
  intro hh
  have := List.all_eq_true.1 hh l[k] (List.getElem_mem h)
  rw [h2] at this; cases this
theorem lgR_6 {l : List Entry} {k : Nat} (hv : ∀ x ∈ l, vEntry x = true) (h : k + 1 < l.length) (h2 : l[k + 1].day < l[k].day) : lgR l = (⟨#[]⟩, 6) := by
  rw [lgR, if_pos (List.all_eq_true.2 hv), if_neg]
  intro hh
  have := sortB_iff.1 hh k h
  omega
theorem lgR_5 {l : List Entry} (hv : ∀ x ∈ l, vEntry x = true) (hs : sortE l) (h : ¬ (mkB l).1.size ≤ 4000) : lgR l = (⟨#[]⟩, 5) := by rw [lgR, if_pos (List.all_eq_true.2 hv), if_pos (sortB_iff.2 hs), if_neg h]
theorem lgR_0 {l : List Entry} (hv : ∀ x ∈ l, vEntry x = true) (hs : sortE l) (h : (mkB l).1.size ≤ 4000) : lgR l = ((mkB l).1, 0) := by rw [lgR, if_pos (List.all_eq_true.2 hv), if_pos (sortB_iff.2 hs), if_pos h]
theorem all_at {l : List Entry} (h : ∀ j, j < l.length → ∀ hj : j < l.length, vEntry l[j] = true) : ∀ x ∈ l, vEntry x = true := by
  intro x hx
  obtain ⟨j, hj, rfl⟩ := List.getElem_of_mem hx
  exact h j hj hj
theorem last_day {l : List Entry} (hs : sortE l) {k : Nat} (h : k < l.length) (hv : vEntry l[k] = true) : ¬ l[k].day < dayL (l.take k) := by
  rcases Nat.eq_zero_or_pos k with h0 | h0
  · subst h0
    have e : dayL (l.take 0) = 0 := rfl
    have := (vEntry_inv hv).1
    rw [e]
    omega
  · obtain ⟨j, rfl⟩ : ∃ j, k = j + 1 := ⟨k - 1, by omega⟩
    have h1 := hs j h
    have hl : (l.take (j + 1)).length = j + 1 := by rw [List.length_take]; omega
    have e : eat (l.take (j + 1)) j = l[j] := by
      rw [eat, List.getD_eq_getElem?_getD, List.getElem?_take, if_pos (by omega), List.getElem?_eq_getElem (by omega)]
      rfl
    rw [dayL, if_neg (by rw [hl]; omega), hl, Nat.add_sub_cancel, e]
    omega
end Go.Proofs.YtkjomkiajdjhpaaDoor

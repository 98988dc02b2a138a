/-
  Valid stops, baskets and drills: plain facts. No program. No condition but what stands at each.
-/
import Derived.Test.YtbianlkenallaaaDoorEntry1
import Derived.Test.YtbianlkenallaaaDoorMgA
import Derived.Test.YtbianlkenallaaaDoorSameDesk
namespace Go.Proofs.YtbianlkenallaaaDoor
open Go.RowKit
theorem not_all {n i : Nat} {p : Nat → Bool} (hi : i < n) (h : p i = false) : (List.range n).all p = false := rall_at hi h
/-- stops: from 1 to 30, strictly rising, 6 at most -/
def stopAt (l : List Int) (i : Nat) : Bool := btw (num l i) 1 30 && (decide (i = 0) || decide (num l (i - 1) < num l i))
def vStops (l : List Int) : Bool := decide (l.length ≤ 6) && (List.range l.length).all (stopAt l)
theorem vStops_len {l : List Int} (h : ¬ l.length ≤ 6) : vStops l = false := by rw [vStops, decide_eq_false h]; rfl
theorem vStops_at {l : List Int} {i : Nat} (hi : i < l.length) (h : stopAt l i = false) : vStops l = false := by rw [vStops, rall_at hi h, Bool.and_false]
theorem vStops_true {l : List Int} (h : l.length ≤ 6) (h2 : ∀ i, i < l.length → stopAt l i = true) : vStops l = true := by rw [vStops, decide_eq_true h, rall_true h2]; rfl
theorem vStops_inv {l : List Int} (h : vStops l = true) : l.length ≤ 6 ∧ ∀ i, i < l.length → stopAt l i = true := by
  simpa only [vStops, Bool.and_eq_true, decide_eq_true_eq, List.all_eq_true, List.mem_range] using h
theorem stopAt_1 {l : List Int} {i : Nat} (h : btw (num l i) 1 30 = false) : stopAt l i = false := by simp [stopAt, h]
theorem stopAt_2 {l : List Int} {i : Nat} (hi : 0 < i) (h : ¬ num l (i - 1) < num l i) : stopAt l i = false := by
  rw [stopAt, decide_eq_false h, decide_eq_false (by omega), Bool.or_false, Bool.and_false]
theorem stopAt_3 {l : List Int} {i : Nat} (hi : i = 0) (h : btw (num l i) 1 30 = true) : stopAt l i = true := by
  rw [stopAt, h, decide_eq_true hi]; rfl
theorem stopAt_4 {l : List Int} {i : Nat} (h : btw (num l i) 1 30 = true) (h2 : num l (i - 1) < num l i) : stopAt l i = true := by
  rw [stopAt, h, decide_eq_true h2, Bool.or_true]; rfl
/-- l00Rises up to where it is read -/
def risesAll (l : List Int) : Bool := (List.range l.length).all (stopAt l)
theorem rises_at {l : List Int} {i : Nat} (hi : i < l.length) (h : stopAt l i = false) : risesAll l = false := rall_at hi h
theorem rises_true {l : List Int} (h : ∀ i, i < l.length → stopAt l i = true) : risesAll l = true := rall_true h
theorem vStops_rises {l : List Int} (h : l.length ≤ 6) : vStops l = risesAll l := by rw [vStops, decide_eq_true h, Bool.true_and]; rfl
/-- a basket -/
def vBsk (b : Bsk) : Bool := btw b.bars 2 60 && btw b.rise 1 100 && btw b.fall 1 100 && btw b.clr 1 100 && btw b.near 0 100
/-- a text of bytes from lo to 126, so many at most -/
def txtC (lo : Nat) (c : UInt8) : Bool := decide (lo ≤ c.toNat ∧ c.toNat ≤ 126)
def txtB (lo most : Nat) (s : ByteArray) : Bool := decide (s.size ≤ most) && (List.range s.size).all fun i => txtC lo (byteAt s i)
theorem txtB_len {lo most : Nat} {s : ByteArray} (h : ¬ s.size ≤ most) : txtB lo most s = false := by rw [txtB, decide_eq_false h]; rfl
theorem txtB_at {lo most i : Nat} {s : ByteArray} (hi : i < s.size) (h : txtC lo (byteAt s i) = false) : txtB lo most s = false := by rw [txtB, rall_at hi h, Bool.and_false]
theorem txtB_true {lo most : Nat} {s : ByteArray} (h : s.size ≤ most) (h2 : ∀ i, i < s.size → txtC lo (byteAt s i) = true) : txtB lo most s = true := by rw [txtB, decide_eq_true h, rall_true h2]; rfl
theorem txtB_inv {lo most : Nat} {s : ByteArray} (h : txtB lo most s = true) : s.size ≤ most ∧ ∀ i, i < s.size → lo ≤ (byteAt s i).toNat ∧ (byteAt s i).toNat ≤ 126 := by
  simpa only [txtB, txtC, Bool.and_eq_true, decide_eq_true_eq, List.all_eq_true, List.mem_range] using h
/-- no byte twice -/
def newAt (s : ByteArray) (i : Nat) : Bool := (List.range i).all fun j => decide (byteAt s j ≠ byteAt s i)
def newB (s : ByteArray) : Bool := (List.range s.size).all (newAt s)
theorem newAt_no {s : ByteArray} {i j : Nat} (hj : j < i) (h : byteAt s j = byteAt s i) : newAt s i = false := rall_at hj (decide_eq_false (fun e => e h))
theorem newAt_yes {s : ByteArray} {i : Nat} (h : ∀ j, j < i → byteAt s j ≠ byteAt s i) : newAt s i = true := rall_true fun j hj => decide_eq_true (h j hj)
theorem newB_at {s : ByteArray} {i : Nat} (hi : i < s.size) (h : newAt s i = false) : newB s = false := rall_at hi h
theorem newB_true {s : ByteArray} (h : ∀ i, i < s.size → newAt s i = true) : newB s = true := rall_true h
/-- a drill -/
def vDrill (d : Drill) : Bool := nameB d.name && (decide (0 < d.letters.size) && (txtB 33 8 d.letters && (btw d.minutes 1 600 && newB d.letters)))
theorem vDrill_1 {d : Drill} (h : nameB d.name = false) : vDrill d = false := by rw [vDrill, h]; rfl
theorem vDrill_2 {d : Drill} (h : ¬ 0 < d.letters.size) : vDrill d = false := by rw [vDrill, decide_eq_false h, Bool.false_and, Bool.and_false]
theorem vDrill_3 {d : Drill} (h : txtB 33 8 d.letters = false) : vDrill d = false := by rw [vDrill, h, Bool.false_and, Bool.and_false, Bool.and_false]
theorem vDrill_4 {d : Drill} (h : btw d.minutes 1 600 = false) : vDrill d = false := by rw [vDrill, h, Bool.false_and, Bool.and_false, Bool.and_false, Bool.and_false]
theorem vDrill_5 {d : Drill} (h : newB d.letters = false) : vDrill d = false := by rw [vDrill, h, Bool.and_false, Bool.and_false, Bool.and_false, Bool.and_false]
theorem vDrill_0 {d : Drill} (h1 : nameB d.name = true) (h2 : 0 < d.letters.size) (h3 : txtB 33 8 d.letters = true) (h4 : btw d.minutes 1 600 = true) (h5 : newB d.letters = true) : vDrill d = true := by
  rw [vDrill, h1, decide_eq_true h2, h3, h4, h5]; rfl
theorem vDrill_inv {d : Drill} (h : vDrill d = true) : nameB d.name = true ∧ 0 < d.letters.size ∧ txtB 33 8 d.letters = true ∧ (1 ≤ d.minutes ∧ d.minutes ≤ 600) ∧ newB d.letters = true := by
  simp only [vDrill, Bool.and_eq_true, decide_eq_true_eq] at h
  exact ⟨h.1, h.2.1, h.2.2.1, btw_true h.2.2.2.1, h.2.2.2.2⟩
/-- drill i of a list fits: it is valid, and its name is none of those in front -/
def okD (l : List Drill) (i : Nat) : Bool := vDrill (drl l i) && (List.range i).all fun k => !decide ((drl l k).name = (drl l i).name)
def vDrills (l : List Drill) : Bool := decide (l.length ≤ 10) && (List.range l.length).all (okD l)
theorem okD_no {l : List Drill} {i : Nat} (h : vDrill (drl l i) = false) : okD l i = false := by rw [okD, h]; rfl
theorem okD_name {l : List Drill} {i k : Nat} (hk : k < i) (h : (drl l k).name = (drl l i).name) : okD l i = false := by
  rw [okD, rall_at hk (by rw [decide_eq_true h]; rfl), Bool.and_false]
theorem okD_true {l : List Drill} {i : Nat} (h : vDrill (drl l i) = true) (h2 : ∀ k, k < i → (drl l k).name ≠ (drl l i).name) : okD l i = true := by
  rw [okD, h, rall_true fun k hk => by rw [decide_eq_false (h2 k hk)]; rfl]; rfl
theorem vDrills_len {l : List Drill} (h : ¬ l.length ≤ 10) : vDrills l = false := by rw [vDrills, decide_eq_false h]; rfl
theorem vDrills_at {l : List Drill} {i : Nat} (hi : i < l.length) (h : okD l i = false) : vDrills l = false := by rw [vDrills, rall_at hi h, Bool.and_false]
theorem vDrills_true {l : List Drill} (h : l.length ≤ 10) (h2 : ∀ i, i < l.length → okD l i = true) : vDrills l = true := by rw [vDrills, decide_eq_true h, rall_true h2]; rfl
theorem vDrills_inv {l : List Drill} (h : vDrills l = true) : l.length ≤ 10 ∧ ∀ i, i < l.length → vDrill (drl l i) = true ∧ ∀ k, k < i → (drl l k).name ≠ (drl l i).name := by
  simpa only [vDrills, okD, Bool.and_eq_true, decide_eq_true_eq, List.all_eq_true, List.mem_range, Bool.not_eq_true', decide_eq_false_iff_not] using h
end Go.Proofs.YtbianlkenallaaaDoor

/-
  SameDesk, of the program and of the reference. The bounds stand at each.
-/
import Derived.Test.YtbianlkenallaaaDoorMgA
namespace Go.Proofs.YtbianlkenallaaaDoor
open Go.RowKit
theorem rall_true {n : Nat} {p : Nat → Bool} (h : ∀ i, i < n → p i = true) : (List.range n).all p = true := by
  simp only [List.all_eq_true, List.mem_range]
  exact h
theorem rall_at {n i : Nat} {p : Nat → Bool} (hi : i < n) (h : p i = false) : (List.range n).all p = false := by
  rw [← Bool.not_eq_true]
  intro hc
  rw [List.all_eq_true] at hc
  have := hc i (List.mem_range.2 hi)
  simp [h] at this
theorem lt_extD {P : Nat → Prop} {j : Nat} (h : ∀ i, i < j → P i) (hj : P j) : ∀ i, i < j + 1 → P i := fun i hi => by
  rcases Nat.lt_succ_iff_lt_or_eq.1 hi with h' | h'
  · exact h i h'
  · rw [h']; exact hj
def num (ps : List Int) (i : Nat) : Int := ps.getD i 0
theorem num_eq {ps : List Int} {i : Nat} (h : i < ps.length) : ps[i] = num ps i := by simp [num, h]
theorem num_at {w : World} {A : Option Addr} {l : List Int} (h : Rds w 1 A l.length (ics l)) {k : Nat} (hk : k < l.length) :
    ∃ b off, A = some ⟨b, off, none⟩ ∧ b < w.heap.size ∧ w.cell? ⟨b, off + k, none⟩ = some (i64 (num l k)) := by
  obtain ⟨b, off, e, hb, c0⟩ := int_at h rfl hk
  rw [num_eq hk] at c0
  exact ⟨b, off, e, hb, c0⟩
def drl (l : List Drill) (i : Nat) : Drill := l.getD i ⟨ByteArray.empty, ByteArray.empty, 0⟩
theorem drl_eq {l : List Drill} {i : Nat} (h : i < l.length) : l[i] = drl l i := by simp [drl, h]
theorem drl_at {w : World} {A : Option Addr} {l : List Drill} (h : Rds w 3 A l.length (drcs l)) {k : Nat} (hk : k < l.length) :
    ∃ b off, A = some ⟨b, off, none⟩ ∧ b < w.heap.size ∧ w.cell? ⟨b, off + k * 3, none⟩ = some (.string (drl l k).name) ∧ w.cell? ⟨b, off + k * 3 + 1, none⟩ = some (.string (drl l k).letters) ∧ w.cell? ⟨b, off + k * 3 + 2, none⟩ = some (i64 (drl l k).minutes) := by
  have := dr_at h hk
  rw [drl_eq hk] at this
  exact this
def eqNums (a b : List Int) : Bool := decide (a.length = b.length) && (List.range a.length).all fun i => decide (num a i = num b i)
theorem eqNums_len {a b : List Int} (h : ¬ a.length = b.length) : eqNums a b = false := by rw [eqNums, decide_eq_false h]; rfl
theorem eqNums_at {a b : List Int} {i : Nat} (hi : i < a.length) (h : ¬ num a i = num b i) : eqNums a b = false := by rw [eqNums, rall_at hi (decide_eq_false h), Bool.and_false]
theorem eqNums_true {a b : List Int} (h : a.length = b.length) (h2 : ∀ i, i < a.length → num a i = num b i) : eqNums a b = true := by
  rw [eqNums, decide_eq_true h, rall_true fun i hi => decide_eq_true (h2 i hi)]; rfl
def nmEq (s t : ByteArray) : Bool := decide (s.data.toList = t.data.toList)
theorem nmEq_of {s t : ByteArray} : nmEq s t = (s.toList == t.toList) := by
  rw [nmEq, ByteArray.toList_eq, ByteArray.toList_eq, Bool.eq_iff_iff]
  simp
def bEq (x y : Bsk) : Bool := x.bars == y.bars && x.rise == y.rise && x.fall == y.fall && x.clr == y.clr && x.near == y.near
def drlEq (x y : Drill) : Bool := x.name.toList == y.name.toList && x.letters.toList == y.letters.toList && x.minutes == y.minutes
def eqDrl (a b : List Drill) : Bool := decide (a.length = b.length) && (List.range a.length).all fun i => drlEq (drl a i) (drl b i)
theorem eqDrl_len {a b : List Drill} (h : ¬ a.length = b.length) : eqDrl a b = false := by rw [eqDrl, decide_eq_false h]; rfl
theorem eqDrl_at {a b : List Drill} {i : Nat} (hi : i < a.length) (h : drlEq (drl a i) (drl b i) = false) : eqDrl a b = false := by rw [eqDrl, rall_at hi h, Bool.and_false]
theorem eqDrl_true {a b : List Drill} (h : a.length = b.length) (h2 : ∀ i, i < a.length → drlEq (drl a i) (drl b i) = true) : eqDrl a b = true := by
  rw [eqDrl, decide_eq_true h, rall_true h2]; rfl
def deskEq (x y : DeskD) : Bool := bEq x.b y.b && eqNums x.stops y.stops && eqDrl x.drills y.drills && (x.log.toList == y.log.toList)
theorem deskEq_1 {x y : DeskD} (h : bEq x.b y.b = false) : deskEq x y = false := by rw [deskEq, h]; rfl
theorem deskEq_2 {x y : DeskD} (h : eqNums x.stops y.stops = false) : deskEq x y = false := by rw [deskEq, h, Bool.and_false]; rfl
theorem deskEq_3 {x y : DeskD} (h : eqDrl x.drills y.drills = false) : deskEq x y = false := by rw [deskEq, h, Bool.and_false]; rfl
theorem deskEq_4 {x y : DeskD} (h : (x.log.toList == y.log.toList) = false) : deskEq x y = false := by rw [deskEq, h, Bool.and_false]
theorem deskEq_0 {x y : DeskD} (h1 : bEq x.b y.b = true) (h2 : eqNums x.stops y.stops = true) (h3 : eqDrl x.drills y.drills = true) (h4 : (x.log.toList == y.log.toList) = true) : deskEq x y = true := by rw [deskEq, h1, h2, h3, h4]; rfl
end Go.Proofs.YtbianlkenallaaaDoor

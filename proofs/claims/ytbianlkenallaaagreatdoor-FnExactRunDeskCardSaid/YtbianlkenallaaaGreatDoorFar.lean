/-
  The least numbers of moves: the reference's (a table made better till nothing changes). The bounds stand at it.
-/
import Derived.Test.YtbianlkenallaaaGreatDoorMove6
set_option linter.all false
namespace Go.Proofs.YtbianlkenallaaaGreatDoor
open Go.RowKit
structure FS (w wr : World) (q : Nat) (f : Nat → Int) : Prop where
 a : Blk wr q 2 (arrD f)
 u : UpOf w wr
 hq : w.heap.size ≤ q
section
variable {w wr wr' : World} {q : Nat} {f g : Nat → Int}
theorem FS.congr (h : FS w wr q f) (e : ∀ i, i < 31 → f i = g i) : FS w wr q g := ⟨arrD_congr e ▸ h.a, h.u, h.hq⟩
theorem FS.below (h : FS w wr q f) (hb : Below wr.heap.size wr wr') : FS w wr' q f := ⟨h.a.up ⟨wr', hb⟩, h.u.tr hb, h.hq⟩
theorem FS.put (h : FS w wr q f) (i : Nat) (v : Int) : FS w (wr.setCell ⟨q, i, none⟩ (i64 v)) q (fun j => if j = i then v else f j) :=
 ⟨by rw [← arrD_set]; exact h.a.put i _, UpOf.of (h.u.below.setCell (p := ⟨q, i, none⟩) h.hq _), h.hq⟩
theorem FS.cell (h : FS w wr q f) {i : Nat} (hi : i < 31) : wr.cell? ⟨q, i, none⟩ = some (i64 (f i)) := by rw [h.a.cell, arrD_get _ hi]
end
def Up31 (l : List Int) (tg : Nat) (D : Nat → Int) : Prop := D tg = 0 ∧ ∀ c, c ≤ 30 → (dst l tg c : Int) ≤ D c ∧ D c ≤ 31
def Still (l : List Int) (D : Nat → Int) (k : Nat) : Prop := ∀ c, c < k → ∀ j d, j < 3 → mvTo l j c = some d → D c ≤ D d + 1
def sum31 (D : Nat → Int) : Nat := ((List.range 31).map fun i => (D i).toNat).sum
def sumAt (w : World) (q : Nat) : Nat := sum31 fun i => intOf ((w.cell? ⟨q, i, none⟩).getD undef)
theorem sum31_congr {f g : Nat → Int} (h : ∀ i, i < 31 → f i = g i) : sum31 f = sum31 g := by
 unfold sum31
 congr 1
 exact List.map_congr_left fun i hi => by rw [h i (List.mem_range.1 hi)]
theorem FS.sum {w wr : World} {q : Nat} {f : Nat → Int} (h : FS w wr q f) : sumAt wr q = sum31 f := sum31_congr fun i hi => by rw [h.cell hi]; rfl
theorem sum_lt {f g : Nat → Int} {n k : Nat} (hk : k < n) (h : ∀ i, i < n → i ≠ k → f i = g i) (hlt : (f k).toNat < (g k).toNat) : ((List.range n).map fun i => (f i).toNat).sum < ((List.range n).map fun i => (g i).toNat).sum := by
 induction n with
 | zero => omega
 | succ n ih =>
  rw [List.range_succ, List.map_append, List.map_append, List.sum_append, List.sum_append]
  simp only [List.map_cons, List.map_nil, List.sum_cons, List.sum_nil, Nat.add_zero]
  by_cases e : k = n
  ·subst e
   have : ((List.range k).map fun i => (f i).toNat) = (List.range k).map fun i => (g i).toNat := List.map_congr_left fun i hi => by
    have := List.mem_range.1 hi
    rw [h i (by omega) (by omega)]
   rw [this]
   omega
  ·have h1 := ih (by omega) (fun i hi hn => h i (by omega) hn)
   rw [h n (by omega) (by omega)]
   omega
theorem sum31_put {D : Nat → Int} {k : Nat} {v : Int} (hk : k ≤ 30) (hv : 0 ≤ v) (h : v < D k) : sum31 (fun j => if j = k then v else D j) < sum31 D :=
 sum_lt (n := 31) (k := k) (by omega) (fun i _ hn => by rw [if_neg hn]) (by rw [if_pos rfl]; omega)
theorem Up31.put {l : List Int} {tg : Nat} {D : Nat → Int} {k j d : Nat} (hv : vStops l = true) (ht : tg ≤ 30) (h : Up31 l tg D) (hk : k ≤ 30) (hj : j < 3) (hm : mvTo l j k = some d) (hd : d ≤ 30) (hlt : D d + 1 < D k) :
  Up31 l tg (fun i => if i = k then D d + 1 else D i) := by
 have h1 := h.2 d hd
 have h2 := dst_le (tg := tg) hv ht hk hj hm
 have hne : tg ≠ k := fun e => by
  have := h.1
  rw [e] at this
  omega
 refine ⟨by show (if tg = k then D d + 1 else D tg) = 0; rw [if_neg hne]; exact h.1, fun c hc => ?_⟩
 show (dst l tg c : Int) ≤ (if c = k then D d + 1 else D c) ∧ (if c = k then D d + 1 else D c) ≤ 31
 by_cases e : c = k
 ·subst e
  have h3 := h.2 c hc
  rw [if_pos rfl]
  omega
 ·rw [if_neg e]
  exact h.2 c hc
theorem Up31.end {l : List Int} {tg : Nat} {D : Nat → Int} (hv : vStops l = true) (ht : tg ≤ 30) (h : Up31 l tg D) (hs : Still l D 31) : ∀ c, c ≤ 30 → D c = dst l tg c :=
 dst_stable hv ht h.1 (fun c hc => (h.2 c hc).1) (fun c hc k d hk hm => hs c (by omega) k d hk hm)
end Go.Proofs.YtbianlkenallaaaGreatDoor

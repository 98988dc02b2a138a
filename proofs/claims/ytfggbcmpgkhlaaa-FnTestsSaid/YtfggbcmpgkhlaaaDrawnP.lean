/-
  What the reference draws as defects and prices is valid. Plain facts.
-/
import Derived.Test.YtfggbcmpgkhlaaaTestP
namespace Go.Proofs.Ytfggbcmpgkhlaaa
open Go.RowKit
def nm7 : List ByteArray := [⟨#[98, 101, 108, 108]⟩, ⟨#[98, 101, 108, 116]⟩, ⟨#[98, 97, 114, 45, 51]⟩, ⟨#[115, 104, 105, 102, 116]⟩, ⟨#[115, 112, 114, 105, 110, 103]⟩, ⟨#[114, 97, 105, 108]⟩, ⟨#[107, 101, 121]⟩]
def drawnD (m : Nat) (l : List Defect) : Prop := l.length ≤ 7 ∧ ∀ i, i < l.length → (dat l i).name = nm7.getD i ⟨#[]⟩ ∧ (1 ≤ (dat l i).weight ∧ (dat l i).weight ≤ 9) ∧ (dat l i).signs.size = m ∧ signsB (dat l i).signs = true
theorem nm7_ok : ∀ i, i < 7 → nameB (nm7.getD i ⟨#[]⟩) = true := by decide
theorem nm7_ne : ∀ i, i < 7 → ∀ k, k < i → (nm7.getD k ⟨#[]⟩).data ≠ (nm7.getD i ⟨#[]⟩).data := by decide
theorem drawn_ok {l : List Defect} {ps : List Int} (h : drawnD ps.length l) (h5 : ps.length ≤ 5) (hp : ∀ i, i < ps.length → 1 ≤ num ps i ∧ num ps i ≤ 12) : vDefects l ps = true := by
  obtain ⟨h7, hd⟩ := h
  refine vDefects_true ⟨by omega, by omega⟩ (fun i hi => ?_) (fun i hi => ?_)
  · have := hp i hi
    simp [btw]
    omega
  · obtain ⟨hn, hw, hz, hs⟩ := hd i hi
    refine okD_true ?_ (fun k hk e => ?_)
    · rw [vDef, hn, nm7_ok i (by omega), hz, hs]
      simp [btw]
      omega
    · have e2 := (hd k (by omega)).1
      rw [e, hn] at e2
      exact nm7_ne i (by omega) k hk (by rw [e2])
end Go.Proofs.Ytfggbcmpgkhlaaa

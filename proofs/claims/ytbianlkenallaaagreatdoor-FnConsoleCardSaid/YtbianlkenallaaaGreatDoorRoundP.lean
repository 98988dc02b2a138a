/-
  A log made of valid entries in order is read back. No program. No condition but what stands at each.
-/
import Derived.Test.YtbianlkenallaaaGreatDoorLogOfP
set_option linter.all false
namespace Go.Proofs.YtbianlkenallaaaGreatDoor
open Go.RowKit
theorem lineP_no {x : Entry} (h : vEntry x = true) {st : Int} (h0 : 0 ≤ st) (h1 : st < 65519) : ∀ c ∈ (lineP x st).data.toList, c ≠ 10 := by
  obtain ⟨a, b, c, d, e⟩ := vEntry_inv h
  have n1 := (dec_no (n := x.day) (by omega) (by omega)).2.1
  have n2 := (name_no c).2.1
  have n3 := (dec_no (n := x.value) (by omega) (by omega)).2.1
  have n4 := (dec_no (n := st) (by omega) (by omega)).2.1
  intro y hy
  rw [lineP_list, List.mem_append, List.mem_cons, List.mem_append, List.mem_cons, List.mem_append, List.mem_cons] at hy
  rcases hy with hy | rfl | hy | rfl | hy | rfl | hy
  · exact n1 y hy
  · decide
  · exact n2 y hy
  · decide
  · exact n3 y hy
  · decide
  · exact n4 y hy
theorem take_line {x : Entry} (h : vEntry x = true) {d0 st : Int} (hd : d0 ≤ x.day) : takeOf d0 st (lineP x (stampP st x)) (wordsA [] (lineP x (stampP st x)).data.toList) = some (x, stampP st x) := by
  obtain ⟨a, b, c, d, e⟩ := vEntry_inv h
  have hb := stampP_bd st x
  have hw := (four_words h hb.1 hb.2).2
  have r1 := rdR_dec (n := x.day) (by omega) (by omega)
  have r3 := rdR_dec (n := x.value) (by omega) (by omega)
  have he : eOf (wordsA [] (lineP x (stampP st x)).data.toList) = x := by
    rw [hw]
    show (⟨(rdR (dec x.day)).1, x.what, (rdR (dec x.value)).1⟩ : Entry) = x
    rw [r1, r3]
  have ht : takeB d0 st (lineP x (stampP st x)) (wordsA [] (lineP x (stampP st x)).data.toList) = true := by
    refine takeB_0 (by rw [hw]; rfl) ?_ ?_ (by rw [he]; exact h) (by rw [he]; exact hd) (by rw [he])
    · rw [hw]; show (rdR (dec x.day)).2 = true; rw [r1]
    · rw [hw]; show (rdR (dec x.value)).2 = true; rw [r3]
  rw [takeOf_some ht, he]
end Go.Proofs.YtbianlkenallaaaGreatDoor

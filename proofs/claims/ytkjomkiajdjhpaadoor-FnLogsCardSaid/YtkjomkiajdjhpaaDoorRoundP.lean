/-
  A log made of valid entries in order is read back. No program. No condition but what stands at each.
-/
import Derived.Test.YtkjomkiajdjhpaaDoorLogOfP
namespace Go.Proofs.YtkjomkiajdjhpaaDoor
open Go.RowKit
theorem mkF_pre : ∀ (r : List Entry) (p : ByteArray) (st : Int), (r.foldl mk1 (p, st)).1.data.toList = p.data.toList ++ (r.foldl mk1 (⟨#[]⟩, st)).1.data.toList ∧ (r.foldl mk1 (p, st)).2 = (r.foldl mk1 (⟨#[]⟩, st)).2
  | [], p, st => by simp
  | x :: r, p, st => by
    rw [List.foldl_cons, List.foldl_cons]
    have h1 := mkF_pre r (p ++ newLine st x) (stampP st x)
    have h2 := mkF_pre r (⟨#[]⟩ ++ newLine st x) (stampP st x)
    simp only [mk1]
    rw [h1.1, h1.2, h2.1, h2.2]
    refine ⟨?_, rfl⟩
    simp [ByteArray.data_append]
theorem lineP_no {x : Entry} (h : vEntry x = true) {st : Int} (h0 : 0 ≤ st) (h1 : st < 65519) : ∀ c ∈ (lineP x st).data.toList, c ≠ 10 := by
  obtain ⟨a, b, c, d, e⟩ := vEntry_inv h
  have n1 := (dec_no (n := x.day) (by omega) (by omega)).2.1
  have n2 := (name_no c).2.1
  have n3 := (dec_no (n := x.value) (by omega) (by omega)).2.1
  have n4 := (dec_no (n := st) (by omega) (by omega)).2.1
  intro y hy
  rw [lineP_list, List.mem_append, List.mem_cons, List.mem_append, List.mem_cons, List.mem_append, List.mem_cons] at hy
  rcases hy with hy | rfl | hy | rfl | hy | rfl | hy
  · exact n1 y hy
  · decide
  · exact n2 y hy
  · decide
  · exact n3 y hy
  · decide
  · exact n4 y hy
theorem take_line {x : Entry} (h : vEntry x = true) {d0 st : Int} (hd : d0 ≤ x.day) : takeOf d0 st (lineP x (stampP st x)) (wordsA [] (lineP x (stampP st x)).data.toList) = some (x, stampP st x) := by
  obtain ⟨a, b, c, d, e⟩ := vEntry_inv h
  have hb := stampP_bd st x
  have hw := (four_words h hb.1 hb.2).2
  have r1 := rdR_dec (n := x.day) (by omega) (by omega)
  have r3 := rdR_dec (n := x.value) (by omega) (by omega)
  have he : eOf (wordsA [] (lineP x (stampP st x)).data.toList) = x := by
    rw [hw]
    show (⟨(rdR (dec x.day)).1, x.what, (rdR (dec x.value)).1⟩ : Entry) = x
    rw [r1, r3]
  have ht : takeB d0 st (lineP x (stampP st x)) (wordsA [] (lineP x (stampP st x)).data.toList) = true := by
    refine takeB_0 (by rw [hw]; rfl) ?_ ?_ (by rw [he]; exact h) (by rw [he]; exact hd) (by rw [he])
    · rw [hw]; show (rdR (dec x.day)).2 = true; rw [r1]
    · rw [hw]; show (rdR (dec x.value)).2 = true; rw [r3]
  rw [takeOf_some ht, he]
theorem read_mk : ∀ (r acc : List Entry) (st : Int) (sz k : Nat), (∀ x ∈ r, vEntry x = true) → sortE (acc ++ r) → 0 ≤ st → st < 65519 → (r.foldl mk1 (⟨#[]⟩, st)).1.size < k →
    logF k acc st sz (r.foldl mk1 (⟨#[]⟩, st)).1.data.toList = (acc ++ r, (r.foldl mk1 (⟨#[]⟩, st)).2, sz + (r.foldl mk1 (⟨#[]⟩, st)).1.size)
  | [], acc, st, sz, k, _, _, _, _, _ => by
    show logF k acc st sz [] = _
    rw [logF_end rfl]
    simp
    rfl
  | x :: r, acc, st, sz, k, hv, hs, h0, h1, hk => by
    have hx := hv x (by simp)
    have hb := stampP_bd st x
    have hp := mkF_pre r (⟨#[]⟩ ++ newLine st x) (stampP st x)
    have hpl : ((x :: r).foldl mk1 (⟨#[]⟩, st)).1.data.toList = (lineP x (stampP st x)).data.toList ++ 10 :: (r.foldl mk1 (⟨#[]⟩, stampP st x)).1.data.toList := by
      rw [List.foldl_cons]
      show (r.foldl mk1 (⟨#[]⟩ ++ newLine st x, stampP st x)).1.data.toList = _
      rw [hp.1]
      simp [newLine, ByteArray.data_append]
    have hp2 : ((x :: r).foldl mk1 (⟨#[]⟩, st)).2 = (r.foldl mk1 (⟨#[]⟩, stampP st x)).2 := by
      rw [List.foldl_cons]; exact hp.2
    have hsz : ((x :: r).foldl mk1 (⟨#[]⟩, st)).1.size = (lineP x (stampP st x)).size + 1 + (r.foldl mk1 (⟨#[]⟩, stampP st x)).1.size := by
      rw [← bsz, hpl, List.length_append, List.length_cons, bsz, bsz]; omega
    rw [hsz] at hk
    obtain ⟨k', rfl⟩ : ∃ k', k = k' + 1 := ⟨k - 1, by omega⟩
    have hc : cutA 10 [] ((x :: r).foldl mk1 (⟨#[]⟩, st)).1.data.toList = (lineP x (stampP st x), bs (r.foldl mk1 (⟨#[]⟩, stampP st x)).1.data.toList, true) := by
      rw [hpl, cutA_part _ _ (lineP_no hx hb.1 hb.2), bs_of]
    have hlen : acc.length < (acc ++ x :: r).length := by simp
    have hg : (acc ++ x :: r)[acc.length] = x := by simp
    have hday : dayL acc ≤ x.day := by
      have := last_day hs hlen (by rw [hg]; exact hx)
      rw [hg, List.take_left] at this
      omega
    have ht := take_line hx (st := st) hday
    rw [logF_go (x := x) (st' := stampP st x) (by rw [hc]) (by rw [hc]; exact ht), hc]
    show logF k' (acc ++ [x]) (stampP st x) (sz + (lineP x (stampP st x)).size + 1) (bs (r.foldl mk1 (⟨#[]⟩, stampP st x)).1.data.toList).data.toList = _
    rw [bs_list, read_mk r (acc ++ [x]) (stampP st x) _ k' (fun y hy => hv y (by simp [hy])) (by rw [List.append_assoc]; exact hs) hb.1 hb.2 (by omega), hp2, hsz, List.append_assoc]
    simp only [List.singleton_append, Prod.mk.injEq, true_and]
    omega
theorem logR_mk {l : List Entry} (hv : ∀ x ∈ l, vEntry x = true) (hs : sortE l) : logR (mkB l).1 = (l, (mkB l).2, (mkB l).1.size) := by
  have := read_mk l [] 0 0 ((mkB l).1.size + 1) hv hs (by omega) (by omega) (Nat.lt_succ_self _)
  simpa [logR, mkB] using this
theorem code_mk {l : List Entry} (hv : ∀ x ∈ l, vEntry x = true) (hs : sortE l) (hz : (mkB l).1.size ≤ 4000) : codeL (mkB l).1 = 0 ∧ entsL (mkB l).1 = l ∧ stL (mkB l).1 = (mkB l).2 := by
  have h := logR_mk hv hs
  refine ⟨codeL_0 hz (by rw [h]), ?_, ?_⟩
  · rw [entsL, h]
  · rw [stL, h]
end Go.Proofs.YtkjomkiajdjhpaaDoor

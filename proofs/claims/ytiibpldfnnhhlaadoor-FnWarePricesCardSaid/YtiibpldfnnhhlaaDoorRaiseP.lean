/-
  Raised prices: plain facts. No program. No condition but what stands at each.
-/
import Derived.Test.YtiibpldfnnhhlaaDoorMgA
namespace Go.Proofs.YtiibpldfnnhhlaaDoor
def raisB (m : Int) (b : Brk) : Brk := ⟨b.fr, (b.pr * (1000 + m) + 999) / 1000⟩
def rais (m : Int) (x : Ware) : Ware := ⟨x.name, x.brs.map (raisB m)⟩
def raisL (m : Int) (l : List Ware) : List Ware := l.map (rais m)
theorem raisL_len (m : Int) (l : List Ware) : (raisL m l).length = l.length := by simp [raisL]
theorem rais_len (m : Int) (x : Ware) : (rais m x).brs.length = x.brs.length := by simp [rais]
theorem raisL_at {m : Int} {l : List Ware} {i : Nat} (h : i < l.length) : wat (raisL m l) i = rais m (wat l i) := by
  have h2 : i < (raisL m l).length := by rw [raisL_len]; exact h
  rw [← wat_eq h, ← wat_eq h2]
  simp [raisL]
def raisR (l : List Ware) (m : Int) : List Ware × Int :=
  if vWares l then if btw m 0 1000 then if vWares (raisL m l) then (raisL m l, 0) else ([], 5) else ([], 2) else ([], 1)
theorem vWares_names {l : List Ware} (h : vWares l = true) {i k : Nat} (hi : i < l.length) (hk : k < i) : (wat l k).name ≠ (wat l i).name := by
  simp only [vWares, Bool.and_eq_true, decide_eq_true_eq, List.all_eq_true, List.mem_range] at h
  intro e
  have := h.2 i hi
  rw [okW_name hk e] at this
  cases this
theorem raisL_ok {l : List Ware} {m : Int} (h : vWares l = true) (hk : ∀ i, i < l.length → vWare (rais m (wat l i)) = true) : vWares (raisL m l) = true := by
  refine vWares_true (by rw [raisL_len]; exact (vWares_inv h).1) fun i hi => ?_
  rw [raisL_len] at hi
  refine okW_true (by rw [raisL_at hi]; exact hk i hi) fun k hki => ?_
  rw [raisL_at hi, raisL_at (by omega)]
  exact vWares_names h hi hki
theorem raisL_no {l : List Ware} {m : Int} {i : Nat} (hi : i < l.length) (h : vWare (rais m (wat l i)) = false) : vWares (raisL m l) = false :=
  vWares_at (i := i) (by rw [raisL_len]; exact hi) (okW_no (by rw [raisL_at hi]; exact h))
theorem raisR_len {l : List Ware} {m : Int} {L : List Ware} {cd : Int} (h : raisR l m = (L, cd)) : L.length ≤ 30 ∧ ∀ i, i < L.length → (wat L i).brs.length ≤ 6 := by
  have h0 : (raisR l m).1.length ≤ 30 ∧ ∀ i, i < (raisR l m).1.length → (wat (raisR l m).1 i).brs.length ≤ 6 := by
    unfold raisR
    split
    · split
      · split
        · rename_i h1 _ h2
          refine ⟨by rw [raisL_len]; exact (vWares_inv h1).1, fun i hi => ?_⟩
          exact (vWare_inv ((vWares_inv h2).2 i hi)).2.2.1
        · exact ⟨by simp, fun i hi => by simp at hi⟩
      · exact ⟨by simp, fun i hi => by simp at hi⟩
    · exact ⟨by simp, fun i hi => by simp at hi⟩
  rw [h] at h0
  exact h0
/-- the first k wares raised; the first k breaks of one raised -/
theorem take_snocW {l : List Ware} {m : Int} {k : Nat} (hk : k < l.length) : raisL m (l.take (k + 1)) = raisL m (l.take k) ++ [rais m (wat l k)] := by
  rw [List.take_succ_eq_append_getElem hk, wat_eq hk]
  simp [raisL]
theorem take_snocB {x : Ware} {m : Int} {k : Nat} (hk : k < x.brs.length) : (x.brs.take (k + 1)).map (raisB m) = (x.brs.take k).map (raisB m) ++ [raisB m (brk x k)] := by
  rw [List.take_succ_eq_append_getElem hk, brk_eq hk]
  simp
theorem raise_bd {p m : Int} (h1 : 1 ≤ p) (h2 : p ≤ 1000000) (h3 : 0 ≤ m) (h4 : m ≤ 1000) : 0 ≤ p * (1000 + m) ∧ p * (1000 + m) ≤ 2000000000 := by
  have := mul_bd (a := p) (b := 1000 + m) (p := 1000000) (q := 2000) (by omega) (by omega) (by omega) (by omega)
  omega
end Go.Proofs.YtiibpldfnnhhlaaDoor

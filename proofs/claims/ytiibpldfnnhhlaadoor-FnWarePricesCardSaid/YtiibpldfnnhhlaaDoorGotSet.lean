/-
  Lists of wares that a call has made: one ware's name or list of breaks written anew. The bounds stand at each.
-/
import Derived.Test.YtiibpldfnnhhlaaDoorDrawWares
namespace Go.Proofs.YtiibpldfnnhhlaaDoor
open Go.RowKit
theorem wat_set {l : List Ware} {i k : Nat} {x : Ware} (hi : i < l.length) : wat (l.set i x) k = if k = i then x else wat l k := by
  unfold wat
  simp only [List.getD_eq_getElem?_getD]
  by_cases h : k = i
  · subst h; rw [List.getElem?_set_self hi, if_pos rfl]; rfl
  · rw [List.getElem?_set_ne (fun e => h e.symm), if_neg h]
theorem wcs_at {l : List Ware} {ps : List Ptr} {k j : Nat} (hk : k < l.length) (hp : k < ps.length) (hj : j < 2) : (wcs l ps)[k * 2 + j]? = (wcell (l[k], ps[k]))[j]? := by
  have hz : k < (l.zip ps).length := by rw [List.length_zip]; omega
  have := flat_get wcell_len (l.zip ps) hz hj
  rw [wcs, this, List.getElem_zip]
theorem wcs_eq {l : List Ware} {ps : List Ptr} {ys : List Value} (hl : ps.length = l.length) (hy : ys.length = l.length * 2) (h : ∀ k (hk : k < l.length) (hp : k < ps.length) j, j < 2 → ys[k * 2 + j]? = (wcell (l[k], ps[k]))[j]?) : ys = wcs l ps := by
  have hz : (l.zip ps).length = l.length := by rw [List.length_zip]; omega
  refine flat_ext wcell_len (l.zip ps) (by rw [hz]; exact hy) (fun k hk j hj => ?_)
  rw [List.getElem_zip]
  exact h k (by omega) (by omega) j hj
section
variable {lo : Nat} {w w1 : World} {a c i : Nat} {l : List Ware} {ps : List Ptr}
theorem WGot.setName (h : WGot lo w (some ⟨a, 0, none⟩) c l ps) (hi : i < l.length) (s : ByteArray) : WGot lo (w.setCell ⟨a, i * 2, none⟩ (.string s)) (some ⟨a, 0, none⟩) c (l.set i ⟨s, (wat l i).brs⟩) ps := by
  have hs := WHas.name (k := i) h (.string s)
  have hlen := h.len
  have hrl := h.row.1
  have e : (wcs l ps).set (i * 2) (.string s) = wcs (l.set i ⟨s, (wat l i).brs⟩) ps := by
    refine wcs_eq (by rw [List.length_set]; exact hlen) (by rw [List.length_set, List.length_set]; exact hrl) (fun k hk hp j hj => ?_)
    have hk' : k < l.length := by rwa [List.length_set] at hk
    by_cases hki : k = i
    · subst hki
      match j, hj with
      | 0, _ => rw [Nat.add_zero, List.getElem?_set_self (by omega), List.getElem_set_self]; rfl
      | 1, _ => rw [List.getElem?_set_ne (by omega), wcs_at hk' hp (by omega), List.getElem_set_self, ← wat_eq hk']; rfl
    · rw [List.getElem?_set_ne (by omega), wcs_at hk' hp hj, List.getElem_set_ne (fun e => hki e.symm)]
  have eb : ∀ k (hk : k < l.length), ((l.set i ⟨s, (wat l i).brs⟩)[k]'(by rw [List.length_set]; exact hk)).brs = l[k].brs := fun k hk => by
    by_cases hki : k = i
    · subst hki; rw [List.getElem_set_self, wat_eq hk]
    · rw [List.getElem_set_ne (fun e => hki e.symm)]
  refine ⟨by rw [List.length_set]; exact hlen, ?_, fun k hk hp => ?_, fun k hk hp => ?_, hs.apart, hs.outer⟩
  · rw [List.length_set, ← e]; exact hs.row
  · rw [List.length_set] at hk
    rw [← e, eb k hk]; exact hs.ptr k hk hp
  · rw [List.length_set] at hk
    have hb := hs.inner k hk hp
    have e2 : (wat (l.set i ⟨s, (wat l i).brs⟩) k).brs = (wat l k).brs := by rw [wat_set hi]; split <;> (try rfl); rename_i hh; rw [hh]
    show World.ownsRow _ _ _ _ _ _ (bkcs (wat (l.set i ⟨s, (wat l i).brs⟩) k).brs)
    rw [e2, eb k hk]
    exact hb
theorem WGot.setBrs {P : Option Addr} {cb : Nat} {bs : List Brk} (h : WGot lo w (some ⟨a, 0, none⟩) c l ps) (hi : i < l.length) (hip : i < ps.length) (hg : w.grownBy w1 (ablk ps[i].1)) (hx : w1.ownsRow lo 69 2 (.slice P bs.length cb) bs.length (bkcs bs)) (hat : (∀ k, ablk P = some k → ablk ps[i].1 = some k ∨ w.heap.size ≤ k)) :
    WGot lo (w1.setCell ⟨a, i * 2 + 1, none⟩ (.slice P bs.length cb)) (some ⟨a, 0, none⟩) c (l.set i ⟨(wat l i).name, bs⟩) (ps.set i (P, cb)) := by
  have hlen := h.len
  have hrl := h.row.1
  have haw := WHas.aLt h (k := a) rfl
  have hout := h.outer i hip
  have r1 := own_keepK h.row hg (fun x e e2 => by
    have e2 : some a = some x := e2
    rcases hout with h9 | h9
    · rw [h9] at e; cases e
    · exact h9 (by rw [e, ← e2]; rfl))
  have s1 := r1.stored (i * 2 + 1) (.slice P bs.length cb)
  have e : (wcs l ps).set (i * 2 + 1) (.slice P bs.length cb) = wcs (l.set i ⟨(wat l i).name, bs⟩) (ps.set i (P, cb)) := by
    refine wcs_eq (by rw [List.length_set, List.length_set]; exact hlen) (by rw [List.length_set, List.length_set]; exact hrl) (fun k hk hp j hj => ?_)
    have hk' : k < l.length := by rwa [List.length_set] at hk
    have hp' : k < ps.length := by rwa [List.length_set] at hp
    by_cases hki : k = i
    · subst hki
      match j, hj with
      | 0, _ => rw [List.getElem?_set_ne (by omega), wcs_at hk' hp' (by omega), List.getElem_set_self, ← wat_eq hk']; rfl
      | 1, _ => rw [List.getElem?_set_self (by omega), List.getElem_set_self, List.getElem_set_self]; rfl
    · rw [List.getElem?_set_ne (by omega), wcs_at hk' hp' hj, List.getElem_set_ne (fun e => hki e.symm), List.getElem_set_ne (fun e => hki e.symm)]
  have hPa : ablk P ≠ some a := fun e9 => by
    rcases hat a e9 with h9 | h9
    · rcases hout with h8 | h8
      · rw [h8] at h9; cases h9
      · exact h8 (by rw [h9]; rfl)
    · omega
  have hPk : ∀ k (hk : k < ps.length), k ≠ i → ablk ps[k].1 = none ∨ ablk ps[k].1 ≠ ablk P := fun k hk hne => by
    cases hq : ablk ps[k].1 with
    | none => exact .inl rfl
    | some x =>
      refine .inr fun e9 => ?_
      rcases hat x e9.symm with h9 | h9
      · rcases h.apart k i hk hip hne with h8 | h8
        · rw [h8] at hq; cases hq
        · exact h8 (by rw [hq, h9])
      · have := (WHas.pLt h hk hq).2; omega
  refine ⟨by rw [List.length_set, List.length_set]; exact hlen, ?_, fun k hk hp => ?_, fun k hk hp => ?_, fun k m hk hm hne => ?_, fun k hk => ?_⟩
  · rw [List.length_set, ← e]; exact s1.1
  · have := wcs_at (l := l.set i ⟨(wat l i).name, bs⟩) (ps := ps.set i (P, cb)) hk hp (j := 1) (by omega)
    rw [this]; rfl
  · rw [List.length_set] at hk hp
    show World.ownsRow _ _ _ _ _ _ (bkcs (wat (l.set i ⟨(wat l i).name, bs⟩) k).brs)
    by_cases hki : k = i
    · subst hki
      rw [wat_set hi, if_pos rfl, List.getElem_set_self, List.getElem_set_self]
      exact own_keepK hx s1.2 (fun x e9 e2 => by rw [own_ablk] at e2; injection e9 with e9; exact hPa (by rw [e2, e9]))
    · rw [wat_set hi, if_neg hki, List.getElem_set_ne (fun e => hki e.symm), List.getElem_set_ne (fun e => hki e.symm)]
      refine own_keepK (own_keepK (h.inner k hk hp) hg (fun x e9 e2 => ?_)) s1.2 (fun x e9 e2 => ?_)
      · rw [own_ablk] at e2
        rcases h.apart k i hp hip hki with h8 | h8
        · rw [h8] at e2; cases e2
        · exact h8 (by rw [e2, e9])
      · rw [own_ablk] at e2
        injection e9 with e9
        rcases h.outer k hp with h8 | h8
        · rw [h8] at e2; cases e2
        · exact h8 (by rw [e2, ← e9]; rfl)
  · have hk' : k < ps.length := by rwa [List.length_set] at hk
    have hm' : m < ps.length := by rwa [List.length_set] at hm
    by_cases hki : k = i
    · subst hki
      rw [List.getElem_set_self, List.getElem_set_ne hne]
      exact ne_flip (hPk m hm' (fun e => hne e.symm))
    · rw [List.getElem_set_ne (fun e => hki e.symm)]
      by_cases hmi : m = i
      · subst hmi
        rw [List.getElem_set_self]
        exact hPk k hk' hki
      · rw [List.getElem_set_ne (fun e => hmi e.symm)]
        exact h.apart k m hk' hm' hne
  · have hk' : k < ps.length := by rwa [List.length_set] at hk
    by_cases hki : k = i
    · subst hki
      rw [List.getElem_set_self]
      exact .inr (fun e => hPa (by rw [show ablk P = ablk (some ⟨a, 0, none⟩) from e]; rfl))
    · rw [List.getElem_set_ne (fun e => hki e.symm)]
      exact h.outer k hk'
end
end Go.Proofs.YtiibpldfnnhhlaaDoor

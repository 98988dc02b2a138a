/-
  Sums over all names are the sum of all numbers: plain facts. No program. No condition but what stands at each.
-/
import Derived.Test.YtkjomkiajdjhpaaDoorRoundP
import Derived.Test.YtkjomkiajdjhpaaDoorNamesIn
import Derived.Test.YtkjomkiajdjhpaaDoorSums
namespace Go.Proofs.YtkjomkiajdjhpaaDoor
open Go.RowKit
def sumI : List Int → Int
  | [] => 0
  | x :: l => x + sumI l
theorem sumI_app : ∀ (a b : List Int), sumI (a ++ b) = sumI a + sumI b
  | [], b => by simp [sumI]
  | x :: a, b => by rw [List.cons_append, sumI, sumI, sumI_app a b]; omega
theorem sumI_take {l : List Int} {k : Nat} (h : k < l.length) : sumI (l.take (k + 1)) = sumI (l.take k) + l[k] := by
  rw [List.take_add_one, List.getElem?_eq_getElem h, Option.toList_some, sumI_app]
  simp [sumI]
theorem sumW_vals {l : List Entry} (h : ∀ x ∈ l, vEntry x = true) (what : ByteArray) : sumW what 0 100000 l = sumI (vals what l) := by
  induction l with
  | nil => rfl
  | cons x l ih =>
    obtain ⟨a, b, _⟩ := vEntry_inv (h x (by simp))
    have hb : btw x.day 0 100000 = true := decide_eq_true ⟨a, b⟩
    rw [sumW, vals, ih fun y hy => h y (by simp [hy])]
    by_cases q : x.what = what
    · rw [if_pos ⟨q, hb⟩, if_pos q, sumI]
    · rw [if_neg (fun hh => q hh.1), if_neg q]; omega
/-- over the names N: the sums, and how many -/
def tot (N : List ByteArray) (l : List Entry) : Int := sumI (N.map fun n => sumW n 0 100000 l)
def cnt : List ByteArray → List Entry → Nat
  | [], _ => 0
  | n :: N, l => (vals n l).length + cnt N l
theorem cnt_app : ∀ (a b : List ByteArray) (l : List Entry), cnt (a ++ b) l = cnt a l + cnt b l
  | [], b, l => by simp [cnt]
  | x :: a, b, l => by rw [List.cons_append, cnt, cnt, cnt_app a b]; omega
theorem tot_take {N : List ByteArray} {l : List Entry} {k : Nat} (h : k < N.length) : tot (N.take (k + 1)) l = tot (N.take k) l + sumW N[k] 0 100000 l := by
  unfold tot
  rw [List.take_add_one, List.getElem?_eq_getElem h, Option.toList_some, List.map_append, sumI_app]
  simp [sumI]
theorem cnt_take {N : List ByteArray} {l : List Entry} {k : Nat} (h : k < N.length) : cnt (N.take (k + 1)) l = cnt (N.take k) l + (vals N[k] l).length := by
  rw [List.take_add_one, List.getElem?_eq_getElem h, Option.toList_some, cnt_app, cnt, cnt]
  omega
def sumV : List Entry → Int
  | [] => 0
  | x :: l => x.value + sumV l
theorem sumV_app : ∀ (a b : List Entry), sumV (a ++ b) = sumV a + sumV b
  | [], b => by simp [sumV]
  | x :: a, b => by rw [List.cons_append, sumV, sumV, sumV_app a b]; omega
theorem sumV_take {l : List Entry} {k : Nat} (h : k < l.length) : sumV (l.take (k + 1)) = sumV (l.take k) + l[k].value := by
  rw [ents_take h, sumV_app, sumV, sumV]; omega
theorem memB_not {N : List ByteArray} {s : ByteArray} (h : ¬ s ∈ N) : memB N s = false := by
  rw [← Bool.not_eq_true]
  exact fun hh => h (memB_iff.1 hh)
theorem one_name {N : List ByteArray} (hn : N.Nodup) {x : Entry} {l : List Entry} (hd : btw x.day 0 100000 = true) :
    tot N (x :: l) = (if memB N x.what = true then x.value else 0) + tot N l ∧ cnt N (x :: l) = (if memB N x.what = true then 1 else 0) + cnt N l := by
  induction N with
  | nil => simp [tot, cnt, sumI, memB]
  | cons n N ih =>
    rw [List.nodup_cons] at hn
    obtain ⟨i1, i2⟩ := ih hn.2
    unfold tot at i1 ⊢
    simp only [List.map_cons, sumI, cnt]
    rw [i1, i2, sumW, vals, memB_cons]
    by_cases q : x.what = n
    · subst q
      rw [if_pos ⟨rfl, hd⟩, if_pos rfl, memB_not hn.1, decide_eq_true rfl]
      simp only [List.length_cons]
      simp
      omega
    · have q2 : ¬ n.data.toList = x.what.data.toList := fun e => q (ba_ext e).symm
      rw [if_neg (fun hh => q hh.1), if_neg q, decide_eq_false q2, Bool.false_or]
      omega
theorem tot_nil : ∀ N : List ByteArray, tot N [] = 0
  | [] => rfl
  | n :: N => by
    have := tot_nil N
    unfold tot at this ⊢
    rw [List.map_cons, sumI, this]
    rfl
theorem cnt_nil : ∀ N : List ByteArray, cnt N [] = 0
  | [] => rfl
  | n :: N => by rw [cnt, cnt_nil N]; rfl
theorem all_names {N : List ByteArray} (hn : N.Nodup) : ∀ {l : List Entry}, (∀ x ∈ l, vEntry x = true) → (∀ x ∈ l, x.what ∈ N) → tot N l = sumV l ∧ cnt N l = l.length
  | [], _, _ => ⟨tot_nil N, cnt_nil N⟩
  | x :: l, hv, hm => by
    obtain ⟨a, b, _⟩ := vEntry_inv (hv x (by simp))
    obtain ⟨o1, o2⟩ := one_name hn (x := x) (l := l) (decide_eq_true ⟨a, b⟩)
    obtain ⟨i1, i2⟩ := all_names hn (l := l) (fun y hy => hv y (by simp [hy])) (fun y hy => hm y (by simp [hy]))
    rw [if_pos (memB_iff.2 (hm x (by simp)))] at o1 o2
    rw [o1, o2, i1, i2, sumV]
    refine ⟨rfl, ?_⟩
    simp only [List.length_cons]
    omega
theorem names_nd : ∀ (l : List Entry) (acc : List ByteArray), acc.Nodup → (l.foldl addN acc).Nodup ∧ (∀ s ∈ acc, s ∈ l.foldl addN acc) ∧ (∀ x ∈ l, x.what ∈ l.foldl addN acc) ∧ (∀ s ∈ l.foldl addN acc, s ∈ acc ∨ ∃ x ∈ l, x.what = s)
  | [], acc, h => ⟨h, fun _ hs => hs, (fun x hx => by cases hx), fun s hs => .inl hs⟩
  | x :: l, acc, h => by
    have h2 : (addN acc x).Nodup ∧ x.what ∈ addN acc x ∧ (∀ s ∈ acc, s ∈ addN acc x) ∧ (∀ s ∈ addN acc x, s ∈ acc ∨ s = x.what) := by
      cases hm : memB acc x.what
      · rw [addN_not hm]
        refine ⟨?_, by simp, fun s hs => by simp [hs], fun s hs => by simpa using hs⟩
        rw [List.nodup_append]
        refine ⟨h, by simp, fun a ha b hb hab => ?_⟩
        rw [List.mem_singleton] at hb
        subst hb hab
        have := memB_iff.2 ha
        rw [hm] at this; cases this
      · rw [addN_yes hm]
        exact ⟨h, memB_iff.1 hm, fun s hs => hs, fun s hs => .inl hs⟩
    obtain ⟨a, b, c, d⟩ := names_nd l (addN acc x) h2.1
    rw [List.foldl_cons]
    refine ⟨a, fun s hs => b s (h2.2.2.1 s hs), fun y hy => ?_, fun s hs => ?_⟩
    · rw [List.mem_cons] at hy
      rcases hy with rfl | hy
      · exact b _ h2.2.1
      · exact c y hy
    · rcases d s hs with hs | ⟨y, hy, e⟩
      · rcases h2.2.2.2 s hs with hs | hs
        · exact .inl hs
        · exact .inr ⟨x, by simp, hs.symm⟩
      · exact .inr ⟨y, by simp [hy], e⟩
theorem names_all (l : List Entry) : (namesN l).Nodup ∧ (∀ x ∈ l, x.what ∈ namesN l) ∧ (∀ s ∈ namesN l, ∃ x ∈ l, x.what = s) := by
  obtain ⟨a, _, c, d⟩ := names_nd l [] List.nodup_nil
  exact ⟨a, c, fun s hs => (d s hs).resolve_left (by simp)⟩
theorem vals_pos {l : List Entry} {s : ByteArray} (h : ∃ x ∈ l, x.what = s) : 0 < (vals s l).length := by
  obtain ⟨x, hx, rfl⟩ := h
  induction l with
  | nil => cases hx
  | cons y l ih =>
    rw [vals]
    by_cases q : y.what = x.what
    · rw [if_pos q]; simp
    · rw [if_neg q]
      rw [List.mem_cons] at hx
      rcases hx with rfl | hx
      · exact absurd rfl q
      · exact ih hx
theorem names_empty (l : List Entry) : (namesN l).length = 0 ↔ l.length = 0 := by
  constructor
  · intro h
    cases l with
    | nil => rfl
    | cons x l =>
      have := (names_all (x :: l)).2.1 x (by simp)
      rw [List.eq_nil_of_length_eq_zero h] at this
      cases this
  · intro h
    rw [List.eq_nil_of_length_eq_zero h]; rfl
theorem sumI_bd : ∀ (l : List Int) (B : Int), (∀ x ∈ l, -B ≤ x ∧ x ≤ B) → -(B * l.length) ≤ sumI l ∧ sumI l ≤ B * l.length
  | [], B, _ => by simp [sumI]
  | x :: l, B, h => by
    have ih := sumI_bd l B fun y hy => h y (by simp [hy])
    have hx := h x (by simp)
    rw [sumI]
    have e : B * ((x :: l).length : Int) = B * (l.length : Int) + B := by
      rw [List.length_cons]; push_cast; rw [Int.mul_add, Int.mul_one]
    rw [e]
    omega
theorem vals_bd {l : List Entry} (h : ∀ x ∈ l, vEntry x = true) (what : ByteArray) : ∀ y ∈ vals what l, -1000000 ≤ y ∧ y ≤ 1000000 := by
  induction l with
  | nil => intro y hy; cases hy
  | cons x l ih =>
    obtain ⟨_, _, _, a, b⟩ := vEntry_inv (h x (by simp))
    intro y hy
    rw [vals] at hy
    split at hy
    · rw [List.mem_cons] at hy
      rcases hy with rfl | hy
      · exact ⟨a, b⟩
      · exact ih (fun z hz => h z (by simp [hz])) y hy
    · exact ih (fun z hz => h z (by simp [hz])) y hy
end Go.Proofs.YtkjomkiajdjhpaaDoor

/-
  'append(own, xs...)', whatever xs is (nil too): one law, for plain regions and for those that draw their order. No condition but what stands at it.
-/
import Derived.Test.YtiagckbdofeecaaDoorMgA
import Derived.Maps.AppendAt
import Derived.Laws.AppendOwnNone
import Derived.Deep.RegionLaw
import Derived.Deep.AppendLies
namespace Go.Proofs.YtiagckbdofeecaaDoor
open Go.RowKit
/-- what the walk knows of a slice's element type -/
def ElemOf (P : Program) (t e : TypeId) (z : Value) (size bytes : Nat) : Prop :=
  P.underlying t = some (.slice e) ∧ z.cells.size = size ∧ 0 < size ∧ ∃ i, P.info? e = some i ∧ i.zero = some z ∧ i.size = size ∧ i.bytes = bytes
theorem elem_of {P : Program} {t e : TypeId} {z : Value} {size bytes : Nat} (ht : P.underlying t = some (.slice e)) (hi : (P.info? e).map (fun i => (i.zero, i.size, i.bytes)) = some (some z, size, bytes)) (hzs : z.cells.size = size) (hsz : 0 < size) :
    ElemOf P t e z size bytes := by
  obtain ⟨i, hi, hz, hs, hb⟩ := info_parts hi
  exact ⟨ht, hzs, hsz, i, hi, hz, hs, hb⟩
theorem own_shape {w : World} {base e size n : Nat} {v : Value} {xs : List Value} (h : w.ownsRow base e size v n xs) : ∃ A c, v = .slice A n c := by
  rcases h.2 with ⟨hv, h0⟩ | ⟨g, cap, cur, hv, _⟩
  · subst h0; exact ⟨none, 0, hv⟩
  · exact ⟨_, cap, hv⟩
section
variable {P : Program} {w : World}
theorem run_append_nilc (base : Nat) (t ty e : TypeId) (i : TypeInfo) (size : Nat) (ht : P.underlying t = some (.slice e)) (hi : P.info? e = some i)
    (v : Value) (n : Nat) (xs : List Value) (c : Nat) (hown : w.ownsRow base e size v n xs) :
    (Builtin.append_ #[t, t] ty #[v, .slice none 0 c]).run P w = .ok v w := by
  rcases hown.2 with ⟨rfl, rfl⟩ | ⟨g, cap, cur, rfl, _, _, hnc, _⟩
  · simp [Builtin.append_, run_underlying ht, sizeOf, typeInfo, hi, Builtin.lenOf, Builtin.firstCells]
  · simp [Builtin.append_, run_underlying ht, sizeOf, typeInfo, hi, Builtin.lenOf, Builtin.firstCells, hnc, storeCells]
theorem grown_self (w : World) (row : Option Nat) : w.grownBy w row := grown_refl w row
/-- the law -/
theorem wp_app {o : Oper} {a : Act} {K : Act → World → Prop} {Q : Exit → Act → World → Prop} (s x : Operand) (t : TypeId)
    (ho : o.op = .call { callee := .builtin .append, args := #[s, x], argTypes := #[t, t] })
    (base : Nat) (e : TypeId) (z : Value) (size bytes : Nat) (el : ElemOf P t e z size bytes)
    (v : Value) (n : Nat) (xs : List Value) (hs : a.eval s = v) (hown : w.ownsRow base e size v n xs)
    (A : Option Addr) (m c : Nat) (news : List Value) (hx : a.eval x = .slice A m c) (hr : Rds w size A m news) (h1 : ∀ u ∈ news, u.oneCell' = true)
    (h63 : n + m ≤ maxLen) (hbytes : (n + m) * bytes ≤ 140737488355328) (hbase : base ≤ w.heap.size)
    (h : ∀ A' c' w', w'.ownsRow base e size (.slice A' (n + m) c') (n + m) (xs ++ news) → w.grownBy w' v.ownBlock → K (a.put o.dst (.slice A' (n + m) c')) w') : o.wp P a w K Q := by
  obtain ⟨ht, hzs, hsz, i, hi, hz, hsize, hby⟩ := el
  match A with
  | none =>
    have hm : m = 0 := by
      rcases Nat.eq_zero_or_pos m with h0 | h0
      · exact h0
      · obtain ⟨b, off, e, _⟩ := hr.2 (Nat.mul_pos h0 hsz)
        cases e
    subst hm
    have hn : news = [] := List.eq_nil_of_length_eq_zero (by simpa using hr.1)
    subst hn
    have hrun := run_append_nilc (P := P) base t o.type e i size ht hi v n xs c hown
    unfold Oper.wp execOp
    simp only [ho, resolve, invoke, builtin, Sem.run_bind, Sem.run_pure, Result.andThen_ok, List.map_toArray, List.map_cons, List.map_nil, hs, hx, hrun]
    obtain ⟨A, c', rfl⟩ := own_shape hown
    exact h A c' w (by simpa using hown) (grown_refl _ _)
  | some ad =>
    refine wp_append_own w s x t ho base e i z size bytes ht hi hz hsize hby hzs hsz v n xs hs hown ad m c news hx hr.1 (fun j u hu => ?_) h1 h63 hbytes hbase fun v' w' h2 h3 _ => ?_
    · have hj : j < news.length := (List.getElem?_eq_some_iff.1 hu).1
      obtain ⟨b, off, e, _, hc⟩ := hr.2 (by rw [← hr.1]; omega)
      injection e with e
      subst e
      have hadd : (⟨b, off, none⟩ : Addr).add j = ⟨b, off + j, none⟩ := by unfold Addr.add; split <;> simp_all
      rw [hadd]
      exact hc j u hu
    · obtain ⟨A', c', rfl⟩ := own_shape h2
      exact h A' c' w' h2 h3
theorem wpl_app {ops : Array Oper} {rest : List Oper} {o : Oper} {a : Act} {Q : Exit → Act → World → Prop} (hgd : o.guard = none) (s x : Operand) (t : TypeId)
    (ho : o.op = .call { callee := .builtin .append, args := #[s, x], argTypes := #[t, t] })
    (base : Nat) (e : TypeId) (z : Value) (size bytes : Nat) (el : ElemOf P t e z size bytes)
    (v : Value) (n : Nat) (xs : List Value) (hs : a.eval s = v) (hown : w.ownsRow base e size v n xs)
    (A : Option Addr) (m c : Nat) (news : List Value) (hx : a.eval x = .slice A m c) (hr : Rds w size A m news) (h1 : ∀ u ∈ news, u.oneCell' = true)
    (h63 : n + m ≤ maxLen) (hbytes : (n + m) * bytes ≤ 140737488355328) (hbase : base ≤ w.heap.size)
    (h : ∀ A' c' w', w'.ownsRow base e size (.slice A' (n + m) c') (n + m) (xs ++ news) → w.grownBy w' v.ownBlock → wpList P ops Q rest (a.put o.dst (.slice A' (n + m) c')) w') : wpList P ops Q (o :: rest) a w :=
  wpList_plain hgd fun _ hK => wp_app s x t ho base e z size bytes el v n xs hs hown A m c news hx hr h1 h63 hbytes hbase fun A' c' w' h2 h3 => hK _ _ (h A' c' w' h2 h3)
theorem step_app {ops : Array Oper} {o : Oper} {a : Act} {K : Act → World → Prop} {Q : Exit → Act → World → Prop} {E : Prop} (hgd : o.guard = none) (s x : Operand) (t : TypeId)
    (ho : o.op = .call { callee := .builtin .append, args := #[s, x], argTypes := #[t, t] })
    (base : Nat) (e : TypeId) (z : Value) (size bytes : Nat) (el : ElemOf P t e z size bytes)
    (v : Value) (n : Nat) (xs : List Value) (hs : a.eval s = v) (hown : w.ownsRow base e size v n xs)
    (A : Option Addr) (m c : Nat) (news : List Value) (hx : a.eval x = .slice A m c) (hr : Rds w size A m news) (h1 : ∀ u ∈ news, u.oneCell' = true)
    (h63 : n + m ≤ maxLen) (hbytes : (n + m) * bytes ≤ 140737488355328) (hbase : base ≤ w.heap.size)
    (h : ∀ A' c' w', w'.ownsRow base e size (.slice A' (n + m) c') (n + m) (xs ++ news) → w.grownBy w' v.ownBlock → K (a.put o.dst (.slice A' (n + m) c')) w') :
    if Region.wanted o (yielded ops a.tmps) = true then Oper.wp P o a w K Q else E := by
  have hw : Region.wanted o (yielded ops a.tmps) = true := by simp [Region.wanted, hgd]
  rw [if_pos hw]
  exact wp_app s x t ho base e z size bytes el v n xs hs hown A m c news hx hr h1 h63 hbytes hbase h
/-- the world behind the append has grown from W, in which what is appended to was not there -/
theorem own_grown {W w w' : World} {base e size n : Nat} {v : Value} {xs : List Value} (hown : w.ownsRow base e size v n xs) (hW : Below W.heap.size W w) (hWb : W.heap.size ≤ base) (hg : w.grownBy w' v.ownBlock) : UpOf W w' := by
  refine up_of_grown hW hg fun k hk => ?_
  obtain ⟨A, c, rfl⟩ := own_shape hown
  exact Nat.le_trans hWb (hown.lt k hk).1
theorem wpl_appU {ops : Array Oper} {rest : List Oper} {o : Oper} {a : Act} {Q : Exit → Act → World → Prop} (hgd : o.guard = none) (s x : Operand) (t : TypeId)
    (ho : o.op = .call { callee := .builtin .append, args := #[s, x], argTypes := #[t, t] })
    (W : World) (base : Nat) (e : TypeId) (z : Value) (size bytes : Nat) (el : ElemOf P t e z size bytes)
    (v : Value) (n : Nat) (xs : List Value) (hs : a.eval s = v) (hown : w.ownsRow base e size v n xs)
    (A : Option Addr) (m c : Nat) (news : List Value) (hx : a.eval x = .slice A m c) (hr : Rds w size A m news) (h1 : ∀ u ∈ news, u.oneCell' = true)
    (h63 : n + m ≤ maxLen) (hbytes : (n + m) * bytes ≤ 140737488355328) (hbase : base ≤ w.heap.size) (hW : Below W.heap.size W w) (hWb : W.heap.size ≤ base)
    (h : ∀ A' c' (g : Up W), (up W g).ownsRow base e size (.slice A' (n + m) c') (n + m) (xs ++ news) → wpList P ops Q rest (a.put o.dst (.slice A' (n + m) c')) (up W g)) : wpList P ops Q (o :: rest) a w :=
  wpl_app hgd s x t ho base e z size bytes el v n xs hs hown A m c news hx hr h1 h63 hbytes hbase fun A' c' w' h2 h3 => by
    obtain ⟨g, rfl⟩ := own_grown hown hW hWb h3
    exact h A' c' g h2
theorem step_appU {ops : Array Oper} {o : Oper} {a : Act} {K : Act → World → Prop} {Q : Exit → Act → World → Prop} {E : Prop} (hgd : o.guard = none) (s x : Operand) (t : TypeId)
    (ho : o.op = .call { callee := .builtin .append, args := #[s, x], argTypes := #[t, t] })
    (W : World) (base : Nat) (e : TypeId) (z : Value) (size bytes : Nat) (el : ElemOf P t e z size bytes)
    (v : Value) (n : Nat) (xs : List Value) (hs : a.eval s = v) (hown : w.ownsRow base e size v n xs)
    (A : Option Addr) (m c : Nat) (news : List Value) (hx : a.eval x = .slice A m c) (hr : Rds w size A m news) (h1 : ∀ u ∈ news, u.oneCell' = true)
    (h63 : n + m ≤ maxLen) (hbytes : (n + m) * bytes ≤ 140737488355328) (hbase : base ≤ w.heap.size) (hW : Below W.heap.size W w) (hWb : W.heap.size ≤ base)
    (h : ∀ A' c' (g : Up W), (up W g).ownsRow base e size (.slice A' (n + m) c') (n + m) (xs ++ news) → K (a.put o.dst (.slice A' (n + m) c')) (up W g)) :
    if Region.wanted o (yielded ops a.tmps) = true then Oper.wp P o a w K Q else E :=
  step_app hgd s x t ho base e z size bytes el v n xs hs hown A m c news hx hr h1 h63 hbytes hbase fun A' c' w' h2 h3 => by
    obtain ⟨g, rfl⟩ := own_grown hown hW hWb h3
    exact h A' c' g h2
end
/-- the cells of a block that has just been laid -/
theorem rds_new (w : World) (cs : Array Value) (t : TypeId) (sz m : Nat) (h : cs.size = m * sz) : Rds (w.alloc (.cells cs t)) sz (some ⟨w.heap.size, 0, none⟩) m cs.toList :=
  ⟨by simpa using h, fun _ => ⟨_, _, rfl, by simp, fun j u hu => by rw [World.cell?_alloc_new]; simpa using hu⟩⟩
/-- a part of what is read -/
theorem Rds.cut {w : World} {sz : Nat} {A A' : Option Addr} {n i m : Nat} {xs : List Value} (h : Rds w sz A n xs) (hm : i + m ≤ n) (hA : ∀ b off, A = some ⟨b, off, none⟩ → 0 < m * sz → A' = some ⟨b, off + i * sz, none⟩) :
    Rds w sz A' m ((xs.drop (i * sz)).take (m * sz)) := by
  have hl : i * sz + m * sz ≤ n * sz := by rw [← Nat.add_mul]; exact Nat.mul_le_mul_right _ hm
  refine ⟨by rw [List.length_take, List.length_drop, h.1]; omega, fun h0 => ?_⟩
  obtain ⟨b, off, e, hb, hc⟩ := h.2 (by omega)
  refine ⟨b, off + i * sz, hA b off e h0, hb, fun j u hu => ?_⟩
  rw [List.getElem?_take] at hu
  split at hu
  · rw [List.getElem?_drop] at hu
    rw [Nat.add_assoc]
    exact hc _ u hu
  · cases hu
theorem Rds.pre {w : World} {sz : Nat} {A : Option Addr} {n m : Nat} {xs : List Value} (h : Rds w sz A n xs) (hm : m ≤ n) : Rds w sz A m (xs.take (m * sz)) := by
  have := h.cut (i := 0) (A' := A) (m := m) (by omega) (fun b off e _ => by rw [e]; simp)
  simpa using this
theorem Rds.suf {w : World} {sz : Nat} {b off : Nat} {n i : Nat} {xs : List Value} (h : Rds w sz (some ⟨b, off, none⟩) n xs) (hm : i ≤ n) : Rds w sz (some ⟨b, off + i * sz, none⟩) (n - i) (xs.drop (i * sz)) := by
  have := h.cut (i := i) (A' := some ⟨b, off + i * sz, none⟩) (m := n - i) (by omega) (fun b' off' e _ => by injection e with e; injection e with e1 e2; subst e1 e2; rfl)
  rwa [List.take_of_length_le (by rw [List.length_drop, h.1, ← Nat.sub_mul]; exact Nat.le_refl _)] at this
theorem Rds.nilled {w w' : World} {sz : Nat} {A A' : Option Addr} {n : Nat} {xs : List Value} (h : Rds w sz A n xs) (h0 : n = 0) : Rds w' sz A' n xs := by
  subst h0
  have := List.eq_nil_of_length_eq_zero (by simpa using h.1)
  subst this
  exact Rds.empty _ _ _
end Go.Proofs.YtiagckbdofeecaaDoor

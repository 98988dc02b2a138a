/-
  Lists of wares that a call has made: the empty one, and the append that says where the new slice lies. The bounds stand at each.
-/
import Derived.Test.YtiibpldfnnhhlaaGot
import Derived.Test.YtiibpldfnnhhlaaRaiseP
namespace Go.Proofs.Ytiibpldfnnhhlaa
open Go.RowKit
theorem WGot.lit {lo : Nat} {w : World} {A : Option Addr} {c : Nat} (h : w.ownsRow lo 74 2 (.slice A 0 c) 0 []) : WGot lo w A c [] [] :=
  ⟨rfl, h, fun i a => by simp at a, fun i a => by simp at a, fun i j a => by simp at a, fun i a => by simp at a⟩
theorem wpl_appAt {P : Program} {w : World} {ops : Array Oper} {rest : List Oper} {o : Oper} {a : Act} {Q : Exit → Act → World → Prop} (hgd : o.guard = none) (s x : Operand) (t : TypeId)
    (ho : o.op = .call { callee := .builtin .append, args := #[s, x], argTypes := #[t, t] })
    (base : Nat) (e : TypeId) (z : Value) (size bytes : Nat) (el : ElemOf P t e z size bytes)
    (v : Value) (n : Nat) (xs : List Value) (hs : a.eval s = v) (hown : w.ownsRow base e size v n xs)
    (b m c : Nat) (news : List Value) (hx : a.eval x = .slice (some ⟨b, 0, none⟩) m c) (hr : Rds w size (some ⟨b, 0, none⟩) m news) (h1 : ∀ u ∈ news, u.oneCell' = true)
    (hm : 0 < m) (h63 : n + m ≤ maxLen) (hbytes : (n + m) * bytes ≤ 140737488355328) (hbase : base ≤ w.heap.size)
    (h : ∀ g cap w', w'.ownsRow base e size (.slice (some ⟨g, 0, none⟩) (n + m) cap) (n + m) (xs ++ news) → w.grownBy w' v.ownBlock → (v.ownBlock = some g ∨ g = w.heap.size) → wpList P ops Q rest (a.put o.dst (.slice (some ⟨g, 0, none⟩) (n + m) cap)) w') : wpList P ops Q (o :: rest) a w := by
  obtain ⟨ht, hzs, hsz, i, hi, hz, hsize, hby⟩ := el
  refine wpList_append_lies w hgd s x t ho base e i z size bytes ht hi hz hsize hby hzs hsz v n xs hs hown ⟨b, 0, none⟩ m c news hx hr.1 (fun j u hu => ?_) h1 hm h63 hbytes hbase _ rfl fun g cap w' h2 h3 h4 _ => h g cap w' h2 h3 h4
  have hj : j < news.length := (List.getElem?_eq_some_iff.1 hu).1
  obtain ⟨b', off, e, _, hc⟩ := hr.2 (by rw [← hr.1]; omega)
  injection e with e
  injection e with e1 e2
  subst e1 e2
  have hadd : (⟨b, 0, none⟩ : Addr).add j = ⟨b, 0 + j, none⟩ := by unfold Addr.add; split <;> simp_all
  rw [hadd]
  exact hc j u hu
theorem el_ware : ElemOf Try.prog 25 74 (.agg #[.string ByteArray.empty, .slice none 0 0]) 2 40 := elem_of Try.underlying25 (by kernel_rfl) rfl (by decide)
theorem el_brk : ElemOf Try.prog 72 76 (.agg #[i64 0, i64 0]) 2 16 := elem_of Try.underlying72 (by kernel_rfl) rfl (by decide)
end Go.Proofs.Ytiibpldfnnhhlaa

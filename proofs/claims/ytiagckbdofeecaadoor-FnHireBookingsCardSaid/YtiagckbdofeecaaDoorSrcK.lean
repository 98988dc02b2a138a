/-
  What stays of a source and its bytes when the world grows elsewhere; 'one' of the source. The bounds stand at each.
-/
import Derived.Test.YtiagckbdofeecaaDoorSrc2
import Derived.Test.YtiagckbdofeecaaDoorGen
namespace Go.Proofs.YtiagckbdofeecaaDoor
open Go.RowKit
theorem gr_far {a w w' : World} {row row2 : Option Nat} (h : a.grownBy w row) (k : w.grownBy w' row2) (hr : ∀ j, row2 = some j → a.heap.size ≤ j) : a.grownBy w' row :=
  ⟨k.os.trans h.os, k.tape.trans h.tape, k.output.trans h.output, Nat.le_trans h.size k.size, fun i hi hne => (k.block i (Nat.lt_of_lt_of_le hi h.size) (fun e => by have := hr i e.symm; omega)).trans (h.block i hi hne)⟩
theorem SrcAt.kept {w w' : World} {b n c k : Nat} {A : Option Addr} {row : Option Nat} (h : SrcAt w b A n c k) (hg : w.grownBy w' row) (hne : some b ≠ row) : SrcAt w' b A n c k := by
  obtain ⟨s, h0, h1, hB⟩ := h
  exact ⟨s, h0, h1, hB.grown hg hne⟩
theorem Byt.kept {w w' : World} {b n : Nat} {A : Option Addr} {row : Option Nat} (h : Byt w b A n) (hg : w.grownBy w' row) (hr : ∀ j, row = some j → b ≤ j) : Byt w' b A n := by
  obtain ⟨zs, h1, h2, h3⟩ := h
  exact ⟨zs, h1, h2.grown hg (fun hn b' off hA he => by have := h3 (by omega) b' off hA; have := hr b' he.symm; omega), h3⟩
theorem SrcAt.bel {w V : World} {b n c k : Nat} {A : Option Addr} (h : SrcAt w b A n c k) (hb : Below w.heap.size w V) : SrcAt V b A n c k := h.kept (grown_up ⟨V, hb⟩ none) (by simp)
theorem Byt.bel {w V : World} {b n : Nat} {A : Option Addr} (h : Byt w b A n) (hb : Below w.heap.size w V) : Byt V b A n := h.kept (grown_up ⟨V, hb⟩ none) (fun j hj => by cases hj)
theorem exit_gen {Q : Exit → Act → World → Prop} {x : Exit} {a : Act} {w : World} {R : World → Prop} (st : R w) (h : ∀ W, R W → Q x a W) : Q x a w := h w st
theorem rds_newA {w : World} {cs : Array Value} {t : TypeId} {p : Nat} (sz m : Nat) (hp : w.heap.size = p) (h : cs.size = m * sz) : Rds (w.alloc (.cells cs t)) sz (some ⟨p, 0, none⟩) m cs.toList := by
  subst hp; exact rds_new w cs t sz m h
theorem own_keepK {V V' : World} {base e size n : Nat} {v : Value} {xs : List Value} {row : Option Nat} (h : V.ownsRow base e size v n xs) (hg : V.grownBy V' row) (hne : ∀ x, row = some x → v.ownBlock ≠ some x) : V'.ownsRow base e size v n xs :=
  h.kept hg (by
    cases hv : v.ownBlock with
    | none => exact .inl rfl
    | some q => exact .inr (fun e => hne q e.symm hv))
set_option maxRecDepth 10000 in
theorem one_any (b : Nat) (A : Option Addr) (n c k : Nat) (m : Int) (w : World) (h : SrcAt w b A n c k) (hb : Byt w b A n) (hk : k ≤ 900000) (hn : n ≤ 1000000) (hm : m ≤ 1000000) :
    Calls Tryd.prog 53 #[.pointer (some ⟨b, 0, none⟩), .int .i64 m] w fun e w' => ∃ (t : Bool) (k' : Nat), e = .returned (.bool t) ∧ k' ≤ k + 2 ∧ SrcAt w' b A n c k' ∧ w.grownBy w' (some b) := by
  go_enter Tryd.func53, Tryd.ntmps53
  go_wp2_with fail
  refine (pick_any b A n c k m w h hb hk hn hm).mono ?_
  rintro e w1 ⟨x, k', rfl, x0, x1, hk', hs, hg⟩
  go_wp2_with fail
  go_ret
  exact ⟨_, k', rfl, hk', hs, hg⟩
end Go.Proofs.YtiagckbdofeecaaDoor

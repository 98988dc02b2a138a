/-
  Slices that are read ('Rds'), and rows of memory that a call owns: plain facts on worlds, no program. No condition.
-/
import Derived.Test.YtiagckbdofeecaaUp
namespace Go.Proofs.Ytiagckbdofeecaa
open Go.RowKit

/-- a slice's pointer A with n elements of sz cells each: its cells read as xs -/
def Rds (w : World) (sz : Nat) (A : Option Addr) (n : Nat) (xs : List Value) : Prop :=
  xs.length = n * sz ∧ (0 < n * sz → ∃ b off, A = some ⟨b, off, none⟩ ∧ b < w.heap.size ∧ ∀ j u, xs[j]? = some u → w.cell? ⟨b, off + j, none⟩ = some u)

section
variable {w w' : World} {sz : Nat} {A : Option Addr} {n : Nat} {xs : List Value}
theorem Rds.keep (h : Rds w sz A n xs) (hs : w.heap.size ≤ w'.heap.size) (hk : 0 < n * sz → ∀ b off, A = some ⟨b, off, none⟩ → b < w.heap.size → w'.heap[b]? = w.heap[b]?) : Rds w' sz A n xs :=
  ⟨h.1, fun hn => by
    obtain ⟨b, off, e, hb, hc⟩ := h.2 hn
    exact ⟨b, off, e, Nat.lt_of_lt_of_le hb hs, fun j u hu => (World.cell?_of_block (w := w) (hk hn b off e hb)).trans (hc j u hu)⟩⟩
theorem Rds.up (h : Rds w sz A n xs) (g : Up w) : Rds (up w g) sz A n xs :=
  h.keep g.below.size (fun _ b _ _ hb => g.below.block b hb)
theorem Rds.tr {g : Up w} (h : Rds (Go.Proofs.Ytiagckbdofeecaa.up w g) sz A n xs) (k : Up (Go.Proofs.Ytiagckbdofeecaa.up w g)) : Rds (Go.Proofs.Ytiagckbdofeecaa.up w (g.tr k)) sz A n xs := Rds.up h k
theorem Rds.alloc (h : Rds w sz A n xs) (o : Obj) : Rds (w.alloc o) sz A n xs :=
  h.keep (by simp) (fun _ b _ _ hb => Below.heap_alloc w o b hb)
theorem Rds.drew (h : Rds w sz A n xs) : Rds w.drew sz A n xs := h
theorem Rds.al {g : Up w} (h : Rds (Go.Proofs.Ytiagckbdofeecaa.up w g) sz A n xs) (o : Obj) : Rds (Go.Proofs.Ytiagckbdofeecaa.up w (g.al o)) sz A n xs := Rds.alloc h o
theorem Rds.dr {g : Up w} (h : Rds (Go.Proofs.Ytiagckbdofeecaa.up w g) sz A n xs) : Rds (Go.Proofs.Ytiagckbdofeecaa.up w g.dr) sz A n xs := h
theorem Rds.below (h : Rds w sz A n xs) (hb : Below w.heap.size w w') : Rds w' sz A n xs := h.keep hb.size (fun _ b _ _ h => hb.block b h)
theorem Rds.grown {row : Option Nat} (h : Rds w sz A n xs) (hg : w.grownBy w' row) (hne : 0 < n * sz → ∀ b off, A = some ⟨b, off, none⟩ → some b ≠ row) : Rds w' sz A n xs :=
  h.keep hg.size (fun hn b off e hb => hg.block b hb (hne hn b off e))
theorem Rds.empty (w : World) (sz : Nat) (A : Option Addr) : Rds w sz A 0 [] := ⟨by simp, fun h => by omega⟩
/-- element k's cells, where there is one -/
theorem Rds.at (h : Rds w sz A n xs) (hn : 0 < n * sz) : ∃ b off, A = some ⟨b, off, none⟩ ∧ b < w.heap.size ∧ ∀ j u, xs[j]? = some u → w.cell? ⟨b, off + j, none⟩ = some u := h.2 hn
theorem Rds.of_own {base : Nat} {e : TypeId} {c : Nat} (h : w.ownsRow base e sz (.slice A n c) n xs) : Rds w sz A n xs := by
  refine ⟨h.1, fun hn => ?_⟩
  rcases h.2 with ⟨_, h0⟩ | ⟨g, cap, cur, hv, _, hg, _⟩
  · subst h0; omega
  · have hA : A = some ⟨g, 0, none⟩ := by injection hv
    subst hA
    refine ⟨g, 0, rfl, (Array.getElem?_eq_some_iff.1 hg).1, fun j u hu => ?_⟩
    have := h.cells (g := g) rfl j u hu
    have hadd : (⟨g, 0, none⟩ : Addr).add j = ⟨g, 0 + j, none⟩ := by unfold Addr.add; split <;> simp_all
    rwa [hadd] at this
/-- the block of a slice that is owned lies from base on -/
theorem own_block {base : Nat} {e : TypeId} {c : Nat} (h : w.ownsRow base e sz (.slice A n c) n xs) {b off : Nat} (hA : A = some ⟨b, off, none⟩) : base ≤ b ∧ b < w.heap.size ∧ off = 0 := by
  subst hA
  rcases h.2 with ⟨hv, _⟩ | ⟨g, cap, cur, hv, hb, hg, _⟩
  · simp at hv
  · simp only [Value.slice.injEq, Option.some.injEq, Addr.mk.injEq, and_true] at hv
    obtain ⟨⟨rfl, rfl⟩, _⟩ := hv
    exact ⟨hb, (Array.getElem?_eq_some_iff.1 hg).1, rfl⟩
end
/-- rows that a call owns, over worlds that have grown -/
theorem own_up {w : World} {base : Nat} {e : TypeId} {size : Nat} {v : Value} {n : Nat} {xs : List Value} (h : w.ownsRow base e size v n xs) (g : Up w) : (up w g).ownsRow base e size v n xs :=
  h.kept (row := none) ⟨g.below.os, g.below.tape, g.below.output, g.below.size, fun k hk _ => g.below.block k hk⟩ (by cases hv : v.ownBlock <;> simp)
theorem grown_up {w : World} (g : Up w) (row : Option Nat) : w.grownBy (up w g) row := ⟨g.below.os, g.below.tape, g.below.output, g.below.size, fun k hk _ => g.below.block k hk⟩
theorem up_of_grown {W w w' : World} {row : Option Nat} (h : Below W.heap.size W w) (hg : w.grownBy w' row) (hr : ∀ k, row = some k → W.heap.size ≤ k) : UpOf W w' := .of (h.grown hg h.size hr)
theorem grown_trans {a b c : World} {row : Option Nat} (h : a.grownBy b row) (k : b.grownBy c row) : a.grownBy c row :=
  ⟨k.os.trans h.os, k.tape.trans h.tape, k.output.trans h.output, Nat.le_trans h.size k.size, fun i hi hne => (k.block i (Nat.lt_of_lt_of_le hi h.size) hne).trans (h.block i hi hne)⟩
theorem grown_refl (w : World) (row : Option Nat) : w.grownBy w row := ⟨rfl, rfl, rfl, Nat.le_refl _, fun _ _ _ => rfl⟩
theorem own_mono {w : World} {base base' : Nat} {e : TypeId} {size : Nat} {v : Value} {n : Nat} {xs : List Value} (h : w.ownsRow base e size v n xs) (hb : base' ≤ base) : w.ownsRow base' e size v n xs := by
  refine ⟨h.1, ?_⟩
  rcases h.2 with h2 | ⟨g, cap, cur, hv, hg, r⟩
  · exact .inl h2
  · exact .inr ⟨g, cap, cur, hv, Nat.le_trans hb hg, r⟩
/-- two rows of which one was made when the other was there lie apart -/
theorem own_apart {w w1 : World} {base e e1 size size1 n n1 c c1 B : Nat} {A A1 : Option Addr} {xs xs1 : List Value} (h : w.ownsRow base e size (.slice A n c) n xs) (h1 : w1.ownsRow B e1 size1 (.slice A1 n1 c1) n1 xs1) (hB : w.heap.size ≤ B) :
    ∀ b off, A = some ⟨b, off, none⟩ → some b ≠ (Value.slice A1 n1 c1).ownBlock := by
  intro b off hA he
  obtain ⟨_, hb, _⟩ := own_block h hA
  have := (h1.lt b he.symm).1
  omega
theorem rds_apart {w w1 : World} {B e1 size size1 n n1 c1 : Nat} {A A1 : Option Addr} {xs xs1 : List Value} (h : Rds w size A n xs) (h1 : w1.ownsRow B e1 size1 (.slice A1 n1 c1) n1 xs1) (hB : w.heap.size ≤ B) (hn : 0 < n * size) :
    ∀ b off, A = some ⟨b, off, none⟩ → some b ≠ (Value.slice A1 n1 c1).ownBlock := by
  intro b off hA he
  obtain ⟨b', off', hA', hb, _⟩ := h.at hn
  rw [hA] at hA'
  injection hA' with hA'
  injection hA' with hA' _
  have := (h1.lt b he.symm).1
  omega
theorem up_of_mark {W w w' : World} {base e size n c : Nat} {A : Option Addr} {xs : List Value} (hW : Below W.heap.size W w) (h : w.ownsRow base e size (.slice A n c) n xs) (hb : W.heap.size ≤ base) (hg : w.grownBy w' (Value.slice A n c).ownBlock) : UpOf W w' :=
  up_of_grown hW hg fun k hk => Nat.le_trans hb (h.lt k hk).1
/-- block b is just these cells -/
def Blk (w : World) (b : Nat) (t : TypeId) (cs : Array Value) : Prop := w.heap[b]? = some (.cells cs t (0, 0))
section
variable {w w' : World} {b : Nat} {t : TypeId} {cs : Array Value}
theorem Blk.lt (h : Blk w b t cs) : b < w.heap.size := (Array.getElem?_eq_some_iff.1 h).1
theorem Blk.cell (h : Blk w b t cs) (i : Nat) : w.cell? ⟨b, i, none⟩ = cs[i]? := by unfold Blk at h; simp [World.cell?, h]
theorem Blk.free (h : Blk w b t cs) (i : Nat) : w.frozen? ⟨b, i, none⟩ = false := by unfold Blk at h; simp [World.frozen?, h]
theorem Blk.up (h : Blk w b t cs) (g : Up w) : Blk (up w g) b t cs := (g.below.block b h.lt).trans h
theorem Blk.tr {g : Up w} (h : Blk (Go.Proofs.Ytiagckbdofeecaa.up w g) b t cs) (k : Up (Go.Proofs.Ytiagckbdofeecaa.up w g)) : Blk (Go.Proofs.Ytiagckbdofeecaa.up w (g.tr k)) b t cs := Blk.up h k
theorem Blk.al {g : Up w} (h : Blk (Go.Proofs.Ytiagckbdofeecaa.up w g) b t cs) (o : Obj) : Blk (Go.Proofs.Ytiagckbdofeecaa.up w (g.al o)) b t cs := (Below.heap_alloc _ o b h.lt).trans h
theorem Blk.dr {g : Up w} (h : Blk (Go.Proofs.Ytiagckbdofeecaa.up w g) b t cs) : Blk (Go.Proofs.Ytiagckbdofeecaa.up w g.dr) b t cs := h
theorem Blk.new_al {g : Up w} (t : TypeId) (cs : Array Value) : Blk (Go.Proofs.Ytiagckbdofeecaa.up w (g.al (.cells cs t))) (Go.Proofs.Ytiagckbdofeecaa.up w g).heap.size t cs := heap_alloc_new (Go.Proofs.Ytiagckbdofeecaa.up w g) _
theorem Blk.drew (h : Blk w b t cs) : Blk w.drew b t cs := h
theorem Blk.alloc (h : Blk w b t cs) (o : Obj) : Blk (w.alloc o) b t cs := (Below.heap_alloc w o b h.lt).trans h
theorem Blk.new (w : World) (t : TypeId) (cs : Array Value) : Blk (w.alloc (.cells cs t)) w.heap.size t cs := heap_alloc_new w _
theorem Blk.put (h : Blk w b t cs) (i : Nat) (u : Value) : Blk (w.setCell ⟨b, i, none⟩ u) b t (cs.setIfInBounds i u) := by
  unfold Blk at h ⊢
  simp [World.setCell, Array.getElem?_modify, h]
theorem Blk.far (h : Blk w b t cs) {p : Addr} (hp : b ≠ p.block) (u : Value) : Blk (w.setCell p u) b t cs := (Below.heap_setCell w p u b hp).trans h
theorem Blk.grown {row : Option Nat} (h : Blk w b t cs) (hg : w.grownBy w' row) (hne : some b ≠ row) : Blk w' b t cs := (hg.block b h.lt hne).trans h
theorem grown_put (w : World) (b i : Nat) (u : Value) : w.grownBy (w.setCell ⟨b, i, none⟩ u) (some b) :=
  ⟨rfl, rfl, rfl, by simp [World.setCell], fun k _ hne => Below.heap_setCell w _ u k (fun e => hne (by rw [e]))⟩
end
/-! only block b, and what is new, has changed: step by step -/
section
variable {a w w' : World} {row : Option Nat}
theorem gr_alloc (h : a.grownBy w row) (o : Obj) : a.grownBy (w.alloc o) row := grown_trans h (World.grownBy_alloc w o row)
theorem gr_up (h : a.grownBy w row) (g : Up w) : a.grownBy (up w g) row := grown_trans h (grown_up g row)
theorem gr_new (h : a.grownBy w row) {p : Addr} (hp : a.heap.size ≤ p.block) (u : Value) : a.grownBy (w.setCell p u) row :=
  ⟨h.os, h.tape, h.output, by simpa [World.setCell] using h.size, fun k hk hne => (Below.heap_setCell w p u k (by omega)).trans (h.block k hk hne)⟩
theorem gr_in {b : Nat} (h : a.grownBy w (some b)) (i : Nat) (u : Value) : a.grownBy (w.setCell ⟨b, i, none⟩ u) (some b) := grown_trans h (grown_put w b i u)
theorem gr_by {b : Nat} (h : a.grownBy w (some b)) (k : w.grownBy w' (some b)) : a.grownBy w' (some b) := grown_trans h k
end
/-- bytes -> a text, of one byte that has just been laid -/
theorem conv_one {P : Program} (W : World) (src e dst : TypeId) (hs : P.underlying src = some (.slice e)) (he : P.underlying e = some (.int .u8)) (hd : P.underlying dst = some .string) (x : Int) :
    (convert src dst (.slice (some ⟨W.heap.size, 0, none⟩) 1 1)).run P (W.alloc (.cells #[.int .u8 x] e)) = .ok (.string ⟨#[UInt8.ofNat x.toNat]⟩) (W.alloc (.cells #[.int .u8 x] e)) :=
  run_convert_bytes_arg _ src e hs he _ 0 1 1 [x] rfl (fun i hi => by
    obtain rfl : i = 0 := by omega
    simp) dst hd
theorem le_up_self {w : World} (g : Up w) : w.heap.size ≤ (up w g).heap.size := le_up _ (Nat.le_refl _)
theorem own_apart' {w w1 : World} {base e e1 size size1 n n1 c c1 B : Nat} {A A1 : Option Addr} {xs xs1 : List Value} (h : w.ownsRow base e size (.slice A n c) n xs) (h1 : w1.ownsRow B e1 size1 (.slice A1 n1 c1) n1 xs1) (hB : w.heap.size ≤ B) :
    ∀ b off, A1 = some ⟨b, off, none⟩ → some b ≠ (Value.slice A n c).ownBlock := by
  intro b off hA he
  obtain ⟨hb, _, _⟩ := own_block h1 hA
  have := (h.lt b he.symm).2
  omega
theorem own_far {w w1 : World} {base e e1 size size1 n n1 c c1 B : Nat} {A A1 : Option Addr} {xs xs1 : List Value} (h : w.ownsRow base e size (.slice A n c) n xs) (h1 : w1.ownsRow B e1 size1 (.slice A1 n1 c1) n1 xs1) (hB : w.heap.size ≤ B) :
    (Value.slice A1 n1 c1).ownBlock = none ∨ (Value.slice A1 n1 c1).ownBlock ≠ (Value.slice A n c).ownBlock := by
  cases hv : (Value.slice A1 n1 c1).ownBlock with
  | none => exact .inl rfl
  | some k =>
    refine .inr fun he => ?_
    have h2 := (h1.lt k hv).1
    have h3 := (h.lt k he.symm).2
    omega
theorem own_below {w w' : World} {base : Nat} {e : TypeId} {size : Nat} {v : Value} {n : Nat} {xs : List Value} (h : w.ownsRow base e size v n xs) (hb : Below w.heap.size w w') : w'.ownsRow base e size v n xs := own_up h ⟨w', hb⟩
end Go.Proofs.Ytiagckbdofeecaa

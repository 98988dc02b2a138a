/-
  DeskCommand of the program: what the commands that change the state give. The bounds stand at each.
-/
import Derived.Test.YtbianlkenallaaaGreatDoorDc4
import Derived.Test.YtbianlkenallaaaGreatDoorMgD
import Derived.Test.YtbianlkenallaaaGreatDoorDk6
import Derived.Test.YtbianlkenallaaaGreatDoorMgE
set_option linter.all false
namespace Go.Proofs.YtbianlkenallaaaGreatDoor
open Go.RowKit
/-- a new state and lines: rows of the call's own -/
def NP (base : Nat) (D : DeskD) (l : List ByteArray) (V : World) (r : Ending) (w' : World) : Prop :=
  ∃ A B c e X n, r = .returned (.tuple #[dkv D A B c e, .slice X l.length n]) ∧ DOwn base w' D A B c e ∧ w'.ownsRow base 9 1 (.slice X l.length n) l.length (strs l) ∧ UpOf V w'
theorem np_md {base : Nat} {D : DeskD} {l : List ByteArray} {A B : Option Addr} {c e : Nat} {V : World} {r : Ending} {w' : World} (h : mdPost D l A B c e V r w') (ho : DOwn base V D A B c e) (hb : base ≤ V.heap.size) : NP base D l V r w' := by
  obtain ⟨X, n, rfl, ox, g, rfl⟩ := h
  exact ⟨A, B, c, e, X, n, rfl, ⟨own_below ho.1 (up_below V g), own_below ho.2 (up_below V g)⟩, own_mono ox hb, g, rfl⟩
theorem np_md2 {base : Nat} {D : DeskD} {l : List ByteArray} {A B : Option Addr} {c e : Nat} {V : World} {r : Ending} {w' : World} (h : mdPost D l A B c e V r w') (ho : DOwn base w' D A B c e) (hb : base ≤ V.heap.size) : NP base D l V r w' := by
  obtain ⟨X, n, rfl, ox, g, rfl⟩ := h
  exact ⟨A, B, c, e, X, n, rfl, ho, own_mono ox hb, g, rfl⟩
theorem numsOf_len {ws : List ByteArray} {l : List Int} (h : numsOf ws = some l) : l.length = ws.length := by
  rw [numsOf] at h
  split at h
  · injection h with h; rw [← h, List.length_map]
  · cases h
theorem wd_drop (W : List ByteArray) (k i : Nat) : wd (W.drop k) i = wd W (k + i) := by
  rw [wd, wd, List.getD_eq_getElem?_getD, List.getD_eq_getElem?_getD, List.getElem?_drop]
theorem bn_np (two : List ByteArray → ByteArray × Int) (base : Nat) (d : DeskD) (A B : Option Addr) (c e : Nat) (W : List ByteArray) (WA : Option Addr) (wc : Nat) (V : World) (h : Rds V 1 WA (W.drop 1).length (strs (W.drop 1))) (hn : W.length ≤ 2000001) (hf : ∀ i, i < W.length → (wd W i).size ≤ 1048576) (ht : Tab V)
    (hfit : fitK (kindOf (wd W 0)) W.length = true) (hk : kindOf (wd W 0) = 1 ∨ kindOf (wd W 0) = 6 ∨ kindOf (wd W 0) = 12 ∨ kindOf (wd W 0) = 13) (hS : DSee V d A B) (hz : DkSz d e) (hv : vDesk d = true) (ho : DOwn base V d A B c e) (hb : base ≤ V.heap.size) :
    Calls Tryz.prog 30 #[dkv d A B c e, .string (wd W 0), .slice WA (W.drop 1).length wc] V fun r w' => NP base (doK two d W (kindOf (wd W 0))).1 (doK two d W (kindOf (wd W 0))).2 V r w' := by
  have hn' : (W.drop 1).length ≤ 10000000 := by rw [List.length_drop]; omega
  have hf' : ∀ i, i < (W.drop 1).length → (wd (W.drop 1) i).size ≤ 100000000 := fun i hi => by
    rw [List.length_drop] at hi
    rw [wd_drop]
    have := hf (1 + i) (by omega)
    omega
  cases hno : numsOf (W.drop 1) with
  | none =>
    refine (bnNo_any d A B c e (W.drop 1) WA wc (wd W 0) V h hn' hf' ht hno).mono ?_
    intro r w' hr
    have e0 : doK two d W (kindOf (wd W 0)) = (d, [errL 7]) := by rcases hk with h | h | h | h <;> rw [h] <;> simp only [doK, hno]
    rw [e0]
    exact np_md hr ho hb
  | some l =>
    have hl := numsOf_len hno
    rw [List.length_drop] at hl
    rcases hk with hk | hk | hk | hk <;> rw [hk] at hfit
    · have h6 : W.length = 6 := by simpa [fitK] using hfit
      have h5 : l.length = 5 := by omega
      refine (bnBask_any d A B c e (W.drop 1) WA wc (wd W 0) l V h hn' hf' ht hno h5 hk hS hz hv).mono ?_
      intro r w' hr
      rw [hk]
      simp only [doK, hno]
      rw [show bskOf l = (⟨num l 0, num l 1, num l 2, num l 3, num l 4⟩ : Bsk) from rfl] at hr
      split at hr
      · rename_i hb9
        rw [if_pos hb9]
        exact np_md hr ho hb
      · rename_i hb9
        rw [if_neg hb9]
        exact np_md hr ho hb
    · refine (bnFast_any d A B c e (W.drop 1) WA wc (wd W 0) l V h hn' hf' ht hno (by omega) hk).mono ?_
      intro r w' hr
      rw [hk]
      simp only [doK, hno]
      exact np_md hr ho hb
    · refine (bnStop_any d A B c e (W.drop 1) WA wc (wd W 0) l V h hn' hf' ht hno (by omega) hk hS hz hv).mono ?_
      intro r w' hr
      rw [hk]
      simp only [doK, hno]
      unfold stPost at hr
      split at hr
      · rename_i hb9
        rw [if_pos hb9]
        obtain ⟨N, nc, on, hr⟩ := hr
        have hr0 := hr
        obtain ⟨X, n, _, _, g, e2⟩ := hr0
        exact np_md2 hr ⟨own_mono on hb, by rw [e2]; exact own_below ho.2 (up_below V g)⟩ hb
      · rename_i hb9
        rw [if_neg hb9]
        exact np_md hr ho hb
    · have h3 : W.length = 3 := by simpa [fitK] using hfit
      refine (bnWait_any d A B c e (W.drop 1) WA wc (wd W 0) l V h hn' hf' ht hno (by omega) hk).mono ?_
      intro r w' hr
      rw [hk]
      simp only [doK, hno]
      exact np_md hr ho hb
theorem bt_np {two : List ByteArray → ByteArray × Int} (h2 : TwoOk two) (base : Nat) (d : DeskD) (A B : Option Addr) (c e : Nat) (W : List ByteArray) (V : World) (hts : (restW W 1).size ≤ 1048576) (ht : Tab V)
    (hk : kindOf (wd W 0) = 2 ∨ kindOf (wd W 0) = 3 ∨ kindOf (wd W 0) = 10) (hS : DSee V d A B) (hz : DkSz d e) (hz1 : d.drills.length ≤ 10000000) (ho : DOwn base V d A B c e) (hb : base ≤ V.heap.size) :
    Calls Tryz.prog 31 #[dkv d A B c e, .string (wd W 0), .string (restW W 1)] V fun r w' => NP base (doK two d W (kindOf (wd W 0))).1 (doK two d W (kindOf (wd W 0))).2 V r w' := by
  rcases hk with hk | hk | hk
  · refine (btCode_any h2 d A B c e (wd W 0) (restW W 1) V hts hk).mono ?_
    intro r w' hr
    rw [hk]
    exact np_md hr ho hb
  · refine (btDrill_any d A B c e (wd W 0) (restW W 1) V hts hk hS hz hz1 ht).mono ?_
    intro r w' hr
    rw [hk]
    simp only [doK]
    unfold btDrPost at hr
    split at hr
    · rename_i h9
      rw [h9]
      exact np_md hr ho hb
    · rename_i x h9
      rw [h9]
      simp only
      split at hr
      · rename_i hb9
        rw [if_pos hb9]
        obtain ⟨B', e', on, hr⟩ := hr
        have hr0 := hr
        obtain ⟨X, n, _, _, g, e2⟩ := hr0
        exact np_md2 hr ⟨by rw [e2]; exact own_below ho.1 (up_below V g), own_mono on hb⟩ hb
      · rename_i hb9
        rw [if_neg hb9]
        exact np_md hr ho hb
  · refine (btRow_any d A B c e (wd W 0) (restW W 1) V hts hk hS hz).mono ?_
    intro r w' hr
    rw [hk]
    exact np_md hr ho hb
theorem en_np (two : List ByteArray → ByteArray × Int) (base : Nat) (d : DeskD) (A B : Option Addr) (c e : Nat) (W : List ByteArray) (V : World) (h1 : (wd W 1).size ≤ 1048576) (h2 : (wd W 2).size ≤ 1048576) (h3 : (wd W 3).size ≤ 1048576) (ht : Tab V) (hz : DkSz d e) (ho : DOwn base V d A B c e) (hb : base ≤ V.heap.size) :
    Calls Tryz.prog 38 #[dkv d A B c e, .string (wd W 1), .string (wd W 2), .string (wd W 3)] V fun r w' => NP base (doK two d W 5).1 (doK two d W 5).2 V r w' := by
  refine (enter_any d A B c e (wd W 1) (wd W 2) (wd W 3) V h1 h2 h3 hz ht).mono ?_
  intro r w' hr
  simp only [doK]
  unfold entPost at hr
  split at hr
  · rename_i h9
    rw [h9]
    exact np_md hr ho hb
  · rename_i l h9
    rw [h9]
    simp only
    split at hr
    · rename_i hb9
      rw [if_pos hb9]
      exact np_md hr ho hb
    · rename_i hb9
      rw [if_neg hb9]
      exact np_md hr ho hb
end Go.Proofs.YtbianlkenallaaaGreatDoor

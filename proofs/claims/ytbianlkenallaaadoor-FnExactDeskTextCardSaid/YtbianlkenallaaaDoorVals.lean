/-
  EntriesOf, ValuesOf and SumOfWhat, of the program and of the reference. The bounds stand at each; the program's lean on the laid table.
-/
import Derived.Test.YtbianlkenallaaaDoorLogC
import Derived.Test.YtbianlkenallaaaDoorMgA
namespace Go.Proofs.YtbianlkenallaaaDoor
open Go.RowKit
theorem el_int : ElemOf Tryd.prog 24 2 (i64 0) 1 8 := elem_of Tryd.underlying24 (by kernel_rfl) rfl (by omega)
theorem ics_app (l : List Int) (x : Int) : ics (l ++ [x]) = ics l ++ [i64 x] := by simp [ics]
theorem ents_take {l : List Entry} {k : Nat} (h : k < l.length) : l.take (k + 1) = l.take k ++ [l[k]] := by
  rw [List.take_add_one, List.getElem?_eq_getElem h]; rfl
def enR (s : ByteArray) : List Entry × Int := if codeL s = 0 then (entsL s, 0) else ([], codeL s)
theorem enR_no {s : ByteArray} (h : ¬ codeL s = 0) : enR s = ([], codeL s) := by rw [enR, if_neg h]
theorem enR_ok {s : ByteArray} (h : codeL s = 0) : enR s = (entsL s, 0) := by rw [enR, if_pos h]
theorem LI.list {base rb sz : Nat} {w : World} {l : List Entry} {st : Int} (h : LI base w rb l st sz) : ∃ A c, w.cell? ⟨rb, 0, none⟩ = some (.slice A l.length c) ∧ rb < w.heap.size ∧ w.ownsRow base 102 3 (.slice A l.length c) l.length (encs l) := by
  obtain ⟨A, c, h1, h2, h3, h4⟩ := h
  exact ⟨A, c, h1.cell 0, h1.lt, h3⟩
theorem LS.list {base rb sz : Nat} {w : World} {s : ByteArray} {l : List Entry} {st : Int} (h : LS base w rb s l st sz) : ∃ A c, w.cell? ⟨rb, 3, none⟩ = some (.slice A l.length c) ∧ rb < w.heap.size ∧ w.ownsRow base 102 3 (.slice A l.length c) l.length (encs l) := by
  obtain ⟨A, c, h1, h2, h3, h4⟩ := h
  exact ⟨A, c, h1.cell 3, h1.lt, h3⟩
theorem code_ne {s : ByteArray} (h : ¬ codeL s = 0) : ((codeL s) != 0) = true := by rw [bne_iff_ne]; exact h
set_option maxRecDepth 10000 in
theorem entriesOfI_any (s : ByteArray) (w : World) (hs : s.size ≤ 1048576) (ht : Tab w) :
    Calls Tryd.prog 21 #[.string s] w fun e w' => ∃ A' c', e = .returned (.tuple #[.slice A' (enR s).1.length c', i64 (enR s).2]) ∧ w'.ownsRow w.heap.size 102 3 (.slice A' (enR s).1.length c') (enR s).1.length (encs (enR s).1) ∧ UpOf w w' := by
  have HT := Lib.hid ht
  clear ht
  by_cases h1 : codeL s = 0
  · have hf := Lib.hid (enR_ok h1)
    go_enter Tryd.func21, Tryd.ntmps21
    go_wp2_with fail
    refine (wholeI_ok s _ (HT.out.below (by repeat (first | exact Below.refl _ _ | refine bl_tr ?_ _ | refine bl_al ?_ _ | refine bl_dr ?_ | refine bl_up ?_ _ | refine Below.drew ?_ | refine bl_alloc ?_ _ | refine Below.setCell ?_ (by first | (simp; done) | (simp; omega)) _))) h1).mono ?_
    rintro e w' ⟨rb, rfl, hl, g, rfl⟩
    obtain ⟨A, c, hc, hrb, hown⟩ := hl.list
    have HO := Lib.hid hown
    clear hl hown
    go_wp2_with (first | ((with_reducible refine wp_region_up (by kernel_rfl) (by kernel_rfl) ?_); (repeat (go_big_quiet_step (fail))); refine wpQuiet_nil ?_; intro _ hw'; obtain ⟨nq, hw''⟩ := hw'; subst hw''))
    go_ret2
    rw [hf.out]
    exact ⟨A, c, rfl, own_below HO.out (by repeat (first | exact Below.refl _ _ | refine bl_tr ?_ _ | refine bl_al ?_ _ | refine bl_dr ?_ | refine bl_up ?_ _ | refine Below.drew ?_ | refine bl_alloc ?_ _ | refine Below.setCell ?_ (by first | (simp; done) | (simp; omega)) _)), UpOf.of (by repeat (first | exact Below.refl _ _ | refine bl_tr ?_ _ | refine bl_al ?_ _ | refine bl_dr ?_ | refine bl_up ?_ _ | refine Below.drew ?_ | refine bl_alloc ?_ _ | refine Below.setCell ?_ (by first | (simp; done) | (simp; omega)) _))⟩
  · have hf := Lib.hid (enR_no h1)
    have z := code_ne h1
    go_enter Tryd.func21, Tryd.ntmps21
    go_wp2_with (first | (go_at_call 35; refine (wholeI_no s _ hs (HT.out.below (by repeat (first | exact Below.refl _ _ | refine bl_tr ?_ _ | refine bl_al ?_ _ | refine bl_dr ?_ | refine bl_up ?_ _ | refine Below.drew ?_ | refine bl_alloc ?_ _ | refine Below.setCell ?_ (by first | (simp; done) | (simp; omega)) _))) h1).mono ?_; rintro e w' ⟨rfl, g, rfl⟩) | ((with_reducible refine wp_region_up (by kernel_rfl) (by kernel_rfl) ?_); (repeat (go_big_quiet_step (first | (go_at_call 35; first | exact upq_tr (wholeI_no s _ hs (HT.out.below (by repeat (first | exact Below.refl _ _ | refine bl_tr ?_ _ | refine bl_al ?_ _ | refine bl_dr ?_ | refine bl_up ?_ _ | refine Below.drew ?_ | refine bl_alloc ?_ _ | refine Below.setCell ?_ (by first | (simp; done) | (simp; omega)) _))) h1) | exact upq (wholeI_no s _ hs (HT.out.below (by repeat (first | exact Below.refl _ _ | refine bl_tr ?_ _ | refine bl_al ?_ _ | refine bl_dr ?_ | refine bl_up ?_ _ | refine Below.drew ?_ | refine bl_alloc ?_ _ | refine Below.setCell ?_ (by first | (simp; done) | (simp; omega)) _))) h1))))); refine wpQuiet_nil ?_; intro _ hw'; obtain ⟨nq, hw''⟩ := hw'; subst hw''))
    go_ret2
    rw [hf.out]
    exact ⟨none, 0, rfl, ⟨rfl, .inl ⟨rfl, rfl⟩⟩, UpOf.of (by repeat (first | exact Below.refl _ _ | refine bl_tr ?_ _ | refine bl_al ?_ _ | refine bl_dr ?_ | refine bl_up ?_ _ | refine Below.drew ?_ | refine bl_alloc ?_ _ | refine Below.setCell ?_ (by first | (simp; done) | (simp; omega)) _))⟩
def vals (what : ByteArray) : List Entry → List Int
  | [] => []
  | x :: l => if x.what = what then x.value :: vals what l else vals what l
theorem vals_app (what : ByteArray) : ∀ (a b : List Entry), vals what (a ++ b) = vals what a ++ vals what b
  | [], b => rfl
  | x :: a, b => by
    rw [List.cons_append, vals, vals, vals_app what a b]
    split <;> rfl
theorem vals_yes {what : ByteArray} {l : List Entry} {k : Nat} (h : k < l.length) (q : l[k].what = what) : vals what (l.take (k + 1)) = vals what (l.take k) ++ [l[k].value] := by
  rw [ents_take h, vals_app, vals, if_pos q]; rfl
theorem vals_not {what : ByteArray} {l : List Entry} {k : Nat} (h : k < l.length) (q : ¬ l[k].what = what) : vals what (l.take (k + 1)) = vals what (l.take k) := by
  rw [ents_take h, vals_app, vals, if_neg q]; simp [vals]
theorem vals_len (what : ByteArray) : ∀ l : List Entry, (vals what l).length ≤ l.length
  | [] => Nat.le_refl _
  | x :: l => by
    rw [vals]
    have := vals_len what l
    split <;> simp <;> omega
def vaR (s what : ByteArray) : List Int × Int := if codeL s = 0 then (if nameB what = true then (vals what (entsL s), 0) else ([], 2)) else ([], codeL s)
theorem vaR_1 {s what : ByteArray} (h : ¬ codeL s = 0) : vaR s what = ([], codeL s) := by rw [vaR, if_neg h]
theorem vaR_2 {s what : ByteArray} (h : codeL s = 0) (h2 : nameB what = false) : vaR s what = ([], 2) := by rw [vaR, if_pos h, if_neg (by rw [h2]; simp)]
theorem vaR_0 {s what : ByteArray} (h : codeL s = 0) (h2 : nameB what = true) : vaR s what = (vals what (entsL s), 0) := by rw [vaR, if_pos h, if_pos h2]
end Go.Proofs.YtbianlkenallaaaDoor

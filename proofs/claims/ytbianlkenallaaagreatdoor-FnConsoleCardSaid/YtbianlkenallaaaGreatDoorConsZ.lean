/-
  How long the console's lines are: plain facts. No program. No condition but what stands at each.
-/
import Derived.Test.YtbianlkenallaaaGreatDoorConsL
import Derived.Test.YtbianlkenallaaaGreatDoorMgD
import Derived.Test.YtbianlkenallaaaGreatDoorMgE
import Derived.Test.YtbianlkenallaaaGreatDoorDrill2
set_option linter.all false
namespace Go.Proofs.YtbianlkenallaaaGreatDoor
open Go.RowKit
/-- rest r is left by a text of at most so many words -/
def SS (W : List (List UInt8)) (n : Nat) (r : List UInt8) : Prop := ∃ t, Rst W r t ∧ t.length ≤ 8 * n + 8
theorem SS.closed {W : List (List UInt8)} (h8 : ∀ w ∈ W, w.length ≤ 8) (n : Nat) (h : ∀ r, SS W (n + 1) r → SS W n r) {r t : List UInt8} (hr : Rst W r t) : SS W n r := by
  induction hr with
  | base hik hu hv hp => exact ⟨_, .base hik hu hv hp, by have := h8 _ (List.mem_of_getElem? hv); omega⟩
  | step h1 hr hw he ih =>
    obtain ⟨t0, h2, hl⟩ := ih
    refine h _ ⟨_, .step h2 hr hw he, ?_⟩
    rw [List.length_append]
    have := exR_len he (h8 _ hw)
    omega
theorem SS.many {W : List (List UInt8)} (h8 : ∀ w ∈ W, w.length ≤ 8) : ∀ n, (∃ r t, Rst W r t ∧ ¬ SS W n r) → ∃ L : List (List UInt8), L.length = n ∧ L.Nodup ∧ ∀ x ∈ L, SS W n x
  | 0, _ => ⟨[], rfl, by simp, fun x hx => by cases hx⟩
  | n + 1, ⟨r, t, hr, hn⟩ => by
    have mono : ∀ x, SS W n x → SS W (n + 1) x := fun x ⟨t, h, hl⟩ => ⟨t, h, by omega⟩
    obtain ⟨L, h1, h2, h3⟩ := SS.many h8 n ⟨r, t, hr, fun h => hn (mono _ h)⟩
    by_cases hc : ∀ x, SS W (n + 1) x → SS W n x
    · exact absurd (mono _ (SS.closed h8 n hc hr)) hn
    · obtain ⟨x, hx⟩ := Classical.not_forall.1 hc
      obtain ⟨hx1, hx2⟩ := Classical.not_imp.1 hx
      refine ⟨x :: L, by simp [h1], by rw [List.nodup_cons]; exact ⟨fun hm => hx2 (h3 x hm), h2⟩, fun y hy => ?_⟩
      rcases List.mem_cons.1 hy with rfl | hy
      · exact hx1
      · exact mono _ (h3 y hy)
theorem SS.all {W : List (List UInt8)} (h8 : ∀ w ∈ W, w.length ≤ 8) (h10 : W.length ≤ 10) {r t : List UInt8} (hr : Rst W r t) : SS W 91 r := by
  by_cases h : SS W 91 r
  · exact h
  · obtain ⟨L, h1, h2, h3⟩ := SS.many h8 91 ⟨r, t, hr, h⟩
    have h4 := nodup_le (l := L) (m := sfxs W) h2 fun x hx => by
      obtain ⟨t, ht, _⟩ := h3 x hx
      exact ht.sfx
    have h5 := sfxs_len h8 h10
    omega
theorem Bst.short {W : List (List UInt8)} (h8 : ∀ w ∈ W, w.length ≤ 8) (h10 : W.length ≤ 10) {r t : List UInt8} (h : Bst W r t) : t.length ≤ 736 := by
  obtain ⟨s, hs, hl⟩ := SS.all h8 h10 h.1
  have h2 := h.2 s hs
  by_cases hlt : s.length < t.length
  · have : lessT s t = true := lessT_iff.2 (.inl hlt)
    unfold leT at h2
    rw [this] at h2; cases h2
  · omega
theorem two_size {two : List ByteArray → ByteArray × Int} (h2 : TwoOk two) (ws : List ByteArray) : (two ws).1.size ≤ 1000 := by
  cases hv : vCode ws with
  | false => rw [(h2 ws).2 hv]; decide
  | true =>
    obtain ⟨h1, h3⟩ := vCode_inv hv
    have h8 : ∀ w ∈ lists ws, w.length ≤ 8 := fun w hw => by
      rw [lists, List.mem_map] at hw
      obtain ⟨s, hs, rfl⟩ := hw
      obtain ⟨i, hi, rfl⟩ := List.getElem_of_mem hs
      rw [wd_eq hi, bsz]
      exact (txtB_inv (h3 i hi).2.1).1
    have h10 : (lists ws).length ≤ 10 := by simpa [lists] using h1
    rcases (h2 ws).1 hv with ⟨_, hb⟩ | ⟨_, he, _⟩
    · have := hb.short h8 h10
      rw [bsz] at this
      omega
    · have := congrArg List.length he
      rw [bsz] at this
      rw [this]
      simp
theorem errL_size (c : Int) : (errL c).size ≤ 100 := by
  have := cnm_size c
  have e : (⟨#[101, 114, 114, 111, 114, 32]⟩ : ByteArray).size = 6 := rfl
  rw [errL, ByteArray.size_append]
  omega
def szB (l : List ByteArray) : Prop := (outB l).length ≤ 500000
theorem outB_cons (x : ByteArray) (l : List ByteArray) : outB (x :: l) = x.data.toList ++ [10] ++ outB l := by simp [outB]
theorem outB_le {m : Nat} : ∀ {l : List ByteArray}, (∀ x ∈ l, x.size ≤ m) → (outB l).length ≤ (m + 1) * l.length
  | [], _ => by simp [outB]
  | x :: l, h => by
    have h1 := outB_le (l := l) fun y hy => h y (List.mem_cons_of_mem _ hy)
    have h2 := h x (by simp)
    have e : (m + 1) * (x :: l).length = (m + 1) * l.length + (m + 1) := by rw [List.length_cons, Nat.mul_add, Nat.mul_one]
    rw [outB_cons, List.length_append, List.length_append, bsz, e, List.length_singleton]
    omega
theorem szB_many {l : List ByteArray} (h1 : l.length ≤ 4001) (h2 : ∀ x ∈ l, x.size ≤ 100) : szB l := by
  have := outB_le h2
  unfold szB
  have h3 : (100 + 1) * l.length ≤ 101 * 4001 := by omega
  omega
theorem szB_one {x : ByteArray} (h : x.size ≤ 100000) : szB [x] := by
  unfold szB
  rw [outB_cons, List.length_append, List.length_append, bsz]
  simp [outB]
  omega
theorem errL_szB (c : Int) : szB [errL c] := szB_one (by have := errL_size c; omega)
theorem sent_szB {r : ByteArray × Int} (h : r.1.size ≤ 100000) : szB (sent r) := by
  unfold sent
  split
  · exact szB_one h
  · exact errL_szB _
theorem nmb_szB {r : Int × Int} (h0 : -9223372036854775808 ≤ r.1) (h1 : r.1 ≤ 9223372036854775807) : szB (nmb r) := by
  unfold nmb
  split
  · exact szB_one (by have := dec_len h0 h1; omega)
  · exact errL_szB _
theorem okLine_size {n : Nat} (h : n ≤ 100000) : (okLine n).size ≤ 100 := by
  have := dec_len (n := (n : Int)) (by omega) (by omega)
  have e : (⟨#[111, 107, 32]⟩ : ByteArray).size = 3 := rfl
  rw [okLine, ByteArray.size_append]
  omega
theorem dkTextV_size {d : DeskD} (hv : vDesk d = true) : (dkTextV d).size ≤ 100 := by
  obtain ⟨v1, v2, v3, v4⟩ := vDesk_inv hv
  have b1 := vBsk_bars v1
  have b2 := (vStops_inv v2).1
  have b3 := (vDrills_inv v3).1
  have hz1 := dec_len (n := d.b.bars) (by omega) (by omega)
  have hz2 := dec_len (n := (d.stops.length : Int)) (by omega) (by omega)
  have hz3 := dec_len (n := (d.drills.length : Int)) (by omega) (by omega)
  have z1 : (⟨#[32, 98, 97, 114, 115, 44, 32]⟩ : ByteArray).size = 7 := rfl
  have z2 : (⟨#[32, 115, 116, 111, 112, 115, 44, 32]⟩ : ByteArray).size = 8 := rfl
  have z3 : (⟨#[32, 100, 114, 105, 108, 108, 115]⟩ : ByteArray).size = 7 := rfl
  simp only [dkTextV, ByteArray.size_append]
  omega
theorem dkText_szB {d : DeskD} (hv : vDesk d = true) : szB [dkText d] := szB_one (by rw [dkText_ok hv]; have := dkTextV_size hv; omega)
theorem bs_sz (l : List UInt8) : (⟨l.toArray⟩ : ByteArray).size = l.length := bs_size l
theorem alnR_size (a b : ByteArray) : (alnR a b).1.size ≤ 1000 := by
  unfold alnR
  split
  · rename_i h
    rw [Bool.and_eq_true] at h
    have h1 := (txtB_inv h.1).1
    have h2 := (txtB_inv h.2).1
    have := alnA_len a b 0 0
    rw [bs_sz]; omega
  · decide
theorem rowR_size (l : List Int) (s : ByteArray) : (rowR l s).1.size ≤ 1000 := by
  unfold rowR
  split
  · split
    · rename_i h
      have h1 := isRow_len h
      have h2 := rowA_len l s.data.toList 0 0 (by omega) (by rw [bsz]; omega)
      rw [bsz] at h2
      rw [bs_sz]; omega
    · decide
  · decide
theorem dlR_size (d : Drill) (n : Int) : (dlR d n).1.size ≤ 1000 := by
  unfold dlR
  split
  · split
    · rename_i h
      have h1 := btw_true h
      rw [bs_sz]
      unfold dlA
      split
      · rw [dlU_len]; omega
      · rw [dlU_len]; omega
    · decide
  · decide
theorem setU_size {ws : List ByteArray} {left gaps : Int} (h0 : 0 ≤ left) (h1 : left ≤ 1000) (h2 : 1 ≤ gaps) (hw : ∀ i, i < ws.length → (wd ws i).size ≤ 100) : ∀ i, i < ws.length → (setU ws left gaps i).length ≤ 100 + 1200 * i
  | 0, h => by rw [setU, bsz]; exact hw 0 h
  | i + 1, h => by
    have ih := setU_size h0 h1 h2 hw i (by omega)
    have h3 := hw (i + 1) h
    have h4 : left / gaps ≤ 1000 := Int.le_trans (Int.ediv_le_self _ h0) h1
    have h5 : gapN left gaps (i + 1) ≤ 1002 := by unfold gapN; split <;> omega
    rw [setU, List.length_append, List.length_append, List.length_replicate, bsz]
    omega
theorem setR_size (ws : List ByteArray) (n : Int) : (setR ws n).1.size ≤ 100000 := by
  unfold setR
  split
  · rename_i hv
    simp only [vText, Bool.and_eq_true, decide_eq_true_eq, List.all_eq_true, List.mem_range] at hv
    obtain ⟨⟨h1, h2⟩, h3⟩ := hv
    have h1 := btw_true h1
    have hw : ∀ i, i < ws.length → (wd ws i).size ≤ 100 := fun i hi => by
      have := h3 i hi
      simp only [wordB, Bool.and_eq_true, decide_eq_true_eq] at this
      omega
    split
    · decide
    · split
      · decide
      · rename_i h4 h5
        have hl : 0 ≤ longL ws := by unfold longL; split <;> omega
        rw [bs_sz]
        unfold setA
        split
        · rename_i h6
          have := hw 0 (by omega)
          rw [List.length_append, List.length_replicate, bsz]
          omega
        · have := setU_size (left := n - longL ws) (gaps := (ws.length : Int) - 1) (by omega) (by omega) (by omega) hw (ws.length - 1) (by omega)
          omega
  · decide
theorem codeOut_szB {two : List ByteArray → ByteArray × Int} (h2 : TwoOk two) (ws : List ByteArray) : szB (codeOut (two ws)) := by
  unfold codeOut
  split
  · exact szB_one (by decide)
  · exact sent_szB (by have := two_size h2 ws; omega)
theorem mrkR_bd2 (a b : ByteArray) : 0 ≤ (mrkR a b).1 ∧ (mrkR a b).1 ≤ 10 := by
  have key : ∀ (e n : Int) (f : Nat) (t m : Int), m ≤ markL e n f t m ∧ markL e n f t m ≤ m + f := fun e n f => by
    induction f with
    | zero => intro t m; exact ⟨Int.le_refl _, by simp [markL]⟩
    | succ f ih => intro t m; have := ih (t * 2) (m + 1); rw [markL]; split <;> omega
  have h := key (cst a b 0 0) a.size 5 1 1
  have e : mrk a b = markL (cst a b 0 0) a.size 5 1 1 := rfl
  unfold mrkR
  (repeat' split) <;> (try rw [e]) <;> (first | decide | omega)
theorem ents_szB {d : DeskD} (hv : vDesk d = true) : szB ((entsL d.log).map ewords ++ [okLine (entsL d.log).length]) := by
  have h1 := entsL_len (vDesk_inv hv).2.2.2
  refine szB_many (by rw [List.length_append, List.length_map, List.length_singleton]; omega) fun x hx => ?_
  rw [List.mem_append, List.mem_singleton] at hx
  rcases hx with hx | rfl
  · rw [List.mem_map] at hx
    obtain ⟨y, hy, rfl⟩ := hx
    have := ewords_len (entsL_ok _ y hy)
    omega
  · have := okLine_size (n := (entsL d.log).length) (by omega)
    omega
theorem drs_szB {d : DeskD} (hv : vDesk d = true) : szB (d.drills.map drText ++ [okLine d.drills.length]) := by
  have h1 := (vDrills_inv (vDesk_inv hv).2.2.1).1
  refine szB_many (by rw [List.length_append, List.length_map, List.length_singleton]; omega) fun x hx => ?_
  rw [List.mem_append, List.mem_singleton] at hx
  rcases hx with hx | rfl
  · rw [List.mem_map] at hx
    obtain ⟨y, hy, rfl⟩ := hx
    unfold drText
    split
    · rename_i h
      have := drTextV_len h
      omega
    · decide
  · have := okLine_size (n := d.drills.length) (by omega)
    omega
theorem doK_size {two : List ByteArray → ByteArray × Int} (h2 : TwoOk two) {d : DeskD} (ws : List ByteArray) (k : Nat) (hv : vDesk d = true) : szB (doK two d ws k).2 := by
  obtain ⟨v1, v2, v3, v4⟩ := vDesk_inv hv
  unfold doK
  split
  · exact sent_szB (by have := alnR_size (wd ws 1) (wd ws 2); omega)
  · split
    · exact errL_szB _
    · split
      · rename_i h
        exact dkText_szB (vDesk_of h v2 v3 v4)
      · exact errL_szB _
  · exact codeOut_szB h2 _
  · split
    · exact errL_szB _
    · split
      · rename_i h
        exact dkText_szB (vDesk_of v1 v2 (addD_valid h) v4)
      · exact errL_szB _
  · exact drs_szB hv
  · split
    · exact errL_szB _
    · rename_i l hl
      split
      · have h9 := vaR_bd (adR d.log ⟨num l 0, wd ws 2, num l 1⟩).1 (wd ws 2)
        have hb := sumI'_bd (B := 1000000000) (by omega) h9.2 _ (Nat.le_refl _)
        rw [sumI', List.take_length] at hb
        generalize vaR (adR d.log ⟨num l 0, wd ws 2, num l 1⟩).1 (wd ws 2) = V at h9 hb ⊢
        have h10 : (1000000000 : Int) * (V.1.length : Int) ≤ 1000000000 * 4000 := by omega
        exact nmb_szB (by show _ ≤ sumI V.1; omega) (by show sumI V.1 ≤ _; omega)
      · exact errL_szB _
  · split
    · exact errL_szB _
    · rename_i l hl
      have := tfR_bd d.b l
      exact nmb_szB (by omega) (by omega)
  · split
    · split
      · exact errL_szB _
      · rename_i x hx
        exact sent_szB (by have := dlR_size x (sval (wd ws 2)); omega)
    · exact errL_szB _
  · exact ents_szB hv
  · have := mrkR_bd2 (wd ws 1) (wd ws 2)
    exact nmb_szB (by omega) (by omega)
  · exact sent_szB (by have := rowR_size d.stops (restW ws 1); omega)
  · split
    · exact sent_szB (setR_size _ _)
    · exact errL_szB _
  · split
    · exact errL_szB _
    · split
      · rename_i h
        exact dkText_szB (vDesk_of v1 h v3 v4)
      · exact errL_szB _
  · split
    · exact errL_szB _
    · rename_i l hl
      have := mwR_bd d.b (num l 0) (num l 1)
      exact nmb_szB (by omega) (by omega)
theorem doL_size {two : List ByteArray → ByteArray × Int} (h2 : TwoOk two) {d : DeskD} {s : ByteArray} {r : DeskD × List ByteArray} (hv : vDesk d = true) (h : doL two d s = some r) : szB r.2 := by
  unfold doL at h
  split at h
  · injection h with h
    rw [← h]
    exact doK_size h2 _ _ hv
  · cases h
end Go.Proofs.YtbianlkenallaaaGreatDoor

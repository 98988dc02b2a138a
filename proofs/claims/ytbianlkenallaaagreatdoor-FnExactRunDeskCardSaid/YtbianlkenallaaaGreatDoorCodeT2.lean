/-
  The reference's rests of a code: a rest is put. The bounds stand at each.
-/
import Derived.Test.YtbianlkenallaaaGreatDoorMgF
set_option linter.all false
set_option maxHeartbeats 4000000
set_option maxRecDepth 10000
namespace Go.Proofs.YtbianlkenallaaaGreatDoor
open Go.RowKit
def keysB (R : List Amb) : List ByteArray := R.map fun p => bs p.1
def textsB (R : List Amb) : List ByteArray := R.map fun p => bs p.2
theorem keysB_len (R : List Amb) : (keysB R).length = R.length := by simp [keysB]
theorem textsB_len (R : List Amb) : (textsB R).length = R.length := by simp [textsB]
theorem wd_keys {R : List Amb} {i : Nat} (h : i < R.length) : wd (keysB R) i = bs (om R i).1 := by
 rw [wd, om, keysB, List.getD_eq_getElem?_getD, List.getD_eq_getElem?_getD, List.getElem?_map, List.getElem?_eq_getElem h]; rfl
theorem wd_texts {R : List Amb} {i : Nat} (h : i < R.length) : wd (textsB R) i = bs (om R i).2 := by
 rw [wd, om, textsB, List.getD_eq_getElem?_getD, List.getD_eq_getElem?_getD, List.getElem?_map, List.getElem?_eq_getElem h]; rfl
theorem putNew {R : List Amb} {r : ByteArray} (t : ByteArray) (h : ∀ j, j < (keysB R).length → wd (keysB R) j ≠ r) :
  keysB (putR R r.data.toList t.data.toList) = keysB R ++ [r] ∧ textsB (putR R r.data.toList t.data.toList) = textsB R ++ [t] ∧ putB R r.data.toList t.data.toList = true := by
 obtain ⟨h1, h2⟩ := put_new (R := R) (r := r.data.toList) t.data.toList fun p hp e => by
  obtain ⟨i, hi, rfl⟩ := List.getElem_of_mem hp
  refine h i (by rw [keysB_len]; exact hi) ?_
  have e2 : R[i] = om R i := by rw [om, List.getD_eq_getElem?_getD, List.getElem?_eq_getElem hi]; rfl
  rw [wd_keys hi, ← e2, e, bs_of]
 rw [h1, h2]
 refine ⟨?_, ?_, rfl⟩
 ·rw [keysB, keysB, List.map_append]; show _ ++ [bs r.data.toList] = _; rw [bs_of]
 ·rw [textsB, textsB, List.map_append]; show _ ++ [bs t.data.toList] = _; rw [bs_of]
theorem putOld {R : List Amb} {r : ByteArray} (t : ByteArray) {k : Nat} (hk : k < (keysB R).length) (he : wd (keysB R) k = r) (hn : ∀ j, j < k → wd (keysB R) j ≠ r) :
  putB R r.data.toList t.data.toList = lessT t.data.toList (wd (textsB R) k).data.toList ∧ keysB (putR R r.data.toList t.data.toList) = keysB R ∧
  textsB (putR R r.data.toList t.data.toList) = if lessT t.data.toList (wd (textsB R) k).data.toList = true then (textsB R).set k t else textsB R := by
 rw [keysB_len] at hk
 have hs := om_split hk
 rw [wd_keys hk] at he
 have he2 : (om R k).1 = r.data.toList := by rw [← he, bs_list]
 have ho : om R k = (r.data.toList, (om R k).2) := by rw [← he2]
 rw [wd_texts hk, bs_list]
 generalize (om R k).2 = s at ho ⊢
 rw [ho] at hs
 have hA : ∀ p ∈ R.take k, p.1 ≠ r.data.toList := fun p hp e => by
  obtain ⟨i, hi, rfl⟩ := List.getElem_of_mem hp
  rw [List.length_take] at hi
  refine hn i (by omega) ?_
  have e2 : (R.take k)[i] = om R i := by rw [List.getElem_take, om, List.getD_eq_getElem?_getD, List.getElem?_eq_getElem (by omega)]; rfl
  rw [wd_keys (by omega), ← e2, e, bs_of]
 have hl : (R.take k).length = k := by rw [List.length_take]; omega
 obtain ⟨h1, h2⟩ := put_old (R.take k) (s := s) (B := R.drop (k + 1)) t.data.toList hA
 rw [← hs] at h1 h2
 refine ⟨h2, ?_, ?_⟩
 ·rw [h1]
  split
  ·rw [hs, keysB, keysB, List.map_append, List.map_append, ← hs]; rfl
  ·rfl
 ·rw [h1]
  split
  ·have e3 : textsB R = textsB (R.take k) ++ bs s :: textsB (R.drop (k + 1)) := by
    show textsB R = _
    rw [show textsB R = textsB (R.take k ++ (r.data.toList, s) :: R.drop (k + 1)) by rw [← hs], textsB, List.map_append]; rfl
   rw [e3, show textsB (R.take k ++ (r.data.toList, t.data.toList) :: R.drop (k + 1)) = textsB (R.take k) ++ bs t.data.toList :: textsB (R.drop (k + 1)) by rw [textsB, List.map_append]; rfl, bs_of]
   have hl2 : (textsB (R.take k)).length = k := by rw [textsB_len, hl]
   rw [List.set_append_right _ _ (by omega), hl2, Nat.sub_self, List.set_cons_zero]
  ·rfl
def putPost (w0 : World) (rb : Nat) (R : List Amb) (more : Bool) (e : Ending) (w' : World) : Prop := ∃ A c E d, e = .returned (.tuple #[]) ∧ QK w0 w' rb (keysB R) (textsB R) more A c E d
theorem l17Put_any (w0 : World) (rb : Nat) (R : List Amb) (more : Bool) (A : Option Addr) (c : Nat) (E : Option Addr) (d : Nat) (r t : ByteArray) (w : World) (h : QK w0 w rb (keysB R) (textsB R) more A c E d) (hn : R.length ≤ 1000000) :
  Calls Tryz.prog 217 #[.pointer (some ⟨rb, 0, none⟩), .string r, .string t] w fun e w' => putPost w0 rb (putR R r.data.toList t.data.toList) (more || putB R r.data.toList t.data.toList) e w' := by
 have HN := hd_ hn
 have HQ := hd_ h
 have hrb := h.bk.lt
 have k0 : w.cell? ⟨rb, 0, none⟩ = some (.slice A (keysB R).length c) := by rw [h.bk.cell]; rfl
 have k1 : w.cell? ⟨rb, 1, none⟩ = some (.slice E (textsB R).length d) := by rw [h.bk.cell]; rfl
 clear h hn
 go_enter Tryz.func217, Tryz.ntmps217
 go_wp2_with fail
 refine (l17Index_any A c (keysB R) r _ (Rds.of_own HQ.out.ka) (by rw [keysB_len]; have := HN.out; omega)).mono ?_
 rintro e w' ⟨i, rfl, hi, rfl⟩
 rcases hi with ⟨rfl, hno⟩ | ⟨k, rfl, hk, he, hno⟩
 ·obtain ⟨e1, e2, e3⟩ := putNew t hno
  have HE := hd_ (show ∀ e w', putPost w0 rb (putR R r.data.toList t.data.toList) (more || putB R r.data.toList t.data.toList) e w' = ∃ A c E d, e = .returned (.tuple #[]) ∧ QK w0 w' rb (keysB R ++ [r]) (textsB R ++ [t]) true A c E d by
   intro e w'; unfold putPost; rw [e1, e2, e3, Bool.or_true])
  clear hno e1 e2 e3
  have hKl := keysB_len R
  have hTl := textsB_len R
  generalize keysB R = K at *
  generalize textsB R = T at *
  have HKl := hd_ hKl
  have HTl := hd_ hTl
  clear hKl hTl
  have HB := hd_ (HQ.out.below (bl_alloc (Below.refl _ _) (.cells #[.string r] 9)))
  go_upto_region 3 with (at_builtin; go_must (refine wpl_appW rfl _ _ rfl w0.heap.size A c K rfl HB.out.ka r w.heap.size rfl (by simp) (by have := HKl.out; have := HN.out; omega) HB.out.up.below.size _ rfl ?_); intro g c2 K2 W2 hK2 o2 g2 l2 hg2; have hrb2 : rb < W2.heap.size := Nat.lt_of_lt_of_le HB.out.bk.lt g2.size; have hf0 : W2.frozen? ⟨rb, 0, none⟩ = false := (HB.out.bk.grown g2 (blk_tne HB.out.bk HB.out.ka (by decide))).free 0; have hc0 : W2.cell? ⟨rb, 0, none⟩ = some (.slice A K.length c) := (HB.out.bk.grown g2 (blk_tne HB.out.bk HB.out.ka (by decide))).cell 0)
  refine wpg (R := fun V => Hid (QK w0 V rb K2 T more (some ⟨g, 0, none⟩) c2 E d)) (hd_ (HB.out.key g2 o2 l2 rfl)) (fun V HQ3 => ?_)
  clear o2 g2 l2 hg2 hrb2 hf0 hc0 HB HQ hrb k0 k1
  have hrb := HQ3.out.bk.lt
  have k1 : V.cell? ⟨rb, 1, none⟩ = some (.slice E T.length d) := HQ3.out.bk.cell 1
  have HB := hd_ (HQ3.out.below (bl_alloc (Below.refl _ _) (.cells #[.string t] 9)))
  go_upto_region 4 with (at_builtin; go_must (refine wpl_appW rfl _ _ rfl w0.heap.size E d T rfl HB.out.te t V.heap.size rfl (by simp) (by have := HTl.out; have := HN.out; omega) HB.out.up.below.size _ rfl ?_); intro g9 d2 T2 W2 hT2 o2 g2 l2 hg2; have hrb2 : rb < W2.heap.size := Nat.lt_of_lt_of_le HB.out.bk.lt g2.size; have hf0 : W2.frozen? ⟨rb, 1, none⟩ = false := (HB.out.bk.grown g2 (blk_tne HB.out.bk HB.out.te (by decide))).free 1; have hc0 : W2.cell? ⟨rb, 1, none⟩ = some (.slice E T.length d) := (HB.out.bk.grown g2 (blk_tne HB.out.bk HB.out.te (by decide))).cell 1)
  refine wpg (R := fun V => Hid (QK w0 V rb K2 T2 more (some ⟨g, 0, none⟩) c2 (some ⟨g9, 0, none⟩) d2)) (hd_ (HB.out.txt g2 o2 l2 rfl)) (fun U HQ4 => ?_)
  clear o2 g2 l2 hg2 hrb2 hf0 hc0 HB HQ3 hrb k1
  have hrb := HQ4.out.bk.lt
  have k2 : U.cell? ⟨rb, 2, none⟩ = some (.bool more) := HQ4.out.bk.cell 2
  have f2 := HQ4.out.bk.free 2
  go_wp2_with fail
  refine bodyPost_ret (results_none rfl _ _ _) rfl ?_
  rw [HE.out, ← hK2.out, ← hT2.out]
  exact ⟨_, _, _, _, rfl, HQ4.out.flag true⟩
 ·obtain ⟨e1, e2, e3⟩ := putOld t hk he hno
  have hkR : k < R.length := by rw [keysB_len] at hk; exact hk
  have hkT : k < (textsB R).length := by rw [textsB_len]; exact hkR
  obtain ⟨o, ho⟩ : ∃ o, wd (textsB R) k = o := ⟨_, rfl⟩
  rw [ho] at e1 e3
  obtain ⟨gE, rfl⟩ := own_someT HQ.out.te (by omega)
  have hcE : w.cell? ⟨gE, k, none⟩ = some (.string o) := by
   obtain ⟨b9, o9, e9, _, hc9⟩ := wd_at (Rds.of_own HQ.out.te) hkT
   injection e9 with e9
   injection e9 with e91 e92
   subst e91 e92
   have := hc9 k hkT
   rwa [Nat.zero_add, ho] at this
  have hgE : gE < w.heap.size := (HQ.out.te.lt gE rfl).2
  have hfE : w.frozen? ⟨gE, k, none⟩ = false := HQ.out.te.frozenAt k
  have f2 := HQ.out.bk.free 2
  have k2 : w.cell? ⟨rb, 2, none⟩ = some (.bool more) := HQ.out.bk.cell 2
  have hkT' : (k : Int) < ((textsB R).length : Int) := by omega
  have hneE : rb ≠ gE := fun e => by
   have := blk_tne HQ.out.bk HQ.out.te (by decide)
   exact this (by rw [e]; rfl)
  obtain ⟨less, hless⟩ : ∃ b, lessT t.data.toList o.data.toList = b := ⟨_, rfl⟩
  rw [hless] at e1 e3
  have HE := hd_ (show ∀ e w', putPost w0 rb (putR R r.data.toList t.data.toList) (more || putB R r.data.toList t.data.toList) e w' = ∃ A c E d, e = .returned (.tuple #[]) ∧ QK w0 w' rb (keysB R) (if less = true then (textsB R).set k t else textsB R) (more || less) A c E d by
   intro e w'; unfold putPost; rw [e1, e2, e3])
  have HKT := hd_ hkT
  clear e1 e2 e3 hno he hk hkR hkT ho k0
  generalize keysB R = K at *
  generalize textsB R = T at *
  have hls := lessT_iff (a := t.data.toList) (b := o.data.toList)
  rw [bsz, bsz, hless] at hls
  by_cases q1 : t.size < o.size
  ·have q1' : (t.size : Int) < (o.size : Int) := by omega
   obtain rfl : less = true := hls.2 (.inl q1)
   clear hls hless
   go_upto_region 8 with (fail)
   refine wpg (R := fun V => Hid (QK w0 V rb K (T.set k t) more A c (some ⟨gE, 0, none⟩) d)) (hd_ (HQ.out.store HKT.out)) (fun V HQ3 => ?_)
   clear hcE hgE hfE hrb k1 k2 f2 HQ
   have hrb := HQ3.out.bk.lt
   have f2 := HQ3.out.bk.free 2
   have k2 : V.cell? ⟨rb, 2, none⟩ = some (.bool more) := HQ3.out.bk.cell 2
   go_wp2_with fail
   go_end0
   rw [HE.out]
   exact ⟨_, _, _, _, rfl, by rw [if_pos (by simp), Bool.or_true]; exact HQ3.out.flag true⟩
  ·have q1' : ¬ (t.size : Int) < (o.size : Int) := by omega
   by_cases q2 : t.size = o.size
   ·have q2' : ((t.size : Int) == (o.size : Int)) = true := by rw [beq_iff_eq]; omega
    cases less with
    | true =>
     have q3 : Op.bytesLess t.toList o.toList = true := by
      rw [ByteArray.toList_eq, ByteArray.toList_eq]
      rcases hls.1 rfl with h | h
      ·exact absurd h q1
      ·exact h.2
     clear hls hless q2
     go_upto_region 8 with (fail)
     refine wpg (R := fun V => Hid (QK w0 V rb K (T.set k t) more A c (some ⟨gE, 0, none⟩) d)) (hd_ (HQ.out.store HKT.out)) (fun V HQ3 => ?_)
     clear hcE hgE hfE hrb k1 k2 f2 HQ
     have hrb := HQ3.out.bk.lt
     have f2 := HQ3.out.bk.free 2
     have k2 : V.cell? ⟨rb, 2, none⟩ = some (.bool more) := HQ3.out.bk.cell 2
     go_wp2_with fail
     go_end0
     rw [HE.out]
     exact ⟨_, _, _, _, rfl, by rw [if_pos (by simp), Bool.or_true]; exact HQ3.out.flag true⟩
    | false =>
     have q3 : Op.bytesLess t.toList o.toList = false := by
      rw [ByteArray.toList_eq, ByteArray.toList_eq, ← Bool.not_eq_true]
      exact fun h => absurd (hls.2 (.inr ⟨q2, h⟩)) (by simp)
     clear hls hless q2
     go_wp2_with fail
     go_end0
     rw [HE.out]
     exact ⟨_, _, _, _, rfl, by rw [if_neg (by simp), Bool.or_false]; exact HQ.out⟩
   ·have q2' : ((t.size : Int) == (o.size : Int)) = false := by rw [beq_eq_false_iff_ne]; omega
    cases less with
    | true =>
     exfalso
     rcases hls.1 rfl with h | h
     ·exact q1 h
     ·exact q2 h.1
    | false =>
     clear hls hless q2
     go_wp2_with fail
     go_end0
     rw [HE.out]
     exact ⟨_, _, _, _, rfl, by rw [if_neg (by simp), Bool.or_false]; exact HQ.out⟩
end Go.Proofs.YtbianlkenallaaaGreatDoor

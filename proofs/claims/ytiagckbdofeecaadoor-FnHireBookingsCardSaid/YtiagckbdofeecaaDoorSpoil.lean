/-
  The reference's spoiling of a text: whatever is drawn, it grows by one byte at most. The bounds stand at it.
-/
import Derived.Test.YtiagckbdofeecaaDoorSrcK
import Derived.Test.YtiagckbdofeecaaDoorTakeT
namespace Go.Proofs.YtiagckbdofeecaaDoor
open Go.RowKit
theorem adr_neS {p b : Nat} (h : b < p) : ∀ b' off, (some (⟨p, 0, none⟩ : Addr)) = some ⟨b', off, none⟩ → b' ≠ b := fun b' off e => by injection e with e; injection e with e _; omega
theorem spE_no {s : ByteArray} (h : 0 < s.size) : s.toList.isEmpty = false := by
  rw [ByteArray.toList_eq]
  have h' : 0 < s.data.toList.length := by simpa using h
  cases hl : s.data.toList with
  | nil => rw [hl] at h'; simp at h'
  | cons _ _ => rfl
theorem spE_yes {s : ByteArray} (h : s.size = 0) : s.toList.isEmpty = true := by
  rw [ByteArray.toList_eq]
  have h' : s.data.toList.length = 0 := by simpa using h
  rw [List.eq_nil_of_length_eq_zero h']
  rfl
def nm7s : List ByteArray := [⟨#[32]⟩, ⟨#[48]⟩, ⟨#[45]⟩, ⟨#[120]⟩, ⟨#[49]⟩, ⟨#[57]⟩, ⟨#[46]⟩]
def textPost (b : Nat) (A : Option Addr) (n c k m kk : Nat) (w : World) (e : Ending) (w' : World) : Prop :=
  ∃ (t : ByteArray) (k' : Nat), e = .returned (.string t) ∧ t.size ≤ m ∧ k' ≤ k + kk ∧ SrcAt w' b A n c k' ∧ w.grownBy w' (some b)
set_option maxRecDepth 10000 in
set_option maxHeartbeats 2000000 in
theorem l01Spoil_any (b : Nat) (A : Option Addr) (n c k : Nat) (t : ByteArray) (w : World) (h : SrcAt w b A n c k) (hb : Byt w b A n) (hk : k ≤ 500000) (hn : n ≤ 1000000) (hs : t.size ≤ 100000) :
    Calls Tryd.prog 60 #[.pointer (some ⟨b, 0, none⟩), .string t] w (textPost b A n c k (t.size + 1) 8 w) := by
  have hlt := h.lt
  have HS := Lib.hid h
  have HB := Lib.hid hb
  clear h hb
  go_enter Tryd.func60, Tryd.ntmps60
  go_wp2_with fail
  refine (pick_any b A n c k 5 w HS.out HB.out (by omega) hn (by omega)).mono ?_
  rintro e w1 ⟨x, k1, rfl, y0, y1, hk1, hs1, hg1⟩
  have S1 := Lib.hid hs1
  have B1 := Lib.hid (HB.out.grown hg1)
  have G1 := Lib.hid hg1
  clear hs1 hg1 HS HB y1
  by_cases t0 : x = 0
  · subst t0
    have hw1 : IntKind.i64.wrap ((t.size : Int) + 1) = (t.size : Int) + 1 := by rw [IntKind.wrap_i64]; omega
    go_wp2_with fail
    refine (pick_any b A n c k1 ((t.size : Int) + 1) w1 S1.out B1.out (by omega) hn (by omega)).mono ?_
    rintro e w2 ⟨x, k2, rfl, y0, y1, hk2, hs2, hg2⟩
    obtain ⟨i, rfl⟩ : ∃ i : Nat, x = (i : Int) := ⟨x.toNat, by omega⟩
    have hi : i ≤ t.size := by omega
    have S2 := Lib.hid hs2
    have B2 := Lib.hid (B1.out.grown hg2)
    have G2 := Lib.hid (grown_trans G1.out hg2)
    have hq2 : b < w2.heap.size := Nat.lt_of_lt_of_le hlt G2.out.size
    have hsl : ∀ wx : World, (Instr.slice 9 (.string t) none (some (i64 i)) none).run Tryd.prog wx = .ok (.string (t.extract 0 i)) wx := fun wx => by
      have := run_slice_string_to_if (P := Tryd.prog) wx 9 t .i64 (i : Int) Tryd.underlying9
      rw [if_pos (by omega)] at this
      simpa using this
    have hsr : ∀ wx : World, (Instr.slice 9 (.string t) (some (i64 i)) none none).run Tryd.prog wx = .ok (.string (t.extract i t.size)) wx := fun wx => by
      have := run_slice_string_from_if (P := Tryd.prog) wx 9 t .i64 (i : Int) Tryd.underlying9
      rw [if_pos (by omega)] at this
      simpa using this
    clear hs2 hg2 S1 B1 G1 y0 y1
    go_upto_region 4 with (fail)
    refine wp_region_T (fun _ => True) 5 (by kernel_rfl) ?_
    refine wpAnyT_pure (i := 0) (v := ?_) rfl (by kernel_rfl) (by kernel_rfl) (by kernel_rfl) (by decide) (fun _ _ _ h => h) (Or.inl ⟨by rfl, ?_⟩) (fun _ => trivial) ?_
    rotate_left
    · intro w _; go_simp; try (with_reducible rfl)
    try simp only [Act.put, List.setIfInBounds_toArray, List.set_cons_zero, List.set_cons_succ]
    refine wpAnyT_pure (i := 1) (v := ?_) rfl (by kernel_rfl) (by kernel_rfl) (by kernel_rfl) (by decide) (fun _ _ _ h => h) (Or.inl ⟨by rfl, ?_⟩) (fun _ => trivial) ?_
    rotate_left
    · intro w _; go_simp; try (with_reducible rfl)
    try simp only [Act.put, List.setIfInBounds_toArray, List.set_cons_zero, List.set_cons_succ]
    refine wpAnyT_pure (i := 2) (v := ?_) rfl (by kernel_rfl) (by kernel_rfl) (by kernel_rfl) (by decide) (fun _ _ _ h => h) (Or.inl ⟨by rfl, ?_⟩) (fun _ => trivial) ?_
    rotate_left
    · intro w _; go_simp; try (with_reducible rfl)
    try simp only [Act.put, List.setIfInBounds_toArray, List.set_cons_zero, List.set_cons_succ]
    refine wpAnyT_pure (i := 3) (v := ?_) rfl (by kernel_rfl) (by kernel_rfl) (by kernel_rfl) (by decide) (fun _ _ _ h => h) (Or.inl ⟨by rfl, ?_⟩) (fun _ => trivial) ?_
    rotate_left
    · intro w _; go_simp; try (with_reducible rfl)
    try simp only [Act.put, List.setIfInBounds_toArray, List.set_cons_zero, List.set_cons_succ]
    refine wpAnyT_pure (i := 7) (v := ?_) rfl (by kernel_rfl) (by kernel_rfl) (by kernel_rfl) (by decide) (fun _ _ _ h => h) (Or.inl ⟨by rfl, ?_⟩) (fun _ => trivial) ?_
    rotate_left
    · intro w _; go_simp; try (with_reducible rfl)
    try simp only [Act.put, List.setIfInBounds_toArray, List.set_cons_zero, List.set_cons_succ]
    refine wpAnyT_pure (i := 8) (v := ?_) rfl (by kernel_rfl) (by kernel_rfl) (by kernel_rfl) (by decide) (fun _ _ _ h => h) (Or.inl ⟨by rfl, ?_⟩) (fun _ => trivial) ?_
    rotate_left
    · intro w _; go_simp; try (with_reducible rfl)
    try simp only [Act.put, List.setIfInBounds_toArray, List.set_cons_zero, List.set_cons_succ]
    refine wpAnyT_pure (i := 9) (v := ?_) rfl (by kernel_rfl) (by kernel_rfl) (by kernel_rfl) (by decide) (fun _ _ _ h => h) (Or.inl ⟨by rfl, ?_⟩) (fun _ => trivial) ?_
    rotate_left
    · intro w _; go_simp; try (with_reducible rfl)
    try simp only [Act.put, List.setIfInBounds_toArray, List.set_cons_zero, List.set_cons_succ]
    refine wpAnyT_one (i := 4) (by kernel_rfl) rfl (fun K hK => ?_)
    go_simp
    refine hK.out _ _ (fun _ => trivial) ?_
    clear hK K
    try simp only [Act.put, List.setIfInBounds_toArray, List.set_cons_zero, List.set_cons_succ]
    refine wpAnyT_one (i := 5) (by kernel_rfl) rfl (fun K hK => ?_)
    go_simp
    go_at_call 71
    refine (text_any b A n c k2 _ 7 nm7s _ (S2.out.bel (by repeat (first | exact Below.refl _ _ | refine bl_tr ?_ _ | refine bl_al ?_ _ | refine bl_dr ?_ | refine bl_up ?_ _ | refine Below.drew ?_ | refine bl_alloc ?_ _ | refine Below.setCell ?_ (by first | (simp; done) | (simp; omega)) _))) (B2.out.bel (by repeat (first | exact Below.refl _ _ | refine bl_tr ?_ _ | refine bl_al ?_ _ | refine bl_dr ?_ | refine bl_up ?_ _ | refine Below.drew ?_ | refine bl_alloc ?_ _ | refine Below.setCell ?_ (by first | (simp; done) | (simp; omega)) _))) (by omega) hn (by first | exact rds_newA 1 7 rfl rfl | exact rds_newA 1 7 (by simp) rfl) (by decide) (by decide) (adr_neS (by first | exact hq2 | omega))).mono ?_
    rintro e w3 ⟨v3, k3, rfl, ⟨d3, hd3, rfl⟩, hk3, hs3, hg3⟩
    have hd1 : d3.size = 1 := by
      simp [nm7s] at hd3
      rcases hd3 with rfl | rfl | rfl | rfl | rfl | rfl | rfl <;> rfl
    have G3 := Lib.hid (show w.grownBy w3 (some b) from grown_trans (gr_up G2.out ⟨_, (by repeat (first | exact Below.refl _ _ | refine bl_tr ?_ _ | refine bl_al ?_ _ | refine bl_dr ?_ | refine bl_up ?_ _ | refine Below.drew ?_ | refine bl_alloc ?_ _ | refine Below.setCell ?_ (by first | (simp; done) | (simp; omega)) _))⟩) hg3)
    have S3 := Lib.hid hs3
    have hz0 : (t.extract 0 i).size ≤ t.size ∧ (t.extract 0 i).size = i := by rw [ByteArray.size_extract]; omega
    have hz1 : (t.extract i t.size).size = t.size - i := by rw [ByteArray.size_extract]; omega
    have e1 : ∀ wx, (Op.stringOp .add (t.extract 0 i) d3).run Tryd.prog wx = .ok (.string (t.extract 0 i ++ d3)) wx := fun wx => run_string_add_sum wx _ _ (by omega)
    have e2 : ∀ wx, (Op.stringOp .add (t.extract 0 i ++ d3) (t.extract i t.size)).run Tryd.prog wx = .ok (.string (t.extract 0 i ++ d3 ++ t.extract i t.size)) wx := fun wx => run_string_add_sum wx _ _ (by rw [ByteArray.size_append]; omega)
    have hz2 : (t.extract 0 i ++ d3 ++ t.extract i t.size).size ≤ t.size + 1 := by rw [ByteArray.size_append, ByteArray.size_append]; omega
    clear hs3 hg3 hd3 S2 B2 G2 hz0 hz1
    generalize t.extract 0 i = p1 at *
    generalize t.extract i t.size = p2 at *
    try go_wp2_with fail
    refine hK.out _ _ (fun _ => trivial) ?_
    clear hK K
    try simp only [Act.put, List.setIfInBounds_toArray, List.set_cons_zero, List.set_cons_succ]
    refine wpAnyT_pure (i := 6) (v := ?_) rfl (by kernel_rfl) (by kernel_rfl) (by kernel_rfl) (by decide) (fun _ _ _ h => h) (Or.inl ⟨by rfl, ?_⟩) (fun _ => trivial) ?_
    rotate_left
    · intro w _; go_simp; try (with_reducible rfl)
    try simp only [Act.put, List.setIfInBounds_toArray, List.set_cons_zero, List.set_cons_succ]
    refine wpAnyT_pure (i := 10) (v := ?_) rfl (by kernel_rfl) (by kernel_rfl) (by kernel_rfl) (by decide) (fun _ _ _ h => h) (Or.inl ⟨by rfl, ?_⟩) (fun _ => trivial) ?_
    rotate_left
    · intro w _; go_simp; try (with_reducible rfl)
    try simp only [Act.put, List.setIfInBounds_toArray, List.set_cons_zero, List.set_cons_succ]
    refine wpAnyT_one (i := 11) (by kernel_rfl) rfl (fun K hK => ?_)
    go_simp
    refine hK.out _ _ (fun _ => trivial) ?_
    clear hK K
    try simp only [Act.put, List.setIfInBounds_toArray, List.set_cons_zero, List.set_cons_succ]
    refine wpAnyT_done (by kernel_rfl) ?_ _
    refine exit_gen (R := fun V => Hid (Below w3.heap.size w3 V)) (Lib.hid (by repeat (first | exact Below.refl _ _ | refine bl_tr ?_ _ | refine bl_al ?_ _ | refine bl_dr ?_ | refine bl_up ?_ _ | refine Below.drew ?_ | refine bl_alloc ?_ _ | refine Below.setCell ?_ (by first | (simp; done) | (simp; omega)) _))) (fun V z => ?_)
    have S4 := Lib.hid (S3.out.bel z.out)
    have G4 := Lib.hid (gr_up G3.out ⟨V, z.out⟩)
    clear S3
    go_wp2_with fail
    go_ret
    exact ⟨_, k3, rfl, hz2, by omega, S4.out, G4.out⟩
  by_cases t1 : x = 1
  · subst t1
    by_cases hl0 : t.size = 0
    · have he2 : t.toList.isEmpty = true := spE_yes hl0
      go_wp2_with fail
      go_ret
      exact ⟨t, k1, rfl, by omega, by omega, S1.out, G1.out⟩
    · have he2 : t.toList.isEmpty = false := spE_no (by omega)
      go_wp2_with fail
      refine (pick_any b A n c k1 (t.size : Int) w1 S1.out B1.out (by omega) hn (by omega)).mono ?_
      rintro e w2 ⟨x, k2, rfl, y0, y1, hk2, hs2, hg2⟩
      obtain ⟨i, rfl⟩ : ∃ i : Nat, x = (i : Int) := ⟨x.toNat, by omega⟩
      have hi : i < t.size := by omega
      have S2 := Lib.hid hs2
      have G2 := Lib.hid (grown_trans G1.out hg2)
      have hw1 : IntKind.i64.wrap ((i : Int) + 1) = (i : Int) + 1 := by rw [IntKind.wrap_i64]; omega
      have hsl : ∀ wx : World, (Instr.slice 9 (.string t) none (some (i64 i)) none).run Tryd.prog wx = .ok (.string (t.extract 0 i)) wx := fun wx => by
        have := run_slice_string_to_if (P := Tryd.prog) wx 9 t .i64 (i : Int) Tryd.underlying9
        rw [if_pos (by omega)] at this
        simpa using this
      have hsr : ∀ wx : World, (Instr.slice 9 (.string t) (some (i64 ((i : Int) + 1))) none none).run Tryd.prog wx = .ok (.string (t.extract (i + 1) t.size)) wx := fun wx => by
        have := run_slice_string_from_if (P := Tryd.prog) wx 9 t .i64 ((i + 1 : Nat) : Int) Tryd.underlying9
        rw [if_pos (by omega)] at this
        simpa using this
      have hz0 : (t.extract 0 i).size = i := by rw [ByteArray.size_extract]; omega
      have hz1 : (t.extract (i + 1) t.size).size = t.size - (i + 1) := by rw [ByteArray.size_extract]; omega
      have e1 : ∀ wx, (Op.stringOp .add (t.extract 0 i) (t.extract (i + 1) t.size)).run Tryd.prog wx = .ok (.string (t.extract 0 i ++ t.extract (i + 1) t.size)) wx := fun wx => run_string_add_sum wx _ _ (by omega)
      have hz2 : (t.extract 0 i ++ t.extract (i + 1) t.size).size ≤ t.size + 1 := by rw [ByteArray.size_append]; omega
      clear hs2 hg2 S1 B1 G1 y0 y1 hz0 hz1
      go_upto_region 8 with (fail)
      refine wp_region_T (fun _ => True) 8 (by kernel_rfl) ?_
      refine wpAnyT_pure (i := 0) (v := ?_) rfl (by kernel_rfl) (by kernel_rfl) (by kernel_rfl) (by decide) (fun _ _ _ h => h) (Or.inl ⟨by rfl, ?_⟩) (fun _ => trivial) ?_
      rotate_left
      · intro w _; go_simp; try (with_reducible rfl)
      try simp only [Act.put, List.setIfInBounds_toArray, List.set_cons_zero, List.set_cons_succ]
      refine wpAnyT_pure (i := 1) (v := ?_) rfl (by kernel_rfl) (by kernel_rfl) (by kernel_rfl) (by decide) (fun _ _ _ h => h) (Or.inl ⟨by rfl, ?_⟩) (fun _ => trivial) ?_
      rotate_left
      · intro w _; go_simp; try (with_reducible rfl)
      try simp only [Act.put, List.setIfInBounds_toArray, List.set_cons_zero, List.set_cons_succ]
      refine wpAnyT_pure (i := 2) (v := ?_) rfl (by kernel_rfl) (by kernel_rfl) (by kernel_rfl) (by decide) (fun _ _ _ h => h) (Or.inl ⟨by rfl, ?_⟩) (fun _ => trivial) ?_
      rotate_left
      · intro w _; go_simp; try (with_reducible rfl)
      try simp only [Act.put, List.setIfInBounds_toArray, List.set_cons_zero, List.set_cons_succ]
      refine wpAnyT_pure (i := 3) (v := ?_) rfl (by kernel_rfl) (by kernel_rfl) (by kernel_rfl) (by decide) (fun _ _ _ h => h) (Or.inl ⟨by rfl, ?_⟩) (fun _ => trivial) ?_
      rotate_left
      · intro w _; go_simp; try (with_reducible rfl)
      try simp only [Act.put, List.setIfInBounds_toArray, List.set_cons_zero, List.set_cons_succ]
      refine wpAnyT_pure (i := 4) (v := ?_) rfl (by kernel_rfl) (by kernel_rfl) (by kernel_rfl) (by decide) (fun _ _ _ h => h) (Or.inl ⟨by rfl, ?_⟩) (fun _ => trivial) ?_
      rotate_left
      · intro w _; go_simp; try (with_reducible rfl)
      try simp only [Act.put, List.setIfInBounds_toArray, List.set_cons_zero, List.set_cons_succ]
      refine wpAnyT_pure (i := 5) (v := ?_) rfl (by kernel_rfl) (by kernel_rfl) (by kernel_rfl) (by decide) (fun _ _ _ h => h) (Or.inl ⟨by rfl, ?_⟩) (fun _ => trivial) ?_
      rotate_left
      · intro w _; go_simp; try (with_reducible rfl)
      try simp only [Act.put, List.setIfInBounds_toArray, List.set_cons_zero, List.set_cons_succ]
      refine wpAnyT_pure (i := 6) (v := ?_) rfl (by kernel_rfl) (by kernel_rfl) (by kernel_rfl) (by decide) (fun _ _ _ h => h) (Or.inl ⟨by rfl, ?_⟩) (fun _ => trivial) ?_
      rotate_left
      · intro w _; go_simp; try (with_reducible rfl)
      try simp only [Act.put, List.setIfInBounds_toArray, List.set_cons_zero, List.set_cons_succ]
      refine wpAnyT_pure (i := 7) (v := ?_) rfl (by kernel_rfl) (by kernel_rfl) (by kernel_rfl) (by decide) (fun _ _ _ h => h) (Or.inl ⟨by rfl, ?_⟩) (fun _ => trivial) ?_
      rotate_left
      · intro w _; go_simp; try (with_reducible rfl)
      try simp only [Act.put, List.setIfInBounds_toArray, List.set_cons_zero, List.set_cons_succ]
      refine wpAnyT_one (i := 8) (by kernel_rfl) rfl (fun K hK => ?_)
      go_simp
      refine hK.out _ _ (fun _ => trivial) ?_
      clear hK K
      try simp only [Act.put, List.setIfInBounds_toArray, List.set_cons_zero, List.set_cons_succ]
      refine wpAnyT_done (by kernel_rfl) ?_ _
      refine exit_gen (R := fun V => Hid (Below w2.heap.size w2 V)) (Lib.hid (by repeat (first | exact Below.refl _ _ | refine bl_tr ?_ _ | refine bl_al ?_ _ | refine bl_dr ?_ | refine bl_up ?_ _ | refine Below.drew ?_ | refine bl_alloc ?_ _ | refine Below.setCell ?_ (by first | (simp; done) | (simp; omega)) _))) (fun V z => ?_)
      have S3 := Lib.hid (S2.out.bel z.out)
      have G3 := Lib.hid (gr_up G2.out ⟨V, z.out⟩)
      clear S2
      go_wp2_with fail
      go_ret
      exact ⟨_, k2, rfl, hz2, by omega, S3.out, G3.out⟩
  · have u0 : (x == 0) = false := by rw [beq_eq_false_iff_ne]; exact t0
    have u1 : (x == 1) = false := by rw [beq_eq_false_iff_ne]; exact t1
    go_wp2_with fail
    go_ret
    exact ⟨t, k1, rfl, by omega, by omega, S1.out, G1.out⟩
end Go.Proofs.YtiagckbdofeecaaDoor

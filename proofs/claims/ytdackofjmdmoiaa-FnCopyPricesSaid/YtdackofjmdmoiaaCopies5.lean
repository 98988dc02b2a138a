/-
  FnCopyPrices: what the reference's draws hand back, and the law's walk. No condition but the bounds that stand at each.
-/
import Derived.Test.YtdackofjmdmoiaaCopies4
import Derived.Test.YtdackofjmdmoiaaSrc
namespace Go.Proofs.Ytdackofjmdmoiaa
open Go.RowKit
def CarPost (w : World) (b : Nat) (e : Ending) (w' : World) : Prop := ∃ f l le : Int, e = .returned (car f l le) ∧ vC f l le = true ∧ w.grownBy w' (some b)
theorem l13Draw_any (b : Nat) (A : Option Addr) (n c k : Nat) (w : World) (h : SrcAt w b A n c k) (hb : Byt w b A n) (hk : k ≤ 800000) (hn : n ≤ 1000000) :
    Calls Try.prog 36 #[.pointer (some ⟨b, 0, none⟩)] w (CarPost w b) := by
  have hlt := h.lt
  go_enter Try.func36, Try.ntmps36
  go_wp2_with fail
  refine (pick_any b A n c k 60 _ (h.alloc _) (hb.alloc _) (by omega) hn (by omega)).mono ?_
  rintro e w1 ⟨x, k1, rfl, x0, x1, hk1, hs1, hg1⟩
  have hb1 := (hb.alloc _).grown hg1
  have B0 := (Blk.new w _ _).grown hg1 (by simp; omega)
  have hl1 := hg1.size
  simp only [World.size_alloc] at hl1
  go_wp2_with fail
  refine (pick_any b A n c k1 80 _ (hs1.alloc _) (hb1.alloc _) (by omega) hn (by omega)).mono ?_
  rintro e w2 ⟨y, k2, rfl, y0, y1, hk2, hs2, hg2⟩
  have hb2 := (hb1.alloc _).grown hg2
  have B0 := (B0.alloc _).grown hg2 (by simp; omega)
  have B1 := (Blk.new w1 _ _).grown hg2 (by simp; omega)
  have hl2 := hg2.size
  simp only [World.size_alloc] at hl2
  have c1 := fun i => B1.cell i
  have f1 := fun i => B1.free i
  go_wp2_with fail
  refine (pick_any b A n c k2 (50 + 5 * x) _ (hs2.far (by simp; omega) _) (hb2.far (by simp; omega) _) (by omega) hn (by omega)).mono ?_
  rintro e w3 ⟨z, k3, rfl, z0, z1, hk3, hs3, hg3⟩
  have B0 := (B0.far (by simp; omega) _).grown hg3 (by simp; omega)
  have B1 := (B1.put 1 _).grown hg3 (by simp; omega)
  clear c1 f1
  have c1 := fun i => B1.cell i
  have f1 := fun i => B1.free i
  have c0 := fun i => B0.cell i
  have f0 := fun i => B0.free i
  go_wp2_with fail
  refine bodyPost_ret (v := car (50 + 5 * x) (5 + y) (1 + z)) (by simp [results, Try.results36, go_sem, c0]) rfl ⟨_, _, _, rfl, ?_, ?_⟩
  · go_light
    simp only [vC, btw]
    rw [Bool.eq_iff_iff]
    simp
    omega
  · exact gr_new (gr_new (gr_new (gr_new (gr_by (gr_new (gr_by (gr_alloc (gr_by (gr_alloc (grown_refl _ _) _) hg1) _) hg2) (by simp; omega) _) hg3) (by simp; omega) _) (by simp) _) (by simp) _) (by simp) _
def ValCar (w : World) (e : Ending) (w' : World) : Prop := ∃ f l le : Int, e = .returned (car f l le) ∧ vC f l le = true ∧ UpOf w w'
def ValWay (w : World) (e : Ending) (w' : World) : Prop := ∃ t s st p : Int, e = .returned (way t s st p) ∧ vW t s st p = true ∧ UpOf w w'
theorem up_of_row {w w' : World} {b : Nat} (h : w.grownBy w' (some b)) (hb : w.heap.size ≤ b) : UpOf w w' :=
  up_of_grown (Below.refl _ _) h fun k hk => by injection hk; omega
theorem row_drop {a w : World} {b : Nat} (h : a.grownBy w (some b)) (hb : a.heap.size ≤ b) : a.grownBy w none := ⟨h.os, h.tape, h.output, h.size, fun k hk _ => h.block k hk (fun e => by injection e; omega)⟩
set_option maxRecDepth 10000 in
theorem a2Carbon_any (A : Option Addr) (n c : Nat) (zs : List Int) (w : World) (hz : ∀ z ∈ zs, 0 ≤ z ∧ z ≤ 255) (h : Rds w 1 A n (bytes zs)) (hn : n ≤ 1000000) :
    Calls Try.prog 22 #[.slice A n c] w (ValCar w) := by
  go_enter Try.func22, Try.ntmps22
  go_wp2_with (go_at_call 37; refine (l00From_any _ _ _ _).mono ?_; rintro e w' ⟨rfl, rfl⟩)
  have hs := src_new (w.alloc (.cells #[i64 0, i64 0, i64 0] 33)) A n c
  have hy := byt_new hz (h.alloc (.cells #[i64 0, i64 0, i64 0] 33)) (.cells #[.slice A n c, .int .i64 0, .int .u64 0] 61)
  simp only [World.size_alloc] at hs hy
  refine (l13Draw_any _ A n c 0 _ hs hy (by omega) hn).mono ?_
  rintro e w1 ⟨f, l, le, rfl, hv, hg⟩
  have B0 := ((Blk.new w _ _).alloc _).grown hg (by simp)
  have hl := hg.size
  simp only [World.size_alloc] at hl
  have c0 := fun i => B0.cell i
  have f0 := fun i => B0.free i
  have HV := Lib.hid hv
  clear hv
  go_wp2_with fail
  refine bodyPost_ret (v := car f l le) (by simp [results, Try.results22, go_sem, c0]) rfl ⟨_, _, _, rfl, HV.out, ?_⟩
  exact up_of_row (b := w.heap.size + 1) (gr_new (gr_new (gr_new (gr_by (gr_alloc (gr_alloc (grown_refl _ _) _) _) (by simpa using hg)) (by simp) _) (by simp) _) (by simp) _) (by omega)
set_option maxRecDepth 10000 in
theorem a2Ways_any (A : Option Addr) (n c : Nat) (zs : List Int) (w : World) (hz : ∀ z ∈ zs, 0 ≤ z ∧ z ≤ 255) (h : Rds w 1 A n (bytes zs)) (hn : n ≤ 1000000) :
    Calls Try.prog 23 #[.slice A n c] w (ValWay w) := by
  go_enter Try.func23, Try.ntmps23
  go_wp2_with (go_at_call 37; refine (l00From_any _ _ _ _).mono ?_; rintro e w' ⟨rfl, rfl⟩)
  have hs := src_new (w.alloc (.cells #[i64 0, i64 0, i64 0, i64 0] 35)) A n c
  have hy := byt_new hz (h.alloc (.cells #[i64 0, i64 0, i64 0, i64 0] 35)) (.cells #[.slice A n c, .int .i64 0, .int .u64 0] 61)
  simp only [World.size_alloc] at hs hy
  refine (pick_any _ A n c 0 60 _ hs hy (by omega) hn (by omega)).mono ?_
  rintro e w1 ⟨x, k1, rfl, x0, x1, hk1, hs1, hg1⟩
  have hb1 := hy.grown hg1
  have B0 := ((Blk.new w _ _).alloc _).grown hg1 (by simp)
  have hl1 := hg1.size
  simp only [World.size_alloc] at hl1
  go_wp2_with fail
  refine (pick_any _ A n c k1 12 _ (hs1.alloc _) (hb1.alloc _) (by omega) hn (by omega)).mono ?_
  rintro e w2 ⟨y, k2, rfl, y0, y1, hk2, hs2, hg2⟩
  have hb2 := (hb1.alloc _).grown hg2
  have B0 := (B0.alloc _).grown hg2 (by simp)
  have B1 := (Blk.new w1 _ _).grown hg2 (by simp; omega)
  have hl2 := hg2.size
  simp only [World.size_alloc] at hl2
  have c1 := fun i => B1.cell i
  have f1 := fun i => B1.free i
  go_wp2_with fail
  refine (pick_any _ A n c k2 190 _ (hs2.far (by simp; omega) _) (hb2.far (by simp; omega) _) (by omega) hn (by omega)).mono ?_
  rintro e w3 ⟨z, k3, rfl, z0, z1, hk3, hs3, hg3⟩
  have hb3 := (hb2.far (by simp; omega) _).grown hg3
  have B0 := (B0.far (by simp; omega) _).grown hg3 (by simp)
  have B1 := (B1.put 1 _).grown hg3 (by simp; omega)
  have hl3 := hg3.size
  simp only [World.size_setCell] at hl3
  clear c1 f1
  have c1 := fun i => B1.cell i
  have f1 := fun i => B1.free i
  go_wp2_with fail
  refine (pick_any _ A n c k3 12 _ (hs3.far (by simp; omega) _) (hb3.far (by simp; omega) _) (by omega) hn (by omega)).mono ?_
  rintro e w4 ⟨u, k4, rfl, u0, u1, hk4, hs4, hg4⟩
  have B0 := (B0.far (by simp; omega) _).grown hg4 (by simp)
  have B1 := (B1.put 2 _).grown hg4 (by simp; omega)
  clear c1 f1
  have c1 := fun i => B1.cell i
  have f1 := fun i => B1.free i
  have c0 := fun i => B0.cell i
  have f0 := fun i => B0.free i
  go_wp2_with fail
  refine bodyPost_ret (v := way (1 + x) (1 + y) (1 + z) (1 + u)) (by simp [results, Try.results23, go_sem, c0]) rfl ⟨_, _, _, _, rfl, ?_, ?_⟩
  · go_light
    simp only [vW, btw]
    rw [Bool.eq_iff_iff]
    simp
    omega
  · exact up_of_row (b := w.heap.size + 1) (gr_new (gr_new (gr_new (gr_new (gr_new (gr_by (gr_new (gr_by (gr_new (gr_by (gr_alloc (gr_by (gr_alloc (gr_alloc (grown_refl _ _) _) _) hg1) _) hg2) (by simp; omega) _) hg3) (by simp; omega) _) hg4) (by simp; omega) _) (by simp) _) (by simp) _) (by simp) _) (by simp) _) (by omega)

theorem a2Long_any (A B : Option Addr) (n c m d : Nat) (w : World) (hn : n ≤ 9223372036854775807) (hm : m ≤ 9223372036854775807) :
    Calls Try.prog 21 #[.slice A n c, .slice B m d] w fun e w' => e = .returned (.bool (decide (3000 < n ∨ 3000 < m))) ∧ UpOf w w' := by
  go_enter Try.func21, Try.ntmps21
  go_wp2_with (first | (refine wp_region_up (by kernel_rfl) (by kernel_rfl) ?_; (repeat (go_big_quiet_step (fail))); refine wpQuiet_nil ?_; intro _ hw'; obtain ⟨nq, hw''⟩ := hw'; subst hw''))
  all_goals go_ret
  all_goals (refine ⟨?_, UpOf.of (by repeat (first | exact Below.refl _ _ | refine bl_up ?_ _ | refine Below.drew ?_ | refine bl_alloc ?_ _ | refine Below.setCell ?_ (by simp) _))⟩; apply ret_bool; go_light; rw [Bool.eq_iff_iff]; simp; try omega)
def AtPost (w : World) (m : Int) (e : Ending) (w' : World) : Prop := ∃ x : Int, e = .returned (i64 x) ∧ 0 ≤ x ∧ (x < m ∨ x = 0) ∧ UpOf w w'
theorem a2At_any (A : Option Addr) (n c : Nat) (k m : Int) (zs : List Int) (w : World) (hz : ∀ z ∈ zs, 0 ≤ z ∧ z ≤ 255) (h : Rds w 1 A n (bytes zs)) (hn : n ≤ 1000000) (hk : 0 ≤ k) (hm : 1 ≤ m) :
    Calls Try.prog 24 #[.slice A n c, i64 k, i64 m] w (AtPost w m) := by
  by_cases hlt : k < n
  · obtain ⟨k, rfl⟩ := Int.eq_ofNat_of_zero_le hk
    obtain ⟨b', off, rfl, hb', hc⟩ := h.at (by omega)
    have hl := h.1
    simp only [bytes, List.length_map, Nat.mul_one] at hl
    have c3 : w.cell? ⟨b', off + k, none⟩ = some (.int .u8 (zs[k]'(by omega))) := hc k _ (by simp [bytes])
    have hz' := hz zs[k] (List.getElem_mem _)
    generalize zs[k] = z at *
    clear hc hz hl h
    go_enter Try.func24, Try.ntmps24
    go_wp2_with (first | (refine wp_region_up (by kernel_rfl) (by kernel_rfl) ?_; (repeat (go_big_quiet_step (fail))); refine wpQuiet_nil ?_; intro _ hw'; obtain ⟨nq, hw''⟩ := hw'; subst hw''))
    go_ret
    exact ⟨z % m, rfl, Int.emod_nonneg _ (by omega), .inl (Int.emod_lt_of_pos _ (by omega)), UpOf.of (by repeat (first | exact Below.refl _ _ | refine bl_up ?_ _ | refine Below.drew ?_ | refine bl_alloc ?_ _ | refine Below.setCell ?_ (by simp) _))⟩
  · go_enter Try.func24, Try.ntmps24
    go_wp2_with (first | (refine wp_region_up (by kernel_rfl) (by kernel_rfl) ?_; (repeat (go_big_quiet_step (fail))); refine wpQuiet_nil ?_; intro _ hw'; obtain ⟨nq, hw''⟩ := hw'; subst hw''))
    go_ret
    exact ⟨0, rfl, by omega, .inr rfl, UpOf.of (by repeat (first | exact Below.refl _ _ | refine bl_up ?_ _ | refine Below.drew ?_ | refine bl_alloc ?_ _ | refine Below.setCell ?_ (by simp) _))⟩
/-! the plain law -/
theorem stI_min (T : Int → Int) (k : Nat) (hT : ∀ n : Nat, n < k → 0 ≤ T n) (hk : 0 < k) : ∃ j : Nat, j < k ∧ stI T k = ((j : Int), T j) ∧ (∀ i : Nat, i < k → T j ≤ T i) ∧ ∀ i : Nat, i < j → T j < T i := by
  induction k with
  | zero => omega
  | succ k ih =>
    rw [stI]
    by_cases hk0 : k = 0
    · subst hk0
      refine ⟨0, by omega, by simp [stI], fun i hi => ?_, fun i hi => by omega⟩
      obtain rfl : i = 0 := by omega
      exact Int.le_refl _
    · obtain ⟨j, hj, he, h1, h2⟩ := ih (fun n hn => hT n (by omega)) (by omega)
      rw [he]
      have hj0 := hT j (by omega)
      by_cases hc : T k < T j
      · rw [if_pos (.inr hc)]
        refine ⟨k, by omega, rfl, fun i hi => ?_, fun i hi => ?_⟩
        · by_cases hik : i = k
          · subst hik; exact Int.le_refl _
          · have := h1 i (by omega); omega
        · have := h1 i (by omega); omega
      · rw [if_neg (by simp; omega)]
        refine ⟨j, by omega, rfl, fun i hi => ?_, h2⟩
        by_cases hik : i = k
        · subst hik; omega
        · exact h1 i (by omega)
theorem firstFrom_some {P : Int → Bool} {k : Nat} {n m : Int} (h : firstFrom P k n = some m) : n ≤ m ∧ m < n + k ∧ P m = true ∧ (m = n ∨ P (m - 1) = false) := by
  induction k generalizing n with
  | zero => simp [firstFrom] at h
  | succ k ih =>
    rw [firstFrom] at h
    by_cases hp : P n = true
    · rw [if_pos hp] at h
      injection h with h
      subst h
      exact ⟨by omega, by omega, hp, .inl rfl⟩
    · rw [if_neg hp] at h
      obtain ⟨h1, h2, h3, h4⟩ := ih h
      refine ⟨by omega, by omega, h3, .inr ?_⟩
      rcases h4 with h4 | h4
      · rw [h4]; simpa using hp
      · exact h4
end Go.Proofs.Ytdackofjmdmoiaa

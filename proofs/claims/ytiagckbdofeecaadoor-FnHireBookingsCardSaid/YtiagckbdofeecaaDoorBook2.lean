/-
  A hire put into hires in order: the reference's l25Put; BookHire, of the program and of the reference.
-/
import Derived.Test.YtiagckbdofeecaaDoorBook
namespace Go.Proofs.YtiagckbdofeecaaDoor
open Go.RowKit
theorem before_trans {a b c : Hire} (h1 : before a b = true) (h2 : before b c = true) : before a c = true := by
  simp [before] at *; omega
theorem before_asym {a b : Hire} (h1 : before a b = true) : before b a = false := by
  simp [before] at *; omega
theorem vHires_sort {l : List Hire} {n : Int} (h : vHires l n = true) {i j : Nat} (hij : i < j) (hj : j < l.length) : before (hat l i) (hat l j) = true := by
  have step : ∀ i, i + 1 < l.length → before (hat l i) (hat l (i + 1)) = true := fun i hi => by
    simp only [vHires, Bool.and_eq_true, decide_eq_true_eq, List.all_eq_true, List.mem_range] at h
    have := h.2 (i + 1) hi
    simp only [okAt, okHead, Bool.and_eq_true, Bool.or_eq_true, decide_eq_true_eq] at this
    rcases this.1.2 with h0 | h0
    · omega
    · simpa using h0
  induction j with
  | zero => omega
  | succ j ih =>
    rcases Nat.lt_succ_iff_lt_or_eq.1 hij with h' | h'
    · exact before_trans (ih h' (by omega)) (step j hj)
    · subst h'; exact step i hj
/-- a hire whose days are free is not at the place of another one -/
theorem free_ne {l : List Hire} {n : Int} {x : Hire} (h : vHires l n = true) (hx : x.f < x.t) (hf : free l x.m x.f x.t = true) {i : Nat} (hi : i < l.length) : before (hat l i) x = true ∨ before x (hat l i) = true := by
  have h1 := free_not hf hi
  have h2 := vHire_bd (vHires_one h hi).1
  simp [meet] at h1
  simp [before]
  omega
theorem put_N {l : List Hire} {x : Hire} {k : Nat} (hs : ∀ i j, i < j → j < l.length → before (hat l i) (hat l j) = true) (hne : ∀ i, i < l.length → before (hat l i) x = true ∨ before x (hat l i) = true) (hk : k ≤ l.length)
    (h : ∀ i, k ≤ i → i < l.length → before x (hat l i) = true) (he : 0 < k → before x (hat l (k - 1)) = false) : insN l x = k := by
  refine insN_eq hk (fun i hi => ?_) (fun hlt => before_asym (h k (Nat.le_refl _) hlt))
  have h1 : before (hat l (k - 1)) x = true := by
    rcases hne (k - 1) (by omega) with h' | h'
    · exact h'
    · rw [he (by omega)] at h'; cases h'
  rcases Nat.lt_or_ge i (k - 1) with h2 | h2
  · exact before_trans (hs i (k - 1) h2 (by omega)) h1
  · obtain rfl : i = k - 1 := by omega
    exact h1
theorem ext_down {P : Nat → Prop} {k n : Nat} (h : ∀ i, k ≤ i → i < n → P i) (hk : P (k - 1)) : ∀ i, k - 1 ≤ i → i < n → P i := fun i hi hn => by
  rcases Nat.lt_or_ge i k with h' | h'
  · obtain rfl : i = k - 1 := by omega
    exact hk
  · exact h i h' hn
set_option maxRecDepth 10000 in
set_option maxHeartbeats 1000000 in
theorem l25Put_any (b off c : Nat) (l : List Hire) (x : Hire) (w : World) (h : Rds w 3 (some ⟨b, off, none⟩) l.length (hcs l)) (hn : l.length ≤ 100000000) (hcap : l.length ≤ c)
    (hs : ∀ i j, i < j → j < l.length → before (hat l i) (hat l j) = true) (hne : ∀ i, i < l.length → before (hat l i) x = true ∨ before x (hat l i) = true) :
    Calls Tryd.prog 46 #[.slice (some ⟨b, off, none⟩) l.length c, hv x] w fun e w' => ∃ A' c', e = .returned (.slice A' (l.length + 1) c') ∧ w'.ownsRow w.heap.size 25 3 (.slice A' (l.length + 1) c') (l.length + 1) (hcs (insAt l (insN l x) x)) ∧ UpOf w w' := by
  have HS := Lib.hid hs
  have HN := Lib.hid hne
  clear hs hne
  go_enter Tryd.func46, Tryd.ntmps46
  go_wp2_with (first | ((with_reducible refine wp_region_up (by kernel_rfl) (by kernel_rfl) ?_); (repeat (go_big_quiet_step (fail))); refine wpQuiet_nil ?_; intro _ hw'; obtain ⟨nq, hw''⟩ := hw'; subst hw''))
  have hA := h.alloc (.cells #[i64 x.m, i64 x.f, i64 x.t] 25)
  have hx : At (w.alloc (.cells #[i64 x.m, i64 x.f, i64 x.t] 25)) w.heap.size 0 x := At.new
  have hB : Below w.heap.size w (w.alloc (.cells #[i64 x.m, i64 x.f, i64 x.t] 25)) := (Below.refl _ _).alloc (Nat.le_refl _) _
  revert hA hx hB
  generalize w.alloc (.cells #[i64 x.m, i64 x.f, i64 x.t] 25) = W
  intro hA hx hB
  have HX := Lib.hid hx
  obtain ⟨hb0, x0, x1, x2⟩ := hx
  have HB := Lib.hid hB
  clear h hB
  go_loopw [5] (fun i wr => ∃ k : Nat, k ≤ l.length ∧ i = i64 k ∧ Hid (∀ i, k ≤ i → i < l.length → before x (hat l i) = true) ∧ ∃ g : Up W, wr = up W g) (fun i _ => (intOf i).toNat)
  case atStart => exact ⟨l.length, by omega, rfl, fun i hi hi2 => by omega, ex_up (by repeat (first | exact Below.refl _ _ | refine bl_tr ?_ _ | refine bl_al ?_ _ | refine bl_dr ?_ | refine bl_up ?_ _ | refine Below.drew ?_ | refine bl_alloc ?_ _ | refine Below.setCell ?_ (by first | (simp; done) | (simp; omega)) _))⟩
  case round =>
    obtain ⟨k, hk, rfl, hme, g, rfl⟩ := hrel
    have hk0 : (0 : Int) ≤ (k : Int) := by omega
    have hk1 : (k : Int) ≤ (l.length : Int) := by omega
    have hk2 : (k : Int) ≤ (c : Int) := by omega
    by_cases hlt : 0 < k
    · obtain ⟨b', off', e', hb, ha⟩ := hire_at' hA (k := k - 1) (by omega)
      injection e' with e'
      injection e' with e1 e2
      subst e1 e2
      have hat1 := Lib.hid (ha (k - 1) (by omega))
      have hk3 : (1 : Int) ≤ (k : Int) := by omega
      have hk4 : ((k : Int) - 1).toNat = k - 1 := by omega
      clear ha
      cases q1 : before x (hat l (k - 1))
      · have hN := Lib.hid (put_N HS.out HN.out hk hme.out (fun _ => q1))
        by_cases hck : c = k
        · go_wp2_with (first | (go_at_call 69; refine (ret_as (l25Before_any _ _ _ _ _ _ _ (HX.out.up _) (hat1.out.up _)) q1).mono ?_; rintro e w' ⟨rfl, g, rfl⟩) | (at_builtin; have _q := o2; refine wpl_appU rfl _ _ 34 rfl W W.heap.size 25 _ 3 24 el_hire _ (k + 1) _ rfl o2 _ (l.length - k) _ _ rfl (by first | exact (hA.suf hk).below (by repeat (first | exact Below.refl _ _ | refine bl_tr ?_ _ | refine bl_al ?_ _ | refine bl_dr ?_ | refine bl_up ?_ _ | refine Below.drew ?_ | refine bl_alloc ?_ _ | refine Below.setCell ?_ (by first | (simp; done) | (simp; omega)) _)) | (refine Rds.nilled (hA.suf hk) (by omega))) (fun u hu => hcs_one l u (List.mem_of_mem_drop hu)) (by unfold maxLen; omega) (by omega) (up_below _ _).size (by repeat (first | exact Below.refl _ _ | refine bl_tr ?_ _ | refine bl_al ?_ _ | refine bl_dr ?_ | refine bl_up ?_ _ | refine Below.drew ?_ | refine bl_alloc ?_ _ | refine Below.setCell ?_ (by first | (simp; done) | (simp; omega)) _)) (Nat.le_refl _) ?_; intro A3 c3' g3 o3) | (at_builtin; have _q := o1; refine wpl_appU rfl _ _ 34 rfl W W.heap.size 25 _ 3 24 el_hire _ k _ rfl (own_below o1 (by repeat (first | exact Below.refl _ _ | refine bl_tr ?_ _ | refine bl_al ?_ _ | refine bl_dr ?_ | refine bl_up ?_ _ | refine Below.drew ?_ | refine bl_alloc ?_ _ | refine Below.setCell ?_ (by first | (simp; done) | (simp; omega)) _))) _ 1 1 [i64 x.m, i64 x.f, i64 x.t] rfl (rds_new _ _ _ 3 1 rfl) (fun u hu => by simp at hu; obtain rfl | rfl | rfl := hu <;> rfl) (by unfold maxLen; omega) (by omega) (up_below _ _).size (by repeat (first | exact Below.refl _ _ | refine bl_tr ?_ _ | refine bl_al ?_ _ | refine bl_dr ?_ | refine bl_up ?_ _ | refine Below.drew ?_ | refine bl_alloc ?_ _ | refine Below.setCell ?_ (by first | (simp; done) | (simp; omega)) _)) (Nat.le_refl _) ?_; intro A2 c2' g2 o2) | (at_builtin; refine wpl_appU rfl _ _ 34 rfl W W.heap.size 25 _ 3 24 el_hire _ 0 [] rfl (World.ownsRow_lit _ #[] 0 (up_below _ _).size (by unfold maxLen; omega) rfl) _ k _ _ rfl ((hA.pre hk).below (by repeat (first | exact Below.refl _ _ | refine bl_tr ?_ _ | refine bl_al ?_ _ | refine bl_dr ?_ | refine bl_up ?_ _ | refine Below.drew ?_ | refine bl_alloc ?_ _ | refine Below.setCell ?_ (by first | (simp; done) | (simp; omega)) _))) (fun u hu => hcs_one l u (List.mem_of_mem_take hu)) (by unfold maxLen; omega) (by omega) (up_below _ _).size (by repeat (first | exact Below.refl _ _ | refine bl_tr ?_ _ | refine bl_al ?_ _ | refine bl_dr ?_ | refine bl_up ?_ _ | refine Below.drew ?_ | refine bl_alloc ?_ _ | refine Below.setCell ?_ (by first | (simp; done) | (simp; omega)) _)) (Nat.le_refl _) ?_; intro A1 c1' g1 o1; simp only [Nat.zero_add, List.nil_append] at o1) | ((with_reducible refine wp_region_up (by kernel_rfl) (by kernel_rfl) ?_); (repeat (go_big_quiet_step (first | (go_at_call 69; first | exact upq_tr (ret_as (l25Before_any _ _ _ _ _ _ _ (HX.out.up _) (hat1.out.up _)) q1) | exact upq (ret_as (l25Before_any _ _ _ _ _ _ _ (HX.out.up _) (hat1.out.up _)) q1))))); refine wpQuiet_nil ?_; intro _ hw'; obtain ⟨nq, hw''⟩ := hw'; subst hw''))
          go_ret
          have hL : k + 1 + (l.length - k) = l.length + 1 := by omega
          rw [hL] at o3 ⊢
          exact ⟨_, _, rfl, by rw [hN.out, insAt, hcs_app, hcs_app, hcs_take, hcs_drop]; exact own_mono o3 HB.out.size, UpOf.of (HB.out.trans ((up_below W g3).mono HB.out.size))⟩
        · go_wp2_with (first | (go_at_call 69; refine (ret_as (l25Before_any _ _ _ _ _ _ _ (HX.out.up _) (hat1.out.up _)) q1).mono ?_; rintro e w' ⟨rfl, g, rfl⟩) | (at_builtin; have _q := o2; refine wpl_appU rfl _ _ 34 rfl W W.heap.size 25 _ 3 24 el_hire _ (k + 1) _ rfl o2 _ (l.length - k) _ _ rfl (by first | exact (hA.suf hk).below (by repeat (first | exact Below.refl _ _ | refine bl_tr ?_ _ | refine bl_al ?_ _ | refine bl_dr ?_ | refine bl_up ?_ _ | refine Below.drew ?_ | refine bl_alloc ?_ _ | refine Below.setCell ?_ (by first | (simp; done) | (simp; omega)) _)) | (refine Rds.nilled (hA.suf hk) (by omega))) (fun u hu => hcs_one l u (List.mem_of_mem_drop hu)) (by unfold maxLen; omega) (by omega) (up_below _ _).size (by repeat (first | exact Below.refl _ _ | refine bl_tr ?_ _ | refine bl_al ?_ _ | refine bl_dr ?_ | refine bl_up ?_ _ | refine Below.drew ?_ | refine bl_alloc ?_ _ | refine Below.setCell ?_ (by first | (simp; done) | (simp; omega)) _)) (Nat.le_refl _) ?_; intro A3 c3' g3 o3) | (at_builtin; have _q := o1; refine wpl_appU rfl _ _ 34 rfl W W.heap.size 25 _ 3 24 el_hire _ k _ rfl (own_below o1 (by repeat (first | exact Below.refl _ _ | refine bl_tr ?_ _ | refine bl_al ?_ _ | refine bl_dr ?_ | refine bl_up ?_ _ | refine Below.drew ?_ | refine bl_alloc ?_ _ | refine Below.setCell ?_ (by first | (simp; done) | (simp; omega)) _))) _ 1 1 [i64 x.m, i64 x.f, i64 x.t] rfl (rds_new _ _ _ 3 1 rfl) (fun u hu => by simp at hu; obtain rfl | rfl | rfl := hu <;> rfl) (by unfold maxLen; omega) (by omega) (up_below _ _).size (by repeat (first | exact Below.refl _ _ | refine bl_tr ?_ _ | refine bl_al ?_ _ | refine bl_dr ?_ | refine bl_up ?_ _ | refine Below.drew ?_ | refine bl_alloc ?_ _ | refine Below.setCell ?_ (by first | (simp; done) | (simp; omega)) _)) (Nat.le_refl _) ?_; intro A2 c2' g2 o2) | (at_builtin; refine wpl_appU rfl _ _ 34 rfl W W.heap.size 25 _ 3 24 el_hire _ 0 [] rfl (World.ownsRow_lit _ #[] 0 (up_below _ _).size (by unfold maxLen; omega) rfl) _ k _ _ rfl ((hA.pre hk).below (by repeat (first | exact Below.refl _ _ | refine bl_tr ?_ _ | refine bl_al ?_ _ | refine bl_dr ?_ | refine bl_up ?_ _ | refine Below.drew ?_ | refine bl_alloc ?_ _ | refine Below.setCell ?_ (by first | (simp; done) | (simp; omega)) _))) (fun u hu => hcs_one l u (List.mem_of_mem_take hu)) (by unfold maxLen; omega) (by omega) (up_below _ _).size (by repeat (first | exact Below.refl _ _ | refine bl_tr ?_ _ | refine bl_al ?_ _ | refine bl_dr ?_ | refine bl_up ?_ _ | refine Below.drew ?_ | refine bl_alloc ?_ _ | refine Below.setCell ?_ (by first | (simp; done) | (simp; omega)) _)) (Nat.le_refl _) ?_; intro A1 c1' g1 o1; simp only [Nat.zero_add, List.nil_append] at o1) | ((with_reducible refine wp_region_up (by kernel_rfl) (by kernel_rfl) ?_); (repeat (go_big_quiet_step (first | (go_at_call 69; first | exact upq_tr (ret_as (l25Before_any _ _ _ _ _ _ _ (HX.out.up _) (hat1.out.up _)) q1) | exact upq (ret_as (l25Before_any _ _ _ _ _ _ _ (HX.out.up _) (hat1.out.up _)) q1))))); refine wpQuiet_nil ?_; intro _ hw'; obtain ⟨nq, hw''⟩ := hw'; subst hw''))
          go_ret
          have hL : k + 1 + (l.length - k) = l.length + 1 := by omega
          rw [hL] at o3 ⊢
          exact ⟨_, _, rfl, by rw [hN.out, insAt, hcs_app, hcs_app, hcs_take, hcs_drop]; exact own_mono o3 HB.out.size, UpOf.of (HB.out.trans ((up_below W g3).mono HB.out.size))⟩
      · have hm' := Lib.hid q1
        go_wp2_with (first | (go_at_call 69; refine (ret_as (l25Before_any _ _ _ _ _ _ _ (HX.out.up _) (hat1.out.up _)) q1).mono ?_; rintro e w' ⟨rfl, g, rfl⟩) | ((with_reducible refine wp_region_up (by kernel_rfl) (by kernel_rfl) ?_); (repeat (go_big_quiet_step (first | (go_at_call 69; first | exact upq_tr (ret_as (l25Before_any _ _ _ _ _ _ _ (HX.out.up _) (hat1.out.up _)) q1) | exact upq (ret_as (l25Before_any _ _ _ _ _ _ _ (HX.out.up _) (hat1.out.up _)) q1))))); refine wpQuiet_nil ?_; intro _ hw'; obtain ⟨nq, hw''⟩ := hw'; subst hw''))
        go_roundw
        case rel => have hx := ext_down (P := fun i => before x (hat l i) = true) hme.out hm'.out; exact ⟨k - 1, by omega, by go_num, hx, ex_up (by repeat (first | exact Below.refl _ _ | refine bl_tr ?_ _ | refine bl_al ?_ _ | refine bl_dr ?_ | refine bl_up ?_ _ | refine Below.drew ?_ | refine bl_alloc ?_ _ | refine Below.setCell ?_ (by first | (simp; done) | (simp; omega)) _))⟩
        case measure => (simp [intOf]; try omega)
    · have hN := Lib.hid (put_N HS.out HN.out hk hme.out (fun h => by omega))
      have hlt' : ¬ (0 : Int) < (k : Int) := by omega
      by_cases hck : c = k
      · · go_wp2_with (first | (go_at_call 69; refine (UpOf.refl).mono ?_; rintro e w' ⟨rfl, g, rfl⟩) | (at_builtin; have _q := o2; refine wpl_appU rfl _ _ 34 rfl W W.heap.size 25 _ 3 24 el_hire _ (k + 1) _ rfl o2 _ (l.length - k) _ _ rfl (by first | exact (hA.suf hk).below (by repeat (first | exact Below.refl _ _ | refine bl_tr ?_ _ | refine bl_al ?_ _ | refine bl_dr ?_ | refine bl_up ?_ _ | refine Below.drew ?_ | refine bl_alloc ?_ _ | refine Below.setCell ?_ (by first | (simp; done) | (simp; omega)) _)) | (refine Rds.nilled (hA.suf hk) (by omega))) (fun u hu => hcs_one l u (List.mem_of_mem_drop hu)) (by unfold maxLen; omega) (by omega) (up_below _ _).size (by repeat (first | exact Below.refl _ _ | refine bl_tr ?_ _ | refine bl_al ?_ _ | refine bl_dr ?_ | refine bl_up ?_ _ | refine Below.drew ?_ | refine bl_alloc ?_ _ | refine Below.setCell ?_ (by first | (simp; done) | (simp; omega)) _)) (Nat.le_refl _) ?_; intro A3 c3' g3 o3) | (at_builtin; have _q := o1; refine wpl_appU rfl _ _ 34 rfl W W.heap.size 25 _ 3 24 el_hire _ k _ rfl (own_below o1 (by repeat (first | exact Below.refl _ _ | refine bl_tr ?_ _ | refine bl_al ?_ _ | refine bl_dr ?_ | refine bl_up ?_ _ | refine Below.drew ?_ | refine bl_alloc ?_ _ | refine Below.setCell ?_ (by first | (simp; done) | (simp; omega)) _))) _ 1 1 [i64 x.m, i64 x.f, i64 x.t] rfl (rds_new _ _ _ 3 1 rfl) (fun u hu => by simp at hu; obtain rfl | rfl | rfl := hu <;> rfl) (by unfold maxLen; omega) (by omega) (up_below _ _).size (by repeat (first | exact Below.refl _ _ | refine bl_tr ?_ _ | refine bl_al ?_ _ | refine bl_dr ?_ | refine bl_up ?_ _ | refine Below.drew ?_ | refine bl_alloc ?_ _ | refine Below.setCell ?_ (by first | (simp; done) | (simp; omega)) _)) (Nat.le_refl _) ?_; intro A2 c2' g2 o2) | (at_builtin; refine wpl_appU rfl _ _ 34 rfl W W.heap.size 25 _ 3 24 el_hire _ 0 [] rfl (World.ownsRow_lit _ #[] 0 (up_below _ _).size (by unfold maxLen; omega) rfl) _ k _ _ rfl ((hA.pre hk).below (by repeat (first | exact Below.refl _ _ | refine bl_tr ?_ _ | refine bl_al ?_ _ | refine bl_dr ?_ | refine bl_up ?_ _ | refine Below.drew ?_ | refine bl_alloc ?_ _ | refine Below.setCell ?_ (by first | (simp; done) | (simp; omega)) _))) (fun u hu => hcs_one l u (List.mem_of_mem_take hu)) (by unfold maxLen; omega) (by omega) (up_below _ _).size (by repeat (first | exact Below.refl _ _ | refine bl_tr ?_ _ | refine bl_al ?_ _ | refine bl_dr ?_ | refine bl_up ?_ _ | refine Below.drew ?_ | refine bl_alloc ?_ _ | refine Below.setCell ?_ (by first | (simp; done) | (simp; omega)) _)) (Nat.le_refl _) ?_; intro A1 c1' g1 o1; simp only [Nat.zero_add, List.nil_append] at o1) | ((with_reducible refine wp_region_up (by kernel_rfl) (by kernel_rfl) ?_); (repeat (go_big_quiet_step (first | (go_at_call 69; first | exact upq_tr (UpOf.refl) | exact upq (UpOf.refl))))); refine wpQuiet_nil ?_; intro _ hw'; obtain ⟨nq, hw''⟩ := hw'; subst hw''))
          go_ret
          have hL : k + 1 + (l.length - k) = l.length + 1 := by omega
          rw [hL] at o3 ⊢
          exact ⟨_, _, rfl, by rw [hN.out, insAt, hcs_app, hcs_app, hcs_take, hcs_drop]; exact own_mono o3 HB.out.size, UpOf.of (HB.out.trans ((up_below W g3).mono HB.out.size))⟩
      · · go_wp2_with (first | (go_at_call 69; refine (UpOf.refl).mono ?_; rintro e w' ⟨rfl, g, rfl⟩) | (at_builtin; have _q := o2; refine wpl_appU rfl _ _ 34 rfl W W.heap.size 25 _ 3 24 el_hire _ (k + 1) _ rfl o2 _ (l.length - k) _ _ rfl (by first | exact (hA.suf hk).below (by repeat (first | exact Below.refl _ _ | refine bl_tr ?_ _ | refine bl_al ?_ _ | refine bl_dr ?_ | refine bl_up ?_ _ | refine Below.drew ?_ | refine bl_alloc ?_ _ | refine Below.setCell ?_ (by first | (simp; done) | (simp; omega)) _)) | (refine Rds.nilled (hA.suf hk) (by omega))) (fun u hu => hcs_one l u (List.mem_of_mem_drop hu)) (by unfold maxLen; omega) (by omega) (up_below _ _).size (by repeat (first | exact Below.refl _ _ | refine bl_tr ?_ _ | refine bl_al ?_ _ | refine bl_dr ?_ | refine bl_up ?_ _ | refine Below.drew ?_ | refine bl_alloc ?_ _ | refine Below.setCell ?_ (by first | (simp; done) | (simp; omega)) _)) (Nat.le_refl _) ?_; intro A3 c3' g3 o3) | (at_builtin; have _q := o1; refine wpl_appU rfl _ _ 34 rfl W W.heap.size 25 _ 3 24 el_hire _ k _ rfl (own_below o1 (by repeat (first | exact Below.refl _ _ | refine bl_tr ?_ _ | refine bl_al ?_ _ | refine bl_dr ?_ | refine bl_up ?_ _ | refine Below.drew ?_ | refine bl_alloc ?_ _ | refine Below.setCell ?_ (by first | (simp; done) | (simp; omega)) _))) _ 1 1 [i64 x.m, i64 x.f, i64 x.t] rfl (rds_new _ _ _ 3 1 rfl) (fun u hu => by simp at hu; obtain rfl | rfl | rfl := hu <;> rfl) (by unfold maxLen; omega) (by omega) (up_below _ _).size (by repeat (first | exact Below.refl _ _ | refine bl_tr ?_ _ | refine bl_al ?_ _ | refine bl_dr ?_ | refine bl_up ?_ _ | refine Below.drew ?_ | refine bl_alloc ?_ _ | refine Below.setCell ?_ (by first | (simp; done) | (simp; omega)) _)) (Nat.le_refl _) ?_; intro A2 c2' g2 o2) | (at_builtin; refine wpl_appU rfl _ _ 34 rfl W W.heap.size 25 _ 3 24 el_hire _ 0 [] rfl (World.ownsRow_lit _ #[] 0 (up_below _ _).size (by unfold maxLen; omega) rfl) _ k _ _ rfl ((hA.pre hk).below (by repeat (first | exact Below.refl _ _ | refine bl_tr ?_ _ | refine bl_al ?_ _ | refine bl_dr ?_ | refine bl_up ?_ _ | refine Below.drew ?_ | refine bl_alloc ?_ _ | refine Below.setCell ?_ (by first | (simp; done) | (simp; omega)) _))) (fun u hu => hcs_one l u (List.mem_of_mem_take hu)) (by unfold maxLen; omega) (by omega) (up_below _ _).size (by repeat (first | exact Below.refl _ _ | refine bl_tr ?_ _ | refine bl_al ?_ _ | refine bl_dr ?_ | refine bl_up ?_ _ | refine Below.drew ?_ | refine bl_alloc ?_ _ | refine Below.setCell ?_ (by first | (simp; done) | (simp; omega)) _)) (Nat.le_refl _) ?_; intro A1 c1' g1 o1; simp only [Nat.zero_add, List.nil_append] at o1) | ((with_reducible refine wp_region_up (by kernel_rfl) (by kernel_rfl) ?_); (repeat (go_big_quiet_step (first | (go_at_call 69; first | exact upq_tr (UpOf.refl) | exact upq (UpOf.refl))))); refine wpQuiet_nil ?_; intro _ hw'; obtain ⟨nq, hw''⟩ := hw'; subst hw''))
          go_ret
          have hL : k + 1 + (l.length - k) = l.length + 1 := by omega
          rw [hL] at o3 ⊢
          exact ⟨_, _, rfl, by rw [hN.out, insAt, hcs_app, hcs_app, hcs_take, hcs_drop]; exact own_mono o3 HB.out.size, UpOf.of (HB.out.trans ((up_below W g3).mono HB.out.size))⟩
/-- what BookHire answers -/
def bookR (l : List Hire) (n : Int) (x : Hire) : List Hire × Int :=
  if vHires l n = true then
    if vHire x = true ∧ x.m < n then
      if free l x.m x.f x.t = true then if l.length < 60 then (insAt l (insN l x) x, 0) else ([], 5)
      else ([], 9)
    else ([], 2)
  else ([], 1)
set_option maxRecDepth 10000 in
set_option maxHeartbeats 1000000 in
theorem bookI_any (b off c : Nat) (l : List Hire) (n : Int) (x : Hire) (w : World) (h : Rds w 3 (some ⟨b, off, none⟩) l.length (hcs l)) (hn : l.length ≤ 100000000) (hcap : l.length ≤ c) :
    Calls Tryd.prog 19 #[.slice (some ⟨b, off, none⟩) l.length c, i64 n, hv x] w fun e w' => ∃ A' c', e = .returned (.tuple #[.slice A' (bookR l n x).1.length c', i64 (bookR l n x).2]) ∧ w'.ownsRow w.heap.size 25 3 (.slice A' (bookR l n x).1.length c') (bookR l n x).1.length (hcs (bookR l n x).1) ∧ UpOf w w' := by
  go_enter Tryd.func19, Tryd.ntmps19
  go_wp2_with fail
  have hA := h.alloc (.cells #[i64 x.m, i64 x.f, i64 x.t] 25)
  have hx : At (w.alloc (.cells #[i64 x.m, i64 x.f, i64 x.t] 25)) w.heap.size 0 x := At.new
  have hB : Below w.heap.size w (w.alloc (.cells #[i64 x.m, i64 x.f, i64 x.t] 25)) := (Below.refl _ _).alloc (Nat.le_refl _) _
  revert hA hx hB
  generalize w.alloc (.cells #[i64 x.m, i64 x.f, i64 x.t] 25) = W
  intro hA hx hB
  have HX := Lib.hid hx
  obtain ⟨hb0, x0, x1, x2⟩ := hx
  have HB := Lib.hid hB
  clear h hB
  cases h1 : vHires l n
  · have hR := Lib.hid (show bookR l n x = ([], 1) by rw [bookR, if_neg (by simp [h1])])
    go_wp2_with (first | (go_at_call 30; refine (ret_as (validHires_any _ _ _ _ _ (hA.below (by repeat (first | exact Below.refl _ _ | refine bl_tr ?_ _ | refine bl_al ?_ _ | refine bl_dr ?_ | refine bl_up ?_ _ | refine Below.drew ?_ | refine bl_alloc ?_ _ | refine Below.setCell ?_ (by first | (simp; done) | (simp; omega)) _))) hn hcap) h1).mono ?_; rintro e w' ⟨rfl, g, rfl⟩) | ((with_reducible refine wp_region_up (by kernel_rfl) (by kernel_rfl) ?_); (repeat (go_big_quiet_step (first | (go_at_call 30; first | exact upq_tr (ret_as (validHires_any _ _ _ _ _ (hA.below (by repeat (first | exact Below.refl _ _ | refine bl_tr ?_ _ | refine bl_al ?_ _ | refine bl_dr ?_ | refine bl_up ?_ _ | refine Below.drew ?_ | refine bl_alloc ?_ _ | refine Below.setCell ?_ (by first | (simp; done) | (simp; omega)) _))) hn hcap) h1) | exact upq (ret_as (validHires_any _ _ _ _ _ (hA.below (by repeat (first | exact Below.refl _ _ | refine bl_tr ?_ _ | refine bl_al ?_ _ | refine bl_dr ?_ | refine bl_up ?_ _ | refine Below.drew ?_ | refine bl_alloc ?_ _ | refine Below.setCell ?_ (by first | (simp; done) | (simp; omega)) _))) hn hcap) h1))))); refine wpQuiet_nil ?_; intro _ hw'; obtain ⟨nq, hw''⟩ := hw'; subst hw''))
    · · · go_ret2
          rw [hR.out]
          exact ⟨none, 0, rfl, ⟨rfl, .inl ⟨rfl, rfl⟩⟩, UpOf.of (HB.out.trans ((up_below W _).mono HB.out.size))⟩
  · have hl60 := vHires_len60 h1
    have HS := Lib.hid (fun i j => vHires_sort (i := i) (j := j) h1)
    cases q1 : vHire x
    · have hR := Lib.hid (show bookR l n x = ([], 2) by rw [bookR, if_pos h1, if_neg (by simp [q1])])
      go_wp2_with (first | (go_at_call 30; refine (ret_as (validHires_any _ _ _ _ _ (hA.below (by repeat (first | exact Below.refl _ _ | refine bl_tr ?_ _ | refine bl_al ?_ _ | refine bl_dr ?_ | refine bl_up ?_ _ | refine Below.drew ?_ | refine bl_alloc ?_ _ | refine Below.setCell ?_ (by first | (simp; done) | (simp; omega)) _))) hn hcap) h1).mono ?_; rintro e w' ⟨rfl, g, rfl⟩) | (go_at_call 35; refine (ret_as (validHire_any _ _) q1).mono ?_; rintro e w' ⟨rfl, g, rfl⟩) | ((with_reducible refine wp_region_up (by kernel_rfl) (by kernel_rfl) ?_); (repeat (go_big_quiet_step (first | (go_at_call 30; first | exact upq_tr (ret_as (validHires_any _ _ _ _ _ (hA.below (by repeat (first | exact Below.refl _ _ | refine bl_tr ?_ _ | refine bl_al ?_ _ | refine bl_dr ?_ | refine bl_up ?_ _ | refine Below.drew ?_ | refine bl_alloc ?_ _ | refine Below.setCell ?_ (by first | (simp; done) | (simp; omega)) _))) hn hcap) h1) | exact upq (ret_as (validHires_any _ _ _ _ _ (hA.below (by repeat (first | exact Below.refl _ _ | refine bl_tr ?_ _ | refine bl_al ?_ _ | refine bl_dr ?_ | refine bl_up ?_ _ | refine Below.drew ?_ | refine bl_alloc ?_ _ | refine Below.setCell ?_ (by first | (simp; done) | (simp; omega)) _))) hn hcap) h1)) | (go_at_call 35; first | exact upq_tr (ret_as (validHire_any _ _) q1) | exact upq (ret_as (validHire_any _ _) q1))))); refine wpQuiet_nil ?_; intro _ hw'; obtain ⟨nq, hw''⟩ := hw'; subst hw''))
      · · go_ret2
          rw [hR.out]
          exact ⟨none, 0, rfl, ⟨rfl, .inl ⟨rfl, rfl⟩⟩, UpOf.of (HB.out.trans ((up_below W _).mono HB.out.size))⟩
    · have hbd := vHire_bd q1
      by_cases q2 : x.m < n
      · cases q3 : free l x.m x.f x.t
        · have hR := Lib.hid (show bookR l n x = ([], 9) by rw [bookR, if_pos h1, if_pos ⟨q1, q2⟩, if_neg (by simp [q3])])
          go_wp2_with (first | (go_at_call 30; refine (ret_as (validHires_any _ _ _ _ _ (hA.below (by repeat (first | exact Below.refl _ _ | refine bl_tr ?_ _ | refine bl_al ?_ _ | refine bl_dr ?_ | refine bl_up ?_ _ | refine Below.drew ?_ | refine bl_alloc ?_ _ | refine Below.setCell ?_ (by first | (simp; done) | (simp; omega)) _))) hn hcap) h1).mono ?_; rintro e w' ⟨rfl, g, rfl⟩) | (go_at_call 35; refine (ret_as (validHire_any _ _) q1).mono ?_; rintro e w' ⟨rfl, g, rfl⟩) | (go_at_call 48; refine (ret_as (isFree_any _ _ _ _ _ _ _ (hA.below (by repeat (first | exact Below.refl _ _ | refine bl_tr ?_ _ | refine bl_al ?_ _ | refine bl_dr ?_ | refine bl_up ?_ _ | refine Below.drew ?_ | refine bl_alloc ?_ _ | refine Below.setCell ?_ (by first | (simp; done) | (simp; omega)) _))) hn) q3).mono ?_; rintro e w' ⟨rfl, g, rfl⟩) | ((with_reducible refine wp_region_up (by kernel_rfl) (by kernel_rfl) ?_); (repeat (go_big_quiet_step (first | (go_at_call 30; first | exact upq_tr (ret_as (validHires_any _ _ _ _ _ (hA.below (by repeat (first | exact Below.refl _ _ | refine bl_tr ?_ _ | refine bl_al ?_ _ | refine bl_dr ?_ | refine bl_up ?_ _ | refine Below.drew ?_ | refine bl_alloc ?_ _ | refine Below.setCell ?_ (by first | (simp; done) | (simp; omega)) _))) hn hcap) h1) | exact upq (ret_as (validHires_any _ _ _ _ _ (hA.below (by repeat (first | exact Below.refl _ _ | refine bl_tr ?_ _ | refine bl_al ?_ _ | refine bl_dr ?_ | refine bl_up ?_ _ | refine Below.drew ?_ | refine bl_alloc ?_ _ | refine Below.setCell ?_ (by first | (simp; done) | (simp; omega)) _))) hn hcap) h1)) | (go_at_call 35; first | exact upq_tr (ret_as (validHire_any _ _) q1) | exact upq (ret_as (validHire_any _ _) q1)) | (go_at_call 48; first | exact upq_tr (ret_as (isFree_any _ _ _ _ _ _ _ (hA.below (by repeat (first | exact Below.refl _ _ | refine bl_tr ?_ _ | refine bl_al ?_ _ | refine bl_dr ?_ | refine bl_up ?_ _ | refine Below.drew ?_ | refine bl_alloc ?_ _ | refine Below.setCell ?_ (by first | (simp; done) | (simp; omega)) _))) hn) q3) | exact upq (ret_as (isFree_any _ _ _ _ _ _ _ (hA.below (by repeat (first | exact Below.refl _ _ | refine bl_tr ?_ _ | refine bl_al ?_ _ | refine bl_dr ?_ | refine bl_up ?_ _ | refine Below.drew ?_ | refine bl_alloc ?_ _ | refine Below.setCell ?_ (by first | (simp; done) | (simp; omega)) _))) hn) q3))))); refine wpQuiet_nil ?_; intro _ hw'; obtain ⟨nq, hw''⟩ := hw'; subst hw''))
          go_ret2
          rw [hR.out]
          exact ⟨none, 0, rfl, ⟨rfl, .inl ⟨rfl, rfl⟩⟩, UpOf.of (HB.out.trans ((up_below W _).mono HB.out.size))⟩
        · have HN := Lib.hid (fun i (hi : i < l.length) => free_ne h1 (by omega) q3 hi)
          by_cases q4 : l.length < 60
          · have hR := Lib.hid (show bookR l n x = (insAt l (insN l x) x, 0) by rw [bookR, if_pos h1, if_pos ⟨q1, q2⟩, if_pos q3, if_pos q4])
            have hk := Lib.hid (show insN l x ≤ l.length from (List.takeWhile_prefix _).length_le)
            have q5 : ((l.length : Int) == 60) = false := by simp; omega
            go_wp2_with (first | (go_at_call 30; refine (ret_as (validHires_any _ _ _ _ _ (hA.below (by repeat (first | exact Below.refl _ _ | refine bl_tr ?_ _ | refine bl_al ?_ _ | refine bl_dr ?_ | refine bl_up ?_ _ | refine Below.drew ?_ | refine bl_alloc ?_ _ | refine Below.setCell ?_ (by first | (simp; done) | (simp; omega)) _))) hn hcap) h1).mono ?_; rintro e w' ⟨rfl, g, rfl⟩) | (go_at_call 35; refine (ret_as (validHire_any _ _) q1).mono ?_; rintro e w' ⟨rfl, g, rfl⟩) | (go_at_call 48; refine (ret_as (isFree_any _ _ _ _ _ _ _ (hA.below (by repeat (first | exact Below.refl _ _ | refine bl_tr ?_ _ | refine bl_al ?_ _ | refine bl_dr ?_ | refine bl_up ?_ _ | refine Below.drew ?_ | refine bl_alloc ?_ _ | refine Below.setCell ?_ (by first | (simp; done) | (simp; omega)) _))) hn) q3).mono ?_; rintro e w' ⟨rfl, g, rfl⟩) | ((with_reducible refine wp_region_up (by kernel_rfl) (by kernel_rfl) ?_); (repeat (go_big_quiet_step (first | (go_at_call 30; first | exact upq_tr (ret_as (validHires_any _ _ _ _ _ (hA.below (by repeat (first | exact Below.refl _ _ | refine bl_tr ?_ _ | refine bl_al ?_ _ | refine bl_dr ?_ | refine bl_up ?_ _ | refine Below.drew ?_ | refine bl_alloc ?_ _ | refine Below.setCell ?_ (by first | (simp; done) | (simp; omega)) _))) hn hcap) h1) | exact upq (ret_as (validHires_any _ _ _ _ _ (hA.below (by repeat (first | exact Below.refl _ _ | refine bl_tr ?_ _ | refine bl_al ?_ _ | refine bl_dr ?_ | refine bl_up ?_ _ | refine Below.drew ?_ | refine bl_alloc ?_ _ | refine Below.setCell ?_ (by first | (simp; done) | (simp; omega)) _))) hn hcap) h1)) | (go_at_call 35; first | exact upq_tr (ret_as (validHire_any _ _) q1) | exact upq (ret_as (validHire_any _ _) q1)) | (go_at_call 48; first | exact upq_tr (ret_as (isFree_any _ _ _ _ _ _ _ (hA.below (by repeat (first | exact Below.refl _ _ | refine bl_tr ?_ _ | refine bl_al ?_ _ | refine bl_dr ?_ | refine bl_up ?_ _ | refine Below.drew ?_ | refine bl_alloc ?_ _ | refine Below.setCell ?_ (by first | (simp; done) | (simp; omega)) _))) hn) q3) | exact upq (ret_as (isFree_any _ _ _ _ _ _ _ (hA.below (by repeat (first | exact Below.refl _ _ | refine bl_tr ?_ _ | refine bl_al ?_ _ | refine bl_dr ?_ | refine bl_up ?_ _ | refine Below.drew ?_ | refine bl_alloc ?_ _ | refine Below.setCell ?_ (by first | (simp; done) | (simp; omega)) _))) hn) q3))))); refine wpQuiet_nil ?_; intro _ hw'; obtain ⟨nq, hw''⟩ := hw'; subst hw''))
            refine (withHire_any _ _ _ _ x _ (hA.below (by repeat (first | exact Below.refl _ _ | refine bl_tr ?_ _ | refine bl_al ?_ _ | refine bl_dr ?_ | refine bl_up ?_ _ | refine Below.drew ?_ | refine bl_alloc ?_ _ | refine Below.setCell ?_ (by first | (simp; done) | (simp; omega)) _))) hn hcap).mono ?_
            rintro e w' ⟨A', c', rfl, o, g9, rfl⟩
            go_wp2_with fail
            go_ret2
            rw [hR.out]
            exact ⟨_, _, by rw [insAt_len _ _ _ hk.out]; rfl, by rw [insAt_len _ _ _ hk.out]; exact own_mono o (Nat.le_trans HB.out.size (up_below _ _).size), UpOf.of (HB.out.trans ((up_below W _).mono HB.out.size))⟩
          · have hR := Lib.hid (show bookR l n x = ([], 5) by rw [bookR, if_pos h1, if_pos ⟨q1, q2⟩, if_pos q3, if_neg q4])
            have q5 : ((l.length : Int) == 60) = true := by simp; omega
            have q6 : (60 : Int) ≤ (l.length : Int) := by omega
            clear q4
            go_wp2_with (first | (go_at_call 30; refine (ret_as (validHires_any _ _ _ _ _ (hA.below (by repeat (first | exact Below.refl _ _ | refine bl_tr ?_ _ | refine bl_al ?_ _ | refine bl_dr ?_ | refine bl_up ?_ _ | refine Below.drew ?_ | refine bl_alloc ?_ _ | refine Below.setCell ?_ (by first | (simp; done) | (simp; omega)) _))) hn hcap) h1).mono ?_; rintro e w' ⟨rfl, g, rfl⟩) | (go_at_call 35; refine (ret_as (validHire_any _ _) q1).mono ?_; rintro e w' ⟨rfl, g, rfl⟩) | (go_at_call 48; refine (ret_as (isFree_any _ _ _ _ _ _ _ (hA.below (by repeat (first | exact Below.refl _ _ | refine bl_tr ?_ _ | refine bl_al ?_ _ | refine bl_dr ?_ | refine bl_up ?_ _ | refine Below.drew ?_ | refine bl_alloc ?_ _ | refine Below.setCell ?_ (by first | (simp; done) | (simp; omega)) _))) hn) q3).mono ?_; rintro e w' ⟨rfl, g, rfl⟩) | ((with_reducible refine wp_region_up (by kernel_rfl) (by kernel_rfl) ?_); (repeat (go_big_quiet_step (first | (go_at_call 30; first | exact upq_tr (ret_as (validHires_any _ _ _ _ _ (hA.below (by repeat (first | exact Below.refl _ _ | refine bl_tr ?_ _ | refine bl_al ?_ _ | refine bl_dr ?_ | refine bl_up ?_ _ | refine Below.drew ?_ | refine bl_alloc ?_ _ | refine Below.setCell ?_ (by first | (simp; done) | (simp; omega)) _))) hn hcap) h1) | exact upq (ret_as (validHires_any _ _ _ _ _ (hA.below (by repeat (first | exact Below.refl _ _ | refine bl_tr ?_ _ | refine bl_al ?_ _ | refine bl_dr ?_ | refine bl_up ?_ _ | refine Below.drew ?_ | refine bl_alloc ?_ _ | refine Below.setCell ?_ (by first | (simp; done) | (simp; omega)) _))) hn hcap) h1)) | (go_at_call 35; first | exact upq_tr (ret_as (validHire_any _ _) q1) | exact upq (ret_as (validHire_any _ _) q1)) | (go_at_call 48; first | exact upq_tr (ret_as (isFree_any _ _ _ _ _ _ _ (hA.below (by repeat (first | exact Below.refl _ _ | refine bl_tr ?_ _ | refine bl_al ?_ _ | refine bl_dr ?_ | refine bl_up ?_ _ | refine Below.drew ?_ | refine bl_alloc ?_ _ | refine Below.setCell ?_ (by first | (simp; done) | (simp; omega)) _))) hn) q3) | exact upq (ret_as (isFree_any _ _ _ _ _ _ _ (hA.below (by repeat (first | exact Below.refl _ _ | refine bl_tr ?_ _ | refine bl_al ?_ _ | refine bl_dr ?_ | refine bl_up ?_ _ | refine Below.drew ?_ | refine bl_alloc ?_ _ | refine Below.setCell ?_ (by first | (simp; done) | (simp; omega)) _))) hn) q3))))); refine wpQuiet_nil ?_; intro _ hw'; obtain ⟨nq, hw''⟩ := hw'; subst hw''))
            go_ret2
            rw [hR.out]
            exact ⟨none, 0, rfl, ⟨rfl, .inl ⟨rfl, rfl⟩⟩, UpOf.of (HB.out.trans ((up_below W _).mono HB.out.size))⟩
      · have hR := Lib.hid (show bookR l n x = ([], 2) by rw [bookR, if_pos h1, if_neg (fun h => q2 h.2)])
        have q2' : n ≤ x.m := by omega
        clear q2
        go_wp2_with (first | (go_at_call 30; refine (ret_as (validHires_any _ _ _ _ _ (hA.below (by repeat (first | exact Below.refl _ _ | refine bl_tr ?_ _ | refine bl_al ?_ _ | refine bl_dr ?_ | refine bl_up ?_ _ | refine Below.drew ?_ | refine bl_alloc ?_ _ | refine Below.setCell ?_ (by first | (simp; done) | (simp; omega)) _))) hn hcap) h1).mono ?_; rintro e w' ⟨rfl, g, rfl⟩) | (go_at_call 35; refine (ret_as (validHire_any _ _) q1).mono ?_; rintro e w' ⟨rfl, g, rfl⟩) | ((with_reducible refine wp_region_up (by kernel_rfl) (by kernel_rfl) ?_); (repeat (go_big_quiet_step (first | (go_at_call 30; first | exact upq_tr (ret_as (validHires_any _ _ _ _ _ (hA.below (by repeat (first | exact Below.refl _ _ | refine bl_tr ?_ _ | refine bl_al ?_ _ | refine bl_dr ?_ | refine bl_up ?_ _ | refine Below.drew ?_ | refine bl_alloc ?_ _ | refine Below.setCell ?_ (by first | (simp; done) | (simp; omega)) _))) hn hcap) h1) | exact upq (ret_as (validHires_any _ _ _ _ _ (hA.below (by repeat (first | exact Below.refl _ _ | refine bl_tr ?_ _ | refine bl_al ?_ _ | refine bl_dr ?_ | refine bl_up ?_ _ | refine Below.drew ?_ | refine bl_alloc ?_ _ | refine Below.setCell ?_ (by first | (simp; done) | (simp; omega)) _))) hn hcap) h1)) | (go_at_call 35; first | exact upq_tr (ret_as (validHire_any _ _) q1) | exact upq (ret_as (validHire_any _ _) q1))))); refine wpQuiet_nil ?_; intro _ hw'; obtain ⟨nq, hw''⟩ := hw'; subst hw''))
        · go_ret2
          rw [hR.out]
          exact ⟨none, 0, rfl, ⟨rfl, .inl ⟨rfl, rfl⟩⟩, UpOf.of (HB.out.trans ((up_below W _).mono HB.out.size))⟩
set_option maxRecDepth 10000 in
set_option maxHeartbeats 1000000 in
theorem bookS_any (b off c : Nat) (l : List Hire) (n : Int) (x : Hire) (w : World) (h : Rds w 3 (some ⟨b, off, none⟩) l.length (hcs l)) (hn : l.length ≤ 100000000) (hcap : l.length ≤ c) :
    Calls Tryd.prog 20 #[.slice (some ⟨b, off, none⟩) l.length c, i64 n, hv x] w fun e w' => ∃ A' c', e = .returned (.tuple #[.slice A' (bookR l n x).1.length c', i64 (bookR l n x).2]) ∧ w'.ownsRow w.heap.size 25 3 (.slice A' (bookR l n x).1.length c') (bookR l n x).1.length (hcs (bookR l n x).1) ∧ UpOf w w' := by
  go_enter Tryd.func20, Tryd.ntmps20
  go_wp2_with fail
  have hA := h.alloc (.cells #[i64 x.m, i64 x.f, i64 x.t] 25)
  have hx : At (w.alloc (.cells #[i64 x.m, i64 x.f, i64 x.t] 25)) w.heap.size 0 x := At.new
  have hB : Below w.heap.size w (w.alloc (.cells #[i64 x.m, i64 x.f, i64 x.t] 25)) := (Below.refl _ _).alloc (Nat.le_refl _) _
  revert hA hx hB
  generalize w.alloc (.cells #[i64 x.m, i64 x.f, i64 x.t] 25) = W
  intro hA hx hB
  have HX := Lib.hid hx
  obtain ⟨hb0, x0, x1, x2⟩ := hx
  have HB := Lib.hid hB
  clear h hB
  cases h1 : vHires l n
  · have hR := Lib.hid (show bookR l n x = ([], 1) by rw [bookR, if_neg (by simp [h1])])
    go_wp2_with (first | (go_at_call 55; refine (ret_as (l25Ok_any _ _ _ _ _ (hA.below (by repeat (first | exact Below.refl _ _ | refine bl_tr ?_ _ | refine bl_al ?_ _ | refine bl_dr ?_ | refine bl_up ?_ _ | refine Below.drew ?_ | refine bl_alloc ?_ _ | refine Below.setCell ?_ (by first | (simp; done) | (simp; omega)) _))) hn) h1).mono ?_; rintro e w' ⟨rfl, g, rfl⟩) | ((with_reducible refine wp_region_up (by kernel_rfl) (by kernel_rfl) ?_); (repeat (go_big_quiet_step (first | (go_at_call 55; first | exact upq_tr (ret_as (l25Ok_any _ _ _ _ _ (hA.below (by repeat (first | exact Below.refl _ _ | refine bl_tr ?_ _ | refine bl_al ?_ _ | refine bl_dr ?_ | refine bl_up ?_ _ | refine Below.drew ?_ | refine bl_alloc ?_ _ | refine Below.setCell ?_ (by first | (simp; done) | (simp; omega)) _))) hn) h1) | exact upq (ret_as (l25Ok_any _ _ _ _ _ (hA.below (by repeat (first | exact Below.refl _ _ | refine bl_tr ?_ _ | refine bl_al ?_ _ | refine bl_dr ?_ | refine bl_up ?_ _ | refine Below.drew ?_ | refine bl_alloc ?_ _ | refine Below.setCell ?_ (by first | (simp; done) | (simp; omega)) _))) hn) h1))))); refine wpQuiet_nil ?_; intro _ hw'; obtain ⟨nq, hw''⟩ := hw'; subst hw''))
    · · · go_ret2
          rw [hR.out]
          exact ⟨none, 0, rfl, ⟨rfl, .inl ⟨rfl, rfl⟩⟩, UpOf.of (HB.out.trans ((up_below W _).mono HB.out.size))⟩
  · have hl60 := vHires_len60 h1
    have HS := Lib.hid (fun i j => vHires_sort (i := i) (j := j) h1)
    cases q1 : vHire x
    · have hR := Lib.hid (show bookR l n x = ([], 2) by rw [bookR, if_pos h1, if_neg (by simp [q1])])
      go_wp2_with (first | (go_at_call 55; refine (ret_as (l25Ok_any _ _ _ _ _ (hA.below (by repeat (first | exact Below.refl _ _ | refine bl_tr ?_ _ | refine bl_al ?_ _ | refine bl_dr ?_ | refine bl_up ?_ _ | refine Below.drew ?_ | refine bl_alloc ?_ _ | refine Below.setCell ?_ (by first | (simp; done) | (simp; omega)) _))) hn) h1).mono ?_; rintro e w' ⟨rfl, g, rfl⟩) | (go_at_call 33; refine (ret_as (l25One_any _ _ _ _ (HX.out.up _)) q1).mono ?_; rintro e w' ⟨rfl, g, rfl⟩) | ((with_reducible refine wp_region_up (by kernel_rfl) (by kernel_rfl) ?_); (repeat (go_big_quiet_step (first | (go_at_call 55; first | exact upq_tr (ret_as (l25Ok_any _ _ _ _ _ (hA.below (by repeat (first | exact Below.refl _ _ | refine bl_tr ?_ _ | refine bl_al ?_ _ | refine bl_dr ?_ | refine bl_up ?_ _ | refine Below.drew ?_ | refine bl_alloc ?_ _ | refine Below.setCell ?_ (by first | (simp; done) | (simp; omega)) _))) hn) h1) | exact upq (ret_as (l25Ok_any _ _ _ _ _ (hA.below (by repeat (first | exact Below.refl _ _ | refine bl_tr ?_ _ | refine bl_al ?_ _ | refine bl_dr ?_ | refine bl_up ?_ _ | refine Below.drew ?_ | refine bl_alloc ?_ _ | refine Below.setCell ?_ (by first | (simp; done) | (simp; omega)) _))) hn) h1)) | (go_at_call 33; first | exact upq_tr (ret_as (l25One_any _ _ _ _ (HX.out.up _)) q1) | exact upq (ret_as (l25One_any _ _ _ _ (HX.out.up _)) q1))))); refine wpQuiet_nil ?_; intro _ hw'; obtain ⟨nq, hw''⟩ := hw'; subst hw''))
      · · go_ret2
          rw [hR.out]
          exact ⟨none, 0, rfl, ⟨rfl, .inl ⟨rfl, rfl⟩⟩, UpOf.of (HB.out.trans ((up_below W _).mono HB.out.size))⟩
    · have hbd := vHire_bd q1
      by_cases q2 : x.m < n
      · cases q3 : free l x.m x.f x.t
        · have hR := Lib.hid (show bookR l n x = ([], 9) by rw [bookR, if_pos h1, if_pos ⟨q1, q2⟩, if_neg (by simp [q3])])
          go_wp2_with (first | (go_at_call 55; refine (ret_as (l25Ok_any _ _ _ _ _ (hA.below (by repeat (first | exact Below.refl _ _ | refine bl_tr ?_ _ | refine bl_al ?_ _ | refine bl_dr ?_ | refine bl_up ?_ _ | refine Below.drew ?_ | refine bl_alloc ?_ _ | refine Below.setCell ?_ (by first | (simp; done) | (simp; omega)) _))) hn) h1).mono ?_; rintro e w' ⟨rfl, g, rfl⟩) | (go_at_call 33; refine (ret_as (l25One_any _ _ _ _ (HX.out.up _)) q1).mono ?_; rintro e w' ⟨rfl, g, rfl⟩) | (go_at_call 44; refine (ret_as (l25Free_any _ _ _ _ _ _ _ (hA.below (by repeat (first | exact Below.refl _ _ | refine bl_tr ?_ _ | refine bl_al ?_ _ | refine bl_dr ?_ | refine bl_up ?_ _ | refine Below.drew ?_ | refine bl_alloc ?_ _ | refine Below.setCell ?_ (by first | (simp; done) | (simp; omega)) _))) hn) q3).mono ?_; rintro e w' ⟨rfl, g, rfl⟩) | ((with_reducible refine wp_region_up (by kernel_rfl) (by kernel_rfl) ?_); (repeat (go_big_quiet_step (first | (go_at_call 55; first | exact upq_tr (ret_as (l25Ok_any _ _ _ _ _ (hA.below (by repeat (first | exact Below.refl _ _ | refine bl_tr ?_ _ | refine bl_al ?_ _ | refine bl_dr ?_ | refine bl_up ?_ _ | refine Below.drew ?_ | refine bl_alloc ?_ _ | refine Below.setCell ?_ (by first | (simp; done) | (simp; omega)) _))) hn) h1) | exact upq (ret_as (l25Ok_any _ _ _ _ _ (hA.below (by repeat (first | exact Below.refl _ _ | refine bl_tr ?_ _ | refine bl_al ?_ _ | refine bl_dr ?_ | refine bl_up ?_ _ | refine Below.drew ?_ | refine bl_alloc ?_ _ | refine Below.setCell ?_ (by first | (simp; done) | (simp; omega)) _))) hn) h1)) | (go_at_call 33; first | exact upq_tr (ret_as (l25One_any _ _ _ _ (HX.out.up _)) q1) | exact upq (ret_as (l25One_any _ _ _ _ (HX.out.up _)) q1)) | (go_at_call 44; first | exact upq_tr (ret_as (l25Free_any _ _ _ _ _ _ _ (hA.below (by repeat (first | exact Below.refl _ _ | refine bl_tr ?_ _ | refine bl_al ?_ _ | refine bl_dr ?_ | refine bl_up ?_ _ | refine Below.drew ?_ | refine bl_alloc ?_ _ | refine Below.setCell ?_ (by first | (simp; done) | (simp; omega)) _))) hn) q3) | exact upq (ret_as (l25Free_any _ _ _ _ _ _ _ (hA.below (by repeat (first | exact Below.refl _ _ | refine bl_tr ?_ _ | refine bl_al ?_ _ | refine bl_dr ?_ | refine bl_up ?_ _ | refine Below.drew ?_ | refine bl_alloc ?_ _ | refine Below.setCell ?_ (by first | (simp; done) | (simp; omega)) _))) hn) q3))))); refine wpQuiet_nil ?_; intro _ hw'; obtain ⟨nq, hw''⟩ := hw'; subst hw''))
          go_ret2
          rw [hR.out]
          exact ⟨none, 0, rfl, ⟨rfl, .inl ⟨rfl, rfl⟩⟩, UpOf.of (HB.out.trans ((up_below W _).mono HB.out.size))⟩
        · have HN := Lib.hid (fun i (hi : i < l.length) => free_ne h1 (by omega) q3 hi)
          by_cases q4 : l.length < 60
          · have hR := Lib.hid (show bookR l n x = (insAt l (insN l x) x, 0) by rw [bookR, if_pos h1, if_pos ⟨q1, q2⟩, if_pos q3, if_pos q4])
            have hk := Lib.hid (show insN l x ≤ l.length from (List.takeWhile_prefix _).length_le)
            have q5 : ((l.length : Int) == 60) = false := by simp; omega
            go_wp2_with (first | (go_at_call 55; refine (ret_as (l25Ok_any _ _ _ _ _ (hA.below (by repeat (first | exact Below.refl _ _ | refine bl_tr ?_ _ | refine bl_al ?_ _ | refine bl_dr ?_ | refine bl_up ?_ _ | refine Below.drew ?_ | refine bl_alloc ?_ _ | refine Below.setCell ?_ (by first | (simp; done) | (simp; omega)) _))) hn) h1).mono ?_; rintro e w' ⟨rfl, g, rfl⟩) | (go_at_call 33; refine (ret_as (l25One_any _ _ _ _ (HX.out.up _)) q1).mono ?_; rintro e w' ⟨rfl, g, rfl⟩) | (go_at_call 44; refine (ret_as (l25Free_any _ _ _ _ _ _ _ (hA.below (by repeat (first | exact Below.refl _ _ | refine bl_tr ?_ _ | refine bl_al ?_ _ | refine bl_dr ?_ | refine bl_up ?_ _ | refine Below.drew ?_ | refine bl_alloc ?_ _ | refine Below.setCell ?_ (by first | (simp; done) | (simp; omega)) _))) hn) q3).mono ?_; rintro e w' ⟨rfl, g, rfl⟩) | ((with_reducible refine wp_region_up (by kernel_rfl) (by kernel_rfl) ?_); (repeat (go_big_quiet_step (first | (go_at_call 55; first | exact upq_tr (ret_as (l25Ok_any _ _ _ _ _ (hA.below (by repeat (first | exact Below.refl _ _ | refine bl_tr ?_ _ | refine bl_al ?_ _ | refine bl_dr ?_ | refine bl_up ?_ _ | refine Below.drew ?_ | refine bl_alloc ?_ _ | refine Below.setCell ?_ (by first | (simp; done) | (simp; omega)) _))) hn) h1) | exact upq (ret_as (l25Ok_any _ _ _ _ _ (hA.below (by repeat (first | exact Below.refl _ _ | refine bl_tr ?_ _ | refine bl_al ?_ _ | refine bl_dr ?_ | refine bl_up ?_ _ | refine Below.drew ?_ | refine bl_alloc ?_ _ | refine Below.setCell ?_ (by first | (simp; done) | (simp; omega)) _))) hn) h1)) | (go_at_call 33; first | exact upq_tr (ret_as (l25One_any _ _ _ _ (HX.out.up _)) q1) | exact upq (ret_as (l25One_any _ _ _ _ (HX.out.up _)) q1)) | (go_at_call 44; first | exact upq_tr (ret_as (l25Free_any _ _ _ _ _ _ _ (hA.below (by repeat (first | exact Below.refl _ _ | refine bl_tr ?_ _ | refine bl_al ?_ _ | refine bl_dr ?_ | refine bl_up ?_ _ | refine Below.drew ?_ | refine bl_alloc ?_ _ | refine Below.setCell ?_ (by first | (simp; done) | (simp; omega)) _))) hn) q3) | exact upq (ret_as (l25Free_any _ _ _ _ _ _ _ (hA.below (by repeat (first | exact Below.refl _ _ | refine bl_tr ?_ _ | refine bl_al ?_ _ | refine bl_dr ?_ | refine bl_up ?_ _ | refine Below.drew ?_ | refine bl_alloc ?_ _ | refine Below.setCell ?_ (by first | (simp; done) | (simp; omega)) _))) hn) q3))))); refine wpQuiet_nil ?_; intro _ hw'; obtain ⟨nq, hw''⟩ := hw'; subst hw''))
            refine (l25Put_any _ _ _ _ x _ (hA.below (by repeat (first | exact Below.refl _ _ | refine bl_tr ?_ _ | refine bl_al ?_ _ | refine bl_dr ?_ | refine bl_up ?_ _ | refine Below.drew ?_ | refine bl_alloc ?_ _ | refine Below.setCell ?_ (by first | (simp; done) | (simp; omega)) _))) hn hcap HS.out HN.out).mono ?_
            rintro e w' ⟨A', c', rfl, o, g9, rfl⟩
            go_wp2_with fail
            go_ret2
            rw [hR.out]
            exact ⟨_, _, by rw [insAt_len _ _ _ hk.out]; rfl, by rw [insAt_len _ _ _ hk.out]; exact own_mono o (Nat.le_trans HB.out.size (up_below _ _).size), UpOf.of (HB.out.trans ((up_below W _).mono HB.out.size))⟩
          · have hR := Lib.hid (show bookR l n x = ([], 5) by rw [bookR, if_pos h1, if_pos ⟨q1, q2⟩, if_pos q3, if_neg q4])
            have q5 : ((l.length : Int) == 60) = true := by simp; omega
            have q6 : (60 : Int) ≤ (l.length : Int) := by omega
            clear q4
            go_wp2_with (first | (go_at_call 55; refine (ret_as (l25Ok_any _ _ _ _ _ (hA.below (by repeat (first | exact Below.refl _ _ | refine bl_tr ?_ _ | refine bl_al ?_ _ | refine bl_dr ?_ | refine bl_up ?_ _ | refine Below.drew ?_ | refine bl_alloc ?_ _ | refine Below.setCell ?_ (by first | (simp; done) | (simp; omega)) _))) hn) h1).mono ?_; rintro e w' ⟨rfl, g, rfl⟩) | (go_at_call 33; refine (ret_as (l25One_any _ _ _ _ (HX.out.up _)) q1).mono ?_; rintro e w' ⟨rfl, g, rfl⟩) | (go_at_call 44; refine (ret_as (l25Free_any _ _ _ _ _ _ _ (hA.below (by repeat (first | exact Below.refl _ _ | refine bl_tr ?_ _ | refine bl_al ?_ _ | refine bl_dr ?_ | refine bl_up ?_ _ | refine Below.drew ?_ | refine bl_alloc ?_ _ | refine Below.setCell ?_ (by first | (simp; done) | (simp; omega)) _))) hn) q3).mono ?_; rintro e w' ⟨rfl, g, rfl⟩) | ((with_reducible refine wp_region_up (by kernel_rfl) (by kernel_rfl) ?_); (repeat (go_big_quiet_step (first | (go_at_call 55; first | exact upq_tr (ret_as (l25Ok_any _ _ _ _ _ (hA.below (by repeat (first | exact Below.refl _ _ | refine bl_tr ?_ _ | refine bl_al ?_ _ | refine bl_dr ?_ | refine bl_up ?_ _ | refine Below.drew ?_ | refine bl_alloc ?_ _ | refine Below.setCell ?_ (by first | (simp; done) | (simp; omega)) _))) hn) h1) | exact upq (ret_as (l25Ok_any _ _ _ _ _ (hA.below (by repeat (first | exact Below.refl _ _ | refine bl_tr ?_ _ | refine bl_al ?_ _ | refine bl_dr ?_ | refine bl_up ?_ _ | refine Below.drew ?_ | refine bl_alloc ?_ _ | refine Below.setCell ?_ (by first | (simp; done) | (simp; omega)) _))) hn) h1)) | (go_at_call 33; first | exact upq_tr (ret_as (l25One_any _ _ _ _ (HX.out.up _)) q1) | exact upq (ret_as (l25One_any _ _ _ _ (HX.out.up _)) q1)) | (go_at_call 44; first | exact upq_tr (ret_as (l25Free_any _ _ _ _ _ _ _ (hA.below (by repeat (first | exact Below.refl _ _ | refine bl_tr ?_ _ | refine bl_al ?_ _ | refine bl_dr ?_ | refine bl_up ?_ _ | refine Below.drew ?_ | refine bl_alloc ?_ _ | refine Below.setCell ?_ (by first | (simp; done) | (simp; omega)) _))) hn) q3) | exact upq (ret_as (l25Free_any _ _ _ _ _ _ _ (hA.below (by repeat (first | exact Below.refl _ _ | refine bl_tr ?_ _ | refine bl_al ?_ _ | refine bl_dr ?_ | refine bl_up ?_ _ | refine Below.drew ?_ | refine bl_alloc ?_ _ | refine Below.setCell ?_ (by first | (simp; done) | (simp; omega)) _))) hn) q3))))); refine wpQuiet_nil ?_; intro _ hw'; obtain ⟨nq, hw''⟩ := hw'; subst hw''))
            go_ret2
            rw [hR.out]
            exact ⟨none, 0, rfl, ⟨rfl, .inl ⟨rfl, rfl⟩⟩, UpOf.of (HB.out.trans ((up_below W _).mono HB.out.size))⟩
      · have hR := Lib.hid (show bookR l n x = ([], 2) by rw [bookR, if_pos h1, if_neg (fun h => q2 h.2)])
        have q2' : n ≤ x.m := by omega
        clear q2
        go_wp2_with (first | (go_at_call 55; refine (ret_as (l25Ok_any _ _ _ _ _ (hA.below (by repeat (first | exact Below.refl _ _ | refine bl_tr ?_ _ | refine bl_al ?_ _ | refine bl_dr ?_ | refine bl_up ?_ _ | refine Below.drew ?_ | refine bl_alloc ?_ _ | refine Below.setCell ?_ (by first | (simp; done) | (simp; omega)) _))) hn) h1).mono ?_; rintro e w' ⟨rfl, g, rfl⟩) | (go_at_call 33; refine (ret_as (l25One_any _ _ _ _ (HX.out.up _)) q1).mono ?_; rintro e w' ⟨rfl, g, rfl⟩) | ((with_reducible refine wp_region_up (by kernel_rfl) (by kernel_rfl) ?_); (repeat (go_big_quiet_step (first | (go_at_call 55; first | exact upq_tr (ret_as (l25Ok_any _ _ _ _ _ (hA.below (by repeat (first | exact Below.refl _ _ | refine bl_tr ?_ _ | refine bl_al ?_ _ | refine bl_dr ?_ | refine bl_up ?_ _ | refine Below.drew ?_ | refine bl_alloc ?_ _ | refine Below.setCell ?_ (by first | (simp; done) | (simp; omega)) _))) hn) h1) | exact upq (ret_as (l25Ok_any _ _ _ _ _ (hA.below (by repeat (first | exact Below.refl _ _ | refine bl_tr ?_ _ | refine bl_al ?_ _ | refine bl_dr ?_ | refine bl_up ?_ _ | refine Below.drew ?_ | refine bl_alloc ?_ _ | refine Below.setCell ?_ (by first | (simp; done) | (simp; omega)) _))) hn) h1)) | (go_at_call 33; first | exact upq_tr (ret_as (l25One_any _ _ _ _ (HX.out.up _)) q1) | exact upq (ret_as (l25One_any _ _ _ _ (HX.out.up _)) q1))))); refine wpQuiet_nil ?_; intro _ hw'; obtain ⟨nq, hw''⟩ := hw'; subst hw''))
        · go_ret2
          rw [hR.out]
          exact ⟨none, 0, rfl, ⟨rfl, .inl ⟨rfl, rfl⟩⟩, UpOf.of (HB.out.trans ((up_below W _).mono HB.out.size))⟩
end Go.Proofs.YtiagckbdofeecaaDoor

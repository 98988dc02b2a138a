/-
  A hire put into hires in order: the program's withHire and the reference's l25Put.
-/
import Derived.Test.YtiagckbdofeecaaDoorHire5
import Derived.Test.YtiagckbdofeecaaDoorApp
import Derived.Test.YtiagckbdofeecaaDoorDaysOut
import Derived.Test.YtiagckbdofeecaaDoorReturnEarly
namespace Go.Proofs.YtiagckbdofeecaaDoor
open Go.RowKit
theorem el_hire : ElemOf Tryd.prog 34 25 (.agg #[i64 0, i64 0, i64 0]) 3 24 := elem_of Tryd.underlying34 (by kernel_rfl) rfl (by omega)
/-- the hires with x at place k -/
def insAt (l : List Hire) (k : Nat) (x : Hire) : List Hire := l.take k ++ [x] ++ l.drop k
theorem hcs_app (a b : List Hire) : hcs (a ++ b) = hcs a ++ hcs b := by simp [hcs]
theorem hcs_take (l : List Hire) (k : Nat) : hcs (l.take k) = (hcs l).take (k * 3) := by
  induction l generalizing k with
  | nil => simp [hcs]
  | cons a l ih =>
    cases k with
    | zero => simp [hcs]
    | succ k =>
      have : (k + 1) * 3 = k * 3 + 1 + 1 + 1 := by omega
      simp only [List.take_succ_cons, this]
      have h2 := ih k
      simp only [hcs, List.flatMap_cons, Hire.cells, List.cons_append, List.nil_append, List.take_succ_cons] at h2 ⊢
      rw [h2]
theorem hcs_drop (l : List Hire) (k : Nat) : hcs (l.drop k) = (hcs l).drop (k * 3) := by
  induction l generalizing k with
  | nil => simp [hcs]
  | cons a l ih =>
    cases k with
    | zero => simp [hcs]
    | succ k =>
      have : (k + 1) * 3 = k * 3 + 1 + 1 + 1 := by omega
      simp only [List.drop_succ_cons, this]
      have h2 := ih k
      simp only [hcs, List.flatMap_cons, Hire.cells, List.cons_append, List.nil_append, List.drop_succ_cons] at h2 ⊢
      rw [h2]
theorem insAt_len (l : List Hire) (k : Nat) (x : Hire) (h : k ≤ l.length) : (insAt l k x).length = l.length + 1 := by simp [insAt]; omega
/-- the place at which x comes: behind all that are before it -/
def insN (l : List Hire) (x : Hire) : Nat := (l.takeWhile fun y => before y x).length
theorem insN_eq {l : List Hire} {x : Hire} {k : Nat} (hk : k ≤ l.length) (h : ∀ i, i < k → before (hat l i) x = true) (he : k < l.length → before (hat l k) x = false) : insN l x = k := by
  induction l generalizing k with
  | nil => simp at hk; simp [insN, hk]
  | cons a l ih =>
    cases k with
    | zero =>
      have := he (by simp)
      simp [hat] at this
      simp [insN, this]
    | succ k =>
      have h0 := h 0 (by omega)
      simp [hat] at h0
      have := ih (k := k) (by simpa using hk) (fun i hi => by have := h (i + 1) (by omega); simpa [hat] using this) (fun hk' => by have := he (by simpa using hk'); simpa [hat] using this)
      simp only [insN, List.takeWhile_cons, h0] at this ⊢
      simp [this]
theorem rds_any {w : World} {sz : Nat} {A : Option Addr} {m : Nat} {xs : List Value} (h : m = 0) (hx : xs = []) : Rds w sz A m xs := by subst h; subst hx; exact Rds.empty _ _ _
set_option maxRecDepth 10000 in
set_option maxHeartbeats 1000000 in
theorem withHire_any (b off c : Nat) (l : List Hire) (x : Hire) (w : World) (h : Rds w 3 (some ⟨b, off, none⟩) l.length (hcs l)) (hn : l.length ≤ 100000000) (hcap : l.length ≤ c) :
    Calls Tryd.prog 42 #[.slice (some ⟨b, off, none⟩) l.length c, hv x] w fun e w' => ∃ A' c', e = .returned (.slice A' (l.length + 1) c') ∧ w'.ownsRow w.heap.size 25 3 (.slice A' (l.length + 1) c') (l.length + 1) (hcs (insAt l (insN l x) x)) ∧ UpOf w w' := by
  go_enter Tryd.func42, Tryd.ntmps42
  go_wp2_with (first | ((with_reducible refine wp_region_up (by kernel_rfl) (by kernel_rfl) ?_); (repeat (go_big_quiet_step (fail))); refine wpQuiet_nil ?_; intro _ hw'; obtain ⟨nq, hw''⟩ := hw'; subst hw''))
  have hA := h.alloc (.cells #[i64 x.m, i64 x.f, i64 x.t] 25)
  have hx : At (w.alloc (.cells #[i64 x.m, i64 x.f, i64 x.t] 25)) w.heap.size 0 x := At.new
  have hB : Below w.heap.size w (w.alloc (.cells #[i64 x.m, i64 x.f, i64 x.t] 25)) := (Below.refl _ _).alloc (Nat.le_refl _) _
  revert hA hx hB
  generalize w.alloc (.cells #[i64 x.m, i64 x.f, i64 x.t] 25) = W
  intro hA hx hB
  obtain ⟨hb0, x0, x1, x2⟩ := hx
  have HB := Lib.hid hB
  clear h hB
  go_loopw [5] (fun i wr => ∃ k : Nat, k ≤ l.length ∧ i = i64 k ∧ Hid (∀ i, i < k → before (hat l i) x = true) ∧ ∃ g : Up W, wr = up W g) (fun i _ => l.length - (intOf i).toNat)
  case atStart => exact ⟨0, by omega, rfl, fun i hi => by omega, ex_up (by repeat (first | exact Below.refl _ _ | refine bl_tr ?_ _ | refine bl_al ?_ _ | refine bl_dr ?_ | refine bl_up ?_ _ | refine Below.drew ?_ | refine bl_alloc ?_ _ | refine Below.setCell ?_ (by first | (simp; done) | (simp; omega)) _))⟩
  case round =>
    obtain ⟨k, hk, rfl, hme, g, rfl⟩ := hrel
    have hk0 : (0 : Int) ≤ (k : Int) := by omega
    have hk1 : (k : Int) ≤ (l.length : Int) := by omega
    have hk2 : (k : Int) ≤ (c : Int) := by omega
    by_cases hlt : k < l.length
    · obtain ⟨b', off', e', hb, ha⟩ := hire_at' hA hlt
      injection e' with e'
      injection e' with e1 e2
      subst e1 e2
      obtain ⟨_, c0, c1, c2⟩ := ha k hlt
      clear ha
      cases q1 : before (hat l k) x
      · have hN := Lib.hid (insN_eq hk hme.out (fun _ => q1))
        by_cases hck : c = k
        · exfalso; omega
        · go_wp2_with (first | (go_at_call 62; refine (ret_as (before_any _ _ _) q1).mono ?_; rintro e w' ⟨rfl, g, rfl⟩) | (at_builtin; refine wpl_appU rfl _ _ 34 rfl W W.heap.size 25 _ 3 24 el_hire _ 0 [] rfl (World.ownsRow_lit _ #[] 0 (up_below _ _).size (by unfold maxLen; omega) rfl) _ k _ _ rfl ((hA.pre hk).below (by repeat (first | exact Below.refl _ _ | refine bl_tr ?_ _ | refine bl_al ?_ _ | refine bl_dr ?_ | refine bl_up ?_ _ | refine Below.drew ?_ | refine bl_alloc ?_ _ | refine Below.setCell ?_ (by first | (simp; done) | (simp; omega)) _))) (fun u hu => hcs_one l u (List.mem_of_mem_take hu)) (by unfold maxLen; omega) (by omega) (up_below _ _).size (by repeat (first | exact Below.refl _ _ | refine bl_tr ?_ _ | refine bl_al ?_ _ | refine bl_dr ?_ | refine bl_up ?_ _ | refine Below.drew ?_ | refine bl_alloc ?_ _ | refine Below.setCell ?_ (by first | (simp; done) | (simp; omega)) _)) (Nat.le_refl _) ?_; intro A1 c1' g1 o1; simp only [Nat.zero_add, List.nil_append] at o1) | ((with_reducible refine wp_region_up (by kernel_rfl) (by kernel_rfl) ?_); (repeat (go_big_quiet_step (first | (go_at_call 62; first | exact upq_tr (ret_as (before_any _ _ _) q1) | exact upq (ret_as (before_any _ _ _) q1))))); refine wpQuiet_nil ?_; intro _ hw'; obtain ⟨nq, hw''⟩ := hw'; subst hw''))
          go_region_held3 (fun w' => (W).heap.size ≤ w'.heap.size ∧ ∀ b o, b < (W).heap.size → w'.cell? ⟨b, o, none⟩ = (W).cell? ⟨b, o, none⟩) (exact sm_of (by repeat (first | exact Below.refl _ _ | refine bl_tr ?_ _ | refine bl_al ?_ _ | refine bl_dr ?_ | refine bl_up ?_ _ | refine Below.drew ?_ | refine bl_alloc ?_ _ | refine Below.setCell ?_ (by first | (simp; done) | (simp; omega)) _))) (first | (refine step_appU rfl _ _ 34 (by rfl) W W.heap.size 25 _ 3 24 el_hire _ (k + 1) _ (by rfl) o2 _ (l.length - k) _ _ (by rfl) (by first | exact (hA.suf hk).below (by repeat (first | exact Below.refl _ _ | refine bl_tr ?_ _ | refine bl_al ?_ _ | refine bl_dr ?_ | refine bl_up ?_ _ | refine Below.drew ?_ | refine bl_alloc ?_ _ | refine Below.setCell ?_ (by first | (simp; done) | (simp; omega)) _)) | (refine Rds.nilled (hA.suf hk) (by omega))) (fun u hu => hcs_one l u (List.mem_of_mem_drop hu)) (by unfold maxLen; omega) (by omega) (up_below _ _).size (by repeat (first | exact Below.refl _ _ | refine bl_tr ?_ _ | refine bl_al ?_ _ | refine bl_dr ?_ | refine bl_up ?_ _ | refine Below.drew ?_ | refine bl_alloc ?_ _ | refine Below.setCell ?_ (by first | (simp; done) | (simp; omega)) _)) (Nat.le_refl _) ?_; intro A3 c3' g3 o3) | (refine step_appU rfl _ _ 34 (by rfl) W W.heap.size 25 _ 3 24 el_hire _ k _ (by rfl) (own_below o1 (by repeat (first | exact Below.refl _ _ | refine bl_tr ?_ _ | refine bl_al ?_ _ | refine bl_dr ?_ | refine bl_up ?_ _ | refine Below.drew ?_ | refine bl_alloc ?_ _ | refine Below.setCell ?_ (by first | (simp; done) | (simp; omega)) _))) _ 1 1 [i64 x.m, i64 x.f, i64 x.t] (by rfl) (rds_new _ _ _ 3 1 rfl) (fun u hu => by simp at hu; obtain rfl | rfl | rfl := hu <;> rfl) (by unfold maxLen; omega) (by omega) (up_below _ _).size (by repeat (first | exact Below.refl _ _ | refine bl_tr ?_ _ | refine bl_al ?_ _ | refine bl_dr ?_ | refine bl_up ?_ _ | refine Below.drew ?_ | refine bl_alloc ?_ _ | refine Below.setCell ?_ (by first | (simp; done) | (simp; omega)) _)) (Nat.le_refl _) ?_; intro A2 c2' g2 o2))
          go_wp2
          go_ret
          have hL : k + 1 + (l.length - k) = l.length + 1 := by omega
          rw [hL] at o3 ⊢
          exact ⟨_, _, rfl, by rw [hN.out, insAt, hcs_app, hcs_app, hcs_take, hcs_drop]; exact own_mono o3 HB.out.size, UpOf.of (HB.out.trans ((up_below W g3).mono HB.out.size))⟩
      · have hm' := Lib.hid q1
        go_wp2_with (first | (go_at_call 62; refine (ret_as (before_any _ _ _) q1).mono ?_; rintro e w' ⟨rfl, g, rfl⟩) | ((with_reducible refine wp_region_up (by kernel_rfl) (by kernel_rfl) ?_); (repeat (go_big_quiet_step (first | (go_at_call 62; first | exact upq_tr (ret_as (before_any _ _ _) q1) | exact upq (ret_as (before_any _ _ _) q1))))); refine wpQuiet_nil ?_; intro _ hw'; obtain ⟨nq, hw''⟩ := hw'; subst hw''))
        go_roundw
        case rel => have hx := ext_lt (P := fun i => before (hat l i) x = true) hme.out hm'.out; exact ⟨k + 1, by omega, by go_num, hx, ex_up (by repeat (first | exact Below.refl _ _ | refine bl_tr ?_ _ | refine bl_al ?_ _ | refine bl_dr ?_ | refine bl_up ?_ _ | refine Below.drew ?_ | refine bl_alloc ?_ _ | refine Below.setCell ?_ (by first | (simp; done) | (simp; omega)) _))⟩
        case measure => (simp [intOf]; try omega)
    · have hN := Lib.hid (insN_eq hk hme.out (fun h => by omega))
      by_cases hck : c = k
      · · go_wp2_with (first | (go_at_call 62; refine (before_any _ _ _).mono ?_; rintro e w' ⟨rfl, g, rfl⟩) | (at_builtin; refine wpl_appU rfl _ _ 34 rfl W W.heap.size 25 _ 3 24 el_hire _ 0 [] rfl (World.ownsRow_lit _ #[] 0 (up_below _ _).size (by unfold maxLen; omega) rfl) _ k _ _ rfl ((hA.pre hk).below (by repeat (first | exact Below.refl _ _ | refine bl_tr ?_ _ | refine bl_al ?_ _ | refine bl_dr ?_ | refine bl_up ?_ _ | refine Below.drew ?_ | refine bl_alloc ?_ _ | refine Below.setCell ?_ (by first | (simp; done) | (simp; omega)) _))) (fun u hu => hcs_one l u (List.mem_of_mem_take hu)) (by unfold maxLen; omega) (by omega) (up_below _ _).size (by repeat (first | exact Below.refl _ _ | refine bl_tr ?_ _ | refine bl_al ?_ _ | refine bl_dr ?_ | refine bl_up ?_ _ | refine Below.drew ?_ | refine bl_alloc ?_ _ | refine Below.setCell ?_ (by first | (simp; done) | (simp; omega)) _)) (Nat.le_refl _) ?_; intro A1 c1' g1 o1; simp only [Nat.zero_add, List.nil_append] at o1) | ((with_reducible refine wp_region_up (by kernel_rfl) (by kernel_rfl) ?_); (repeat (go_big_quiet_step (first | (go_at_call 62; first | exact upq_tr (before_any _ _ _) | exact upq (before_any _ _ _))))); refine wpQuiet_nil ?_; intro _ hw'; obtain ⟨nq, hw''⟩ := hw'; subst hw''))
          go_region_held3 (fun w' => (W).heap.size ≤ w'.heap.size ∧ ∀ b o, b < (W).heap.size → w'.cell? ⟨b, o, none⟩ = (W).cell? ⟨b, o, none⟩) (exact sm_of (by repeat (first | exact Below.refl _ _ | refine bl_tr ?_ _ | refine bl_al ?_ _ | refine bl_dr ?_ | refine bl_up ?_ _ | refine Below.drew ?_ | refine bl_alloc ?_ _ | refine Below.setCell ?_ (by first | (simp; done) | (simp; omega)) _))) (first | (refine step_appU rfl _ _ 34 (by rfl) W W.heap.size 25 _ 3 24 el_hire _ (k + 1) _ (by rfl) o2 _ (l.length - k) _ _ (by rfl) (by first | exact (hA.suf hk).below (by repeat (first | exact Below.refl _ _ | refine bl_tr ?_ _ | refine bl_al ?_ _ | refine bl_dr ?_ | refine bl_up ?_ _ | refine Below.drew ?_ | refine bl_alloc ?_ _ | refine Below.setCell ?_ (by first | (simp; done) | (simp; omega)) _)) | (refine Rds.nilled (hA.suf hk) (by omega))) (fun u hu => hcs_one l u (List.mem_of_mem_drop hu)) (by unfold maxLen; omega) (by omega) (up_below _ _).size (by repeat (first | exact Below.refl _ _ | refine bl_tr ?_ _ | refine bl_al ?_ _ | refine bl_dr ?_ | refine bl_up ?_ _ | refine Below.drew ?_ | refine bl_alloc ?_ _ | refine Below.setCell ?_ (by first | (simp; done) | (simp; omega)) _)) (Nat.le_refl _) ?_; intro A3 c3' g3 o3) | (refine step_appU rfl _ _ 34 (by rfl) W W.heap.size 25 _ 3 24 el_hire _ k _ (by rfl) (own_below o1 (by repeat (first | exact Below.refl _ _ | refine bl_tr ?_ _ | refine bl_al ?_ _ | refine bl_dr ?_ | refine bl_up ?_ _ | refine Below.drew ?_ | refine bl_alloc ?_ _ | refine Below.setCell ?_ (by first | (simp; done) | (simp; omega)) _))) _ 1 1 [i64 x.m, i64 x.f, i64 x.t] (by rfl) (rds_new _ _ _ 3 1 rfl) (fun u hu => by simp at hu; obtain rfl | rfl | rfl := hu <;> rfl) (by unfold maxLen; omega) (by omega) (up_below _ _).size (by repeat (first | exact Below.refl _ _ | refine bl_tr ?_ _ | refine bl_al ?_ _ | refine bl_dr ?_ | refine bl_up ?_ _ | refine Below.drew ?_ | refine bl_alloc ?_ _ | refine Below.setCell ?_ (by first | (simp; done) | (simp; omega)) _)) (Nat.le_refl _) ?_; intro A2 c2' g2 o2))
          go_wp2
          go_ret
          have hL : k + 1 + (l.length - k) = l.length + 1 := by omega
          rw [hL] at o3 ⊢
          exact ⟨_, _, rfl, by rw [hN.out, insAt, hcs_app, hcs_app, hcs_take, hcs_drop]; exact own_mono o3 HB.out.size, UpOf.of (HB.out.trans ((up_below W g3).mono HB.out.size))⟩
      · · go_wp2_with (first | (go_at_call 62; refine (before_any _ _ _).mono ?_; rintro e w' ⟨rfl, g, rfl⟩) | (at_builtin; refine wpl_appU rfl _ _ 34 rfl W W.heap.size 25 _ 3 24 el_hire _ 0 [] rfl (World.ownsRow_lit _ #[] 0 (up_below _ _).size (by unfold maxLen; omega) rfl) _ k _ _ rfl ((hA.pre hk).below (by repeat (first | exact Below.refl _ _ | refine bl_tr ?_ _ | refine bl_al ?_ _ | refine bl_dr ?_ | refine bl_up ?_ _ | refine Below.drew ?_ | refine bl_alloc ?_ _ | refine Below.setCell ?_ (by first | (simp; done) | (simp; omega)) _))) (fun u hu => hcs_one l u (List.mem_of_mem_take hu)) (by unfold maxLen; omega) (by omega) (up_below _ _).size (by repeat (first | exact Below.refl _ _ | refine bl_tr ?_ _ | refine bl_al ?_ _ | refine bl_dr ?_ | refine bl_up ?_ _ | refine Below.drew ?_ | refine bl_alloc ?_ _ | refine Below.setCell ?_ (by first | (simp; done) | (simp; omega)) _)) (Nat.le_refl _) ?_; intro A1 c1' g1 o1; simp only [Nat.zero_add, List.nil_append] at o1) | ((with_reducible refine wp_region_up (by kernel_rfl) (by kernel_rfl) ?_); (repeat (go_big_quiet_step (first | (go_at_call 62; first | exact upq_tr (before_any _ _ _) | exact upq (before_any _ _ _))))); refine wpQuiet_nil ?_; intro _ hw'; obtain ⟨nq, hw''⟩ := hw'; subst hw''))
          go_region_held3 (fun w' => (W).heap.size ≤ w'.heap.size ∧ ∀ b o, b < (W).heap.size → w'.cell? ⟨b, o, none⟩ = (W).cell? ⟨b, o, none⟩) (exact sm_of (by repeat (first | exact Below.refl _ _ | refine bl_tr ?_ _ | refine bl_al ?_ _ | refine bl_dr ?_ | refine bl_up ?_ _ | refine Below.drew ?_ | refine bl_alloc ?_ _ | refine Below.setCell ?_ (by first | (simp; done) | (simp; omega)) _))) (first | (refine step_appU rfl _ _ 34 (by rfl) W W.heap.size 25 _ 3 24 el_hire _ (k + 1) _ (by rfl) o2 _ (l.length - k) _ _ (by rfl) (by first | exact (hA.suf hk).below (by repeat (first | exact Below.refl _ _ | refine bl_tr ?_ _ | refine bl_al ?_ _ | refine bl_dr ?_ | refine bl_up ?_ _ | refine Below.drew ?_ | refine bl_alloc ?_ _ | refine Below.setCell ?_ (by first | (simp; done) | (simp; omega)) _)) | (refine Rds.nilled (hA.suf hk) (by omega))) (fun u hu => hcs_one l u (List.mem_of_mem_drop hu)) (by unfold maxLen; omega) (by omega) (up_below _ _).size (by repeat (first | exact Below.refl _ _ | refine bl_tr ?_ _ | refine bl_al ?_ _ | refine bl_dr ?_ | refine bl_up ?_ _ | refine Below.drew ?_ | refine bl_alloc ?_ _ | refine Below.setCell ?_ (by first | (simp; done) | (simp; omega)) _)) (Nat.le_refl _) ?_; intro A3 c3' g3 o3) | (refine step_appU rfl _ _ 34 (by rfl) W W.heap.size 25 _ 3 24 el_hire _ k _ (by rfl) (own_below o1 (by repeat (first | exact Below.refl _ _ | refine bl_tr ?_ _ | refine bl_al ?_ _ | refine bl_dr ?_ | refine bl_up ?_ _ | refine Below.drew ?_ | refine bl_alloc ?_ _ | refine Below.setCell ?_ (by first | (simp; done) | (simp; omega)) _))) _ 1 1 [i64 x.m, i64 x.f, i64 x.t] (by rfl) (rds_new _ _ _ 3 1 rfl) (fun u hu => by simp at hu; obtain rfl | rfl | rfl := hu <;> rfl) (by unfold maxLen; omega) (by omega) (up_below _ _).size (by repeat (first | exact Below.refl _ _ | refine bl_tr ?_ _ | refine bl_al ?_ _ | refine bl_dr ?_ | refine bl_up ?_ _ | refine Below.drew ?_ | refine bl_alloc ?_ _ | refine Below.setCell ?_ (by first | (simp; done) | (simp; omega)) _)) (Nat.le_refl _) ?_; intro A2 c2' g2 o2))
          go_wp2
          go_ret
          have hL : k + 1 + (l.length - k) = l.length + 1 := by omega
          rw [hL] at o3 ⊢
          exact ⟨_, _, rfl, by rw [hN.out, insAt, hcs_app, hcs_app, hcs_take, hcs_drop]; exact own_mono o3 HB.out.size, UpOf.of (HB.out.trans ((up_below W g3).mono HB.out.size))⟩
end Go.Proofs.YtiagckbdofeecaaDoor

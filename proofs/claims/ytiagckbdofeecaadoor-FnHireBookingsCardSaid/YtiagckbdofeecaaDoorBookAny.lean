/-
  BookAny, of the program and of the reference: the free machine that has come back last, and of these the first.
-/
import Derived.Test.YtiagckbdofeecaaDoorBook2
import Derived.Test.YtiagckbdofeecaaDoorLawFreeMach
namespace Go.Proofs.YtiagckbdofeecaaDoor
open Go.RowKit
/-- when machine m came back last, up to day d, in the first k hires -/
def bkN (l : List Hire) (m d : Int) : Nat → Int
  | 0 => 0
  | k + 1 => if (hat l k).m = m ∧ (hat l k).t ≤ d then max (bkN l m d k) (hat l k).t else bkN l m d k
def bk (l : List Hire) (m d : Int) : Int := bkN l m d l.length
theorem bkN_yes {l : List Hire} {m d : Int} {k : Nat} (h1 : (hat l k).m = m) (h2 : (hat l k).t ≤ d) : bkN l m d (k + 1) = max (bkN l m d k) (hat l k).t := by rw [bkN, if_pos ⟨h1, h2⟩]
theorem bkN_no1 {l : List Hire} {m d : Int} {k : Nat} (h1 : ¬ (hat l k).m = m) : bkN l m d (k + 1) = bkN l m d k := by rw [bkN, if_neg (fun h => h1 h.1)]
theorem bkN_no2 {l : List Hire} {m d : Int} {k : Nat} (h2 : d < (hat l k).t) : bkN l m d (k + 1) = bkN l m d k := by rw [bkN, if_neg (fun h => by omega)]
theorem bkN_bd {l : List Hire} {n : Int} (h : vHires l n = true) (m d : Int) (k : Nat) (hk : k ≤ l.length) : 0 ≤ bkN l m d k ∧ bkN l m d k ≤ 3650 := by
  induction k with
  | zero => simp [bkN]
  | succ k ih =>
    have := ih (by omega)
    have := vHire_bd (vHires_one h (i := k) (by omega)).1
    rw [bkN]
    split <;> omega
/-- the reference's choice among the first k machines, -1 where none is free -/
def bst (l : List Hire) (f t : Int) : Nat → Int
  | 0 => -1
  | k + 1 => if free l k f t = true ∧ (bst l f t k < 0 ∨ bk l (bst l f t k) f < bk l k f) then k else bst l f t k
/-- the program's step through the free machines -/
def stp (l : List Hire) (f : Int) (s : Int × Int) (m : Int) : Int × Int := if s.2 < bk l m f then (m, bk l m f) else s
def stL (l : List Hire) (f : Int) (L : List Int) : Int × Int := L.foldl (stp l f) (0, -1)
theorem stL_app (l : List Hire) (f : Int) (L : List Int) (m : Int) : stL l f (L ++ [m]) = stp l f (stL l f L) m := by simp [stL]
theorem bst_bd (l : List Hire) (f t : Int) (k : Nat) : -1 ≤ bst l f t k ∧ bst l f t k < k ∧ (0 ≤ bst l f t k → free l (bst l f t k) f t = true) := by
  induction k with
  | zero => simp [bst]
  | succ k ih =>
    rw [bst]
    split
    · rename_i h
      exact ⟨by omega, by omega, fun _ => h.1⟩
    · exact ⟨ih.1, by omega, ih.2.2⟩
theorem bst_st {l : List Hire} {n : Int} (h : vHires l n = true) (f t : Int) (k : Nat) :
    (fL l f t k = [] ∧ bst l f t k = -1 ∧ stL l f (fL l f t k) = (0, -1)) ∨ (fL l f t k ≠ [] ∧ 0 ≤ bst l f t k ∧ stL l f (fL l f t k) = (bst l f t k, bk l (bst l f t k) f)) := by
  induction k with
  | zero => exact .inl ⟨rfl, rfl, rfl⟩
  | succ k ih =>
    have hb := bkN_bd h (k : Int) f l.length (Nat.le_refl _)
    by_cases hf : free l k f t = true
    · refine .inr ?_
      have e1 : fL l f t (k + 1) = fL l f t k ++ [(k : Int)] := by rw [fL, if_pos hf]
      rw [e1, stL_app]
      rcases ih with ⟨i1, i2, i3⟩ | ⟨i1, i2, i3⟩
      · have e2 : bst l f t (k + 1) = k := by rw [bst, if_pos ⟨hf, .inl (by omega)⟩]
        rw [i3, e2]
        exact ⟨by simp, by omega, by rw [stp, if_pos]; show (-1 : Int) < bk l k f; unfold bk; omega⟩
      · rw [i3]
        by_cases hc : bk l (bst l f t k) f < bk l k f
        · have e2 : bst l f t (k + 1) = k := by rw [bst, if_pos ⟨hf, .inr hc⟩]
          rw [e2]
          exact ⟨by simp, by omega, by rw [stp, if_pos hc]⟩
        · have e2 : bst l f t (k + 1) = bst l f t k := by rw [bst, if_neg (fun h => by rcases h.2 with h | h <;> omega)]
          rw [e2]
          exact ⟨by simp, i2, by rw [stp, if_neg hc]⟩
    · have e1 : fL l f t (k + 1) = fL l f t k := by rw [fL, if_neg hf]
      have e2 : bst l f t (k + 1) = bst l f t k := by rw [bst, if_neg (fun h => hf h.1)]
      rw [e1, e2]
      exact ih
/-- what BookAny answers -/
def anyX (l : List Hire) (n f t : Int) : Hire := ⟨bst l f t n.toNat, f, t⟩
def anyR (l : List Hire) (n f t : Int) : List Hire × Int × Int :=
  if vHires l n = true then
    if days f t = true then
      if bst l f t n.toNat < 0 then ([], 0, 3)
      else if l.length < 60 then (insAt l (insN l (anyX l n f t)) (anyX l n f t), bst l f t n.toNat, 0) else ([], 0, 5)
    else ([], 0, 2)
  else ([], 0, 1)
theorem stL_bd {l : List Hire} {n : Int} (h : vHires l n = true) (f : Int) (L : List Int) (hL : ∀ m ∈ L, 0 ≤ m ∧ m ≤ 20) : (0 ≤ (stL l f L).1 ∧ (stL l f L).1 ≤ 20) ∧ -1 ≤ (stL l f L).2 ∧ (stL l f L).2 ≤ 3650 := by
  suffices hs : ∀ (L : List Int) (s : Int × Int), (∀ m ∈ L, 0 ≤ m ∧ m ≤ 20) → ((0 ≤ s.1 ∧ s.1 ≤ 20) ∧ -1 ≤ s.2 ∧ s.2 ≤ 3650) → (0 ≤ (L.foldl (stp l f) s).1 ∧ (L.foldl (stp l f) s).1 ≤ 20) ∧ -1 ≤ (L.foldl (stp l f) s).2 ∧ (L.foldl (stp l f) s).2 ≤ 3650 from
    hs L (0, -1) hL (by simp)
  intro L
  induction L with
  | nil => intro s _ h; exact h
  | cons m L ih =>
    intro s hm hs
    refine ih _ (fun x hx => hm x (List.mem_cons_of_mem _ hx)) ?_
    have h1 := bkN_bd h m f l.length (Nat.le_refl _)
    have h2 := hm m List.mem_cons_self
    unfold stp
    split
    · exact ⟨h2, by show -1 ≤ bk l m f; unfold bk; omega, by show bk l m f ≤ 3650; unfold bk; omega⟩
    · exact hs
theorem fL_bd (l : List Hire) (f t : Int) (k : Nat) : ∀ m ∈ fL l f t k, 0 ≤ m ∧ m < k := by
  induction k with
  | zero => simp [fL]
  | succ k ih =>
    rw [fL]
    split
    · intro m hm
      rcases List.mem_append.1 hm with h | h
      · have := ih m h; omega
      · simp at h; omega
    · intro m hm; have := ih m hm; omega
theorem stL_step {l : List Hire} {f : Int} {L : List Int} {j : Nat} (hj : j < L.length) : stL l f (L.take (j + 1)) = stp l f (stL l f (L.take j)) L[j] := by
  rw [List.take_succ_eq_append_getElem hj, stL_app]
set_option maxRecDepth 10000 in
theorem l25Gap_any (A : Option Addr) (c : Nat) (l : List Hire) (n m d : Int) (w : World) (h : Rds w 3 A l.length (hcs l)) (hn : l.length ≤ 100000000) (hv : vHires l n = true) (hd : 0 ≤ d ∧ d ≤ 3650) :
    Calls Tryd.prog 45 #[.slice A l.length c, i64 m, i64 d] w fun e w' => e = .returned (i64 (d - bk l m d)) ∧ UpOf w w' := by
  have HV := Lib.hid (fun k hk => bkN_bd hv m d k hk)
  clear hv
  go_enter Tryd.func45, Tryd.ntmps45
  go_wp2_with (first | ((with_reducible refine wp_region_up (by kernel_rfl) (by kernel_rfl) ?_); (repeat (go_big_quiet_step (fail))); refine wpQuiet_nil ?_; intro _ hw'; obtain ⟨nq, hw''⟩ := hw'; subst hw''))
  go_loopw [7, 8] (fun b i wr => ∃ k : Nat, k ≤ l.length ∧ i = i64 k ∧ b = i64 (bkN l m d k) ∧ ∃ g : Up w, wr = up w g) (fun _ i _ => l.length - (intOf i).toNat)
  case atStart => exact ⟨0, by omega, rfl, rfl, ex_up (by repeat (first | exact Below.refl _ _ | refine bl_tr ?_ _ | refine bl_al ?_ _ | refine bl_dr ?_ | refine bl_up ?_ _ | refine Below.drew ?_ | refine bl_alloc ?_ _ | refine Below.setCell ?_ (by first | (simp; done) | (simp; omega)) _))⟩
  case round =>
    obtain ⟨k, hk, rfl, rfl, g, rfl⟩ := hrel
    have hc := HV.out k hk
    by_cases hlt : k < l.length
    · obtain ⟨b, off, rfl, hb, ha⟩ := hire_at' h hlt
      obtain ⟨_, c0, c1, c2⟩ := ha k hlt
      by_cases q1 : (hat l k).m = m
      · have q1' : ((hat l k).m == m) = true := by simpa using q1
        by_cases q2 : (hat l k).t ≤ d
        · have hN := Lib.hid (bkN_yes q1 q2)
          clear q1
          go_wp2_with (first | (go_at_call 52; refine (max_any _ _ _).mono ?_; rintro e w' ⟨rfl, rfl⟩) | ((with_reducible refine wp_region_up (by kernel_rfl) (by kernel_rfl) ?_); (repeat (go_big_quiet_step (first | (go_at_call 52; first | exact upq_tr_same (max_any _ _ _) | exact upq_same (max_any _ _ _))))); refine wpQuiet_nil ?_; intro _ hw'; obtain ⟨nq, hw''⟩ := hw'; subst hw''))
          go_roundw
          case rel => exact ⟨k + 1, by omega, by go_num, by rw [hN.out], ex_up (by repeat (first | exact Below.refl _ _ | refine bl_tr ?_ _ | refine bl_al ?_ _ | refine bl_dr ?_ | refine bl_up ?_ _ | refine Below.drew ?_ | refine bl_alloc ?_ _ | refine Below.setCell ?_ (by first | (simp; done) | (simp; omega)) _))⟩
          case measure => (simp [intOf]; try omega)
        · have hN := Lib.hid (bkN_no2 (m := m) (show d < (hat l k).t by omega))
          clear q1
          go_wp2_with (first | (go_at_call 52; refine (max_any _ _ _).mono ?_; rintro e w' ⟨rfl, rfl⟩) | ((with_reducible refine wp_region_up (by kernel_rfl) (by kernel_rfl) ?_); (repeat (go_big_quiet_step (first | (go_at_call 52; first | exact upq_tr_same (max_any _ _ _) | exact upq_same (max_any _ _ _))))); refine wpQuiet_nil ?_; intro _ hw'; obtain ⟨nq, hw''⟩ := hw'; subst hw''))
          go_roundw
          case rel => exact ⟨k + 1, by omega, by go_num, by rw [hN.out], ex_up (by repeat (first | exact Below.refl _ _ | refine bl_tr ?_ _ | refine bl_al ?_ _ | refine bl_dr ?_ | refine bl_up ?_ _ | refine Below.drew ?_ | refine bl_alloc ?_ _ | refine Below.setCell ?_ (by first | (simp; done) | (simp; omega)) _))⟩
          case measure => (simp [intOf]; try omega)
      · have q1' : ((hat l k).m == m) = false := by simpa using q1
        have hN := Lib.hid (bkN_no1 (d := d) q1)
        clear q1
        go_wp2_with (first | (go_at_call 52; refine (max_any _ _ _).mono ?_; rintro e w' ⟨rfl, rfl⟩) | ((with_reducible refine wp_region_up (by kernel_rfl) (by kernel_rfl) ?_); (repeat (go_big_quiet_step (first | (go_at_call 52; first | exact upq_tr_same (max_any _ _ _) | exact upq_same (max_any _ _ _))))); refine wpQuiet_nil ?_; intro _ hw'; obtain ⟨nq, hw''⟩ := hw'; subst hw''))
        go_roundw
        case rel => exact ⟨k + 1, by omega, by go_num, by rw [hN.out], ex_up (by repeat (first | exact Below.refl _ _ | refine bl_tr ?_ _ | refine bl_al ?_ _ | refine bl_dr ?_ | refine bl_up ?_ _ | refine Below.drew ?_ | refine bl_alloc ?_ _ | refine Below.setCell ?_ (by first | (simp; done) | (simp; omega)) _))⟩
        case measure => (simp [intOf]; try omega)
    · obtain rfl : k = l.length := by omega
      go_wp2_with (first | ((with_reducible refine wp_region_up (by kernel_rfl) (by kernel_rfl) ?_); (repeat (go_big_quiet_step (fail))); refine wpQuiet_nil ?_; intro _ hw'; obtain ⟨nq, hw''⟩ := hw'; subst hw''))
      go_ret
      exact ⟨rfl, UpOf.of (by repeat (first | exact Below.refl _ _ | refine bl_tr ?_ _ | refine bl_al ?_ _ | refine bl_dr ?_ | refine bl_up ?_ _ | refine Below.drew ?_ | refine bl_alloc ?_ _ | refine Below.setCell ?_ (by first | (simp; done) | (simp; omega)) _))⟩
set_option maxRecDepth 10000 in
set_option maxHeartbeats 1000000 in
theorem anyS_any (b off c : Nat) (l : List Hire) (n f t : Int) (w : World) (h : Rds w 3 (some ⟨b, off, none⟩) l.length (hcs l)) (hn : l.length ≤ 100000000) (hcap : l.length ≤ c) :
    Calls Tryd.prog 15 #[.slice (some ⟨b, off, none⟩) l.length c, i64 n, i64 f, i64 t] w fun e w' => ∃ A' c', e = .returned (.tuple #[.slice A' (anyR l n f t).1.length c', i64 (anyR l n f t).2.1, i64 (anyR l n f t).2.2]) ∧ w'.ownsRow w.heap.size 25 3 (.slice A' (anyR l n f t).1.length c') (anyR l n f t).1.length (hcs (anyR l n f t).1) ∧ UpOf w w' := by
  cases h1 : vHires l n
  · have hR := Lib.hid (show anyR l n f t = ([], 0, 1) by rw [anyR, if_neg (by simp [h1])])
    have hC := Lib.hid (show (fmR l n f t).2 = 1 by rw [fmR, if_neg (by simp [h1])])
    go_enter Tryd.func15, Tryd.ntmps15
    go_wp2_with (first | (go_at_call 43; refine (ret_num (l25Code_any _ _ _ _ _ _ _ h hn) hC.out).mono ?_; rintro e w' ⟨rfl, g, rfl⟩) | ((with_reducible refine wp_region_up (by kernel_rfl) (by kernel_rfl) ?_); (repeat (go_big_quiet_step (first | (go_at_call 43; first | exact upq_tr (ret_num (l25Code_any _ _ _ _ _ _ _ h hn) hC.out) | exact upq (ret_num (l25Code_any _ _ _ _ _ _ _ h hn) hC.out))))); refine wpQuiet_nil ?_; intro _ hw'; obtain ⟨nq, hw''⟩ := hw'; subst hw''))
    go_ret3
    rw [hR.out]
    exact ⟨none, 0, rfl, ⟨rfl, .inl ⟨rfl, rfl⟩⟩, UpOf.of (by repeat (first | exact Below.refl _ _ | refine bl_tr ?_ _ | refine bl_al ?_ _ | refine bl_dr ?_ | refine bl_up ?_ _ | refine Below.drew ?_ | refine bl_alloc ?_ _ | refine Below.setCell ?_ (by first | (simp; done) | (simp; omega)) _))⟩
  · cases b1 : days f t
    · have hR := Lib.hid (show anyR l n f t = ([], 0, 2) by rw [anyR, if_pos h1, if_neg (by simp [b1])])
      have hC := Lib.hid (show (fmR l n f t).2 = 2 by rw [fmR, if_pos h1, if_neg (by simp [b1])])
      go_enter Tryd.func15, Tryd.ntmps15
      go_wp2_with (first | (go_at_call 43; refine (ret_num (l25Code_any _ _ _ _ _ _ _ h hn) hC.out).mono ?_; rintro e w' ⟨rfl, g, rfl⟩) | ((with_reducible refine wp_region_up (by kernel_rfl) (by kernel_rfl) ?_); (repeat (go_big_quiet_step (first | (go_at_call 43; first | exact upq_tr (ret_num (l25Code_any _ _ _ _ _ _ _ h hn) hC.out) | exact upq (ret_num (l25Code_any _ _ _ _ _ _ _ h hn) hC.out))))); refine wpQuiet_nil ?_; intro _ hw'; obtain ⟨nq, hw''⟩ := hw'; subst hw''))
      go_ret3
      rw [hR.out]
      exact ⟨none, 0, rfl, ⟨rfl, .inl ⟨rfl, rfl⟩⟩, UpOf.of (by repeat (first | exact Below.refl _ _ | refine bl_tr ?_ _ | refine bl_al ?_ _ | refine bl_dr ?_ | refine bl_up ?_ _ | refine Below.drew ?_ | refine bl_alloc ?_ _ | refine Below.setCell ?_ (by first | (simp; done) | (simp; omega)) _))⟩
    · obtain ⟨n1, n2⟩ := vHires_nn h1
      obtain ⟨N, rfl⟩ : ∃ N : Nat, n = N := ⟨n.toNat, by omega⟩
      have hf := Lib.hid (show 0 ≤ f ∧ f < t ∧ t ≤ 3650 by simpa [days] using b1)
      obtain ⟨f1, f2, f3⟩ := hf.out
      have hl60 := vHires_len60 h1
      have HV := Lib.hid h1
      have HS := Lib.hid (fun i j => vHires_sort (i := i) (j := j) h1)
      have HR := Lib.hid (show anyR l N f t = if bst l f t N < 0 then ([], 0, 3) else if l.length < 60 then (insAt l (insN l (anyX l N f t)) (anyX l N f t), bst l f t N, 0) else ([], 0, 5) by rw [anyR, if_pos h1, if_pos b1]; rfl)
      have hC := Lib.hid (show (fmR l N f t).2 = 0 by rw [fmR, if_pos h1, if_pos b1])
      go_enter Tryd.func15, Tryd.ntmps15
      go_wp2_with (first | (go_at_call 43; refine (ret_num (l25Code_any _ _ _ _ _ _ _ h hn) hC.out).mono ?_; rintro e w' ⟨rfl, g, rfl⟩) | ((with_reducible refine wp_region_up (by kernel_rfl) (by kernel_rfl) ?_); (repeat (go_big_quiet_step (first | (go_at_call 43; first | exact upq_tr (ret_num (l25Code_any _ _ _ _ _ _ _ h hn) hC.out) | exact upq (ret_num (l25Code_any _ _ _ _ _ _ _ h hn) hC.out))))); refine wpQuiet_nil ?_; intro _ hw'; obtain ⟨nq, hw''⟩ := hw'; subst hw''))
      clear h1 b1
      go_loopw [12, 13] (fun b i wr => ∃ k : Nat, k ≤ N ∧ i = i64 k ∧ b = i64 (bst l f t k) ∧ ∃ g : Up w, wr = up w g) (fun _ i _ => N - (intOf i).toNat)
      case atStart => exact ⟨0, by omega, rfl, rfl, ex_up (by repeat (first | exact Below.refl _ _ | refine bl_tr ?_ _ | refine bl_al ?_ _ | refine bl_dr ?_ | refine bl_up ?_ _ | refine Below.drew ?_ | refine bl_alloc ?_ _ | refine Below.setCell ?_ (by first | (simp; done) | (simp; omega)) _))⟩
      case round =>
        obtain ⟨k, hk, rfl, rfl, g, rfl⟩ := hrel
        have hb := bst_bd l f t k
        have HB := Lib.hid hb.2.2
        obtain ⟨hb1, hb2, _⟩ := hb
        by_cases hlt : k < N
        · cases q1 : free l k f t
          · have hN := Lib.hid (show bst l f t (k + 1) = bst l f t k by rw [bst, if_neg (fun h => by rw [q1] at h; cases h.1)])
            go_wp2_with (first | (go_at_call 44; refine (ret_as (l25Free_any _ _ _ _ _ _ _ (h.below (by repeat (first | exact Below.refl _ _ | refine bl_tr ?_ _ | refine bl_al ?_ _ | refine bl_dr ?_ | refine bl_up ?_ _ | refine Below.drew ?_ | refine bl_alloc ?_ _ | refine Below.setCell ?_ (by first | (simp; done) | (simp; omega)) _))) hn) q1).mono ?_; rintro e w' ⟨rfl, g, rfl⟩) | ((with_reducible refine wp_region_up (by kernel_rfl) (by kernel_rfl) ?_); (repeat (go_big_quiet_step (first | (go_at_call 44; first | exact upq_tr (ret_as (l25Free_any _ _ _ _ _ _ _ (h.below (by repeat (first | exact Below.refl _ _ | refine bl_tr ?_ _ | refine bl_al ?_ _ | refine bl_dr ?_ | refine bl_up ?_ _ | refine Below.drew ?_ | refine bl_alloc ?_ _ | refine Below.setCell ?_ (by first | (simp; done) | (simp; omega)) _))) hn) q1) | exact upq (ret_as (l25Free_any _ _ _ _ _ _ _ (h.below (by repeat (first | exact Below.refl _ _ | refine bl_tr ?_ _ | refine bl_al ?_ _ | refine bl_dr ?_ | refine bl_up ?_ _ | refine Below.drew ?_ | refine bl_alloc ?_ _ | refine Below.setCell ?_ (by first | (simp; done) | (simp; omega)) _))) hn) q1))))); refine wpQuiet_nil ?_; intro _ hw'; obtain ⟨nq, hw''⟩ := hw'; subst hw''))
            go_roundw
            case rel => exact ⟨k + 1, by omega, by go_num, by rw [hN.out], ex_up (by repeat (first | exact Below.refl _ _ | refine bl_tr ?_ _ | refine bl_al ?_ _ | refine bl_dr ?_ | refine bl_up ?_ _ | refine Below.drew ?_ | refine bl_alloc ?_ _ | refine Below.setCell ?_ (by first | (simp; done) | (simp; omega)) _))⟩
            case measure => (simp [intOf]; try omega)
          · by_cases q2 : bst l f t k < 0
            · have hN := Lib.hid (show bst l f t (k + 1) = k by rw [bst, if_pos ⟨q1, .inl q2⟩])
              go_wp2_with (first | (go_at_call 44; refine (ret_as (l25Free_any _ _ _ _ _ _ _ (h.below (by repeat (first | exact Below.refl _ _ | refine bl_tr ?_ _ | refine bl_al ?_ _ | refine bl_dr ?_ | refine bl_up ?_ _ | refine Below.drew ?_ | refine bl_alloc ?_ _ | refine Below.setCell ?_ (by first | (simp; done) | (simp; omega)) _))) hn) q1).mono ?_; rintro e w' ⟨rfl, g, rfl⟩) | ((with_reducible refine wp_region_up (by kernel_rfl) (by kernel_rfl) ?_); (repeat (go_big_quiet_step (first | (go_at_call 44; first | exact upq_tr (ret_as (l25Free_any _ _ _ _ _ _ _ (h.below (by repeat (first | exact Below.refl _ _ | refine bl_tr ?_ _ | refine bl_al ?_ _ | refine bl_dr ?_ | refine bl_up ?_ _ | refine Below.drew ?_ | refine bl_alloc ?_ _ | refine Below.setCell ?_ (by first | (simp; done) | (simp; omega)) _))) hn) q1) | exact upq (ret_as (l25Free_any _ _ _ _ _ _ _ (h.below (by repeat (first | exact Below.refl _ _ | refine bl_tr ?_ _ | refine bl_al ?_ _ | refine bl_dr ?_ | refine bl_up ?_ _ | refine Below.drew ?_ | refine bl_alloc ?_ _ | refine Below.setCell ?_ (by first | (simp; done) | (simp; omega)) _))) hn) q1))))); refine wpQuiet_nil ?_; intro _ hw'; obtain ⟨nq, hw''⟩ := hw'; subst hw''))
              go_roundw
              case rel => exact ⟨k + 1, by omega, by go_num, by rw [hN.out], ex_up (by repeat (first | exact Below.refl _ _ | refine bl_tr ?_ _ | refine bl_al ?_ _ | refine bl_dr ?_ | refine bl_up ?_ _ | refine Below.drew ?_ | refine bl_alloc ?_ _ | refine Below.setCell ?_ (by first | (simp; done) | (simp; omega)) _))⟩
              case measure => (simp [intOf]; try omega)
            · have d1 := bkN_bd HV.out (k : Int) f l.length (Nat.le_refl _)
              have d2 := bkN_bd HV.out (bst l f t k) f l.length (Nat.le_refl _)
              change 0 ≤ bk l k f ∧ bk l k f ≤ 3650 at d1
              change 0 ≤ bk l (bst l f t k) f ∧ bk l (bst l f t k) f ≤ 3650 at d2
              by_cases q3 : bk l (bst l f t k) f < bk l k f
              · have hN := Lib.hid (show bst l f t (k + 1) = k by rw [bst, if_pos ⟨q1, .inr q3⟩])
                have q4 : f - bk l k f < f - bk l (bst l f t k) f := by omega
                go_wp2_with (first | (go_at_call 44; refine (ret_as (l25Free_any _ _ _ _ _ _ _ (h.below (by repeat (first | exact Below.refl _ _ | refine bl_tr ?_ _ | refine bl_al ?_ _ | refine bl_dr ?_ | refine bl_up ?_ _ | refine Below.drew ?_ | refine bl_alloc ?_ _ | refine Below.setCell ?_ (by first | (simp; done) | (simp; omega)) _))) hn) q1).mono ?_; rintro e w' ⟨rfl, g, rfl⟩) | (go_at_call 45; refine (l25Gap_any _ _ _ _ _ _ _ (h.below (by repeat (first | exact Below.refl _ _ | refine bl_tr ?_ _ | refine bl_al ?_ _ | refine bl_dr ?_ | refine bl_up ?_ _ | refine Below.drew ?_ | refine bl_alloc ?_ _ | refine Below.setCell ?_ (by first | (simp; done) | (simp; omega)) _))) hn HV.out (by omega)).mono ?_; rintro e w' ⟨rfl, g, rfl⟩) | ((with_reducible refine wp_region_up (by kernel_rfl) (by kernel_rfl) ?_); (repeat (go_big_quiet_step (first | (go_at_call 44; first | exact upq_tr (ret_as (l25Free_any _ _ _ _ _ _ _ (h.below (by repeat (first | exact Below.refl _ _ | refine bl_tr ?_ _ | refine bl_al ?_ _ | refine bl_dr ?_ | refine bl_up ?_ _ | refine Below.drew ?_ | refine bl_alloc ?_ _ | refine Below.setCell ?_ (by first | (simp; done) | (simp; omega)) _))) hn) q1) | exact upq (ret_as (l25Free_any _ _ _ _ _ _ _ (h.below (by repeat (first | exact Below.refl _ _ | refine bl_tr ?_ _ | refine bl_al ?_ _ | refine bl_dr ?_ | refine bl_up ?_ _ | refine Below.drew ?_ | refine bl_alloc ?_ _ | refine Below.setCell ?_ (by first | (simp; done) | (simp; omega)) _))) hn) q1)) | (go_at_call 45; first | exact upq_tr (l25Gap_any _ _ _ _ _ _ _ (h.below (by repeat (first | exact Below.refl _ _ | refine bl_tr ?_ _ | refine bl_al ?_ _ | refine bl_dr ?_ | refine bl_up ?_ _ | refine Below.drew ?_ | refine bl_alloc ?_ _ | refine Below.setCell ?_ (by first | (simp; done) | (simp; omega)) _))) hn HV.out (by omega)) | exact upq (l25Gap_any _ _ _ _ _ _ _ (h.below (by repeat (first | exact Below.refl _ _ | refine bl_tr ?_ _ | refine bl_al ?_ _ | refine bl_dr ?_ | refine bl_up ?_ _ | refine Below.drew ?_ | refine bl_alloc ?_ _ | refine Below.setCell ?_ (by first | (simp; done) | (simp; omega)) _))) hn HV.out (by omega)))))); refine wpQuiet_nil ?_; intro _ hw'; obtain ⟨nq, hw''⟩ := hw'; subst hw''))
                go_roundw
                case rel => exact ⟨k + 1, by omega, by go_num, by rw [hN.out], ex_up (by repeat (first | exact Below.refl _ _ | refine bl_tr ?_ _ | refine bl_al ?_ _ | refine bl_dr ?_ | refine bl_up ?_ _ | refine Below.drew ?_ | refine bl_alloc ?_ _ | refine Below.setCell ?_ (by first | (simp; done) | (simp; omega)) _))⟩
                case measure => (simp [intOf]; try omega)
              · have hN := Lib.hid (show bst l f t (k + 1) = bst l f t k by rw [bst, if_neg (fun h => by rcases h.2 with h | h <;> omega)])
                have q4 : ¬ f - bk l k f < f - bk l (bst l f t k) f := by omega
                go_wp2_with (first | (go_at_call 44; refine (ret_as (l25Free_any _ _ _ _ _ _ _ (h.below (by repeat (first | exact Below.refl _ _ | refine bl_tr ?_ _ | refine bl_al ?_ _ | refine bl_dr ?_ | refine bl_up ?_ _ | refine Below.drew ?_ | refine bl_alloc ?_ _ | refine Below.setCell ?_ (by first | (simp; done) | (simp; omega)) _))) hn) q1).mono ?_; rintro e w' ⟨rfl, g, rfl⟩) | (go_at_call 45; refine (l25Gap_any _ _ _ _ _ _ _ (h.below (by repeat (first | exact Below.refl _ _ | refine bl_tr ?_ _ | refine bl_al ?_ _ | refine bl_dr ?_ | refine bl_up ?_ _ | refine Below.drew ?_ | refine bl_alloc ?_ _ | refine Below.setCell ?_ (by first | (simp; done) | (simp; omega)) _))) hn HV.out (by omega)).mono ?_; rintro e w' ⟨rfl, g, rfl⟩) | ((with_reducible refine wp_region_up (by kernel_rfl) (by kernel_rfl) ?_); (repeat (go_big_quiet_step (first | (go_at_call 44; first | exact upq_tr (ret_as (l25Free_any _ _ _ _ _ _ _ (h.below (by repeat (first | exact Below.refl _ _ | refine bl_tr ?_ _ | refine bl_al ?_ _ | refine bl_dr ?_ | refine bl_up ?_ _ | refine Below.drew ?_ | refine bl_alloc ?_ _ | refine Below.setCell ?_ (by first | (simp; done) | (simp; omega)) _))) hn) q1) | exact upq (ret_as (l25Free_any _ _ _ _ _ _ _ (h.below (by repeat (first | exact Below.refl _ _ | refine bl_tr ?_ _ | refine bl_al ?_ _ | refine bl_dr ?_ | refine bl_up ?_ _ | refine Below.drew ?_ | refine bl_alloc ?_ _ | refine Below.setCell ?_ (by first | (simp; done) | (simp; omega)) _))) hn) q1)) | (go_at_call 45; first | exact upq_tr (l25Gap_any _ _ _ _ _ _ _ (h.below (by repeat (first | exact Below.refl _ _ | refine bl_tr ?_ _ | refine bl_al ?_ _ | refine bl_dr ?_ | refine bl_up ?_ _ | refine Below.drew ?_ | refine bl_alloc ?_ _ | refine Below.setCell ?_ (by first | (simp; done) | (simp; omega)) _))) hn HV.out (by omega)) | exact upq (l25Gap_any _ _ _ _ _ _ _ (h.below (by repeat (first | exact Below.refl _ _ | refine bl_tr ?_ _ | refine bl_al ?_ _ | refine bl_dr ?_ | refine bl_up ?_ _ | refine Below.drew ?_ | refine bl_alloc ?_ _ | refine Below.setCell ?_ (by first | (simp; done) | (simp; omega)) _))) hn HV.out (by omega)))))); refine wpQuiet_nil ?_; intro _ hw'; obtain ⟨nq, hw''⟩ := hw'; subst hw''))
                go_roundw
                case rel => exact ⟨k + 1, by omega, by go_num, by rw [hN.out], ex_up (by repeat (first | exact Below.refl _ _ | refine bl_tr ?_ _ | refine bl_al ?_ _ | refine bl_dr ?_ | refine bl_up ?_ _ | refine Below.drew ?_ | refine bl_alloc ?_ _ | refine Below.setCell ?_ (by first | (simp; done) | (simp; omega)) _))⟩
                case measure => (simp [intOf]; try omega)
        · obtain rfl : k = N := by omega
          by_cases q2 : bst l f t k < 0
          · have hR := Lib.hid (show anyR l k f t = ([], 0, 3) by rw [HR.out, if_pos q2])
            go_wp2_with (first | ((with_reducible refine wp_region_up (by kernel_rfl) (by kernel_rfl) ?_); (repeat (go_big_quiet_step (fail))); refine wpQuiet_nil ?_; intro _ hw'; obtain ⟨nq, hw''⟩ := hw'; subst hw''))
            go_ret3
            rw [hR.out]
            exact ⟨none, 0, rfl, ⟨rfl, .inl ⟨rfl, rfl⟩⟩, UpOf.of (by repeat (first | exact Below.refl _ _ | refine bl_tr ?_ _ | refine bl_al ?_ _ | refine bl_dr ?_ | refine bl_up ?_ _ | refine Below.drew ?_ | refine bl_alloc ?_ _ | refine Below.setCell ?_ (by first | (simp; done) | (simp; omega)) _))⟩
          · by_cases q4 : l.length < 60
            · have hR := Lib.hid (show anyR l k f t = (insAt l (insN l (anyX l k f t)) (anyX l k f t), bst l f t k, 0) by rw [HR.out, if_neg q2, if_pos q4])
              have hk := Lib.hid (show insN l (anyX l k f t) ≤ l.length from (List.takeWhile_prefix _).length_le)
              have HN := Lib.hid (fun i (hi : i < l.length) => free_ne (x := anyX l k f t) HV.out f2 (HB.out (by omega)) hi)
              go_wp2_with (first | ((with_reducible refine wp_region_up (by kernel_rfl) (by kernel_rfl) ?_); (repeat (go_big_quiet_step (fail))); refine wpQuiet_nil ?_; intro _ hw'; obtain ⟨nq, hw''⟩ := hw'; subst hw''))
              refine (l25Put_any _ _ _ _ (anyX l k f t) _ (h.below (by repeat (first | exact Below.refl _ _ | refine bl_tr ?_ _ | refine bl_al ?_ _ | refine bl_dr ?_ | refine bl_up ?_ _ | refine Below.drew ?_ | refine bl_alloc ?_ _ | refine Below.setCell ?_ (by first | (simp; done) | (simp; omega)) _))) hn hcap HS.out HN.out).mono ?_
              rintro e w' ⟨A', c', rfl, o, g9, rfl⟩
              go_wp2_with fail
              go_ret3
              rw [hR.out]
              exact ⟨_, _, by rw [insAt_len _ _ _ hk.out]; rfl, by rw [insAt_len _ _ _ hk.out]; exact own_mono o (up_below _ _).size, UpOf.of (by repeat (first | exact Below.refl _ _ | refine bl_tr ?_ _ | refine bl_al ?_ _ | refine bl_dr ?_ | refine bl_up ?_ _ | refine Below.drew ?_ | refine bl_alloc ?_ _ | refine Below.setCell ?_ (by first | (simp; done) | (simp; omega)) _))⟩
            · have hR := Lib.hid (show anyR l k f t = ([], 0, 5) by rw [HR.out, if_neg q2, if_neg q4])
              have q5 : (60 : Int) ≤ (l.length : Int) := by omega
              go_wp2_with (first | ((with_reducible refine wp_region_up (by kernel_rfl) (by kernel_rfl) ?_); (repeat (go_big_quiet_step (fail))); refine wpQuiet_nil ?_; intro _ hw'; obtain ⟨nq, hw''⟩ := hw'; subst hw''))
              go_ret3
              rw [hR.out]
              exact ⟨none, 0, rfl, ⟨rfl, .inl ⟨rfl, rfl⟩⟩, UpOf.of (by repeat (first | exact Below.refl _ _ | refine bl_tr ?_ _ | refine bl_al ?_ _ | refine bl_dr ?_ | refine bl_up ?_ _ | refine Below.drew ?_ | refine bl_alloc ?_ _ | refine Below.setCell ?_ (by first | (simp; done) | (simp; omega)) _))⟩
end Go.Proofs.YtiagckbdofeecaaDoor

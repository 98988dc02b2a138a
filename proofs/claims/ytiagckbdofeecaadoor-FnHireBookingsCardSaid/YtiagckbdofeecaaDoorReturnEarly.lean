/-
  ReturnEarly: of the program and of the reference.
-/
import Derived.Test.YtiagckbdofeecaaDoorMgA
namespace Go.Proofs.YtiagckbdofeecaaDoor
open Go.RowKit
def reR (l : List Hire) (n k d : Int) : List Hire × Int :=
  if vHires l n = true then
    if btw k 0 ((l.length : Int) - 1) = true ∧ btw d 0 3650 = true then
      if (hat l k.toNat).f < d ∧ d < (hat l k.toNat).t then (l.set k.toNat ⟨(hat l k.toNat).m, (hat l k.toNat).f, d⟩, 0) else ([], 6)
    else ([], 2)
  else ([], 1)
theorem hcs_set {l : List Hire} {K : Nat} (hK : K < l.length) (d : Int) : (hcs l).set (K * 3 + 2) (i64 d) = hcs (l.set K ⟨(hat l K).m, (hat l K).f, d⟩) := by
  refine flat_ext hcells_len _ (by rw [List.length_set, List.length_set]; exact flat_len hcells_len l) fun i hi j hj => ?_
  rw [List.length_set] at hi
  have hg := flat_get hcells_len l hi hj
  by_cases hi' : i = K
  · subst hi'
    rw [List.getElem_set_self]
    match j, hj with
    | 0, _ => rw [List.getElem?_set_ne (by omega), hcs, hg, hat_eq hK]; rfl
    | 1, _ => rw [List.getElem?_set_ne (by omega), hcs, hg, hat_eq hK]; rfl
    | 2, _ => rw [List.getElem?_set_self (by rw [hcs, flat_len hcells_len]; omega)]; rfl
  · rw [List.getElem?_set_ne (by omega), List.getElem_set_ne (by omega)]
    exact hg
theorem hcs_one (l : List Hire) : ∀ u ∈ hcs l, u.oneCell' = true := by
  intro u hu
  simp only [hcs, List.mem_flatMap, Hire.cells, List.mem_cons, List.not_mem_nil, or_false] at hu
  obtain ⟨a, _, rfl | rfl | rfl⟩ := hu <;> rfl
theorem rds_news {w : World} {b off : Nat} {l : List Hire} {W : World} (h : Rds w 3 (some ⟨b, off, none⟩) l.length (hcs l)) (hl : 0 < l.length) (hb : Below w.heap.size w W) :
    ∀ j u, (hcs l)[j]? = some u → W.cell? ((⟨b, off, none⟩ : Addr).add j) = some u := fun j u hu => by
  obtain ⟨b', off', e, _, hc⟩ := (h.below hb).at (by omega)
  injection e with e
  injection e with e1 e2
  subst e1 e2
  have hadd : (⟨b, off, none⟩ : Addr).add j = ⟨b, off + j, none⟩ := by unfold Addr.add; split <;> simp_all
  rw [hadd]
  exact hc j u hu
theorem own_form {w : World} {base sz n : Nat} {e : TypeId} {v : Value} {xs : List Value} (h : w.ownsRow base e sz v n xs) (hn : 0 < n) : ∃ b c, v = .slice (some ⟨b, 0, none⟩) n c := by
  rcases h.2 with ⟨_, h0⟩ | ⟨g, cap, cur, hv, _⟩
  · omega
  · exact ⟨g, cap, hv⟩
theorem hcs_len (l : List Hire) : (hcs l).length = l.length * 3 := flat_len hcells_len l
set_option maxRecDepth 10000 in
set_option maxHeartbeats 1000000 in
theorem returnEarlyI_any (A : Option Addr) (c : Nat) (l : List Hire) (n k d : Int) (w : World) (h : Rds w 3 A l.length (hcs l)) (hn : l.length ≤ 100000000) (hcap : l.length ≤ c) :
    Calls Tryd.prog 22 #[.slice A l.length c, i64 n, i64 k, i64 d] w fun e w' => ∃ A' c', e = .returned (.tuple #[.slice A' (reR l n k d).1.length c', i64 (reR l n k d).2]) ∧ w'.ownsRow w.heap.size 25 3 (.slice A' (reR l n k d).1.length c') (reR l n k d).1.length (hcs (reR l n k d).1) ∧ UpOf w w' := by
  by_cases h1 : vHires l n = true
  · have hl60 := vHires_len60 h1
    cases b1 : btw k 0 ((l.length : Int) - 1)
    · have hR := Lib.hid (show reR l n k d = ([], 2) by rw [reR, if_pos h1, if_neg (by simp [b1])])
      go_enter Tryd.func22, Tryd.ntmps22
      go_wp2_with (first | (go_at_call 30; refine (ret_as (validHires_any _ _ _ _ _ h hn hcap) h1).mono ?_; rintro e w' ⟨rfl, g, rfl⟩) | (go_at_call 58; refine (between_any _ _ _ _).mono ?_; rintro e w' ⟨rfl, rfl⟩) | ((with_reducible refine wp_region_up (by kernel_rfl) (by kernel_rfl) ?_); (repeat (go_big_quiet_step (first | (go_at_call 30; first | exact upq_tr (ret_as (validHires_any _ _ _ _ _ h hn hcap) h1) | exact upq (ret_as (validHires_any _ _ _ _ _ h hn hcap) h1)) | (go_at_call 58; first | exact upq_tr_same (between_any _ _ _ _) | exact upq_same (between_any _ _ _ _))))); refine wpQuiet_nil ?_; intro _ hw'; obtain ⟨nq, hw''⟩ := hw'; subst hw''))
      go_ret2
      rw [hR.out]
      exact ⟨none, 0, rfl, ⟨rfl, .inl ⟨rfl, rfl⟩⟩, UpOf.of (by repeat (first | exact Below.refl _ _ | refine bl_tr ?_ _ | refine bl_al ?_ _ | refine bl_dr ?_ | refine bl_up ?_ _ | refine Below.drew ?_ | refine bl_alloc ?_ _ | refine Below.setCell ?_ (by first | (simp; done) | (simp; omega)) _))⟩
    · cases b2 : btw d 0 3650
      · have hR := Lib.hid (show reR l n k d = ([], 2) by rw [reR, if_pos h1, if_neg (by simp [b2])])
        go_enter Tryd.func22, Tryd.ntmps22
        go_wp2_with (first | (go_at_call 30; refine (ret_as (validHires_any _ _ _ _ _ h hn hcap) h1).mono ?_; rintro e w' ⟨rfl, g, rfl⟩) | (go_at_call 58; refine (between_any _ _ _ _).mono ?_; rintro e w' ⟨rfl, rfl⟩) | ((with_reducible refine wp_region_up (by kernel_rfl) (by kernel_rfl) ?_); (repeat (go_big_quiet_step (first | (go_at_call 30; first | exact upq_tr (ret_as (validHires_any _ _ _ _ _ h hn hcap) h1) | exact upq (ret_as (validHires_any _ _ _ _ _ h hn hcap) h1)) | (go_at_call 58; first | exact upq_tr_same (between_any _ _ _ _) | exact upq_same (between_any _ _ _ _))))); refine wpQuiet_nil ?_; intro _ hw'; obtain ⟨nq, hw''⟩ := hw'; subst hw''))
        go_ret2
        rw [hR.out]
        exact ⟨none, 0, rfl, ⟨rfl, .inl ⟨rfl, rfl⟩⟩, UpOf.of (by repeat (first | exact Below.refl _ _ | refine bl_tr ?_ _ | refine bl_al ?_ _ | refine bl_dr ?_ | refine bl_up ?_ _ | refine Below.drew ?_ | refine bl_alloc ?_ _ | refine Below.setCell ?_ (by first | (simp; done) | (simp; omega)) _))⟩
      · obtain ⟨k1, k2⟩ := btw_true b1
        obtain ⟨K, rfl⟩ : ∃ K : Nat, k = K := ⟨k.toNat, by omega⟩
        have hK : K < l.length := by omega
        obtain ⟨b, off, rfl, hb, ha⟩ := hire_at' h hK
        obtain ⟨_, c0, c1, c2⟩ := ha K hK
        have hi : (Tryd.prog.info? 25).map (fun i => (i.zero, i.size, i.bytes)) = some (some (.agg #[i64 0, i64 0, i64 0]), 3, 24) := by kernel_rfl
        obtain ⟨i0, hi, hz0, hz1, hz2⟩ := info_parts hi
        by_cases q1 : (hat l K).f < d
        · by_cases q2 : d < (hat l K).t
          · have hR := Lib.hid (show reR l n K d = (l.set K ⟨(hat l K).m, (hat l K).f, d⟩, 0) by rw [reR, if_pos h1, if_pos ⟨b1, b2⟩, Int.toNat_natCast, if_pos ⟨q1, q2⟩])
            go_enter Tryd.func22, Tryd.ntmps22
            go_wp2_with (first | (go_at_call 30; refine (ret_as (validHires_any _ _ _ _ _ h hn hcap) h1).mono ?_; rintro e w' ⟨rfl, g, rfl⟩) | (go_at_call 58; refine (between_any _ _ _ _).mono ?_; rintro e w' ⟨rfl, rfl⟩) | (at_builtin; refine wpList_append_own _ rfl _ _ 34 rfl w.heap.size 25 i0 (.agg #[i64 0, i64 0, i64 0]) 3 24 Tryd.underlying34 hi hz0 hz1 hz2 rfl (by decide) _ _ _ rfl (World.ownsRow_lit (up w g) #[] 0 g.below.size (by unfold maxLen; omega) rfl) ⟨b, off, none⟩ l.length c (hcs l) rfl (hcs_len l) (rds_news h (by omega) (by repeat (first | exact Below.refl _ _ | refine bl_tr ?_ _ | refine bl_al ?_ _ | refine bl_dr ?_ | refine bl_up ?_ _ | refine Below.drew ?_ | refine bl_alloc ?_ _ | refine Below.setCell ?_ (by first | (simp; done) | (simp; omega)) _))) (hcs_one l) (by unfold maxLen; omega) (by omega) (g.al (.cells #[] 25)).below.size ?_; intro v' w3 hown hgr hnil; clear hnil; simp only [Nat.zero_add, List.nil_append] at hown; obtain ⟨b3, c3, rfl⟩ := own_form hown (by omega); obtain ⟨hb30, hb31, _⟩ := own_block hown rfl; obtain ⟨g3, rfl⟩ := up_of_grown (W := w) (by repeat (first | exact Below.refl _ _ | refine bl_tr ?_ _ | refine bl_al ?_ _ | refine bl_dr ?_ | refine bl_up ?_ _ | refine Below.drew ?_ | refine bl_alloc ?_ _ | refine Below.setCell ?_ (by first | (simp; done) | (simp; omega)) _)) hgr (fun k hk => by have hk' : some (up w g).heap.size = some k := hk; injection hk' with hk'; rw [← hk']; exact g.below.size); clear hgr; have d2 := hown.cellAt (K * 3 + 2) (by omega); rw [List.getElem?_eq_getElem (by rw [hcs_len]; omega)] at d2; have f0 := fun i => hown.frozenAt i; clear c0 c1 c2 ha) | ((with_reducible refine wp_region_up (by kernel_rfl) (by kernel_rfl) ?_); (repeat (go_big_quiet_step (first | (go_at_call 30; first | exact upq_tr (ret_as (validHires_any _ _ _ _ _ h hn hcap) h1) | exact upq (ret_as (validHires_any _ _ _ _ _ h hn hcap) h1)) | (go_at_call 58; first | exact upq_tr_same (between_any _ _ _ _) | exact upq_same (between_any _ _ _ _))))); refine wpQuiet_nil ?_; intro _ hw'; obtain ⟨nq, hw''⟩ := hw'; subst hw''))
            go_ret2
            rw [hR.out]
            have s := hown.stored (K * 3 + 2) (i64 d)
            rw [hcs_set hK] at s
            exact ⟨some ⟨b3, 0, none⟩, c3, by rw [List.length_set]; rfl, by rw [List.length_set]; exact s.1, UpOf.of ((up_below w g3).setCell hb30 _)⟩
          · have hR := Lib.hid (show reR l n K d = ([], 6) by rw [reR, if_pos h1, if_pos ⟨b1, b2⟩, Int.toNat_natCast, if_neg (by omega)])
            go_enter Tryd.func22, Tryd.ntmps22
            go_wp2_with (first | (go_at_call 30; refine (ret_as (validHires_any _ _ _ _ _ h hn hcap) h1).mono ?_; rintro e w' ⟨rfl, g, rfl⟩) | (go_at_call 58; refine (between_any _ _ _ _).mono ?_; rintro e w' ⟨rfl, rfl⟩) | ((with_reducible refine wp_region_up (by kernel_rfl) (by kernel_rfl) ?_); (repeat (go_big_quiet_step (first | (go_at_call 30; first | exact upq_tr (ret_as (validHires_any _ _ _ _ _ h hn hcap) h1) | exact upq (ret_as (validHires_any _ _ _ _ _ h hn hcap) h1)) | (go_at_call 58; first | exact upq_tr_same (between_any _ _ _ _) | exact upq_same (between_any _ _ _ _))))); refine wpQuiet_nil ?_; intro _ hw'; obtain ⟨nq, hw''⟩ := hw'; subst hw''))
            go_ret2
            rw [hR.out]
            exact ⟨none, 0, rfl, ⟨rfl, .inl ⟨rfl, rfl⟩⟩, UpOf.of (by repeat (first | exact Below.refl _ _ | refine bl_tr ?_ _ | refine bl_al ?_ _ | refine bl_dr ?_ | refine bl_up ?_ _ | refine Below.drew ?_ | refine bl_alloc ?_ _ | refine Below.setCell ?_ (by first | (simp; done) | (simp; omega)) _))⟩
        · have hR := Lib.hid (show reR l n K d = ([], 6) by rw [reR, if_pos h1, if_pos ⟨b1, b2⟩, Int.toNat_natCast, if_neg (by omega)])
          go_enter Tryd.func22, Tryd.ntmps22
          go_wp2_with (first | (go_at_call 30; refine (ret_as (validHires_any _ _ _ _ _ h hn hcap) h1).mono ?_; rintro e w' ⟨rfl, g, rfl⟩) | (go_at_call 58; refine (between_any _ _ _ _).mono ?_; rintro e w' ⟨rfl, rfl⟩) | ((with_reducible refine wp_region_up (by kernel_rfl) (by kernel_rfl) ?_); (repeat (go_big_quiet_step (first | (go_at_call 30; first | exact upq_tr (ret_as (validHires_any _ _ _ _ _ h hn hcap) h1) | exact upq (ret_as (validHires_any _ _ _ _ _ h hn hcap) h1)) | (go_at_call 58; first | exact upq_tr_same (between_any _ _ _ _) | exact upq_same (between_any _ _ _ _))))); refine wpQuiet_nil ?_; intro _ hw'; obtain ⟨nq, hw''⟩ := hw'; subst hw''))
          go_ret2
          rw [hR.out]
          exact ⟨none, 0, rfl, ⟨rfl, .inl ⟨rfl, rfl⟩⟩, UpOf.of (by repeat (first | exact Below.refl _ _ | refine bl_tr ?_ _ | refine bl_al ?_ _ | refine bl_dr ?_ | refine bl_up ?_ _ | refine Below.drew ?_ | refine bl_alloc ?_ _ | refine Below.setCell ?_ (by first | (simp; done) | (simp; omega)) _))⟩
  · have h1' : vHires l n = false := by simpa using h1
    have hR := Lib.hid (show reR l n k d = ([], 1) by rw [reR, if_neg h1])
    clear h1
    go_enter Tryd.func22, Tryd.ntmps22
    go_wp2_with (first | (go_at_call 30; refine (ret_as (validHires_any _ _ _ _ _ h hn hcap) h1').mono ?_; rintro e w' ⟨rfl, g, rfl⟩) | ((with_reducible refine wp_region_up (by kernel_rfl) (by kernel_rfl) ?_); (repeat (go_big_quiet_step (first | (go_at_call 30; first | exact upq_tr (ret_as (validHires_any _ _ _ _ _ h hn hcap) h1') | exact upq (ret_as (validHires_any _ _ _ _ _ h hn hcap) h1'))))); refine wpQuiet_nil ?_; intro _ hw'; obtain ⟨nq, hw''⟩ := hw'; subst hw''))
    go_ret2
    rw [hR.out]
    exact ⟨none, 0, rfl, ⟨rfl, .inl ⟨rfl, rfl⟩⟩, UpOf.of (by repeat (first | exact Below.refl _ _ | refine bl_tr ?_ _ | refine bl_al ?_ _ | refine bl_dr ?_ | refine bl_up ?_ _ | refine Below.drew ?_ | refine bl_alloc ?_ _ | refine Below.setCell ?_ (by first | (simp; done) | (simp; omega)) _))⟩
theorem set_same {xs : List Value} {i : Nat} {v : Value} (h : xs[i]? = some v) : xs.set i v = xs := by
  refine List.ext_getElem? fun j => ?_
  by_cases hj : i = j
  · subst hj
    have hl : i < xs.length := (List.getElem?_eq_some_iff.1 h).1
    rw [List.getElem?_set_self hl, h]
  · rw [List.getElem?_set_ne hj]
theorem hcs_at {l : List Hire} {K : Nat} (hK : K < l.length) : (hcs l)[K * 3]? = some (i64 (hat l K).m) ∧ (hcs l)[K * 3 + 1]? = some (i64 (hat l K).f) ∧ (hcs l)[K * 3 + 2]? = some (i64 (hat l K).t) := by
  rw [← hat_eq hK]
  exact ⟨flat_get hcells_len l hK (j := 0) (by omega), flat_get hcells_len l hK (j := 1) (by omega), flat_get hcells_len l hK (j := 2) (by omega)⟩
set_option maxRecDepth 10000 in
set_option maxHeartbeats 1000000 in
theorem returnEarlyS_any (A : Option Addr) (c : Nat) (l : List Hire) (n k d : Int) (w : World) (h : Rds w 3 A l.length (hcs l)) (hn : l.length ≤ 100000000) :
    Calls Tryd.prog 23 #[.slice A l.length c, i64 n, i64 k, i64 d] w fun e w' => ∃ A' c', e = .returned (.tuple #[.slice A' (reR l n k d).1.length c', i64 (reR l n k d).2]) ∧ w'.ownsRow w.heap.size 25 3 (.slice A' (reR l n k d).1.length c') (reR l n k d).1.length (hcs (reR l n k d).1) ∧ UpOf w w' := by
  by_cases h1 : vHires l n = true
  · have hl60 := vHires_len60 h1
    cases b1 : btw k 0 ((l.length : Int) - 1)
    · have hR := Lib.hid (show reR l n k d = ([], 2) by rw [reR, if_pos h1, if_neg (by simp [b1])])
      go_enter Tryd.func23, Tryd.ntmps23
      go_wp2_with (first | (go_at_call 55; refine (ret_as (l25Ok_any _ _ _ _ _ h hn) h1).mono ?_; rintro e w' ⟨rfl, g, rfl⟩) | (go_at_call 59; refine (in_any _ _ _ _).mono ?_; rintro e w' ⟨rfl, rfl⟩) | ((with_reducible refine wp_region_up (by kernel_rfl) (by kernel_rfl) ?_); (repeat (go_big_quiet_step (first | (go_at_call 55; first | exact upq_tr (ret_as (l25Ok_any _ _ _ _ _ h hn) h1) | exact upq (ret_as (l25Ok_any _ _ _ _ _ h hn) h1)) | (go_at_call 59; first | exact upq_tr_same (in_any _ _ _ _) | exact upq_same (in_any _ _ _ _))))); refine wpQuiet_nil ?_; intro _ hw'; obtain ⟨nq, hw''⟩ := hw'; subst hw''))
      go_ret2
      rw [hR.out]
      exact ⟨none, 0, rfl, ⟨rfl, .inl ⟨rfl, rfl⟩⟩, UpOf.of (by repeat (first | exact Below.refl _ _ | refine bl_tr ?_ _ | refine bl_al ?_ _ | refine bl_dr ?_ | refine bl_up ?_ _ | refine Below.drew ?_ | refine bl_alloc ?_ _ | refine Below.setCell ?_ (by first | (simp; done) | (simp; omega)) _))⟩
    · cases b2 : btw d 0 3650
      · have hR := Lib.hid (show reR l n k d = ([], 2) by rw [reR, if_pos h1, if_neg (by simp [b2])])
        go_enter Tryd.func23, Tryd.ntmps23
        go_wp2_with (first | (go_at_call 55; refine (ret_as (l25Ok_any _ _ _ _ _ h hn) h1).mono ?_; rintro e w' ⟨rfl, g, rfl⟩) | (go_at_call 59; refine (in_any _ _ _ _).mono ?_; rintro e w' ⟨rfl, rfl⟩) | ((with_reducible refine wp_region_up (by kernel_rfl) (by kernel_rfl) ?_); (repeat (go_big_quiet_step (first | (go_at_call 55; first | exact upq_tr (ret_as (l25Ok_any _ _ _ _ _ h hn) h1) | exact upq (ret_as (l25Ok_any _ _ _ _ _ h hn) h1)) | (go_at_call 59; first | exact upq_tr_same (in_any _ _ _ _) | exact upq_same (in_any _ _ _ _))))); refine wpQuiet_nil ?_; intro _ hw'; obtain ⟨nq, hw''⟩ := hw'; subst hw''))
        go_ret2
        rw [hR.out]
        exact ⟨none, 0, rfl, ⟨rfl, .inl ⟨rfl, rfl⟩⟩, UpOf.of (by repeat (first | exact Below.refl _ _ | refine bl_tr ?_ _ | refine bl_al ?_ _ | refine bl_dr ?_ | refine bl_up ?_ _ | refine Below.drew ?_ | refine bl_alloc ?_ _ | refine Below.setCell ?_ (by first | (simp; done) | (simp; omega)) _))⟩
      · obtain ⟨k1, k2⟩ := btw_true b1
        obtain ⟨K, rfl⟩ : ∃ K : Nat, k = K := ⟨k.toNat, by omega⟩
        have hK : K < l.length := by omega
        obtain ⟨b, off, rfl, hb, ha⟩ := hire_at' h hK
        obtain ⟨_, c0, c1, c2⟩ := ha K hK
        have hi : (Tryd.prog.info? 25).map (fun i => (i.zero, i.size, i.bytes)) = some (some (.agg #[i64 0, i64 0, i64 0]), 3, 24) := by kernel_rfl
        obtain ⟨i0, hi, hz0, hz1, hz2⟩ := info_parts hi
        by_cases q1 : (hat l K).f < d
        · by_cases q2 : d < (hat l K).t
          · have hR := Lib.hid (show reR l n K d = (l.set K ⟨(hat l K).m, (hat l K).f, d⟩, 0) by rw [reR, if_pos h1, if_pos ⟨b1, b2⟩, Int.toNat_natCast, if_pos ⟨q1, q2⟩])
            go_enter Tryd.func23, Tryd.ntmps23
            go_wp2_with (first | (go_at_call 55; refine (ret_as (l25Ok_any _ _ _ _ _ h hn) h1).mono ?_; rintro e w' ⟨rfl, g, rfl⟩) | (go_at_call 59; refine (in_any _ _ _ _).mono ?_; rintro e w' ⟨rfl, rfl⟩) | (at_builtin; refine wpList_append_own _ rfl _ _ 34 rfl w.heap.size 25 i0 (.agg #[i64 0, i64 0, i64 0]) 3 24 Tryd.underlying34 hi hz0 hz1 hz2 rfl (by decide) _ _ _ rfl (World.ownsRow_lit (up w g) #[] 0 g.below.size (by unfold maxLen; omega) rfl) ⟨b, off, none⟩ l.length c (hcs l) rfl (hcs_len l) (rds_news h (by omega) (by repeat (first | exact Below.refl _ _ | refine bl_tr ?_ _ | refine bl_al ?_ _ | refine bl_dr ?_ | refine bl_up ?_ _ | refine Below.drew ?_ | refine bl_alloc ?_ _ | refine Below.setCell ?_ (by first | (simp; done) | (simp; omega)) _))) (hcs_one l) (by unfold maxLen; omega) (by omega) (g.al (.cells #[] 25)).below.size ?_; intro v' w3 hown hgr hnil; clear hnil; simp only [Nat.zero_add, List.nil_append] at hown; obtain ⟨b3, c3, rfl⟩ := own_form hown (by omega); obtain ⟨hb30, hb31, _⟩ := own_block hown rfl; obtain ⟨g3, rfl⟩ := up_of_grown (W := w) (by repeat (first | exact Below.refl _ _ | refine bl_tr ?_ _ | refine bl_al ?_ _ | refine bl_dr ?_ | refine bl_up ?_ _ | refine Below.drew ?_ | refine bl_alloc ?_ _ | refine Below.setCell ?_ (by first | (simp; done) | (simp; omega)) _)) hgr (fun k hk => by have hk' : some (up w g).heap.size = some k := hk; injection hk' with hk'; rw [← hk']; exact g.below.size); clear hgr; obtain ⟨e0, e1, e2⟩ := hcs_at hK; have d0 := hown.cellAt (K * 3) (by omega); have d1 := hown.cellAt (K * 3 + 1) (by omega); have d2 := hown.cellAt (K * 3 + 2) (by omega); rw [e0] at d0; rw [e1] at d1; rw [e2] at d2; have f0 := fun i => hown.frozenAt i; clear c0 c1 c2 ha) | ((with_reducible refine wp_region_up (by kernel_rfl) (by kernel_rfl) ?_); (repeat (go_big_quiet_step (first | (go_at_call 55; first | exact upq_tr (ret_as (l25Ok_any _ _ _ _ _ h hn) h1) | exact upq (ret_as (l25Ok_any _ _ _ _ _ h hn) h1)) | (go_at_call 59; first | exact upq_tr_same (in_any _ _ _ _) | exact upq_same (in_any _ _ _ _))))); refine wpQuiet_nil ?_; intro _ hw'; obtain ⟨nq, hw''⟩ := hw'; subst hw''))
            go_ret2
            rw [hR.out]
            have hown' : (up w (g3.al (.cells #[i64 (hat l K).m, i64 (hat l K).f, i64 d] 25))).ownsRow w.heap.size 25 3 (.slice (some ⟨b3, 0, none⟩) l.length c3) l.length (hcs l) := hown.alloc _
            have s1 := hown'.stored (K * 3) (i64 (hat l K).m)
            rw [set_same (hcs_at hK).1] at s1
            have s2 := s1.1.stored (K * 3 + 1) (i64 (hat l K).f)
            rw [set_same (hcs_at hK).2.1] at s2
            have s := s2.1.stored (K * 3 + 2) (i64 d)
            rw [hcs_set hK] at s
            exact ⟨some ⟨b3, 0, none⟩, c3, by rw [List.length_set]; rfl, by rw [List.length_set]; exact s.1, UpOf.of ((((up_below w (g3.al (.cells #[i64 (hat l K).m, i64 (hat l K).f, i64 d] 25))).setCell hb30 _).setCell hb30 _).setCell hb30 _)⟩
          · have hR := Lib.hid (show reR l n K d = ([], 6) by rw [reR, if_pos h1, if_pos ⟨b1, b2⟩, Int.toNat_natCast, if_neg (by omega)])
            go_enter Tryd.func23, Tryd.ntmps23
            go_wp2_with (first | (go_at_call 55; refine (ret_as (l25Ok_any _ _ _ _ _ h hn) h1).mono ?_; rintro e w' ⟨rfl, g, rfl⟩) | (go_at_call 59; refine (in_any _ _ _ _).mono ?_; rintro e w' ⟨rfl, rfl⟩) | ((with_reducible refine wp_region_up (by kernel_rfl) (by kernel_rfl) ?_); (repeat (go_big_quiet_step (first | (go_at_call 55; first | exact upq_tr (ret_as (l25Ok_any _ _ _ _ _ h hn) h1) | exact upq (ret_as (l25Ok_any _ _ _ _ _ h hn) h1)) | (go_at_call 59; first | exact upq_tr_same (in_any _ _ _ _) | exact upq_same (in_any _ _ _ _))))); refine wpQuiet_nil ?_; intro _ hw'; obtain ⟨nq, hw''⟩ := hw'; subst hw''))
            go_ret2
            rw [hR.out]
            exact ⟨none, 0, rfl, ⟨rfl, .inl ⟨rfl, rfl⟩⟩, UpOf.of (by repeat (first | exact Below.refl _ _ | refine bl_tr ?_ _ | refine bl_al ?_ _ | refine bl_dr ?_ | refine bl_up ?_ _ | refine Below.drew ?_ | refine bl_alloc ?_ _ | refine Below.setCell ?_ (by first | (simp; done) | (simp; omega)) _))⟩
        · have hR := Lib.hid (show reR l n K d = ([], 6) by rw [reR, if_pos h1, if_pos ⟨b1, b2⟩, Int.toNat_natCast, if_neg (by omega)])
          go_enter Tryd.func23, Tryd.ntmps23
          go_wp2_with (first | (go_at_call 55; refine (ret_as (l25Ok_any _ _ _ _ _ h hn) h1).mono ?_; rintro e w' ⟨rfl, g, rfl⟩) | (go_at_call 59; refine (in_any _ _ _ _).mono ?_; rintro e w' ⟨rfl, rfl⟩) | ((with_reducible refine wp_region_up (by kernel_rfl) (by kernel_rfl) ?_); (repeat (go_big_quiet_step (first | (go_at_call 55; first | exact upq_tr (ret_as (l25Ok_any _ _ _ _ _ h hn) h1) | exact upq (ret_as (l25Ok_any _ _ _ _ _ h hn) h1)) | (go_at_call 59; first | exact upq_tr_same (in_any _ _ _ _) | exact upq_same (in_any _ _ _ _))))); refine wpQuiet_nil ?_; intro _ hw'; obtain ⟨nq, hw''⟩ := hw'; subst hw''))
          go_ret2
          rw [hR.out]
          exact ⟨none, 0, rfl, ⟨rfl, .inl ⟨rfl, rfl⟩⟩, UpOf.of (by repeat (first | exact Below.refl _ _ | refine bl_tr ?_ _ | refine bl_al ?_ _ | refine bl_dr ?_ | refine bl_up ?_ _ | refine Below.drew ?_ | refine bl_alloc ?_ _ | refine Below.setCell ?_ (by first | (simp; done) | (simp; omega)) _))⟩
  · have h1' : vHires l n = false := by simpa using h1
    have hR := Lib.hid (show reR l n k d = ([], 1) by rw [reR, if_neg h1])
    clear h1
    go_enter Tryd.func23, Tryd.ntmps23
    go_wp2_with (first | (go_at_call 55; refine (ret_as (l25Ok_any _ _ _ _ _ h hn) h1').mono ?_; rintro e w' ⟨rfl, g, rfl⟩) | ((with_reducible refine wp_region_up (by kernel_rfl) (by kernel_rfl) ?_); (repeat (go_big_quiet_step (first | (go_at_call 55; first | exact upq_tr (ret_as (l25Ok_any _ _ _ _ _ h hn) h1') | exact upq (ret_as (l25Ok_any _ _ _ _ _ h hn) h1'))))); refine wpQuiet_nil ?_; intro _ hw'; obtain ⟨nq, hw''⟩ := hw'; subst hw''))
    go_ret2
    rw [hR.out]
    exact ⟨none, 0, rfl, ⟨rfl, .inl ⟨rfl, rfl⟩⟩, UpOf.of (by repeat (first | exact Below.refl _ _ | refine bl_tr ?_ _ | refine bl_al ?_ _ | refine bl_dr ?_ | refine bl_up ?_ _ | refine Below.drew ?_ | refine bl_alloc ?_ _ | refine Below.setCell ?_ (by first | (simp; done) | (simp; omega)) _))⟩
end Go.Proofs.YtiagckbdofeecaaDoor

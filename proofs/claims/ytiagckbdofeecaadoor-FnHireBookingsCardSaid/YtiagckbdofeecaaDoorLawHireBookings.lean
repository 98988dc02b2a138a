/-
  The law FnHireBookings: its walk. Premise on the world: the laid table.
-/
import Derived.Test.YtiagckbdofeecaaDoorHireBookP
import Derived.Test.YtiagckbdofeecaaDoorHireSame
import Derived.Test.YtiagckbdofeecaaDoorHiresAsk4
import Derived.Test.YtiagckbdofeecaaDoorBookAny2
import Derived.Test.YtiagckbdofeecaaDoorReadHireS
namespace Go.Proofs.YtiagckbdofeecaaDoor
open Go.RowKit
theorem anyIK {l : List Hire} {n f t : Int} {L : List Hire} {r1 r2 : Int} (hL : Hid (anyR l n f t = (L, r1, r2))) (w : World) {b off c : Nat} (h : Rds w 3 (some ⟨b, off, none⟩) l.length (hcs l)) (hn : l.length ≤ 100000000) (hc : l.length ≤ c) :
    Calls Tryd.prog 14 #[.slice (some ⟨b, off, none⟩) l.length c, i64 n, i64 f, i64 t] w fun e w' => ∃ A' c', e = .returned (.tuple #[.slice A' L.length c', i64 r1, i64 r2]) ∧ w'.ownsRow w.heap.size 25 3 (.slice A' L.length c') L.length (hcs L) ∧ UpOf w w' := by
  have := anyI_any b off c l n f t w h hn hc
  rw [hL.out] at this
  exact this
theorem anySK {l : List Hire} {n f t : Int} {L : List Hire} {r1 r2 : Int} (hL : Hid (anyR l n f t = (L, r1, r2))) (w : World) {b off c : Nat} (h : Rds w 3 (some ⟨b, off, none⟩) l.length (hcs l)) (hn : l.length ≤ 100000000) (hc : l.length ≤ c) :
    Calls Tryd.prog 15 #[.slice (some ⟨b, off, none⟩) l.length c, i64 n, i64 f, i64 t] w fun e w' => ∃ A' c', e = .returned (.tuple #[.slice A' L.length c', i64 r1, i64 r2]) ∧ w'.ownsRow w.heap.size 25 3 (.slice A' L.length c') L.length (hcs L) ∧ UpOf w w' := by
  have := anyS_any b off c l n f t w h hn hc
  rw [hL.out] at this
  exact this
theorem fmIK {l : List Hire} {n f t : Int} {L : List Int} {r1 : Int} (hL : Hid (fmR l n f t = (L, r1))) (w : World) {A : Option Addr} {c : Nat} (h : Rds w 3 A l.length (hcs l)) (hn : l.length ≤ 100000000) (hc : l.length ≤ c) :
    Calls Tryd.prog 16 #[.slice A l.length c, i64 n, i64 f, i64 t] w fun e w' => ∃ A' c', e = .returned (.tuple #[.slice A' L.length c', i64 r1]) ∧ w'.ownsRow w.heap.size 2 1 (.slice A' L.length c') L.length (ics L) ∧ UpOf w w' := by
  have := freeMachI_any A c l n f t w h hn hc
  rw [hL.out] at this
  exact this
theorem fmSK {l : List Hire} {n f t : Int} {L : List Int} {r1 : Int} (hL : Hid (fmR l n f t = (L, r1))) (w : World) {A : Option Addr} {c : Nat} (h : Rds w 3 A l.length (hcs l)) (hn : l.length ≤ 100000000) :
    Calls Tryd.prog 17 #[.slice A l.length c, i64 n, i64 f, i64 t] w fun e w' => ∃ A' c', e = .returned (.tuple #[.slice A' L.length c', i64 r1]) ∧ w'.ownsRow w.heap.size 2 1 (.slice A' L.length c') L.length (ics L) ∧ UpOf w w' := by
  have := freeMachS_any A c l n f t w h hn
  rw [hL.out] at this
  exact this
theorem bookIK {l : List Hire} {n : Int} {x : Hire} {L : List Hire} {r1 : Int} (hL : Hid (bookR l n x = (L, r1))) (w : World) {b off c : Nat} (h : Rds w 3 (some ⟨b, off, none⟩) l.length (hcs l)) (hn : l.length ≤ 100000000) (hc : l.length ≤ c) :
    Calls Tryd.prog 19 #[.slice (some ⟨b, off, none⟩) l.length c, i64 n, hv x] w fun e w' => ∃ A' c', e = .returned (.tuple #[.slice A' L.length c', i64 r1]) ∧ w'.ownsRow w.heap.size 25 3 (.slice A' L.length c') L.length (hcs L) ∧ UpOf w w' := by
  have := bookI_any b off c l n x w h hn hc
  rw [hL.out] at this
  exact this
theorem bookSK {l : List Hire} {n : Int} {x : Hire} {L : List Hire} {r1 : Int} (hL : Hid (bookR l n x = (L, r1))) (w : World) {b off c : Nat} (h : Rds w 3 (some ⟨b, off, none⟩) l.length (hcs l)) (hn : l.length ≤ 100000000) (hc : l.length ≤ c) :
    Calls Tryd.prog 20 #[.slice (some ⟨b, off, none⟩) l.length c, i64 n, hv x] w fun e w' => ∃ A' c', e = .returned (.tuple #[.slice A' L.length c', i64 r1]) ∧ w'.ownsRow w.heap.size 25 3 (.slice A' L.length c') L.length (hcs L) ∧ UpOf w w' := by
  have := bookS_any b off c l n x w h hn hc
  rw [hL.out] at this
  exact this
theorem reIK {l : List Hire} {n k d : Int} {L : List Hire} {r1 : Int} (hL : Hid (reR l n k d = (L, r1))) (w : World) {A : Option Addr} {c : Nat} (h : Rds w 3 A l.length (hcs l)) (hn : l.length ≤ 100000000) (hc : l.length ≤ c) :
    Calls Tryd.prog 22 #[.slice A l.length c, i64 n, i64 k, i64 d] w fun e w' => ∃ A' c', e = .returned (.tuple #[.slice A' L.length c', i64 r1]) ∧ w'.ownsRow w.heap.size 25 3 (.slice A' L.length c') L.length (hcs L) ∧ UpOf w w' := by
  have := returnEarlyI_any A c l n k d w h hn hc
  rw [hL.out] at this
  exact this
theorem reSK {l : List Hire} {n k d : Int} {L : List Hire} {r1 : Int} (hL : Hid (reR l n k d = (L, r1))) (w : World) {A : Option Addr} {c : Nat} (h : Rds w 3 A l.length (hcs l)) (hn : l.length ≤ 100000000) :
    Calls Tryd.prog 23 #[.slice A l.length c, i64 n, i64 k, i64 d] w fun e w' => ∃ A' c', e = .returned (.tuple #[.slice A' L.length c', i64 r1]) ∧ w'.ownsRow w.heap.size 25 3 (.slice A' L.length c') L.length (hcs L) ∧ UpOf w w' := by
  have := returnEarlyS_any A c l n k d w h hn
  rw [hL.out] at this
  exact this
/-- lengths of what comes back -/
theorem insAt_len2 {l : List Hire} {x : Hire} : (insAt l (insN l x) x).length = l.length + 1 := insAt_len l _ x (insN_spec l x).1
theorem anyR_len {l : List Hire} {n f t : Int} {L : List Hire} {a b : Int} (h : anyR l n f t = (L, a, b)) (hl : l.length ≤ 61) : L.length ≤ 62 := by
  have h0 : (anyR l n f t).1.length ≤ 62 := by
    unfold anyR
    repeat' split
    all_goals first | (rw [insAt_len2]; omega) | simp
  rw [h] at h0; exact h0
theorem bookR_len {l : List Hire} {n : Int} {x : Hire} {L : List Hire} {a : Int} (h : bookR l n x = (L, a)) (hl : l.length ≤ 61) : L.length ≤ 62 := by
  have h0 : (bookR l n x).1.length ≤ 62 := by
    unfold bookR
    repeat' split
    all_goals first | (rw [insAt_len2]; omega) | simp
  rw [h] at h0; exact h0
theorem reR_len {l : List Hire} {n k d : Int} {L : List Hire} {a : Int} (h : reR l n k d = (L, a)) (hl : l.length ≤ 61) : L.length ≤ 62 := by
  have h0 : (reR l n k d).1.length ≤ 62 := by
    unfold reR
    repeat' split
    all_goals first | (rw [List.length_set]; omega) | simp
  rw [h] at h0; exact h0
theorem book_law {l : List Hire} {n : Int} {x : Hire} {L : List Hire} (h : bookR l n x = (L, 0)) : L.length = l.length + 1 ∧ vHires L n = true := by
  have h1 := bookR_0 (l := l) (n := n) (x := x) (by rw [h])
  rw [h] at h1
  have h1 : L = _ := h1
  subst h1
  refine ⟨insAt_len2, ?_⟩
  unfold bookR at h
  split at h
  · rename_i a1
    split at h
    · rename_i a2
      split at h
      · rename_i a3
        split at h
        · rename_i a4
          exact book_valid a1 a2.1 a2.2 a3 a4
        · exact absurd (congrArg Prod.snd h) (by show ¬ (5 : Int) = 0; omega)
      · have := congrArg Prod.snd h; simp at this
    · have := congrArg Prod.snd h; simp at this
  · have := congrArg Prod.snd h; simp at this
theorem re_law {l : List Hire} {n k d : Int} {L : List Hire} (h : reR l n k d = (L, 0)) : (0 ≤ k ∧ k.toNat < l.length) ∧ L.length = l.length ∧ vHires L n = true ∧ (hat L k.toNat).t < (hat l k.toNat).t := by
  unfold reR at h
  split at h
  · rename_i a1
    split at h
    · rename_i a2
      split at h
      · rename_i a3
        have e := congrArg Prod.fst h
        have e : l.set k.toNat ⟨(hat l k.toNat).m, (hat l k.toNat).f, d⟩ = L := e
        subst e
        have b := btw_true a2.1
        have hk : k.toNat < l.length := by omega
        refine ⟨⟨b.1, hk⟩, List.length_set, early_valid a1 hk a3.1 a3.2, ?_⟩
        rw [hat_set hk, if_pos rfl]
        exact a3.2
      · have := congrArg Prod.snd h; simp at this
    · have := congrArg Prod.snd h; simp at this
  · have := congrArg Prod.snd h; simp at this
theorem hText_back (x : Hire) : ((rhR (hText x)).2 = !(hText x).toList.isEmpty) ∧ ((rhR (hText x)).2 = true → (rhR (hText x)).1 = x) := by
  cases hv : vHire x
  · rw [hText_no hv]
    have hs : sharp ⟨#[]⟩ = false := decide_eq_false (fun h => absurd h.1 (by decide))
    have : okI ⟨#[]⟩ = false := by rw [okI, hs]; rfl
    rw [rhR_no this, isEmpty_yes (s := ⟨#[]⟩) rfl]
    exact ⟨rfl, fun h => by cases h⟩
  · rw [hText_ok hv]
    obtain ⟨h1, h2⟩ := text_okI hv
    rw [rhR_ok h1, h2]
    refine ⟨?_, fun _ => rfl⟩
    have : (hTextV x).toList.isEmpty = false := by
      rw [ByteArray.toList_eq, hText_list]; rfl
    rw [this]; rfl
theorem specValidH (A : Option Addr) (c : Nat) (l : List Hire) (n : Int) (w : World) (h : Rds w 3 A l.length (hcs l)) (hn : l.length ≤ 100000000) :
    Calls Tryd.prog 31 #[.slice A l.length c, i64 n] w fun e w' => e = .returned (.bool (vHires l n)) ∧ UpOf w w' := by
  go_enter Tryd.func31, Tryd.ntmps31
  go_wp2_with (first | (go_at_call 55; refine (l25Ok_any _ _ _ _ _ h hn).mono ?_; rintro e w' ⟨rfl, g, rfl⟩) | ((with_reducible refine wp_region_up (by kernel_rfl) (by kernel_rfl) ?_); (repeat (go_big_quiet_step (first | (go_at_call 55; first | exact upq_tr (l25Ok_any _ _ _ _ _ h hn) | exact upq (l25Ok_any _ _ _ _ _ h hn))))); refine wpQuiet_nil ?_; intro _ hw'; obtain ⟨nq, hw''⟩ := hw'; subst hw''))
  go_ret
  exact ⟨rfl, UpOf.of (by repeat (first | exact Below.refl _ _ | refine bl_tr ?_ _ | refine bl_al ?_ _ | refine bl_dr ?_ | refine bl_up ?_ _ | refine Below.drew ?_ | refine bl_alloc ?_ _ | refine Below.setCell ?_ (by first | (simp; done) | (simp; omega)) _))⟩
theorem sameIK {x y : List Hire} {r0 : Bool} (hL : Hid (sameH x y = r0)) (w : World) {A B : Option Addr} {c d : Nat} (ha : Rds w 3 A x.length (hcs x)) (hb : Rds w 3 B y.length (hcs y)) (hn : x.length ≤ 100000000) (hm : y.length ≤ 100000000) :
    Calls Tryd.prog 29 #[.slice A x.length c, .slice B y.length d] w fun e w' => e = .returned (.bool r0) ∧ UpOf w w' := by
  have := sameHiresI_any A B c d x y w ha hb hn hm
  rw [hL.out] at this
  exact this
theorem sameSK {x y : List Hire} {r0 : Bool} (hL : Hid (sameH x y = r0)) (w : World) {A B : Option Addr} {c d : Nat} (ha : Rds w 3 A x.length (hcs x)) (hb : Rds w 3 B y.length (hcs y)) (hn : x.length ≤ 100000000) (hm : y.length ≤ 100000000) :
    Calls Tryd.prog 27 #[.slice A x.length c, .slice B y.length d] w fun e w' => e = .returned (.bool r0) ∧ UpOf w w' := by
  have := sameHiresS_any A B c d x y w ha hb hn hm
  rw [hL.out] at this
  exact this
theorem rhK {s : ByteArray} {x : Hire} {ok : Bool} (h : Hid (rhR s = (x, ok))) (w : World) (hs : s.size ≤ 1048576) (ht : Tab w) :
    Calls Tryd.prog 10 #[.string s] w fun e w' => e = .returned (.tuple #[hv x, .bool ok]) ∧ UpOf w w' := by
  have := readHireI_any s w hs ht
  rw [h.out] at this
  exact this
theorem rhSK {s : ByteArray} {x : Hire} {ok : Bool} (h : Hid (rhR s = (x, ok))) (w : World) (hs : s.size ≤ 1048576) :
    Calls Tryd.prog 9 #[.string s] w fun e w' => e = .returned (.tuple #[hv x, .bool ok]) ∧ UpOf w w' := by
  have := readHireS_any s w hs
  rw [h.out] at this
  exact this
theorem hText_bd (x : Hire) : (hText x).size ≤ 1048576 := by
  cases hv : vHire x
  · rw [hText_no hv]; show 0 ≤ _; omega
  · rw [hText_ok hv]
    obtain ⟨⟨b1, b2⟩, b3, b4, b5⟩ := vHire_inv hv
    have d1 := dec_len (n := x.m) (by omega) (by omega)
    have d2 := dec_len (n := x.f) (by omega) (by omega)
    have d3 := dec_len (n := x.t) (by omega) (by omega)
    have z1 : (⟨#[35]⟩ : ByteArray).size = 1 := rfl
    have z2 : (⟨#[32]⟩ : ByteArray).size = 1 := rfl
    have z3 : (⟨#[45]⟩ : ByteArray).size = 1 := rfl
    simp only [hTextV, ByteArray.size_append]
    omega
/-- the hires that lie in boxes -/
structure BX (V : World) (p1 p2 p3 p4 p5 : Nat) (h t bk u v : Hire) : Prop where
  a : At V p1 0 h
  b : At V p2 0 t
  c : At V p3 0 bk
  d : At V p4 0 u
  e : At V p5 0 v
set_option maxRecDepth 10000 in
set_option maxHeartbeats 12000000 in
theorem law_hireBookings (A : Option Addr) (n c : Nat) (zs : List Int) (w : World) (hz : ∀ z ∈ zs, 0 ≤ z ∧ z ≤ 255) (hr : Rds w 1 A n (bytes zs)) (hn : n ≤ 9223372036854775807) (ht : Tab w) :
    Calls Tryd.prog 5 #[.slice A n c] w fun e w' => e = .returned (.bool true) ∧ UpOf w w' := by
  have HR := Lib.hid hr
  have HZ := Lib.hid hz
  have HT := Lib.hid ht
  clear hr hz ht
  by_cases hbig : (4096 : Int) < n
  · have hd : decide ((4096 : Int) < n) = true := decide_eq_true hbig
    go_enter Tryd.func5, Tryd.ntmps5
    go_wp2_with fail
    refine (ret_as (f6big_any A n c _ hn) hd).mono ?_
    rintro e w' ⟨rfl, g0, rfl⟩
    go_wp2_with fail
    go_ret
    exact ⟨rfl, UpOf.of (by repeat (first | exact Below.refl _ _ | refine bl_tr ?_ _ | refine bl_al ?_ _ | refine bl_dr ?_ | refine bl_up ?_ _ | refine Below.drew ?_ | refine bl_alloc ?_ _ | refine Below.setCell ?_ (by first | (simp; done) | (simp; omega)) _))⟩
  have hd : decide ((4096 : Int) < n) = false := decide_eq_false hbig
  have hn4 : n ≤ 4096 := by omega
  go_enter Tryd.func5, Tryd.ntmps5
  go_wp2_with fail
  refine (ret_as (f6big_any A n c _ hn) hd).mono ?_
  rintro e w' ⟨rfl, g0, rfl⟩
  clear hd
  go_wp2_with fail
  refine (drawBookAny_any A n c zs _ HZ.out (HR.out.below (by repeat (first | exact Below.refl _ _ | refine bl_tr ?_ _ | refine bl_al ?_ _ | refine bl_dr ?_ | refine bl_up ?_ _ | refine Below.drew ?_ | refine bl_alloc ?_ _ | refine Below.setCell ?_ (by first | (simp; done) | (simp; omega)) _))) hn4).mono ?_
  rintro e w' ⟨l, _, c1, N, f, t, rfl, hr1, ⟨hc1, a1, rfl⟩, hl1, g1, rfl⟩
  have R1 := Lib.hid hr1
  obtain ⟨L, m, bad, hA⟩ : ∃ L m bad, anyR l N f t = (L, m, bad) := ⟨_, _, _, rfl⟩
  have hLl := anyR_len hA hl1
  have HA := Lib.hid hA
  obtain ⟨F, fc, hF⟩ : ∃ F fc, fmR l N f t = (F, fc) := ⟨_, _, rfl⟩
  have hFl := fmR_len hF
  have HF := Lib.hid hF
  clear hr1 hA hF
  go_wp2_with fail
  refine (anyIK HA _ (R1.out.below (by repeat (first | exact Below.refl _ _ | refine bl_tr ?_ _ | refine bl_al ?_ _ | refine bl_dr ?_ | refine bl_up ?_ _ | refine Below.drew ?_ | refine bl_alloc ?_ _ | refine Below.setCell ?_ (by first | (simp; done) | (simp; omega)) _))) (by omega) hc1).mono ?_
  rintro e w' ⟨A2, c2, rfl, o2, g2, rfl⟩
  have X2 := Lib.hid (Rds.of_own o2)
  have hc2 := own_capH o2
  clear o2
  go_wp2_with fail
  refine (anySK HA _ (R1.out.below (by repeat (first | exact Below.refl _ _ | refine bl_tr ?_ _ | refine bl_al ?_ _ | refine bl_dr ?_ | refine bl_up ?_ _ | refine Below.drew ?_ | refine bl_alloc ?_ _ | refine Below.setCell ?_ (by first | (simp; done) | (simp; omega)) _))) (by omega) hc1).mono ?_
  rintro e w' ⟨A3, c3, rfl, o3, g3, rfl⟩
  have X3 := Lib.hid (Rds.of_own o3)
  clear o3
  go_wp2_with fail
  refine (fmIK HF _ (R1.out.below (by repeat (first | exact Below.refl _ _ | refine bl_tr ?_ _ | refine bl_al ?_ _ | refine bl_dr ?_ | refine bl_up ?_ _ | refine Below.drew ?_ | refine bl_alloc ?_ _ | refine Below.setCell ?_ (by first | (simp; done) | (simp; omega)) _))) (by omega) hc1).mono ?_
  rintro e w' ⟨A4, c4, rfl, o4, g4, rfl⟩
  have X4 := Lib.hid (Rds.of_own o4)
  clear o4
  go_wp2_with fail
  refine (fmSK HF _ (R1.out.below (by repeat (first | exact Below.refl _ _ | refine bl_tr ?_ _ | refine bl_al ?_ _ | refine bl_dr ?_ | refine bl_up ?_ _ | refine Below.drew ?_ | refine bl_alloc ?_ _ | refine Below.setCell ?_ (by first | (simp; done) | (simp; omega)) _))) (by omega)).mono ?_
  rintro e w' ⟨A5, c5, rfl, o5, g5, rfl⟩
  have X5 := Lib.hid (Rds.of_own o5)
  clear o5
  go_wp2_with fail
  refine (drawBookHire_any A n c zs _ HZ.out (HR.out.below (by repeat (first | exact Below.refl _ _ | refine bl_tr ?_ _ | refine bl_al ?_ _ | refine bl_dr ?_ | refine bl_up ?_ _ | refine Below.drew ?_ | refine bl_alloc ?_ _ | refine Below.setCell ?_ (by first | (simp; done) | (simp; omega)) _))) hn4).mono ?_
  rintro e w' ⟨a, _, c6, N2, h, rfl, hr6, ⟨hc6, a6, rfl⟩, hl6, g6, rfl⟩
  have R6 := Lib.hid hr6
  obtain ⟨Y, three, hB⟩ : ∃ Y three, bookR a N2 h = (Y, three) := ⟨_, _, rfl⟩
  have hYl := bookR_len hB hl6
  have HB := Lib.hid hB
  clear hr6 hB
  go_wp2_with fail
  refine (bookIK HB _ (R6.out.below (by repeat (first | exact Below.refl _ _ | refine bl_tr ?_ _ | refine bl_al ?_ _ | refine bl_dr ?_ | refine bl_up ?_ _ | refine Below.drew ?_ | refine bl_alloc ?_ _ | refine Below.setCell ?_ (by first | (simp; done) | (simp; omega)) _))) (by omega) hc6).mono ?_
  rintro e w' ⟨A7, c7, rfl, o7, g7, rfl⟩
  have X7 := Lib.hid (Rds.of_own o7)
  have hc7 := own_capH o7
  clear o7
  go_wp2_with fail
  refine (bookSK HB _ (R6.out.below (by repeat (first | exact Below.refl _ _ | refine bl_tr ?_ _ | refine bl_al ?_ _ | refine bl_dr ?_ | refine bl_up ?_ _ | refine Below.drew ?_ | refine bl_alloc ?_ _ | refine Below.setCell ?_ (by first | (simp; done) | (simp; omega)) _))) (by omega) hc6).mono ?_
  rintro e w' ⟨A8, c8, rfl, o8, g8, rfl⟩
  have X8 := Lib.hid (Rds.of_own o8)
  clear o8
  go_wp2_with fail
  refine (drawReturnEarly_any A n c zs _ HZ.out (HR.out.below (by repeat (first | exact Below.refl _ _ | refine bl_tr ?_ _ | refine bl_al ?_ _ | refine bl_dr ?_ | refine bl_up ?_ _ | refine Below.drew ?_ | refine bl_alloc ?_ _ | refine Below.setCell ?_ (by first | (simp; done) | (simp; omega)) _))) hn4).mono ?_
  rintro e w' ⟨b, _, c9, N3, k, d, rfl, hr9, ⟨hc9, a9, rfl⟩, hl9, g9, rfl⟩
  have R9 := Lib.hid hr9
  obtain ⟨Z, five, hE⟩ : ∃ Z five, reR b N3 k d = (Z, five) := ⟨_, _, rfl⟩
  have hZl := reR_len hE hl9
  have HE := Lib.hid hE
  clear hr9 hE
  go_wp2_with fail
  refine (reIK HE _ (R9.out.below (by repeat (first | exact Below.refl _ _ | refine bl_tr ?_ _ | refine bl_al ?_ _ | refine bl_dr ?_ | refine bl_up ?_ _ | refine Below.drew ?_ | refine bl_alloc ?_ _ | refine Below.setCell ?_ (by first | (simp; done) | (simp; omega)) _))) (by omega) hc9).mono ?_
  rintro e w' ⟨A10, c10, rfl, o10, g10, rfl⟩
  have X10 := Lib.hid (Rds.of_own o10)
  have hc10 := own_capH o10
  clear o10
  go_wp2_with fail
  refine (reSK HE _ (R9.out.below (by repeat (first | exact Below.refl _ _ | refine bl_tr ?_ _ | refine bl_al ?_ _ | refine bl_dr ?_ | refine bl_up ?_ _ | refine Below.drew ?_ | refine bl_alloc ?_ _ | refine Below.setCell ?_ (by first | (simp; done) | (simp; omega)) _))) (by omega)).mono ?_
  rintro e w' ⟨A11, c11, rfl, o11, g11, rfl⟩
  have X11 := Lib.hid (Rds.of_own o11)
  clear o11
  go_upto_region 14 with (fail)
  refine wpg (R := fun V => (Hid (Rds V 3 (some ⟨a1, 0, none⟩) l.length (hcs l)) ∧ Hid (Rds V 3 A2 L.length (hcs L)) ∧ Hid (Rds V 3 A3 L.length (hcs L)) ∧ Hid (Rds V 1 A4 F.length (ics F)) ∧ Hid (Rds V 1 A5 F.length (ics F)) ∧ Hid (Rds V 3 A7 Y.length (hcs Y)) ∧ Hid (Rds V 3 A8 Y.length (hcs Y)) ∧ Hid (Rds V 3 (some ⟨a9, 0, none⟩) b.length (hcs b)) ∧ Hid (Rds V 3 A10 Z.length (hcs Z)) ∧ Hid (Rds V 3 A11 Z.length (hcs Z))) ∧ Hid (Rds V 1 A n (bytes zs)) ∧ Hid (Tab V) ∧ Hid (UpOf w V))
    ⟨⟨Lib.hid (R1.out.below (by repeat (first | exact Below.refl _ _ | refine bl_tr ?_ _ | refine bl_al ?_ _ | refine bl_dr ?_ | refine bl_up ?_ _ | refine Below.drew ?_ | refine bl_alloc ?_ _ | refine Below.setCell ?_ (by first | (simp; done) | (simp; omega)) _))), Lib.hid (X2.out.below (by repeat (first | exact Below.refl _ _ | refine bl_tr ?_ _ | refine bl_al ?_ _ | refine bl_dr ?_ | refine bl_up ?_ _ | refine Below.drew ?_ | refine bl_alloc ?_ _ | refine Below.setCell ?_ (by first | (simp; done) | (simp; omega)) _))), Lib.hid (X3.out.below (by repeat (first | exact Below.refl _ _ | refine bl_tr ?_ _ | refine bl_al ?_ _ | refine bl_dr ?_ | refine bl_up ?_ _ | refine Below.drew ?_ | refine bl_alloc ?_ _ | refine Below.setCell ?_ (by first | (simp; done) | (simp; omega)) _))), Lib.hid (X4.out.below (by repeat (first | exact Below.refl _ _ | refine bl_tr ?_ _ | refine bl_al ?_ _ | refine bl_dr ?_ | refine bl_up ?_ _ | refine Below.drew ?_ | refine bl_alloc ?_ _ | refine Below.setCell ?_ (by first | (simp; done) | (simp; omega)) _))), Lib.hid (X5.out.below (by repeat (first | exact Below.refl _ _ | refine bl_tr ?_ _ | refine bl_al ?_ _ | refine bl_dr ?_ | refine bl_up ?_ _ | refine Below.drew ?_ | refine bl_alloc ?_ _ | refine Below.setCell ?_ (by first | (simp; done) | (simp; omega)) _))), Lib.hid (X7.out.below (by repeat (first | exact Below.refl _ _ | refine bl_tr ?_ _ | refine bl_al ?_ _ | refine bl_dr ?_ | refine bl_up ?_ _ | refine Below.drew ?_ | refine bl_alloc ?_ _ | refine Below.setCell ?_ (by first | (simp; done) | (simp; omega)) _))), Lib.hid (X8.out.below (by repeat (first | exact Below.refl _ _ | refine bl_tr ?_ _ | refine bl_al ?_ _ | refine bl_dr ?_ | refine bl_up ?_ _ | refine Below.drew ?_ | refine bl_alloc ?_ _ | refine Below.setCell ?_ (by first | (simp; done) | (simp; omega)) _))), Lib.hid (R9.out.below (by repeat (first | exact Below.refl _ _ | refine bl_tr ?_ _ | refine bl_al ?_ _ | refine bl_dr ?_ | refine bl_up ?_ _ | refine Below.drew ?_ | refine bl_alloc ?_ _ | refine Below.setCell ?_ (by first | (simp; done) | (simp; omega)) _))), Lib.hid (X10.out.below (by repeat (first | exact Below.refl _ _ | refine bl_tr ?_ _ | refine bl_al ?_ _ | refine bl_dr ?_ | refine bl_up ?_ _ | refine Below.drew ?_ | refine bl_alloc ?_ _ | refine Below.setCell ?_ (by first | (simp; done) | (simp; omega)) _))), Lib.hid (X11.out.below (by repeat (first | exact Below.refl _ _ | refine bl_tr ?_ _ | refine bl_al ?_ _ | refine bl_dr ?_ | refine bl_up ?_ _ | refine Below.drew ?_ | refine bl_alloc ?_ _ | refine Below.setCell ?_ (by first | (simp; done) | (simp; omega)) _)))⟩, Lib.hid (HR.out.below (by repeat (first | exact Below.refl _ _ | refine bl_tr ?_ _ | refine bl_al ?_ _ | refine bl_dr ?_ | refine bl_up ?_ _ | refine Below.drew ?_ | refine bl_alloc ?_ _ | refine Below.setCell ?_ (by first | (simp; done) | (simp; omega)) _))), Lib.hid (HT.out.below (by repeat (first | exact Below.refl _ _ | refine bl_tr ?_ _ | refine bl_al ?_ _ | refine bl_dr ?_ | refine bl_up ?_ _ | refine Below.drew ?_ | refine bl_alloc ?_ _ | refine Below.setCell ?_ (by first | (simp; done) | (simp; omega)) _))), Lib.hid UpOf.of (by repeat (first | exact Below.refl _ _ | refine bl_tr ?_ _ | refine bl_al ?_ _ | refine bl_dr ?_ | refine bl_up ?_ _ | refine Below.drew ?_ | refine bl_alloc ?_ _ | refine Below.setCell ?_ (by first | (simp; done) | (simp; omega)) _))⟩ (fun V z => ?_)
  clear R1 X2 X3 X4 X5 X7 X8 R9 X10 X11 HR HT R6
  obtain ⟨⟨R1, X2, X3, X4, X5, X7, X8, R9, X10, X11⟩, HR, HT, HU⟩ := z
  refine wpg (R := fun U => Hid (Below V.heap.size V U)) (Lib.hid (Below.refl _ _)) (fun U0 BU0 => ?_)
  go_wp2_with fail
  refine (drawHireText_any A n c zs U0 HZ.out (HR.out.below BU0.out) hn4).mono ?_
  rintro e V1 ⟨tx, rfl, hu⟩
  have B1 := Lib.hid (BU0.out.trans (hu.below.mono BU0.out.size))
  clear hu BU0
  obtain ⟨T, hT⟩ : ∃ T, hText tx = T := ⟨_, rfl⟩
  have hTb : T.size ≤ 1048576 := hT ▸ hText_bd tx
  obtain ⟨hok, hback⟩ := hText_back tx
  rw [hT] at hok hback
  have HTT := Lib.hid hT
  clear hT
  obtain ⟨bk, ok, hrw⟩ : ∃ bk ok, rhR T = (bk, ok) := ⟨_, _, rfl⟩
  rw [hrw] at hok hback
  dsimp only at hok hback
  have HRW := Lib.hid hrw
  have HBK := Lib.hid hback
  have HOK := Lib.hid hok
  clear hrw hback hok
  go_wp2_with fail
  refine cg (R := fun U => Hid (At U V1.heap.size 0 tx) ∧ Hid (Below V.heap.size V U)) ⟨Lib.hid At.newT, Lib.hid (B1.out.trans (Below.mono (by repeat (first | exact Below.refl _ _ | refine bl_tr ?_ _ | refine bl_al ?_ _ | refine bl_dr ?_ | refine bl_up ?_ _ | refine Below.drew ?_ | refine bl_alloc ?_ _ | refine Below.setCell ?_ (by first | (simp; done) | (simp; omega)) _)) B1.out.size))⟩ (fun U1 z => ?_)
  obtain ⟨P2, B2⟩ := z
  clear B1
  generalize V1.heap.size = p2 at *
  refine (hireTextI_any tx U1 (HT.out.below B2.out)).mono ?_
  rintro e w' ⟨rfl, g1, rfl⟩
  rw [HTT.out]
  go_wp2_with fail
  refine (rhK HRW _ hTb ((HT.out.below B2.out).below (by repeat (first | exact Below.refl _ _ | refine bl_tr ?_ _ | refine bl_al ?_ _ | refine bl_dr ?_ | refine bl_up ?_ _ | refine Below.drew ?_ | refine bl_alloc ?_ _ | refine Below.setCell ?_ (by first | (simp; done) | (simp; omega)) _)))).mono ?_
  rintro e V2 ⟨rfl, hu2⟩
  have k2 := (up_below U1 g1).trans (hu2.below.mono (up_below U1 g1).size)
  have B3 := Lib.hid (B2.out.trans (Below.mono k2 B2.out.size))
  have P2b := Lib.hid (P2.out.below k2)
  clear hu2 B2 P2 k2
  go_wp2_with fail
  refine cg (R := fun U => Hid (At U p2 0 tx) ∧ Hid (At U V2.heap.size 0 bk) ∧ Hid (Below V.heap.size V U)) ⟨Lib.hid (P2b.out.below (by repeat (first | exact Below.refl _ _ | refine bl_tr ?_ _ | refine bl_al ?_ _ | refine bl_dr ?_ | refine bl_up ?_ _ | refine Below.drew ?_ | refine bl_alloc ?_ _ | refine Below.setCell ?_ (by first | (simp; done) | (simp; omega)) _))), Lib.hid At.newT, Lib.hid (B3.out.trans (Below.mono (by repeat (first | exact Below.refl _ _ | refine bl_tr ?_ _ | refine bl_al ?_ _ | refine bl_dr ?_ | refine bl_up ?_ _ | refine Below.drew ?_ | refine bl_alloc ?_ _ | refine Below.setCell ?_ (by first | (simp; done) | (simp; omega)) _)) B3.out.size))⟩ (fun U2 z => ?_)
  obtain ⟨P2, P3, B4⟩ := z
  clear P2b B3
  generalize V2.heap.size = p3 at *
  refine (drawReadHire_any A n c zs U2 HZ.out (HR.out.below B4.out) hn4).mono ?_
  rintro e w' ⟨S, rfl, hSb, g2, rfl⟩
  obtain ⟨un, uk, hrs⟩ : ∃ un uk, rhR S = (un, uk) := ⟨_, _, rfl⟩
  have HRS := Lib.hid hrs
  clear hrs
  go_wp2_with fail
  refine (rhK HRS _ (by omega) ((HT.out.below B4.out).below (by repeat (first | exact Below.refl _ _ | refine bl_tr ?_ _ | refine bl_al ?_ _ | refine bl_dr ?_ | refine bl_up ?_ _ | refine Below.drew ?_ | refine bl_alloc ?_ _ | refine Below.setCell ?_ (by first | (simp; done) | (simp; omega)) _)))).mono ?_
  rintro e V3 ⟨rfl, hu3⟩
  have k3 := (up_below U2 g2).trans (hu3.below.mono (up_below U2 g2).size)
  have B5 := Lib.hid (B4.out.trans (Below.mono k3 B4.out.size))
  have P2b := Lib.hid (P2.out.below k3)
  have P3b := Lib.hid (P3.out.below k3)
  clear hu3 B4 P2 P3 k3
  go_wp2_with fail
  refine cg (R := fun U => Hid (At U p2 0 tx) ∧ Hid (At U p3 0 bk) ∧ Hid (At U V3.heap.size 0 un) ∧ Hid (Below V.heap.size V U)) ⟨Lib.hid (P2b.out.below (by repeat (first | exact Below.refl _ _ | refine bl_tr ?_ _ | refine bl_al ?_ _ | refine bl_dr ?_ | refine bl_up ?_ _ | refine Below.drew ?_ | refine bl_alloc ?_ _ | refine Below.setCell ?_ (by first | (simp; done) | (simp; omega)) _))), Lib.hid (P3b.out.below (by repeat (first | exact Below.refl _ _ | refine bl_tr ?_ _ | refine bl_al ?_ _ | refine bl_dr ?_ | refine bl_up ?_ _ | refine Below.drew ?_ | refine bl_alloc ?_ _ | refine Below.setCell ?_ (by first | (simp; done) | (simp; omega)) _))), Lib.hid At.newT, Lib.hid (B5.out.trans (Below.mono (by repeat (first | exact Below.refl _ _ | refine bl_tr ?_ _ | refine bl_al ?_ _ | refine bl_dr ?_ | refine bl_up ?_ _ | refine Below.drew ?_ | refine bl_alloc ?_ _ | refine Below.setCell ?_ (by first | (simp; done) | (simp; omega)) _)) B5.out.size))⟩ (fun U3 z => ?_)
  obtain ⟨P2, P3, P4, B6⟩ := z
  clear P2b P3b B5
  generalize V3.heap.size = p4 at *
  refine (rhSK HRS U3 (by omega)).mono ?_
  rintro e V4 ⟨rfl, hu4⟩
  have B7 := Lib.hid (B6.out.trans (hu4.below.mono B6.out.size))
  have P2b := Lib.hid (P2.out.below hu4.below)
  have P3b := Lib.hid (P3.out.below hu4.below)
  have P4b := Lib.hid (P4.out.below hu4.below)
  clear hu4 B6 P2 P3 P4
  go_wp2_with fail
  refine cg (R := fun U => Hid (At U p2 0 tx) ∧ Hid (At U p3 0 bk) ∧ Hid (At U p4 0 un) ∧ Hid (At U V4.heap.size 0 un) ∧ Hid (Below V.heap.size V U)) ⟨Lib.hid (P2b.out.below (by repeat (first | exact Below.refl _ _ | refine bl_tr ?_ _ | refine bl_al ?_ _ | refine bl_dr ?_ | refine bl_up ?_ _ | refine Below.drew ?_ | refine bl_alloc ?_ _ | refine Below.setCell ?_ (by first | (simp; done) | (simp; omega)) _))), Lib.hid (P3b.out.below (by repeat (first | exact Below.refl _ _ | refine bl_tr ?_ _ | refine bl_al ?_ _ | refine bl_dr ?_ | refine bl_up ?_ _ | refine Below.drew ?_ | refine bl_alloc ?_ _ | refine Below.setCell ?_ (by first | (simp; done) | (simp; omega)) _))), Lib.hid (P4b.out.below (by repeat (first | exact Below.refl _ _ | refine bl_tr ?_ _ | refine bl_al ?_ _ | refine bl_dr ?_ | refine bl_up ?_ _ | refine Below.drew ?_ | refine bl_alloc ?_ _ | refine Below.setCell ?_ (by first | (simp; done) | (simp; omega)) _))), Lib.hid At.newT, Lib.hid (B7.out.trans (Below.mono (by repeat (first | exact Below.refl _ _ | refine bl_tr ?_ _ | refine bl_al ?_ _ | refine bl_dr ?_ | refine bl_up ?_ _ | refine Below.drew ?_ | refine bl_alloc ?_ _ | refine Below.setCell ?_ (by first | (simp; done) | (simp; omega)) _)) B7.out.size))⟩ (fun U4 z => ?_)
  obtain ⟨P2, P3, P4, P5, B8⟩ := z
  clear P2b P3b P4b B7
  generalize V4.heap.size = p5 at *
  refine (drawSameHires_any A n c zs U4 HZ.out (HR.out.below B8.out) hn4).mono ?_
  rintro e V5 ⟨x9, B9, d9, y9, C9, e9, rfl, hx9, hy9, hlx, hly, hu5⟩
  have X9 := Lib.hid hx9
  have Y9 := Lib.hid hy9
  have B9' := Lib.hid (B8.out.trans (hu5.below.mono B8.out.size))
  have P2b := Lib.hid (P2.out.below hu5.below)
  have P3b := Lib.hid (P3.out.below hu5.below)
  have P4b := Lib.hid (P4.out.below hu5.below)
  have P5b := Lib.hid (P5.out.below hu5.below)
  clear hx9 hy9 hu5 B8 P2 P3 P4 P5
  go_upto_region 21 with (fail)
  have q10 : (bad != bad) = false := by simp
  have q11 : (m != m) = false := by simp
  have q12 : (fc != fc) = false := by simp
  have q13 : (three != three) = false := by simp
  have q14 : (five != five) = false := by simp
  have q17 : (uk != uk) = false := by simp
  have q18 : (un.m == un.m) = true := by simp
  have q19 : (un.f == un.f) = true := by simp
  have q20 : (un.t == un.t) = true := by simp
  have q21 : (T.toList == T.toList) = true := by simp
  have q22 : (vHires l N != vHires l N) = false := by simp
  obtain ⟨r9, hr9⟩ : ∃ r, sameH x9 y9 = r := ⟨_, rfl⟩
  have HR9 := Lib.hid hr9
  clear hr9
  have q23 : (r9 != r9) = false := by simp
  go_cut [251] (fun z U => z = .bool false ∧ ∃ g : Up V5, U = up V5 g)
  case first =>
   as_aux_lemma =>
    obtain ⟨p2l, p2a, p2b, p2c⟩ := P2b.out
    obtain ⟨p3l, p3a, p3b, p3c⟩ := P3b.out
    obtain ⟨p4l, p4a, p4b, p4c⟩ := P4b.out
    obtain ⟨p5l, p5a, p5b, p5c⟩ := P5b.out
    simp only [Nat.zero_add] at p2b p2c p3b p3c p4b p4c p5b p5c
    have hcS := Lib.hid (show ∀ W, Calls Tryd.prog 6 #[hv tx] W fun e w' => e = .returned (.string T) ∧ UpOf W w' from fun W => by have := hireTextS_any tx W; rwa [HTT.out] at this)
    cases ok with
    | true =>
      have hE : T.toList.isEmpty = false := by have := HOK.out; cases h9 : T.toList.isEmpty with | false => rfl | true => rw [h9] at this; cases this
      obtain rfl : bk = tx := HBK.out rfl
      have q24 : (bk.m == bk.m) = true := by simp
      have q25 : (bk.f == bk.f) = true := by simp
      have q26 : (bk.t == bk.t) = true := by simp
      go_wp2_with fail
      refine (sameSK (Lib.hid (sameH_refl L)) _ ((X2.out.below B9'.out).below (by repeat (first | exact Below.refl _ _ | refine bl_tr ?_ _ | refine bl_al ?_ _ | refine bl_dr ?_ | refine bl_up ?_ _ | refine Below.drew ?_ | refine bl_alloc ?_ _ | refine Below.setCell ?_ (by first | (simp; done) | (simp; omega)) _))) ((X3.out.below B9'.out).below (by repeat (first | exact Below.refl _ _ | refine bl_tr ?_ _ | refine bl_al ?_ _ | refine bl_dr ?_ | refine bl_up ?_ _ | refine Below.drew ?_ | refine bl_alloc ?_ _ | refine Below.setCell ?_ (by first | (simp; done) | (simp; omega)) _))) (by omega) (by omega)).mono ?_
      rintro e w' ⟨rfl, g3, rfl⟩
      go_wp2_with fail
      refine (f6ints_same A4 A5 c4 c5 F _ ((X4.out.below B9'.out).below (by repeat (first | exact Below.refl _ _ | refine bl_tr ?_ _ | refine bl_al ?_ _ | refine bl_dr ?_ | refine bl_up ?_ _ | refine Below.drew ?_ | refine bl_alloc ?_ _ | refine Below.setCell ?_ (by first | (simp; done) | (simp; omega)) _))) ((X5.out.below B9'.out).below (by repeat (first | exact Below.refl _ _ | refine bl_tr ?_ _ | refine bl_al ?_ _ | refine bl_dr ?_ | refine bl_up ?_ _ | refine Below.drew ?_ | refine bl_alloc ?_ _ | refine Below.setCell ?_ (by first | (simp; done) | (simp; omega)) _))) (by omega)).mono ?_
      rintro e w' ⟨rfl, g4, rfl⟩
      go_wp2_with fail
      refine (sameSK (Lib.hid (sameH_refl Y)) _ ((X7.out.below B9'.out).below (by repeat (first | exact Below.refl _ _ | refine bl_tr ?_ _ | refine bl_al ?_ _ | refine bl_dr ?_ | refine bl_up ?_ _ | refine Below.drew ?_ | refine bl_alloc ?_ _ | refine Below.setCell ?_ (by first | (simp; done) | (simp; omega)) _))) ((X8.out.below B9'.out).below (by repeat (first | exact Below.refl _ _ | refine bl_tr ?_ _ | refine bl_al ?_ _ | refine bl_dr ?_ | refine bl_up ?_ _ | refine Below.drew ?_ | refine bl_alloc ?_ _ | refine Below.setCell ?_ (by first | (simp; done) | (simp; omega)) _))) (by omega) (by omega)).mono ?_
      rintro e w' ⟨rfl, g5, rfl⟩
      go_wp2_with fail
      refine (sameSK (Lib.hid (sameH_refl Z)) _ ((X10.out.below B9'.out).below (by repeat (first | exact Below.refl _ _ | refine bl_tr ?_ _ | refine bl_al ?_ _ | refine bl_dr ?_ | refine bl_up ?_ _ | refine Below.drew ?_ | refine bl_alloc ?_ _ | refine Below.setCell ?_ (by first | (simp; done) | (simp; omega)) _))) ((X11.out.below B9'.out).below (by repeat (first | exact Below.refl _ _ | refine bl_tr ?_ _ | refine bl_al ?_ _ | refine bl_dr ?_ | refine bl_up ?_ _ | refine Below.drew ?_ | refine bl_alloc ?_ _ | refine Below.setCell ?_ (by first | (simp; done) | (simp; omega)) _))) (by omega) (by omega)).mono ?_
      rintro e w' ⟨rfl, g6, rfl⟩
      go_wp2_with fail
      refine (hcS.out _).mono ?_
      rintro e w' ⟨rfl, g7, rfl⟩
      go_wp2_with fail
      refine (sameIK HR9 _ (X9.out.below (by repeat (first | exact Below.refl _ _ | refine bl_tr ?_ _ | refine bl_al ?_ _ | refine bl_dr ?_ | refine bl_up ?_ _ | refine Below.drew ?_ | refine bl_alloc ?_ _ | refine Below.setCell ?_ (by first | (simp; done) | (simp; omega)) _))) (Y9.out.below (by repeat (first | exact Below.refl _ _ | refine bl_tr ?_ _ | refine bl_al ?_ _ | refine bl_dr ?_ | refine bl_up ?_ _ | refine Below.drew ?_ | refine bl_alloc ?_ _ | refine Below.setCell ?_ (by first | (simp; done) | (simp; omega)) _))) (by omega) (by omega)).mono ?_
      rintro e w' ⟨rfl, g8, rfl⟩
      go_wp2_with fail
      refine (sameSK HR9 _ (X9.out.below (by repeat (first | exact Below.refl _ _ | refine bl_tr ?_ _ | refine bl_al ?_ _ | refine bl_dr ?_ | refine bl_up ?_ _ | refine Below.drew ?_ | refine bl_alloc ?_ _ | refine Below.setCell ?_ (by first | (simp; done) | (simp; omega)) _))) (Y9.out.below (by repeat (first | exact Below.refl _ _ | refine bl_tr ?_ _ | refine bl_al ?_ _ | refine bl_dr ?_ | refine bl_up ?_ _ | refine Below.drew ?_ | refine bl_alloc ?_ _ | refine Below.setCell ?_ (by first | (simp; done) | (simp; omega)) _))) (by omega) (by omega)).mono ?_
      rintro e w' ⟨rfl, g9, rfl⟩
      go_wp2_with fail
      refine (validHires_any _ _ _ _ _ ((R1.out.below B9'.out).below (by repeat (first | exact Below.refl _ _ | refine bl_tr ?_ _ | refine bl_al ?_ _ | refine bl_dr ?_ | refine bl_up ?_ _ | refine Below.drew ?_ | refine bl_alloc ?_ _ | refine Below.setCell ?_ (by first | (simp; done) | (simp; omega)) _))) (by omega) hc1).mono ?_
      rintro e w' ⟨rfl, g10, rfl⟩
      go_wp2_with fail
      refine (specValidH _ _ _ _ _ ((R1.out.below B9'.out).below (by repeat (first | exact Below.refl _ _ | refine bl_tr ?_ _ | refine bl_al ?_ _ | refine bl_dr ?_ | refine bl_up ?_ _ | refine Below.drew ?_ | refine bl_alloc ?_ _ | refine Below.setCell ?_ (by first | (simp; done) | (simp; omega)) _))) (by omega)).mono ?_
      rintro e w' ⟨rfl, g11, rfl⟩
      go_wp2_with fail
      go_meet
      exact ⟨rfl, ex_up (by repeat (first | exact Below.refl _ _ | refine bl_tr ?_ _ | refine bl_al ?_ _ | refine bl_dr ?_ | refine bl_up ?_ _ | refine Below.drew ?_ | refine bl_alloc ?_ _ | refine Below.setCell ?_ (by first | (simp; done) | (simp; omega)) _))⟩
    | false =>
      have hE : T.toList.isEmpty = true := by have := HOK.out; cases h9 : T.toList.isEmpty with | true => rfl | false => rw [h9] at this; cases this
      go_wp2_with fail
      refine (sameSK (Lib.hid (sameH_refl L)) _ ((X2.out.below B9'.out).below (by repeat (first | exact Below.refl _ _ | refine bl_tr ?_ _ | refine bl_al ?_ _ | refine bl_dr ?_ | refine bl_up ?_ _ | refine Below.drew ?_ | refine bl_alloc ?_ _ | refine Below.setCell ?_ (by first | (simp; done) | (simp; omega)) _))) ((X3.out.below B9'.out).below (by repeat (first | exact Below.refl _ _ | refine bl_tr ?_ _ | refine bl_al ?_ _ | refine bl_dr ?_ | refine bl_up ?_ _ | refine Below.drew ?_ | refine bl_alloc ?_ _ | refine Below.setCell ?_ (by first | (simp; done) | (simp; omega)) _))) (by omega) (by omega)).mono ?_
      rintro e w' ⟨rfl, g3, rfl⟩
      go_wp2_with fail
      refine (f6ints_same A4 A5 c4 c5 F _ ((X4.out.below B9'.out).below (by repeat (first | exact Below.refl _ _ | refine bl_tr ?_ _ | refine bl_al ?_ _ | refine bl_dr ?_ | refine bl_up ?_ _ | refine Below.drew ?_ | refine bl_alloc ?_ _ | refine Below.setCell ?_ (by first | (simp; done) | (simp; omega)) _))) ((X5.out.below B9'.out).below (by repeat (first | exact Below.refl _ _ | refine bl_tr ?_ _ | refine bl_al ?_ _ | refine bl_dr ?_ | refine bl_up ?_ _ | refine Below.drew ?_ | refine bl_alloc ?_ _ | refine Below.setCell ?_ (by first | (simp; done) | (simp; omega)) _))) (by omega)).mono ?_
      rintro e w' ⟨rfl, g4, rfl⟩
      go_wp2_with fail
      refine (sameSK (Lib.hid (sameH_refl Y)) _ ((X7.out.below B9'.out).below (by repeat (first | exact Below.refl _ _ | refine bl_tr ?_ _ | refine bl_al ?_ _ | refine bl_dr ?_ | refine bl_up ?_ _ | refine Below.drew ?_ | refine bl_alloc ?_ _ | refine Below.setCell ?_ (by first | (simp; done) | (simp; omega)) _))) ((X8.out.below B9'.out).below (by repeat (first | exact Below.refl _ _ | refine bl_tr ?_ _ | refine bl_al ?_ _ | refine bl_dr ?_ | refine bl_up ?_ _ | refine Below.drew ?_ | refine bl_alloc ?_ _ | refine Below.setCell ?_ (by first | (simp; done) | (simp; omega)) _))) (by omega) (by omega)).mono ?_
      rintro e w' ⟨rfl, g5, rfl⟩
      go_wp2_with fail
      refine (sameSK (Lib.hid (sameH_refl Z)) _ ((X10.out.below B9'.out).below (by repeat (first | exact Below.refl _ _ | refine bl_tr ?_ _ | refine bl_al ?_ _ | refine bl_dr ?_ | refine bl_up ?_ _ | refine Below.drew ?_ | refine bl_alloc ?_ _ | refine Below.setCell ?_ (by first | (simp; done) | (simp; omega)) _))) ((X11.out.below B9'.out).below (by repeat (first | exact Below.refl _ _ | refine bl_tr ?_ _ | refine bl_al ?_ _ | refine bl_dr ?_ | refine bl_up ?_ _ | refine Below.drew ?_ | refine bl_alloc ?_ _ | refine Below.setCell ?_ (by first | (simp; done) | (simp; omega)) _))) (by omega) (by omega)).mono ?_
      rintro e w' ⟨rfl, g6, rfl⟩
      go_wp2_with fail
      refine (hcS.out _).mono ?_
      rintro e w' ⟨rfl, g7, rfl⟩
      go_wp2_with fail
      refine (sameIK HR9 _ (X9.out.below (by repeat (first | exact Below.refl _ _ | refine bl_tr ?_ _ | refine bl_al ?_ _ | refine bl_dr ?_ | refine bl_up ?_ _ | refine Below.drew ?_ | refine bl_alloc ?_ _ | refine Below.setCell ?_ (by first | (simp; done) | (simp; omega)) _))) (Y9.out.below (by repeat (first | exact Below.refl _ _ | refine bl_tr ?_ _ | refine bl_al ?_ _ | refine bl_dr ?_ | refine bl_up ?_ _ | refine Below.drew ?_ | refine bl_alloc ?_ _ | refine Below.setCell ?_ (by first | (simp; done) | (simp; omega)) _))) (by omega) (by omega)).mono ?_
      rintro e w' ⟨rfl, g8, rfl⟩
      go_wp2_with fail
      refine (sameSK HR9 _ (X9.out.below (by repeat (first | exact Below.refl _ _ | refine bl_tr ?_ _ | refine bl_al ?_ _ | refine bl_dr ?_ | refine bl_up ?_ _ | refine Below.drew ?_ | refine bl_alloc ?_ _ | refine Below.setCell ?_ (by first | (simp; done) | (simp; omega)) _))) (Y9.out.below (by repeat (first | exact Below.refl _ _ | refine bl_tr ?_ _ | refine bl_al ?_ _ | refine bl_dr ?_ | refine bl_up ?_ _ | refine Below.drew ?_ | refine bl_alloc ?_ _ | refine Below.setCell ?_ (by first | (simp; done) | (simp; omega)) _))) (by omega) (by omega)).mono ?_
      rintro e w' ⟨rfl, g9, rfl⟩
      go_wp2_with fail
      refine (validHires_any _ _ _ _ _ ((R1.out.below B9'.out).below (by repeat (first | exact Below.refl _ _ | refine bl_tr ?_ _ | refine bl_al ?_ _ | refine bl_dr ?_ | refine bl_up ?_ _ | refine Below.drew ?_ | refine bl_alloc ?_ _ | refine Below.setCell ?_ (by first | (simp; done) | (simp; omega)) _))) (by omega) hc1).mono ?_
      rintro e w' ⟨rfl, g10, rfl⟩
      go_wp2_with fail
      refine (specValidH _ _ _ _ _ ((R1.out.below B9'.out).below (by repeat (first | exact Below.refl _ _ | refine bl_tr ?_ _ | refine bl_al ?_ _ | refine bl_dr ?_ | refine bl_up ?_ _ | refine Below.drew ?_ | refine bl_alloc ?_ _ | refine Below.setCell ?_ (by first | (simp; done) | (simp; omega)) _))) (by omega)).mono ?_
      rintro e w' ⟨rfl, g11, rfl⟩
      go_wp2_with fail
      go_meet
      exact ⟨rfl, ex_up (by repeat (first | exact Below.refl _ _ | refine bl_tr ?_ _ | refine bl_al ?_ _ | refine bl_dr ?_ | refine bl_up ?_ _ | refine Below.drew ?_ | refine bl_alloc ?_ _ | refine Below.setCell ?_ (by first | (simp; done) | (simp; omega)) _))⟩
  case rest =>
    obtain ⟨rfl, g9, rfl⟩ := hcut
    clear q10 q11 q12 q13 q14 q17 q18 q19 q20 q21 q22 q23 HR9 X9 Y9 P2b P3b P4b P5b HTT HRW HBK HOK HRS HT
    go_upto_region 23 with (fail)
    refine wpg (R := fun V' => Hid (Rds V' 3 (some ⟨a1, 0, none⟩) l.length (hcs l)) ∧ Hid (Rds V' 3 A2 L.length (hcs L)) ∧ Hid (Rds V' 1 A5 F.length (ics F)) ∧ Hid (Rds V' 3 A7 Y.length (hcs Y)) ∧ Hid (Rds V' 3 (some ⟨a9, 0, none⟩) b.length (hcs b)) ∧ Hid (Rds V' 3 A10 Z.length (hcs Z)) ∧ Hid (Rds V' 3 A11 Z.length (hcs Z)) ∧ Hid (UpOf w V')) ⟨Lib.hid ((R1.out.below B9'.out).below (by repeat (first | exact Below.refl _ _ | refine bl_tr ?_ _ | refine bl_al ?_ _ | refine bl_dr ?_ | refine bl_up ?_ _ | refine Below.drew ?_ | refine bl_alloc ?_ _ | refine Below.setCell ?_ (by first | (simp; done) | (simp; omega)) _))), Lib.hid ((X2.out.below B9'.out).below (by repeat (first | exact Below.refl _ _ | refine bl_tr ?_ _ | refine bl_al ?_ _ | refine bl_dr ?_ | refine bl_up ?_ _ | refine Below.drew ?_ | refine bl_alloc ?_ _ | refine Below.setCell ?_ (by first | (simp; done) | (simp; omega)) _))), Lib.hid ((X5.out.below B9'.out).below (by repeat (first | exact Below.refl _ _ | refine bl_tr ?_ _ | refine bl_al ?_ _ | refine bl_dr ?_ | refine bl_up ?_ _ | refine Below.drew ?_ | refine bl_alloc ?_ _ | refine Below.setCell ?_ (by first | (simp; done) | (simp; omega)) _))), Lib.hid ((X7.out.below B9'.out).below (by repeat (first | exact Below.refl _ _ | refine bl_tr ?_ _ | refine bl_al ?_ _ | refine bl_dr ?_ | refine bl_up ?_ _ | refine Below.drew ?_ | refine bl_alloc ?_ _ | refine Below.setCell ?_ (by first | (simp; done) | (simp; omega)) _))), Lib.hid ((R9.out.below B9'.out).below (by repeat (first | exact Below.refl _ _ | refine bl_tr ?_ _ | refine bl_al ?_ _ | refine bl_dr ?_ | refine bl_up ?_ _ | refine Below.drew ?_ | refine bl_alloc ?_ _ | refine Below.setCell ?_ (by first | (simp; done) | (simp; omega)) _))), Lib.hid ((X10.out.below B9'.out).below (by repeat (first | exact Below.refl _ _ | refine bl_tr ?_ _ | refine bl_al ?_ _ | refine bl_dr ?_ | refine bl_up ?_ _ | refine Below.drew ?_ | refine bl_alloc ?_ _ | refine Below.setCell ?_ (by first | (simp; done) | (simp; omega)) _))), Lib.hid ((X11.out.below B9'.out).below (by repeat (first | exact Below.refl _ _ | refine bl_tr ?_ _ | refine bl_al ?_ _ | refine bl_dr ?_ | refine bl_up ?_ _ | refine Below.drew ?_ | refine bl_alloc ?_ _ | refine Below.setCell ?_ (by first | (simp; done) | (simp; omega)) _))), Lib.hid ((HU.out.tr B9'.out).tr (by repeat (first | exact Below.refl _ _ | refine bl_tr ?_ _ | refine bl_al ?_ _ | refine bl_dr ?_ | refine bl_up ?_ _ | refine Below.drew ?_ | refine bl_alloc ?_ _ | refine Below.setCell ?_ (by first | (simp; done) | (simp; omega)) _)))⟩ (fun V' z => ?_)
    clear R1 X2 X3 X4 X5 X7 X8 R9 X10 X11 HU B9' HR
    obtain ⟨R1, X2, X5, X7, R9, X10, X11, HU⟩ := z
    go_cut [267] (fun z U => z = .bool false ∧ ∃ g : Up V', U = up V' g)
    case first =>
     as_aux_lemma =>
      by_cases h3 : three = 0
      · have HB3 := HB.out
        rw [h3] at HB3
        obtain ⟨e1, e2⟩ := book_law HB3
        have h3' : (three == 0) = true := by rw [beq_iff_eq]; exact h3
        have hw : IntKind.i64.wrap ((a.length : Int) + 1) = (a.length : Int) + 1 := by rw [IntKind.wrap_i64]; omega
        have hne : ((Y.length : Int) != (a.length : Int) + 1) = false := by rw [bne_eq_false_iff_eq]; omega
        clear h3 HB3 e1
        have E2 := Lib.hid e2
        clear e2
        go_wp2_with fail
        refine (ret_as (validHires_any _ _ _ _ _ (X7.out.below (by repeat (first | exact Below.refl _ _ | refine bl_tr ?_ _ | refine bl_al ?_ _ | refine bl_dr ?_ | refine bl_up ?_ _ | refine Below.drew ?_ | refine bl_alloc ?_ _ | refine Below.setCell ?_ (by first | (simp; done) | (simp; omega)) _))) (by omega) hc7) E2.out).mono ?_
        rintro e w' ⟨rfl, g3, rfl⟩
        go_wp2_with fail
        go_meet
        exact ⟨rfl, ex_up (by repeat (first | exact Below.refl _ _ | refine bl_tr ?_ _ | refine bl_al ?_ _ | refine bl_dr ?_ | refine bl_up ?_ _ | refine Below.drew ?_ | refine bl_alloc ?_ _ | refine Below.setCell ?_ (by first | (simp; done) | (simp; omega)) _))⟩
      · have h3' : (three == 0) = false := by rw [beq_eq_false_iff_ne]; exact h3
        clear h3
        go_wp2_with fail
        go_meet
        exact ⟨rfl, ex_up (by repeat (first | exact Below.refl _ _ | refine bl_tr ?_ _ | refine bl_al ?_ _ | refine bl_dr ?_ | refine bl_up ?_ _ | refine Below.drew ?_ | refine bl_alloc ?_ _ | refine Below.setCell ?_ (by first | (simp; done) | (simp; omega)) _))⟩
    case rest =>
      obtain ⟨rfl, g1, rfl⟩ := hcut
      clear HB X7
      go_upto_region 25 with (fail)
      go_cut [288] (fun z U => z = .bool false ∧ ∃ g : Up V', U = up V' g)
      case first =>
       as_aux_lemma =>
        by_cases h5 : five = 0
        · have HE3 := HE.out
          rw [h5] at HE3
          obtain ⟨⟨e0, e1⟩, e2, e3, e4⟩ := re_law HE3
          have h5' : (five == 0) = true := by rw [beq_iff_eq]; exact h5
          obtain ⟨K, rfl⟩ : ∃ K : Nat, k = (K : Int) := ⟨k.toNat, by omega⟩
          rw [Int.toNat_natCast] at e1 e4
          have hK1 : K < Z.length := by omega
          have hK2 : (K : Int) < (Z.length : Int) := by omega
          have hK3 : (K : Int) < (b.length : Int) := by omega
          obtain ⟨b1, o1, rfl, hb1, ha1⟩ := hire_at' X11.out hK1
          obtain ⟨_, _, _, u2⟩ := ha1 K hK1
          obtain ⟨b2, o2, eb, hb2, ha2⟩ := hire_at' R9.out e1
          injection eb with eb
          injection eb with eb1 eb2 _
          subst eb1 eb2
          obtain ⟨_, _, _, v2⟩ := ha2 K e1
          simp only [Nat.zero_add] at v2
          have hge : decide ((hat b K).t ≤ (hat Z K).t) = false := decide_eq_false (by omega)
          have E3 := Lib.hid e3
          clear h5 HE3 ha1 ha2 e2 e3 e0
          go_wp2_with (first | (go_at_call 30; refine (ret_as (validHires_any _ _ _ _ _ (X10.out.below (by repeat (first | exact Below.refl _ _ | refine bl_tr ?_ _ | refine bl_al ?_ _ | refine bl_dr ?_ | refine bl_up ?_ _ | refine Below.drew ?_ | refine bl_alloc ?_ _ | refine Below.setCell ?_ (by first | (simp; done) | (simp; omega)) _))) (by omega) hc10) E3.out).mono ?_; rintro e w' ⟨rfl, g, rfl⟩) | ((with_reducible refine wp_region_up (by kernel_rfl) (by kernel_rfl) ?_); (repeat (go_big_quiet_step (first | (go_at_call 30; first | exact upq_tr (ret_as (validHires_any _ _ _ _ _ (X10.out.below (by repeat (first | exact Below.refl _ _ | refine bl_tr ?_ _ | refine bl_al ?_ _ | refine bl_dr ?_ | refine bl_up ?_ _ | refine Below.drew ?_ | refine bl_alloc ?_ _ | refine Below.setCell ?_ (by first | (simp; done) | (simp; omega)) _))) (by omega) hc10) E3.out) | exact upq (ret_as (validHires_any _ _ _ _ _ (X10.out.below (by repeat (first | exact Below.refl _ _ | refine bl_tr ?_ _ | refine bl_al ?_ _ | refine bl_dr ?_ | refine bl_up ?_ _ | refine Below.drew ?_ | refine bl_alloc ?_ _ | refine Below.setCell ?_ (by first | (simp; done) | (simp; omega)) _))) (by omega) hc10) E3.out))))); refine wpQuiet_nil ?_; intro _ hw'; obtain ⟨nq, hw''⟩ := hw'; subst hw''))
          go_meet
          exact ⟨rfl, ex_up (by repeat (first | exact Below.refl _ _ | refine bl_tr ?_ _ | refine bl_al ?_ _ | refine bl_dr ?_ | refine bl_up ?_ _ | refine Below.drew ?_ | refine bl_alloc ?_ _ | refine Below.setCell ?_ (by first | (simp; done) | (simp; omega)) _))⟩
        · have h5' : (five == 0) = false := by rw [beq_eq_false_iff_ne]; exact h5
          clear h5
          go_wp2_with (first | ((with_reducible refine wp_region_up (by kernel_rfl) (by kernel_rfl) ?_); (repeat (go_big_quiet_step (fail))); refine wpQuiet_nil ?_; intro _ hw'; obtain ⟨nq, hw''⟩ := hw'; subst hw''))
          go_meet
          exact ⟨rfl, ex_up (by repeat (first | exact Below.refl _ _ | refine bl_tr ?_ _ | refine bl_al ?_ _ | refine bl_dr ?_ | refine bl_up ?_ _ | refine Below.drew ?_ | refine bl_alloc ?_ _ | refine Below.setCell ?_ (by first | (simp; done) | (simp; omega)) _))⟩
      case rest =>
       as_aux_lemma =>
        obtain ⟨rfl, g2, rfl⟩ := hcut
        clear HE R9 X10 X11
        have hcd := fun h => any_code (l := l) (n := N) (f := f) (t := t) (by rw [HF.out]; exact h)
        rw [HF.out, HA.out] at hcd
        dsimp only at hcd
        go_upto_region 27 with (fail)
        go_cut [298] (fun z U => z = .bool false ∧ ∃ g : Up V', U = up V' g)
        case first =>
          by_cases h1 : fc = 0
          · have h1' : (fc == 0) = true := by rw [beq_iff_eq]; exact h1
            have hne : (((F.length : Int) == 0) == (bad == 3)) = true := by
              rw [beq_iff_eq, Bool.eq_iff_iff, beq_iff_eq, beq_iff_eq]
              have := hcd h1
              omega
            clear h1 hcd
            go_wp2_with fail
            go_meet
            exact ⟨rfl, ex_up (by repeat (first | exact Below.refl _ _ | refine bl_tr ?_ _ | refine bl_al ?_ _ | refine bl_dr ?_ | refine bl_up ?_ _ | refine Below.drew ?_ | refine bl_alloc ?_ _ | refine Below.setCell ?_ (by first | (simp; done) | (simp; omega)) _))⟩
          · have h1' : (fc == 0) = false := by rw [beq_eq_false_iff_ne]; exact h1
            clear h1 hcd
            go_wp2_with fail
            go_meet
            exact ⟨rfl, ex_up (by repeat (first | exact Below.refl _ _ | refine bl_tr ?_ _ | refine bl_al ?_ _ | refine bl_dr ?_ | refine bl_up ?_ _ | refine Below.drew ?_ | refine bl_alloc ?_ _ | refine Below.setCell ?_ (by first | (simp; done) | (simp; omega)) _))⟩
        case rest =>
          obtain ⟨rfl, g3, rfl⟩ := hcut
          clear hcd
          by_cases hb : bad = 0
          · have hb' : (bad != 0) = false := by rw [bne_eq_false_iff_eq]; exact hb
            obtain ⟨r1, r2, r3, r4, r5, r6⟩ := any_law (l := l) (n := N) (f := f) (t := t) (by rw [HA.out]; exact hb)
            rw [HF.out, HA.out] at r2
            rw [HA.out] at r3 r4
            rw [HA.out, HF.out] at r5
            rw [HA.out] at r6
            dsimp only at r2 r3 r4 r5 r6
            obtain ⟨G, gc, hG⟩ : ∃ G gc, fmR L N f t = (G, gc) := ⟨_, _, rfl⟩
            rw [hG] at r4 r5 r6
            dsimp only at r4 r5 r6
            subst r4
            have HG := Lib.hid hG
            have R2 := Lib.hid r2
            have R3 := Lib.hid r3
            have R6 := Lib.hid r6
            have hGl := fmR_len hG
            have hw : IntKind.i64.wrap ((F.length : Int) - 1) = (F.length : Int) - 1 := by rw [IntKind.wrap_i64]; omega
            have heq : ((G.length : Int) == (F.length : Int) - 1) = true := by rw [beq_iff_eq]; omega
            have HR5 := Lib.hid r5
            clear hG r2 r3 r6 hb r1 r5
            go_wp2_with fail
            refine (ret_as (f6has_any _ _ _ _ _ (X5.out.below (by repeat (first | exact Below.refl _ _ | refine bl_tr ?_ _ | refine bl_al ?_ _ | refine bl_dr ?_ | refine bl_up ?_ _ | refine Below.drew ?_ | refine bl_alloc ?_ _ | refine Below.setCell ?_ (by first | (simp; done) | (simp; omega)) _))) (by omega)) R2.out).mono ?_
            rintro e w' ⟨rfl, g4, rfl⟩
            go_wp2_with fail
            refine (ret_as (validHires_any _ _ _ _ _ (X2.out.below (by repeat (first | exact Below.refl _ _ | refine bl_tr ?_ _ | refine bl_al ?_ _ | refine bl_dr ?_ | refine bl_up ?_ _ | refine Below.drew ?_ | refine bl_alloc ?_ _ | refine Below.setCell ?_ (by first | (simp; done) | (simp; omega)) _))) (by omega) hc2) R3.out).mono ?_
            rintro e w' ⟨rfl, g5, rfl⟩
            go_wp2_with fail
            refine (fmIK HG _ (X2.out.below (by repeat (first | exact Below.refl _ _ | refine bl_tr ?_ _ | refine bl_al ?_ _ | refine bl_dr ?_ | refine bl_up ?_ _ | refine Below.drew ?_ | refine bl_alloc ?_ _ | refine Below.setCell ?_ (by first | (simp; done) | (simp; omega)) _))) (by omega) hc2).mono ?_
            rintro e w' ⟨A12, c12, rfl, o12, g6, rfl⟩
            have X12 := Lib.hid (Rds.of_own o12)
            clear o12
            go_wp2_with fail
            refine (ret_as (f6has_any _ _ _ _ _ (X12.out.below (by repeat (first | exact Below.refl _ _ | refine bl_tr ?_ _ | refine bl_al ?_ _ | refine bl_dr ?_ | refine bl_up ?_ _ | refine Below.drew ?_ | refine bl_alloc ?_ _ | refine Below.setCell ?_ (by first | (simp; done) | (simp; omega)) _))) (by omega)) R6.out).mono ?_
            rintro e w' ⟨rfl, g7, rfl⟩
            go_wp2_with fail
            go_ret
            exact ⟨rfl, HU.out.tr (by repeat (first | exact Below.refl _ _ | refine bl_tr ?_ _ | refine bl_al ?_ _ | refine bl_dr ?_ | refine bl_up ?_ _ | refine Below.drew ?_ | refine bl_alloc ?_ _ | refine Below.setCell ?_ (by first | (simp; done) | (simp; omega)) _))⟩
          · have hb' : (bad != 0) = true := by rw [bne_iff_ne]; exact hb
            clear hb
            go_wp2_with fail
            go_ret
            exact ⟨rfl, HU.out.tr (by repeat (first | exact Below.refl _ _ | refine bl_tr ?_ _ | refine bl_al ?_ _ | refine bl_dr ?_ | refine bl_up ?_ _ | refine Below.drew ?_ | refine bl_alloc ?_ _ | refine Below.setCell ?_ (by first | (simp; done) | (simp; omega)) _))⟩
end Go.Proofs.YtiagckbdofeecaaDoor

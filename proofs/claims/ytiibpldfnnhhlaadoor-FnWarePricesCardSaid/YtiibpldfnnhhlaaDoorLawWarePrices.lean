/-
  The law FnWarePrices: its walk. Premise on the world: the laid table.
-/
import Derived.Test.YtiibpldfnnhhlaaDoorWarePricesP
import Derived.Test.YtiibpldfnnhhlaaDoorWaresAsk
import Derived.Test.YtiibpldfnnhhlaaDoorDrawSame
import Derived.Test.YtiibpldfnnhhlaaDoorDrawRead
import Derived.Test.YtiibpldfnnhhlaaDoorRaiseI
import Derived.Test.YtiibpldfnnhhlaaDoorRaiseS
import Derived.Test.YtiibpldfnnhhlaaDoorPrice4
import Derived.Test.YtiibpldfnnhhlaaDoorReadWareI
import Derived.Test.YtiibpldfnnhhlaaDoorReadWareS
import Derived.Test.YtiibpldfnnhhlaaDoorF6
namespace Go.Proofs.YtiibpldfnnhhlaaDoor
open Go.RowKit
theorem cheapIK {l : List Ware} {k m : Int} {r0 r1 r2 : Int} (hL : Hid (cheapR l k m = (r0, r1, r2))) (w : World) {A : Option Addr} {c : Nat} (h : WSee w A l) (hb : WBd l) (hn : l.length ≤ 100000000) :
    Calls Tryd.prog 17 #[.slice A l.length c, i64 k, i64 m] w fun e w' => e = .returned (.tuple #[i64 r0, i64 r1, i64 r2]) ∧ UpOf w w' := by
  have := cheapI_any A c l k m w h hn hb
  rw [hL.out] at this
  exact this
theorem cheapSK {l : List Ware} {k m : Int} {r0 r1 r2 : Int} (hL : Hid (cheapR l k m = (r0, r1, r2))) (w : World) {A : Option Addr} {c : Nat} (h : WSee w A l) (hb : WBd l) (hn : l.length ≤ 100000000) :
    Calls Tryd.prog 18 #[.slice A l.length c, i64 k, i64 m] w fun e w' => e = .returned (.tuple #[i64 r0, i64 r1, i64 r2]) ∧ UpOf w w' := by
  have := cheapS_any A c l k m w h hn hb
  rw [hL.out] at this
  exact this
theorem mostIK {l : List Ware} {k m : Int} {r0 r1 : Int} (hL : Hid (mostR l k m = (r0, r1))) (w : World) {A : Option Addr} {c : Nat} (h : WSee w A l) (hb : WBd l) (hn : l.length ≤ 100000000) :
    Calls Tryd.prog 20 #[.slice A l.length c, i64 k, i64 m] w fun e w' => e = .returned (.tuple #[i64 r0, i64 r1]) ∧ UpOf w w' := by
  have := mostI_any A c l k m w h hn hb
  rw [hL.out] at this
  exact this
theorem mostSK {l : List Ware} {k m : Int} {r0 r1 : Int} (hL : Hid (mostR l k m = (r0, r1))) (w : World) {A : Option Addr} {c : Nat} (h : WSee w A l) (hb : WBd l) (hn : l.length ≤ 100000000) :
    Calls Tryd.prog 21 #[.slice A l.length c, i64 k, i64 m] w fun e w' => e = .returned (.tuple #[i64 r0, i64 r1]) ∧ UpOf w w' := by
  have := mostS_any A c l k m w h hn hb
  rw [hL.out] at this
  exact this
theorem priceIK {l : List Ware} {k m : Int} {r0 r1 : Int} (hL : Hid (priceR l k m = (r0, r1))) (w : World) {A : Option Addr} {c : Nat} (h : WSee w A l) (hb : WBd l) (hn : l.length ≤ 100000000) :
    Calls Tryd.prog 38 #[.slice A l.length c, i64 k, i64 m] w fun e w' => e = .returned (.tuple #[i64 r0, i64 r1]) ∧ UpOf w w' := by
  have := priceI_any A c l k m w h hn hb
  rw [hL.out] at this
  exact this
theorem basketIK {l : List Ware} {many : List Int} {r0 r1 : Int} (hL : Hid (bskR l many = (r0, r1))) (w : World) {A B : Option Addr} {c d : Nat} (hw : WSee w A l) (h : Rds w 1 B many.length (ics many)) (hb : WBd l) (hn : many.length ≤ 100000000) (hl : l.length ≤ 100000000) :
    Calls Tryd.prog 23 #[.slice A l.length c, .slice B many.length d] w fun e w' => e = .returned (.tuple #[i64 r0, i64 r1]) ∧ UpOf w w' := by
  have := basketI_any A B c d l many w hw h hn hl hb
  rw [hL.out] at this
  exact this
theorem basketSK {l : List Ware} {many : List Int} {r0 r1 : Int} (hL : Hid (bskR l many = (r0, r1))) (w : World) {A B : Option Addr} {c d : Nat} (hw : WSee w A l) (h : Rds w 1 B many.length (ics many)) (hb : WBd l) (hn : many.length ≤ 100000000) (hl : l.length ≤ 100000000) :
    Calls Tryd.prog 24 #[.slice A l.length c, .slice B many.length d] w fun e w' => e = .returned (.tuple #[i64 r0, i64 r1]) ∧ UpOf w w' := by
  have := basketS_any A B c d l many w hw h hn hl hb
  rw [hL.out] at this
  exact this
theorem raiseIK {l : List Ware} {m : Int} {L : List Ware} {cd : Int} (hL : Hid (raisR l m = (L, cd))) (w : World) {A : Option Addr} {c : Nat} (h : WSee w A l) (hb : WBd l) (hn : l.length ≤ 100000000) :
    Calls Tryd.prog 26 #[.slice A l.length c, i64 m] w fun e w' => ∃ A' c' ps, e = .returned (.tuple #[.slice A' L.length c', i64 cd]) ∧ WGot w.heap.size w' A' c' L ps ∧ UpOf w w' := by
  have := raiseI_any A c l m w h hn hb
  rw [hL.out] at this
  exact this
theorem raiseSK {l : List Ware} {m : Int} {L : List Ware} {cd : Int} (hL : Hid (raisR l m = (L, cd))) (w : World) {A : Option Addr} {c : Nat} (h : WSee w A l) (hb : WBd l) (hn : l.length ≤ 100000000) :
    Calls Tryd.prog 27 #[.slice A l.length c, i64 m] w fun e w' => ∃ A' c' ps, e = .returned (.tuple #[.slice A' L.length c', i64 cd]) ∧ WGot w.heap.size w' A' c' L ps ∧ UpOf w w' := by
  have := raiseS_any A c l m w h hn hb
  rw [hL.out] at this
  exact this
theorem oddIK {l : List Ware} {k : Int} {L0 : List Int} {r1 : Int} (hL : Hid (oddR l k = (L0, r1))) (w : World) {A : Option Addr} {c : Nat} (h : WSee w A l) (hb : WBd l) (hn : l.length ≤ 100000000) :
    Calls Tryd.prog 28 #[.slice A l.length c, i64 k] w fun e w' => ∃ A' c', e = .returned (.tuple #[.slice A' L0.length c', i64 r1]) ∧ w'.ownsRow w.heap.size 2 1 (.slice A' L0.length c') L0.length (ics L0) ∧ UpOf w w' := by
  have := oddI_any A c l k w h hn hb
  rw [hL.out] at this
  exact this
theorem oddSK {l : List Ware} {k : Int} {L0 : List Int} {r1 : Int} (hL : Hid (oddR l k = (L0, r1))) (w : World) {A : Option Addr} {c : Nat} (h : WSee w A l) (hb : WBd l) (hn : l.length ≤ 100000000) :
    Calls Tryd.prog 29 #[.slice A l.length c, i64 k] w fun e w' => ∃ A' c', e = .returned (.tuple #[.slice A' L0.length c', i64 r1]) ∧ w'.ownsRow w.heap.size 2 1 (.slice A' L0.length c') L0.length (ics L0) ∧ UpOf w w' := by
  have := oddS_any A c l k w h hn hb
  rw [hL.out] at this
  exact this
theorem odd_len {l : List Ware} {k : Int} {L : List Int} {cd : Int} (h : oddR l k = (L, cd)) : L.length ≤ 6 := by
  have h0 : (oddR l k).1.length ≤ 6 := by
    unfold oddR
    split
    · rename_i h1
      split
      · rename_i h2
        have h3 := oddN_len (wat l k.toNat) ((wat l k.toNat).brs.length - 1)
        have h4 := btw_true h2
        have h5 := vWare_inv ((vWares_inv h1).2 k.toNat (by omega))
        show (oddN (wat l k.toNat) ((wat l k.toNat).brs.length - 1)).length ≤ 6
        omega
      · simp
    · simp
  rw [h] at h0
  exact h0
theorem sameIK {x y : List Ware} {r0 : Bool} (hL : Hid (sameR x y = r0)) (w : World) {A B : Option Addr} {c d : Nat} (ha : WSee w A x) (hb : WSee w B y) (hfa : WBd x) (hfb : WBd y) (hn : x.length ≤ 100000000) (hm : y.length ≤ 100000000) :
    Calls Tryd.prog 35 #[.slice A x.length c, .slice B y.length d] w fun e w' => e = .returned (.bool r0) ∧ UpOf w w' := by
  have := sameI_any A B c d x y w ha hb hn hm hfa hfb
  rw [hL.out] at this
  exact this
theorem sameSK {x y : List Ware} {r0 : Bool} (hL : Hid (sameR x y = r0)) (n1 n2 : Nat) (h1 : x.length = n1) (h2 : y.length = n2) (w : World) {A B : Option Addr} {c d : Nat} (ha : WSee w A x) (hb : WSee w B y) (hfa : WBd x) (hfb : WBd y) (hn : n1 ≤ 100000000) (hm : n2 ≤ 100000000) :
    Calls Tryd.prog 33 #[.slice A n1 c, .slice B n2 d] w fun e w' => e = .returned (.bool r0) ∧ UpOf w w' := by
  subst h1 h2
  have := sameS_any A B c d x y w ha hb hn hm hfa hfb
  rw [hL.out] at this
  exact this
theorem specValidK (A : Option Addr) (c : Nat) (l : List Ware) (w : World) (h : WSee w A l) (hn : l.length ≤ 100000000) (hf : WBd l) :
    Calls Tryd.prog 37 #[.slice A l.length c] w fun e w' => e = .returned (.bool (vWares l)) ∧ UpOf w w' := by
  go_enter Tryd.func37, Tryd.ntmps37
  go_wp2_with (first | (go_at_call 73; refine (l26Ok_any _ _ _ _ h hn hf).mono ?_; rintro e w' ⟨rfl, g, rfl⟩) | ((with_reducible refine wp_region_up (by kernel_rfl) (by kernel_rfl) ?_); (repeat (go_big_quiet_step (first | (go_at_call 73; first | exact upq_tr (l26Ok_any _ _ _ _ h hn hf) | exact upq (l26Ok_any _ _ _ _ h hn hf))))); refine wpQuiet_nil ?_; intro _ hw'; obtain ⟨nq, hw''⟩ := hw'; subst hw''))
  go_ret
  exact ⟨rfl, UpOf.of (by repeat (first | exact Below.refl _ _ | refine bl_tr ?_ _ | refine bl_al ?_ _ | refine bl_dr ?_ | refine bl_up ?_ _ | refine Below.drew ?_ | refine bl_alloc ?_ _ | refine Below.setCell ?_ (by first | (simp; done) | (simp; omega)) _))⟩
theorem WShort.bdK {m : Nat} {l : List Ware} (h : WShort m l) (hm : m ≤ 100000000) : WBd l := fun i hi => ⟨Nat.le_trans (h i hi).1 (by omega), Nat.le_trans (h i hi).2 hm⟩
theorem rais_bdK {l : List Ware} {m : Int} {L : List Ware} {cd : Int} (h : raisR l m = (L, cd)) (hs : WShort 12 l) : L.length ≤ 30 ∧ WBd L := by
  obtain ⟨h1, h2⟩ := raisR_len h
  refine ⟨h1, fun i hi => ⟨?_, Nat.le_trans (h2 i hi) (by omega)⟩⟩
  have h0 : (raisR l m).1 = L := by rw [h]
  unfold raisR at h0
  split at h0
  · split at h0
    · split at h0
      · have h0 : raisL m l = L := h0
        subst h0
        rw [raisL_len] at hi
        rw [raisL_at hi]
        exact Nat.le_trans (hs i hi).1 (by omega)
      · have h0 : [] = L := h0
        subst h0; simp at hi
    · have h0 : [] = L := h0
      subst h0; simp at hi
  · have h0 : [] = L := h0
    subst h0; simp at hi
theorem wText_bd {t : Ware} (h : t.name.size ≤ 12) : (wText t).size ≤ 1048576 := by
  cases hv : vWare t
  · rw [wText_no hv]; show 0 ≤ _; omega
  · rw [wText_ok hv]
    have h1 := vWare_inv hv
    have := wTextN_len t t.brs.length h1.2.2.2
    omega
theorem wsee_one {V : World} {q : Nat} {x : Ware} {A : Option Addr} {c : Nat} (h : Rds V 2 (some ⟨q, 0, none⟩) 1 [.string x.name, .slice A x.brs.length c]) (hr : Rds V 2 A x.brs.length (bkcs x.brs)) : WSee V (some ⟨q, 0, none⟩) [x] :=
  ⟨[(A, c)], rfl, h, fun i h1 h2 => by
    have : i = 0 := by simp at h1; omega
    subst this
    exact hr⟩
theorem one_bd {x : Ware} (h : x.name.size ≤ 100000000) (h2 : x.brs.length ≤ 100000000) : WBd [x] := fun i hi => by
  have : i = 0 := by simp at hi; omega
  subst this
  exact ⟨h, h2⟩
theorem rw_bd (s : ByteArray) : (rwR s).1.brs.length ≤ 6 ∧ ((rwR s).1.name.size ≤ 100000000) := by
  unfold rwR
  split
  · rename_i h
    have h1 := (okRI_text h).1
    have h2 := vWare_inv h1
    exact ⟨h2.2.2.1, by have := nameB_bd h2.1; show (xWI s).name.size ≤ _; omega⟩
  · exact ⟨by show 0 ≤ 6; omega, by show 0 ≤ _; omega⟩
/-- the sums of a basket -/
theorem bsk_wr {l : List Ware} {many : List Int} (h : (bskR l many).2 = 0) : ∀ k, k ≤ l.length → 0 ≤ bsk l many k ∧ bsk l many k ≤ 1000000000 * (k : Int)
  | 0, _ => by simp [bsk]
  | k + 1, hk => by
    have h1 := bsk_wr h k (by omega)
    have h2 := (bsk_law h).2.2.1 k (by omega)
    rw [bsk]; omega
theorem rds_new2K {V : World} {g : Up V} {o : Obj} {cs : Array Value} {t : TypeId} (sz m : Nat) (h : cs.size = m * sz) : Rds (up V ((g.al o).al (.cells cs t))) sz (some ⟨(up V g).heap.size + 1, 0, none⟩) m cs.toList := by
  have := rds_new (up V (g.al o)) cs t sz m h
  rw [size_al] at this
  exact this
theorem wsee_two {V : World} {g : Up V} {x y : Ware} {A B : Option Addr} {c d : Nat} {t : TypeId} (hx : Rds V 2 A x.brs.length (bkcs x.brs)) (hy : Rds V 2 B y.brs.length (bkcs y.brs)) :
    WSee (up V ((g.al (.cells #[.string x.name, .slice A x.brs.length c] t)).al (.cells #[.string y.name, .slice B y.brs.length d] t))) (some ⟨(up V g).heap.size, 0, none⟩) [x] ∧ WSee (up V ((g.al (.cells #[.string x.name, .slice A x.brs.length c] t)).al (.cells #[.string y.name, .slice B y.brs.length d] t))) (some ⟨(up V g).heap.size + 1, 0, none⟩) [y] :=
  ⟨wsee_one ((rds_new (up V g) #[.string x.name, .slice A x.brs.length c] t 2 1 rfl).below (show Below (up V (g.al _)).heap.size (up V (g.al _)) (up V ((g.al _).al _)) from (by repeat (first | exact Below.refl _ _ | refine bl_tr ?_ _ | refine bl_al ?_ _ | refine bl_dr ?_ | refine bl_up ?_ _ | refine Below.drew ?_ | refine bl_alloc ?_ _ | refine Below.setCell ?_ (by first | (simp; done) | (simp; omega)) _)))) (hx.below (up_below V _)), wsee_one (rds_new2K 2 1 rfl) (hy.below (up_below V _))⟩
set_option maxRecDepth 10000 in
set_option maxHeartbeats 12000000 in
theorem law_warePrices (A : Option Addr) (n c : Nat) (zs : List Int) (w : World) (hz : ∀ z ∈ zs, 0 ≤ z ∧ z ≤ 255) (hr : Rds w 1 A n (bytes zs)) (hn : n ≤ 9223372036854775807) (ht : Tab w) :
    Calls Tryd.prog 5 #[.slice A n c] w fun e w' => e = .returned (.bool true) ∧ UpOf w w' := by
  have HR := Lib.hid hr
  have HZ := Lib.hid hz
  have HT := Lib.hid ht
  clear hr hz ht
  by_cases hbig : (4096 : Int) < n
  · have hd : decide ((4096 : Int) < n) = true := decide_eq_true hbig
    go_enter Tryd.func5, Tryd.ntmps5
    go_wp2_with fail
    refine (ret_as (f6big_any A n c _ hn) hd).mono ?_
    rintro e w' ⟨rfl, g0, rfl⟩
    go_wp2_with fail
    go_ret
    exact ⟨rfl, UpOf.of (by repeat (first | exact Below.refl _ _ | refine bl_tr ?_ _ | refine bl_al ?_ _ | refine bl_dr ?_ | refine bl_up ?_ _ | refine Below.drew ?_ | refine bl_alloc ?_ _ | refine Below.setCell ?_ (by first | (simp; done) | (simp; omega)) _))⟩
  have hd : decide ((4096 : Int) < n) = false := decide_eq_false hbig
  have hn4 : n ≤ 4096 := by omega
  go_enter Tryd.func5, Tryd.ntmps5
  go_wp2_with fail
  refine (ret_as (f6big_any A n c _ hn) hd).mono ?_
  rintro e w' ⟨rfl, g0, rfl⟩
  clear hd
  go_wp2_with fail
  refine (drawCheapest_any A n c zs _ HZ.out (HR.out.below (by repeat (first | exact Below.refl _ _ | refine bl_tr ?_ _ | refine bl_al ?_ _ | refine bl_dr ?_ | refine bl_up ?_ _ | refine Below.drew ?_ | refine bl_alloc ?_ _ | refine Below.setCell ?_ (by first | (simp; done) | (simp; omega)) _))) hn4).mono ?_
  rintro e w' ⟨l, A1, c1, k, m, rfl, hw1, hs1, hl1, g1, rfl⟩
  have W1 := Lib.hid hw1
  have F1 := Lib.hid (hs1.bdK (by omega))
  obtain ⟨b0, b1, b2, hC⟩ : ∃ b0 b1 b2, cheapR l k m = (b0, b1, b2) := ⟨_, _, _, rfl⟩
  have HC := Lib.hid hC
  obtain ⟨O, oc, hO⟩ : ∃ O oc, oddR l k = (O, oc) := ⟨_, _, rfl⟩
  have hOl := odd_len hO
  have HO := Lib.hid hO
  clear hw1 hs1 hC hO
  go_wp2_with fail
  refine (cheapIK HC _ (W1.out.below (by repeat (first | exact Below.refl _ _ | refine bl_tr ?_ _ | refine bl_al ?_ _ | refine bl_dr ?_ | refine bl_up ?_ _ | refine Below.drew ?_ | refine bl_alloc ?_ _ | refine Below.setCell ?_ (by first | (simp; done) | (simp; omega)) _))) F1.out (by omega)).mono ?_
  rintro e w' ⟨rfl, g2, rfl⟩
  go_wp2_with fail
  refine (cheapSK HC _ (W1.out.below (by repeat (first | exact Below.refl _ _ | refine bl_tr ?_ _ | refine bl_al ?_ _ | refine bl_dr ?_ | refine bl_up ?_ _ | refine Below.drew ?_ | refine bl_alloc ?_ _ | refine Below.setCell ?_ (by first | (simp; done) | (simp; omega)) _))) F1.out (by omega)).mono ?_
  rintro e w' ⟨rfl, g3, rfl⟩
  go_wp2_with fail
  refine (drawMostFor_any A n c zs _ HZ.out (HR.out.below (by repeat (first | exact Below.refl _ _ | refine bl_tr ?_ _ | refine bl_al ?_ _ | refine bl_dr ?_ | refine bl_up ?_ _ | refine Below.drew ?_ | refine bl_alloc ?_ _ | refine Below.setCell ?_ (by first | (simp; done) | (simp; omega)) _))) hn4).mono ?_
  rintro e w' ⟨l2, A2, c2, k2, m2, rfl, hw2, hs2, hl2, g4, rfl⟩
  have W2 := Lib.hid hw2
  have F2 := Lib.hid (hs2.bdK (by omega))
  obtain ⟨t0, t1, hM⟩ : ∃ t0 t1, mostR l2 k2 m2 = (t0, t1) := ⟨_, _, rfl⟩
  have HM := Lib.hid hM
  clear hw2 hs2 hM
  go_wp2_with fail
  refine (mostIK HM _ (W2.out.below (by repeat (first | exact Below.refl _ _ | refine bl_tr ?_ _ | refine bl_al ?_ _ | refine bl_dr ?_ | refine bl_up ?_ _ | refine Below.drew ?_ | refine bl_alloc ?_ _ | refine Below.setCell ?_ (by first | (simp; done) | (simp; omega)) _))) F2.out (by omega)).mono ?_
  rintro e w' ⟨rfl, g5, rfl⟩
  go_wp2_with fail
  refine (mostSK HM _ (W2.out.below (by repeat (first | exact Below.refl _ _ | refine bl_tr ?_ _ | refine bl_al ?_ _ | refine bl_dr ?_ | refine bl_up ?_ _ | refine Below.drew ?_ | refine bl_alloc ?_ _ | refine Below.setCell ?_ (by first | (simp; done) | (simp; omega)) _))) F2.out (by omega)).mono ?_
  rintro e w' ⟨rfl, g6, rfl⟩
  go_wp2_with fail
  refine (drawBasket_any A n c zs _ HZ.out (HR.out.below (by repeat (first | exact Below.refl _ _ | refine bl_tr ?_ _ | refine bl_al ?_ _ | refine bl_dr ?_ | refine bl_up ?_ _ | refine Below.drew ?_ | refine bl_alloc ?_ _ | refine Below.setCell ?_ (by first | (simp; done) | (simp; omega)) _))) hn4).mono ?_
  rintro e w' ⟨l3, A3, c3, ms, A4, c4, rfl, hw3, hs3, hl3, hms, hml, g7, rfl⟩
  have W3 := Lib.hid hw3
  have F3 := Lib.hid (hs3.bdK (by omega))
  have N3 := Lib.hid hms
  obtain ⟨s0, s1, hB⟩ : ∃ s0 s1, bskR l3 ms = (s0, s1) := ⟨_, _, rfl⟩
  have HB := Lib.hid hB
  clear hw3 hs3 hms hB
  go_wp2_with fail
  refine (basketIK HB _ (W3.out.below (by repeat (first | exact Below.refl _ _ | refine bl_tr ?_ _ | refine bl_al ?_ _ | refine bl_dr ?_ | refine bl_up ?_ _ | refine Below.drew ?_ | refine bl_alloc ?_ _ | refine Below.setCell ?_ (by first | (simp; done) | (simp; omega)) _))) (N3.out.below (by repeat (first | exact Below.refl _ _ | refine bl_tr ?_ _ | refine bl_al ?_ _ | refine bl_dr ?_ | refine bl_up ?_ _ | refine Below.drew ?_ | refine bl_alloc ?_ _ | refine Below.setCell ?_ (by first | (simp; done) | (simp; omega)) _))) F3.out (by omega) (by omega)).mono ?_
  rintro e w' ⟨rfl, g8, rfl⟩
  go_wp2_with fail
  refine (basketSK HB _ (W3.out.below (by repeat (first | exact Below.refl _ _ | refine bl_tr ?_ _ | refine bl_al ?_ _ | refine bl_dr ?_ | refine bl_up ?_ _ | refine Below.drew ?_ | refine bl_alloc ?_ _ | refine Below.setCell ?_ (by first | (simp; done) | (simp; omega)) _))) (N3.out.below (by repeat (first | exact Below.refl _ _ | refine bl_tr ?_ _ | refine bl_al ?_ _ | refine bl_dr ?_ | refine bl_up ?_ _ | refine Below.drew ?_ | refine bl_alloc ?_ _ | refine Below.setCell ?_ (by first | (simp; done) | (simp; omega)) _))) F3.out (by omega) (by omega)).mono ?_
  rintro e w' ⟨rfl, g9, rfl⟩
  go_wp2_with fail
  refine (drawRaise_any A n c zs _ HZ.out (HR.out.below (by repeat (first | exact Below.refl _ _ | refine bl_tr ?_ _ | refine bl_al ?_ _ | refine bl_dr ?_ | refine bl_up ?_ _ | refine Below.drew ?_ | refine bl_alloc ?_ _ | refine Below.setCell ?_ (by first | (simp; done) | (simp; omega)) _))) hn4).mono ?_
  rintro e w' ⟨l4, A5, c5, p4, rfl, hw4, hs4, hl4, g10, rfl⟩
  have W4 := Lib.hid hw4
  have F4 := Lib.hid (hs4.bdK (by omega))
  obtain ⟨X, xc, hX⟩ : ∃ X xc, raisR l4 p4 = (X, xc) := ⟨_, _, rfl⟩
  obtain ⟨hXl, hXb⟩ := rais_bdK hX hs4
  have HX := Lib.hid hX
  have FX := Lib.hid hXb
  clear hw4 hs4 hX hXb
  go_wp2_with fail
  refine (raiseIK HX _ (W4.out.below (by repeat (first | exact Below.refl _ _ | refine bl_tr ?_ _ | refine bl_al ?_ _ | refine bl_dr ?_ | refine bl_up ?_ _ | refine Below.drew ?_ | refine bl_alloc ?_ _ | refine Below.setCell ?_ (by first | (simp; done) | (simp; omega)) _))) F4.out (by omega)).mono ?_
  rintro e w' ⟨A6, c6, ps6, rfl, hx6, g11, rfl⟩
  have X6 := Lib.hid (WGot.see hx6)
  clear hx6
  go_wp2_with fail
  refine (raiseSK HX _ (W4.out.below (by repeat (first | exact Below.refl _ _ | refine bl_tr ?_ _ | refine bl_al ?_ _ | refine bl_dr ?_ | refine bl_up ?_ _ | refine Below.drew ?_ | refine bl_alloc ?_ _ | refine Below.setCell ?_ (by first | (simp; done) | (simp; omega)) _))) F4.out (by omega)).mono ?_
  rintro e w' ⟨A7, c7, ps7, rfl, hx7, g12, rfl⟩
  have X7 := Lib.hid (WGot.see hx7)
  clear hx7 W4 F4 HX
  go_wp2_with fail
  refine (oddIK HO _ (W1.out.below (by repeat (first | exact Below.refl _ _ | refine bl_tr ?_ _ | refine bl_al ?_ _ | refine bl_dr ?_ | refine bl_up ?_ _ | refine Below.drew ?_ | refine bl_alloc ?_ _ | refine Below.setCell ?_ (by first | (simp; done) | (simp; omega)) _))) F1.out (by omega)).mono ?_
  rintro e w' ⟨A8, c8, rfl, o8, g13, rfl⟩
  have O8 := Lib.hid (Rds.of_own o8)
  clear o8
  go_wp2_with fail
  refine (oddSK HO _ (W1.out.below (by repeat (first | exact Below.refl _ _ | refine bl_tr ?_ _ | refine bl_al ?_ _ | refine bl_dr ?_ | refine bl_up ?_ _ | refine Below.drew ?_ | refine bl_alloc ?_ _ | refine Below.setCell ?_ (by first | (simp; done) | (simp; omega)) _))) F1.out (by omega)).mono ?_
  rintro e w' ⟨A9, c9, rfl, o9, g14, rfl⟩
  have O9 := Lib.hid (Rds.of_own o9)
  clear o9 HO
  go_upto_region 17 with (fail)
  refine wpg (R := fun V => (Hid (WSee V A1 l) ∧ Hid (WSee V A2 l2) ∧ Hid (WSee V A3 l3) ∧ Hid (Rds V 1 A4 ms.length (ics ms)) ∧ Hid (WSee V A6 X) ∧ Hid (WSee V A7 X) ∧ Hid (Rds V 1 A8 O.length (ics O)) ∧ Hid (Rds V 1 A9 O.length (ics O))) ∧ Hid (Rds V 1 A n (bytes zs)) ∧ Hid (Tab V) ∧ Hid (UpOf w V))
    ⟨⟨Lib.hid (W1.out.below (by repeat (first | exact Below.refl _ _ | refine bl_tr ?_ _ | refine bl_al ?_ _ | refine bl_dr ?_ | refine bl_up ?_ _ | refine Below.drew ?_ | refine bl_alloc ?_ _ | refine Below.setCell ?_ (by first | (simp; done) | (simp; omega)) _))), Lib.hid (W2.out.below (by repeat (first | exact Below.refl _ _ | refine bl_tr ?_ _ | refine bl_al ?_ _ | refine bl_dr ?_ | refine bl_up ?_ _ | refine Below.drew ?_ | refine bl_alloc ?_ _ | refine Below.setCell ?_ (by first | (simp; done) | (simp; omega)) _))), Lib.hid (W3.out.below (by repeat (first | exact Below.refl _ _ | refine bl_tr ?_ _ | refine bl_al ?_ _ | refine bl_dr ?_ | refine bl_up ?_ _ | refine Below.drew ?_ | refine bl_alloc ?_ _ | refine Below.setCell ?_ (by first | (simp; done) | (simp; omega)) _))), Lib.hid (N3.out.below (by repeat (first | exact Below.refl _ _ | refine bl_tr ?_ _ | refine bl_al ?_ _ | refine bl_dr ?_ | refine bl_up ?_ _ | refine Below.drew ?_ | refine bl_alloc ?_ _ | refine Below.setCell ?_ (by first | (simp; done) | (simp; omega)) _))), Lib.hid (X6.out.below (by repeat (first | exact Below.refl _ _ | refine bl_tr ?_ _ | refine bl_al ?_ _ | refine bl_dr ?_ | refine bl_up ?_ _ | refine Below.drew ?_ | refine bl_alloc ?_ _ | refine Below.setCell ?_ (by first | (simp; done) | (simp; omega)) _))), Lib.hid (X7.out.below (by repeat (first | exact Below.refl _ _ | refine bl_tr ?_ _ | refine bl_al ?_ _ | refine bl_dr ?_ | refine bl_up ?_ _ | refine Below.drew ?_ | refine bl_alloc ?_ _ | refine Below.setCell ?_ (by first | (simp; done) | (simp; omega)) _))), Lib.hid (O8.out.below (by repeat (first | exact Below.refl _ _ | refine bl_tr ?_ _ | refine bl_al ?_ _ | refine bl_dr ?_ | refine bl_up ?_ _ | refine Below.drew ?_ | refine bl_alloc ?_ _ | refine Below.setCell ?_ (by first | (simp; done) | (simp; omega)) _))), Lib.hid (O9.out.below (by repeat (first | exact Below.refl _ _ | refine bl_tr ?_ _ | refine bl_al ?_ _ | refine bl_dr ?_ | refine bl_up ?_ _ | refine Below.drew ?_ | refine bl_alloc ?_ _ | refine Below.setCell ?_ (by first | (simp; done) | (simp; omega)) _)))⟩, Lib.hid (HR.out.below (by repeat (first | exact Below.refl _ _ | refine bl_tr ?_ _ | refine bl_al ?_ _ | refine bl_dr ?_ | refine bl_up ?_ _ | refine Below.drew ?_ | refine bl_alloc ?_ _ | refine Below.setCell ?_ (by first | (simp; done) | (simp; omega)) _))), Lib.hid (HT.out.below (by repeat (first | exact Below.refl _ _ | refine bl_tr ?_ _ | refine bl_al ?_ _ | refine bl_dr ?_ | refine bl_up ?_ _ | refine Below.drew ?_ | refine bl_alloc ?_ _ | refine Below.setCell ?_ (by first | (simp; done) | (simp; omega)) _))), Lib.hid UpOf.of (by repeat (first | exact Below.refl _ _ | refine bl_tr ?_ _ | refine bl_al ?_ _ | refine bl_dr ?_ | refine bl_up ?_ _ | refine Below.drew ?_ | refine bl_alloc ?_ _ | refine Below.setCell ?_ (by first | (simp; done) | (simp; omega)) _))⟩ (fun V z => ?_)
  clear W1 W2 W3 N3 X6 X7 O8 O9 HR HT
  obtain ⟨⟨W1, W2, W3, N3, X6, X7, O8, O9⟩, HR, HT, HU⟩ := z
  refine wpg (R := fun U => Hid (Below V.heap.size V U)) (Lib.hid (Below.refl _ _)) (fun U0 BU0 => ?_)
  go_wp2_with fail
  refine (drawWareText_any A n c zs U0 HZ.out (HR.out.below BU0.out) hn4).mono ?_
  rintro e V1 ⟨t, Ab, cb, rfl, hrt, hn1, hn2, hu⟩
  have RT := Lib.hid hrt
  have B1 := Lib.hid (BU0.out.trans (hu.below.mono BU0.out.size))
  clear hrt hu BU0
  obtain ⟨T, hT⟩ : ∃ T, wText t = T := ⟨_, rfl⟩
  have hTb : T.size ≤ 1048576 := hT ▸ wText_bd hn1
  obtain ⟨hok, hback⟩ := text_back t
  have hrb := rw_bd (wText t)
  rw [hT] at hok hback hrb
  have HTT := Lib.hid hT
  clear hT
  have ci : ∀ (s : ByteArray) (x : Ware) (ok : Bool), rwR s = (x, ok) → s.size ≤ 1048576 → ∀ W, Tab W → Calls Tryd.prog 12 #[.string s] W fun e w' => ∃ A' c', e = .returned (.tuple #[.agg #[.string x.name, .slice A' x.brs.length c'], .bool ok]) ∧ w'.ownsRow W.heap.size 69 2 (.slice A' x.brs.length c') x.brs.length (bkcs x.brs) ∧ UpOf W w' := fun s x ok h hs W hW => by
    have := readWareI_any s W hs hW
    unfold rwPost at this
    rw [h] at this
    exact this
  have CI := Lib.hid ci
  clear ci
  obtain ⟨⟨bk, ok⟩, hrw⟩ : ∃ r, rwR T = r := ⟨_, rfl⟩
  rw [hrw] at hok hback hrb
  dsimp only at hok hback hrb
  have HRW := Lib.hid hrw
  have HBK := Lib.hid hback
  have HOK := Lib.hid hok
  clear hrw hback hok
  obtain ⟨hrb1, hrb2⟩ := hrb
  go_wp2_with fail
  refine cg (R := fun U => Hid (WAt U V1.heap.size 0 t Ab cb) ∧ Hid (Below V.heap.size V U)) ⟨Lib.hid ⟨by simp, World.cell?_alloc_new V1 #[.string t.name, .slice Ab t.brs.length cb] _ 0, World.cell?_alloc_new V1 #[.string t.name, .slice Ab t.brs.length cb] _ 1, RT.out.below (by repeat (first | exact Below.refl _ _ | refine bl_tr ?_ _ | refine bl_al ?_ _ | refine bl_dr ?_ | refine bl_up ?_ _ | refine Below.drew ?_ | refine bl_alloc ?_ _ | refine Below.setCell ?_ (by first | (simp; done) | (simp; omega)) _))⟩, Lib.hid (B1.out.trans (Below.mono (by repeat (first | exact Below.refl _ _ | refine bl_tr ?_ _ | refine bl_al ?_ _ | refine bl_dr ?_ | refine bl_up ?_ _ | refine Below.drew ?_ | refine bl_alloc ?_ _ | refine Below.setCell ?_ (by first | (simp; done) | (simp; omega)) _)) B1.out.size))⟩ (fun U1 z => ?_)
  obtain ⟨Q1, B2⟩ := z
  clear RT B1
  generalize V1.heap.size = q1 at *
  refine (wareTextI_any t Ab cb U1 Q1.out.2.2.2 (by omega) (by omega) (HT.out.below B2.out)).mono ?_
  rintro e w' ⟨rfl, g1, rfl⟩
  rw [HTT.out]
  go_wp2_with fail
  refine (CI.out T bk ok HRW.out hTb _ ((HT.out.below B2.out).below (by repeat (first | exact Below.refl _ _ | refine bl_tr ?_ _ | refine bl_al ?_ _ | refine bl_dr ?_ | refine bl_up ?_ _ | refine Below.drew ?_ | refine bl_alloc ?_ _ | refine Below.setCell ?_ (by first | (simp; done) | (simp; omega)) _)))).mono ?_
  rintro e V2 ⟨Ak, ck, rfl, ok2, hu2⟩
  have RK := Lib.hid (Rds.of_own ok2)
  have B3 := Lib.hid (B2.out.trans (Below.mono ((up_below U1 g1).trans (hu2.below.mono (up_below U1 g1).size)) B2.out.size))
  have Q1b := Lib.hid (Q1.out.below ((up_below U1 g1).trans (hu2.below.mono (up_below U1 g1).size)))
  clear ok2 hu2 B2 Q1
  go_wp2_with fail
  refine cg (R := fun U => Hid (WAt U q1 0 t Ab cb) ∧ Hid (WAt U V2.heap.size 0 bk Ak ck) ∧ Hid (Below V.heap.size V U)) ⟨Lib.hid (Q1b.out.below (by repeat (first | exact Below.refl _ _ | refine bl_tr ?_ _ | refine bl_al ?_ _ | refine bl_dr ?_ | refine bl_up ?_ _ | refine Below.drew ?_ | refine bl_alloc ?_ _ | refine Below.setCell ?_ (by first | (simp; done) | (simp; omega)) _))), Lib.hid ⟨by simp, World.cell?_alloc_new V2 #[.string bk.name, .slice Ak bk.brs.length ck] _ 0, World.cell?_alloc_new V2 #[.string bk.name, .slice Ak bk.brs.length ck] _ 1, RK.out.below (by repeat (first | exact Below.refl _ _ | refine bl_tr ?_ _ | refine bl_al ?_ _ | refine bl_dr ?_ | refine bl_up ?_ _ | refine Below.drew ?_ | refine bl_alloc ?_ _ | refine Below.setCell ?_ (by first | (simp; done) | (simp; omega)) _))⟩, Lib.hid (B3.out.trans (Below.mono (by repeat (first | exact Below.refl _ _ | refine bl_tr ?_ _ | refine bl_al ?_ _ | refine bl_dr ?_ | refine bl_up ?_ _ | refine Below.drew ?_ | refine bl_alloc ?_ _ | refine Below.setCell ?_ (by first | (simp; done) | (simp; omega)) _)) B3.out.size))⟩ (fun U2 z => ?_)
  obtain ⟨Q1, Q2, B4⟩ := z
  clear Q1b RK B3
  generalize V2.heap.size = q2 at *
  refine (drawReadWare_any A n c zs U2 HZ.out (HR.out.below B4.out) hn4).mono ?_
  rintro e w' ⟨S, rfl, hSb, g2, rfl⟩
  obtain ⟨⟨un, uk⟩, hrs⟩ : ∃ r, rwR S = r := ⟨_, rfl⟩
  have hrc := rw_bd S
  rw [hrs] at hrc
  dsimp only at hrc
  obtain ⟨hrc1, hrc2⟩ := hrc
  have HRS := Lib.hid hrs
  clear hrs
  go_wp2_with fail
  refine (CI.out S un uk HRS.out (by omega) _ ((HT.out.below B4.out).below (by repeat (first | exact Below.refl _ _ | refine bl_tr ?_ _ | refine bl_al ?_ _ | refine bl_dr ?_ | refine bl_up ?_ _ | refine Below.drew ?_ | refine bl_alloc ?_ _ | refine Below.setCell ?_ (by first | (simp; done) | (simp; omega)) _)))).mono ?_
  rintro e V3 ⟨Au, cu, rfl, ok3, hu3⟩
  have RU := Lib.hid (Rds.of_own ok3)
  have k3 := (up_below U2 g2).trans (hu3.below.mono (up_below U2 g2).size)
  have B5 := Lib.hid (B4.out.trans (Below.mono k3 B4.out.size))
  have Q1b := Lib.hid (Q1.out.below k3)
  have Q2b := Lib.hid (Q2.out.below k3)
  clear ok3 hu3 B4 Q1 Q2 k3
  go_wp2_with fail
  refine cg (R := fun U => Hid (WAt U q1 0 t Ab cb) ∧ Hid (WAt U q2 0 bk Ak ck) ∧ Hid (WAt U V3.heap.size 0 un Au cu) ∧ Hid (Below V.heap.size V U)) ⟨Lib.hid (Q1b.out.below (by repeat (first | exact Below.refl _ _ | refine bl_tr ?_ _ | refine bl_al ?_ _ | refine bl_dr ?_ | refine bl_up ?_ _ | refine Below.drew ?_ | refine bl_alloc ?_ _ | refine Below.setCell ?_ (by first | (simp; done) | (simp; omega)) _))), Lib.hid (Q2b.out.below (by repeat (first | exact Below.refl _ _ | refine bl_tr ?_ _ | refine bl_al ?_ _ | refine bl_dr ?_ | refine bl_up ?_ _ | refine Below.drew ?_ | refine bl_alloc ?_ _ | refine Below.setCell ?_ (by first | (simp; done) | (simp; omega)) _))), Lib.hid ⟨by simp, World.cell?_alloc_new V3 #[.string un.name, .slice Au un.brs.length cu] _ 0, World.cell?_alloc_new V3 #[.string un.name, .slice Au un.brs.length cu] _ 1, RU.out.below (by repeat (first | exact Below.refl _ _ | refine bl_tr ?_ _ | refine bl_al ?_ _ | refine bl_dr ?_ | refine bl_up ?_ _ | refine Below.drew ?_ | refine bl_alloc ?_ _ | refine Below.setCell ?_ (by first | (simp; done) | (simp; omega)) _))⟩, Lib.hid (B5.out.trans (Below.mono (by repeat (first | exact Below.refl _ _ | refine bl_tr ?_ _ | refine bl_al ?_ _ | refine bl_dr ?_ | refine bl_up ?_ _ | refine Below.drew ?_ | refine bl_alloc ?_ _ | refine Below.setCell ?_ (by first | (simp; done) | (simp; omega)) _)) B5.out.size))⟩ (fun U3 z => ?_)
  obtain ⟨Q1, Q2, Q3, B6⟩ := z
  clear Q1b Q2b RU B5
  generalize V3.heap.size = q3 at *
  have cs : ∀ W, Calls Tryd.prog 11 #[.string S] W fun e w' => ∃ A' c', e = .returned (.tuple #[.agg #[.string un.name, .slice A' un.brs.length c'], .bool uk]) ∧ w'.ownsRow W.heap.size 69 2 (.slice A' un.brs.length c') un.brs.length (bkcs un.brs) ∧ UpOf W w' := fun W => by
    have := readWareS_any S W (by omega)
    unfold rwPost at this
    rw [HRS.out] at this
    exact this
  refine (cs U3).mono ?_
  clear cs
  rintro e V4 ⟨Av, cv, rfl, ok4, hu4⟩
  have RV := Lib.hid (Rds.of_own ok4)
  have B7 := Lib.hid (B6.out.trans (hu4.below.mono B6.out.size))
  have Q1b := Lib.hid (Q1.out.below hu4.below)
  have Q2b := Lib.hid (Q2.out.below hu4.below)
  have Q3b := Lib.hid (Q3.out.below hu4.below)
  clear ok4 hu4 B6 Q1 Q2 Q3
  go_wp2_with fail
  refine cg (R := fun U => Hid (WAt U q1 0 t Ab cb) ∧ Hid (WAt U q2 0 bk Ak ck) ∧ Hid (WAt U q3 0 un Au cu) ∧ Hid (WAt U V4.heap.size 0 un Av cv) ∧ Hid (Below V.heap.size V U)) ⟨Lib.hid (Q1b.out.below (by repeat (first | exact Below.refl _ _ | refine bl_tr ?_ _ | refine bl_al ?_ _ | refine bl_dr ?_ | refine bl_up ?_ _ | refine Below.drew ?_ | refine bl_alloc ?_ _ | refine Below.setCell ?_ (by first | (simp; done) | (simp; omega)) _))), Lib.hid (Q2b.out.below (by repeat (first | exact Below.refl _ _ | refine bl_tr ?_ _ | refine bl_al ?_ _ | refine bl_dr ?_ | refine bl_up ?_ _ | refine Below.drew ?_ | refine bl_alloc ?_ _ | refine Below.setCell ?_ (by first | (simp; done) | (simp; omega)) _))), Lib.hid (Q3b.out.below (by repeat (first | exact Below.refl _ _ | refine bl_tr ?_ _ | refine bl_al ?_ _ | refine bl_dr ?_ | refine bl_up ?_ _ | refine Below.drew ?_ | refine bl_alloc ?_ _ | refine Below.setCell ?_ (by first | (simp; done) | (simp; omega)) _))), Lib.hid ⟨by simp, World.cell?_alloc_new V4 #[.string un.name, .slice Av un.brs.length cv] _ 0, World.cell?_alloc_new V4 #[.string un.name, .slice Av un.brs.length cv] _ 1, RV.out.below (by repeat (first | exact Below.refl _ _ | refine bl_tr ?_ _ | refine bl_al ?_ _ | refine bl_dr ?_ | refine bl_up ?_ _ | refine Below.drew ?_ | refine bl_alloc ?_ _ | refine Below.setCell ?_ (by first | (simp; done) | (simp; omega)) _))⟩, Lib.hid (B7.out.trans (Below.mono (by repeat (first | exact Below.refl _ _ | refine bl_tr ?_ _ | refine bl_al ?_ _ | refine bl_dr ?_ | refine bl_up ?_ _ | refine Below.drew ?_ | refine bl_alloc ?_ _ | refine Below.setCell ?_ (by first | (simp; done) | (simp; omega)) _)) B7.out.size))⟩ (fun U4 z => ?_)
  obtain ⟨Q1, Q2, Q3, Q4, B8⟩ := z
  clear Q1b Q2b Q3b RV B7
  generalize V4.heap.size = q4 at *
  refine (drawSame_any A n c zs U4 HZ.out (HR.out.below B8.out) hn4).mono ?_
  rintro e V5 ⟨x9, B9, d9, y9, C9, e9, rfl, hx9, hy9, hsx, hsy, hlx, hly, hu5⟩
  have X9 := Lib.hid hx9
  have Y9 := Lib.hid hy9
  have FX9 := Lib.hid (hsx.bdK (by omega))
  have FY9 := Lib.hid (hsy.bdK (by omega))
  have B9' := Lib.hid (B8.out.trans (hu5.below.mono B8.out.size))
  have Q1b := Lib.hid (Q1.out.below hu5.below)
  have Q2b := Lib.hid (Q2.out.below hu5.below)
  have Q3b := Lib.hid (Q3.out.below hu5.below)
  have Q4b := Lib.hid (Q4.out.below hu5.below)
  clear hx9 hy9 hsx hsy hu5 B8 Q1 Q2 Q3 Q4
  go_upto_region 24 with (fail)
  have q10 : (b2 != b2) = false := by simp
  have q11 : (b0 != b0) = false := by simp
  have q12 : (b1 != b1) = false := by simp
  have q13 : (t1 != t1) = false := by simp
  have q14 : (t0 != t0) = false := by simp
  have q15 : (s1 != s1) = false := by simp
  have q16 : (s0 != s0) = false := by simp
  have q17 : (xc != xc) = false := by simp
  have q18 : (oc != oc) = false := by simp
  have q19 : (uk != uk) = false := by simp
  have q20 : (T.toList == T.toList) = true := by simp
  have q21 : (vWares l != vWares l) = false := by simp
  obtain ⟨r9, hr9⟩ : ∃ r, sameR x9 y9 = r := ⟨_, rfl⟩
  have HR9 := Lib.hid hr9
  clear hr9
  have q22 : (r9 != r9) = false := by simp
  go_cut [280] (fun z U => z = .bool false ∧ ∃ g : Up V5, U = up V5 g)
  case first =>
   as_aux_lemma =>
    go_wp2_with fail
    refine (sameSK (Lib.hid (sameR_refl X)) X.length X.length rfl rfl _ ((X6.out.below B9'.out).below (by repeat (first | exact Below.refl _ _ | refine bl_tr ?_ _ | refine bl_al ?_ _ | refine bl_dr ?_ | refine bl_up ?_ _ | refine Below.drew ?_ | refine bl_alloc ?_ _ | refine Below.setCell ?_ (by first | (simp; done) | (simp; omega)) _))) ((X7.out.below B9'.out).below (by repeat (first | exact Below.refl _ _ | refine bl_tr ?_ _ | refine bl_al ?_ _ | refine bl_dr ?_ | refine bl_up ?_ _ | refine Below.drew ?_ | refine bl_alloc ?_ _ | refine Below.setCell ?_ (by first | (simp; done) | (simp; omega)) _))) FX.out FX.out (by omega) (by omega)).mono ?_
    rintro e w' ⟨rfl, g3, rfl⟩
    go_wp2_with fail
    refine (f6ints_same A8 A9 c8 c9 O _ ((O8.out.below B9'.out).below (by repeat (first | exact Below.refl _ _ | refine bl_tr ?_ _ | refine bl_al ?_ _ | refine bl_dr ?_ | refine bl_up ?_ _ | refine Below.drew ?_ | refine bl_alloc ?_ _ | refine Below.setCell ?_ (by first | (simp; done) | (simp; omega)) _))) ((O9.out.below B9'.out).below (by repeat (first | exact Below.refl _ _ | refine bl_tr ?_ _ | refine bl_al ?_ _ | refine bl_dr ?_ | refine bl_up ?_ _ | refine Below.drew ?_ | refine bl_alloc ?_ _ | refine Below.setCell ?_ (by first | (simp; done) | (simp; omega)) _))) (by omega)).mono ?_
    rintro e w' ⟨rfl, g4, rfl⟩
    obtain ⟨q1l, q1a, q1b, q1c⟩ := Q1b.out
    have RQ1 := Lib.hid q1c
    clear q1c
    rw [Nat.zero_add] at q1b
    go_wp2_with fail
    refine (wareTextS_any t Ab cb _ (RQ1.out.below (by repeat (first | exact Below.refl _ _ | refine bl_tr ?_ _ | refine bl_al ?_ _ | refine bl_dr ?_ | refine bl_up ?_ _ | refine Below.drew ?_ | refine bl_alloc ?_ _ | refine Below.setCell ?_ (by first | (simp; done) | (simp; omega)) _))) (by omega) (by omega)).mono ?_
    rintro e w' ⟨rfl, g5, rfl⟩
    rw [HTT.out]
    cases ok with
    | true =>
      have hE : T.toList.isEmpty = false := by have := HOK.out; cases h9 : T.toList.isEmpty with | false => rfl | true => rw [h9] at this; cases this
      obtain rfl : bk = t := HBK.out rfl
      obtain ⟨q2l, q2a, q2b, q2c⟩ := Q2b.out
      have RQ2 := Lib.hid q2c
      clear q2c
      rw [Nat.zero_add] at q2b
      go_wp2_with fail
      refine (sameSK (Lib.hid (sameR_refl [bk])) 1 1 rfl rfl _ (wsee_two RQ2.out RQ1.out).1 (wsee_two RQ2.out RQ1.out).2 (one_bd hrb2 (by omega)) (one_bd hrb2 (by omega)) (by omega) (by omega)).mono ?_
      rintro e w' ⟨rfl, g6, rfl⟩
      clear q2l q2a q2b
      obtain ⟨q3l, q3a, q3b, q3c⟩ := Q3b.out
      obtain ⟨q4l, q4a, q4b, q4c⟩ := Q4b.out
      have RQ3 := Lib.hid q3c
      have RQ4 := Lib.hid q4c
      clear q3c q4c
      rw [Nat.zero_add] at q3b q4b
      go_wp2_with fail
      refine (sameSK (Lib.hid (sameR_refl [un])) 1 1 rfl rfl _ (wsee_two RQ3.out RQ4.out).1 (wsee_two RQ3.out RQ4.out).2 (one_bd hrc2 (by omega)) (one_bd hrc2 (by omega)) (by omega) (by omega)).mono ?_
      rintro e w' ⟨rfl, g7, rfl⟩
      go_wp2_with fail
      refine (sameIK HR9 _ (X9.out.below (by repeat (first | exact Below.refl _ _ | refine bl_tr ?_ _ | refine bl_al ?_ _ | refine bl_dr ?_ | refine bl_up ?_ _ | refine Below.drew ?_ | refine bl_alloc ?_ _ | refine Below.setCell ?_ (by first | (simp; done) | (simp; omega)) _))) (Y9.out.below (by repeat (first | exact Below.refl _ _ | refine bl_tr ?_ _ | refine bl_al ?_ _ | refine bl_dr ?_ | refine bl_up ?_ _ | refine Below.drew ?_ | refine bl_alloc ?_ _ | refine Below.setCell ?_ (by first | (simp; done) | (simp; omega)) _))) FX9.out FY9.out (by omega) (by omega)).mono ?_
      rintro e w' ⟨rfl, g8, rfl⟩
      go_wp2_with fail
      refine (sameSK HR9 x9.length y9.length rfl rfl _ (X9.out.below (by repeat (first | exact Below.refl _ _ | refine bl_tr ?_ _ | refine bl_al ?_ _ | refine bl_dr ?_ | refine bl_up ?_ _ | refine Below.drew ?_ | refine bl_alloc ?_ _ | refine Below.setCell ?_ (by first | (simp; done) | (simp; omega)) _))) (Y9.out.below (by repeat (first | exact Below.refl _ _ | refine bl_tr ?_ _ | refine bl_al ?_ _ | refine bl_dr ?_ | refine bl_up ?_ _ | refine Below.drew ?_ | refine bl_alloc ?_ _ | refine Below.setCell ?_ (by first | (simp; done) | (simp; omega)) _))) FX9.out FY9.out (by omega) (by omega)).mono ?_
      rintro e w' ⟨rfl, g9, rfl⟩
      go_wp2_with fail
      refine (validWares_any _ _ _ _ ((W1.out.below B9'.out).below (by repeat (first | exact Below.refl _ _ | refine bl_tr ?_ _ | refine bl_al ?_ _ | refine bl_dr ?_ | refine bl_up ?_ _ | refine Below.drew ?_ | refine bl_alloc ?_ _ | refine Below.setCell ?_ (by first | (simp; done) | (simp; omega)) _))) (by omega) F1.out).mono ?_
      rintro e w' ⟨rfl, g10, rfl⟩
      go_wp2_with fail
      refine (specValidK _ _ _ _ ((W1.out.below B9'.out).below (by repeat (first | exact Below.refl _ _ | refine bl_tr ?_ _ | refine bl_al ?_ _ | refine bl_dr ?_ | refine bl_up ?_ _ | refine Below.drew ?_ | refine bl_alloc ?_ _ | refine Below.setCell ?_ (by first | (simp; done) | (simp; omega)) _))) (by omega) F1.out).mono ?_
      rintro e w' ⟨rfl, g11, rfl⟩
      go_wp2_with fail
      go_meet
      exact ⟨rfl, ex_up (by repeat (first | exact Below.refl _ _ | refine bl_tr ?_ _ | refine bl_al ?_ _ | refine bl_dr ?_ | refine bl_up ?_ _ | refine Below.drew ?_ | refine bl_alloc ?_ _ | refine Below.setCell ?_ (by first | (simp; done) | (simp; omega)) _))⟩
    | false =>
      have hE : T.toList.isEmpty = true := by have := HOK.out; cases h9 : T.toList.isEmpty with | true => rfl | false => rw [h9] at this; cases this
      obtain ⟨q3l, q3a, q3b, q3c⟩ := Q3b.out
      obtain ⟨q4l, q4a, q4b, q4c⟩ := Q4b.out
      have RQ3 := Lib.hid q3c
      have RQ4 := Lib.hid q4c
      clear q3c q4c
      rw [Nat.zero_add] at q3b q4b
      go_wp2_with fail
      refine (sameSK (Lib.hid (sameR_refl [un])) 1 1 rfl rfl _ (wsee_two RQ3.out RQ4.out).1 (wsee_two RQ3.out RQ4.out).2 (one_bd hrc2 (by omega)) (one_bd hrc2 (by omega)) (by omega) (by omega)).mono ?_
      rintro e w' ⟨rfl, g7, rfl⟩
      go_wp2_with fail
      refine (sameIK HR9 _ (X9.out.below (by repeat (first | exact Below.refl _ _ | refine bl_tr ?_ _ | refine bl_al ?_ _ | refine bl_dr ?_ | refine bl_up ?_ _ | refine Below.drew ?_ | refine bl_alloc ?_ _ | refine Below.setCell ?_ (by first | (simp; done) | (simp; omega)) _))) (Y9.out.below (by repeat (first | exact Below.refl _ _ | refine bl_tr ?_ _ | refine bl_al ?_ _ | refine bl_dr ?_ | refine bl_up ?_ _ | refine Below.drew ?_ | refine bl_alloc ?_ _ | refine Below.setCell ?_ (by first | (simp; done) | (simp; omega)) _))) FX9.out FY9.out (by omega) (by omega)).mono ?_
      rintro e w' ⟨rfl, g8, rfl⟩
      go_wp2_with fail
      refine (sameSK HR9 x9.length y9.length rfl rfl _ (X9.out.below (by repeat (first | exact Below.refl _ _ | refine bl_tr ?_ _ | refine bl_al ?_ _ | refine bl_dr ?_ | refine bl_up ?_ _ | refine Below.drew ?_ | refine bl_alloc ?_ _ | refine Below.setCell ?_ (by first | (simp; done) | (simp; omega)) _))) (Y9.out.below (by repeat (first | exact Below.refl _ _ | refine bl_tr ?_ _ | refine bl_al ?_ _ | refine bl_dr ?_ | refine bl_up ?_ _ | refine Below.drew ?_ | refine bl_alloc ?_ _ | refine Below.setCell ?_ (by first | (simp; done) | (simp; omega)) _))) FX9.out FY9.out (by omega) (by omega)).mono ?_
      rintro e w' ⟨rfl, g9, rfl⟩
      go_wp2_with fail
      refine (validWares_any _ _ _ _ ((W1.out.below B9'.out).below (by repeat (first | exact Below.refl _ _ | refine bl_tr ?_ _ | refine bl_al ?_ _ | refine bl_dr ?_ | refine bl_up ?_ _ | refine Below.drew ?_ | refine bl_alloc ?_ _ | refine Below.setCell ?_ (by first | (simp; done) | (simp; omega)) _))) (by omega) F1.out).mono ?_
      rintro e w' ⟨rfl, g10, rfl⟩
      go_wp2_with fail
      refine (specValidK _ _ _ _ ((W1.out.below B9'.out).below (by repeat (first | exact Below.refl _ _ | refine bl_tr ?_ _ | refine bl_al ?_ _ | refine bl_dr ?_ | refine bl_up ?_ _ | refine Below.drew ?_ | refine bl_alloc ?_ _ | refine Below.setCell ?_ (by first | (simp; done) | (simp; omega)) _))) (by omega) F1.out).mono ?_
      rintro e w' ⟨rfl, g11, rfl⟩
      go_wp2_with fail
      go_meet
      exact ⟨rfl, ex_up (by repeat (first | exact Below.refl _ _ | refine bl_tr ?_ _ | refine bl_al ?_ _ | refine bl_dr ?_ | refine bl_up ?_ _ | refine Below.drew ?_ | refine bl_alloc ?_ _ | refine Below.setCell ?_ (by first | (simp; done) | (simp; omega)) _))⟩
  case rest =>
    obtain ⟨rfl, g9, rfl⟩ := hcut
    clear q10 q11 q12 q13 q14 q15 q16 q17 q18 q19 q20 q21 q22 HR9 X9 Y9 FX9 FY9 Q1b Q2b Q3b Q4b HTT HRW HBK HOK HRS CI X6 X7 O8 O9 FX HT
    go_upto_region 26 with (fail)
    refine wpg (R := fun Y => Hid (WSee Y A1 l) ∧ Hid (WSee Y A2 l2) ∧ Hid (WSee Y A3 l3) ∧ Hid (Rds Y 1 A4 ms.length (ics ms)) ∧ Hid (UpOf w Y)) ⟨Lib.hid ((W1.out.below B9'.out).below (by repeat (first | exact Below.refl _ _ | refine bl_tr ?_ _ | refine bl_al ?_ _ | refine bl_dr ?_ | refine bl_up ?_ _ | refine Below.drew ?_ | refine bl_alloc ?_ _ | refine Below.setCell ?_ (by first | (simp; done) | (simp; omega)) _))), Lib.hid ((W2.out.below B9'.out).below (by repeat (first | exact Below.refl _ _ | refine bl_tr ?_ _ | refine bl_al ?_ _ | refine bl_dr ?_ | refine bl_up ?_ _ | refine Below.drew ?_ | refine bl_alloc ?_ _ | refine Below.setCell ?_ (by first | (simp; done) | (simp; omega)) _))), Lib.hid ((W3.out.below B9'.out).below (by repeat (first | exact Below.refl _ _ | refine bl_tr ?_ _ | refine bl_al ?_ _ | refine bl_dr ?_ | refine bl_up ?_ _ | refine Below.drew ?_ | refine bl_alloc ?_ _ | refine Below.setCell ?_ (by first | (simp; done) | (simp; omega)) _))), Lib.hid ((N3.out.below B9'.out).below (by repeat (first | exact Below.refl _ _ | refine bl_tr ?_ _ | refine bl_al ?_ _ | refine bl_dr ?_ | refine bl_up ?_ _ | refine Below.drew ?_ | refine bl_alloc ?_ _ | refine Below.setCell ?_ (by first | (simp; done) | (simp; omega)) _))), Lib.hid ((HU.out.tr B9'.out).tr (by repeat (first | exact Below.refl _ _ | refine bl_tr ?_ _ | refine bl_al ?_ _ | refine bl_dr ?_ | refine bl_up ?_ _ | refine Below.drew ?_ | refine bl_alloc ?_ _ | refine Below.setCell ?_ (by first | (simp; done) | (simp; omega)) _)))⟩ (fun Y z => ?_)
    clear W1 W2 W3 N3 HU B9' HR
    obtain ⟨W1, W2, W3, N3, HU⟩ := z
    go_upto_if 282 with (fail)
    go_cut [] (fun U => ∃ g : Up Y, U = up Y g)
    case first =>
     as_aux_lemma =>
      by_cases h1 : t1 = 0
      · obtain ⟨⟨a1, a2⟩, a3, a4, a5⟩ := most_law (l := l2) (k := k2) (c := m2) (by rw [HM.out]; exact h1)
        rw [HM.out] at a1 a2 a3 a4 a5
        dsimp only at a1 a2 a3 a4 a5
        obtain ⟨p0, p1, hP⟩ : ∃ p0 p1, priceR l2 k2 t0 = (p0, p1) := ⟨_, _, rfl⟩
        rw [hP] at a3 a4
        dsimp only at a3 a4
        subst a3
        subst h1
        have HP := Lib.hid hP
        have a6 : ¬ m2 < p0 := by omega
        clear hP
        by_cases hlt : t0 < 1000
        · obtain ⟨a7, a8⟩ := a5 hlt
          obtain ⟨r0, r1, hQ⟩ : ∃ r0 r1, priceR l2 k2 (t0 + 1) = (r0, r1) := ⟨_, _, rfl⟩
          rw [hQ] at a7 a8
          dsimp only at a7 a8
          subst a7
          have HQ := Lib.hid hQ
          have a9 : ¬ r0 ≤ m2 := by omega
          have hw : IntKind.i64.wrap (t0 + 1) = t0 + 1 := by rw [IntKind.wrap_i64]; omega
          clear hQ a5
          go_wp2_with fail
          refine (priceIK HP _ (W2.out.below (by repeat (first | exact Below.refl _ _ | refine bl_tr ?_ _ | refine bl_al ?_ _ | refine bl_dr ?_ | refine bl_up ?_ _ | refine Below.drew ?_ | refine bl_alloc ?_ _ | refine Below.setCell ?_ (by first | (simp; done) | (simp; omega)) _))) F2.out (by omega)).mono ?_
          rintro e w' ⟨rfl, g1, rfl⟩
          go_wp2_with fail
          refine (priceIK HQ _ (W2.out.below (by repeat (first | exact Below.refl _ _ | refine bl_tr ?_ _ | refine bl_al ?_ _ | refine bl_dr ?_ | refine bl_up ?_ _ | refine Below.drew ?_ | refine bl_alloc ?_ _ | refine Below.setCell ?_ (by first | (simp; done) | (simp; omega)) _))) F2.out (by omega)).mono ?_
          rintro e w' ⟨rfl, g2, rfl⟩
          go_wp2_with fail
          go_meet
          exact ex_up (by repeat (first | exact Below.refl _ _ | refine bl_tr ?_ _ | refine bl_al ?_ _ | refine bl_dr ?_ | refine bl_up ?_ _ | refine Below.drew ?_ | refine bl_alloc ?_ _ | refine Below.setCell ?_ (by first | (simp; done) | (simp; omega)) _))
        · clear a5
          go_wp2_with fail
          refine (priceIK HP _ (W2.out.below (by repeat (first | exact Below.refl _ _ | refine bl_tr ?_ _ | refine bl_al ?_ _ | refine bl_dr ?_ | refine bl_up ?_ _ | refine Below.drew ?_ | refine bl_alloc ?_ _ | refine Below.setCell ?_ (by first | (simp; done) | (simp; omega)) _))) F2.out (by omega)).mono ?_
          rintro e w' ⟨rfl, g1, rfl⟩
          go_wp2_with fail
          go_meet
          exact ex_up (by repeat (first | exact Below.refl _ _ | refine bl_tr ?_ _ | refine bl_al ?_ _ | refine bl_dr ?_ | refine bl_up ?_ _ | refine Below.drew ?_ | refine bl_alloc ?_ _ | refine Below.setCell ?_ (by first | (simp; done) | (simp; omega)) _))
      · have h1' : (t1 == 0) = false := by rw [beq_eq_false_iff_ne]; exact h1
        go_wp2_with fail
        go_meet
        exact ex_up (by repeat (first | exact Below.refl _ _ | refine bl_tr ?_ _ | refine bl_al ?_ _ | refine bl_dr ?_ | refine bl_up ?_ _ | refine Below.drew ?_ | refine bl_alloc ?_ _ | refine Below.setCell ?_ (by first | (simp; done) | (simp; omega)) _))
    case rest =>
      obtain ⟨g1, rfl⟩ := hcut
      clear HM W2 F2
      go_upto_if 315 with (fail)
      go_cut [] (fun U => ∃ g : Up Y, U = up Y g)
      case first =>
       as_aux_lemma =>
        by_cases h2 : s1 = 0
        · have hz : (bskR l3 ms).2 = 0 := by rw [HB.out]; exact h2
          obtain ⟨a1, a2, a3, a4⟩ := bsk_law hz
          rw [HB.out] at a2
          have hwr := Lib.hid (bsk_wr hz)
          have HA := Lib.hid a3
          have a5 : (bsk l3 ms l3.length != s0) = false := by dsimp only at a2; rw [← a2]; simp
          have A1L := Lib.hid a1
          have h2' : (s1 == 0) = true := by rw [beq_iff_eq]; exact h2
          clear a1 a3 a2 hz h2
          go_wp2_with fail
          rw [h2']
          go_loopw [50, 51] (fun s ii wr => ∃ (i : Nat) (S : Int), i ≤ l3.length ∧ ii = i64 i ∧ s = i64 S ∧ Hid (bsk l3 ms i = S) ∧ ∃ g : Up Y, wr = up Y g) (fun _ ii _ => l3.length - (intOf ii).toNat)
          case atStart => exact ⟨0, 0, by omega, rfl, rfl, Lib.hid rfl, ex_up (by repeat (first | exact Below.refl _ _ | refine bl_tr ?_ _ | refine bl_al ?_ _ | refine bl_dr ?_ | refine bl_up ?_ _ | refine Below.drew ?_ | refine bl_alloc ?_ _ | refine Below.setCell ?_ (by first | (simp; done) | (simp; omega)) _))⟩
          case round =>
            obtain ⟨i, S, hi, rfl, rfl, hbS, g2, rfl⟩ := hrel
            by_cases hlt : i < l3.length
            · have hlt' : (i : Int) < (l3.length : Int) := by omega
              have hlt3 : i < ms.length := by have := A1L.out; omega
              have hlt2 : (i : Int) < (ms.length : Int) := by omega
              obtain ⟨b5, off5, rfl, hb5, hc5⟩ := N3.out.at (by omega)
              have c0 := hc5 i _ (ics_get hlt3)
              rw [iat_eq hlt3] at c0
              obtain ⟨a6, a7, a8⟩ := HA.out i hlt
              have hb1 := hwr.out (i + 1) (by omega)
              have hb2 : bsk l3 ms (i + 1) = bsk l3 ms i + prc (wat l3 i) (iat ms i) := rfl
              rw [hb2, hbS.out] at hb1
              rw [hbS.out] at hb2
              obtain ⟨P, hPe⟩ : ∃ P, prc (wat l3 i) (iat ms i) = P := ⟨_, rfl⟩
              rw [hPe] at a6 hb1 hb2
              have HP := Lib.hid a6
              have HB2 := Lib.hid hb2
              have hS : IntKind.i64.wrap (S + P) = S + P := by rw [IntKind.wrap_i64]; omega
              clear a6 a7 a8 hb1 hb2 hPe hc5 hbS
              go_wp2_with fail
              refine (priceIK HP _ (W3.out.below (by repeat (first | exact Below.refl _ _ | refine bl_tr ?_ _ | refine bl_al ?_ _ | refine bl_dr ?_ | refine bl_up ?_ _ | refine Below.drew ?_ | refine bl_alloc ?_ _ | refine Below.setCell ?_ (by first | (simp; done) | (simp; omega)) _))) F3.out (by omega)).mono ?_
              rintro e w' ⟨rfl, g3, rfl⟩
              go_wp2_with fail
              go_roundw
              case rel => exact ⟨i + 1, S + P, by omega, by go_num, rfl, HB2, ex_up (by repeat (first | exact Below.refl _ _ | refine bl_tr ?_ _ | refine bl_al ?_ _ | refine bl_dr ?_ | refine bl_up ?_ _ | refine Below.drew ?_ | refine bl_alloc ?_ _ | refine Below.setCell ?_ (by first | (simp; done) | (simp; omega)) _))⟩
              case measure => (simp [intOf]; try omega)
            · obtain rfl : i = l3.length := by omega
              rw [hbS.out] at a5
              go_wp2_with fail
              go_meet
              exact ex_up (by repeat (first | exact Below.refl _ _ | refine bl_tr ?_ _ | refine bl_al ?_ _ | refine bl_dr ?_ | refine bl_up ?_ _ | refine Below.drew ?_ | refine bl_alloc ?_ _ | refine Below.setCell ?_ (by first | (simp; done) | (simp; omega)) _))
        · have h2' : (s1 == 0) = false := by rw [beq_eq_false_iff_ne]; exact h2
          go_wp2_with fail
          go_meet
          exact ex_up (by repeat (first | exact Below.refl _ _ | refine bl_tr ?_ _ | refine bl_al ?_ _ | refine bl_dr ?_ | refine bl_up ?_ _ | refine Below.drew ?_ | refine bl_alloc ?_ _ | refine Below.setCell ?_ (by first | (simp; done) | (simp; omega)) _))
      case rest =>
       as_aux_lemma =>
        obtain ⟨g2, rfl⟩ := hcut
        clear W3 N3 F3 HB
        by_cases h3 : b2 = 0
        · obtain ⟨a1, a2, a3, a4⟩ := cheap_law (l := l) (k := k) (m := m) (by rw [HC.out]; exact h3)
          rw [HC.out] at a1 a3 a4
          dsimp only at a1 a3 a4
          obtain ⟨p0, p1, hP⟩ : ∃ p0 p1, priceR l k m = (p0, p1) := ⟨_, _, rfl⟩
          rw [hP] at a2 a3
          dsimp only at a2 a3
          subst a2
          subst h3
          have HP := Lib.hid hP
          have HQ := Lib.hid a4
          have a5 : (b1 == b1) = true := by simp
          clear hP a4
          go_wp2_with fail
          refine (priceIK HP _ (W1.out.below (by repeat (first | exact Below.refl _ _ | refine bl_tr ?_ _ | refine bl_al ?_ _ | refine bl_dr ?_ | refine bl_up ?_ _ | refine Below.drew ?_ | refine bl_alloc ?_ _ | refine Below.setCell ?_ (by first | (simp; done) | (simp; omega)) _))) F1.out (by omega)).mono ?_
          rintro e w' ⟨rfl, g3, rfl⟩
          go_wp2_with fail
          refine (priceIK HQ _ (W1.out.below (by repeat (first | exact Below.refl _ _ | refine bl_tr ?_ _ | refine bl_al ?_ _ | refine bl_dr ?_ | refine bl_up ?_ _ | refine Below.drew ?_ | refine bl_alloc ?_ _ | refine Below.setCell ?_ (by first | (simp; done) | (simp; omega)) _))) F1.out (by omega)).mono ?_
          rintro e w' ⟨rfl, g4, rfl⟩
          go_wp2_with fail
          go_ret
          exact ⟨rfl, HU.out.tr (by repeat (first | exact Below.refl _ _ | refine bl_tr ?_ _ | refine bl_al ?_ _ | refine bl_dr ?_ | refine bl_up ?_ _ | refine Below.drew ?_ | refine bl_alloc ?_ _ | refine Below.setCell ?_ (by first | (simp; done) | (simp; omega)) _))⟩
        · have h3' : (b2 != 0) = true := by simp [h3]
          go_wp2_with fail
          go_ret
          exact ⟨rfl, HU.out.tr (by repeat (first | exact Below.refl _ _ | refine bl_tr ?_ _ | refine bl_al ?_ _ | refine bl_dr ?_ | refine bl_up ?_ _ | refine Below.drew ?_ | refine bl_alloc ?_ _ | refine Below.setCell ?_ (by first | (simp; done) | (simp; omega)) _))⟩
end Go.Proofs.YtiibpldfnnhhlaaDoor

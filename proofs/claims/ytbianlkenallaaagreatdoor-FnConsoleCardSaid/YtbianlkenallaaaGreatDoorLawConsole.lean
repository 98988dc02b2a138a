/-
  The law FnConsole: its walk. Premise on the world: the laid table.
-/
import Derived.Test.YtbianlkenallaaaGreatDoorRunDesk
import Derived.Test.YtbianlkenallaaaGreatDoorDrawLine
import Derived.Test.YtbianlkenallaaaGreatDoorMgC
import Derived.Deep.DeepCutAuto
set_option linter.all false
namespace Go.Proofs.YtbianlkenallaaaGreatDoor
open Go.RowKit
def longC (n m : Nat) : Bool := decide (3000 < n ∨ 3000 < m)
set_option maxRecDepth 10000 in
theorem a2LongC_any (A B : Option Addr) (n m c d : Nat) (w : World) (hn : n ≤ 9223372036854775807) (hm : m ≤ 9223372036854775807) :
    Calls Tryz.prog 6 #[.slice A n c, .slice B m d] w fun e w' => e = .returned (.bool (longC n m)) ∧ UpOf w w' := by
  by_cases h1 : (3000 : Int) < n
  · have hd := Lib.hid (show longC n m = true from decide_eq_true (by omega))
    go_enter Tryz.func6, Tryz.ntmps6
    go_wp2_with (first | ((with_reducible refine wp_region_up (by kernel_rfl) (by kernel_rfl) ?_); (repeat (go_big_quiet_step (fail))); refine wpQuiet_nil ?_; intro _ hw'; obtain ⟨nq, hw''⟩ := hw'; subst hw''))
    go_ret
    exact ⟨ret_bool hd.out.symm, UpOf.of (BL.o (by repeat constructor))⟩
  · by_cases h2 : (3000 : Int) < m
    · have hd := Lib.hid (show longC n m = true from decide_eq_true (by omega))
      go_enter Tryz.func6, Tryz.ntmps6
      go_wp2_with (first | ((with_reducible refine wp_region_up (by kernel_rfl) (by kernel_rfl) ?_); (repeat (go_big_quiet_step (fail))); refine wpQuiet_nil ?_; intro _ hw'; obtain ⟨nq, hw''⟩ := hw'; subst hw''))
      go_ret
      exact ⟨ret_bool hd.out.symm, UpOf.of (BL.o (by repeat constructor))⟩
    · have hd := Lib.hid (show longC n m = false from decide_eq_false (by omega))
      go_enter Tryz.func6, Tryz.ntmps6
      go_wp2_with (first | ((with_reducible refine wp_region_up (by kernel_rfl) (by kernel_rfl) ?_); (repeat (go_big_quiet_step (fail))); refine wpQuiet_nil ?_; intro _ hw'; obtain ⟨nq, hw''⟩ := hw'; subst hw''))
      go_ret
      exact ⟨ret_bool hd.out.symm, UpOf.of (BL.o (by repeat constructor))⟩
/-- the state of the law: the desk at p, the lines -/
structure LC (w V : World) (p : Nat) (D : DeskD) (A1 B1 : Option Addr) (c1 e1 : Nat) (X : Option Addr) (nX : Nat) (L : List ByteArray) : Prop where
  bx : Blk V p 31 (dkcs D A1 B1 c1 e1)
  dw : DOwn w.heap.size V D A1 B1 c1 e1
  lw : V.ownsRow w.heap.size 9 1 (.slice X L.length nX) L.length (strs L)
  up : UpOf w V
  hp : w.heap.size ≤ p
section
variable {w V V' : World} {p : Nat} {D : DeskD} {A1 B1 : Option Addr} {c1 e1 : Nat} {X : Option Addr} {nX : Nat} {L : List ByteArray}
theorem LC.below (h : LC w V p D A1 B1 c1 e1 X nX L) (hb : Below V.heap.size V V') : LC w V' p D A1 B1 c1 e1 X nX L :=
  ⟨h.bx.up ⟨V', hb⟩, ⟨own_below h.dw.1 hb, own_below h.dw.2 hb⟩, own_below h.lw hb, h.up.tr hb, h.hp⟩
theorem LC.put {D' : DeskD} {A' B' : Option Addr} {c' e' : Nat} (h : LC w V p D A1 B1 c1 e1 X nX L) (hd : DOwn w.heap.size V D' A' B' c' e') :
    LC w (put8 V p (i64 D'.b.bars) (i64 D'.b.rise) (i64 D'.b.fall) (i64 D'.b.clr) (i64 D'.b.near) (.slice A' D'.stops.length c') (.slice B' D'.drills.length e') (.string D'.log)) p D' A' B' c' e' X nX L :=
  ⟨blk_all8 h.bx _ _ _ _ _ _ _ _, ⟨own_put8 hd.1 h.bx (by decide) _ _ _ _ _ _ _ _, own_put8 hd.2 h.bx (by decide) _ _ _ _ _ _ _ _⟩, own_put8 h.lw h.bx (by decide) _ _ _ _ _ _ _ _, put8_up h.up h.hp _ _ _ _ _ _ _ _, h.hp⟩
theorem LC.far {q : Nat} {cs : Array Value} (h : LC w V p D A1 B1 c1 e1 X nX L) (hb : Blk V q 31 cs) (hq : p < q ∧ w.heap.size ≤ q) (u0 u1 u2 u3 u4 u5 u6 u7 : Value) : LC w (put8 V q u0 u1 u2 u3 u4 u5 u6 u7) p D A1 B1 c1 e1 X nX L :=
  ⟨(put8_far V (by omega) _ _ _ _ _ _ _ _).trans h.bx, ⟨own_put8 h.dw.1 hb (by decide) _ _ _ _ _ _ _ _, own_put8 h.dw.2 hb (by decide) _ _ _ _ _ _ _ _⟩, own_put8 h.lw hb (by decide) _ _ _ _ _ _ _ _, put8_up h.up hq.2 _ _ _ _ _ _ _ _, h.hp⟩
/-- what region 11 loads -/
theorem LC.cel {bX oX k : Nat} (h : LC w V p D A1 B1 c1 e1 (some ⟨bX, oX, none⟩) nX L) (hk : k < L.length) : (V.cell? ⟨p, 0, none⟩ = some (i64 D.b.bars) ∧ V.cell? ⟨p, 1, none⟩ = some (i64 D.b.rise) ∧ V.cell? ⟨p, 2, none⟩ = some (i64 D.b.fall) ∧ V.cell? ⟨p, 3, none⟩ = some (i64 D.b.clr) ∧ V.cell? ⟨p, 4, none⟩ = some (i64 D.b.near) ∧ V.cell? ⟨p, 5, none⟩ = some (.slice A1 D.stops.length c1) ∧ V.cell? ⟨p, 6, none⟩ = some (.slice B1 D.drills.length e1) ∧ V.cell? ⟨p, 7, none⟩ = some (.string D.log)) ∧ V.cell? ⟨bX, oX + k, none⟩ = some (.string (wd L k)) := by
  obtain ⟨b9, o9, e9, _, hc9⟩ := wd_at (Rds.of_own h.lw) hk
  injection e9 with e9
  injection e9 with e91 e92
  subst e91 e92
  exact ⟨h.bx.eight.2, hc9 k hk⟩
end
/-- behind the command: the new box q -/
structure LQ (w V : World) (p : Nat) (D : DeskD) (A1 B1 : Option Addr) (c1 e1 : Nat) (X : Option Addr) (nX : Nat) (L : List ByteArray) (q : Nat) (D2 : DeskD) (A2 B2 : Option Addr) (c2 e2 : Nat) (Y : Option Addr) (nY : Nat) (L2 : List ByteArray) : Prop where
  l : LC w V p D A1 B1 c1 e1 X nX L
  bq : Blk V q 31 (dkcs D2 A2 B2 c2 e2)
  dq : DOwn w.heap.size V D2 A2 B2 c2 e2
  ow : V.ownsRow w.heap.size 9 1 (.slice Y L2.length nY) L2.length (strs L2)
  hq : w.heap.size ≤ q
section
variable {w V V' : World} {p : Nat} {D : DeskD} {A1 B1 : Option Addr} {c1 e1 : Nat} {X : Option Addr} {nX : Nat} {L : List ByteArray} {q : Nat} {D2 : DeskD} {A2 B2 : Option Addr} {c2 e2 : Nat} {Y : Option Addr} {nY : Nat} {L2 : List ByteArray}
theorem LQ.below (h : LQ w V p D A1 B1 c1 e1 X nX L q D2 A2 B2 c2 e2 Y nY L2) (hb : Below V.heap.size V V') : LQ w V' p D A1 B1 c1 e1 X nX L q D2 A2 B2 c2 e2 Y nY L2 :=
  ⟨h.l.below hb, h.bq.up ⟨V', hb⟩, ⟨own_below h.dq.1 hb, own_below h.dq.2 hb⟩, own_below h.ow hb, h.hq⟩
end
def bin (s : ByteArray) : List UInt8 := s.data.toList
set_option maxRecDepth 10000 in
set_option maxHeartbeats 8000000 in
theorem law_console (A : Option Addr) (n c : Nat) (zs : List Int) (w : World) (hz : ∀ z ∈ zs, 0 ≤ z ∧ z ≤ 255) (hr : Rds w 1 A n (bytes zs)) (hn : n ≤ 9223372036854775807) (ht : Tab w) :
    Calls Tryz.prog 3 #[.slice A n c] w fun e w' => e = .returned (.bool true) ∧ UpOf w w' := by
  obtain ⟨two, h2⟩ := two_ex
  have HT := Lib.hid ht
  have HR := Lib.hid hr
  have HZ := Lib.hid hz
  clear ht hr hz
  cases hlo : longC n 0 with
  | true =>
    go_enter Tryz.func3, Tryz.ntmps3
    go_wp2_with (first | (go_at_call 6; refine (ret_as (a2LongC_any A none n 0 c 0 _ hn (by omega)) hlo).mono ?_; rintro e w' ⟨rfl, g, rfl⟩) | ((with_reducible refine wp_region_up (by kernel_rfl) (by kernel_rfl) ?_); (repeat (go_big_quiet_step (first | (go_at_call 6; first | exact upq_tr (ret_as (a2LongC_any A none n 0 c 0 _ hn (by omega)) hlo) | exact upq (ret_as (a2LongC_any A none n 0 c 0 _ hn (by omega)) hlo))))); refine wpQuiet_nil ?_; intro _ hw'; obtain ⟨nq, hw''⟩ := hw'; subst hw''))
    go_ret
    exact ⟨rfl, UpOf.of (BL.o (by repeat constructor))⟩
  | false =>
    have hn3 : n ≤ 3000 := by have := of_decide_eq_false hlo; omega
    go_enter Tryz.func3, Tryz.ntmps3
    go_wp2_with fail
    refine (ret_as (a2LongC_any A none n 0 c 0 _ hn (by omega)) hlo).mono ?_
    rintro e w' ⟨rfl, g0, rfl⟩
    go_wp2_with fail
    refine (a2Lines_any A n c zs _ HZ.out (HR.out.below (BL.o (by repeat constructor))) hn3).mono ?_
    rintro e V ⟨L, X, nX, rfl, ho, hv, hl8, hu⟩
    have hu0 := (show UpOf w (up w g0) from ⟨g0, rfl⟩)
    have HU := Lib.hid (hu0.tr hu.below)
    have HO := Lib.hid (own_mono ho (up_below w g0).size)
    have HV := Lib.hid hv
    have HL8 := Lib.hid hl8
    clear ho hu hv hu0 hl8 hlo HR HZ
    go_upto_region 5 with (go_at_call 8; refine (newDeskI_any _).mono ?_; rintro r w' ⟨rfl, g1, rfl⟩)
    obtain ⟨p, hp⟩ : ∃ p, (up V g1).heap.size = p := ⟨_, rfl⟩
    have hb0 : Blk ((up V g1).alloc (.cells zc 31)) p 31 zc := by rw [← hp]; exact Blk.new _ _ _
    have hpw : w.heap.size ≤ p := by have := (up_below V g1).size; have := HU.out.below.size; omega
    have LC0 := Lib.hid (show LC w (put8 ((up V g1).alloc (.cells zc 31)) p (i64 dk0.b.bars) (i64 dk0.b.rise) (i64 dk0.b.fall) (i64 dk0.b.clr) (i64 dk0.b.near) (.slice none dk0.stops.length 0) (.slice none dk0.drills.length 0) (.string dk0.log)) p dk0 none none 0 0 X nX L from
      ⟨blk_all8 hb0 _ _ _ _ _ _ _ _, ⟨own_put8 ⟨rfl, .inl ⟨rfl, rfl⟩⟩ hb0 (by decide) _ _ _ _ _ _ _ _, own_put8 ⟨rfl, .inl ⟨rfl, rfl⟩⟩ hb0 (by decide) _ _ _ _ _ _ _ _⟩, own_put8 (own_below HO.out (BL.o (by repeat constructor))) hb0 (by decide) _ _ _ _ _ _ _ _, put8_up (HU.out.tr (BL.o (by repeat constructor))) hpw _ _ _ _ _ _ _ _, hpw⟩)
    refine wpg (R := fun U => Hid (LC w U p dk0 none none 0 0 X nX L)) (by simpa [put8, ← hp] using LC0) (fun U HK0 => ?_)
    rw [hp]
    clear LC0 hpw hb0 hp HO HU
    go_wp2_with fail
    go_loopw [5, 6, 7] (fun tx wa i wr => ∃ (k : Nat) (T O : ByteArray) (D : DeskD) (A1 B1 : Option Addr) (c1 e1 : Nat), tx = .string T ∧ wa = .string O ∧ i = i64 k ∧ k ≤ L.length ∧ Hid (T.size ≤ 41 * k) ∧ Hid (O.size ≤ 500000 * k) ∧ Hid (vDesk D = true) ∧ Hid (bin T = outB (L.take k)) ∧ Hid (runL two 60 dk0 L = bin O ++ runL two (60 - k) D (L.drop k)) ∧ Hid (LC w wr p D A1 B1 c1 e1 X nX L)) (fun _ _ i _ => L.length - (intOf i).toNat)
    case atStart => exact ⟨0, ⟨#[]⟩, ⟨#[]⟩, dk0, none, none, 0, 0, rfl, rfl, rfl, by omega, Lib.hid (by decide), Lib.hid (by decide), Lib.hid dk0_ok, Lib.hid rfl, Lib.hid rfl, HK0⟩
    case round =>
      obtain ⟨k, T, O, D, A1, B1, c1, e1, rfl, rfl, rfl, hk, HTS, HOS, HVD, HTX, HOX, HK⟩ := hrel
      clear HK0
      by_cases hlt : k < L.length
      · have hlt' : (k : Int) < (L.length : Int) := by omega
        have hl8 := HL8.out
        obtain ⟨S, hS⟩ : ∃ S, wd L k = S := ⟨_, rfl⟩
        have hSl := linB_inv (HV.out (wd L k) (by rw [← wd_eq hlt]; exact List.getElem_mem hlt))
        rw [hS] at hSl
        have hSs := hSl.1
        have HSL := Lib.hid hSl.2
        obtain ⟨bX, oX, rfl, hbX, hcX⟩ := wd_at (Rds.of_own HK.out.lw) hlt
        have hc0 := hcX k hlt
        rw [hS] at hc0
        have hts := HTS.out
        have e1s : ∀ W, (Op.stringOp .add S ⟨#[10]⟩).run Tryz.prog W = .ok (.string (S ++ ⟨#[10]⟩)) W := fun W => run_string_add_sum W _ _ (by have : (⟨#[10]⟩ : ByteArray).size = 1 := rfl; omega)
        have e2s : ∀ W, (Op.stringOp .add T (S ++ ⟨#[10]⟩)).run Tryz.prog W = .ok (.string (T ++ (S ++ ⟨#[10]⟩))) W := fun W => run_string_add_sum W _ _ (by have : (⟨#[10]⟩ : ByteArray).size = 1 := rfl; rw [ByteArray.size_append]; omega)
        clear hcX hts hSl
        have HS9 := Lib.hid hS
        have HC : Hid (∀ V, LC w V p D A1 B1 c1 e1 (some ⟨bX, oX, none⟩) nX L → (V.cell? ⟨p, 0, none⟩ = some (i64 D.b.bars) ∧ V.cell? ⟨p, 1, none⟩ = some (i64 D.b.rise) ∧ V.cell? ⟨p, 2, none⟩ = some (i64 D.b.fall) ∧ V.cell? ⟨p, 3, none⟩ = some (i64 D.b.clr) ∧ V.cell? ⟨p, 4, none⟩ = some (i64 D.b.near) ∧ V.cell? ⟨p, 5, none⟩ = some (.slice A1 D.stops.length c1) ∧ V.cell? ⟨p, 6, none⟩ = some (.slice B1 D.drills.length e1) ∧ V.cell? ⟨p, 7, none⟩ = some (.string D.log)) ∧ V.cell? ⟨bX, oX + k, none⟩ = some (.string S)) := Lib.hid fun V h => by rw [← hS]; exact h.cel hlt
        have HDC : Hid (∀ V, LC w V p D A1 B1 c1 e1 (some ⟨bX, oX, none⟩) nX L → Calls Tryz.prog 9 #[dkv D A1 B1 c1 e1, .string S] V fun r w' => dcPost (doL two D S) V r w') := Lib.hid fun V h => deskCmd_any h2 D A1 B1 c1 e1 S V (by omega) (DOwn.see h.dw) (dkSz_of HVD.out (own_capD h.dw.2)) HVD.out (HT.out.below h.up.below)
        clear hS
        cases hdo : doL two D S with
        | none =>
          rw [hdo] at HDC
          go_upto_region 11 with (fail)
          go_cut [8, 9, 10] (fun z8 z9 z10 V => ∃ q, z8 = .pointer (some ⟨q, 0, none⟩) ∧ z9 = .slice none 0 0 ∧ z10 = i64 7 ∧ Hid (LC w V p D A1 B1 c1 e1 (some ⟨bX, oX, none⟩) nX L))
          case first =>
            have hC := HC.out wr.drew (HK.out.below (Below.drew (Below.refl _ _)))
            refine wp_region_T (fun U => (U.cell? ⟨p, 0, none⟩ = some (i64 D.b.bars) ∧ U.cell? ⟨p, 1, none⟩ = some (i64 D.b.rise) ∧ U.cell? ⟨p, 2, none⟩ = some (i64 D.b.fall) ∧ U.cell? ⟨p, 3, none⟩ = some (i64 D.b.clr) ∧ U.cell? ⟨p, 4, none⟩ = some (i64 D.b.near) ∧ U.cell? ⟨p, 5, none⟩ = some (.slice A1 D.stops.length c1) ∧ U.cell? ⟨p, 6, none⟩ = some (.slice B1 D.drills.length e1) ∧ U.cell? ⟨p, 7, none⟩ = some (.string D.log)) ∧ U.cell? ⟨bX, oX + k, none⟩ = some (.string S)) 11 (by kernel_rfl) ?_
            refine wpAnyT_load (i := 0) (v := ?_) rfl (by kernel_rfl) (by kernel_rfl) (by kernel_rfl) (by decide) (by kernel_rfl) (by kernel_rfl) (fun _ _ _ h => h) (Or.inl ⟨by rfl, ?_⟩) hC ?_
            rotate_left
            · intro w hSw; (try dsimp only at hSw); go_simp; try (with_reducible rfl)
            try simp only [Act.put, List.getElem_toArray, List.getElem_cons_succ, List.getElem_cons_zero, List.setIfInBounds_toArray, List.set_cons_zero, List.set_cons_succ]
            refine wpAnyT_pure (i := 1) (v := ?_) rfl (by kernel_rfl) (by kernel_rfl) (by kernel_rfl) (by decide) (fun _ _ _ h => h) (Or.inl ⟨by rfl, ?_⟩) (fun _ => hC) ?_
            rotate_left
            · intro w _; go_simp; try (with_reducible rfl)
            try simp only [Act.put, List.getElem_toArray, List.getElem_cons_succ, List.getElem_cons_zero, List.setIfInBounds_toArray, List.set_cons_zero, List.set_cons_succ]
            refine wpAnyT_pure (i := 2) (v := ?_) rfl (by kernel_rfl) (by kernel_rfl) (by kernel_rfl) (by decide) (fun _ _ _ h => h) (Or.inl ⟨by rfl, ?_⟩) (fun _ => hC) ?_
            rotate_left
            · intro w _; go_simp; try (with_reducible rfl)
            try simp only [Act.put, List.getElem_toArray, List.getElem_cons_succ, List.getElem_cons_zero, List.setIfInBounds_toArray, List.set_cons_zero, List.set_cons_succ]
            refine wpAnyT_pure (i := 3) (v := ?_) rfl (by kernel_rfl) (by kernel_rfl) (by kernel_rfl) (by decide) (fun _ _ _ h => h) (Or.inl ⟨by rfl, ?_⟩) (fun _ => hC) ?_
            rotate_left
            · intro w _; go_simp; try (with_reducible rfl)
            try simp only [Act.put, List.getElem_toArray, List.getElem_cons_succ, List.getElem_cons_zero, List.setIfInBounds_toArray, List.set_cons_zero, List.set_cons_succ]
            refine wpAnyT_load (i := 4) (v := ?_) rfl (by kernel_rfl) (by kernel_rfl) (by kernel_rfl) (by decide) (by kernel_rfl) (by kernel_rfl) (fun _ _ _ h => h) (Or.inl ⟨by rfl, ?_⟩) hC ?_
            rotate_left
            · intro w hSw; (try dsimp only at hSw); go_simp; try (with_reducible rfl)
            try simp only [Act.put, List.getElem_toArray, List.getElem_cons_succ, List.getElem_cons_zero, List.setIfInBounds_toArray, List.set_cons_zero, List.set_cons_succ]
            refine wpAnyT_gen (R := fun V => Hid (LC w V p D A1 B1 c1 e1 (some ⟨bX, oX, none⟩) nX L)) (Lib.hid (HK.out.below (Below.drew (Below.refl _ _)))) (fun V0 HK0 => ?_)
            clear hC hc0 HK
            refine wpAnyT_ready (rs := [5, 10]) (by kernel_rfl) (by simp) (AllReadyT.cons rfl (fun K hK => ?_) (AllReadyT.cons rfl (fun K hK => ?_) AllReadyT.nil))
            · go_simp
              go_at_call 9
              refine (HDC.out V0 HK0.out).mono ?_
              rintro r w' ⟨rfl, g2, rfl⟩
              have HK1 := Lib.hid (HK0.out.below (up_below V0 g2))
              refine hK.out _ _ (fun _ => HC.out _ HK1.out) ?_
              clear hK K
              try simp only [Act.put, List.getElem_toArray, List.getElem_cons_succ, List.getElem_cons_zero, List.setIfInBounds_toArray, List.set_cons_zero, List.set_cons_succ]
              refine wpAnyT_gen (R := fun V => Hid (LC w V p D A1 B1 c1 e1 (some ⟨bX, oX, none⟩) nX L)) HK1 (fun V1 HK2 => ?_)
              clear HK0 HK1 g2
              refine wpAnyT_pure (i := 6) (v := ?_) rfl (by kernel_rfl) (by kernel_rfl) (by kernel_rfl) (by decide) (fun _ _ _ h => h) (Or.inl ⟨by rfl, ?_⟩) (fun _ => (HC.out _ HK2.out)) ?_
              rotate_left
              · intro w _; go_simp; try (with_reducible rfl)
              try simp only [Act.put, List.getElem_toArray, List.getElem_cons_succ, List.getElem_cons_zero, List.setIfInBounds_toArray, List.set_cons_zero, List.set_cons_succ]
              refine wpAnyT_pure (i := 7) (v := ?_) rfl (by kernel_rfl) (by kernel_rfl) (by kernel_rfl) (by decide) (fun _ _ _ h => h) (Or.inl ⟨by rfl, ?_⟩) (fun _ => (HC.out _ HK2.out)) ?_
              rotate_left
              · intro w _; go_simp; try (with_reducible rfl)
              try simp only [Act.put, List.getElem_toArray, List.getElem_cons_succ, List.getElem_cons_zero, List.setIfInBounds_toArray, List.set_cons_zero, List.set_cons_succ]
              refine wpAnyT_pure (i := 8) (v := ?_) rfl (by kernel_rfl) (by kernel_rfl) (by kernel_rfl) (by decide) (fun _ _ _ h => h) (Or.inl ⟨by rfl, ?_⟩) (fun _ => (HC.out _ HK2.out)) ?_
              rotate_left
              · intro w _; go_simp; try (with_reducible rfl)
              try simp only [Act.put, List.getElem_toArray, List.getElem_cons_succ, List.getElem_cons_zero, List.setIfInBounds_toArray, List.set_cons_zero, List.set_cons_succ]
              refine wpAnyT_pure (i := 9) (v := ?_) rfl (by kernel_rfl) (by kernel_rfl) (by kernel_rfl) (by decide) (fun _ _ _ h => h) (Or.inl ⟨by rfl, ?_⟩) (fun _ => (HC.out _ HK2.out)) ?_
              rotate_left
              · intro w _; go_simp; try (with_reducible rfl)
              try simp only [Act.put, List.getElem_toArray, List.getElem_cons_succ, List.getElem_cons_zero, List.setIfInBounds_toArray, List.set_cons_zero, List.set_cons_succ]
              refine wpAnyT_one (i := 10) (by kernel_rfl) rfl (fun K hK => ?_)
              go_simp
              have HPQ : Hid (p < V1.heap.size ∧ w.heap.size ≤ V1.heap.size) := Lib.hid ⟨HK2.out.bx.lt, HK2.out.up.below.size⟩
              have HL9 := Lib.hid (HK2.out.below (bl_alloc (Below.refl _ _) (.cells zc 31)))
              have HB9 : Hid (Blk (V1.alloc (.cells zc 31)) V1.heap.size 31 zc) := Lib.hid (Blk.new _ _ _)
              refine hK.out _ _ (fun _ => HC.out _ HL9.out) ?_
              clear hK K
              try simp only [Act.put, List.getElem_toArray, List.getElem_cons_succ, List.getElem_cons_zero, List.setIfInBounds_toArray, List.set_cons_zero, List.set_cons_succ]
              generalize V1.heap.size = q at HPQ HB9 ⊢
              refine wpAnyT_gen (R := fun V => Hid (LC w V p D A1 B1 c1 e1 (some ⟨bX, oX, none⟩) nX L) ∧ Hid (Blk V q 31 zc)) ⟨HL9, HB9⟩ (fun V3 y => ?_)
              clear HL9 HB9 HK2
              obtain ⟨HK4, HB4⟩ := y
              obtain ⟨hq9, y0, y1, y2, y3, y4, y5, y6, y7⟩ := HB4.out.eight
              obtain ⟨f0, f1, f2, f3, f4, f5, f6, f7⟩ := HB4.out.open8
              refine wpAnyT_one (i := 11) (by kernel_rfl) rfl (fun K hK => ?_)
              go_simp
              refine hK.out _ _ (fun h9 => absurd (show true = false from h9) (by decide)) ?_
              clear hK K
              try simp only [Act.put, List.getElem_toArray, List.getElem_cons_succ, List.getElem_cons_zero, List.setIfInBounds_toArray, List.set_cons_zero, List.set_cons_succ]
              refine wpAnyT_pure (i := 12) (v := ?_) rfl (by kernel_rfl) (by kernel_rfl) (by kernel_rfl) (by decide) (fun _ _ _ h => h) (Or.inl ⟨by rfl, ?_⟩) (fun h9 => absurd (show true = false from h9) (by decide)) ?_
              rotate_left
              · intro w _; go_simp; try (with_reducible rfl)
              try simp only [Act.put, List.getElem_toArray, List.getElem_cons_succ, List.getElem_cons_zero, List.setIfInBounds_toArray, List.set_cons_zero, List.set_cons_succ]
              refine wpAnyT_pure (i := 13) (v := ?_) rfl (by kernel_rfl) (by kernel_rfl) (by kernel_rfl) (by decide) (fun _ _ _ h => h) (Or.inl ⟨by rfl, ?_⟩) (fun h9 => absurd (show true = false from h9) (by decide)) ?_
              rotate_left
              · intro w _; go_simp; try (with_reducible rfl)
              try simp only [Act.put, List.getElem_toArray, List.getElem_cons_succ, List.getElem_cons_zero, List.setIfInBounds_toArray, List.set_cons_zero, List.set_cons_succ]
              refine wpAnyT_done (by kernel_rfl) ?_ _
              (try simp only [Act.put, List.getElem_toArray, List.getElem_cons_succ, List.getElem_cons_zero, List.setIfInBounds_toArray, List.set_cons_zero, List.set_cons_succ])
              refine exit_genD (R := fun V9 => Hid (LC w V9 p D A1 B1 c1 e1 (some ⟨bX, oX, none⟩) nX L)) (Lib.hid (HK4.out.far HB4.out HPQ.out _ _ _ _ _ _ _ _)) (fun V9 z => ?_)
              go_wp2_with fail
              go_meet
              exact ⟨q, rfl, rfl, rfl, z⟩
            · go_simp
              have HPQ : Hid (p < V0.heap.size ∧ w.heap.size ≤ V0.heap.size) := Lib.hid ⟨HK0.out.bx.lt, HK0.out.up.below.size⟩
              have HL9 := Lib.hid (HK0.out.below (bl_alloc (Below.refl _ _) (.cells zc 31)))
              have HB9 : Hid (Blk (V0.alloc (.cells zc 31)) V0.heap.size 31 zc) := Lib.hid (Blk.new _ _ _)
              refine hK.out _ _ (fun _ => HC.out _ HL9.out) ?_
              clear hK K
              try simp only [Act.put, List.getElem_toArray, List.getElem_cons_succ, List.getElem_cons_zero, List.setIfInBounds_toArray, List.set_cons_zero, List.set_cons_succ]
              generalize V0.heap.size = q at HPQ HB9 ⊢
              refine wpAnyT_gen (R := fun V => Hid (LC w V p D A1 B1 c1 e1 (some ⟨bX, oX, none⟩) nX L) ∧ Hid (Blk V q 31 zc)) ⟨HL9, HB9⟩ (fun V3 y => ?_)
              clear HL9 HB9 HK0
              obtain ⟨HK4, HB4⟩ := y
              refine wpAnyT_one (i := 5) (by kernel_rfl) rfl (fun K hK => ?_)
              go_simp
              go_at_call 9
              refine (HDC.out V3 HK4.out).mono ?_
              rintro r w' ⟨rfl, g2, rfl⟩
              have HK5 := Lib.hid (HK4.out.below (up_below V3 g2))
              have HB5 := Lib.hid (HB4.out.up g2)
              refine hK.out _ _ (fun _ => HC.out _ HK5.out) ?_
              clear hK K
              try simp only [Act.put, List.getElem_toArray, List.getElem_cons_succ, List.getElem_cons_zero, List.setIfInBounds_toArray, List.set_cons_zero, List.set_cons_succ]
              refine wpAnyT_gen (R := fun V => Hid (LC w V p D A1 B1 c1 e1 (some ⟨bX, oX, none⟩) nX L) ∧ Hid (Blk V q 31 zc)) ⟨HK5, HB5⟩ (fun V4 y => ?_)
              clear HK4 HB4 HK5 HB5 g2
              obtain ⟨HK4, HB4⟩ := y
              refine wpAnyT_pure (i := 6) (v := ?_) rfl (by kernel_rfl) (by kernel_rfl) (by kernel_rfl) (by decide) (fun _ _ _ h => h) (Or.inl ⟨by rfl, ?_⟩) (fun _ => (HC.out _ HK4.out)) ?_
              rotate_left
              · intro w _; go_simp; try (with_reducible rfl)
              try simp only [Act.put, List.getElem_toArray, List.getElem_cons_succ, List.getElem_cons_zero, List.setIfInBounds_toArray, List.set_cons_zero, List.set_cons_succ]
              refine wpAnyT_pure (i := 7) (v := ?_) rfl (by kernel_rfl) (by kernel_rfl) (by kernel_rfl) (by decide) (fun _ _ _ h => h) (Or.inl ⟨by rfl, ?_⟩) (fun _ => (HC.out _ HK4.out)) ?_
              rotate_left
              · intro w _; go_simp; try (with_reducible rfl)
              try simp only [Act.put, List.getElem_toArray, List.getElem_cons_succ, List.getElem_cons_zero, List.setIfInBounds_toArray, List.set_cons_zero, List.set_cons_succ]
              refine wpAnyT_pure (i := 8) (v := ?_) rfl (by kernel_rfl) (by kernel_rfl) (by kernel_rfl) (by decide) (fun _ _ _ h => h) (Or.inl ⟨by rfl, ?_⟩) (fun _ => (HC.out _ HK4.out)) ?_
              rotate_left
              · intro w _; go_simp; try (with_reducible rfl)
              try simp only [Act.put, List.getElem_toArray, List.getElem_cons_succ, List.getElem_cons_zero, List.setIfInBounds_toArray, List.set_cons_zero, List.set_cons_succ]
              refine wpAnyT_pure (i := 9) (v := ?_) rfl (by kernel_rfl) (by kernel_rfl) (by kernel_rfl) (by decide) (fun _ _ _ h => h) (Or.inl ⟨by rfl, ?_⟩) (fun _ => (HC.out _ HK4.out)) ?_
              rotate_left
              · intro w _; go_simp; try (with_reducible rfl)
              try simp only [Act.put, List.getElem_toArray, List.getElem_cons_succ, List.getElem_cons_zero, List.setIfInBounds_toArray, List.set_cons_zero, List.set_cons_succ]
              obtain ⟨hq9, y0, y1, y2, y3, y4, y5, y6, y7⟩ := HB4.out.eight
              obtain ⟨f0, f1, f2, f3, f4, f5, f6, f7⟩ := HB4.out.open8
              refine wpAnyT_one (i := 11) (by kernel_rfl) rfl (fun K hK => ?_)
              go_simp
              refine hK.out _ _ (fun h9 => absurd (show true = false from h9) (by decide)) ?_
              clear hK K
              try simp only [Act.put, List.getElem_toArray, List.getElem_cons_succ, List.getElem_cons_zero, List.setIfInBounds_toArray, List.set_cons_zero, List.set_cons_succ]
              refine wpAnyT_pure (i := 12) (v := ?_) rfl (by kernel_rfl) (by kernel_rfl) (by kernel_rfl) (by decide) (fun _ _ _ h => h) (Or.inl ⟨by rfl, ?_⟩) (fun h9 => absurd (show true = false from h9) (by decide)) ?_
              rotate_left
              · intro w _; go_simp; try (with_reducible rfl)
              try simp only [Act.put, List.getElem_toArray, List.getElem_cons_succ, List.getElem_cons_zero, List.setIfInBounds_toArray, List.set_cons_zero, List.set_cons_succ]
              refine wpAnyT_pure (i := 13) (v := ?_) rfl (by kernel_rfl) (by kernel_rfl) (by kernel_rfl) (by decide) (fun _ _ _ h => h) (Or.inl ⟨by rfl, ?_⟩) (fun h9 => absurd (show true = false from h9) (by decide)) ?_
              rotate_left
              · intro w _; go_simp; try (with_reducible rfl)
              try simp only [Act.put, List.getElem_toArray, List.getElem_cons_succ, List.getElem_cons_zero, List.setIfInBounds_toArray, List.set_cons_zero, List.set_cons_succ]
              refine wpAnyT_done (by kernel_rfl) ?_ _
              (try simp only [Act.put, List.getElem_toArray, List.getElem_cons_succ, List.getElem_cons_zero, List.setIfInBounds_toArray, List.set_cons_zero, List.set_cons_succ])
              refine exit_genD (R := fun V9 => Hid (LC w V9 p D A1 B1 c1 e1 (some ⟨bX, oX, none⟩) nX L)) (Lib.hid (HK4.out.far HB4.out HPQ.out _ _ _ _ _ _ _ _)) (fun V9 z => ?_)
              go_wp2_with fail
              go_meet
              exact ⟨q, rfl, rfl, rfl, z⟩
          case rest =>
            obtain ⟨q, rfl, rfl, rfl, HK1⟩ := hcut
            clear HK HDC HC
            have hos := HOS.out
            have e3s : ∀ W, (Op.stringOp .add O ⟨#[63, 10]⟩).run Tryz.prog W = .ok (.string (O ++ ⟨#[63, 10]⟩)) W := fun W => run_string_add_sum W _ _ (by have : (⟨#[63, 10]⟩ : ByteArray).size = 2 := rfl; omega)
            clear hos
            go_wp2_with fail
            go_roundw
            case rel => exact ⟨k + 1, T ++ (S ++ ⟨#[10]⟩), O ++ ⟨#[63, 10]⟩, D, A1, B1, c1, e1, rfl, rfl, by go_num, by omega, Lib.hid (by have h9 := HTS.out; have h8 : (⟨#[10]⟩ : ByteArray).size = 1 := rfl; rw [ByteArray.size_append, ByteArray.size_append]; omega), Lib.hid (by have h9 := HOS.out; have h8 : (⟨#[63, 10]⟩ : ByteArray).size = 2 := rfl; rw [ByteArray.size_append]; omega), HVD, Lib.hid (by rw [List.take_add_one, List.getElem?_eq_getElem hlt, wd_eq hlt, HS9.out, Option.toList_some, outB_snoc, ← HTX.out]; simp [bin, ByteArray.data_append]), Lib.hid (by
              rw [HOX.out, List.drop_eq_getElem_cons hlt, wd_eq hlt, HS9.out, show 60 - k = (60 - (k + 1)) + 1 by omega, runL_none hdo]
              simp [bin, ByteArray.data_append]), HK1⟩
            case measure => (simp [intOf]; try omega)
        | some R =>
          obtain ⟨D2, L2⟩ := R
          rw [hdo] at HDC
          go_upto_region 11 with (fail)
          go_cut [8, 9, 10] (fun z8 z9 z10 V => ∃ q A2 B2 c2 e2 Y nY, z8 = .pointer (some ⟨q, 0, none⟩) ∧ z9 = .slice Y L2.length nY ∧ z10 = i64 0 ∧ Hid (LQ w V p D A1 B1 c1 e1 (some ⟨bX, oX, none⟩) nX L q D2 A2 B2 c2 e2 Y nY L2))
          case first =>
            have hC := HC.out wr.drew (HK.out.below (Below.drew (Below.refl _ _)))
            refine wp_region_T (fun U => (U.cell? ⟨p, 0, none⟩ = some (i64 D.b.bars) ∧ U.cell? ⟨p, 1, none⟩ = some (i64 D.b.rise) ∧ U.cell? ⟨p, 2, none⟩ = some (i64 D.b.fall) ∧ U.cell? ⟨p, 3, none⟩ = some (i64 D.b.clr) ∧ U.cell? ⟨p, 4, none⟩ = some (i64 D.b.near) ∧ U.cell? ⟨p, 5, none⟩ = some (.slice A1 D.stops.length c1) ∧ U.cell? ⟨p, 6, none⟩ = some (.slice B1 D.drills.length e1) ∧ U.cell? ⟨p, 7, none⟩ = some (.string D.log)) ∧ U.cell? ⟨bX, oX + k, none⟩ = some (.string S)) 11 (by kernel_rfl) ?_
            refine wpAnyT_load (i := 0) (v := ?_) rfl (by kernel_rfl) (by kernel_rfl) (by kernel_rfl) (by decide) (by kernel_rfl) (by kernel_rfl) (fun _ _ _ h => h) (Or.inl ⟨by rfl, ?_⟩) hC ?_
            rotate_left
            · intro w hSw; (try dsimp only at hSw); go_simp; try (with_reducible rfl)
            try simp only [Act.put, List.getElem_toArray, List.getElem_cons_succ, List.getElem_cons_zero, List.setIfInBounds_toArray, List.set_cons_zero, List.set_cons_succ]
            refine wpAnyT_pure (i := 1) (v := ?_) rfl (by kernel_rfl) (by kernel_rfl) (by kernel_rfl) (by decide) (fun _ _ _ h => h) (Or.inl ⟨by rfl, ?_⟩) (fun _ => hC) ?_
            rotate_left
            · intro w _; go_simp; try (with_reducible rfl)
            try simp only [Act.put, List.getElem_toArray, List.getElem_cons_succ, List.getElem_cons_zero, List.setIfInBounds_toArray, List.set_cons_zero, List.set_cons_succ]
            refine wpAnyT_pure (i := 2) (v := ?_) rfl (by kernel_rfl) (by kernel_rfl) (by kernel_rfl) (by decide) (fun _ _ _ h => h) (Or.inl ⟨by rfl, ?_⟩) (fun _ => hC) ?_
            rotate_left
            · intro w _; go_simp; try (with_reducible rfl)
            try simp only [Act.put, List.getElem_toArray, List.getElem_cons_succ, List.getElem_cons_zero, List.setIfInBounds_toArray, List.set_cons_zero, List.set_cons_succ]
            refine wpAnyT_pure (i := 3) (v := ?_) rfl (by kernel_rfl) (by kernel_rfl) (by kernel_rfl) (by decide) (fun _ _ _ h => h) (Or.inl ⟨by rfl, ?_⟩) (fun _ => hC) ?_
            rotate_left
            · intro w _; go_simp; try (with_reducible rfl)
            try simp only [Act.put, List.getElem_toArray, List.getElem_cons_succ, List.getElem_cons_zero, List.setIfInBounds_toArray, List.set_cons_zero, List.set_cons_succ]
            refine wpAnyT_load (i := 4) (v := ?_) rfl (by kernel_rfl) (by kernel_rfl) (by kernel_rfl) (by decide) (by kernel_rfl) (by kernel_rfl) (fun _ _ _ h => h) (Or.inl ⟨by rfl, ?_⟩) hC ?_
            rotate_left
            · intro w hSw; (try dsimp only at hSw); go_simp; try (with_reducible rfl)
            try simp only [Act.put, List.getElem_toArray, List.getElem_cons_succ, List.getElem_cons_zero, List.setIfInBounds_toArray, List.set_cons_zero, List.set_cons_succ]
            refine wpAnyT_gen (R := fun V => Hid (LC w V p D A1 B1 c1 e1 (some ⟨bX, oX, none⟩) nX L)) (Lib.hid (HK.out.below (Below.drew (Below.refl _ _)))) (fun V0 HK0 => ?_)
            clear hC hc0 HK
            refine wpAnyT_ready (rs := [5, 10]) (by kernel_rfl) (by simp) (AllReadyT.cons rfl (fun K hK => ?_) (AllReadyT.cons rfl (fun K hK => ?_) AllReadyT.nil))
            · go_simp
              go_at_call 9
              refine (HDC.out V0 HK0.out).mono ?_
              rintro r w' ⟨A2, B2, c2, e2, Y, nY, rfl, do2, ox, g2, rfl⟩
              have HK1 := Lib.hid (HK0.out.below (up_below V0 g2))
              have HD1 := Lib.hid (show DOwn w.heap.size (up V0 g2) D2 A2 B2 c2 e2 from ⟨own_mono do2.1 HK0.out.up.below.size, own_mono do2.2 HK0.out.up.below.size⟩)
              have HO1 := Lib.hid (own_mono ox HK0.out.up.below.size)
              refine hK.out _ _ (fun _ => HC.out _ HK1.out) ?_
              clear hK K
              try simp only [Act.put, List.getElem_toArray, List.getElem_cons_succ, List.getElem_cons_zero, List.setIfInBounds_toArray, List.set_cons_zero, List.set_cons_succ]
              refine wpAnyT_gen (R := fun V => Hid (LC w V p D A1 B1 c1 e1 (some ⟨bX, oX, none⟩) nX L) ∧ Hid (DOwn w.heap.size V D2 A2 B2 c2 e2) ∧ Hid (V.ownsRow w.heap.size 9 1 (.slice Y L2.length nY) L2.length (strs L2))) ⟨HK1, HD1, HO1⟩ (fun V1 y => ?_)
              clear HK0 HK1 HD1 HO1 do2 ox g2
              obtain ⟨HK2, HD2, HO2⟩ := y
              refine wpAnyT_pure (i := 6) (v := ?_) rfl (by kernel_rfl) (by kernel_rfl) (by kernel_rfl) (by decide) (fun _ _ _ h => h) (Or.inl ⟨by rfl, ?_⟩) (fun _ => (HC.out _ HK2.out)) ?_
              rotate_left
              · intro w _; go_simp; try (with_reducible rfl)
              try simp only [Act.put, List.getElem_toArray, List.getElem_cons_succ, List.getElem_cons_zero, List.setIfInBounds_toArray, List.set_cons_zero, List.set_cons_succ]
              refine wpAnyT_pure (i := 7) (v := ?_) rfl (by kernel_rfl) (by kernel_rfl) (by kernel_rfl) (by decide) (fun _ _ _ h => h) (Or.inl ⟨by rfl, ?_⟩) (fun _ => (HC.out _ HK2.out)) ?_
              rotate_left
              · intro w _; go_simp; try (with_reducible rfl)
              try simp only [Act.put, List.getElem_toArray, List.getElem_cons_succ, List.getElem_cons_zero, List.setIfInBounds_toArray, List.set_cons_zero, List.set_cons_succ]
              refine wpAnyT_pure (i := 8) (v := ?_) rfl (by kernel_rfl) (by kernel_rfl) (by kernel_rfl) (by decide) (fun _ _ _ h => h) (Or.inl ⟨by rfl, ?_⟩) (fun _ => (HC.out _ HK2.out)) ?_
              rotate_left
              · intro w _; go_simp; try (with_reducible rfl)
              try simp only [Act.put, List.getElem_toArray, List.getElem_cons_succ, List.getElem_cons_zero, List.setIfInBounds_toArray, List.set_cons_zero, List.set_cons_succ]
              refine wpAnyT_pure (i := 9) (v := ?_) rfl (by kernel_rfl) (by kernel_rfl) (by kernel_rfl) (by decide) (fun _ _ _ h => h) (Or.inl ⟨by rfl, ?_⟩) (fun _ => (HC.out _ HK2.out)) ?_
              rotate_left
              · intro w _; go_simp; try (with_reducible rfl)
              try simp only [Act.put, List.getElem_toArray, List.getElem_cons_succ, List.getElem_cons_zero, List.setIfInBounds_toArray, List.set_cons_zero, List.set_cons_succ]
              refine wpAnyT_one (i := 10) (by kernel_rfl) rfl (fun K hK => ?_)
              have HD3 := Lib.hid (show DOwn w.heap.size (V1.alloc (.cells zc 31)) D2 A2 B2 c2 e2 from ⟨HD2.out.1.alloc _, HD2.out.2.alloc _⟩)
              have HO3 := Lib.hid (HO2.out.alloc (.cells zc 31))
              go_simp
              have HPQ : Hid (p < V1.heap.size ∧ w.heap.size ≤ V1.heap.size) := Lib.hid ⟨HK2.out.bx.lt, HK2.out.up.below.size⟩
              have HL9 := Lib.hid (HK2.out.below (bl_alloc (Below.refl _ _) (.cells zc 31)))
              have HB9 : Hid (Blk (V1.alloc (.cells zc 31)) V1.heap.size 31 zc) := Lib.hid (Blk.new _ _ _)
              refine hK.out _ _ (fun _ => HC.out _ HL9.out) ?_
              clear hK K
              try simp only [Act.put, List.getElem_toArray, List.getElem_cons_succ, List.getElem_cons_zero, List.setIfInBounds_toArray, List.set_cons_zero, List.set_cons_succ]
              generalize V1.heap.size = q at HPQ HB9 ⊢
              refine wpAnyT_gen (R := fun V => Hid (LC w V p D A1 B1 c1 e1 (some ⟨bX, oX, none⟩) nX L) ∧ Hid (Blk V q 31 zc) ∧ Hid (DOwn w.heap.size V D2 A2 B2 c2 e2) ∧ Hid (V.ownsRow w.heap.size 9 1 (.slice Y L2.length nY) L2.length (strs L2))) ⟨HL9, HB9, HD3, HO3⟩ (fun V3 y => ?_)
              clear HL9 HB9 HK2 HD3 HO3 HD2 HO2
              obtain ⟨HK4, HB4, HD4, HO4⟩ := y
              obtain ⟨hq9, y0, y1, y2, y3, y4, y5, y6, y7⟩ := HB4.out.eight
              obtain ⟨f0, f1, f2, f3, f4, f5, f6, f7⟩ := HB4.out.open8
              refine wpAnyT_one (i := 11) (by kernel_rfl) rfl (fun K hK => ?_)
              go_simp
              refine hK.out _ _ (fun h9 => absurd (show true = false from h9) (by decide)) ?_
              clear hK K
              try simp only [Act.put, List.getElem_toArray, List.getElem_cons_succ, List.getElem_cons_zero, List.setIfInBounds_toArray, List.set_cons_zero, List.set_cons_succ]
              refine wpAnyT_pure (i := 12) (v := ?_) rfl (by kernel_rfl) (by kernel_rfl) (by kernel_rfl) (by decide) (fun _ _ _ h => h) (Or.inl ⟨by rfl, ?_⟩) (fun h9 => absurd (show true = false from h9) (by decide)) ?_
              rotate_left
              · intro w _; go_simp; try (with_reducible rfl)
              try simp only [Act.put, List.getElem_toArray, List.getElem_cons_succ, List.getElem_cons_zero, List.setIfInBounds_toArray, List.set_cons_zero, List.set_cons_succ]
              refine wpAnyT_pure (i := 13) (v := ?_) rfl (by kernel_rfl) (by kernel_rfl) (by kernel_rfl) (by decide) (fun _ _ _ h => h) (Or.inl ⟨by rfl, ?_⟩) (fun h9 => absurd (show true = false from h9) (by decide)) ?_
              rotate_left
              · intro w _; go_simp; try (with_reducible rfl)
              try simp only [Act.put, List.getElem_toArray, List.getElem_cons_succ, List.getElem_cons_zero, List.setIfInBounds_toArray, List.set_cons_zero, List.set_cons_succ]
              refine wpAnyT_done (by kernel_rfl) ?_ _
              (try simp only [Act.put, List.getElem_toArray, List.getElem_cons_succ, List.getElem_cons_zero, List.setIfInBounds_toArray, List.set_cons_zero, List.set_cons_succ])
              refine exit_genD (R := fun V9 => Hid (LQ w V9 p D A1 B1 c1 e1 (some ⟨bX, oX, none⟩) nX L q D2 A2 B2 c2 e2 Y nY L2)) (Lib.hid ⟨HK4.out.far HB4.out HPQ.out _ _ _ _ _ _ _ _, blk_all8 HB4.out _ _ _ _ _ _ _ _, ⟨own_put8 HD4.out.1 HB4.out (by decide) _ _ _ _ _ _ _ _, own_put8 HD4.out.2 HB4.out (by decide) _ _ _ _ _ _ _ _⟩, own_put8 HO4.out HB4.out (by decide) _ _ _ _ _ _ _ _, HPQ.out.2⟩) (fun V9 z => ?_)
              go_wp2_with fail
              go_meet
              exact ⟨q, A2, B2, c2, e2, Y, nY, rfl, rfl, rfl, z⟩
            · go_simp
              have HPQ : Hid (p < V0.heap.size ∧ w.heap.size ≤ V0.heap.size) := Lib.hid ⟨HK0.out.bx.lt, HK0.out.up.below.size⟩
              have HL9 := Lib.hid (HK0.out.below (bl_alloc (Below.refl _ _) (.cells zc 31)))
              have HB9 : Hid (Blk (V0.alloc (.cells zc 31)) V0.heap.size 31 zc) := Lib.hid (Blk.new _ _ _)
              refine hK.out _ _ (fun _ => HC.out _ HL9.out) ?_
              clear hK K
              try simp only [Act.put, List.getElem_toArray, List.getElem_cons_succ, List.getElem_cons_zero, List.setIfInBounds_toArray, List.set_cons_zero, List.set_cons_succ]
              generalize V0.heap.size = q at HPQ HB9 ⊢
              refine wpAnyT_gen (R := fun V => Hid (LC w V p D A1 B1 c1 e1 (some ⟨bX, oX, none⟩) nX L) ∧ Hid (Blk V q 31 zc)) ⟨HL9, HB9⟩ (fun V3 y => ?_)
              clear HL9 HB9 HK0
              obtain ⟨HK4, HB4⟩ := y
              refine wpAnyT_one (i := 5) (by kernel_rfl) rfl (fun K hK => ?_)
              go_simp
              go_at_call 9
              refine (HDC.out V3 HK4.out).mono ?_
              rintro r w' ⟨A2, B2, c2, e2, Y, nY, rfl, do2, ox, g2, rfl⟩
              have HK5 := Lib.hid (HK4.out.below (up_below V3 g2))
              have HB5 := Lib.hid (HB4.out.up g2)
              have HD5 := Lib.hid (show DOwn w.heap.size (up V3 g2) D2 A2 B2 c2 e2 from ⟨own_mono do2.1 HK4.out.up.below.size, own_mono do2.2 HK4.out.up.below.size⟩)
              have HO5 := Lib.hid (own_mono ox HK4.out.up.below.size)
              refine hK.out _ _ (fun _ => HC.out _ HK5.out) ?_
              clear hK K
              try simp only [Act.put, List.getElem_toArray, List.getElem_cons_succ, List.getElem_cons_zero, List.setIfInBounds_toArray, List.set_cons_zero, List.set_cons_succ]
              refine wpAnyT_gen (R := fun V => Hid (LC w V p D A1 B1 c1 e1 (some ⟨bX, oX, none⟩) nX L) ∧ Hid (Blk V q 31 zc) ∧ Hid (DOwn w.heap.size V D2 A2 B2 c2 e2) ∧ Hid (V.ownsRow w.heap.size 9 1 (.slice Y L2.length nY) L2.length (strs L2))) ⟨HK5, HB5, HD5, HO5⟩ (fun V4 y => ?_)
              clear HK4 HB4 HK5 HB5 HD5 HO5 do2 ox g2
              obtain ⟨HK4, HB4, HD4, HO4⟩ := y
              refine wpAnyT_pure (i := 6) (v := ?_) rfl (by kernel_rfl) (by kernel_rfl) (by kernel_rfl) (by decide) (fun _ _ _ h => h) (Or.inl ⟨by rfl, ?_⟩) (fun _ => (HC.out _ HK4.out)) ?_
              rotate_left
              · intro w _; go_simp; try (with_reducible rfl)
              try simp only [Act.put, List.getElem_toArray, List.getElem_cons_succ, List.getElem_cons_zero, List.setIfInBounds_toArray, List.set_cons_zero, List.set_cons_succ]
              refine wpAnyT_pure (i := 7) (v := ?_) rfl (by kernel_rfl) (by kernel_rfl) (by kernel_rfl) (by decide) (fun _ _ _ h => h) (Or.inl ⟨by rfl, ?_⟩) (fun _ => (HC.out _ HK4.out)) ?_
              rotate_left
              · intro w _; go_simp; try (with_reducible rfl)
              try simp only [Act.put, List.getElem_toArray, List.getElem_cons_succ, List.getElem_cons_zero, List.setIfInBounds_toArray, List.set_cons_zero, List.set_cons_succ]
              refine wpAnyT_pure (i := 8) (v := ?_) rfl (by kernel_rfl) (by kernel_rfl) (by kernel_rfl) (by decide) (fun _ _ _ h => h) (Or.inl ⟨by rfl, ?_⟩) (fun _ => (HC.out _ HK4.out)) ?_
              rotate_left
              · intro w _; go_simp; try (with_reducible rfl)
              try simp only [Act.put, List.getElem_toArray, List.getElem_cons_succ, List.getElem_cons_zero, List.setIfInBounds_toArray, List.set_cons_zero, List.set_cons_succ]
              refine wpAnyT_pure (i := 9) (v := ?_) rfl (by kernel_rfl) (by kernel_rfl) (by kernel_rfl) (by decide) (fun _ _ _ h => h) (Or.inl ⟨by rfl, ?_⟩) (fun _ => (HC.out _ HK4.out)) ?_
              rotate_left
              · intro w _; go_simp; try (with_reducible rfl)
              try simp only [Act.put, List.getElem_toArray, List.getElem_cons_succ, List.getElem_cons_zero, List.setIfInBounds_toArray, List.set_cons_zero, List.set_cons_succ]
              obtain ⟨hq9, y0, y1, y2, y3, y4, y5, y6, y7⟩ := HB4.out.eight
              obtain ⟨f0, f1, f2, f3, f4, f5, f6, f7⟩ := HB4.out.open8
              refine wpAnyT_one (i := 11) (by kernel_rfl) rfl (fun K hK => ?_)
              go_simp
              refine hK.out _ _ (fun h9 => absurd (show true = false from h9) (by decide)) ?_
              clear hK K
              try simp only [Act.put, List.getElem_toArray, List.getElem_cons_succ, List.getElem_cons_zero, List.setIfInBounds_toArray, List.set_cons_zero, List.set_cons_succ]
              refine wpAnyT_pure (i := 12) (v := ?_) rfl (by kernel_rfl) (by kernel_rfl) (by kernel_rfl) (by decide) (fun _ _ _ h => h) (Or.inl ⟨by rfl, ?_⟩) (fun h9 => absurd (show true = false from h9) (by decide)) ?_
              rotate_left
              · intro w _; go_simp; try (with_reducible rfl)
              try simp only [Act.put, List.getElem_toArray, List.getElem_cons_succ, List.getElem_cons_zero, List.setIfInBounds_toArray, List.set_cons_zero, List.set_cons_succ]
              refine wpAnyT_pure (i := 13) (v := ?_) rfl (by kernel_rfl) (by kernel_rfl) (by kernel_rfl) (by decide) (fun _ _ _ h => h) (Or.inl ⟨by rfl, ?_⟩) (fun h9 => absurd (show true = false from h9) (by decide)) ?_
              rotate_left
              · intro w _; go_simp; try (with_reducible rfl)
              try simp only [Act.put, List.getElem_toArray, List.getElem_cons_succ, List.getElem_cons_zero, List.setIfInBounds_toArray, List.set_cons_zero, List.set_cons_succ]
              refine wpAnyT_done (by kernel_rfl) ?_ _
              (try simp only [Act.put, List.getElem_toArray, List.getElem_cons_succ, List.getElem_cons_zero, List.setIfInBounds_toArray, List.set_cons_zero, List.set_cons_succ])
              refine exit_genD (R := fun V9 => Hid (LQ w V9 p D A1 B1 c1 e1 (some ⟨bX, oX, none⟩) nX L q D2 A2 B2 c2 e2 Y nY L2)) (Lib.hid ⟨HK4.out.far HB4.out HPQ.out _ _ _ _ _ _ _ _, blk_all8 HB4.out _ _ _ _ _ _ _ _, ⟨own_put8 HD4.out.1 HB4.out (by decide) _ _ _ _ _ _ _ _, own_put8 HD4.out.2 HB4.out (by decide) _ _ _ _ _ _ _ _⟩, own_put8 HO4.out HB4.out (by decide) _ _ _ _ _ _ _ _, HPQ.out.2⟩) (fun V9 z => ?_)
              go_wp2_with fail
              go_meet
              exact ⟨q, A2, B2, c2, e2, Y, nY, rfl, rfl, rfl, z⟩
          case rest =>
            obtain ⟨q, A2, B2, c2, e2, Y, nY, rfl, rfl, rfl, HQ1⟩ := hcut
            clear HK HDC HC
            have HV2 : Hid (vDesk D2 = true) := Lib.hid (doL_ok two HVD.out hdo).1
            have hL1 := (doL_ok two HVD.out hdo).2
            have HSZ : Hid (szB L2) := Lib.hid (doL_size h2 HVD.out hdo)
            have hL2n : L2.length ≤ 500000 := Nat.le_trans (outB_ge L2) HSZ.out
            have hL1' : ¬ (L2.length : Int) < 1 := by
              have : 1 ≤ L2.length := hL1
              omega
            have hdt := dkText_ok HV2.out
            have hde : (dkText D2).toList.isEmpty = false := isEmpty_no (by rw [hdt, dkTextV]; simp only [ByteArray.size_append]; have z3 : (⟨#[32, 100, 114, 105, 108, 108, 115]⟩ : ByteArray).size = 7 := rfl; omega)
            obtain ⟨DT, hDT⟩ : ∃ t, dkText D2 = t := ⟨_, rfl⟩
            rw [hDT] at hde
            have HVS : Hid (∀ V, LQ w V p D A1 B1 c1 e1 (some ⟨bX, oX, none⟩) nX L q D2 A2 B2 c2 e2 Y nY L2 → Calls Tryz.prog 10 #[dkv D2 A2 B2 c2 e2] V fun r w' => r = .returned (.bool true) ∧ UpOf V w') := Lib.hid fun V h => ret_as (validDeskS_any D2 A2 B2 c2 e2 V (DOwn.see h.dq) (dkSz_of HV2.out (own_capD h.dq.2))) HV2.out
            have HDT : Hid (∀ V, LQ w V p D A1 B1 c1 e1 (some ⟨bX, oX, none⟩) nX L q D2 A2 B2 c2 e2 Y nY L2 → Calls Tryz.prog 11 #[dkv D2 A2 B2 c2 e2] V fun r w' => r = .returned (.string DT) ∧ UpOf V w') := Lib.hid fun V h => by
              have := deskTextI_any D2 A2 B2 c2 e2 V (DOwn.see h.dq) (dkSz_of HV2.out (own_capD h.dq.2)) (HT.out.below h.l.up.below)
              rw [hDT] at this
              exact this
            have HOL : Hid (runL two 60 dk0 L = bin O ++ (outB L2 ++ runL two (60 - (k + 1)) D2 (L.drop (k + 1)))) := Lib.hid (by
              rw [HOX.out, List.drop_eq_getElem_cons hlt, wd_eq hlt, HS9.out, show 60 - k = (60 - (k + 1)) + 1 by omega, runL_some hdo])
            clear hdt hDT hL1
            obtain ⟨hqV, y0, y1, y2, y3, y4, y5, y6, y7⟩ := HQ1.out.bq.eight
            go_wp2_with fail
            refine (HVS.out _ HQ1.out).mono ?_
            rintro r w' ⟨rfl, g3, rfl⟩
            have HQ2 := Lib.hid (HQ1.out.below (up_below wc g3))
            clear hqV y0 y1 y2 y3 y4 y5 y6 y7
            obtain ⟨hqV, y0, y1, y2, y3, y4, y5, y6, y7⟩ := HQ2.out.bq.eight
            go_wp2_with fail
            refine (HDT.out _ HQ2.out).mono ?_
            rintro r w' ⟨rfl, g4, rfl⟩
            have HQ3 := Lib.hid (HQ2.out.below (up_below _ g4))
            clear HVS HDT HQ1 HQ2 hqV y0 y1 y2 y3 y4 y5 y6 y7
            go_upto_region 16 with (fail)
            refine wpg (R := fun U => Hid (LQ w U p D A1 B1 c1 e1 (some ⟨bX, oX, none⟩) nX L q D2 A2 B2 c2 e2 Y nY L2)) HQ3 (fun U HQ4 => ?_)
            clear HQ3 g3 g4
            go_wp2_with fail
            go_loopw [6, 11] (fun wa kk wr2 => ∃ (j : Nat) (O2 : ByteArray), j ≤ L2.length ∧ kk = i64 j ∧ wa = .string O2 ∧ Hid (bin O2 ++ outB (L2.drop j) = bin O ++ outB L2) ∧ Hid (LQ w wr2 p D A1 B1 c1 e1 (some ⟨bX, oX, none⟩) nX L q D2 A2 B2 c2 e2 Y nY L2)) (fun _ kk _ => L2.length - (intOf kk).toNat)
            case atStart => exact ⟨0, O, by omega, rfl, rfl, Lib.hid rfl, HQ4⟩
            case round =>
              obtain ⟨j, O2, hj, rfl, rfl, HE2, HQ5⟩ := hrel
              clear HQ4
              have hsz2 : O2.size + (outB (L2.drop j)).length ≤ 500000 * (k + 1) := by
                have h1 := congrArg List.length HE2.out
                simp only [List.length_append, bin, bsz] at h1
                have h3 := HSZ.out
                simp only [szB] at h3
                have h4 := HOS.out
                omega
              by_cases hjl : j < L2.length
              · have hjl' : (j : Int) < (L2.length : Int) := by omega
                obtain ⟨bY, oY, rfl, hbY, hcY⟩ := wd_at (Rds.of_own HQ5.out.ow) hjl
                have hd0 := hcY j hjl
                have hE3 := HE2.out
                rw [outB_drop hjl] at hE3 hsz2
                rw [List.length_append, List.length_append, bsz] at hsz2
                obtain ⟨S2, hS2⟩ : ∃ S, wd L2 j = S := ⟨_, rfl⟩
                rw [hS2] at hE3 hd0 hsz2
                have HE3 := Lib.hid hE3
                have hl8 := HL8.out
                have f1s : ∀ W, (Op.stringOp .add S2 ⟨#[10]⟩).run Tryz.prog W = .ok (.string (S2 ++ ⟨#[10]⟩)) W := fun W => run_string_add_sum W _ _ (by have : (⟨#[10]⟩ : ByteArray).size = 1 := rfl; omega)
                have f2s : ∀ W, (Op.stringOp .add O2 (S2 ++ ⟨#[10]⟩)).run Tryz.prog W = .ok (.string (O2 ++ (S2 ++ ⟨#[10]⟩))) W := fun W => run_string_add_sum W _ _ (by have : (⟨#[10]⟩ : ByteArray).size = 1 := rfl; rw [ByteArray.size_append]; omega)
                clear hE3 hsz2 hcY hS2 hl8
                go_wp2_with fail
                go_roundw
                case rel => exact ⟨j + 1, O2 ++ (S2 ++ ⟨#[10]⟩), by omega, by go_num, rfl, Lib.hid (by rw [← HE3.out]; simp [bin, ByteArray.data_append]), HQ5⟩
                case measure => (simp [intOf]; try omega)
              · obtain rfl : j = L2.length := by omega
                have hE3 := HE2.out
                rw [List.drop_length] at hE3 hsz2
                have HO2 : Hid (bin O2 = bin O ++ outB L2) := Lib.hid (by rw [← hE3]; simp [outB])
                have HZ2 : Hid (O2.size ≤ 500000 * (k + 1)) := Lib.hid (by omega)
                clear hE3 hsz2
                obtain ⟨hqW, y0, y1, y2, y3, y4, y5, y6, y7⟩ := HQ5.out.bq.eight
                obtain ⟨hpW, x0, x1, x2, x3, x4, x5, x6, x7⟩ := HQ5.out.l.bx.eight
                obtain ⟨f0, f1, f2, f3, f4, f5, f6, f7⟩ := HQ5.out.l.bx.open8
                go_wp2_with fail
                go_roundw
                case rel => exact ⟨k + 1, T ++ (S ++ ⟨#[10]⟩), O2, D2, A2, B2, c2, e2, rfl, rfl, by go_num, by omega, Lib.hid (by have h9 := HTS.out; have h8 : (⟨#[10]⟩ : ByteArray).size = 1 := rfl; rw [ByteArray.size_append, ByteArray.size_append]; omega), HZ2, HV2, Lib.hid (by rw [List.take_add_one, List.getElem?_eq_getElem hlt, wd_eq hlt, HS9.out, Option.toList_some, outB_snoc, ← HTX.out]; simp [bin, ByteArray.data_append]), Lib.hid (by rw [HOL.out, HO2.out, List.append_assoc]), Lib.hid (HQ5.out.l.put HQ5.out.dq)⟩
                case measure => (simp [intOf]; try omega)
      · obtain rfl : k = L.length := by omega
        have HRT : Hid (runR two T = O) := Lib.hid (by
          have h1 := HTX.out
          rw [List.take_length] at h1
          have h3 : T = ⟨(outB L).toArray⟩ := ba_ext (by rw [show T.data.toList = outB L from h1])
          have h4 := HOX.out
          rw [List.drop_length] at h4
          rw [runR, h3, linesOf_join L (fun s hs => (linB_inv (HV.out s hs)).2), h4]
          unfold runL
          rw [List.append_nil]
          exact ba_ext (by simp [bin]))
        have hts := HTS.out
        have hl8 := HL8.out
        have HRD : Hid (∀ V, Tab V → Calls Tryz.prog 12 #[.string T] V fun e w' => e = .returned (.string O) ∧ UpOf V w') := Lib.hid fun V hV => by
          have := runDesk_any h2 T V (by omega) hV
          rw [HRT.out] at this
          exact this
        clear hts hl8
        go_wp2_with fail
        refine (HRD.out _ (HT.out.below HK.out.up.below)).mono ?_
        rintro r w' ⟨rfl, g3, rfl⟩
        go_wp2_with fail
        go_ret
        exact ⟨by simp, HK.out.up.tr (BL.o (by repeat constructor))⟩
end Go.Proofs.YtbianlkenallaaaGreatDoor

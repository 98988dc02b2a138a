/-
  The least moves from one column to another: the reference's. The bounds stand at it.
-/
import Derived.Test.YtbianlkenallaaaGreatDoorMove5
set_option linter.all false
set_option maxHeartbeats 4000000
set_option maxRecDepth 10000
namespace Go.Proofs.YtbianlkenallaaaGreatDoor
open Go.RowKit
def dsl (l : List Int) (tg : Nat) : List Int := (List.range 31).map fun c => (dst l tg c : Int)
theorem dsl_get (l : List Int) (tg : Nat) {c : Nat} (hc : c ≤ 30) : (ics (dsl l tg))[c]? = some (i64 (dst l tg c)) := by
 have : c < 31 := by omega
 simp [ics, dsl, this]
theorem lit3_at {j : Nat} (hj : j < 3) : (⟨#[35, 60, 62]⟩ : ByteArray)[j]'(by show j < 3; exact hj) = mvB j := by
 have h3 : j = 0 ∨ j = 1 ∨ j = 2 := by omega
 rcases h3 with rfl | rfl | rfl <;> rfl
theorem l11Moves_any (c0 tg : Nat) (A : Option Addr) (cap : Nat) (l : List Int) (B : Option Addr) (bc : Nat) (w : World) (hc0 : c0 ≤ 30) (ht : tg ≤ 30) (hv : vStops l = true) (h : Rds w 1 A l.length (ics l)) (hn : l.length ≤ 100000000) (hB : Rds w 1 B 31 (ics (dsl l tg))) :
  Calls Tryz.prog 223 #[.slice A l.length cap, .slice B 31 bc, i64 c0] w fun e w' => e = .returned (.string (bs (planL l tg c0))) ∧ UpOf w w' := by
 have HR := hd_ h
 have HV := hd_ hv
 clear h hv
 obtain ⟨b, off, rfl, hb, hcs⟩ := hB.at (by omega)
 have HCS : Hid (∀ (c : Nat), c ≤ 30 → ∀ g : Up w, (up w g).cell? ⟨b, off + c, none⟩ = some (i64 (dst l tg c))) := hd_ fun c hc g => (g.below.cell (p := ⟨b, off + c, none⟩) hb).trans (hcs c _ (dsl_get l tg hc))
 clear hcs hB hb
 have hOwn := hd_ (World.ownsRow_lit (base := w.heap.size) (e := 5) (size := 1) w #[] 0 (Nat.le_refl _) (by unfold maxLen; omega) rfl)
 go_enter Tryz.func223, Tryz.ntmps223
 go_wp2_with (first | ((with_reducible refine wru ?_); (repeat (go_big_quiet_step (fail))); refine wqn fun nq => ?_))
 go_loopw [7, 8] (fun out cur wr => ∃ (c : Nat) (L : List UInt8) (A1 : Option Addr) (c1 : Nat), c ≤ 30 ∧ cur = i64 c ∧ out = .slice A1 L.length c1 ∧ Hid (planL l tg c0 = L ++ planL l tg c) ∧ Hid (wr.ownsRow w.heap.size 5 1 (.slice A1 L.length c1) L.length (Lib.byteCells L)) ∧ ∃ g : Up w, wr = up w g) (fun _ cur _ => dst l tg (intOf cur).toNat)
 case atStart => exact ⟨c0, [], _, _, hc0, rfl, rfl, hd_ rfl, hd_ hOwn.out, ex_up bw_⟩
 case round =>
  obtain ⟨c, L, A1, c1, hc, rfl, rfl, HP, HO, g1, rfl⟩ := hrel
  clear hOwn
  have hcn : (c : Int) < 31 := by omega
  have hc2 := HCS.out c hc
  by_cases he : c = tg
  ·have hz : dst l tg c = 0 := by rw [he]; exact dst_self l ht
   have hcv := conv_own HO.out rfl (Below.refl _ _)
   have hz1 : decide (0 < dst l tg c) = false := decide_eq_false (by omega)
   have hz2 : ¬ 0 < dst l tg c := by omega
   have HE := hd_ he
   clear hz he
   go_wp2_with (first | ((with_reducible refine wru ?_); (repeat (go_big_quiet_step (fail))); refine wqn fun nq => ?_))
   go_ret
   refine ⟨?_, uw_⟩
   show Ending.returned (.string ⟨L.toArray⟩) = _
   rw [HP.out, HE.out, planL_self l ht, List.append_nil]
  ·have hpos : 0 < dst l tg c := Nat.pos_of_ne_zero fun h0 => he (dst_zero ht hc h0)
   go_wp2_with (first | ((with_reducible refine wru ?_); (repeat (go_big_quiet_step (fail))); refine wqn fun nq => ?_))
   go_loopw [7, 8, 9] (fun out cur jj wr => ∃ j : Nat, j ≤ 3 ∧ cur = i64 c ∧ out = .slice A1 L.length c1 ∧ jj = i64 j ∧ Hid (∀ i, i < j → goodMv l tg c i = none) ∧ Hid (wr.ownsRow w.heap.size 5 1 (.slice A1 L.length c1) L.length (Lib.byteCells L)) ∧ ∃ g : Up w, wr = up w g) (fun _ _ jj _ => 3 - (intOf jj).toNat)
   case atStart => exact ⟨0, by omega, rfl, rfl, rfl, hd_ (fun i hi => by omega), hd_ (own_below HO.out bw_), _, rfl⟩
   case round =>
    obtain ⟨j, hj, rfl, rfl, rfl, HG, HQ, g2, rfl⟩ := hrel
    clear HO
    by_cases hj3 : j < 3
    ·have hj' : (j : Int) < 3 := by omega
     have e3 := lit3_at hj3
     have hL30 : L.length ≤ 30 := by
      have := planL_len l ht hc0
      rw [HP.out, List.length_append] at this
      omega
     cases hm : mvTo l j c with
     | none =>
      have HC : Hid (∀ W, Below w.heap.size w W → Calls Tryz.prog 231 #[.slice A l.length cap, i64 c, .int .u8 ((mvB j).toNat : Int)] W fun e w' => e = .returned (i64 (-1)) ∧ UpOf W w') := hd_ fun W hW => by
       have := l11Next_any j c A cap l W hj3 hc HV.out (HR.out.below hW) hn _ rfl
       rwa [nxX_none hm] at this
      have hg : ∀ i, i < j + 1 → goodMv l tg c i = none := fun i hi => by
       by_cases q : i = j
       ·subst q; unfold goodMv; rw [hm]
       ·exact HG.out i (by omega)
      go_wp2_with (first | (go_at_call 231; refine (HC.out _ bw_).mono ?_; rintro e w' ⟨rfl, g, rfl⟩) | ((with_reducible refine wru ?_); (repeat (go_big_quiet_step (fail))); refine wqn fun nq => ?_))
      go_roundw
      case rel => exact ⟨j + 1, by omega, rfl, rfl, by go_num, hd_ hg, hd_ (own_below HQ.out bw_), _, rfl⟩
      case measure => simp [intOf]; try omega
     | some d =>
      have hd30 := mvTo_bd HV.out hc hm
      have hdn : (d : Int) < 31 := by omega
      have hd0 : (0 : Int) ≤ (d : Int) := by omega
      have HC : Hid (∀ W, Below w.heap.size w W → Calls Tryz.prog 231 #[.slice A l.length cap, i64 c, .int .u8 ((mvB j).toNat : Int)] W fun e w' => e = .returned (i64 d) ∧ UpOf W w') := hd_ fun W hW => by
       have := l11Next_any j c A cap l W hj3 hc HV.out (HR.out.below hW) hn _ rfl
       rwa [nxX_some hm] at this
      have hc1 := HCS.out d hd30
      have hx1 : (dst l tg d : Int) ≤ 30 := by have := (dst_spec l ht hd30).1; omega
      have hx2 : (dst l tg c : Int) ≤ 30 := by have := (dst_spec l ht hc).1; omega
      by_cases e : dst l tg d + 1 = dst l tg c
      ·have ht1 : ((dst l tg d : Int) + 1 == (dst l tg c : Int)) = true := by rw [beq_iff_eq]; omega
       have hgj : goodMv l tg c j = some d := by unfold goodMv; rw [hm]; exact if_pos e
       have hps := hd_ (planL_step hj3 HG.out hgj)
       have hlt : dst l tg d < dst l tg c := by omega
       go_wp2_with (first | (go_at_call 231; refine (HC.out _ bw_).mono ?_; rintro e w' ⟨rfl, g, rfl⟩) | (at_builtin; go_must (refine wpl_appU rfl _ _ 22 rfl w w.heap.size 5 _ 1 1 el_byte (.slice A1 L.length c1) L.length (Lib.byteCells L) rfl (own_below HQ.out bw_) _ 1 1 [.int .u8 ((mvB j).toNat : Int)] rfl (rds_new _ _ _ 1 1 rfl) (fun u hu => by simp at hu; subst hu; rfl) (by unfold maxLen; omega) (by omega) (up_below w _).size bw_ (Nat.le_refl _) ?_; intro A2 c2 g2 o2)) | ((with_reducible refine wru ?_); (repeat (go_big_quiet_step (fail))); refine wqn fun nq => ?_))
       refine ⟨⟨d, L ++ [mvB j], A2, c2, hd30, rfl, congrArg (fun n => Value.slice A2 n c2) (by simp), hd_ (by rw [HP.out, hps.out, List.append_assoc]; rfl), hd_ ?_, _, rfl⟩, by simpa [intOf] using hlt⟩
       rw [show [Value.int .u8 ((mvB j).toNat : Int)] = Lib.byteCells [mvB j] from rfl, byteCells_snoc, show L.length + 1 = (L ++ [mvB j]).length by simp] at o2
       exact o2
      ·have ht1 : ((dst l tg d : Int) + 1 == (dst l tg c : Int)) = false := by rw [beq_eq_false_iff_ne]; omega
       have hg : ∀ i, i < j + 1 → goodMv l tg c i = none := fun i hi => by
        by_cases q : i = j
        ·subst q; unfold goodMv; rw [hm]; exact if_neg e
        ·exact HG.out i (by omega)
       go_wp2_with (first | (go_at_call 231; refine (HC.out _ bw_).mono ?_; rintro e w' ⟨rfl, g, rfl⟩) | ((with_reducible refine wru ?_); (repeat (go_big_quiet_step (fail))); refine wqn fun nq => ?_))
       go_roundw
       case rel => exact ⟨j + 1, by omega, rfl, rfl, by go_num, hd_ hg, hd_ (own_below HQ.out bw_), _, rfl⟩
       case measure => simp [intOf]; try omega
    ·obtain rfl : j = 3 := by omega
     exact (goodMv_ex HV.out ht hc he HG.out).elim
end Go.Proofs.YtbianlkenallaaaGreatDoor

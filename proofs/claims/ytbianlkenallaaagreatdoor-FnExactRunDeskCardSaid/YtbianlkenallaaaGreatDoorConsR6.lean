/-
  A drill's line: the reference's. The bounds stand at it.
-/
import Derived.Test.YtbianlkenallaaaGreatDoorMgE
import Derived.Test.YtbianlkenallaaaGreatDoorMgC
import Derived.Test.YtbianlkenallaaaGreatDoorCodeT4
set_option linter.all false
set_option maxHeartbeats 2000000
namespace Go.Proofs.YtbianlkenallaaaGreatDoor
open Go.RowKit
set_option maxRecDepth 100000 in
theorem conv_take {w w1 : World} {base n c m g : Nat} {l : List UInt8} (h : w.ownsRow base 5 1 (.slice (some ⟨g, 0, none⟩) n c) n (Lib.byteCells l)) (hn : n = l.length) (hm : m ≤ n) (hb : Below w.heap.size w w1) :
  (convert 22 9 (.slice (some ⟨g, 0, none⟩) m c)).run Tryz.prog w1 = .ok (.string ⟨(l.take m).toArray⟩) w1 := by
 subst hn
 have h1 := own_below h hb
 have := run_convert_bytes_back w1 22 9 5 ⟨g, 0, none⟩ c (l.take m) Tryz.underlying22 Tryz.underlying5 Tryz.underlying9 (fun j hj => h1.cells (g := g) rfl j _ (by
  have hj2 : j < l.length := by rw [List.length_take] at hj; omega
  simp [Lib.byteCells, hj2]))
 rw [List.length_take, Nat.min_eq_left hm] at this
 exact this
theorem dlU_snoc (d : Drill) (k : Nat) : dlU d (k + 1) = dlU d k ++ [dlC d k] := by
 simp [dlU, List.range_succ]
set_option maxRecDepth 10000 in
theorem drillLineS_any (d : Drill) (n : Int) (w : World) (h1 : d.name.size ≤ 9223372036854775807) (h2 : d.letters.size ≤ 9223372036854775807) :
  Calls Tryz.prog 160 #[drv d, i64 n] w fun e w' => e = .returned (.tuple #[.string (dlR d n).1, i64 (dlR d n).2]) ∧ UpOf w w' := by
 cases hv : vDrill d with
 | false =>
  have hr := hd_ (show dlR d n = (⟨#[]⟩, 1) by rw [dlR, hv]; rfl)
  go_enter Tryz.func160, Tryz.ntmps160
  go_upto_region 1 with (fail)
  refine wpg (R := fun V => Box V w.heap.size #[.string d.name, .string d.letters, i64 d.minutes] ∧ UpOf w V) ⟨Box.new _ _ _, uw_⟩ (fun V z => ?_)
  obtain ⟨⟨hq, hc⟩, hB⟩ := z
  have c0 := hc 0 _ rfl
  have c1 := hc 1 _ rfl
  have c2 := hc 2 _ rfl
  have HB := hd_ hB
  clear hc hB
  generalize w.heap.size = q at *
  go_wp2_with (first | (go_at_call 143; refine (ret_as (l21One_any d _ h1 h2) hv).mono ?_; rintro e w' ⟨rfl, g, rfl⟩) | ((with_reducible refine wru ?_); (repeat (go_big_quiet_step (fail))); refine wqn fun nq => ?_))
  go_ret2
  rw [hr.out]
  exact ⟨rfl, HB.out.tr bw_⟩
 | true =>
  cases hb : btw n 1 80 with
  | false =>
   have hr := hd_ (show dlR d n = (⟨#[]⟩, 2) by rw [dlR, hv, hb]; rfl)
   go_enter Tryz.func160, Tryz.ntmps160
   go_upto_region 1 with (fail)
   refine wpg (R := fun V => Box V w.heap.size #[.string d.name, .string d.letters, i64 d.minutes] ∧ UpOf w V) ⟨Box.new _ _ _, uw_⟩ (fun V z => ?_)
   obtain ⟨⟨hq, hc⟩, hB⟩ := z
   have c0 := hc 0 _ rfl
   have c1 := hc 1 _ rfl
   have c2 := hc 2 _ rfl
   have HB := hd_ hB
   clear hc hB
   generalize w.heap.size = q at *
   go_wp2_with (first | (go_at_call 143; refine (ret_as (l21One_any d _ h1 h2) hv).mono ?_; rintro e w' ⟨rfl, g, rfl⟩) | (go_at_call 141; refine (ret_as (in_any n 1 80 _) hb).mono ?_; rintro e w' ⟨rfl, rfl⟩) | ((with_reducible refine wru ?_); (repeat (go_big_quiet_step (fail))); refine wqn fun nq => ?_))
   go_ret2
   rw [hr.out]
   exact ⟨rfl, HB.out.tr bw_⟩
  | true =>
   have hr := hd_ (show dlR d n = (bs (dlA d n.toNat), 0) by rw [dlR, hv, hb]; rfl)
   have hbb := btw_true hb
   obtain ⟨N, rfl⟩ : ∃ N : Nat, n = (N : Int) := ⟨n.toNat, by omega⟩
   have hN1 : 1 ≤ N := by omega
   have hN2 : N ≤ 80 := by omega
   have hinv := vDrill_inv hv
   have hl0 : 0 < d.letters.size := hinv.2.1
   have hl8 : d.letters.size ≤ 8 := (txtB_inv hinv.2.2.1).1
   have HNE : Hid (∀ i, i % 4 ≠ 3 → dlC d i ≠ 32) := hd_ fun i hi he => by
    rw [dlC, if_neg hi] at he
    have := (txtB_inv hinv.2.2.1).2 (i / 4 % d.letters.size) (Nat.mod_lt _ hl0)
    rw [he] at this
    exact absurd this.1 (by decide)
   clear hinv hbb
   go_enter Tryz.func160, Tryz.ntmps160
   go_upto_region 1 with (fail)
   refine wpg (R := fun V => Box V w.heap.size #[.string d.name, .string d.letters, i64 d.minutes] ∧ UpOf w V) ⟨Box.new _ _ _, uw_⟩ (fun V z => ?_)
   obtain ⟨⟨hq, hc⟩, hB⟩ := z
   have c0 := hc 0 _ rfl
   have c1 := hc 1 _ rfl
   have c2 := hc 2 _ rfl
   have HB := hd_ hB
   clear hc hB
   generalize w.heap.size = q at *
   go_wp2_with fail
   refine (ret_as (l21One_any d _ h1 h2) hv).mono ?_
   rintro e w' ⟨rfl, g1, rfl⟩
   go_wp2_with fail
   refine (ret_as (in_any (N : Int) 1 80 _) hb).mono ?_
   rintro e w' ⟨rfl, rfl⟩
   go_upto_region 5 with (fail)
   refine wpg (R := fun U => UpOf V U) (uw_) (fun V2 z => ?_)
   have HV2 := hd_ (HB.out.tr z.below)
   have d0 := (z.below.cell (p := ⟨q, 0, none⟩) hq).trans c0
   have d1 := (z.below.cell (p := ⟨q, 1, none⟩) hq).trans c1
   have d2 := (z.below.cell (p := ⟨q, 2, none⟩) hq).trans c2
   have hq2 := Nat.lt_of_lt_of_le hq z.below.size
   have HOw := hd_ (World.ownsRow_lit (base := V2.heap.size) (e := 5) (size := 1) V2 #[] 0 (Nat.le_refl _) (by unfold maxLen; omega) rfl)
   clear z c0 c1 c2 hq hv hb
   go_wp2_with fail
   go_loopw [6, 7] (fun t6 t7 wr => ∃ (k : Nat) (L : List UInt8) (A1 : Option Addr) (c1 : Nat), k ≤ N ∧ t7 = i64 k ∧ t6 = .slice A1 L.length c1 ∧ Hid (L = dlU d k) ∧ Hid (L.length = k) ∧ Hid (wr.ownsRow V2.heap.size 5 1 (.slice A1 L.length c1) L.length (Lib.byteCells L)) ∧ ∃ g : Up V2, wr = up V2 g) (fun _ t7 _ => N - (intOf t7).toNat)
   case atStart => exact ⟨0, [], _, _, by omega, rfl, rfl, hd_ rfl, hd_ rfl, hd_ HOw.out, ex_up bw_⟩
   case round =>
    clear HOw
    obtain ⟨k, L, A1, c1, hk, rfl, rfl, HE, HLL, HO, g, rfl⟩ := hrel
    by_cases hlt : k < N
    ·have hlt' : (k : Int) < (N : Int) := by omega
     have HE2 := hd_ (show L ++ [dlC d k] = dlU d (k + 1) by rw [dlU_snoc, HE.out])
     have HLk : L.length ≤ 80 := by rw [HLL.out]; omega
     have HLL2 := hd_ (show (L ++ [dlC d k]).length = k + 1 by rw [List.length_append, HLL.out]; rfl)
     by_cases h4 : k % 4 = 3
     ·have h4' : (k : Int) % 4 = 3 := by omega
      have hch : dlC d k = 32 := by rw [dlC, if_pos h4]
      rw [hch] at HE2 HLL2
      clear hch h4
      go_wp2_with (first | (at_builtin; go_must (refine wpl_appU rfl _ _ 22 rfl V2 V2.heap.size 5 _ 1 1 el_byte (.slice A1 L.length c1) L.length (Lib.byteCells L) rfl (own_below HO.out bw_) _ 1 1 [.int .u8 32] rfl (rds_new _ #[.int .u8 32] _ 1 1 rfl) (fun u hu => by simp at hu; subst hu; rfl) (by unfold maxLen; omega) (by omega) (up_below V2 _).size bw_ (Nat.le_refl _) ?_; intro A2 c2 g2 o2)) | ((with_reducible refine wru ?_); (repeat (go_big_quiet_step (fail))); refine wqn fun nq => ?_))
      go_roundw
      case rel => exact ⟨k + 1, L ++ [32], A2, c2, by omega, by go_num, congrArg (fun n => Value.slice A2 n c2) (by simp), HE2, HLL2, hd_ (by rw [List.length_append]; simpa [Lib.byteCells] using o2), ex_up bw_⟩
      case measure => simp [intOf]; try omega
     ·have h4' : ¬ (k : Int) % 4 = 3 := by omega
      obtain ⟨a, ha⟩ : ∃ a, k / 4 % d.letters.size = a := ⟨_, rfl⟩
      have hal : a < d.letters.size := by rw [← ha]; exact Nat.mod_lt _ hl0
      have hdv : (k : Int) / 4 = ((k / 4 : Nat) : Int) := by omega
      have hmod : ((k / 4 : Nat) : Int) % (d.letters.size : Int) = (a : Int) := by rw [← ha]; rfl
      have hch : dlC d k = byteAt d.letters a := by rw [dlC, if_neg h4, ha]
      have hbe := byteAt_eq hal
      rw [← hbe] at hch
      obtain ⟨qk, hqk⟩ : ∃ qk, k / 4 = qk := ⟨_, rfl⟩
      rw [hqk] at hdv hmod
      obtain ⟨ch, hc9⟩ : ∃ ch, d.letters[a] = ch := ⟨_, rfl⟩
      rw [hc9] at hch
      rw [hch] at HE2 HLL2
      have hal' : (a : Int) < (d.letters.size : Int) := by omega
      have hz1 : ((d.letters.size : Int) == 0) = false := by rw [beq_eq_false_iff_ne]; omega
      have hz2 : ¬ (d.letters.size : Int) = 0 := by omega
      have hz3 : ¬ d.letters.size = 0 := by omega
      have hmt : Int.tmod (qk : Int) (d.letters.size : Int) = (a : Int) := by rw [Int.tmod_eq_emod_of_nonneg (by omega)]; exact hmod
      have hqw : IntKind.i64.wrap (qk : Int) = (qk : Int) := by rw [IntKind.wrap_i64]; omega
      have hwr : IntKind.i64.wrap (a : Int) = (a : Int) := by rw [IntKind.wrap_i64]; omega
      clear hch h4 ha hbe hqk
      go_wp2_with fail
      go_region_held3 (fun w' => (V2).heap.size ≤ w'.heap.size ∧ ∀ b o, b < (V2).heap.size → w'.cell? ⟨b, o, none⟩ = (V2).cell? ⟨b, o, none⟩) (exact sm_of bw_) (first | (refine step_appU rfl _ _ 22 (by rfl) V2 V2.heap.size 5 _ 1 1 el_byte _ L.length _ (by rfl) (own_below HO.out bw_) _ 1 1 [.int .u8 (ch.toNat : Int)] (by rfl) (by first | exact rds_new _ #[.int .u8 (ch.toNat : Int)] _ 1 1 rfl | exact (rds_new _ #[.int .u8 (ch.toNat : Int)] _ 1 1 rfl).below bw_) (fun u hu => by simp at hu; subst hu; rfl) (by unfold maxLen; omega) (by omega) (show Below V2.heap.size V2 _ from bw_).size bw_ (Nat.le_refl _) ?_; intro A2 c2 g2 o2))
      all_goals
       go_wp2_with fail
       go_roundw
       case rel => exact ⟨k + 1, L ++ [ch], A2, c2, by omega, by go_num, congrArg (fun n => Value.slice A2 n c2) (by simp), HE2, HLL2, hd_ (by rw [List.length_append]; simpa [Lib.byteCells] using o2), ex_up bw_⟩
       case measure => simp [intOf]; try omega
    ·obtain rfl : k = N := by omega
     have hL0 : 0 < L.length := by rw [HLL.out]; omega
     obtain ⟨gb, rfl⟩ := own_someT HO.out hL0
     have hcap := own_capD HO.out
     have hLl := HLL.out
     rw [hLl] at hcap
     have hgb := Rds.of_own HO.out
     obtain ⟨m, hm⟩ : ∃ m, k - 1 = m := ⟨_, rfl⟩
     have hlast : (up V2 g).cell? ⟨gb, m, none⟩ = some (.int .u8 ((dlC d m).toNat : Int)) := by
      obtain ⟨b9, o9, e9, -, hc9⟩ := hgb.2 (by omega)
      injection e9 with e9
      injection e9 with e91 e92
      subst e91 e92
      have := hc9 m (.int .u8 ((dlC d m).toNat : Int)) (by
       have hmk : m < k := by omega
       rw [HE.out]
       simp [Lib.byteCells, dlU, hmk])
      rwa [Nat.zero_add] at this
     have hgl := (HO.out.lt gb rfl).2
     have hkm : (k : Int) - 1 = (m : Int) := by omega
     have hmk : (m : Int) < (k : Int) := by omega
     have hmc : (m : Int) ≤ (c1 : Int) := by omega
     by_cases h4 : k % 4 = 0
     ·have hch : dlC d m = 32 := by rw [dlC, if_pos (by omega)]
      rw [hch] at hlast
      have hlast' : (up V2 g).cell? ⟨gb, m, none⟩ = some (.int .u8 32) := hlast
      have HF := hd_ (show (bs (dlA d k) : ByteArray) = ⟨(L.take m).toArray⟩ by
       rw [dlA, if_pos h4, HE.out, dlU_take d (by omega), hm])
      have hcv := conv_take (w1 := up V2 g) (m := m) HO.out rfl (by omega) (Below.refl _ _)
      clear hlast hch h4 hm hgb hL0
      go_wp2_with fail
      go_ret2
      rw [hr.out]
      rw [Int.toNat_natCast, HF.out]
      exact ⟨rfl, HV2.out.tr (up_below _ _)⟩
     ·have hch : ((dlC d m).toNat : Int) ≠ 32 := fun e => HNE.out m (by omega) (UInt8.toNat_inj.1 (by rw [show ((32 : UInt8).toNat) = 32 from rfl]; omega))
      have hch' : (((dlC d m).toNat : Int) == 32) = false := by rw [beq_eq_false_iff_ne]; exact hch
      have HF := hd_ (show (bs (dlA d k) : ByteArray) = ⟨L.toArray⟩ by
       rw [dlA, if_neg h4, HE.out])
      have hcv := conv_own (w := up V2 g) (w1 := up V2 g) HO.out rfl (Below.refl _ _)
      rw [hLl] at hcv
      clear hch h4 hm hgb hL0
      go_wp2_with fail
      go_ret2
      rw [hr.out]
      rw [Int.toNat_natCast, HF.out]
      exact ⟨rfl, HV2.out.tr (up_below _ _)⟩
end Go.Proofs.YtbianlkenallaaaGreatDoor

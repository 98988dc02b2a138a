/-
  Common parts, put together: SetL3, Drill2, Dk6, Dc1, Dc2, Dc3, AlignQ, AlignM, Align1, Align2, Align3, Align4, Dc5, Dc6, DcNP, DcKN, DcSp, DcKT, DcK5, DcK7, DcK11.
-/
import Derived.Test.YtbianlkenallaaaGreatDoorMgD
import Derived.Test.YtbianlkenallaaaGreatDoorMgC
import Derived.Deep.DeepCutAuto
import Derived.Test.YtbianlkenallaaaGreatDoorMgA
import Derived.Test.YtbianlkenallaaaGreatDoorMgB
set_option linter.all false
set_option maxHeartbeats 8000000
set_option maxRecDepth 10000
namespace Go.Proofs.YtbianlkenallaaaGreatDoor
open Go.RowKit
theorem longL_one {ws : List ByteArray} (h : ws.length = 1) : longL ws = (wd ws 0).size := by
 have e : sizes ws 1 = (wd ws 0).size := by rw [sizes, sizes]; omega
 rw [longL, h, e]
 split <;> omega
theorem longL_nn (ws : List ByteArray) : 0 ≤ longL ws := by rw [longL]; split <;> omega
theorem setLine_any (n : Int) (A : Option Addr) (c : Nat) (ws : List ByteArray) (w : World) (h : Rds w 1 A ws.length (strs ws)) (hc : ws.length ≤ c) (h1 : 1 ≤ ws.length) (hv : vText ws n = true) (hl : longL ws ≤ n) :
  Calls Tryz.prog 133 #[.slice A ws.length c, i64 n] w fun e w' => e = .returned (.string (bs (setA ws n))) ∧ UpOf w w' := by
 obtain ⟨⟨hn1, hn2⟩, h40, hws⟩ := vText_inv hv
 have HW := hd_ hws
 have HR := hd_ h
 have hWB : Hid (WBd ws) := hd_ fun i hi => by have := (hws i hi).2; omega
 obtain ⟨b, off, rfl, hb, c0⟩ := wd_at h (i := 0) (by omega)
 have HC0 := hd_ c0
 have hw0 := (hws 0 (by omega)).2
 clear hws hv h
 have k0 := HC0.out 0 (by omega)
 rw [Nat.add_zero] at k0
 by_cases he : ws.length = 1
 ·have hz1 : ((ws.length : Int) == 1) = true := by rw [beq_iff_eq]; omega
  have hln := longL_one he
  have hres : Hid (setA ws n = (wd ws 0).data.toList ++ List.replicate (n - ((wd ws 0).size : Int)).toNat 32) := hd_ (by rw [setA, if_pos he, hln])
  have hs0 : (wd ws 0).size ≤ 80 := by omega
  have hrep : Hid (∀ V : World, Calls Tryz.prog 136 #[.string (bs [32]), i64 (n - ((wd ws 0).size : Int))] V fun e w' => e = .returned (.string (bs (List.replicate (n - ((wd ws 0).size : Int)).toNat 32))) ∧ UpOf V w') := hd_ fun V => repeat_any 32 _ V (by omega) (by omega)
  have hsz : (bs (List.replicate (n - ((wd ws 0).size : Int)).toNat 32)).size ≤ 80 := by rw [bs_size, List.length_replicate]; omega
  obtain ⟨R, hR⟩ : ∃ R, bs (List.replicate (n - ((wd ws 0).size : Int)).toNat 32) = R := ⟨_, rfl⟩
  have HRd := hd_ hR
  rw [hR] at hsz hrep
  clear hln hR
  go_enter Tryz.func133, Tryz.ntmps133
  go_wp2_with (first | (go_at_call 136; refine (hrep.out _).mono ?_; rintro e w' ⟨rfl, g, rfl⟩))
  go_ret
  refine ⟨?_, uw_⟩
  show Ending.returned (.string _) = _
  rw [hres.out, ← HRd.out]
  congr 2
 ·have hz1 : ((ws.length : Int) == 1) = false := by rw [beq_eq_false_iff_ne]; omega
  obtain ⟨G, hG⟩ : ∃ G, ws.length = G + 1 := ⟨ws.length - 1, by omega⟩
  obtain ⟨LL, hLL⟩ : ∃ l, longL ws = l := ⟨_, rfl⟩
  have hl0 : 0 ≤ LL := by rw [← hLL]; exact longL_nn ws
  have HLL : Hid (∀ V, Below w.heap.size w V → Calls Tryz.prog 132 #[.slice (some ⟨b, off, none⟩) (G + 1) c] V fun e w' => e = .returned (i64 LL) ∧ V = w') := hd_ fun V hV => by
   have := lineLength_any _ c _ V (HR.out.below hV) (by omega) hWB.out
   rw [hLL, hG] at this
   exact this
  have hres : Hid (setA ws n = setU ws (n - LL) G G) := hd_ (by
   rw [setA, if_neg he, hLL, hG]; congr 1; omega)
  have hcc : ¬ c = 1 := by omega
  have hG0 : 0 < G := by omega
  have hG40 : G ≤ 39 := by omega
  rw [hLL] at hl
  rw [hG] at hz1 hc
  have HG := hd_ hG
  clear hLL he h40 h1
  go_enter Tryz.func133, Tryz.ntmps133
  go_wp2_with (first | (go_at_call 132; refine (HLL.out _ bw_).mono ?_; rintro e w' ⟨rfl, rfl⟩))
  obtain ⟨own, hown⟩ : ∃ o, (n - LL + (G : Int)) / (G : Int) = o := ⟨_, rfl⟩
  obtain ⟨rm, hrm⟩ : ∃ o, (n - LL + (G : Int)) % (G : Int) = o := ⟨_, rfl⟩
  have hG1 : (G : Int) ≠ 0 := by omega
  have ho1 : own = (n - LL) / (G : Int) + 1 := by
   rw [← hown]
   have := Int.add_mul_ediv_right (n - LL) 1 hG1
   rwa [Int.one_mul] at this
  have ho2 : 1 ≤ own ∧ own ≤ 81 := by
   have h1 := Int.ediv_nonneg (a := n - LL) (b := (G : Int)) (by omega) (by omega)
   have h2 := Int.ediv_le_self (a := n - LL) (G : Int) (by omega)
   omega
  have hr1 : rm = (n - LL) % (G : Int) := by
   rw [← hrm]
   have := Int.add_mul_emod_self_right (n - LL) 1 (G : Int)
   rwa [Int.one_mul] at this
  have hgap : Hid (∀ k : Nat, gapN (n - LL) G (k + 1) = if (k : Int) < rm then own + 1 else own) := hd_ fun k => by
   rw [gapN, ← hr1, ho1]
   by_cases q : (k : Int) < rm
   ·rw [if_pos q, if_pos (by omega)]; omega
   ·rw [if_neg q, if_neg (by omega)]; omega
  obtain ⟨ho2, ho3⟩ := ho2
  clear ho1 hr1 hG1 hG
  go_loopw [5, 36] (fun t5 t36 wr => ∃ (k : Nat) (T : List UInt8), k ≤ G ∧ t36 = i64 k ∧ t5 = .string (bs T) ∧ Hid (T = setU ws (n - LL) G k) ∧ Hid (T.length ≤ 80 + 300 * k) ∧ ∃ g : Up w, wr = up w g) (fun _ t36 _ => G - (intOf t36).toNat)
  case atStart => exact ⟨0, (wd ws 0).data.toList, by omega, rfl, by rw [bs_of], hd_ rfl, hd_ (by show (wd ws 0).size ≤ _; omega), ex_up bw_⟩
  case round =>
   obtain ⟨k, T, hk, rfl, rfl, HT, HTl, g, rfl⟩ := hrel
   by_cases hlt : k < G
   ·have hlt' : (k : Int) < (G : Int) := by omega
    have k1 := HC0.out (k + 1) (by rw [HG.out]; omega)
    rw [show off + (k + 1) = off + 1 + k by omega] at k1
    have hsz : (wd ws (k + 1)).size ≤ 80 := by have := (HW.out (k + 1) (by rw [HG.out]; omega)).2; omega
    have hTl : T.length ≤ 80 + 300 * k := HTl.out
    by_cases hq : (k : Int) < rm
    ·obtain ⟨R, hR⟩ : ∃ R, bs (List.replicate (own + 1).toNat 32) = R := ⟨_, rfl⟩
     have hRz : R.size ≤ 100 := by rw [← hR, bs_size, List.length_replicate]; omega
     have hrep : Hid (∀ V : World, Calls Tryz.prog 136 #[.string (bs [32]), i64 (own + 1)] V fun e w' => e = .returned (.string R) ∧ UpOf V w') := hd_ fun V => by
      rw [← hR]; exact repeat_any 32 _ V (by omega) (by omega)
     have HT2 : Hid (T ++ (R.data.toList ++ (wd ws (k + 1)).data.toList) = setU ws (n - LL) G (k + 1)) := hd_ (by
      rw [setU, hgap.out, if_pos hq, HT.out, ← hR, bs_list])
     have HTl2 : Hid ((T ++ (R.data.toList ++ (wd ws (k + 1)).data.toList)).length ≤ 80 + 300 * (k + 1)) := hd_ (by
      rw [List.length_append, List.length_append, bsz, bsz]; omega)
     clear hR HT
     go_wp2_with (first | (go_at_call 136; refine (hrep.out _).mono ?_; rintro e w' ⟨rfl, g, rfl⟩))
     go_roundw
     case rel => exact ⟨k + 1, _, by omega, by go_num, congrArg Value.string (by apply ByteArray.ext; apply Array.ext'; simp), HT2, HTl2, ex_up bw_⟩
     case measure => simp [intOf]; try omega
    ·obtain ⟨R, hR⟩ : ∃ R, bs (List.replicate own.toNat 32) = R := ⟨_, rfl⟩
     have hRz : R.size ≤ 100 := by rw [← hR, bs_size, List.length_replicate]; omega
     have hrep : Hid (∀ V : World, Calls Tryz.prog 136 #[.string (bs [32]), i64 own] V fun e w' => e = .returned (.string R) ∧ UpOf V w') := hd_ fun V => by
      rw [← hR]; exact repeat_any 32 _ V (by omega) (by omega)
     have HT2 : Hid (T ++ (R.data.toList ++ (wd ws (k + 1)).data.toList) = setU ws (n - LL) G (k + 1)) := hd_ (by
      rw [setU, hgap.out, if_neg hq, HT.out, ← hR, bs_list])
     have HTl2 : Hid ((T ++ (R.data.toList ++ (wd ws (k + 1)).data.toList)).length ≤ 80 + 300 * (k + 1)) := hd_ (by
      rw [List.length_append, List.length_append, bsz, bsz]; omega)
     clear hR HT
     go_wp2_with (first | (go_at_call 136; refine (hrep.out _).mono ?_; rintro e w' ⟨rfl, g, rfl⟩))
     go_roundw
     case rel => exact ⟨k + 1, _, by omega, by go_num, congrArg Value.string (by apply ByteArray.ext; apply Array.ext'; simp), HT2, HTl2, ex_up bw_⟩
     case measure => simp [intOf]; try omega
   ·obtain rfl : k = G := by omega
    have hfin := hd_ (show setA ws n = T by rw [hres.out, HT.out])
    clear HT
    go_wp2_with fail
    go_ret
    rw [hfin.out]
    exact ⟨rfl, uw_⟩
theorem setLineR_any (n : Int) (A : Option Addr) (c : Nat) (ws : List ByteArray) (w : World) (h : Rds w 1 A ws.length (strs ws)) (hc : ws.length ≤ c) (hn : ws.length ≤ 100000000) (hf : WBd ws) :
  Calls Tryz.prog 80 #[.slice A ws.length c, i64 n] w fun e w' => e = .returned (.tuple #[.string (setR ws n).1, i64 (setR ws n).2]) ∧ UpOf w w' := by
 have HR := hd_ h
 have HF := hd_ hf
 clear h hf
 cases hv : vText ws n with
 | false =>
  have hr := hd_ (show setR ws n = (⟨#[]⟩, 1) by rw [setR, hv]; rfl)
  go_enter Tryz.func80, Tryz.ntmps80
  go_wp2_with (first | (go_at_call 131; refine (ret_as (validText_any n A c ws _ (HR.out.below bw_) hn HF.out) hv).mono ?_; rintro e w' ⟨rfl, g, rfl⟩))
  go_ret2
  rw [hr.out]
  exact ⟨rfl, uw_⟩
 | true =>
  obtain ⟨LL, hLL⟩ : ∃ l, longL ws = l := ⟨_, rfl⟩
  have HLL : Hid (∀ V, Below w.heap.size w V → Calls Tryz.prog 132 #[.slice A ws.length c] V fun e w' => e = .returned (i64 LL) ∧ V = w') := hd_ fun V hV => by
   have := lineLength_any _ c _ V (HR.out.below hV) (by omega) HF.out
   rw [hLL] at this
   exact this
  by_cases hl : n < LL
  ·have hr := hd_ (show setR ws n = (⟨#[]⟩, 5) by rw [setR, hv, if_pos rfl, hLL, if_pos hl])
   clear hLL
   go_enter Tryz.func80, Tryz.ntmps80
   go_wp2_with (first | (go_at_call 131; refine (ret_as (validText_any n A c ws _ (HR.out.below bw_) hn HF.out) hv).mono ?_; rintro e w' ⟨rfl, g, rfl⟩) | (go_at_call 132; refine (HLL.out _ bw_).mono ?_; rintro e w' ⟨rfl, rfl⟩))
   go_ret2
   rw [hr.out]
   exact ⟨rfl, uw_⟩
  ·by_cases h0 : ws.length = 0
   ·have h0' : ((ws.length : Int) == 0) = true := by rw [beq_iff_eq]; omega
    have hr := hd_ (show setR ws n = (⟨#[]⟩, 3) by rw [setR, hv, if_pos rfl, hLL, if_neg hl, if_pos h0])
    clear hLL h0
    go_enter Tryz.func80, Tryz.ntmps80
    go_wp2_with (first | (go_at_call 131; refine (ret_as (validText_any n A c ws _ (HR.out.below bw_) hn HF.out) hv).mono ?_; rintro e w' ⟨rfl, g, rfl⟩) | (go_at_call 132; refine (HLL.out _ bw_).mono ?_; rintro e w' ⟨rfl, rfl⟩))
    go_ret2
    rw [hr.out]
    exact ⟨rfl, uw_⟩
   ·have h0' : ((ws.length : Int) == 0) = false := by rw [beq_eq_false_iff_ne]; omega
    have hr := hd_ (show setR ws n = (bs (setA ws n), 0) by rw [setR, hv, if_pos rfl, hLL, if_neg hl, if_neg h0])
    have HL2 := hd_ (show longL ws ≤ n by omega)
    clear hLL
    go_enter Tryz.func80, Tryz.ntmps80
    go_wp2_with (first | (go_at_call 131; refine (ret_as (validText_any n A c ws _ (HR.out.below bw_) hn HF.out) hv).mono ?_; rintro e w' ⟨rfl, g, rfl⟩) | (go_at_call 132; refine (HLL.out _ bw_).mono ?_; rintro e w' ⟨rfl, rfl⟩) | (go_at_call 133; refine (setLine_any n A c ws _ (HR.out.below bw_) hc (by omega) hv HL2.out).mono ?_; rintro e w' ⟨rfl, g, rfl⟩))
    go_ret2
    rw [hr.out]
    exact ⟨rfl, uw_⟩
theorem dlU_len (d : Drill) (n : Nat) : (dlU d n).length = n := by simp [dlU]
theorem dlU_get (d : Drill) {n i : Nat} (h : i < n) : (dlU d n)[i]? = some (dlC d i) := by simp [dlU, h]
theorem dlU_four (d : Drill) (k : Nat) : dlU d (4 * (k + 1)) = dlU d (4 * k) ++ (List.replicate 3 (byteAt d.letters (k % d.letters.size)) ++ [32]) := by
 have e : ∀ r, r < 4 → (4 * k + r) % 4 = r ∧ (4 * k + r) / 4 = k := fun r hr => by omega
 rw [show 4 * (k + 1) = 4 * k + 1 + 1 + 1 + 1 by omega]
 simp only [dlU, List.range_succ, List.map_append, List.map_cons, List.map_nil, List.append_assoc]
 congr 1
 simp only [List.replicate, List.cons_append, List.nil_append]
 have f0 := e 0 (by omega)
 have f1 := e 1 (by omega)
 have f2 := e 2 (by omega)
 have f3 := e 3 (by omega)
 rw [Nat.add_zero] at f0
 simp only [dlC, f0, show 4 * k + 1 + 1 = 4 * k + 2 from rfl, show 4 * k + 1 + 1 + 1 = 4 * k + 3 from rfl, f1, f2, f3]
 simp
theorem dlU_take (d : Drill) {n m : Nat} (h : n ≤ m) : (dlU d m).take n = dlU d n := by
 simp only [dlU, ← List.map_take, List.take_range, Nat.min_eq_left h]
theorem dl_trim {d : Drill} (hv : vDrill d = true) {n : Nat} (h1 : 1 ≤ n) : ∃ e, e ≤ n ∧ dlA d n = dlU d e ∧ (e = 0 ∨ dlC d (e - 1) ≠ 32) ∧ ∀ i, e ≤ i → i < n → dlC d i = 32 := by
 obtain ⟨_, b, c, _, _⟩ := vDrill_inv hv
 have hl : ∀ i, i % 4 ≠ 3 → dlC d i ≠ 32 := fun i hi he => by
  rw [dlC, if_neg hi] at he
  have := (txtB_inv c).2 (i / 4 % d.letters.size) (Nat.mod_lt _ b)
  rw [he] at this
  exact absurd this.1 (by decide)
 by_cases h4 : n % 4 = 0
 ·refine ⟨n - 1, by omega, by rw [dlA, if_pos h4], .inr (hl _ (by omega)), fun i hi hin => ?_⟩
  rw [dlC, if_pos (by omega)]
 ·refine ⟨n, Nat.le_refl _, by rw [dlA, if_neg h4], .inr (hl _ (by omega)), fun i hi hin => by omega⟩
theorem drillLine_any (d : Drill) (n : Int) (w : World) (h1 : d.name.size ≤ 9223372036854775807) (h2 : d.letters.size ≤ 9223372036854775807) :
  Calls Tryz.prog 84 #[drv d, i64 n] w fun e w' => e = .returned (.tuple #[.string (dlR d n).1, i64 (dlR d n).2]) ∧ UpOf w w' := by
 cases hv : vDrill d with
 | false =>
  have hr := hd_ (show dlR d n = (⟨#[]⟩, 1) by rw [dlR, hv]; rfl)
  go_enter Tryz.func84, Tryz.ntmps84
  go_upto_region 1 with (fail)
  refine wpg (R := fun V => Box V w.heap.size #[.string d.name, .string d.letters, i64 d.minutes] ∧ UpOf w V) ⟨Box.new _ _ _, uw_⟩ (fun V z => ?_)
  obtain ⟨⟨hq, hc⟩, hB⟩ := z
  have c0 := hc 0 _ rfl
  have c1 := hc 1 _ rfl
  have c2 := hc 2 _ rfl
  have HB := hd_ hB
  clear hc hB
  generalize w.heap.size = q at *
  go_wp2_with (first | (go_at_call 119; refine (ret_as (validDrill_any d _ h1 h2) hv).mono ?_; rintro e w' ⟨rfl, g, rfl⟩))
  go_ret2
  rw [hr.out]
  exact ⟨rfl, HB.out.tr bw_⟩
 | true =>
  cases hb : btw n 1 80 with
  | false =>
   have hr := hd_ (show dlR d n = (⟨#[]⟩, 2) by rw [dlR, hv, hb]; rfl)
   go_enter Tryz.func84, Tryz.ntmps84
   go_upto_region 1 with (fail)
   refine wpg (R := fun V => Box V w.heap.size #[.string d.name, .string d.letters, i64 d.minutes] ∧ UpOf w V) ⟨Box.new _ _ _, uw_⟩ (fun V z => ?_)
   obtain ⟨⟨hq, hc⟩, hB⟩ := z
   have c0 := hc 0 _ rfl
   have c1 := hc 1 _ rfl
   have c2 := hc 2 _ rfl
   have HB := hd_ hB
   clear hc hB
   generalize w.heap.size = q at *
   go_wp2_with (first | (go_at_call 119; refine (ret_as (validDrill_any d _ h1 h2) hv).mono ?_; rintro e w' ⟨rfl, g, rfl⟩) | (go_at_call 118; refine (ret_as (between_any n 1 80 _) hb).mono ?_; rintro e w' ⟨rfl, rfl⟩))
   go_ret2
   rw [hr.out]
   exact ⟨rfl, HB.out.tr bw_⟩
  | true =>
   have hr := hd_ (show dlR d n = (bs (dlA d n.toNat), 0) by rw [dlR, hv, hb]; rfl)
   have hbb := btw_true hb
   obtain ⟨N, rfl⟩ : ∃ N : Nat, n = (N : Int) := ⟨n.toNat, by omega⟩
   have hN1 : 1 ≤ N := by omega
   have hN2 : N ≤ 80 := by omega
   have hinv := vDrill_inv hv
   have hl0 : 0 < d.letters.size := hinv.2.1
   have hl8 : d.letters.size ≤ 8 := (txtB_inv hinv.2.2.1).1
   have HV := hd_ hv
   obtain ⟨sz, hsz⟩ : ∃ sz, d.letters.size = sz := ⟨_, rfl⟩
   have HSZ := hd_ hsz
   clear hinv hbb
   rw [hsz] at hl0 hl8
   go_enter Tryz.func84, Tryz.ntmps84
   go_upto_region 1 with (fail)
   refine wpg (R := fun V => Box V w.heap.size #[.string d.name, .string d.letters, i64 d.minutes] ∧ UpOf w V) ⟨Box.new _ _ _, uw_⟩ (fun V z => ?_)
   obtain ⟨⟨hq, hc⟩, hB⟩ := z
   have c0 := hc 0 _ rfl
   have c1 := hc 1 _ rfl
   have c2 := hc 2 _ rfl
   have HB := hd_ hB
   clear hc hB
   generalize w.heap.size = q at *
   go_wp2_with (first | (go_at_call 119; refine (ret_as (validDrill_any d _ h1 h2) hv).mono ?_; rintro e w' ⟨rfl, g, rfl⟩) | (go_at_call 118; refine (ret_as (between_any _ 1 80 _) hb).mono ?_; rintro e w' ⟨rfl, rfl⟩))
   clear hv hb
   go_loopw [6, 7] (fun t6 t7 wr => ∃ (k : Nat) (S : ByteArray), S.size = 4 * k ∧ 4 * k ≤ N + 3 ∧ t7 = i64 k ∧ t6 = .string S ∧ Hid (S = bs (dlU d (4 * k))) ∧ ∃ g : Up V, wr = up V g) (fun _ t7 _ => 30 - (intOf t7).toNat)
   case atStart => exact ⟨0, ⟨#[]⟩, rfl, by omega, rfl, rfl, hd_ rfl, ex_up bw_⟩
   case round =>
    obtain ⟨k, S, hS, hk, rfl, rfl, HE, g, rfl⟩ := hrel
    by_cases hlt : 4 * k < N
    ·have hlt' : (4 * (k : Int)) < (N : Int) := by omega
     obtain ⟨a, ha⟩ : ∃ a, k % sz = a := ⟨_, rfl⟩
     have ha1 : a < sz := by rw [← ha]; exact Nat.mod_lt _ hl0
     have hmod : (k : Int) % (sz : Int) = (a : Int) := by rw [← ha]; rfl
     have hsl : ∀ wx : World, (Instr.slice 9 (.string d.letters) (some (i64 a)) (some (.int .i64 ((a : Int) + 1))) none).run Tryz.prog wx = .ok (.string (d.letters.extract a (a + 1))) wx := fun wx => by
      have := run_slice_string (P := Tryz.prog) wx 9 d.letters .i64 .i64 (a : Int) ((a + 1 : Nat) : Int) Tryz.underlying9 (by omega) (by omega) (by omega)
      simpa using this
     have hone : d.letters.extract a (a + 1) = bs [byteAt d.letters a] := one_byte d.letters rfl (by show a < d.letters.size; omega)
     obtain ⟨R, hR⟩ : ∃ R, bs (List.replicate 3 (byteAt d.letters a)) = R := ⟨_, rfl⟩
     have hRz : R.size = 3 := by rw [← hR]; rfl
     have hrep : Hid (∀ W : World, Calls Tryz.prog 136 #[.string (d.letters.extract a (a + 1)), i64 3] W fun e w' => e = .returned (.string R) ∧ UpOf W w') := hd_ fun W => by
      rw [← hR, hone]; exact repeat_any (byteAt d.letters a) 3 W (by omega) (by omega)
     have HE2 : Hid (S ++ (R ++ ⟨#[32]⟩) = bs (dlU d (4 * (k + 1)))) := hd_ (by
      rw [dlU_four, HSZ.out, ha, HE.out, ← hR]
      apply ByteArray.ext
      apply Array.ext'
      simp)
     clear hR HE hone ha
     go_wp2_with (first | (go_at_call 136; refine (hrep.out _).mono ?_; rintro e w' ⟨rfl, g, rfl⟩))
     trace_state
     go_roundw
     case rel => exact ⟨k + 1, _, by (simp only [ByteArray.size_append, hS, hRz]; show 4 * k + (3 + 1) = _; omega), by omega, by go_num, rfl, HE2, ex_up bw_⟩
     case measure => simp [intOf]; try omega
    ·have hlt' : ¬ (4 * (k : Int)) < (N : Int) := by omega
     have hNS : (N : Int) ≤ (S.size : Int) := by omega
     obtain ⟨e, he1, he2, he3, he4⟩ := dl_trim HV.out hN1
     have hex : S.extract 0 N = bs (dlU d N) := by
      rw [HE.out, bs_extract, bs_list, List.drop_zero, Nat.sub_zero, dlU_take d (by omega)]
     have hat : ∀ i, i < N → byteAt (S.extract 0 N) i = dlC d i := fun i hi => by
      rw [hex, byteAt, bs_list, List.getD_eq_getElem?_getD, dlU_get d hi]; rfl
     have hexs : (S.extract 0 N).size = N := by rw [hex, bs_size, dlU_len]
     have htr : Hid (∀ W : World, Calls Tryz.prog 137 #[.string (S.extract 0 N)] W fun r w' => r = .returned (.string (bs (dlA d N))) ∧ UpOf W w') := hd_ fun W => by
      have := trimRight_any (S.extract 0 N) e W (by omega) (by omega) (by
       rcases he3 with h | h
       ·exact .inl h
       ·by_cases h0 : e = 0
        ·exact .inl h0
        ·rw [hat _ (by omega)]; exact .inr h) (fun i h1 h2 => by rw [hat _ (by omega)]; exact he4 i h1 (by omega))
      rw [he2]
      rw [hex, bs_extract, bs_list, List.drop_zero, Nat.sub_zero, dlU_take d he1] at this
      rw [hex]
      exact this
     clear hex hat hexs he1 he2 he3 he4 HE
     go_wp2_with (first | (go_at_call 137; refine (htr.out _).mono ?_; rintro e w' ⟨rfl, g, rfl⟩))
     go_ret2
     rw [hr.out]
     exact ⟨rfl, HB.out.tr bw_⟩
theorem setLineOf_any (d : DeskD) (A B : Option Addr) (c e : Nat) (s t : ByteArray) (w : World) (hs : s.size ≤ 1048576) (hts : t.size ≤ 1048576) (ht : Tab w) :
  Calls Tryz.prog 32 #[dkv d A B c e, .string s, .string t] w fun r w' => txPost (if numB s then sent (setR (wordsA [] t.data.toList) (sval s)) else [errL 7]) w r w' := by
 have HT := hd_ ht
 clear ht
 cases hv : numB s with
 | false =>
  have HC : Hid (∀ V, Tab V → Calls Tryz.prog 79 #[.string s] V fun e w' => e = .returned (.tuple #[i64 0, .bool false]) ∧ UpOf V w') := hd_ fun V hV => by
   have := readDecimal_any s V (by omega) hV
   rw [rdR_no hv] at this
   exact this
  show Calls _ _ _ _ fun r w' => txPost [errL 7] w r w'
  clear hv
  go_enter Tryz.func32, Tryz.ntmps32
  go_wp2_with fail
  refine (HC.out _ (HT.out.below bw_)).mono ?_
  rintro r w' ⟨rfl, g1, rfl⟩
  go_wp2_with fail
  refine (report_any 7 _).mono ?_
  rintro r w' ⟨X, n, rfl, ox, g2, rfl⟩
  go_wp2_with fail
  go_ret
  exact ⟨X, n, rfl, own_mono ox (show Below w.heap.size w _ from bw_).size, uw_⟩
 | true =>
  obtain ⟨N, hN⟩ : ∃ N, sval s = N := ⟨_, rfl⟩
  have HC : Hid (∀ V, Tab V → Calls Tryz.prog 79 #[.string s] V fun e w' => e = .returned (.tuple #[i64 N, .bool true]) ∧ UpOf V w') := hd_ fun V hV => by
   have := readDecimal_any s V (by omega) hV
   rw [rdR_ok hv, hN] at this
   exact this
  obtain ⟨W, hW⟩ : ∃ W, wordsA [] t.data.toList = W := ⟨_, rfl⟩
  have HW : Hid (∀ V, Calls Tryz.prog 76 #[.string t] V fun e w' => ∃ A c, e = .returned (.slice A W.length c) ∧ w'.ownsRow V.heap.size 9 1 (.slice A W.length c) W.length (strs W) ∧ UpOf V w') := hd_ fun V => by
   rw [← hW]; exact splitWords_any t V (by omega)
  have hWl : W.length ≤ 2000000 := by
   have := words_len t.data.toList []
   rw [hW, bsz] at this
   omega
  have HWB : Hid (WBd W) := hd_ fun i hi => by
   have := words_size t.data.toList [] (wd W i) (by rw [hW, ← wd_eq hi]; exact List.getElem_mem hi)
   rw [bsz] at this
   simp at this
   omega
  obtain ⟨R1, hR1⟩ : ∃ R1, (setR W N).1 = R1 := ⟨_, rfl⟩
  obtain ⟨R2, hR2⟩ : ∃ R2, (setR W N).2 = R2 := ⟨_, rfl⟩
  have HSL : Hid (∀ V A1 c1, Rds V 1 A1 W.length (strs W) → W.length ≤ c1 → Calls Tryz.prog 80 #[.slice A1 W.length c1, i64 N] V fun e w' => e = .returned (.tuple #[.string R1, i64 R2]) ∧ UpOf V w') := hd_ fun V A1 c1 hr hc => by
   have := setLineR_any N A1 c1 W V hr hc (by omega) HWB.out
   rw [hR1, hR2] at this
   exact this
  have hfin : (if (true : Bool) = true then sent (setR (wordsA [] t.data.toList) (sval s)) else [errL 7]) = sent (R1, R2) := by
   rw [if_pos rfl, hW, hN, ← hR1, ← hR2]
  rw [hfin]
  clear hfin hv hN hW hR1 hR2
  go_enter Tryz.func32, Tryz.ntmps32
  go_wp2_with fail
  refine (HC.out _ (HT.out.below bw_)).mono ?_
  rintro r w' ⟨rfl, g1, rfl⟩
  go_wp2_with fail
  refine (HW.out _).mono ?_
  rintro r w' ⟨A1, c1, rfl, o1, g2, rfl⟩
  have hcap := own_capD o1
  go_wp2_with fail
  refine (HSL.out _ A1 c1 (Rds.of_own o1) hcap).mono ?_
  rintro r w' ⟨rfl, g3, rfl⟩
  go_wp2_with fail
  refine (sentence_any R1 R2 _).mono ?_
  rintro r w' ⟨X, n, rfl, ox, g4, rfl⟩
  go_wp2_with fail
  go_ret
  exact ⟨X, n, rfl, own_mono ox (show Below w.heap.size w _ from bw_).size, uw_⟩
def lineR (l : List Drill) (nm s : ByteArray) : List ByteArray := if numB s then (match findD l nm with | none => [errL 3] | some x => sent (dlR x (sval s))) else [errL 7]
theorem findD_at {l : List Drill} {nm : ByteArray} {k : Nat} (hk : k < l.length) (h : (drl l k).name = nm) (hn : ∀ j, j < k → (drl l j).name ≠ nm) : findD l nm = some (drl l k) := by
 induction l generalizing k with
 | nil => simp at hk
 | cons a l ih =>
  cases k with
  | zero =>
   have e : drl (a :: l) 0 = a := rfl
   rw [e] at h ⊢
   simp [findD, h]
  | succ k =>
   have h0 := hn 0 (by omega)
   have e0 : drl (a :: l) 0 = a := rfl
   have ek : ∀ j, drl (a :: l) (j + 1) = drl l j := fun j => rfl
   rw [e0] at h0
   rw [ek] at h ⊢
   have := ih (k := k) (by simpa using hk) h (fun j hj => by have := hn (j + 1) (by omega); rwa [ek] at this)
   rw [findD] at this ⊢
   rw [List.find?_cons_of_neg (by simpa using h0)]
   exact this
theorem findD_no {l : List Drill} {nm : ByteArray} (hn : ∀ j, j < l.length → (drl l j).name ≠ nm) : findD l nm = none := by
 rw [findD, List.find?_eq_none]
 intro x hx
 obtain ⟨i, hi, rfl⟩ := List.getElem_of_mem hx
 have := hn i hi
 rw [drl, List.getD_eq_getElem?_getD, List.getElem?_eq_getElem hi] at this
 simpa using this
theorem drillLineC_any (d : DeskD) (A B : Option Addr) (c e : Nat) (nm s : ByteArray) (w : World) (h : DSee w d A B) (hz : DkSz d e) (hs : s.size ≤ 1048576) (ht : Tab w) :
  Calls Tryz.prog 37 #[dkv d A B c e, .string nm, .string s] w fun r w' => txPost (lineR d.drills nm s) w r w' := by
 have HT := hd_ ht
 have HS := hd_ h
 have HZ := hd_ hz
 clear ht h hz
 cases hv : numB s with
 | false =>
  have HC : Hid (∀ V, Tab V → Calls Tryz.prog 79 #[.string s] V fun e w' => e = .returned (.tuple #[i64 0, .bool false]) ∧ UpOf V w') := hd_ fun V hV => by
   have := readDecimal_any s V (by omega) hV
   rw [rdR_no hv] at this
   exact this
  have hfin : lineR d.drills nm s = [errL 7] := by rw [lineR, hv]; rfl
  rw [hfin]
  clear hfin hv
  go_enter Tryz.func37, Tryz.ntmps37
  go_wp2_with fail
  refine (HC.out _ (HT.out.below bw_)).mono ?_
  rintro r w' ⟨rfl, g1, rfl⟩
  go_wp2_with fail
  refine (report_any 7 _).mono ?_
  rintro r w' ⟨X, n, rfl, ox, g2, rfl⟩
  go_wp2_with fail
  go_ret
  exact ⟨X, n, rfl, own_mono ox (show Below w.heap.size w _ from bw_).size, uw_⟩
 | true =>
  obtain ⟨N, hN⟩ : ∃ N, sval s = N := ⟨_, rfl⟩
  have HC : Hid (∀ V, Tab V → Calls Tryz.prog 79 #[.string s] V fun e w' => e = .returned (.tuple #[i64 N, .bool true]) ∧ UpOf V w') := hd_ fun V hV => by
   have := readDecimal_any s V (by omega) hV
   rw [rdR_ok hv, hN] at this
   exact this
  obtain ⟨R, hR⟩ : ∃ R, lineR d.drills nm s = R := ⟨_, rfl⟩
  have HR := hd_ (show R = (match findD d.drills nm with | none => [errL 3] | some x => sent (dlR x N)) by rw [← hR, lineR, hv, if_pos rfl, hN])
  rw [hR]
  clear hv hN hR
  go_enter Tryz.func37, Tryz.ntmps37
  go_upto_region 1 with (fail)
  refine wpg (R := fun V => Box V w.heap.size (dkcs d A B c e) ∧ UpOf w V) ⟨Box.new _ _ _, uw_⟩ (fun V z => ?_)
  obtain ⟨hb, hB⟩ := z
  have HU := hd_ hB
  have HX := hd_ hb
  clear hb hB
  generalize w.heap.size = p at *
  go_wp2_with fail
  refine (HC.out _ (HT.out.below HU.out.below)).mono ?_
  rintro r w' ⟨rfl, g1, rfl⟩
  have x6 : (up V g1).cell? ⟨p, 6, none⟩ = some (.slice B d.drills.length e) := (HX.out.below (up_below V g1)).2 6 _ rfl
  have hp6 := (HX.out.below (up_below V g1)).1
  go_wp2_with fail
  clear x6 hp6
  go_loopw [22] (fun t22 wr => ∃ k : Nat, k ≤ d.drills.length ∧ t22 = i64 k ∧ Hid (∀ i, i < k → (drl d.drills i).name ≠ nm) ∧ ∃ g : Up V, wr = up V g) (fun t22 _ => d.drills.length - (intOf t22).toNat)
  case atStart => exact ⟨0, by omega, rfl, hd_ (fun i hi => by omega), ex_up bw_⟩
  case round =>
   obtain ⟨k, hk, rfl, HK, g, rfl⟩ := hrel
   have hdn := HZ.out.n
   by_cases hlt : k < d.drills.length
   ·obtain ⟨b, off, rfl, hb, x0, x1, x2⟩ := drl_at ((HS.out.2.below HU.out.below).below (up_below V g)) hlt
    obtain ⟨f1, f2⟩ := HZ.out.b k hlt
    by_cases he : (drl d.drills k).name = nm
    ·have ht := tl_teq he
     have hr := hd_ (show R = sent (dlR (drl d.drills k) N) by rw [HR.out, findD_at hlt he HK.out])
     have HDL : Hid (∀ V, Calls Tryz.prog 84 #[.agg #[.string (drl d.drills k).name, .string (drl d.drills k).letters, i64 (drl d.drills k).minutes], i64 N] V fun e w' => e = .returned (.tuple #[.string (dlR (drl d.drills k) N).1, i64 (dlR (drl d.drills k) N).2]) ∧ UpOf V w') := hd_ fun V => drillLine_any (drl d.drills k) N V (by omega) (by omega)
     obtain ⟨R1, hR1⟩ : ∃ R1, (dlR (drl d.drills k) N).1 = R1 := ⟨_, rfl⟩
     obtain ⟨R2, hR2⟩ : ∃ R2, (dlR (drl d.drills k) N).2 = R2 := ⟨_, rfl⟩
     have hr2 := hd_ (show R = sent (R1, R2) by rw [hr.out, ← hR1, ← hR2])
     rw [hR1, hR2] at HDL
     have HE := hd_ he
     clear he hR1 hR2 hr
     go_wp2_with fail
     refine (HDL.out _).mono ?_
     rintro r w' ⟨rfl, g3, rfl⟩
     go_wp2_with fail
     refine (sentence_any R1 R2 _).mono ?_
     rintro r w' ⟨X, n, rfl, ox, g4, rfl⟩
     go_wp2_with fail
     go_ret
     rw [hr2.out]
     exact ⟨X, n, rfl, own_mono ox (Nat.le_trans HU.out.below.size (show Below V.heap.size V _ from bw_).size), HU.out.tr bw_⟩
    ·have ht := tl_tne he
     have HK2 := hd_ (lt_ext (P := fun j => (drl d.drills j).name ≠ nm) HK.out he)
     clear he
     go_wp2_with fail
     go_roundw
     case rel => exact ⟨k + 1, by omega, by go_num, HK2, ex_up bw_⟩
     case measure => simp [intOf]; try omega
   ·obtain rfl : k = d.drills.length := by omega
    have hr := hd_ (show R = [errL 3] by rw [HR.out, findD_no HK.out])
    go_wp2_with fail
    refine (report_any 3 _).mono ?_
    rintro r w' ⟨X, n, rfl, ox, g4, rfl⟩
    go_wp2_with fail
    go_ret
    rw [hr.out]
    exact ⟨X, n, rfl, own_mono ox (Nat.le_trans HU.out.below.size (show Below V.heap.size V _ from bw_).size), HU.out.tr bw_⟩
theorem fit_no {k n : Nat} (hk : k ≤ 14) (h : fitK k n = false) : (wcR k).1 = 0 ∨ (n : Int) < (wcR k).1 ∨ ((wcR k).1 < (n : Int) ∧ (wcR k).2 = false) := by
 have h15 : k = 0 ∨ k = 1 ∨ k = 2 ∨ k = 3 ∨ k = 4 ∨ k = 5 ∨ k = 6 ∨ k = 7 ∨ k = 8 ∨ k = 9 ∨ k = 10 ∨ k = 11 ∨ k = 12 ∨ k = 13 ∨ k = 14 := by omega
 rcases h15 with rfl | rfl | rfl | rfl | rfl | rfl | rfl | rfl | rfl | rfl | rfl | rfl | rfl | rfl | rfl <;> simp [fitK, wcR] at h ⊢ <;> omega
theorem fit_yes {k n : Nat} (hk : k ≤ 14) (h : fitK k n = true) : 1 ≤ (wcR k).1 ∧ (wcR k).1 ≤ (n : Int) ∧ ((wcR k).1 = (n : Int) ∨ (wcR k).2 = true) := by
 have h15 : k = 0 ∨ k = 1 ∨ k = 2 ∨ k = 3 ∨ k = 4 ∨ k = 5 ∨ k = 6 ∨ k = 7 ∨ k = 8 ∨ k = 9 ∨ k = 10 ∨ k = 11 ∨ k = 12 ∨ k = 13 ∨ k = 14 := by omega
 rcases h15 with rfl | rfl | rfl | rfl | rfl | rfl | rfl | rfl | rfl | rfl | rfl | rfl | rfl | rfl | rfl <;> simp [fitK, wcR] at h ⊢ <;> omega
theorem spl_all (s : ByteArray) : spl (s.size + 1) s.data.toList = splitA 32 [] s.data.toList := by
 rw [spl_split, if_neg]
 have := split_len 32 s.data.toList []
 rw [bsz] at this
 omega
def dcNo (w : World) (r : Ending) (w' : World) : Prop := r = .returned (.tuple #[.agg zc, .slice none 0 0, i64 7]) ∧ UpOf w w'
def dcYes (D : DeskD) (l : List ByteArray) (w : World) (r : Ending) (w' : World) : Prop :=
 ∃ A B c e X n, r = .returned (.tuple #[dkv D A B c e, .slice X l.length n, i64 0]) ∧ DOwn w.heap.size w' D A B c e ∧ w'.ownsRow w.heap.size 9 1 (.slice X l.length n) l.length (strs l) ∧ UpOf w w'
theorem dcNo_any (d : DeskD) (A B : Option Addr) (c e : Nat) (s : ByteArray) (w : World) (hs : s.size ≤ 1048576) (hS : DSee w d A B) (hz : DkSz d e) (hv : vDesk d = true) (ht : Tab w)
  (hf : fitK (kindOf (wd (splitA 32 [] s.data.toList) 0)) (splitA 32 [] s.data.toList).length = false) :
  Calls Tryz.prog 9 #[dkv d A B c e, .string s] w fun r w' => dcNo w r w' := by
 have HS := hd_ hS
 have HZ := hd_ hz
 have HV := hd_ hv
 have HT := hd_ ht
 obtain ⟨W, hW⟩ : ∃ W, splitA 32 [] s.data.toList = W := ⟨_, rfl⟩
 have HSP : Hid (∀ V, Calls Tryz.prog 27 #[.string s, .int .i64 ((s.size : Int) + 2)] V fun e w' => txPost W V e w') := hd_ fun V => by
  have := splitAt_any s (s.size + 1) V (by omega) (by omega)
  rw [spl_all, hW, show (((s.size + 1 : Nat) : Int) + 1) = (s.size : Int) + 2 by omega] at this
  exact this
 have hW1 : 0 < W.length := by rw [← hW]; exact List.length_pos_iff.2 (splitA_ne 32 _ _)
 have hWl : W.length ≤ 2000000 := by
  have := split_len 32 s.data.toList []
  rw [hW, bsz] at this
  omega
 rw [hW] at hf
 have hno := fit_no (kind_le _) hf
 obtain ⟨L, hL⟩ : ∃ L, (wcR (kindOf (wd W 0))).1 = L := ⟨_, rfl⟩
 obtain ⟨M, hM⟩ : ∃ M, (wcR (kindOf (wd W 0))).2 = M := ⟨_, rfl⟩
 have HWC : Hid (∀ V, Calls Tryz.prog 28 #[.string (wd W 0)] V fun e w' => e = .returned (.tuple #[i64 L, .bool M]) ∧ V = w') := hd_ fun V => by
  have := wordCounts_any (wd W 0) V
  rw [hL, hM] at this
  exact this
 rw [hL, hM] at hno
 clear hS hz hv ht hW hf hL hM
 go_enter Tryz.func9, Tryz.ntmps9
 go_upto_region 1 with (fail)
 refine wpg (R := fun V => Hid (MD w V w.heap.size (w.heap.size + 1) (dkcs d A B c e))) (hd_ (MD.new _ _)) (fun V z => ?_)
 generalize hp9 : w.heap.size = p at z ⊢
 generalize hq9 : p + 1 = q at z ⊢
 clear hp9 hq9
 obtain ⟨hpV, x0, x1, x2, x3, x4, x5, x6, x7⟩ := z.out.bx.eight
 go_wp2_with fail
 refine (ret_as (validDeskI_any d A B c e _ (HS.out.below z.out.up.below) HZ.out (HT.out.below z.out.up.below)) HV.out).mono ?_
 rintro r w' ⟨rfl, g1, rfl⟩
 go_wp2_with fail
 refine (HSP.out _).mono ?_
 rintro r w' ⟨AW, cW, rfl, ow, g2, rfl⟩
 have z2 := hd_ (z.out.below (V' := up V (g1.tr g2)) (up_below V _))
 have OW : Hid ((up V (g1.tr g2)).ownsRow (up V g1).heap.size 9 1 (.slice AW W.length cW) W.length (strs W)) := hd_ ow
 have HBV := hd_ (show p < (up V g1).heap.size ∧ q < (up V g1).heap.size ∧ w.heap.size ≤ (up V g1).heap.size from ⟨Nat.lt_of_lt_of_le z.out.bx.lt (up_below V g1).size, Nat.lt_of_lt_of_le z.out.rs.lt (up_below V g1).size, Nat.le_trans z.out.up.below.size (up_below V g1).size⟩)
 generalize (up V g1).heap.size = base at OW HBV
 obtain ⟨bW, oW, eW, hbW, cw⟩ := wd_at (Rds.of_own OW.out) (i := 0) hW1
 subst eW
 have cw0 := cw 0 hW1
 rw [Nat.add_zero] at cw0
 clear ow cw x0 x1 x2 x3 x4 x5 x6 x7 hpV z
 go_upto_region 6 with (go_at_call 28; refine (HWC.out _).mono ?_; rintro r w' ⟨rfl, rfl⟩)
 have hqb := z2.out.rs.lt
 obtain ⟨hqT, r0, r1, r2, r3, r4, r5, r6, r7⟩ := z2.out.rs.eight
 obtain ⟨f0, f1, f2, f3, f4, f5, f6, f7⟩ := z2.out.rs.open8
 have HNO := hd_ hno
 by_cases t1 : L = 0
 ·have t1' : (L == 0) = true := by rw [beq_iff_eq]; exact t1
  clear hno t1
  go_wp2_with fail
  refine post_gen (R := fun W => Blk W q 31 zc ∧ UpOf w W) ⟨blk_put8 z2.out.rs _ _ _ _ _ _ _ _, put8_up z2.out.up z2.out.hq _ _ _ _ _ _ _ _⟩ (fun W st => ?_)
  obtain ⟨s1, s3⟩ := st
  obtain ⟨hqW, w0, w1, w2, w3, w4, w5, w6, w7⟩ := s1.eight
  exact bodyPost_ret (v := .tuple #[.agg zc, .slice none 0 0, i64 7]) (by simp [results, Tryz.results9, go_sem, hqW, w0, w1, w2, w3, w4, w5, w6, w7]) rfl ⟨rfl, s3⟩
 ·have t1' : (L == 0) = false := by rw [beq_eq_false_iff_ne]; exact t1
  by_cases t2 : (W.length : Int) < L
  ·have t2' : decide ((W.length : Int) < L) = true := decide_eq_true t2
   clear hno t1
   go_wp2_with fail
   refine post_gen (R := fun W => Blk W q 31 zc ∧ UpOf w W) ⟨blk_put8 z2.out.rs _ _ _ _ _ _ _ _, put8_up z2.out.up z2.out.hq _ _ _ _ _ _ _ _⟩ (fun W st => ?_)
   obtain ⟨s1, s3⟩ := st
   obtain ⟨hqW, w0, w1, w2, w3, w4, w5, w6, w7⟩ := s1.eight
   exact bodyPost_ret (v := .tuple #[.agg zc, .slice none 0 0, i64 7]) (by simp [results, Tryz.results9, go_sem, hqW, w0, w1, w2, w3, w4, w5, w6, w7]) rfl ⟨rfl, s3⟩
  ·have t2' : decide ((W.length : Int) < L) = false := decide_eq_false t2
   have t3 : L < (W.length : Int) ∧ M = false := by
    rcases hno with h | h | h
    ·exact absurd h t1
    ·exact absurd h t2
    ·exact h
   obtain ⟨t3, rfl⟩ := t3
   have t3' : decide (L < (W.length : Int)) = true := decide_eq_true t3
   clear hno t1
   go_wp2_with fail
   refine post_gen (R := fun W => Blk W q 31 zc ∧ UpOf w W) ⟨blk_put8 z2.out.rs _ _ _ _ _ _ _ _, put8_up z2.out.up z2.out.hq _ _ _ _ _ _ _ _⟩ (fun W st => ?_)
   obtain ⟨s1, s3⟩ := st
   obtain ⟨hqW, w0, w1, w2, w3, w4, w5, w6, w7⟩ := s1.eight
   exact bodyPost_ret (v := .tuple #[.agg zc, .slice none 0 0, i64 7]) (by simp [results, Tryz.results9, go_sem, hqW, w0, w1, w2, w3, w4, w5, w6, w7]) rfl ⟨rfl, s3⟩
theorem MD.put8 {w V : World} {p q : Nat} {x0 x1 x2 x3 x4 x5 x6 x7 : Value} (h : MD w V p q #[x0, x1, x2, x3, x4, x5, x6, x7]) (u0 u1 u2 u3 u4 u5 u6 u7 : Value) : MD w ((((((((V.setCell ⟨p, 0, none⟩ u0).setCell ⟨p, 1, none⟩ u1).setCell ⟨p, 2, none⟩ u2).setCell ⟨p, 3, none⟩ u3).setCell ⟨p, 4, none⟩ u4).setCell ⟨p, 5, none⟩ u5).setCell ⟨p, 6, none⟩ u6).setCell ⟨p, 7, none⟩ u7) p q #[u0, u1, u2, u3, u4, u5, u6, u7] := by
 have h0 : MD w _ p q #[u0, x1, x2, x3, x4, x5, x6, x7] := h.put 0 u0
 have h1 : MD w _ p q #[u0, u1, x2, x3, x4, x5, x6, x7] := h0.put 1 u1
 have h2 : MD w _ p q #[u0, u1, u2, x3, x4, x5, x6, x7] := h1.put 2 u2
 have h3 : MD w _ p q #[u0, u1, u2, u3, x4, x5, x6, x7] := h2.put 3 u3
 have h4 : MD w _ p q #[u0, u1, u2, u3, u4, x5, x6, x7] := h3.put 4 u4
 have h5 : MD w _ p q #[u0, u1, u2, u3, u4, u5, x6, x7] := h4.put 5 u5
 have h6 : MD w _ p q #[u0, u1, u2, u3, u4, u5, u6, x7] := h5.put 6 u6
 have h7 : MD w _ p q #[u0, u1, u2, u3, u4, u5, u6, u7] := h6.put 7 u7
 exact h7
structure DC (w U : World) (p q : Nat) (d : DeskD) (A B : Option Addr) (c e base : Nat) (W : List ByteArray) (bW cW : Nat) : Prop where
 m : MD w U p q (dkcs d A B c e)
 o : DOwn base U d A B c e
 wo : U.ownsRow base 9 1 (.slice (some ⟨bW, 0, none⟩) W.length cW) W.length (strs W)
 hb : p < base ∧ q < base ∧ w.heap.size ≤ base
theorem DC.below {w U V : World} {p q : Nat} {d : DeskD} {A B : Option Addr} {c e base : Nat} {W : List ByteArray} {bW cW : Nat} (h : DC w U p q d A B c e base W bW cW) (hb : Below U.heap.size U V) : DC w V p q d A B c e base W bW cW :=
 ⟨h.m.below hb, ⟨own_below h.o.1 hb, own_below h.o.2 hb⟩, own_below h.wo hb, h.hb⟩
theorem dcList_any (d : DeskD) (A B : Option Addr) (c e : Nat) (s : ByteArray) (w : World) (W : List ByteArray) (hs : s.size ≤ 1048576) (hS : DSee w d A B) (hz : DkSz d e) (hv : vDesk d = true) (ht : Tab w) (hW : splitA 32 [] s.data.toList = W)
  (hf : fitK (kindOf (wd W 0)) W.length = true) (k : Nat) (hk4 : k = 4 ∨ k = 8) (hk : kindOf (wd W 0) = k) (RL : List ByteArray)
  (hL : ∀ (A1 B1 : Option Addr) (c1 e1 : Nat) (V : World), DSee V d A1 B1 → DkSz d e1 → Tab V → Calls Tryz.prog 39 #[dkv d A1 B1 c1 e1, .string (wd W 0)] V fun r w' => txPost RL V r w') :
  Calls Tryz.prog 9 #[dkv d A B c e, .string s] w fun r w' => dcYes d RL w r w' := by
 have HK := hd_ hk
 have HL := hd_ hL
 clear hk hL
 have HS := hd_ hS
 have HZ := hd_ hz
 have HV := hd_ hv
 have HT := hd_ ht
 have HSP : Hid (∀ V, Calls Tryz.prog 27 #[.string s, .int .i64 ((s.size : Int) + 2)] V fun e w' => txPost W V e w') := hd_ fun V => by
  have := splitAt_any s (s.size + 1) V (by omega) (by omega)
  rw [spl_all, hW, show (((s.size + 1 : Nat) : Int) + 1) = (s.size : Int) + 2 by omega] at this
  exact this
 have hW1 : 0 < W.length := by rw [← hW]; exact List.length_pos_iff.2 (splitA_ne 32 _ _)
 have hWl : W.length ≤ 2000000 := by
  have := split_len 32 s.data.toList []
  rw [hW, bsz] at this
  omega
 have hno := fit_yes (kind_le _) hf
 obtain ⟨L, hL⟩ : ∃ L, (wcR (kindOf (wd W 0))).1 = L := ⟨_, rfl⟩
 obtain ⟨M, hM⟩ : ∃ M, (wcR (kindOf (wd W 0))).2 = M := ⟨_, rfl⟩
 have HWC : Hid (∀ V, Calls Tryz.prog 28 #[.string (wd W 0)] V fun e w' => e = .returned (.tuple #[i64 L, .bool M]) ∧ V = w') := hd_ fun V => by
  have := wordCounts_any (wd W 0) V
  rw [hL, hM] at this
  exact this
 rw [hL, hM] at hno
 clear hS hz hv ht hW hf hL hM
 go_enter Tryz.func9, Tryz.ntmps9
 go_upto_region 1 with (fail)
 refine wpg (R := fun V => Hid (MD w V w.heap.size (w.heap.size + 1) (dkcs d A B c e))) (hd_ (MD.new _ _)) (fun V z => ?_)
 generalize hp9 : w.heap.size = p at z ⊢
 generalize hq9 : p + 1 = q at z ⊢
 clear hp9 hq9
 obtain ⟨hpV, x0, x1, x2, x3, x4, x5, x6, x7⟩ := z.out.bx.eight
 go_wp2_with fail
 refine (ret_as (validDeskI_any d A B c e _ (HS.out.below z.out.up.below) HZ.out (HT.out.below z.out.up.below)) HV.out).mono ?_
 rintro r w' ⟨rfl, g1, rfl⟩
 go_wp2_with fail
 refine (HSP.out _).mono ?_
 rintro r w' ⟨AW, cW, rfl, ow, g2, rfl⟩
 have z2 := hd_ (z.out.below (V' := up V (g1.tr g2)) (up_below V _))
 have OW : Hid ((up V (g1.tr g2)).ownsRow (up V g1).heap.size 9 1 (.slice AW W.length cW) W.length (strs W)) := hd_ ow
 have HBV := hd_ (show p < (up V g1).heap.size ∧ q < (up V g1).heap.size ∧ w.heap.size ≤ (up V g1).heap.size from ⟨Nat.lt_of_lt_of_le z.out.bx.lt (up_below V g1).size, Nat.lt_of_lt_of_le z.out.rs.lt (up_below V g1).size, Nat.le_trans z.out.up.below.size (up_below V g1).size⟩)
 generalize (up V g1).heap.size = base at OW HBV
 obtain ⟨bW, oW, eW, hbW, cw⟩ := wd_at (Rds.of_own OW.out) (i := 0) hW1
 subst eW
 have cw0 := cw 0 hW1
 rw [Nat.add_zero] at cw0
 clear ow cw x0 x1 x2 x3 x4 x5 x6 x7 hpV z
 go_upto_region 6 with (go_at_call 28; refine (HWC.out _).mono ?_; rintro r w' ⟨rfl, rfl⟩)
 have HNO := hd_ hno
 have t1' : (L == 0) = false := by rw [beq_eq_false_iff_ne]; omega
 have t2' : decide ((W.length : Int) < L) = false := decide_eq_false (by omega)
 go_cut [46] (fun x U => x = .bool false ∧ Hid (MD w U p q (dkcs d A B c e)) ∧ Hid (U.ownsRow base 9 1 (.slice (some ⟨bW, oW, none⟩) W.length cW) W.length (strs W)))
 case first =>
  by_cases t3 : L < (W.length : Int)
  ·have t3' : decide (L < (W.length : Int)) = true := decide_eq_true t3
   have hM : M = true := hno.2.2.resolve_left (by omega)
   subst hM
   clear hno t3
   go_wp2_with fail
   go_meet
   exact ⟨rfl, z2, OW⟩
  ·have t3' : decide (L < (W.length : Int)) = false := decide_eq_false t3
   clear hno t3
   go_wp2_with fail
   go_meet
   exact ⟨rfl, z2, OW⟩
 case rest =>
  obtain ⟨rfl, z, OW⟩ := hcut
  clear z2 hno t1' t2' cw0
  obtain ⟨hpV, x0, x1, x2, x3, x4, x5, x6, x7⟩ := z.out.bx.eight
  obtain ⟨f0, f1, f2, f3, f4, f5, f6, f7⟩ := z.out.bx.open8
  go_wp2_with fail
  refine (copied_any d A B c e _ (HS.out.below z.out.up.below) HZ.out.s HZ.out.n).mono ?_
  rintro r w' ⟨A1, B1, c1, e1, rfl, hdo, g3, rfl⟩
  have z3 := hd_ (z.out.below (up_below wc g3))
  have HDO := hd_ hdo
  have OW3 := hd_ (own_below OW.out (up_below wc g3))
  have HWS := hd_ (show base ≤ wc.heap.size from by
   have := OW.out.lt bW rfl
   omega)
  clear hdo x0 x1 x2 x3 x4 x5 x6 x7 f0 f1 f2 f3 f4 f5 f6 f7 hpV OW
  obtain ⟨hpV, x0, x1, x2, x3, x4, x5, x6, x7⟩ := z3.out.bx.eight
  obtain ⟨f0, f1, f2, f3, f4, f5, f6, f7⟩ := z3.out.bx.open8
  go_upto_region 10 with (fail)
  obtain ⟨g9, e9⟩ := own_some OW3.out hW1
  injection e9 with e9
  injection e9 with e9a e9 e9b
  clear e9a e9b
  subst e9
  have hpw : p < wc.heap.size := z.out.bx.lt
  have m8 := hd_ (z3.out.put8 (i64 d.b.bars) (i64 d.b.rise) (i64 d.b.fall) (i64 d.b.clr) (i64 d.b.near) (.slice A1 d.stops.length c1) (.slice B1 d.drills.length e1) (.string d.log))
  have o81 := hd_ (own_mono (own_all HDO.out.1 hpw (i64 d.b.bars) (i64 d.b.rise) (i64 d.b.fall) (i64 d.b.clr) (i64 d.b.near) (.slice A1 d.stops.length c1) (.slice B1 d.drills.length e1) (.string d.log)) HWS.out)
  have o82 := hd_ (own_mono (own_all HDO.out.2 hpw (i64 d.b.bars) (i64 d.b.rise) (i64 d.b.fall) (i64 d.b.clr) (i64 d.b.near) (.slice A1 d.stops.length c1) (.slice B1 d.drills.length e1) (.string d.log)) HWS.out)
  have o83 := hd_ (own_all OW3.out HBV.out.1 (i64 d.b.bars) (i64 d.b.rise) (i64 d.b.fall) (i64 d.b.clr) (i64 d.b.near) (.slice A1 d.stops.length c1) (.slice B1 d.drills.length e1) (.string d.log))
  refine wpg (R := fun U => Hid (DC w U p q d A1 B1 c1 e1 base W bW cW)) (hd_ ⟨m8.out.below ((Below.refl _ _).alloc (Nat.le_refl _) _), ⟨o81.out.alloc _, o82.out.alloc _⟩, o83.out.alloc _, HBV.out⟩) (fun U C => ?_)
  clear x0 x1 x2 x3 x4 x5 x6 x7 f0 f1 f2 f3 f4 f5 f6 f7 hpV z3 HDO OW3 z HWS m8 o81 o82 o83
  have hd9 : ∀ i, ¬ (i = 4 ∨ i = 8) → decide (k = i) = false := fun i hi => decide_eq_false (fun e9 => hi (e9 ▸ hk4))
  obtain ⟨q0, q1, q2, q3, -, q5, q6, q7, -, q9, q10, q11, q12, q13⟩ := kts HK.out
  rw [hd9 _ (by decide)] at q0 q1 q2 q3 q5 q6 q7 q9 q10 q11 q12 q13
  clear hd9 hk4
  obtain ⟨hpV, x0, x1, x2, x3, x4, x5, x6, x7⟩ := C.out.m.bx.eight
  go_wp2_with fail
  refine (HL.out A1 B1 c1 e1 _ (DOwn.see C.out.o) ⟨HZ.out.s, HZ.out.n, HZ.out.b, HZ.out.l, own_capD C.out.o.2⟩ (HT.out.below C.out.m.up.below)).mono ?_
  rintro r w' ⟨X, n, rfl, ox, gx, rfl⟩
  have C2 := hd_ (C.out.below (up_below U gx))
  have hbU : base ≤ U.heap.size := by have := C.out.wo.lt bW rfl; omega
  have z := hd_ C2.out.m
  have DO := hd_ C2.out.o
  have OX := hd_ (own_mono ox hbU)
  clear ox x0 x1 x2 x3 x4 x5 x6 x7 hpV C
  obtain ⟨hpV, x0, x1, x2, x3, x4, x5, x6, x7⟩ := z.out.bx.eight
  obtain ⟨hqT, r0, r1, r2, r3, r4, r5, r6, r7⟩ := z.out.rs.eight
  obtain ⟨f0, f1, f2, f3, f4, f5, f6, f7⟩ := z.out.rs.open8
  go_wp2_with fail
  refine post_gen (R := fun W => Blk W q 31 (dkcs (d) A1 B1 c1 e1) ∧ DOwn w.heap.size W (d) A1 B1 c1 e1 ∧ W.ownsRow w.heap.size 9 1 (.slice X RL.length n) RL.length (strs (RL)) ∧ UpOf w W) ⟨blk_put8 z.out.rs _ _ _ _ _ _ _ _, ⟨own_mono (own_all DO.out.1 HBV.out.2.1 _ _ _ _ _ _ _ _) HBV.out.2.2, own_mono (own_all DO.out.2 HBV.out.2.1 _ _ _ _ _ _ _ _) HBV.out.2.2⟩, own_mono (own_all OX.out HBV.out.2.1 _ _ _ _ _ _ _ _) HBV.out.2.2, put8_up z.out.up z.out.hq _ _ _ _ _ _ _ _⟩ (fun W st => ?_)
  obtain ⟨s1, s4, s2, s3⟩ := st
  obtain ⟨hqW, w0, w1, w2, w3, w4, w5, w6, w7⟩ := s1.eight
  clear s1 r0 r1 r2 r3 r4 r5 r6 r7 f0 f1 f2 f3 f4 f5 f6 f7 x0 x1 x2 x3 x4 x5 x6 x7
  exact bodyPost_ret (v := .tuple #[dkv (d) A1 B1 c1 e1, .slice X RL.length n, i64 0]) (by simp [results, Tryz.results9, go_sem, hqW, w0, w1, w2, w3, w4, w5, w6, w7]) rfl ⟨_, _, _, _, _, _, rfl, s4, s2, s3⟩
def rst (a : ByteArray) (i : Nat) : ByteArray := a.extract i a.size
theorem rst_size (a : ByteArray) (i : Nat) : (rst a i).size = a.size - i := by simp [rst]
theorem rst_at (a : ByteArray) (i x : Nat) : byteAt (rst a i) x = byteAt a (i + x) := by
 unfold byteAt rst
 rw [List.getD_eq_getElem?_getD, List.getD_eq_getElem?_getD]
 congr 1
 simp only [ByteArray.data_extract, Array.toList_extract, List.extract_eq_drop_take, List.getElem?_take, List.getElem?_drop]
 split
 ·rfl
 ·rw [List.getElem?_eq_none]
  show a.size ≤ _
  omega
theorem okAl_rst {a b : ByteArray} {i k : Nat} (j : Nat) : okAl (rst a i) (rst b k) 0 0 j = okAl a b i k j := by
 unfold okAl
 simp only [rst_size, rst_at, Nat.add_zero, Nat.zero_add]
 congr 1
 ·rw [decide_eq_decide]; omega
 congr 1
 ·rw [decide_eq_decide]; omega
 congr 1
 ·rw [decide_eq_decide]; constructor <;> (rintro ⟨h1, h2, h3⟩; exact ⟨by omega, by omega, h3⟩)
 congr 1
 ·rw [decide_eq_decide]; constructor <;> (rintro ⟨h1, h2, h3⟩; exact ⟨by omega, by omega, h3⟩)
 ·rw [decide_eq_decide]; constructor <;> (rintro ⟨h1, h2, h3⟩; exact ⟨by omega, by omega, h3⟩)
def rowQ (n m : Nat) (Q : Nat → Nat) (k : Nat) : Array Value := ((List.range (n + 1)).map fun i => if i < k then Value.slice (some ⟨Q i, 0, none⟩) (m + 1) (m + 1) else .slice none 0 0).toArray
def arrN (m : Nat) (f : Nat → Int) : Array Value := ((List.range (m + 1)).map fun i => i64 (f i)).toArray
theorem rowQ_get {n m k i : Nat} {Q : Nat → Nat} (h : i ≤ n) : (rowQ n m Q k)[i]? = some (if i < k then Value.slice (some ⟨Q i, 0, none⟩) (m + 1) (m + 1) else .slice none 0 0) := by
 have : i < n + 1 := by omega
 simp [rowQ, this]
theorem rowQ_size (n m k : Nat) (Q : Nat → Nat) : (rowQ n m Q k).size = n + 1 := by simp [rowQ]
theorem arrN_size (m : Nat) (f : Nat → Int) : (arrN m f).size = m + 1 := by simp [arrN]
theorem arrN_get {m i : Nat} (f : Nat → Int) (h : i ≤ m) : (arrN m f)[i]? = some (i64 (f i)) := by
 have : i < m + 1 := by omega
 simp [arrN, this]
theorem arrN_set (m : Nat) (f : Nat → Int) (i : Nat) (v : Int) : (arrN m f).setIfInBounds i (i64 v) = arrN m fun j => if j = i then v else f j := by
 apply Array.ext_getElem?
 intro j
 by_cases hj : j ≤ m
 ·rw [arrN_get _ hj, Array.getElem?_setIfInBounds]
  by_cases e : i = j
  ·subst e
   rw [if_pos rfl, if_pos (by rw [arrN_size]; omega), if_pos rfl]
  ·rw [if_neg e, arrN_get _ hj, if_neg (fun h => e h.symm)]
 ·rw [Array.getElem?_eq_none (by rw [Array.size_setIfInBounds, arrN_size]; omega), Array.getElem?_eq_none (by rw [arrN_size]; omega)]
theorem arrN_congr {m : Nat} {f g : Nat → Int} (h : ∀ i, i ≤ m → f i = g i) : arrN m f = arrN m g := by
 unfold arrN
 congr 1
 exact List.map_congr_left fun i hi => by rw [h i (by have := List.mem_range.1 hi; omega)]
theorem rowQ_set {n m k b : Nat} {Q : Nat → Nat} (hk : k ≤ n) : (rowQ n m Q k).setIfInBounds k (.slice (some ⟨b, 0, none⟩) (m + 1) (m + 1)) = rowQ n m (fun i => if i = k then b else Q i) (k + 1) := by
 apply Array.ext_getElem?
 intro j
 by_cases hj : j ≤ n
 ·rw [rowQ_get hj, Array.getElem?_setIfInBounds]
  by_cases e : k = j
  ·subst e
   rw [if_pos rfl, if_pos (by rw [rowQ_size]; omega), if_pos (by omega), if_pos rfl]
  ·rw [if_neg e, rowQ_get hj]
   by_cases hl : j < k
   ·rw [if_pos hl, if_pos (by omega), if_neg (fun h => e h.symm)]
   ·rw [if_neg hl, if_neg (by omega)]
 ·rw [Array.getElem?_eq_none (by rw [Array.size_setIfInBounds, rowQ_size]; omega), Array.getElem?_eq_none (by rw [rowQ_size]; omega)]
theorem made_any (v : Value) (n : Nat) : madeCells #[v] n = ((List.range n).map fun _ => v).toArray := by
 apply Array.ext_getElem?
 intro j
 by_cases hj : j < n
 ·simp [madeCells, hj, Nat.mod_one]
 ·rw [Array.getElem?_eq_none (by rw [size_madeCells]; omega), Array.getElem?_eq_none (by simp; omega)]
theorem made_row (m : Nat) : madeCells #[i64 0] (m + 1) = arrN m fun _ => 0 := made_any _ _
theorem made_rows (n m : Nat) (Q : Nat → Nat) : madeCells #[Value.slice none 0 0] (n + 1) = rowQ n m Q 0 := by
 rw [made_any, rowQ]
 congr 1
theorem mk_row (u : World) (m : Nat) (hn : m ≤ 1000000) : (Instr.makeSlice 121 (.int .i64 ((m : Int) + 1)) (.int .i64 ((m : Int) + 1))).run Tryz.prog u = .ok (.slice (some ⟨u.heap.size, 0, none⟩) (m + 1) (m + 1)) (u.alloc (.cells (arrN m fun _ => 0) 3)) := by
 have hi : (Tryz.prog.info? 3).map (fun i => (i.zero, i.size, i.bytes)) = some (some (i64 0), 1, 8) := by kernel_rfl
 obtain ⟨i0, hi, hz0, hz1, hz2⟩ := info_parts hi
 have h := run_make (P := Tryz.prog) u 121 3 i0 _ Tryz.underlying121 hi hz0 .i64 .i64 ((m + 1 : Nat) : Int) ((m + 1 : Nat) : Int) (by omega) (Int.le_refl _) (by rw [hz2]; omega) (by omega)
 have e : ((m : Int) + 1) = ((m + 1 : Nat) : Int) := by omega
 rw [e, ← made_row]
 simpa [hz1, Value.cells] using h
theorem mk_rows (u : World) (n m : Nat) (Q : Nat → Nat) (hn : n ≤ 1000000) : (Instr.makeSlice 122 (.int .i64 ((n : Int) + 1)) (.int .i64 ((n : Int) + 1))).run Tryz.prog u = .ok (.slice (some ⟨u.heap.size, 0, none⟩) (n + 1) (n + 1)) (u.alloc (.cells (rowQ n m Q 0) 121)) := by
 have hi : (Tryz.prog.info? 121).map (fun i => (i.zero, i.size, i.bytes)) = some (some (.slice none 0 0), 1, 24) := by kernel_rfl
 obtain ⟨i0, hi, hz0, hz1, hz2⟩ := info_parts hi
 have h := run_make (P := Tryz.prog) u 122 121 i0 _ Tryz.underlying122 hi hz0 .i64 .i64 ((n + 1 : Nat) : Int) ((n + 1 : Nat) : Int) (by omega) (Int.le_refl _) (by rw [hz2]; omega) (by omega)
 have e : ((n : Int) + 1) = ((n + 1 : Nat) : Int) := by omega
 rw [e, ← made_rows n m Q]
 simpa [hz1, Value.cells] using h
structure Mx (w wr : World) (B n m k : Nat) (Q : Nat → Nat) (f : Nat → Nat → Int) : Prop where
 o : Blk wr B 121 (rowQ n m Q k)
 r : ∀ i, i < k → Blk wr (Q i) 3 (arrN m (f i))
 u : UpOf w wr
 hB : w.heap.size ≤ B
 hQ : ∀ i, i < k → B < Q i
 inj : ∀ i j, i < k → j < k → Q i = Q j → i = j
section
variable {w wr wr' : World} {B n m k : Nat} {Q : Nat → Nat} {f g : Nat → Nat → Int}
theorem Mx.congr (h : Mx w wr B n m k Q f) (e : ∀ i j, i < k → j ≤ m → f i j = g i j) : Mx w wr B n m k Q g :=
 ⟨h.o, fun i hi => arrN_congr (fun j hj => e i j hi hj) ▸ h.r i hi, h.u, h.hB, h.hQ, h.inj⟩
theorem Mx.below (h : Mx w wr B n m k Q f) (hb : Below wr.heap.size wr wr') : Mx w wr' B n m k Q f :=
 ⟨h.o.up ⟨wr', hb⟩, fun i hi => (h.r i hi).up ⟨wr', hb⟩, h.u.tr hb, h.hB, h.hQ, h.inj⟩
theorem Mx.row (h : Mx w wr B n m k Q f) {i : Nat} (hi : i < k) (hn : i ≤ n) : wr.cell? ⟨B, i, none⟩ = some (.slice (some ⟨Q i, 0, none⟩) (m + 1) (m + 1)) := by
 rw [h.o.cell, rowQ_get hn, if_pos hi]
theorem Mx.cell (h : Mx w wr B n m k Q f) {i j : Nat} (hi : i < k) (hj : j ≤ m) : wr.cell? ⟨Q i, j, none⟩ = some (i64 (f i j)) := by
 rw [(h.r i hi).cell, arrN_get _ hj]
theorem Mx.free (h : Mx w wr B n m k Q f) {i : Nat} (hi : i < k) (j : Nat) : wr.frozen? ⟨Q i, j, none⟩ = false := (h.r i hi).free j
theorem Mx.put (h : Mx w wr B n m k Q f) {i j : Nat} (hi : i < k) (v : Int) : Mx w (wr.setCell ⟨Q i, j, none⟩ (i64 v)) B n m k Q (fun a b => if a = i ∧ b = j then v else f a b) where
 o := h.o.far (p := ⟨Q i, j, none⟩) (Nat.ne_of_lt (h.hQ i hi)) _
 r := fun a ha => by
  by_cases e : a = i
  ·have h1 := (h.r a ha).put j (i64 v)
   rw [arrN_set] at h1
   have e2 : arrN m (fun q => if q = j then v else f a q) = arrN m (fun q => if a = i ∧ q = j then v else f a q) := arrN_congr fun q _ => by
    by_cases hq : q = j
    ·rw [if_pos hq, if_pos ⟨e, hq⟩]
    ·rw [if_neg hq, if_neg (fun h => hq h.2)]
   rw [e2, e] at h1
   rw [e]
   exact h1
  ·have hne : Q a ≠ Q i := fun h' => e (h.inj a i ha hi h')
   have h1 := (h.r a ha).far (p := ⟨Q i, j, none⟩) hne (i64 v)
   have e2 : arrN m (f a) = arrN m (fun q => if a = i ∧ q = j then v else f a q) := arrN_congr fun q _ => by
    rw [if_neg (fun h => e h.1)]
   rw [e2] at h1
   exact h1
 u := UpOf.of (h.u.below.setCell (p := ⟨Q i, j, none⟩) (Nat.le_of_lt (Nat.lt_of_le_of_lt h.hB (h.hQ i hi))) _)
 hB := h.hB
 hQ := h.hQ
 inj := h.inj
theorem Mx.more (h : Mx w wr B n m k Q f) (hk : k ≤ n) (f0 : Nat → Int) : Mx w ((wr.alloc (.cells (arrN m f0) 3)).setCell ⟨B, k, none⟩ (.slice (some ⟨wr.heap.size, 0, none⟩) (m + 1) (m + 1))) B n m (k + 1) (fun i => if i = k then wr.heap.size else Q i) (fun i => if i = k then f0 else f i) where
 o := by
  have h1 := (h.o.alloc (.cells (arrN m f0) 3)).put k (.slice (some ⟨wr.heap.size, 0, none⟩) (m + 1) (m + 1))
  rw [rowQ_set hk] at h1
  exact h1
 r := fun i hi => by
  by_cases e : i = k
  ·rw [if_pos e, if_pos e]
   exact (Blk.new wr 3 (arrN m f0)).far (p := ⟨B, k, none⟩) (Nat.ne_of_gt h.o.lt) _
  ·rw [if_neg e, if_neg e]
   have hi' : i < k := by omega
   exact ((h.r i hi').alloc _).far (p := ⟨B, k, none⟩) (Nat.ne_of_gt (h.hQ i hi')) _
 u := UpOf.of ((h.u.below.alloc h.u.below.size _).setCell (p := ⟨B, k, none⟩) h.hB _)
 hB := h.hB
 hQ := fun i hi => by
  show B < if i = k then wr.heap.size else Q i
  by_cases e : i = k
  ·rw [if_pos e]; exact h.o.lt
  ·rw [if_neg e]; exact h.hQ i (by omega)
 inj := fun i j hi hj he => by
  have hlt : ∀ a, a < k → Q a < wr.heap.size := fun a ha => (h.r a ha).lt
  replace he : (if i = k then wr.heap.size else Q i) = (if j = k then wr.heap.size else Q j) := he
  by_cases e1 : i = k
  ·by_cases e2 : j = k
   ·omega
   ·rw [if_pos e1, if_neg e2] at he
    have := hlt j (by omega)
    omega
  ·by_cases e2 : j = k
   ·rw [if_neg e1, if_pos e2] at he
    have := hlt i (by omega)
    omega
   ·rw [if_neg e1, if_neg e2] at he
    exact h.inj i j (by omega) (by omega) he
theorem Mx.more' (h : Mx w wr B n m k Q f) (hk : k ≤ n) (f0 : Nat → Int) : Mx w ((wr.setCell ⟨B, k, none⟩ (.slice (some ⟨wr.heap.size, 0, none⟩) (m + 1) (m + 1))).alloc (.cells (arrN m f0) 3)) B n m (k + 1) (fun i => if i = k then wr.heap.size else Q i) (fun i => if i = k then f0 else f i) := by
 have h1 := h.more hk f0
 rw [World.setCell_alloc_past (w := wr) _ B k _ h.o.lt] at h1
 exact h1
end
def mtF (a b : ByteArray) (I K i k : Nat) : Int := if I ≤ i ∨ (i + 1 = I ∧ K ≤ k) then cst a b i k else 0
theorem mtF_put (a b : ByteArray) (i k x y : Nat) : (if x = i ∧ y = k then cst a b i k else mtF a b (i + 1) (k + 1) x y) = mtF a b (i + 1) k x y := by
 unfold mtF
 by_cases h : x = i ∧ y = k
 ·rw [if_pos h, h.1, h.2, if_pos (.inr ⟨rfl, Nat.le_refl _⟩)]
 ·rw [if_neg h]
  by_cases h1 : i + 1 ≤ x ∨ x + 1 = i + 1 ∧ k + 1 ≤ y
  ·rw [if_pos h1, if_pos (by omega)]
  ·rw [if_neg h1, if_neg (by omega)]
theorem mtF_row (a b : ByteArray) {i m x y : Nat} (hy : y ≤ m) : mtF a b (i + 1) 0 x y = mtF a b i (m + 1) x y := by
 unfold mtF
 by_cases h1 : i + 1 ≤ x ∨ x + 1 = i + 1 ∧ 0 ≤ y
 ·rw [if_pos h1, if_pos (by omega)]
 ·rw [if_neg h1, if_neg (by omega)]
theorem mtF_done {a b : ByteArray} {i k x y : Nat} (h : i < x ∨ (i = x ∧ k < y)) : mtF a b (i + 1) (k + 1) x y = cst a b x y := by
 unfold mtF
 rw [if_pos (by omega)]
def Tb (w wr : World) (B : Nat) (Q : Nat → Nat) (a b : ByteArray) : Prop := Mx w wr B a.size b.size (a.size + 1) Q (cst a b)
def nxV (a b : ByteArray) (i k j : Nat) : Int := cst a b (i + sdi j) (k + sdk j) + ser j
def bst (a b : ByteArray) (i k j : Nat) : Int := bstJ (nxV a b i k) (okAl a b i k) j
theorem bst_no {a b : ByteArray} {i k j : Nat} (h : okAl a b i k j = false) : bst a b i k (j + 1) = bst a b i k j := by
 rw [bst, bstJ, h, Bool.false_and, if_neg (by simp)]; rfl
theorem bst_new {a b : ByteArray} {i k j : Nat} (h : okAl a b i k j = true) (h2 : bst a b i k j < 0 ∨ nxV a b i k j < bst a b i k j) : bst a b i k (j + 1) = nxV a b i k j := by
 rw [bst, bstJ, h, Bool.true_and, if_pos]
 rw [Bool.or_eq_true, decide_eq_true_eq, decide_eq_true_eq]
 exact h2
theorem bst_old {a b : ByteArray} {i k j : Nat} (h1 : ¬ bst a b i k j < 0) (h2 : ¬ nxV a b i k j < bst a b i k j) : bst a b i k (j + 1) = bst a b i k j := by
 rw [bst, bstJ, if_neg]
 ·rfl
 ·rw [Bool.and_eq_true, Bool.or_eq_true, decide_eq_true_eq, decide_eq_true_eq]
  rintro ⟨_, h | h⟩
  ·exact h1 h
  ·exact h2 h
theorem cst_bst (a b : ByteArray) (i k : Nat) : cst a b i k = max (bst a b i k 5) 0 := by
 rw [cst_eq]
 show (if bst a b i k 5 < 0 then 0 else bst a b i k 5) = _
 split <;> omega
def Lit5 (w : World) (b : Nat) : Prop := w.heap[b]? = some (.cells #[.int .u8 43, .int .u8 45, .int .u8 61, .int .u8 120, .int .u8 126] 5 (5, 6))
section
variable {w w' : World} {b : Nat}
theorem Lit5.lt (h : Lit5 w b) : b < w.heap.size := (Array.getElem?_eq_some_iff.1 h).1
theorem Lit5.below (h : Lit5 w b) (hb : Below w.heap.size w w') : Lit5 w' b := (hb.block b h.lt).trans h
theorem Lit5.cell (h : Lit5 w b) {j : Nat} (hj : j < 5) : w.cell? ⟨b, j, none⟩ = some (.int .u8 ((stB j).toNat : Int)) := by
 unfold Lit5 at h
 have h3 : j = 0 ∨ j = 1 ∨ j = 2 ∨ j = 3 ∨ j = 4 := by omega
 rcases h3 with rfl | rfl | rfl | rfl | rfl <;> simp [World.cell?, h] <;> rfl
end
theorem results_tmp4 {fn : Func} {t u v x : Tmp} (h : fn.results = #[.tmp t, .tmp u, .tmp v, .tmp x]) (tmps : Array Value) (P : Program) (w : World) :
  (results fn tmps).run P w = .ok (.tuple #[tmps.getD t undef, tmps.getD u undef, tmps.getD v undef, tmps.getD x undef]) w := by
 simp [results, h]
theorem byte_beq (a b : UInt8) : ((a.toNat : Int) == (b.toNat : Int)) = decide (a = b) := by
 rw [Bool.eq_iff_iff, beq_iff_eq, decide_eq_true_eq]
 constructor
 ·intro h; exact UInt8.toNat_inj.1 (by omega)
 ·rintro rfl; rfl
theorem byte_bne (a b : UInt8) : ((a.toNat : Int) != (b.toNat : Int)) = decide (a ≠ b) := by
 rw [bne, byte_beq]; by_cases h : a = b <;> simp [h]
theorem stepAt_any (x y : ByteArray) (j : Nat) (w : World) (hj : j < 5) (hx : x.size ≤ 1000) (hy : y.size ≤ 1000) :
  Calls Tryz.prog 135 #[.string x, .string y, .int .u8 ((stB j).toNat : Int)] w fun e w' => e = .returned (.tuple #[i64 (sdi j), i64 (sdk j), i64 (ser j), .bool (okAl x y 0 0 j)]) ∧ UpOf w w' := by
 obtain ⟨b, hb⟩ : ∃ b, okAl x y 0 0 j = b := ⟨_, rfl⟩
 have HF := hd_ hb
 rw [hb]
 have h5 : j = 0 ∨ j = 1 ∨ j = 2 ∨ j = 3 ∨ j = 4 := by omega
 by_cases hx0 : x.size = 0
 ·have e1 := isEmpty_yes hx0
  by_cases hy0 : y.size = 0
  ·have e2 := isEmpty_yes hy0
   rcases h5 with rfl | rfl | rfl | rfl | rfl
   all_goals
    have hbf : b = false := by rw [← hb]; simp [okAl, hx0, hy0]
    subst hbf
    clear hb HF
    go_enter Tryz.func135, Tryz.ntmps135
    go_wp2_with (first | ((with_reducible refine wru ?_); (repeat (go_big_quiet_step (fail))); refine wqn fun nq => ?_))
    ((try simp only [Exit.inBlock, Exit.then]); refine bodyPost_ret (results_tmp4 rfl _ _ _) rfl ?_)
    exact ⟨rfl, uw_⟩
  ·have e2 := isEmpty_no (s := y) (by omega)
   rcases h5 with rfl | rfl | rfl | rfl | rfl
   ·have hbf : b = true := by rw [← hb]; (simp [okAl]; omega)
    subst hbf
    clear hb HF
    go_enter Tryz.func135, Tryz.ntmps135
    go_wp2_with (first | ((with_reducible refine wru ?_); (repeat (go_big_quiet_step (fail))); refine wqn fun nq => ?_))
    ((try simp only [Exit.inBlock, Exit.then]); refine bodyPost_ret (results_tmp4 rfl _ _ _) rfl ?_)
    exact ⟨rfl, uw_⟩
   all_goals
    have hbf : b = false := by rw [← hb]; simp [okAl, hx0]
    subst hbf
    clear hb HF
    go_enter Tryz.func135, Tryz.ntmps135
    go_wp2_with (first | ((with_reducible refine wru ?_); (repeat (go_big_quiet_step (fail))); refine wqn fun nq => ?_))
    ((try simp only [Exit.inBlock, Exit.then]); refine bodyPost_ret (results_tmp4 rfl _ _ _) rfl ?_)
    exact ⟨rfl, uw_⟩
 ·have e1 := isEmpty_no (s := x) (by omega)
  have px : 0 < x.size := by omega
  have b0 := byteAt_eq px
  by_cases hy0 : y.size = 0
  ·have e2 := isEmpty_yes hy0
   rcases h5 with rfl | rfl | rfl | rfl | rfl
   ·have hbf : b = false := by rw [← hb]; simp [okAl, hy0]
    subst hbf
    clear hb HF
    go_enter Tryz.func135, Tryz.ntmps135
    go_wp2_with (first | ((with_reducible refine wru ?_); (repeat (go_big_quiet_step (fail))); refine wqn fun nq => ?_))
    ((try simp only [Exit.inBlock, Exit.then]); refine bodyPost_ret (results_tmp4 rfl _ _ _) rfl ?_)
    exact ⟨rfl, uw_⟩
   ·have hbf : b = true := by rw [← hb]; (simp [okAl]; omega)
    subst hbf
    clear hb HF
    go_enter Tryz.func135, Tryz.ntmps135
    go_wp2_with (first | ((with_reducible refine wru ?_); (repeat (go_big_quiet_step (fail))); refine wqn fun nq => ?_))
    ((try simp only [Exit.inBlock, Exit.then]); refine bodyPost_ret (results_tmp4 rfl _ _ _) rfl ?_)
    exact ⟨rfl, uw_⟩
   ·have hbf : b = false := by rw [← hb]; simp [okAl, hy0]
    subst hbf
    clear hb HF
    go_enter Tryz.func135, Tryz.ntmps135
    go_wp2_with (first | ((with_reducible refine wru ?_); (repeat (go_big_quiet_step (fail))); refine wqn fun nq => ?_))
    ((try simp only [Exit.inBlock, Exit.then]); refine bodyPost_ret (results_tmp4 rfl _ _ _) rfl ?_)
    exact ⟨rfl, uw_⟩
   ·have hbf : b = false := by rw [← hb]; simp [okAl, hy0]
    subst hbf
    clear hb HF
    go_enter Tryz.func135, Tryz.ntmps135
    go_wp2_with (first | ((with_reducible refine wru ?_); (repeat (go_big_quiet_step (fail))); refine wqn fun nq => ?_))
    ((try simp only [Exit.inBlock, Exit.then]); refine bodyPost_ret (results_tmp4 rfl _ _ _) rfl ?_)
    exact ⟨rfl, uw_⟩
   ·by_cases h1 : 1 < x.size
    ·have h1' : (1 : Int) < x.size := by omega
     have hbf : b = false := by rw [← hb]; simp [okAl, hy0]
     subst hbf
     clear hb HF
     go_enter Tryz.func135, Tryz.ntmps135
     go_wp2_with (first | ((with_reducible refine wru ?_); (repeat (go_big_quiet_step (fail))); refine wqn fun nq => ?_))
     ((try simp only [Exit.inBlock, Exit.then]); refine bodyPost_ret (results_tmp4 rfl _ _ _) rfl ?_)
     exact ⟨rfl, uw_⟩
    ·have h1' : ¬ (1 : Int) < x.size := by omega
     have hbf : b = false := by rw [← hb]; simp [okAl, hy0]
     subst hbf
     clear hb HF
     go_enter Tryz.func135, Tryz.ntmps135
     go_wp2_with (first | ((with_reducible refine wru ?_); (repeat (go_big_quiet_step (fail))); refine wqn fun nq => ?_))
     ((try simp only [Exit.inBlock, Exit.then]); refine bodyPost_ret (results_tmp4 rfl _ _ _) rfl ?_)
     exact ⟨rfl, uw_⟩
  ·have e2 := isEmpty_no (s := y) (by omega)
   have py : 0 < y.size := by omega
   have d0 := byteAt_eq py
   rcases h5 with rfl | rfl | rfl | rfl | rfl
   ·have hbf : b = true := by rw [← hb]; (simp [okAl]; omega)
    subst hbf
    clear hb HF
    go_enter Tryz.func135, Tryz.ntmps135
    go_wp2_with (first | ((with_reducible refine wru ?_); (repeat (go_big_quiet_step (fail))); refine wqn fun nq => ?_))
    ((try simp only [Exit.inBlock, Exit.then]); refine bodyPost_ret (results_tmp4 rfl _ _ _) rfl ?_)
    exact ⟨rfl, uw_⟩
   ·have hbf : b = true := by rw [← hb]; (simp [okAl]; omega)
    subst hbf
    clear hb HF
    go_enter Tryz.func135, Tryz.ntmps135
    go_wp2_with (first | ((with_reducible refine wru ?_); (repeat (go_big_quiet_step (fail))); refine wqn fun nq => ?_))
    ((try simp only [Exit.inBlock, Exit.then]); refine bodyPost_ret (results_tmp4 rfl _ _ _) rfl ?_)
    exact ⟨rfl, uw_⟩
   ·by_cases q : byteAt x 0 = byteAt y 0
    ·have q' : (((byteAt x 0).toNat : Int) == ((byteAt y 0).toNat : Int)) = true := by rw [byte_beq, decide_eq_true q]
     have hbf : b = true := by rw [← hb]; (simp [okAl, q]; omega)
     subst hbf
     clear hb HF
     go_enter Tryz.func135, Tryz.ntmps135
     go_wp2_with (first | ((with_reducible refine wru ?_); (repeat (go_big_quiet_step (fail))); refine wqn fun nq => ?_))
     ((try simp only [Exit.inBlock, Exit.then]); refine bodyPost_ret (results_tmp4 rfl _ _ _) rfl ?_)
     exact ⟨rfl, uw_⟩
    ·have q' : (((byteAt x 0).toNat : Int) == ((byteAt y 0).toNat : Int)) = false := by rw [byte_beq, decide_eq_false q]
     have hbf : b = false := by rw [← hb]; simp [okAl, q]
     subst hbf
     clear hb HF
     go_enter Tryz.func135, Tryz.ntmps135
     go_wp2_with (first | ((with_reducible refine wru ?_); (repeat (go_big_quiet_step (fail))); refine wqn fun nq => ?_))
     ((try simp only [Exit.inBlock, Exit.then]); refine bodyPost_ret (results_tmp4 rfl _ _ _) rfl ?_)
     exact ⟨rfl, uw_⟩
   ·by_cases q : byteAt x 0 = byteAt y 0
    ·have q' : (((byteAt x 0).toNat : Int) != ((byteAt y 0).toNat : Int)) = false := by rw [byte_bne, decide_eq_false (fun h => h q)]
     have hbf : b = false := by rw [← hb]; simp [okAl, q]
     subst hbf
     clear hb HF
     go_enter Tryz.func135, Tryz.ntmps135
     go_wp2_with (first | ((with_reducible refine wru ?_); (repeat (go_big_quiet_step (fail))); refine wqn fun nq => ?_))
     ((try simp only [Exit.inBlock, Exit.then]); refine bodyPost_ret (results_tmp4 rfl _ _ _) rfl ?_)
     exact ⟨rfl, uw_⟩
    ·have q' : (((byteAt x 0).toNat : Int) != ((byteAt y 0).toNat : Int)) = true := by rw [byte_bne, decide_eq_true q]
     have hbf : b = true := by rw [← hb]; (simp [okAl, q]; omega)
     subst hbf
     clear hb HF
     go_enter Tryz.func135, Tryz.ntmps135
     go_wp2_with (first | ((with_reducible refine wru ?_); (repeat (go_big_quiet_step (fail))); refine wqn fun nq => ?_))
     ((try simp only [Exit.inBlock, Exit.then]); refine bodyPost_ret (results_tmp4 rfl _ _ _) rfl ?_)
     exact ⟨rfl, uw_⟩
   ·by_cases h1 : 1 < x.size
    ·have h1' : (1 : Int) < x.size := by omega
     by_cases h2 : 1 < y.size
     ·have h2' : (1 : Int) < y.size := by omega
      have b1 := byteAt_eq h1
      have d1 := byteAt_eq h2
      by_cases q1 : byteAt x 0 = byteAt x 1
      ·have q1' : (((byteAt x 0).toNat : Int) != ((byteAt x 1).toNat : Int)) = false := by rw [byte_bne, decide_eq_false (fun h => h q1)]
       have hbf : b = false := by rw [← hb]; simp [okAl, q1]
       subst hbf
       clear hb HF
       go_enter Tryz.func135, Tryz.ntmps135
       go_wp2_with (first | ((with_reducible refine wru ?_); (repeat (go_big_quiet_step (fail))); refine wqn fun nq => ?_))
       ((try simp only [Exit.inBlock, Exit.then]); refine bodyPost_ret (results_tmp4 rfl _ _ _) rfl ?_)
       exact ⟨rfl, uw_⟩
      ·have q1' : (((byteAt x 0).toNat : Int) != ((byteAt x 1).toNat : Int)) = true := by rw [byte_bne, decide_eq_true q1]
       by_cases q2 : byteAt x 0 = byteAt y 1
       ·have q2' : (((byteAt x 0).toNat : Int) == ((byteAt y 1).toNat : Int)) = true := by rw [byte_beq, decide_eq_true q2]
        have Q2 := hd_ q2
        clear q2
        by_cases q3 : byteAt x 1 = byteAt y 0
        ·have q3' : (((byteAt x 1).toNat : Int) == ((byteAt y 0).toNat : Int)) = true := by rw [byte_beq, decide_eq_true q3]
         have Q3 := hd_ q3
         clear q3
         have hbf : b = true := by rw [← hb]; exact decide_eq_true ⟨by omega, by omega, q1, Q2.out, Q3.out⟩
         subst hbf
         clear hb HF
         go_enter Tryz.func135, Tryz.ntmps135
         go_wp2_with (first | ((with_reducible refine wru ?_); (repeat (go_big_quiet_step (fail))); refine wqn fun nq => ?_))
         ((try simp only [Exit.inBlock, Exit.then]); refine bodyPost_ret (results_tmp4 rfl _ _ _) rfl ?_)
         exact ⟨rfl, uw_⟩
        ·have q3' : (((byteAt x 1).toNat : Int) == ((byteAt y 0).toNat : Int)) = false := by rw [byte_beq, decide_eq_false q3]
         have hbf : b = false := by rw [← hb]; exact decide_eq_false (fun h => q3 h.2.2.2.2)
         subst hbf
         clear hb HF
         go_enter Tryz.func135, Tryz.ntmps135
         go_wp2_with (first | ((with_reducible refine wru ?_); (repeat (go_big_quiet_step (fail))); refine wqn fun nq => ?_))
         ((try simp only [Exit.inBlock, Exit.then]); refine bodyPost_ret (results_tmp4 rfl _ _ _) rfl ?_)
         exact ⟨rfl, uw_⟩
       ·have q2' : (((byteAt x 0).toNat : Int) == ((byteAt y 1).toNat : Int)) = false := by rw [byte_beq, decide_eq_false q2]
        have hbf : b = false := by rw [← hb]; exact decide_eq_false (fun h => q2 h.2.2.2.1)
        subst hbf
        clear hb HF
        go_enter Tryz.func135, Tryz.ntmps135
        go_wp2_with (first | ((with_reducible refine wru ?_); (repeat (go_big_quiet_step (fail))); refine wqn fun nq => ?_))
        ((try simp only [Exit.inBlock, Exit.then]); refine bodyPost_ret (results_tmp4 rfl _ _ _) rfl ?_)
        exact ⟨rfl, uw_⟩
     ·have h2' : ¬ (1 : Int) < y.size := by omega
      have hbf : b = false := by rw [← hb]; exact decide_eq_false (fun h => h2 (by omega))
      subst hbf
      clear hb HF
      go_enter Tryz.func135, Tryz.ntmps135
      go_wp2_with (first | ((with_reducible refine wru ?_); (repeat (go_big_quiet_step (fail))); refine wqn fun nq => ?_))
      ((try simp only [Exit.inBlock, Exit.then]); refine bodyPost_ret (results_tmp4 rfl _ _ _) rfl ?_)
      exact ⟨rfl, uw_⟩
    ·have h1' : ¬ (1 : Int) < x.size := by omega
     have hbf : b = false := by rw [← hb]; exact decide_eq_false (fun h => h1 (by omega))
     subst hbf
     clear hb HF
     go_enter Tryz.func135, Tryz.ntmps135
     go_wp2_with (first | ((with_reducible refine wru ?_); (repeat (go_big_quiet_step (fail))); refine wqn fun nq => ?_))
     ((try simp only [Exit.inBlock, Exit.then]); refine bodyPost_ret (results_tmp4 rfl _ _ _) rfl ?_)
     exact ⟨rfl, uw_⟩
theorem leastFrom_any (a b : ByteArray) (w : World) (ha : a.size ≤ 60) (hb : b.size ≤ 60) :
  Calls Tryz.prog 83 #[.string a, .string b] w fun e w' => ∃ B Q, e = .returned (.slice (some ⟨B, 0, none⟩) (a.size + 1) (a.size + 1)) ∧ Tb w w' B Q a b := by
 have hm1 : ∀ u : World, (Instr.makeSlice 122 (.int .i64 ((a.size : Int) + 1)) (.int .i64 ((a.size : Int) + 1))).run Tryz.prog u = .ok (.slice (some ⟨u.heap.size, 0, none⟩) (a.size + 1) (a.size + 1)) (u.alloc (.cells (rowQ a.size b.size (fun _ => 0) 0) 121)) := fun u => mk_rows u _ _ _ (by omega)
 have hm2 : ∀ u : World, (Instr.makeSlice 121 (.int .i64 ((b.size : Int) + 1)) (.int .i64 ((b.size : Int) + 1))).run Tryz.prog u = .ok (.slice (some ⟨u.heap.size, 0, none⟩) (b.size + 1) (b.size + 1)) (u.alloc (.cells (arrN b.size fun _ => 0) 3)) := fun u => mk_row u _ (by omega)
 obtain ⟨n, hn⟩ : ∃ n, a.size = n := ⟨_, rfl⟩
 obtain ⟨m, hm⟩ : ∃ m, b.size = m := ⟨_, rfl⟩
 have HN := hd_ hn
 have HM := hd_ hm
 rw [hn] at hm1 ha
 rw [hm] at hm1 hm2 hb
 go_enter Tryz.func83, Tryz.ntmps83
 go_upto_region 2 with (fail)
 have HF := hd_ (show Mx w (w.alloc (.cells (rowQ n m (fun _ => 0) 0) 121)) w.heap.size n m 0 (fun _ => 0) (fun _ _ => 0) from ⟨Blk.new _ _ _, fun i hi => by omega, uw_, Nat.le_refl _, fun i hi => by omega, fun i j hi => by omega⟩)
 obtain ⟨B, hB⟩ : ∃ B, w.heap.size = B := ⟨_, rfl⟩
 rw [hB] at HF
 rw [hB]
 clear hB hm1
 go_wp2_with fail
 go_loopw [22] (fun i wr => ∃ k : Nat, k ≤ n + 1 ∧ i = i64 k ∧ ∃ Q, Hid (Mx w wr B n m k Q fun _ _ => 0)) (fun i _ => n + 1 - (intOf i).toNat)
 case atStart => exact ⟨0, by omega, rfl, _, HF⟩
 case round =>
  obtain ⟨k, hk, rfl, Q, D⟩ := hrel
  clear HF
  by_cases hlt : k < n + 1
  ·have hlt' : (k : Int) < (n : Int) + 1 := by omega
   have d0 := D.out.o.lt
   have d1 : wr.cell? ⟨B, k, none⟩ = some (.slice none 0 0) := by rw [D.out.o.cell, rowQ_get (by omega), if_neg (by omega)]
   have d2 := D.out.o.free k
   go_wp2_with fail
   go_roundw
   case rel => exact ⟨k + 1, by omega, by go_num, _, hd_ ((D.out.more' (by omega) fun _ => 0).congr fun i j hi hj => by
    by_cases e : i = k
    ·rw [if_pos e]
    ·rw [if_neg e])⟩
   case measure => (simp [intOf]; try omega)
  ·have hge : ¬ (k : Int) < (n : Int) + 1 := by omega
   obtain rfl : k = n + 1 := by omega
   clear hlt hk hm2
   go_wp2_with fail
   go_loopw [7] (fun t7 wr => ∃ (I : Nat) (z : Int), I ≤ n + 1 ∧ t7 = .int .i64 z ∧ z = (I : Int) - 1 ∧ Hid (Mx w wr B n m (n + 1) Q (mtF a b I (m + 1)))) (fun t7 _ => (intOf t7 + 1).toNat)
   case atStart => exact ⟨n + 1, n, by omega, rfl, by omega, hd_ (D.out.congr fun i j hi hj => by
    unfold mtF; rw [if_neg (by omega)])⟩
   case round =>
    obtain ⟨I, z, hI, rfl, hz, E⟩ := hrel
    clear D
    by_cases hI0 : I = 0
    ·obtain rfl : z = -1 := by omega
     have hfin : Hid (Tb w wr B Q a b) := hd_ (by
      unfold Tb
      rw [HN.out, HM.out]
      exact E.out.congr fun i j hi hj => by unfold mtF; rw [if_pos (by omega)])
     clear hz hI0 hI hge E
     go_wp2_with fail
     go_ret
     exact ⟨B, Q, by rw [HN.out]; rfl, hfin.out⟩
    ·obtain ⟨i, rfl⟩ : ∃ i, I = i + 1 := ⟨I - 1, by omega⟩
     obtain rfl : z = (i : Int) := by omega
     have hi' : i ≤ n := by omega
     have hi1 : (0 : Int) ≤ (i : Int) := by omega
     clear hz hI0 hI hge
     go_wp2_with fail
     go_loopw [8] (fun t8 wr => ∃ (K : Nat) (z : Int), K ≤ m + 1 ∧ t8 = .int .i64 z ∧ z = (K : Int) - 1 ∧ Hid (Mx w wr B n m (n + 1) Q (mtF a b (i + 1) K))) (fun t8 _ => (intOf t8 + 1).toNat)
     case atStart => exact ⟨m + 1, m, by omega, rfl, by omega, E⟩
     case round =>
      obtain ⟨K, z, hK, rfl, hz, F⟩ := hrel
      clear E
      by_cases hK0 : K = 0
      ·obtain rfl : z = -1 := by omega
       subst hK0
       have G := hd_ (F.out.congr (g := mtF a b i (m + 1)) fun x y hx hy => mtF_row a b hy)
       clear F hz hK
       go_wp2_with fail
       refine ⟨⟨i, (i : Int) - 1, by omega, rfl, rfl, G⟩, by simp [intOf]; try omega⟩
      ·obtain ⟨k, rfl⟩ : ∃ k, K = k + 1 := ⟨K - 1, by omega⟩
       obtain rfl : z = (k : Int) := by omega
       have hk' : k ≤ m := by omega
       have hk1 : (0 : Int) ≤ (k : Int) := by omega
       clear hz hK0 hK
       obtain ⟨q, hq⟩ : ∃ q, wr.heap.size = q := ⟨_, rfl⟩
       have hcv : (convert 22 22 (.slice (some ⟨q, 0, none⟩) 5 5)).run Tryz.prog (wr.alloc (.cells #[.int .u8 43, .int .u8 45, .int .u8 61, .int .u8 120, .int .u8 126] 5)) = .ok (.slice (some ⟨q, 0, none⟩) 5 5) (wr.alloc (.cells #[.int .u8 43, .int .u8 45, .int .u8 61, .int .u8 120, .int .u8 126] 5 (5, 6))) := by
        subst hq
        exact Lib.run_convert_bytes_const wr 22 5 #[.int .u8 43, .int .u8 45, .int .u8 61, .int .u8 120, .int .u8 126] 5 5 Tryz.underlying22 Tryz.underlying5
       have hl5 : Hid (Lit5 (wr.alloc (.cells #[.int .u8 43, .int .u8 45, .int .u8 61, .int .u8 120, .int .u8 126] 5 (5, 6))) q) := by
        subst hq
        exact hd_ (by show (wr.heap.push _)[wr.heap.size]? = _; simp)
       go_wp2_with fail
       go_loopw [9, 48] (fun t9 t48 wr => ∃ (j : Nat) (bv : Int), j ≤ 5 ∧ t48 = i64 j ∧ t9 = .int .i64 bv ∧ Hid (bv = bst a b i k j) ∧ Hid (Lit5 wr q) ∧ Hid (Mx w wr B n m (n + 1) Q (mtF a b (i + 1) (k + 1)))) (fun _ t48 _ => 5 - (intOf t48).toNat)
       case atStart => exact ⟨0, -1, by omega, rfl, rfl, hd_ rfl, hl5, hd_ (F.out.below bw_)⟩
       case round =>
        obtain ⟨j, bv, hj, rfl, rfl, HB, HL, G⟩ := hrel
        clear F hl5 hcv
        by_cases hj5 : j < 5
        ·have hj' : (j : Int) < 5 := by omega
         have f1 := HL.out.cell hj5
         have f0 := HL.out.lt
         obtain ⟨di, hdi⟩ : ∃ d, sdi j = d := ⟨_, rfl⟩
         obtain ⟨dk, hdk⟩ : ∃ d, sdk j = d := ⟨_, rfl⟩
         obtain ⟨er, her⟩ : ∃ e, ser j = e := ⟨_, rfl⟩
         have hst : ∀ V : World, Calls Tryz.prog 135 #[.string (a.extract i n), .string (b.extract k m), .int .u8 ((stB j).toNat : Int)] V fun e w' => e = .returned (.tuple #[i64 di, i64 dk, i64 er, .bool (okAl a b i k j)]) ∧ UpOf V w' := fun V => by
          have := stepAt_any (rst a i) (rst b k) j V hj5 (by rw [rst_size]; omega) (by rw [rst_size]; omega)
          rw [okAl_rst, hdi, hdk, her, rst, rst, HN.out, HM.out] at this
          exact this
         have hdi2 : di ≤ 2 := by rw [← hdi]; unfold sdi; (repeat' split) <;> omega
         have hdk2 : dk ≤ 2 := by rw [← hdk]; unfold sdk; (repeat' split) <;> omega
         cases hok : okAl a b i k j with
         | false =>
          have HC : Hid (∀ V : World, Calls Tryz.prog 135 #[.string (a.extract i n), .string (b.extract k m), .int .u8 ((stB j).toNat : Int)] V fun e w' => e = .returned (.tuple #[i64 di, i64 dk, i64 er, .bool false]) ∧ UpOf V w') := hd_ (by rw [hok] at hst; exact hst)
          have HB2 := hd_ (show bv = bst a b i k (j + 1) by rw [bst_no hok, HB.out])
          clear hst hok HB hdi hdk her
          go_wp2_with (first | ((with_reducible refine wru ?_); (repeat (go_big_quiet_step (first | (go_at_call 135; exact uq_ (HC.out _))))); refine wqn fun nq => ?_))
          go_roundw
          case rel => exact ⟨j + 1, bv, by omega, by go_num, rfl, HB2, hd_ (HL.out.below bw_), hd_ (G.out.below bw_)⟩
          case measure => simp [intOf]; try omega
         | true =>
          have HC : Hid (∀ V : World, Calls Tryz.prog 135 #[.string (a.extract i n), .string (b.extract k m), .int .u8 ((stB j).toNat : Int)] V fun e w' => e = .returned (.tuple #[i64 di, i64 dk, i64 er, .bool true]) ∧ UpOf V w') := hd_ (by rw [hok] at hst; exact hst)
          have hgo := okAl_go hok hj5
          rw [hdi, hdk] at hgo
          have hdn : i + di ≤ n := by have := hgo.2.1 (by omega); omega
          have hkn : k + dk ≤ m := by have := hgo.2.2 (by omega); omega
          have hin : (i : Int) + (di : Int) < (n : Int) + 1 := by omega
          have hkm : (k : Int) + (dk : Int) < (m : Int) + 1 := by omega
          have ht1 : ((i : Int) + (di : Int)).toNat = i + di := by omega
          have ht2 : ((k : Int) + (dk : Int)).toNat = k + dk := by omega
          have hcs : cst a b (i + di) (k + dk) = mtF a b (i + 1) (k + 1) (i + di) (k + dk) := by
           rw [mtF_done]
           omega
          obtain ⟨cv, hcv⟩ : ∃ v, cst a b (i + di) (k + dk) = v := ⟨_, rfl⟩
          have hc0 : 0 ≤ cv := by rw [← hcv]; exact cst_nn _ _ _ _
          have hc1 : cv ≤ 120 := by
           have := cst_bd a b _ (i + di) (k + dk) rfl
           rw [hcv] at this
           omega
          have her0 : 0 ≤ er := by rw [← her]; exact ser_nn j
          have her1 : er ≤ 1 := by rw [← her]; unfold ser; split <;> omega
          have hnv : nxV a b i k j = cv + er := by rw [nxV, hdi, hdk, her, hcv]
          have hr : ∀ g : Up wr, (up wr g).cell? ⟨B, i + di, none⟩ = some (.slice (some ⟨Q (i + di), 0, none⟩) (m + 1) (m + 1)) := fun g => (G.out.below g.below).row (by omega) (by omega)
          have hx : ∀ g : Up wr, (up wr g).cell? ⟨Q (i + di), k + dk, none⟩ = some (i64 cv) := fun g => by
           have := (G.out.below g.below).cell (i := i + di) (j := k + dk) (by omega) (by omega)
           rw [← hcs, hcv] at this
           exact this
          have HNEW : Hid (bv < 0 ∨ cv + er < bv → cv + er = bst a b i k (j + 1)) := hd_ fun h => by
           rw [bst_new hok (by rw [← HB.out, hnv]; exact h), hnv]
          have HOLD : Hid (¬ bv < 0 → ¬ cv + er < bv → bv = bst a b i k (j + 1)) := hd_ fun h1 h2 => by
           rw [bst_old (by rw [← HB.out]; exact h1) (by rw [← HB.out, hnv]; exact h2), HB.out]
          clear hcs hcv hgo hst hok hnv HB
          clear hdi hdk her
          by_cases hb0 : bv < 0
          ·have hb1 : decide (bv < 0) = true := decide_eq_true hb0
           go_wp2_with (first | ((with_reducible refine wru ?_); (repeat (go_big_quiet_step (first | (go_at_call 135; exact uq_ (HC.out _))))); refine wqn fun nq => ?_))
           go_roundw
           case rel => exact ⟨j + 1, cv + er, by omega, by go_num, rfl, hd_ (HNEW.out (.inl hb0)), hd_ (HL.out.below bw_), hd_ (G.out.below bw_)⟩
           case measure => simp [intOf]; try omega
          ·have hb1 : decide (bv < 0) = false := decide_eq_false hb0
           by_cases hb2 : cv + er < bv
           ·have hb3 : decide (cv + er < bv) = true := decide_eq_true hb2
            go_wp2_with (first | ((with_reducible refine wru ?_); (repeat (go_big_quiet_step (first | (go_at_call 135; exact uq_ (HC.out _))))); refine wqn fun nq => ?_))
            go_roundw
            case rel => exact ⟨j + 1, cv + er, by omega, by go_num, rfl, hd_ (HNEW.out (.inr hb2)), hd_ (HL.out.below bw_), hd_ (G.out.below bw_)⟩
            case measure => simp [intOf]; try omega
           ·have hb3 : decide (cv + er < bv) = false := decide_eq_false hb2
            go_wp2_with (first | ((with_reducible refine wru ?_); (repeat (go_big_quiet_step (first | (go_at_call 135; exact uq_ (HC.out _))))); refine wqn fun nq => ?_))
            go_roundw
            case rel => exact ⟨j + 1, bv, by omega, by go_num, rfl, hd_ (HOLD.out hb0 hb2), hd_ (HL.out.below bw_), hd_ (G.out.below bw_)⟩
            case measure => simp [intOf]; try omega
        ·obtain rfl : j = 5 := by omega
         have hv5 := hd_ (show cst a b i k = max bv 0 by rw [cst_bst, HB.out])
         clear HB
         have g0 := G.out.row (i := i) (by omega) (by omega)
         have g1 := G.out.cell (i := i) (j := k) (by omega) (by omega)
         have g2 := G.out.free (i := i) (by omega) k
         have g3 := G.out.o.lt
         have g4 := (G.out.r i (by omega)).lt
         have hin : (i : Int) < (n : Int) + 1 := by omega
         have hkm : (k : Int) < (m : Int) + 1 := by omega
         go_wp2_with fail
         refine ⟨⟨k, (k : Int) - 1, by omega, rfl, rfl, hd_ ?_⟩, by simp [intOf]; try omega⟩
         have e : (if bv < 0 then 0 else bv) = cst a b i k := by rw [hv5.out]; split <;> omega
         first | rw [e] | rw [← hv5.out]
         exact (G.out.put (i := i) (j := k) (by omega) (cst a b i k)).congr fun x y _ _ => mtF_put a b i k x y
theorem stB_bytes (j : Nat) : [Value.int .u8 ((stB j).toNat : Int)] = Lib.byteCells [stB j] := rfl
theorem fst_at {a b : ByteArray} {i k j : Nat} (hj : j < 5) (hn : ∀ x, x < j → tight a b i k x = false) (h : tight a b i k j = true) (hm : i < a.size ∨ k < b.size) : alnA a b i k = stB j :: alnA a b (i + sdi j) (k + sdk j) :=
 alnA_step hm (fstS_at hj hn h)
theorem alignment_any (a b : ByteArray) (w : World) (ha : a.size ≤ 60) (hb : b.size ≤ 60) :
  Calls Tryz.prog 82 #[.string a, .string b] w fun e w' => e = .returned (.string (bs (alnA a b 0 0))) ∧ UpOf w w' := by
 have HLF : Hid (∀ V, Calls Tryz.prog 83 #[.string a, .string b] V fun e w' => ∃ B Q, e = .returned (.slice (some ⟨B, 0, none⟩) (a.size + 1) (a.size + 1)) ∧ Tb V w' B Q a b) := hd_ fun V => leastFrom_any a b V ha hb
 obtain ⟨n, hn⟩ : ∃ n, a.size = n := ⟨_, rfl⟩
 obtain ⟨m, hm⟩ : ∃ m, b.size = m := ⟨_, rfl⟩
 have HN := hd_ hn
 have HM := hd_ hm
 rw [hn] at ha
 rw [hm] at hb
 go_enter Tryz.func82, Tryz.ntmps82
 go_wp2_with fail
 refine (HLF.out _).mono ?_
 rintro e w' ⟨B, Q, rfl, HT⟩
 have HU := hd_ HT.u
 have HT := hd_ (show Mx w w' B n m (n + 1) Q (cst a b) from by unfold Tb at HT; rw [HN.out, HM.out] at HT; exact HT)
 clear HLF
 have HOW : Hid ((w'.alloc (.cells #[] 5)).ownsRow w'.heap.size 5 1 (.slice (some ⟨w'.heap.size, 0, none⟩) 0 0) 0 (Lib.byteCells [])) := hd_
  (World.ownsRow_lit (base := w'.heap.size) (e := 5) (size := 1) w' #[] 0 (Nat.le_refl _) (by unfold maxLen; omega) rfl)
 go_wp2_with fail
 go_loopw [6, 7, 8] (fun t6 t7 t8 wr => ∃ (i k : Nat) (L : List UInt8) (A1 : Option Addr) (c1 : Nat), i ≤ n ∧ k ≤ m ∧ t7 = i64 i ∧ t8 = i64 k ∧ t6 = .slice A1 L.length c1 ∧ Hid (L.length + (alnA a b i k).length ≤ 120 ∧ alnA a b 0 0 = L ++ alnA a b i k) ∧ Hid (wr.ownsRow w'.heap.size 5 1 (.slice A1 L.length c1) L.length (Lib.byteCells L)) ∧ ∃ g : Up w', wr = up w' g) (fun _ t7 t8 _ => (n - (intOf t7).toNat) + (m - (intOf t8).toNat))
 case atStart => exact ⟨0, 0, [], _, _, by omega, by omega, rfl, rfl, rfl, hd_ ⟨by have := alnA_len a b 0 0; rw [HN.out, HM.out] at this; simp; omega, rfl⟩, HOW, ex_up bw_⟩
 case round =>
  obtain ⟨i, k, L, A1, c1, hi, hk, rfl, rfl, rfl, HK, HO, g1, rfl⟩ := hrel
  clear HOW
  by_cases hend : i < n ∨ k < m
  ·go_upto_region 4 with (fail)
   go_cut [28] (fun x V => x = .bool true ∧ V = up w' g1)
   case first =>
    by_cases hin2 : i < n
    ·have hin3 : (i : Int) < (n : Int) := by omega
     go_wp2_with fail
     go_meet
     exact ⟨rfl, rfl⟩
    ·have hin3 : ¬ (i : Int) < (n : Int) := by omega
     have hkm3 : (k : Int) < (m : Int) := by omega
     go_wp2_with fail
     go_meet
     exact ⟨rfl, rfl⟩
   case rest =>
    obtain ⟨rfl, rfl⟩ := hcut
    obtain ⟨q, hq⟩ : ∃ q, (up w' g1).heap.size = q := ⟨_, rfl⟩
    have hcv : (convert 22 22 (.slice (some ⟨q, 0, none⟩) 5 5)).run Tryz.prog (up w' (g1.al (.cells #[.int .u8 43, .int .u8 45, .int .u8 61, .int .u8 120, .int .u8 126] 5))) = .ok (.slice (some ⟨q, 0, none⟩) 5 5) (up w' (g1.al (.cells #[.int .u8 43, .int .u8 45, .int .u8 61, .int .u8 120, .int .u8 126] 5 (5, 6)))) := by
     subst hq
     exact Lib.run_convert_bytes_const (up w' g1) 22 5 #[.int .u8 43, .int .u8 45, .int .u8 61, .int .u8 120, .int .u8 126] 5 5 Tryz.underlying22 Tryz.underlying5
    have hl5 : Hid (Lit5 (up w' (g1.al (.cells #[.int .u8 43, .int .u8 45, .int .u8 61, .int .u8 120, .int .u8 126] 5 (5, 6)))) q) := by
     subst hq
     exact hd_ (by show ((up w' g1).heap.push _)[(up w' g1).heap.size]? = _; simp)
    go_wp2_with (first | ((with_reducible refine wru ?_); (repeat (go_big_quiet_step (fail))); refine wqn fun nq => ?_))
    go_loopw [6, 7, 8, 32] (fun t6 t7 t8 t32 wr => ∃ j : Nat, j ≤ 5 ∧ t6 = .slice A1 L.length c1 ∧ t7 = i64 i ∧ t8 = i64 k ∧ t32 = i64 j ∧ Hid (∀ x, x < j → tight a b i k x = false) ∧ Hid (Lit5 wr q) ∧ Hid (wr.ownsRow w'.heap.size 5 1 (.slice A1 L.length c1) L.length (Lib.byteCells L)) ∧ ∃ g : Up w', wr = up w' g) (fun _ _ _ t32 _ => 5 - (intOf t32).toNat)
    case atStart => exact ⟨0, by omega, rfl, rfl, rfl, rfl, hd_ (fun x hx => by omega), hl5, hd_ (own_below HO.out bw_), _, rfl⟩
    case round =>
     obtain ⟨j, hj, rfl, rfl, rfl, rfl, HG, HL, HQ, g2, rfl⟩ := hrel
     clear HO hl5 hcv
     by_cases hj5 : j < 5
     ·have hj' : (j : Int) < 5 := by omega
      have f1 := HL.out.cell hj5
      have f0 := HL.out.lt
      obtain ⟨di, hdi⟩ : ∃ d, sdi j = d := ⟨_, rfl⟩
      obtain ⟨dk, hdk⟩ : ∃ d, sdk j = d := ⟨_, rfl⟩
      obtain ⟨er, her⟩ : ∃ e, ser j = e := ⟨_, rfl⟩
      have hst : ∀ V : World, Calls Tryz.prog 135 #[.string (a.extract i n), .string (b.extract k m), .int .u8 ((stB j).toNat : Int)] V fun e w' => e = .returned (.tuple #[i64 di, i64 dk, i64 er, .bool (okAl a b i k j)]) ∧ UpOf V w' := fun V => by
       have := stepAt_any (rst a i) (rst b k) j V hj5 (by rw [rst_size]; omega) (by rw [rst_size]; omega)
       rw [okAl_rst, hdi, hdk, her, rst, rst, HN.out, HM.out] at this
       exact this
      have hdi2 : di ≤ 2 := by rw [← hdi]; unfold sdi; (repeat' split) <;> omega
      have hdk2 : dk ≤ 2 := by rw [← hdk]; unfold sdk; (repeat' split) <;> omega
      cases hok : okAl a b i k j with
      | false =>
       have HC : Hid (∀ V : World, Calls Tryz.prog 135 #[.string (a.extract i n), .string (b.extract k m), .int .u8 ((stB j).toNat : Int)] V fun e w' => e = .returned (.tuple #[i64 di, i64 dk, i64 er, .bool false]) ∧ UpOf V w') := hd_ (by rw [hok] at hst; exact hst)
       have HG2 := hd_ (lt_ext (P := fun x => tight a b i k x = false) HG.out (by show tight a b i k j = false; rw [tight, hok, Bool.false_and]))
       clear hst hok hdi hdk her HG
       go_wp2_with (first | ((with_reducible refine wru ?_); (repeat (go_big_quiet_step (first | (go_at_call 135; exact uq_ (HC.out _))))); refine wqn fun nq => ?_))
       go_roundw
       case rel => exact ⟨j + 1, by omega, rfl, rfl, rfl, by go_num, HG2, hd_ (HL.out.below bw_), hd_ (own_below HQ.out bw_), ex_up bw_⟩
       case measure => simp [intOf]; try omega
      | true =>
       have HC : Hid (∀ V : World, Calls Tryz.prog 135 #[.string (a.extract i n), .string (b.extract k m), .int .u8 ((stB j).toNat : Int)] V fun e w' => e = .returned (.tuple #[i64 di, i64 dk, i64 er, .bool true]) ∧ UpOf V w') := hd_ (by rw [hok] at hst; exact hst)
       have hgo := okAl_go hok hj5
       rw [hdi, hdk, HN.out, HM.out] at hgo
       have hdn : i + di ≤ n := hgo.2.1 hi
       have hkn : k + dk ≤ m := hgo.2.2 hk
       have hin : (i : Int) + (di : Int) < (n : Int) + 1 := by omega
       have hkm : (k : Int) + (dk : Int) < (m : Int) + 1 := by omega
       have hin0 : (i : Int) < (n : Int) + 1 := by omega
       have hkm0 : (k : Int) < (m : Int) + 1 := by omega
       have ht1 : ((i : Int) + (di : Int)).toNat = i + di := by omega
       have ht2 : ((k : Int) + (dk : Int)).toNat = k + dk := by omega
       obtain ⟨cv, hcv⟩ : ∃ v, cst a b (i + di) (k + dk) = v := ⟨_, rfl⟩
       obtain ⟨c0, hc0⟩ : ∃ v, cst a b i k = v := ⟨_, rfl⟩
       have hc1 : 0 ≤ cv := by rw [← hcv]; exact cst_nn _ _ _ _
       have hc2 : cv ≤ 120 := by
        have := cst_bd a b _ (i + di) (k + dk) rfl
        rw [hcv, HN.out, HM.out] at this
        omega
       have her0 : 0 ≤ er := by rw [← her]; exact ser_nn j
       have her1 : er ≤ 1 := by rw [← her]; unfold ser; split <;> omega
       have htj : tight a b i k j = decide (cv + er = c0) := by rw [tight, hok, Bool.true_and, hdi, hdk, her, hcv, hc0]
       have hr : ∀ g : Up w', (up w' g).cell? ⟨B, i + di, none⟩ = some (.slice (some ⟨Q (i + di), 0, none⟩) (m + 1) (m + 1)) := fun g => (HT.out.below g.below).row (by omega) (by omega)
       have hr0 : ∀ g : Up w', (up w' g).cell? ⟨B, i, none⟩ = some (.slice (some ⟨Q i, 0, none⟩) (m + 1) (m + 1)) := fun g => (HT.out.below g.below).row (by omega) (by omega)
       have hx : ∀ g : Up w', (up w' g).cell? ⟨Q (i + di), k + dk, none⟩ = some (i64 cv) := fun g => by
        have := (HT.out.below g.below).cell (i := i + di) (j := k + dk) (by omega) (by omega)
        rw [hcv] at this
        exact this
       have hx0 : ∀ g : Up w', (up w' g).cell? ⟨Q i, k, none⟩ = some (i64 c0) := fun g => by
        have := (HT.out.below g.below).cell (i := i) (j := k) (by omega) (by omega)
        rw [hc0] at this
        exact this
       have hlt := hd_ hgo.1
       by_cases he : cv + er = c0
       ·have he1 : (cv + er == c0) = true := by rw [beq_iff_eq]; exact he
        have hps : Hid (alnA a b i k = stB j :: alnA a b (i + di) (k + dk)) := hd_ (by
         have := fst_at (a := a) (b := b) hj5 HG.out (by rw [htj, decide_eq_true he]) (by rw [HN.out, HM.out]; exact hend)
         rw [hdi, hdk] at this
         exact this)
        have hL : L.length ≤ 120 := by have := HK.out.1; omega
        clear hst hok hdi hdk her hcv hc0 htj he HG hgo
        go_wp2_with (first | (at_builtin; go_must (refine wpl_appU rfl _ _ 22 rfl w' w'.heap.size 5 _ 1 1 el_byte (.slice A1 L.length c1) L.length (Lib.byteCells L) rfl (own_below HQ.out bw_) _ 1 1 [.int .u8 ((stB j).toNat : Int)] rfl (rds_new _ _ _ 1 1 rfl) (fun u hu => by simp at hu; subst hu; rfl) (by unfold maxLen; omega) (by omega) (show Below w'.heap.size w' _ from bw_).size bw_ (Nat.le_refl _) ?_; intro A2 c2 g2 o2)) | ((with_reducible refine wru ?_); (repeat (go_big_quiet_step (first | (go_at_call 135; exact uq_ (HC.out _))))); refine wqn fun nq => ?_))
        refine ⟨⟨i + di, k + dk, L ++ [stB j], A2, c2, hdn, hkn, by go_num, by go_num, congrArg (fun n => Value.slice A2 n c2) (by simp), hd_ ?_, hd_ ?_, ex_up bw_⟩, ?_⟩
        ·have h1 := HK.out.1
         have h2 := HK.out.2
         rw [hps.out] at h1 h2
         rw [List.length_cons] at h1
         exact ⟨by rw [List.length_append]; simp; omega, by rw [h2, List.append_assoc]; rfl⟩
        ·rw [stB_bytes, byteCells_snoc, show L.length + 1 = (L ++ [stB j]).length by simp] at o2
         exact o2
        ·have := hlt.out
         simp [intOf]; omega
       ·have he1 : (cv + er == c0) = false := by rw [beq_eq_false_iff_ne]; exact he
        have HG2 := hd_ (lt_ext (P := fun x => tight a b i k x = false) HG.out (by show tight a b i k j = false; rw [htj, decide_eq_false he]))
        clear hst hok hdi hdk her hcv hc0 htj he HG hgo
        go_wp2_with (first | ((with_reducible refine wru ?_); (repeat (go_big_quiet_step (first | (go_at_call 135; exact uq_ (HC.out _))))); refine wqn fun nq => ?_))
        go_roundw
        case rel => exact ⟨j + 1, by omega, rfl, rfl, rfl, by go_num, HG2, hd_ (HL.out.below bw_), hd_ (own_below HQ.out bw_), ex_up bw_⟩
        case measure => simp [intOf]; try omega
     ·obtain rfl : j = 5 := by omega
      exfalso
      obtain ⟨x, hx, ht⟩ := tight_ex (a := a) (b := b) (i := i) (k := k) (by rw [HN.out, HM.out]; exact hend)
      rw [HG.out x hx] at ht
      cases ht
  ·have hin3 : ¬ (i : Int) < (n : Int) := by omega
   have hkm3 : ¬ (k : Int) < (m : Int) := by omega
   have hcv := conv_own HO.out rfl (Below.refl _ _)
   have hfin := hd_ (show alnA a b 0 0 = L from by
    rw [HK.out.2, alnA_end (by rw [HN.out, HM.out]; exact hend), List.append_nil])
   clear hend
   go_wp2_with (first | ((with_reducible refine wru ?_); (repeat (go_big_quiet_step (fail))); refine wqn fun nq => ?_))
   go_ret
   rw [hfin.out]
   exact ⟨rfl, HU.out.tr bw_⟩
theorem isTyped_any (s : ByteArray) (w : World) (hs : s.size ≤ 9223372036854775807) :
  Calls Tryz.prog 81 #[.string s] w fun e w' => e = .returned (.bool (typed s)) ∧ w = w' := by
 go_enter Tryz.func81, Tryz.ntmps81
 go_wp2_with (first | (go_at_call 134; refine (isText_any s 32 60 _ (by omega) (by omega) hs).mono ?_; rintro e w' ⟨rfl, rfl⟩))
 go_ret
 exact ⟨rfl, rfl⟩
theorem typed_len {s : ByteArray} (h : typed s = true) : s.size ≤ 60 := (txtB_inv h).1
theorem alignTexts_any (a b : ByteArray) (w : World) (ha : a.size ≤ 9223372036854775807) (hb : b.size ≤ 9223372036854775807) :
  Calls Tryz.prog 34 #[.string a, .string b] w fun e w' => e = .returned (.tuple #[.string (alnR a b).1, i64 (alnR a b).2]) ∧ UpOf w w' := by
 cases h1 : typed a with
 | false =>
  have hr := hd_ (show alnR a b = (⟨#[]⟩, 2) by unfold alnR; rw [h1]; rfl)
  go_enter Tryz.func34, Tryz.ntmps34
  go_wp2_with (first | (go_at_call 81; refine (ret_as (isTyped_any a _ ha) h1).mono ?_; rintro e w' ⟨rfl, rfl⟩))
  go_ret2
  rw [hr.out]
  exact ⟨rfl, uw_⟩
 | true =>
  cases h2 : typed b with
  | false =>
   have hr := hd_ (show alnR a b = (⟨#[]⟩, 2) by unfold alnR; rw [h1, h2]; rfl)
   go_enter Tryz.func34, Tryz.ntmps34
   go_wp2_with fail
   refine (ret_as (isTyped_any a _ ha) h1).mono ?_
   rintro e w' ⟨rfl, rfl⟩
   go_wp2_with fail
   refine (ret_as (isTyped_any b _ hb) h2).mono ?_
   rintro e w' ⟨rfl, rfl⟩
   go_wp2_with fail
   go_ret2
   rw [hr.out]
   exact ⟨rfl, uw_⟩
  | true =>
   have hr := hd_ (show alnR a b = (bs (alnA a b 0 0), 0) by unfold alnR; rw [h1, h2]; rfl)
   go_enter Tryz.func34, Tryz.ntmps34
   go_wp2_with fail
   refine (ret_as (isTyped_any a _ ha) h1).mono ?_
   rintro e w' ⟨rfl, rfl⟩
   go_wp2_with fail
   refine (ret_as (isTyped_any b _ hb) h2).mono ?_
   rintro e w' ⟨rfl, rfl⟩
   go_wp2_with fail
   refine (alignment_any a b _ (typed_len h1) (typed_len h2)).mono ?_
   rintro e w' ⟨rfl, g, rfl⟩
   go_wp2_with fail
   go_ret2
   rw [hr.out]
   exact ⟨rfl, uw_⟩
theorem pow5 {f : Nat} (h : f < 5) : 2 ^ (5 - (f + 1)) * 2 = 2 ^ (5 - f) := by
 rw [← Nat.pow_succ]; congr 1; omega
theorem pow5_le (f : Nat) : 2 ^ (5 - f) ≤ 32 := Nat.pow_le_pow_right (n := 2) (by omega) (show 5 - f ≤ 5 by omega)
theorem markOf_any (a b : ByteArray) (w : World) (ha : a.size ≤ 9223372036854775807) (hb : b.size ≤ 9223372036854775807) :
  Calls Tryz.prog 36 #[.string a, .string b] w fun e w' => e = .returned (.tuple #[i64 (mrkR a b).1, i64 (mrkR a b).2]) ∧ UpOf w w' := by
 cases h1 : typed a with
 | false =>
  have hr := hd_ (show mrkR a b = (0, 2) by unfold mrkR; rw [h1]; rfl)
  go_enter Tryz.func36, Tryz.ntmps36
  go_wp2_with (first | (go_at_call 81; refine (ret_as (isTyped_any a _ ha) h1).mono ?_; rintro e w' ⟨rfl, rfl⟩))
  go_ret2
  rw [hr.out]
  exact ⟨rfl, uw_⟩
 | true =>
  cases h2 : typed b with
  | false =>
   have hr := hd_ (show mrkR a b = (0, 2) by unfold mrkR; rw [h1, h2]; rfl)
   go_enter Tryz.func36, Tryz.ntmps36
   go_wp2_with fail
   refine (ret_as (isTyped_any a _ ha) h1).mono ?_
   rintro e w' ⟨rfl, rfl⟩
   go_wp2_with fail
   refine (ret_as (isTyped_any b _ hb) h2).mono ?_
   rintro e w' ⟨rfl, rfl⟩
   go_wp2_with fail
   go_ret2
   rw [hr.out]
   exact ⟨rfl, uw_⟩
  | true =>
   by_cases h0 : a.size = 0
   ·have hz := isEmpty_yes h0
    have hr := hd_ (show mrkR a b = (0, 3) by unfold mrkR; rw [h1, h2, if_pos (show (true && true) = true from rfl), if_pos h0])
    clear h0
    go_enter Tryz.func36, Tryz.ntmps36
    go_wp2_with fail
    refine (ret_as (isTyped_any a _ ha) h1).mono ?_
    rintro e w' ⟨rfl, rfl⟩
    go_wp2_with fail
    refine (ret_as (isTyped_any b _ hb) h2).mono ?_
    rintro e w' ⟨rfl, rfl⟩
    go_wp2_with fail
    go_ret2
    rw [hr.out]
    exact ⟨rfl, uw_⟩
   ·have hz := isEmpty_no (s := a) (by omega)
    have hr := hd_ (show mrkR a b = (markL (cst a b 0 0) a.size 5 1 1, 0) by unfold mrkR; rw [h1, h2, if_pos (show (true && true) = true from rfl), if_neg h0]; rfl)
    obtain ⟨n, hn⟩ : ∃ n, a.size = n := ⟨_, rfl⟩
    have HN := hd_ hn
    have hn60 : n ≤ 60 := by rw [← hn]; exact typed_len h1
    have hn1 : 0 < n := by omega
    go_enter Tryz.func36, Tryz.ntmps36
    go_wp2_with fail
    refine (ret_as (isTyped_any a _ ha) h1).mono ?_
    rintro e w' ⟨rfl, rfl⟩
    go_wp2_with fail
    refine (ret_as (isTyped_any b _ hb) h2).mono ?_
    rintro e w' ⟨rfl, rfl⟩
    go_wp2_with fail
    refine (leastFrom_any a b _ (typed_len h1) (typed_len h2)).mono ?_
    rintro e w' ⟨B, Q, rfl, HT⟩
    unfold Tb at HT
    have HU := hd_ HT.u
    have r0 := HT.row (i := 0) (by omega) (by omega)
    have r1 := HT.cell (i := 0) (j := 0) (by omega) (by omega)
    have r2 := HT.o.lt
    have r3 := (HT.r 0 (by omega)).lt
    obtain ⟨e0, he0⟩ : ∃ e, cst a b 0 0 = e := ⟨_, rfl⟩
    have he1 : 0 ≤ e0 := by rw [← he0]; exact cst_nn _ _ _ _
    have he2 : e0 ≤ 120 := by
     have := cst_bd a b _ 0 0 rfl
     have := typed_len h2
     omega
    have HR := hd_ (show mrkR a b = (markL e0 n 5 1 1, 0) from by rw [hr.out, he0, HN.out])
    rw [he0] at r1
    clear hr he0 HT h0
    clear h1 h2
    go_wp2_with fail
    go_loopw [7, 8] (fun t7 t8 wr => ∃ (f T : Nat) (mk : Int), f ≤ 5 ∧ T = 2 ^ (5 - f) ∧ mk = 6 - (f : Int) ∧ t7 = .int .i64 mk ∧ t8 = i64 T ∧ Hid (markL e0 n 5 1 1 = markL e0 n f T mk) ∧ wr = w') (fun t7 _ _ => (6 - intOf t7).toNat)
    case atStart => exact ⟨5, 1, 1, by omega, rfl, by omega, rfl, rfl, hd_ rfl, rfl⟩
    case round =>
     obtain ⟨f, T, mk, hf, hT, hmk, rfl, rfl, HK, rfl⟩ := hrel
     have hT32 : T ≤ 32 := by rw [hT]; exact pow5_le f
     cases f with
     | zero =>
      have hfin := hd_ (show markL e0 n 5 1 1 = mk from by rw [HK.out]; rfl)
      have hm6 : ¬ mk < 6 := by omega
      have hm7 : decide (mk < 6) = false := decide_eq_false hm6
      clear hmk hT HK
      go_wp2_with fail
      go_ret2
      rw [HR.out, hfin.out]
      exact ⟨rfl, HU.out⟩
     | succ f =>
      have hT2 := pow5 (f := f) (by omega)
      rw [← hT] at hT2
      have HT2 := hd_ hT2
      have HMK := hd_ hmk
      have hm7 : decide (mk < 6) = true := decide_eq_true (by omega)
      have hm8 : mk < 6 := by omega
      have hm9 : 1 ≤ mk := by omega
      have hTn : (T : Int) * (n : Int) ≤ 1920 := by
       have : T * n ≤ 32 * 60 := Nat.mul_le_mul hT32 hn60
       exact_mod_cast this
      have hTn0 : (0 : Int) ≤ (T : Int) * (n : Int) := Int.mul_nonneg (by omega) (by omega)
      by_cases hlt : (T : Int) * (n : Int) < 100 * e0
      ·have ht : decide ((T : Int) * (n : Int) < 100 * e0) = true := decide_eq_true hlt
       have HK2 := hd_ (show markL e0 n 5 1 1 = markL e0 n f ((T * 2 : Nat) : Int) (mk + 1) from by
        rw [HK.out, markL, if_pos hlt]; push_cast; rfl)
       clear hT HK hlt hT2 hmk
       go_wp2_with fail
       refine ⟨⟨f, T * 2, mk + 1, by omega, HT2.out, by have := HMK.out; omega, rfl, by go_num, HK2, by first | rfl | trivial⟩, by simp [intOf]; try omega⟩
      ·have ht : decide ((T : Int) * (n : Int) < 100 * e0) = false := decide_eq_false hlt
       have hfin := hd_ (show markL e0 n 5 1 1 = mk from by rw [HK.out, markL, if_neg hlt])
       clear hT HK hlt hT2 hmk
       go_wp2_with fail
       go_ret2
       rw [HR.out, hfin.out]
       exact ⟨rfl, HU.out⟩
theorem dcAlign_any (d : DeskD) (A B : Option Addr) (c e : Nat) (s : ByteArray) (w : World) (W : List ByteArray) (hs : s.size ≤ 1048576) (hS : DSee w d A B) (hz : DkSz d e) (hv : vDesk d = true) (ht : Tab w) (hW : splitA 32 [] s.data.toList = W)
  (hf : fitK (kindOf (wd W 0)) W.length = true) (hk : kindOf (wd W 0) = 0) :
  Calls Tryz.prog 9 #[dkv d A B c e, .string s] w fun r w' => dcYes d (sent (alnR (wd W 1) (wd W 2))) w r w' := by
 have HK := hd_ hk
 have HLEN := hd_ (show W.length = 3 by rw [hk] at hf; simpa [fitK] using hf)
 have HWS9 := hd_ (show ∀ i, i < W.length → (wd W i).size ≤ 1048576 from fun i hi => by
  have := split_size 32 s.data.toList [] (wd W i) (by rw [hW, ← wd_eq hi]; exact List.getElem_mem hi)
  rw [bsz] at this
  simp at this
  omega)
 obtain ⟨R1, hR1⟩ : ∃ R1, (alnR (wd W 1) (wd W 2)).1 = R1 := ⟨_, rfl⟩
 obtain ⟨R2, hR2⟩ : ∃ R2, (alnR (wd W 1) (wd W 2)).2 = R2 := ⟨_, rfl⟩
 have hRR : alnR (wd W 1) (wd W 2) = (R1, R2) := by rw [← hR1, ← hR2]
 have HAT : Hid (∀ V, Calls Tryz.prog 34 #[.string (wd W 1), .string (wd W 2)] V fun e w' => e = .returned (.tuple #[.string R1, i64 R2]) ∧ UpOf V w') := hd_ fun V => by
  have := alignTexts_any (wd W 1) (wd W 2) V (by have := HWS9.out 1 (by have := HLEN.out; omega); omega) (by have := HWS9.out 2 (by have := HLEN.out; omega); omega)
  rw [hR1, hR2] at this
  exact this
 obtain ⟨X1, hX1⟩ : ∃ X, wd W 1 = X := ⟨_, rfl⟩
 obtain ⟨X2, hX2⟩ : ∃ X, wd W 2 = X := ⟨_, rfl⟩
 rw [hRR]
 clear hR1 hR2 hRR
 clear hk
 have HS := hd_ hS
 have HZ := hd_ hz
 have HV := hd_ hv
 have HT := hd_ ht
 have HSP : Hid (∀ V, Calls Tryz.prog 27 #[.string s, .int .i64 ((s.size : Int) + 2)] V fun e w' => txPost W V e w') := hd_ fun V => by
  have := splitAt_any s (s.size + 1) V (by omega) (by omega)
  rw [spl_all, hW, show (((s.size + 1 : Nat) : Int) + 1) = (s.size : Int) + 2 by omega] at this
  exact this
 have hW1 : 0 < W.length := by rw [← hW]; exact List.length_pos_iff.2 (splitA_ne 32 _ _)
 have hWl : W.length ≤ 2000000 := by
  have := split_len 32 s.data.toList []
  rw [hW, bsz] at this
  omega
 have hno := fit_yes (kind_le _) hf
 obtain ⟨L, hL⟩ : ∃ L, (wcR (kindOf (wd W 0))).1 = L := ⟨_, rfl⟩
 obtain ⟨M, hM⟩ : ∃ M, (wcR (kindOf (wd W 0))).2 = M := ⟨_, rfl⟩
 have HWC : Hid (∀ V, Calls Tryz.prog 28 #[.string (wd W 0)] V fun e w' => e = .returned (.tuple #[i64 L, .bool M]) ∧ V = w') := hd_ fun V => by
  have := wordCounts_any (wd W 0) V
  rw [hL, hM] at this
  exact this
 rw [hL, hM] at hno
 clear hS hz hv ht hW hf hL hM
 go_enter Tryz.func9, Tryz.ntmps9
 go_upto_region 1 with (fail)
 refine wpg (R := fun V => Hid (MD w V w.heap.size (w.heap.size + 1) (dkcs d A B c e))) (hd_ (MD.new _ _)) (fun V z => ?_)
 generalize hp9 : w.heap.size = p at z ⊢
 generalize hq9 : p + 1 = q at z ⊢
 clear hp9 hq9
 obtain ⟨hpV, x0, x1, x2, x3, x4, x5, x6, x7⟩ := z.out.bx.eight
 go_wp2_with fail
 refine (ret_as (validDeskI_any d A B c e _ (HS.out.below z.out.up.below) HZ.out (HT.out.below z.out.up.below)) HV.out).mono ?_
 rintro r w' ⟨rfl, g1, rfl⟩
 go_wp2_with fail
 refine (HSP.out _).mono ?_
 rintro r w' ⟨AW, cW, rfl, ow, g2, rfl⟩
 have z2 := hd_ (z.out.below (V' := up V (g1.tr g2)) (up_below V _))
 have OW : Hid ((up V (g1.tr g2)).ownsRow (up V g1).heap.size 9 1 (.slice AW W.length cW) W.length (strs W)) := hd_ ow
 have HBV := hd_ (show p < (up V g1).heap.size ∧ q < (up V g1).heap.size ∧ w.heap.size ≤ (up V g1).heap.size from ⟨Nat.lt_of_lt_of_le z.out.bx.lt (up_below V g1).size, Nat.lt_of_lt_of_le z.out.rs.lt (up_below V g1).size, Nat.le_trans z.out.up.below.size (up_below V g1).size⟩)
 generalize (up V g1).heap.size = base at OW HBV
 obtain ⟨bW, oW, eW, hbW, cw⟩ := wd_at (Rds.of_own OW.out) (i := 0) hW1
 subst eW
 have cw0 := cw 0 hW1
 rw [Nat.add_zero] at cw0
 clear ow cw x0 x1 x2 x3 x4 x5 x6 x7 hpV z
 go_upto_region 6 with (go_at_call 28; refine (HWC.out _).mono ?_; rintro r w' ⟨rfl, rfl⟩)
 have HNO := hd_ hno
 have t1' : (L == 0) = false := by rw [beq_eq_false_iff_ne]; omega
 have t2' : decide ((W.length : Int) < L) = false := decide_eq_false (by omega)
 go_cut [46] (fun x U => x = .bool false ∧ Hid (MD w U p q (dkcs d A B c e)) ∧ Hid (U.ownsRow base 9 1 (.slice (some ⟨bW, oW, none⟩) W.length cW) W.length (strs W)))
 case first =>
  by_cases t3 : L < (W.length : Int)
  ·have t3' : decide (L < (W.length : Int)) = true := decide_eq_true t3
   have hM : M = true := hno.2.2.resolve_left (by omega)
   subst hM
   clear hno t3
   go_wp2_with fail
   go_meet
   exact ⟨rfl, z2, OW⟩
  ·have t3' : decide (L < (W.length : Int)) = false := decide_eq_false t3
   clear hno t3
   go_wp2_with fail
   go_meet
   exact ⟨rfl, z2, OW⟩
 case rest =>
  obtain ⟨rfl, z, OW⟩ := hcut
  clear z2 hno t1' t2' cw0
  obtain ⟨hpV, x0, x1, x2, x3, x4, x5, x6, x7⟩ := z.out.bx.eight
  obtain ⟨f0, f1, f2, f3, f4, f5, f6, f7⟩ := z.out.bx.open8
  go_wp2_with fail
  refine (copied_any d A B c e _ (HS.out.below z.out.up.below) HZ.out.s HZ.out.n).mono ?_
  rintro r w' ⟨A1, B1, c1, e1, rfl, hdo, g3, rfl⟩
  have z3 := hd_ (z.out.below (up_below wc g3))
  have HDO := hd_ hdo
  have OW3 := hd_ (own_below OW.out (up_below wc g3))
  have HWS := hd_ (show base ≤ wc.heap.size from by
   have := OW.out.lt bW rfl
   omega)
  clear hdo x0 x1 x2 x3 x4 x5 x6 x7 f0 f1 f2 f3 f4 f5 f6 f7 hpV OW
  obtain ⟨hpV, x0, x1, x2, x3, x4, x5, x6, x7⟩ := z3.out.bx.eight
  obtain ⟨f0, f1, f2, f3, f4, f5, f6, f7⟩ := z3.out.bx.open8
  go_upto_region 10 with (fail)
  obtain ⟨g9, e9⟩ := own_some OW3.out hW1
  injection e9 with e9
  injection e9 with e9a e9 e9b
  clear e9a e9b
  subst e9
  have hpw : p < wc.heap.size := z.out.bx.lt
  have m8 := hd_ (z3.out.put8 (i64 d.b.bars) (i64 d.b.rise) (i64 d.b.fall) (i64 d.b.clr) (i64 d.b.near) (.slice A1 d.stops.length c1) (.slice B1 d.drills.length e1) (.string d.log))
  have o81 := hd_ (own_mono (own_all HDO.out.1 hpw (i64 d.b.bars) (i64 d.b.rise) (i64 d.b.fall) (i64 d.b.clr) (i64 d.b.near) (.slice A1 d.stops.length c1) (.slice B1 d.drills.length e1) (.string d.log)) HWS.out)
  have o82 := hd_ (own_mono (own_all HDO.out.2 hpw (i64 d.b.bars) (i64 d.b.rise) (i64 d.b.fall) (i64 d.b.clr) (i64 d.b.near) (.slice A1 d.stops.length c1) (.slice B1 d.drills.length e1) (.string d.log)) HWS.out)
  have o83 := hd_ (own_all OW3.out HBV.out.1 (i64 d.b.bars) (i64 d.b.rise) (i64 d.b.fall) (i64 d.b.clr) (i64 d.b.near) (.slice A1 d.stops.length c1) (.slice B1 d.drills.length e1) (.string d.log))
  refine wpg (R := fun U => Hid (DC w U p q d A1 B1 c1 e1 base W bW cW)) (hd_ ⟨m8.out.below ((Below.refl _ _).alloc (Nat.le_refl _) _), ⟨o81.out.alloc _, o82.out.alloc _⟩, o83.out.alloc _, HBV.out⟩) (fun U C => ?_)
  clear x0 x1 x2 x3 x4 x5 x6 x7 f0 f1 f2 f3 f4 f5 f6 f7 hpV z3 HDO OW3 z HWS m8 o81 o82 o83
  obtain ⟨q0, q1, q2, q3, q4, q5, q6, q7, q8, q9, q10, q11, q12, q13⟩ := kts HK.out
  simp only [Nat.reduceEqDiff, eq_self, decide_true, decide_false] at q0 q1 q2 q3 q4 q5 q6 q7 q8 q9 q10 q11 q12 q13
  have hcw : ∀ i, i < W.length → U.cell? ⟨bW, i, none⟩ = some (.string (wd W i)) := fun i hi => by
   obtain ⟨b9, o9, e9, _, hc9⟩ := wd_at (Rds.of_own C.out.wo) hi
   injection e9 with e9
   injection e9 with e91 e92
   subst e91 e92
   have := hc9 i hi
   rwa [Nat.zero_add] at this
  have n1 := hcw 1 (by have := HLEN.out; omega)
  have n2 := hcw 2 (by have := HLEN.out; omega)
  have hl1 : (1 : Int) < (W.length : Int) := by have := HLEN.out; omega
  have hl2 : (2 : Int) < (W.length : Int) := by have := HLEN.out; omega
  have hbW : bW < U.heap.size := (C.out.wo.lt bW rfl).2
  have hbU : base ≤ U.heap.size := by have := C.out.wo.lt bW rfl; omega
  clear hcw
  go_upto_region 24 with (fail)
  rw [hX1] at n1 HAT
  rw [hX2] at n2 HAT
  clear hl1 hl2
  rw [HLEN.out]
  have HLX := HLEN
  clear HLEN
  go_region_held3 (fun w' => (U).heap.size ≤ w'.heap.size ∧ ∀ b o, b < (U).heap.size → w'.cell? ⟨b, o, none⟩ = (U).cell? ⟨b, o, none⟩) (exact sm_of bw_) (first | (go_at_call 33; refine (sentence_any R1 R2 _).mono ?_; rintro r w' ⟨X, n, rfl, ox, gx, rfl⟩) | (go_at_call 34; refine (HAT.out _).mono ?_; rintro r w' ⟨rfl, gf, rfl⟩))
  have C2 := hd_ (C.out.below (V := up U.drew (gf.tr gx)) bw_)
  have hbU3 : base ≤ ((up U.drew gf)).heap.size := Nat.le_trans hbU (show Below U.heap.size U ((up U.drew gf)) from bw_).size
  have OX : Hid ((up U.drew (gf.tr gx)).ownsRow base 9 1 (.slice X ((sent (R1, R2))).length n) ((sent (R1, R2))).length (strs (sent (R1, R2)))) := hd_ (own_mono ox hbU3)
  refine exit_genD (R := fun U1 => Hid (DC w U1 p q d A1 B1 c1 e1 base W bW cW) ∧ Hid (U1.ownsRow base 9 1 (.slice X ((sent (R1, R2))).length n) ((sent (R1, R2))).length (strs (sent (R1, R2))))) ⟨C2, OX⟩ (fun U1 y => ?_)
  obtain ⟨C3, OX1⟩ := y
  have z := hd_ C3.out.m
  have DO := hd_ C3.out.o
  clear ox C C2 n1 n2 OX hbU3
  have OX := OX1
  obtain ⟨hpV, x0, x1, x2, x3, x4, x5, x6, x7⟩ := z.out.bx.eight
  obtain ⟨hqT, r0, r1, r2, r3, r4, r5, r6, r7⟩ := z.out.rs.eight
  obtain ⟨f0, f1, f2, f3, f4, f5, f6, f7⟩ := z.out.rs.open8
  go_wp2_with fail
  refine post_gen (R := fun W => Blk W q 31 (dkcs (d) A1 B1 c1 e1) ∧ DOwn w.heap.size W (d) A1 B1 c1 e1 ∧ W.ownsRow w.heap.size 9 1 (.slice X (sent (R1, R2)).length n) (sent (R1, R2)).length (strs (sent (R1, R2))) ∧ UpOf w W) ⟨blk_put8 z.out.rs _ _ _ _ _ _ _ _, ⟨own_mono (own_all DO.out.1 HBV.out.2.1 _ _ _ _ _ _ _ _) HBV.out.2.2, own_mono (own_all DO.out.2 HBV.out.2.1 _ _ _ _ _ _ _ _) HBV.out.2.2⟩, own_mono (own_all OX.out HBV.out.2.1 _ _ _ _ _ _ _ _) HBV.out.2.2, put8_up z.out.up z.out.hq _ _ _ _ _ _ _ _⟩ (fun W st => ?_)
  obtain ⟨s1, s4, s2, s3⟩ := st
  obtain ⟨hqW, w0, w1, w2, w3, w4, w5, w6, w7⟩ := s1.eight
  clear s1 r0 r1 r2 r3 r4 r5 r6 r7 f0 f1 f2 f3 f4 f5 f6 f7 x0 x1 x2 x3 x4 x5 x6 x7
  exact bodyPost_ret (v := .tuple #[dkv (d) A1 B1 c1 e1, .slice X (sent (R1, R2)).length n, i64 0]) (by simp [results, Tryz.results9, go_sem, hqW, w0, w1, w2, w3, w4, w5, w6, w7]) rfl ⟨_, _, _, _, _, _, rfl, s4, s2, s3⟩
theorem markL_bd (e n : Int) : ∀ (f : Nat) (t m : Int), m ≤ markL e n f t m ∧ markL e n f t m ≤ m + f
 | 0, _, _ => ⟨Int.le_refl _, by simp [markL]⟩
 | f + 1, t, m => by
  have := markL_bd e n f (t * 2) (m + 1)
  rw [markL]
  split <;> omega
theorem mrkR_bd (a b : ByteArray) : 0 ≤ (mrkR a b).1 ∧ (mrkR a b).1 ≤ 10 := by
 have h := markL_bd (cst a b 0 0) a.size 5 1 1
 have e : mrk a b = markL (cst a b 0 0) a.size 5 1 1 := rfl
 unfold mrkR
 (repeat' split) <;> (try rw [e]) <;> (first | decide | omega)
theorem dcMark_any (d : DeskD) (A B : Option Addr) (c e : Nat) (s : ByteArray) (w : World) (W : List ByteArray) (hs : s.size ≤ 1048576) (hS : DSee w d A B) (hz : DkSz d e) (hv : vDesk d = true) (ht : Tab w) (hW : splitA 32 [] s.data.toList = W)
  (hf : fitK (kindOf (wd W 0)) W.length = true) (hk : kindOf (wd W 0) = 9) :
  Calls Tryz.prog 9 #[dkv d A B c e, .string s] w fun r w' => dcYes d (nmb (mrkR (wd W 1) (wd W 2))) w r w' := by
 have HK := hd_ hk
 have HLEN := hd_ (show W.length = 3 by rw [hk] at hf; simpa [fitK] using hf)
 have HWS9 := hd_ (show ∀ i, i < W.length → (wd W i).size ≤ 1048576 from fun i hi => by
  have := split_size 32 s.data.toList [] (wd W i) (by rw [hW, ← wd_eq hi]; exact List.getElem_mem hi)
  rw [bsz] at this
  simp at this
  omega)
 have hmb := mrkR_bd (wd W 1) (wd W 2)
 obtain ⟨R1, hR1⟩ : ∃ R1, (mrkR (wd W 1) (wd W 2)).1 = R1 := ⟨_, rfl⟩
 obtain ⟨R2, hR2⟩ : ∃ R2, (mrkR (wd W 1) (wd W 2)).2 = R2 := ⟨_, rfl⟩
 have hRR : mrkR (wd W 1) (wd W 2) = (R1, R2) := by rw [← hR1, ← hR2]
 rw [hR1] at hmb
 have HAT : Hid (∀ V, Calls Tryz.prog 36 #[.string (wd W 1), .string (wd W 2)] V fun e w' => e = .returned (.tuple #[i64 R1, i64 R2]) ∧ UpOf V w') := hd_ fun V => by
  have := markOf_any (wd W 1) (wd W 2) V (by have := HWS9.out 1 (by have := HLEN.out; omega); omega) (by have := HWS9.out 2 (by have := HLEN.out; omega); omega)
  rw [hR1, hR2] at this
  exact this
 obtain ⟨X1, hX1⟩ : ∃ X, wd W 1 = X := ⟨_, rfl⟩
 obtain ⟨X2, hX2⟩ : ∃ X, wd W 2 = X := ⟨_, rfl⟩
 rw [hRR]
 clear hR1 hR2 hRR
 clear hk
 have HS := hd_ hS
 have HZ := hd_ hz
 have HV := hd_ hv
 have HT := hd_ ht
 have HSP : Hid (∀ V, Calls Tryz.prog 27 #[.string s, .int .i64 ((s.size : Int) + 2)] V fun e w' => txPost W V e w') := hd_ fun V => by
  have := splitAt_any s (s.size + 1) V (by omega) (by omega)
  rw [spl_all, hW, show (((s.size + 1 : Nat) : Int) + 1) = (s.size : Int) + 2 by omega] at this
  exact this
 have hW1 : 0 < W.length := by rw [← hW]; exact List.length_pos_iff.2 (splitA_ne 32 _ _)
 have hWl : W.length ≤ 2000000 := by
  have := split_len 32 s.data.toList []
  rw [hW, bsz] at this
  omega
 have hno := fit_yes (kind_le _) hf
 obtain ⟨L, hL⟩ : ∃ L, (wcR (kindOf (wd W 0))).1 = L := ⟨_, rfl⟩
 obtain ⟨M, hM⟩ : ∃ M, (wcR (kindOf (wd W 0))).2 = M := ⟨_, rfl⟩
 have HWC : Hid (∀ V, Calls Tryz.prog 28 #[.string (wd W 0)] V fun e w' => e = .returned (.tuple #[i64 L, .bool M]) ∧ V = w') := hd_ fun V => by
  have := wordCounts_any (wd W 0) V
  rw [hL, hM] at this
  exact this
 rw [hL, hM] at hno
 clear hS hz hv ht hW hf hL hM
 go_enter Tryz.func9, Tryz.ntmps9
 go_upto_region 1 with (fail)
 refine wpg (R := fun V => Hid (MD w V w.heap.size (w.heap.size + 1) (dkcs d A B c e))) (hd_ (MD.new _ _)) (fun V z => ?_)
 generalize hp9 : w.heap.size = p at z ⊢
 generalize hq9 : p + 1 = q at z ⊢
 clear hp9 hq9
 obtain ⟨hpV, x0, x1, x2, x3, x4, x5, x6, x7⟩ := z.out.bx.eight
 go_wp2_with fail
 refine (ret_as (validDeskI_any d A B c e _ (HS.out.below z.out.up.below) HZ.out (HT.out.below z.out.up.below)) HV.out).mono ?_
 rintro r w' ⟨rfl, g1, rfl⟩
 go_wp2_with fail
 refine (HSP.out _).mono ?_
 rintro r w' ⟨AW, cW, rfl, ow, g2, rfl⟩
 have z2 := hd_ (z.out.below (V' := up V (g1.tr g2)) (up_below V _))
 have OW : Hid ((up V (g1.tr g2)).ownsRow (up V g1).heap.size 9 1 (.slice AW W.length cW) W.length (strs W)) := hd_ ow
 have HBV := hd_ (show p < (up V g1).heap.size ∧ q < (up V g1).heap.size ∧ w.heap.size ≤ (up V g1).heap.size from ⟨Nat.lt_of_lt_of_le z.out.bx.lt (up_below V g1).size, Nat.lt_of_lt_of_le z.out.rs.lt (up_below V g1).size, Nat.le_trans z.out.up.below.size (up_below V g1).size⟩)
 generalize (up V g1).heap.size = base at OW HBV
 obtain ⟨bW, oW, eW, hbW, cw⟩ := wd_at (Rds.of_own OW.out) (i := 0) hW1
 subst eW
 have cw0 := cw 0 hW1
 rw [Nat.add_zero] at cw0
 clear ow cw x0 x1 x2 x3 x4 x5 x6 x7 hpV z
 go_upto_region 6 with (go_at_call 28; refine (HWC.out _).mono ?_; rintro r w' ⟨rfl, rfl⟩)
 have HNO := hd_ hno
 have t1' : (L == 0) = false := by rw [beq_eq_false_iff_ne]; omega
 have t2' : decide ((W.length : Int) < L) = false := decide_eq_false (by omega)
 go_cut [46] (fun x U => x = .bool false ∧ Hid (MD w U p q (dkcs d A B c e)) ∧ Hid (U.ownsRow base 9 1 (.slice (some ⟨bW, oW, none⟩) W.length cW) W.length (strs W)))
 case first =>
  by_cases t3 : L < (W.length : Int)
  ·have t3' : decide (L < (W.length : Int)) = true := decide_eq_true t3
   have hM : M = true := hno.2.2.resolve_left (by omega)
   subst hM
   clear hno t3
   go_wp2_with fail
   go_meet
   exact ⟨rfl, z2, OW⟩
  ·have t3' : decide (L < (W.length : Int)) = false := decide_eq_false t3
   clear hno t3
   go_wp2_with fail
   go_meet
   exact ⟨rfl, z2, OW⟩
 case rest =>
  obtain ⟨rfl, z, OW⟩ := hcut
  clear z2 hno t1' t2' cw0
  obtain ⟨hpV, x0, x1, x2, x3, x4, x5, x6, x7⟩ := z.out.bx.eight
  obtain ⟨f0, f1, f2, f3, f4, f5, f6, f7⟩ := z.out.bx.open8
  go_wp2_with fail
  refine (copied_any d A B c e _ (HS.out.below z.out.up.below) HZ.out.s HZ.out.n).mono ?_
  rintro r w' ⟨A1, B1, c1, e1, rfl, hdo, g3, rfl⟩
  have z3 := hd_ (z.out.below (up_below wc g3))
  have HDO := hd_ hdo
  have OW3 := hd_ (own_below OW.out (up_below wc g3))
  have HWS := hd_ (show base ≤ wc.heap.size from by
   have := OW.out.lt bW rfl
   omega)
  clear hdo x0 x1 x2 x3 x4 x5 x6 x7 f0 f1 f2 f3 f4 f5 f6 f7 hpV OW
  obtain ⟨hpV, x0, x1, x2, x3, x4, x5, x6, x7⟩ := z3.out.bx.eight
  obtain ⟨f0, f1, f2, f3, f4, f5, f6, f7⟩ := z3.out.bx.open8
  go_upto_region 10 with (fail)
  obtain ⟨g9, e9⟩ := own_some OW3.out hW1
  injection e9 with e9
  injection e9 with e9a e9 e9b
  clear e9a e9b
  subst e9
  have hpw : p < wc.heap.size := z.out.bx.lt
  have m8 := hd_ (z3.out.put8 (i64 d.b.bars) (i64 d.b.rise) (i64 d.b.fall) (i64 d.b.clr) (i64 d.b.near) (.slice A1 d.stops.length c1) (.slice B1 d.drills.length e1) (.string d.log))
  have o81 := hd_ (own_mono (own_all HDO.out.1 hpw (i64 d.b.bars) (i64 d.b.rise) (i64 d.b.fall) (i64 d.b.clr) (i64 d.b.near) (.slice A1 d.stops.length c1) (.slice B1 d.drills.length e1) (.string d.log)) HWS.out)
  have o82 := hd_ (own_mono (own_all HDO.out.2 hpw (i64 d.b.bars) (i64 d.b.rise) (i64 d.b.fall) (i64 d.b.clr) (i64 d.b.near) (.slice A1 d.stops.length c1) (.slice B1 d.drills.length e1) (.string d.log)) HWS.out)
  have o83 := hd_ (own_all OW3.out HBV.out.1 (i64 d.b.bars) (i64 d.b.rise) (i64 d.b.fall) (i64 d.b.clr) (i64 d.b.near) (.slice A1 d.stops.length c1) (.slice B1 d.drills.length e1) (.string d.log))
  refine wpg (R := fun U => Hid (DC w U p q d A1 B1 c1 e1 base W bW cW)) (hd_ ⟨m8.out.below ((Below.refl _ _).alloc (Nat.le_refl _) _), ⟨o81.out.alloc _, o82.out.alloc _⟩, o83.out.alloc _, HBV.out⟩) (fun U C => ?_)
  clear x0 x1 x2 x3 x4 x5 x6 x7 f0 f1 f2 f3 f4 f5 f6 f7 hpV z3 HDO OW3 z HWS m8 o81 o82 o83
  obtain ⟨q0, q1, q2, q3, q4, q5, q6, q7, q8, q9, q10, q11, q12, q13⟩ := kts HK.out
  simp only [Nat.reduceEqDiff, eq_self, decide_true, decide_false] at q0 q1 q2 q3 q4 q5 q6 q7 q8 q9 q10 q11 q12 q13
  have hcw : ∀ i, i < W.length → U.cell? ⟨bW, i, none⟩ = some (.string (wd W i)) := fun i hi => by
   obtain ⟨b9, o9, e9, _, hc9⟩ := wd_at (Rds.of_own C.out.wo) hi
   injection e9 with e9
   injection e9 with e91 e92
   subst e91 e92
   have := hc9 i hi
   rwa [Nat.zero_add] at this
  have n1 := hcw 1 (by have := HLEN.out; omega)
  have n2 := hcw 2 (by have := HLEN.out; omega)
  have hl1 : (1 : Int) < (W.length : Int) := by have := HLEN.out; omega
  have hl2 : (2 : Int) < (W.length : Int) := by have := HLEN.out; omega
  have hbW : bW < U.heap.size := (C.out.wo.lt bW rfl).2
  have hbU : base ≤ U.heap.size := by have := C.out.wo.lt bW rfl; omega
  clear hcw
  go_upto_region 26 with (fail)
  rw [hX1] at n1 HAT
  rw [hX2] at n2 HAT
  clear hl1 hl2
  rw [HLEN.out]
  have HLX := HLEN
  clear HLEN
  have HTU : Hid (∀ V, Below U.heap.size U V → Tab V) := hd_ fun V hV => (HT.out.below C.out.m.up.below).below hV
  go_region_held3 (fun w' => (U).heap.size ≤ w'.heap.size ∧ ∀ b o, b < (U).heap.size → w'.cell? ⟨b, o, none⟩ = (U).cell? ⟨b, o, none⟩) (exact sm_of bw_) (first | (go_at_call 35; refine (number_any R1 R2 _ (by omega) (by omega) (HTU.out _ bw_)).mono ?_; rintro r w' ⟨X, n, rfl, ox, gx, rfl⟩) | (go_at_call 36; refine (HAT.out _).mono ?_; rintro r w' ⟨rfl, gf, rfl⟩))
  have C2 := hd_ (C.out.below (V := up U.drew (gf.tr gx)) bw_)
  have hbU3 : base ≤ ((up U.drew gf)).heap.size := Nat.le_trans hbU (show Below U.heap.size U ((up U.drew gf)) from bw_).size
  have OX : Hid ((up U.drew (gf.tr gx)).ownsRow base 9 1 (.slice X ((nmb (R1, R2))).length n) ((nmb (R1, R2))).length (strs (nmb (R1, R2)))) := hd_ (own_mono ox hbU3)
  refine exit_genD (R := fun U1 => Hid (DC w U1 p q d A1 B1 c1 e1 base W bW cW) ∧ Hid (U1.ownsRow base 9 1 (.slice X ((nmb (R1, R2))).length n) ((nmb (R1, R2))).length (strs (nmb (R1, R2))))) ⟨C2, OX⟩ (fun U1 y => ?_)
  obtain ⟨C3, OX1⟩ := y
  have z := hd_ C3.out.m
  have DO := hd_ C3.out.o
  clear ox C C2 n1 n2 OX hbU3
  have OX := OX1
  obtain ⟨hpV, x0, x1, x2, x3, x4, x5, x6, x7⟩ := z.out.bx.eight
  obtain ⟨hqT, r0, r1, r2, r3, r4, r5, r6, r7⟩ := z.out.rs.eight
  obtain ⟨f0, f1, f2, f3, f4, f5, f6, f7⟩ := z.out.rs.open8
  go_wp2_with fail
  refine post_gen (R := fun W => Blk W q 31 (dkcs (d) A1 B1 c1 e1) ∧ DOwn w.heap.size W (d) A1 B1 c1 e1 ∧ W.ownsRow w.heap.size 9 1 (.slice X (nmb (R1, R2)).length n) (nmb (R1, R2)).length (strs (nmb (R1, R2))) ∧ UpOf w W) ⟨blk_put8 z.out.rs _ _ _ _ _ _ _ _, ⟨own_mono (own_all DO.out.1 HBV.out.2.1 _ _ _ _ _ _ _ _) HBV.out.2.2, own_mono (own_all DO.out.2 HBV.out.2.1 _ _ _ _ _ _ _ _) HBV.out.2.2⟩, own_mono (own_all OX.out HBV.out.2.1 _ _ _ _ _ _ _ _) HBV.out.2.2, put8_up z.out.up z.out.hq _ _ _ _ _ _ _ _⟩ (fun W st => ?_)
  obtain ⟨s1, s4, s2, s3⟩ := st
  obtain ⟨hqW, w0, w1, w2, w3, w4, w5, w6, w7⟩ := s1.eight
  clear s1 r0 r1 r2 r3 r4 r5 r6 r7 f0 f1 f2 f3 f4 f5 f6 f7 x0 x1 x2 x3 x4 x5 x6 x7
  exact bodyPost_ret (v := .tuple #[dkv (d) A1 B1 c1 e1, .slice X (nmb (R1, R2)).length n, i64 0]) (by simp [results, Tryz.results9, go_sem, hqW, w0, w1, w2, w3, w4, w5, w6, w7]) rfl ⟨_, _, _, _, _, _, rfl, s4, s2, s3⟩
def NP (base : Nat) (D : DeskD) (l : List ByteArray) (V : World) (r : Ending) (w' : World) : Prop :=
 ∃ A B c e X n, r = .returned (.tuple #[dkv D A B c e, .slice X l.length n]) ∧ DOwn base w' D A B c e ∧ w'.ownsRow base 9 1 (.slice X l.length n) l.length (strs l) ∧ UpOf V w'
theorem np_md {base : Nat} {D : DeskD} {l : List ByteArray} {A B : Option Addr} {c e : Nat} {V : World} {r : Ending} {w' : World} (h : mdPost D l A B c e V r w') (ho : DOwn base V D A B c e) (hb : base ≤ V.heap.size) : NP base D l V r w' := by
 obtain ⟨X, n, rfl, ox, g, rfl⟩ := h
 exact ⟨A, B, c, e, X, n, rfl, ⟨own_below ho.1 (up_below V g), own_below ho.2 (up_below V g)⟩, own_mono ox hb, g, rfl⟩
theorem np_md2 {base : Nat} {D : DeskD} {l : List ByteArray} {A B : Option Addr} {c e : Nat} {V : World} {r : Ending} {w' : World} (h : mdPost D l A B c e V r w') (ho : DOwn base w' D A B c e) (hb : base ≤ V.heap.size) : NP base D l V r w' := by
 obtain ⟨X, n, rfl, ox, g, rfl⟩ := h
 exact ⟨A, B, c, e, X, n, rfl, ho, own_mono ox hb, g, rfl⟩
theorem numsOf_len {ws : List ByteArray} {l : List Int} (h : numsOf ws = some l) : l.length = ws.length := by
 rw [numsOf] at h
 split at h
 ·injection h with h; rw [← h, List.length_map]
 ·cases h
theorem wd_drop (W : List ByteArray) (k i : Nat) : wd (W.drop k) i = wd W (k + i) := by
 rw [wd, wd, List.getD_eq_getElem?_getD, List.getD_eq_getElem?_getD, List.getElem?_drop]
theorem bn_np (two : List ByteArray → ByteArray × Int) (base : Nat) (d : DeskD) (A B : Option Addr) (c e : Nat) (W : List ByteArray) (WA : Option Addr) (wc : Nat) (V : World) (h : Rds V 1 WA (W.drop 1).length (strs (W.drop 1))) (hn : W.length ≤ 2000001) (hf : ∀ i, i < W.length → (wd W i).size ≤ 1048576) (ht : Tab V)
  (hfit : fitK (kindOf (wd W 0)) W.length = true) (hk : kindOf (wd W 0) = 1 ∨ kindOf (wd W 0) = 6 ∨ kindOf (wd W 0) = 12 ∨ kindOf (wd W 0) = 13) (hS : DSee V d A B) (hz : DkSz d e) (hv : vDesk d = true) (ho : DOwn base V d A B c e) (hb : base ≤ V.heap.size) :
  Calls Tryz.prog 30 #[dkv d A B c e, .string (wd W 0), .slice WA (W.drop 1).length wc] V fun r w' => NP base (doK two d W (kindOf (wd W 0))).1 (doK two d W (kindOf (wd W 0))).2 V r w' := by
 have hn' : (W.drop 1).length ≤ 10000000 := by rw [List.length_drop]; omega
 have hf' : ∀ i, i < (W.drop 1).length → (wd (W.drop 1) i).size ≤ 100000000 := fun i hi => by
  rw [List.length_drop] at hi
  rw [wd_drop]
  have := hf (1 + i) (by omega)
  omega
 cases hno : numsOf (W.drop 1) with
 | none =>
  refine (bnNo_any d A B c e (W.drop 1) WA wc (wd W 0) V h hn' hf' ht hno).mono ?_
  intro r w' hr
  have e0 : doK two d W (kindOf (wd W 0)) = (d, [errL 7]) := by rcases hk with h | h | h | h <;> rw [h] <;> simp only [doK, hno]
  rw [e0]
  exact np_md hr ho hb
 | some l =>
  have hl := numsOf_len hno
  rw [List.length_drop] at hl
  rcases hk with hk | hk | hk | hk <;> rw [hk] at hfit
  ·have h6 : W.length = 6 := by simpa [fitK] using hfit
   have h5 : l.length = 5 := by omega
   refine (bnBask_any d A B c e (W.drop 1) WA wc (wd W 0) l V h hn' hf' ht hno h5 hk hS hz hv).mono ?_
   intro r w' hr
   rw [hk]
   simp only [doK, hno]
   rw [show bskOf l = (⟨num l 0, num l 1, num l 2, num l 3, num l 4⟩ : Bsk) from rfl] at hr
   split at hr
   ·rename_i hb9
    rw [if_pos hb9]
    exact np_md hr ho hb
   ·rename_i hb9
    rw [if_neg hb9]
    exact np_md hr ho hb
  ·refine (bnFast_any d A B c e (W.drop 1) WA wc (wd W 0) l V h hn' hf' ht hno (by omega) hk).mono ?_
   intro r w' hr
   rw [hk]
   simp only [doK, hno]
   exact np_md hr ho hb
  ·refine (bnStop_any d A B c e (W.drop 1) WA wc (wd W 0) l V h hn' hf' ht hno (by omega) hk hS hz hv).mono ?_
   intro r w' hr
   rw [hk]
   simp only [doK, hno]
   unfold stPost at hr
   split at hr
   ·rename_i hb9
    rw [if_pos hb9]
    obtain ⟨N, nc, on, hr⟩ := hr
    have hr0 := hr
    obtain ⟨X, n, _, _, g, e2⟩ := hr0
    exact np_md2 hr ⟨own_mono on hb, by rw [e2]; exact own_below ho.2 (up_below V g)⟩ hb
   ·rename_i hb9
    rw [if_neg hb9]
    exact np_md hr ho hb
  ·have h3 : W.length = 3 := by simpa [fitK] using hfit
   refine (bnWait_any d A B c e (W.drop 1) WA wc (wd W 0) l V h hn' hf' ht hno (by omega) hk).mono ?_
   intro r w' hr
   rw [hk]
   simp only [doK, hno]
   exact np_md hr ho hb
theorem bt_np {two : List ByteArray → ByteArray × Int} (h2 : TwoOk two) (base : Nat) (d : DeskD) (A B : Option Addr) (c e : Nat) (W : List ByteArray) (V : World) (hts : (restW W 1).size ≤ 1048576) (ht : Tab V)
  (hk : kindOf (wd W 0) = 2 ∨ kindOf (wd W 0) = 3 ∨ kindOf (wd W 0) = 10) (hS : DSee V d A B) (hz : DkSz d e) (hz1 : d.drills.length ≤ 10000000) (ho : DOwn base V d A B c e) (hb : base ≤ V.heap.size) :
  Calls Tryz.prog 31 #[dkv d A B c e, .string (wd W 0), .string (restW W 1)] V fun r w' => NP base (doK two d W (kindOf (wd W 0))).1 (doK two d W (kindOf (wd W 0))).2 V r w' := by
 rcases hk with hk | hk | hk
 ·refine (btCode_any h2 d A B c e (wd W 0) (restW W 1) V hts hk).mono ?_
  intro r w' hr
  rw [hk]
  exact np_md hr ho hb
 ·refine (btDrill_any d A B c e (wd W 0) (restW W 1) V hts hk hS hz hz1 ht).mono ?_
  intro r w' hr
  rw [hk]
  simp only [doK]
  unfold btDrPost at hr
  split at hr
  ·rename_i h9
   rw [h9]
   exact np_md hr ho hb
  ·rename_i x h9
   rw [h9]
   simp only
   split at hr
   ·rename_i hb9
    rw [if_pos hb9]
    obtain ⟨B', e', on, hr⟩ := hr
    have hr0 := hr
    obtain ⟨X, n, _, _, g, e2⟩ := hr0
    exact np_md2 hr ⟨by rw [e2]; exact own_below ho.1 (up_below V g), own_mono on hb⟩ hb
   ·rename_i hb9
    rw [if_neg hb9]
    exact np_md hr ho hb
 ·refine (btRow_any d A B c e (wd W 0) (restW W 1) V hts hk hS hz).mono ?_
  intro r w' hr
  rw [hk]
  exact np_md hr ho hb
theorem en_np (two : List ByteArray → ByteArray × Int) (base : Nat) (d : DeskD) (A B : Option Addr) (c e : Nat) (W : List ByteArray) (V : World) (h1 : (wd W 1).size ≤ 1048576) (h2 : (wd W 2).size ≤ 1048576) (h3 : (wd W 3).size ≤ 1048576) (ht : Tab V) (hz : DkSz d e) (ho : DOwn base V d A B c e) (hb : base ≤ V.heap.size) :
  Calls Tryz.prog 38 #[dkv d A B c e, .string (wd W 1), .string (wd W 2), .string (wd W 3)] V fun r w' => NP base (doK two d W 5).1 (doK two d W 5).2 V r w' := by
 refine (enter_any d A B c e (wd W 1) (wd W 2) (wd W 3) V h1 h2 h3 hz ht).mono ?_
 intro r w' hr
 simp only [doK]
 unfold entPost at hr
 split at hr
 ·rename_i h9
  rw [h9]
  exact np_md hr ho hb
 ·rename_i l h9
  rw [h9]
  simp only
  split at hr
  ·rename_i hb9
   rw [if_pos hb9]
   exact np_md hr ho hb
  ·rename_i hb9
   rw [if_neg hb9]
   exact np_md hr ho hb
theorem dcKN_any {two : List ByteArray → ByteArray × Int} (h2 : TwoOk two) (d : DeskD) (A B : Option Addr) (c e : Nat) (s : ByteArray) (w : World) (W : List ByteArray) (hs : s.size ≤ 1048576) (hS : DSee w d A B) (hz : DkSz d e) (hv : vDesk d = true) (ht : Tab w) (hW : splitA 32 [] s.data.toList = W)
  (hf : fitK (kindOf (wd W 0)) W.length = true) (k : Nat) (hk4 : k = 1 ∨ k = 6 ∨ k = 12 ∨ k = 13) (hk : kindOf (wd W 0) = k) :
  Calls Tryz.prog 9 #[dkv d A B c e, .string s] w fun r w' => dcYes (doK two d W k).1 (doK two d W k).2 w r w' := by
 have HK := hd_ hk
 have HLEN := hd_ (show 2 ≤ W.length by rw [hk] at hf; rcases hk4 with rfl | rfl | rfl | rfl <;> simp [fitK] at hf <;> omega)
 have HWS9 := hd_ (show ∀ i, i < W.length → (wd W i).size ≤ 1048576 from fun i hi => by
  have := split_size 32 s.data.toList [] (wd W i) (by rw [hW, ← wd_eq hi]; exact List.getElem_mem hi)
  rw [bsz] at this
  simp at this
  omega)
 obtain ⟨D2, hD2⟩ : ∃ D, (doK two d W k).1 = D := ⟨_, rfl⟩
 obtain ⟨L2, hL2⟩ : ∃ L, (doK two d W k).2 = L := ⟨_, rfl⟩
 rw [hD2, hL2]
 have HNP : Hid (∀ (base : Nat) (A1 B1 : Option Addr) (c1 e1 : Nat) (WA : Option Addr) (wc : Nat) (V : World), Rds V 1 WA (W.length - 1) (strs (W.drop 1)) → Tab V → DkSz d e1 → DOwn base V d A1 B1 c1 e1 → base ≤ V.heap.size →
   Calls Tryz.prog 30 #[dkv d A1 B1 c1 e1, .string (wd W 0), .slice WA (W.length - 1) wc] V fun r w' => NP base D2 L2 V r w') := hd_ fun base A1 B1 c1 e1 WA wc V h1 h2 h3 h4 h5 => by
  rw [show W.length - 1 = (W.drop 1).length from List.length_drop.symm] at h1 ⊢
  have hwl : W.length ≤ 2000001 := by
   have := split_len 32 s.data.toList []
   rw [hW, bsz] at this
   omega
  have := bn_np two base d A1 B1 c1 e1 W WA wc V h1 hwl HWS9.out h2 hf (by rw [hk]; omega) (DOwn.see h4) h3 hv h4 h5
  rw [hk, hD2, hL2] at this
  exact this
 clear hD2 hL2
 clear hk
 have HS := hd_ hS
 have HZ := hd_ hz
 have HV := hd_ hv
 have HT := hd_ ht
 have HSP : Hid (∀ V, Calls Tryz.prog 27 #[.string s, .int .i64 ((s.size : Int) + 2)] V fun e w' => txPost W V e w') := hd_ fun V => by
  have := splitAt_any s (s.size + 1) V (by omega) (by omega)
  rw [spl_all, hW, show (((s.size + 1 : Nat) : Int) + 1) = (s.size : Int) + 2 by omega] at this
  exact this
 have hW1 : 0 < W.length := by rw [← hW]; exact List.length_pos_iff.2 (splitA_ne 32 _ _)
 have hWl : W.length ≤ 2000000 := by
  have := split_len 32 s.data.toList []
  rw [hW, bsz] at this
  omega
 have hno := fit_yes (kind_le _) hf
 obtain ⟨L, hL⟩ : ∃ L, (wcR (kindOf (wd W 0))).1 = L := ⟨_, rfl⟩
 obtain ⟨M, hM⟩ : ∃ M, (wcR (kindOf (wd W 0))).2 = M := ⟨_, rfl⟩
 have HWC : Hid (∀ V, Calls Tryz.prog 28 #[.string (wd W 0)] V fun e w' => e = .returned (.tuple #[i64 L, .bool M]) ∧ V = w') := hd_ fun V => by
  have := wordCounts_any (wd W 0) V
  rw [hL, hM] at this
  exact this
 rw [hL, hM] at hno
 clear hS hz hv ht hW hf hL hM
 go_enter Tryz.func9, Tryz.ntmps9
 go_upto_region 1 with (fail)
 refine wpg (R := fun V => Hid (MD w V w.heap.size (w.heap.size + 1) (dkcs d A B c e))) (hd_ (MD.new _ _)) (fun V z => ?_)
 generalize hp9 : w.heap.size = p at z ⊢
 generalize hq9 : p + 1 = q at z ⊢
 clear hp9 hq9
 obtain ⟨hpV, x0, x1, x2, x3, x4, x5, x6, x7⟩ := z.out.bx.eight
 go_wp2_with fail
 refine (ret_as (validDeskI_any d A B c e _ (HS.out.below z.out.up.below) HZ.out (HT.out.below z.out.up.below)) HV.out).mono ?_
 rintro r w' ⟨rfl, g1, rfl⟩
 go_wp2_with fail
 refine (HSP.out _).mono ?_
 rintro r w' ⟨AW, cW, rfl, ow, g2, rfl⟩
 have z2 := hd_ (z.out.below (V' := up V (g1.tr g2)) (up_below V _))
 have OW : Hid ((up V (g1.tr g2)).ownsRow (up V g1).heap.size 9 1 (.slice AW W.length cW) W.length (strs W)) := hd_ ow
 have HBV := hd_ (show p < (up V g1).heap.size ∧ q < (up V g1).heap.size ∧ w.heap.size ≤ (up V g1).heap.size from ⟨Nat.lt_of_lt_of_le z.out.bx.lt (up_below V g1).size, Nat.lt_of_lt_of_le z.out.rs.lt (up_below V g1).size, Nat.le_trans z.out.up.below.size (up_below V g1).size⟩)
 generalize (up V g1).heap.size = base at OW HBV
 obtain ⟨bW, oW, eW, hbW, cw⟩ := wd_at (Rds.of_own OW.out) (i := 0) hW1
 subst eW
 have cw0 := cw 0 hW1
 rw [Nat.add_zero] at cw0
 clear ow cw x0 x1 x2 x3 x4 x5 x6 x7 hpV z
 go_upto_region 6 with (go_at_call 28; refine (HWC.out _).mono ?_; rintro r w' ⟨rfl, rfl⟩)
 have HNO := hd_ hno
 have t1' : (L == 0) = false := by rw [beq_eq_false_iff_ne]; omega
 have t2' : decide ((W.length : Int) < L) = false := decide_eq_false (by omega)
 go_cut [46] (fun x U => x = .bool false ∧ Hid (MD w U p q (dkcs d A B c e)) ∧ Hid (U.ownsRow base 9 1 (.slice (some ⟨bW, oW, none⟩) W.length cW) W.length (strs W)))
 case first =>
  by_cases t3 : L < (W.length : Int)
  ·have t3' : decide (L < (W.length : Int)) = true := decide_eq_true t3
   have hM : M = true := hno.2.2.resolve_left (by omega)
   subst hM
   clear hno t3
   go_wp2_with fail
   go_meet
   exact ⟨rfl, z2, OW⟩
  ·have t3' : decide (L < (W.length : Int)) = false := decide_eq_false t3
   clear hno t3
   go_wp2_with fail
   go_meet
   exact ⟨rfl, z2, OW⟩
 case rest =>
  obtain ⟨rfl, z, OW⟩ := hcut
  clear z2 hno t1' t2' cw0
  obtain ⟨hpV, x0, x1, x2, x3, x4, x5, x6, x7⟩ := z.out.bx.eight
  obtain ⟨f0, f1, f2, f3, f4, f5, f6, f7⟩ := z.out.bx.open8
  go_wp2_with fail
  refine (copied_any d A B c e _ (HS.out.below z.out.up.below) HZ.out.s HZ.out.n).mono ?_
  rintro r w' ⟨A1, B1, c1, e1, rfl, hdo, g3, rfl⟩
  have z3 := hd_ (z.out.below (up_below wc g3))
  have HDO := hd_ hdo
  have OW3 := hd_ (own_below OW.out (up_below wc g3))
  have HWS := hd_ (show base ≤ wc.heap.size from by
   have := OW.out.lt bW rfl
   omega)
  clear hdo x0 x1 x2 x3 x4 x5 x6 x7 f0 f1 f2 f3 f4 f5 f6 f7 hpV OW
  obtain ⟨hpV, x0, x1, x2, x3, x4, x5, x6, x7⟩ := z3.out.bx.eight
  obtain ⟨f0, f1, f2, f3, f4, f5, f6, f7⟩ := z3.out.bx.open8
  go_upto_region 10 with (fail)
  obtain ⟨g9, e9⟩ := own_some OW3.out hW1
  injection e9 with e9
  injection e9 with e9a e9 e9b
  clear e9a e9b
  subst e9
  have hpw : p < wc.heap.size := z.out.bx.lt
  have m8 := hd_ (z3.out.put8 (i64 d.b.bars) (i64 d.b.rise) (i64 d.b.fall) (i64 d.b.clr) (i64 d.b.near) (.slice A1 d.stops.length c1) (.slice B1 d.drills.length e1) (.string d.log))
  have o81 := hd_ (own_mono (own_all HDO.out.1 hpw (i64 d.b.bars) (i64 d.b.rise) (i64 d.b.fall) (i64 d.b.clr) (i64 d.b.near) (.slice A1 d.stops.length c1) (.slice B1 d.drills.length e1) (.string d.log)) HWS.out)
  have o82 := hd_ (own_mono (own_all HDO.out.2 hpw (i64 d.b.bars) (i64 d.b.rise) (i64 d.b.fall) (i64 d.b.clr) (i64 d.b.near) (.slice A1 d.stops.length c1) (.slice B1 d.drills.length e1) (.string d.log)) HWS.out)
  have o83 := hd_ (own_all OW3.out HBV.out.1 (i64 d.b.bars) (i64 d.b.rise) (i64 d.b.fall) (i64 d.b.clr) (i64 d.b.near) (.slice A1 d.stops.length c1) (.slice B1 d.drills.length e1) (.string d.log))
  refine wpg (R := fun U => Hid (DC w U p q d A1 B1 c1 e1 base W bW cW)) (hd_ ⟨m8.out.below ((Below.refl _ _).alloc (Nat.le_refl _) _), ⟨o81.out.alloc _, o82.out.alloc _⟩, o83.out.alloc _, HBV.out⟩) (fun U C => ?_)
  clear x0 x1 x2 x3 x4 x5 x6 x7 f0 f1 f2 f3 f4 f5 f6 f7 hpV z3 HDO OW3 z HWS m8 o81 o82 o83
  obtain ⟨-, q1, -, -, -, -, q6, -, -, -, -, -, q12, q13⟩ := kts HK.out
  go_upto_if 55 with (fail)
  go_cut [55] (fun x V => x = .bool true ∧ Hid (DC w V p q d A1 B1 c1 e1 base W bW cW))
  case first =>
   rcases hk4 with rfl | rfl | rfl | rfl
   all_goals
    simp only [Nat.reduceEqDiff, eq_self, decide_true, decide_false] at q1 q6 q12 q13
    simp only [Nat.reduceEqDiff, eq_self, decide_true, decide_false]
    go_wp2_with fail
    go_meet
    exact ⟨rfl, C⟩
  case rest =>
  clear q1 q6 q12 q13 C
  obtain ⟨rfl, C⟩ := hcut
  generalize wc = U at C ⊢
  have HTU : Hid (∀ V, Below U.heap.size U V → Tab V) := hd_ fun V hV => (HT.out.below C.out.m.up.below).below hV
  have hbU : base ≤ U.heap.size := by have := C.out.wo.lt bW rfl; omega
  have HPB : Hid (p < base ∧ base ≤ U.heap.size) := hd_ ⟨C.out.hb.1, hbU⟩
  obtain ⟨hl1, hcW⟩ : (1 : Nat) ≤ W.length ∧ W.length ≤ cW := ⟨by have := HLEN.out; omega, own_capD C.out.wo⟩
  have hcW1 : (1 : Int) < cW := by have := HLEN.out; omega
  have hl1' : (1 : Int) ≤ W.length := by omega
  have hcW' : (W.length : Int) ≤ cW := by omega
  have z := hd_ C.out.m
  have HZ1 : Hid (DkSz d e1) := hd_ ⟨HZ.out.s, HZ.out.n, HZ.out.b, HZ.out.l, own_capD C.out.o.2⟩
  have HRW : Hid (Rds U.drew 1 (some ⟨bW, 1, none⟩) (W.length - 1) (strs (W.drop 1))) := hd_ (by
   have := (Rds.of_own C.out.wo).suf (i := 1) hl1
   rw [show (strs W).drop (1 * 1) = strs (W.drop 1) from (List.map_drop ..).symm] at this
   exact Rds.below (show Rds U 1 (some ⟨bW, 1, none⟩) (W.length - 1) (strs (W.drop 1)) from this) bw_)
  go_upto_region 16 with (fail)
  have hC : cel8 U.drew p d A1 B1 c1 e1 := z.out.cel
  refine wp_region_T (fun U => U.cell? ⟨p, 0, none⟩ = some (i64 (d).b.bars) ∧ U.cell? ⟨p, 1, none⟩ = some (i64 (d).b.rise) ∧ U.cell? ⟨p, 2, none⟩ = some (i64 (d).b.fall) ∧ U.cell? ⟨p, 3, none⟩ = some (i64 (d).b.clr) ∧ U.cell? ⟨p, 4, none⟩ = some (i64 (d).b.near) ∧ U.cell? ⟨p, 5, none⟩ = some (.slice A1 (d).stops.length c1) ∧ U.cell? ⟨p, 6, none⟩ = some (.slice B1 (d).drills.length e1) ∧ U.cell? ⟨p, 7, none⟩ = some (.string (d).log)) 8 (by kernel_rfl) ?_
  
  refine wtl 0 (hC) ?_
  refine wtp 1 (fun _ => hC) ?_
  refine wtp 2 (fun _ => hC) ?_
  refine wtp 3 (fun _ => hC) ?_
  refine wto 4 fun K hK => ?_
  go_simp
  rw [if_neg (show ¬ cW = 1 from by omega)]
  go_at_call 30
  refine (HNP.out base A1 B1 c1 e1 _ _ _ HRW.out (HTU.out _ bw_) HZ1.out ⟨own_below C.out.o.1 bw_, own_below C.out.o.2 bw_⟩ HPB.out.2).mono ?_
  rintro r w' ⟨A2, B2, c2, e2, X, n, rfl, do2, ox2, gx, rfl⟩
  have C2 := hd_ (C.out.m.below (V' := up U.drew gx) (bl_up (Below.drew (Below.refl _ _)) gx))
  have DO2 := hd_ do2
  have OX2 := hd_ ox2
  clear do2 ox2
  obtain ⟨hpV, x0, x1, x2, x3, x4, x5, x6, x7⟩ := C2.out.bx.eight
  obtain ⟨f0, f1, f2, f3, f4, f5, f6, f7⟩ := C2.out.bx.open8
  refine hK.out _ _ (fun _ => C2.out.cel) (wtn ?_)
  clear hK K
  refine wtp 5 (fun _ => C2.out.cel) ?_
  refine wtp 6 (fun _ => C2.out.cel) ?_
  refine wtp 7 (fun _ => C2.out.cel) ?_
  refine wto 8 fun K hK => ?_
  go_simp
  refine hK.out _ _ tf_ (wtn ?_)
  clear hK K
  refine wtp 9 tf_ ?_
  refine wtd ?_
  refine exit_genD (R := fun U1 => Hid (MD w U1 p q (dkcs D2 A2 B2 c2 e2)) ∧ Hid (DOwn base U1 D2 A2 B2 c2 e2) ∧ Hid (U1.ownsRow base 9 1 (.slice X L2.length n) L2.length (strs L2))) ⟨hd_ (C2.out.put8 _ _ _ _ _ _ _ _), hd_ ⟨own_all DO2.out.1 HPB.out.1 _ _ _ _ _ _ _ _, own_all DO2.out.2 HPB.out.1 _ _ _ _ _ _ _ _⟩, hd_ (own_all OX2.out HPB.out.1 _ _ _ _ _ _ _ _)⟩ (fun U1 y => ?_)
  obtain ⟨z, DO, OX⟩ := y
  clear C2 DO2 OX2 C
  obtain ⟨hpV, x0, x1, x2, x3, x4, x5, x6, x7⟩ := z.out.bx.eight
  obtain ⟨hqT, r0, r1, r2, r3, r4, r5, r6, r7⟩ := z.out.rs.eight
  obtain ⟨f0, f1, f2, f3, f4, f5, f6, f7⟩ := z.out.rs.open8
  go_wp2_with fail
  refine post_gen (R := fun W => Blk W q 31 (dkcs (D2) A2 B2 c2 e2) ∧ DOwn w.heap.size W (D2) A2 B2 c2 e2 ∧ W.ownsRow w.heap.size 9 1 (.slice X L2.length n) L2.length (strs (L2)) ∧ UpOf w W) ⟨blk_put8 z.out.rs _ _ _ _ _ _ _ _, ⟨own_mono (own_all DO.out.1 HBV.out.2.1 _ _ _ _ _ _ _ _) HBV.out.2.2, own_mono (own_all DO.out.2 HBV.out.2.1 _ _ _ _ _ _ _ _) HBV.out.2.2⟩, own_mono (own_all OX.out HBV.out.2.1 _ _ _ _ _ _ _ _) HBV.out.2.2, put8_up z.out.up z.out.hq _ _ _ _ _ _ _ _⟩ (fun W st => ?_)
  obtain ⟨s1, s4, s2, s3⟩ := st
  obtain ⟨hqW, w0, w1, w2, w3, w4, w5, w6, w7⟩ := s1.eight
  clear s1 r0 r1 r2 r3 r4 r5 r6 r7 f0 f1 f2 f3 f4 f5 f6 f7 x0 x1 x2 x3 x4 x5 x6 x7
  exact bodyPost_ret (v := .tuple #[dkv (D2) A2 B2 c2 e2, .slice X L2.length n, i64 0]) (by simp [results, Tryz.results9, go_sem, hqW, w0, w1, w2, w3, w4, w5, w6, w7]) rfl ⟨_, _, _, _, _, _, rfl, s4, s2, s3⟩
theorem spl_rest {W : List ByteArray} {l : List UInt8} {m : Nat} (hW : splitA 32 [] l = W) (hm : m < W.length) : spl m l = W.take m ++ [restW W m] := by
 rw [spl_split, hW, if_pos hm]; rfl
theorem restW_size {W : List ByteArray} {l : List UInt8} {m : Nat} (hW : splitA 32 [] l = W) (hm : m < W.length) : (restW W m).size ≤ l.length := by
 refine spl_size m l _ ?_
 rw [spl_rest hW hm]
 exact List.mem_append_right _ (List.mem_singleton.2 rfl)
theorem vDesk_n {d : DeskD} (h : vDesk d = true) : d.drills.length ≤ 10 := by
 have := (vDesk_inv h).2.2.1
 rw [vDrills, Bool.and_eq_true, decide_eq_true_eq] at this
 exact this.1
theorem splRest_any {s : ByteArray} {W : List ByteArray} {m : Nat} (hs : s.size ≤ 1048576) (hW : splitA 32 [] s.data.toList = W) (hm : m < W.length) (hm2 : m ≤ 1000) (V : World) :
  Calls Tryz.prog 27 #[.string s, .int .i64 ((m : Int) + 1)] V fun e w' => ∃ b n, e = .returned (.slice (some ⟨b, 0, none⟩) (m + 1) n) ∧ w'.cell? ⟨b, m, none⟩ = some (.string (restW W m)) ∧ UpOf V w' := by
 refine (splitAt_any s m V (by omega) (by omega)).mono ?_
 rintro e w' ⟨A, c, rfl, ow, g, rfl⟩
 have hl : (W.take m).length = m := by rw [List.length_take]; omega
 rw [spl_rest hW hm] at ow ⊢
 have hL : (W.take m ++ [restW W m]).length = m + 1 := by rw [List.length_append, hl]; rfl
 obtain ⟨b, rfl⟩ := own_some ow (by rw [hL]; omega)
 obtain ⟨b9, o9, e9, _, hc9⟩ := wd_at (Rds.of_own ow) (i := m) (by rw [hL]; omega)
 injection e9 with e9
 injection e9 with e91 e92 e93
 subst e91 e92
 have h9 := hc9 m (by rw [hL]; omega)
 rw [Nat.zero_add, wd, List.getD_eq_getElem?_getD, List.getElem?_append_right (by omega), hl, Nat.sub_self] at h9
 exact ⟨b, c, by rw [hL], h9, g, rfl⟩
theorem dcKT_any {two : List ByteArray → ByteArray × Int} (h2 : TwoOk two) (d : DeskD) (A B : Option Addr) (c e : Nat) (s : ByteArray) (w : World) (W : List ByteArray) (hs : s.size ≤ 1048576) (hS : DSee w d A B) (hz : DkSz d e) (hv : vDesk d = true) (ht : Tab w) (hW : splitA 32 [] s.data.toList = W)
  (hf : fitK (kindOf (wd W 0)) W.length = true) (k : Nat) (hk4 : k = 2 ∨ k = 3 ∨ k = 10) (hk : kindOf (wd W 0) = k) :
  Calls Tryz.prog 9 #[dkv d A B c e, .string s] w fun r w' => dcYes (doK two d W k).1 (doK two d W k).2 w r w' := by
 have HK := hd_ hk
 have HLEN := hd_ (show 2 ≤ W.length by rw [hk] at hf; rcases hk4 with rfl | rfl | rfl <;> simpa [fitK] using hf)
 have HWS9 := hd_ (show ∀ i, i < W.length → (wd W i).size ≤ 1048576 from fun i hi => by
  have := split_size 32 s.data.toList [] (wd W i) (by rw [hW, ← wd_eq hi]; exact List.getElem_mem hi)
  rw [bsz] at this
  simp at this
  omega)
 obtain ⟨D2, hD2⟩ : ∃ D, (doK two d W k).1 = D := ⟨_, rfl⟩
 obtain ⟨L2, hL2⟩ : ∃ L, (doK two d W k).2 = L := ⟨_, rfl⟩
 rw [hD2, hL2]
 have HRW : Hid ((restW W 1).size ≤ 1048576) := hd_ (by
  have := restW_size hW (m := 1) (by have := HLEN.out; omega)
  rw [bsz] at this
  omega)
 obtain ⟨RW, hRW⟩ : ∃ X, restW W 1 = X := ⟨_, rfl⟩
 have HSQ : Hid (∀ V, Calls Tryz.prog 27 #[.string s, i64 2] V fun e w' => ∃ b n, e = .returned (.slice (some ⟨b, 0, none⟩) 2 n) ∧ w'.cell? ⟨b, 1, none⟩ = some (.string RW) ∧ UpOf V w') := hd_ fun V => by
  have := splRest_any hs hW (m := 1) (by have := HLEN.out; omega) (by omega) V
  rw [hRW] at this
  exact this
 have HNP : Hid (∀ (base : Nat) (A1 B1 : Option Addr) (c1 e1 : Nat) (V : World), Tab V → DkSz d e1 → DOwn base V d A1 B1 c1 e1 → base ≤ V.heap.size →
   Calls Tryz.prog 31 #[dkv d A1 B1 c1 e1, .string (wd W 0), .string RW] V fun r w' => NP base D2 L2 V r w') := hd_ fun base A1 B1 c1 e1 V h2' h3 h4 h5 => by
  have := bt_np h2 base d A1 B1 c1 e1 W V HRW.out h2' (by rw [hk]; omega) (DOwn.see h4) h3 (by have := vDesk_n hv; omega) h4 h5
  rw [hk, hD2, hL2, hRW] at this
  exact this
 have HRZ := HRW
 clear hD2 hL2 HRW
 clear hk
 have HS := hd_ hS
 have HZ := hd_ hz
 have HV := hd_ hv
 have HT := hd_ ht
 have HSP : Hid (∀ V, Calls Tryz.prog 27 #[.string s, .int .i64 ((s.size : Int) + 2)] V fun e w' => txPost W V e w') := hd_ fun V => by
  have := splitAt_any s (s.size + 1) V (by omega) (by omega)
  rw [spl_all, hW, show (((s.size + 1 : Nat) : Int) + 1) = (s.size : Int) + 2 by omega] at this
  exact this
 have hW1 : 0 < W.length := by rw [← hW]; exact List.length_pos_iff.2 (splitA_ne 32 _ _)
 have hWl : W.length ≤ 2000000 := by
  have := split_len 32 s.data.toList []
  rw [hW, bsz] at this
  omega
 have hno := fit_yes (kind_le _) hf
 obtain ⟨L, hL⟩ : ∃ L, (wcR (kindOf (wd W 0))).1 = L := ⟨_, rfl⟩
 obtain ⟨M, hM⟩ : ∃ M, (wcR (kindOf (wd W 0))).2 = M := ⟨_, rfl⟩
 have HWC : Hid (∀ V, Calls Tryz.prog 28 #[.string (wd W 0)] V fun e w' => e = .returned (.tuple #[i64 L, .bool M]) ∧ V = w') := hd_ fun V => by
  have := wordCounts_any (wd W 0) V
  rw [hL, hM] at this
  exact this
 rw [hL, hM] at hno
 clear hS hz hv ht hW hf hL hM
 go_enter Tryz.func9, Tryz.ntmps9
 go_upto_region 1 with (fail)
 refine wpg (R := fun V => Hid (MD w V w.heap.size (w.heap.size + 1) (dkcs d A B c e))) (hd_ (MD.new _ _)) (fun V z => ?_)
 generalize hp9 : w.heap.size = p at z ⊢
 generalize hq9 : p + 1 = q at z ⊢
 clear hp9 hq9
 obtain ⟨hpV, x0, x1, x2, x3, x4, x5, x6, x7⟩ := z.out.bx.eight
 go_wp2_with fail
 refine (ret_as (validDeskI_any d A B c e _ (HS.out.below z.out.up.below) HZ.out (HT.out.below z.out.up.below)) HV.out).mono ?_
 rintro r w' ⟨rfl, g1, rfl⟩
 go_wp2_with fail
 refine (HSP.out _).mono ?_
 rintro r w' ⟨AW, cW, rfl, ow, g2, rfl⟩
 have z2 := hd_ (z.out.below (V' := up V (g1.tr g2)) (up_below V _))
 have OW : Hid ((up V (g1.tr g2)).ownsRow (up V g1).heap.size 9 1 (.slice AW W.length cW) W.length (strs W)) := hd_ ow
 have HBV := hd_ (show p < (up V g1).heap.size ∧ q < (up V g1).heap.size ∧ w.heap.size ≤ (up V g1).heap.size from ⟨Nat.lt_of_lt_of_le z.out.bx.lt (up_below V g1).size, Nat.lt_of_lt_of_le z.out.rs.lt (up_below V g1).size, Nat.le_trans z.out.up.below.size (up_below V g1).size⟩)
 generalize (up V g1).heap.size = base at OW HBV
 obtain ⟨bW, oW, eW, hbW, cw⟩ := wd_at (Rds.of_own OW.out) (i := 0) hW1
 subst eW
 have cw0 := cw 0 hW1
 rw [Nat.add_zero] at cw0
 clear ow cw x0 x1 x2 x3 x4 x5 x6 x7 hpV z
 go_upto_region 6 with (go_at_call 28; refine (HWC.out _).mono ?_; rintro r w' ⟨rfl, rfl⟩)
 have HNO := hd_ hno
 have t1' : (L == 0) = false := by rw [beq_eq_false_iff_ne]; omega
 have t2' : decide ((W.length : Int) < L) = false := decide_eq_false (by omega)
 go_cut [46] (fun x U => x = .bool false ∧ Hid (MD w U p q (dkcs d A B c e)) ∧ Hid (U.ownsRow base 9 1 (.slice (some ⟨bW, oW, none⟩) W.length cW) W.length (strs W)))
 case first =>
  by_cases t3 : L < (W.length : Int)
  ·have t3' : decide (L < (W.length : Int)) = true := decide_eq_true t3
   have hM : M = true := hno.2.2.resolve_left (by omega)
   subst hM
   clear hno t3
   go_wp2_with fail
   go_meet
   exact ⟨rfl, z2, OW⟩
  ·have t3' : decide (L < (W.length : Int)) = false := decide_eq_false t3
   clear hno t3
   go_wp2_with fail
   go_meet
   exact ⟨rfl, z2, OW⟩
 case rest =>
  obtain ⟨rfl, z, OW⟩ := hcut
  clear z2 hno t1' t2' cw0
  obtain ⟨hpV, x0, x1, x2, x3, x4, x5, x6, x7⟩ := z.out.bx.eight
  obtain ⟨f0, f1, f2, f3, f4, f5, f6, f7⟩ := z.out.bx.open8
  go_wp2_with fail
  refine (copied_any d A B c e _ (HS.out.below z.out.up.below) HZ.out.s HZ.out.n).mono ?_
  rintro r w' ⟨A1, B1, c1, e1, rfl, hdo, g3, rfl⟩
  have z3 := hd_ (z.out.below (up_below wc g3))
  have HDO := hd_ hdo
  have OW3 := hd_ (own_below OW.out (up_below wc g3))
  have HWS := hd_ (show base ≤ wc.heap.size from by
   have := OW.out.lt bW rfl
   omega)
  clear hdo x0 x1 x2 x3 x4 x5 x6 x7 f0 f1 f2 f3 f4 f5 f6 f7 hpV OW
  obtain ⟨hpV, x0, x1, x2, x3, x4, x5, x6, x7⟩ := z3.out.bx.eight
  obtain ⟨f0, f1, f2, f3, f4, f5, f6, f7⟩ := z3.out.bx.open8
  go_upto_region 10 with (fail)
  obtain ⟨g9, e9⟩ := own_some OW3.out hW1
  injection e9 with e9
  injection e9 with e9a e9 e9b
  clear e9a e9b
  subst e9
  have hpw : p < wc.heap.size := z.out.bx.lt
  have m8 := hd_ (z3.out.put8 (i64 d.b.bars) (i64 d.b.rise) (i64 d.b.fall) (i64 d.b.clr) (i64 d.b.near) (.slice A1 d.stops.length c1) (.slice B1 d.drills.length e1) (.string d.log))
  have o81 := hd_ (own_mono (own_all HDO.out.1 hpw (i64 d.b.bars) (i64 d.b.rise) (i64 d.b.fall) (i64 d.b.clr) (i64 d.b.near) (.slice A1 d.stops.length c1) (.slice B1 d.drills.length e1) (.string d.log)) HWS.out)
  have o82 := hd_ (own_mono (own_all HDO.out.2 hpw (i64 d.b.bars) (i64 d.b.rise) (i64 d.b.fall) (i64 d.b.clr) (i64 d.b.near) (.slice A1 d.stops.length c1) (.slice B1 d.drills.length e1) (.string d.log)) HWS.out)
  have o83 := hd_ (own_all OW3.out HBV.out.1 (i64 d.b.bars) (i64 d.b.rise) (i64 d.b.fall) (i64 d.b.clr) (i64 d.b.near) (.slice A1 d.stops.length c1) (.slice B1 d.drills.length e1) (.string d.log))
  refine wpg (R := fun U => Hid (DC w U p q d A1 B1 c1 e1 base W bW cW)) (hd_ ⟨m8.out.below ((Below.refl _ _).alloc (Nat.le_refl _) _), ⟨o81.out.alloc _, o82.out.alloc _⟩, o83.out.alloc _, HBV.out⟩) (fun U C => ?_)
  clear x0 x1 x2 x3 x4 x5 x6 x7 f0 f1 f2 f3 f4 f5 f6 f7 hpV z3 HDO OW3 z HWS m8 o81 o82 o83
  obtain ⟨-, q1, q2, q3, -, -, q6, -, -, -, q10, -, q12, q13⟩ := kts HK.out
  rw [decide_eq_false (show ¬ k = 1 by omega)] at q1
  rw [decide_eq_false (show ¬ k = 6 by omega)] at q6
  rw [decide_eq_false (show ¬ k = 12 by omega)] at q12
  rw [decide_eq_false (show ¬ k = 13 by omega)] at q13
  go_upto_if 68 with (fail)
  go_cut [68] (fun x V => x = .bool true ∧ Hid (DC w V p q d A1 B1 c1 e1 base W bW cW))
  case first =>
   rcases hk4 with rfl | rfl | rfl
   all_goals
    simp only [Nat.reduceEqDiff, eq_self, decide_true, decide_false] at q2 q3 q10
    simp only [Nat.reduceEqDiff, eq_self, decide_true, decide_false]
    go_wp2_with fail
    go_meet
    exact ⟨rfl, C⟩
  case rest =>
  clear q1 q2 q3 q6 q10 q12 q13 C
  obtain ⟨rfl, C⟩ := hcut
  generalize wc = U at C ⊢
  have HTU : Hid (∀ V, Below U.heap.size U V → Tab V) := hd_ fun V hV => (HT.out.below C.out.m.up.below).below hV
  have hbU : base ≤ U.heap.size := by have := C.out.wo.lt bW rfl; omega
  have HPB : Hid (p < base ∧ base ≤ U.heap.size) := hd_ ⟨C.out.hb.1, hbU⟩
  have z := hd_ C.out.m
  have HZ1 : Hid (DkSz d e1) := hd_ ⟨HZ.out.s, HZ.out.n, HZ.out.b, HZ.out.l, own_capD C.out.o.2⟩
  go_upto_region 20 with (fail)
  have hC : cel8 U.drew p d A1 B1 c1 e1 := z.out.cel
  refine wp_region_T (fun U => U.cell? ⟨p, 0, none⟩ = some (i64 (d).b.bars) ∧ U.cell? ⟨p, 1, none⟩ = some (i64 (d).b.rise) ∧ U.cell? ⟨p, 2, none⟩ = some (i64 (d).b.fall) ∧ U.cell? ⟨p, 3, none⟩ = some (i64 (d).b.clr) ∧ U.cell? ⟨p, 4, none⟩ = some (i64 (d).b.near) ∧ U.cell? ⟨p, 5, none⟩ = some (.slice A1 (d).stops.length c1) ∧ U.cell? ⟨p, 6, none⟩ = some (.slice B1 (d).drills.length e1) ∧ U.cell? ⟨p, 7, none⟩ = some (.string (d).log)) 10 (by kernel_rfl) ?_
  
  refine wtl 0 (hC) ?_
  refine wtp 1 (fun _ => hC) ?_
  refine wtp 2 (fun _ => hC) ?_
  refine wto 3 fun K hK => ?_
  go_simp
  go_at_call 27
  refine (HSQ.out _).mono ?_
  rintro r w' ⟨bS, nS, rfl, hcS, gS, rfl⟩
  have C4 := hd_ (C.out.below (V := up U.drew gS) (bl_up (Below.drew (Below.refl _ _)) gS))
  have HPB4 := hd_ (show p < base ∧ base ≤ (up U.drew gS).heap.size from ⟨HPB.out.1, Nat.le_trans HPB.out.2 (show Below U.heap.size U (up U.drew gS) from bw_).size⟩)
  have HTU4 : Hid (∀ V, Below (up U.drew gS).heap.size (up U.drew gS) V → Tab V) := hd_ fun V hV => (HT.out.below C4.out.m.up.below).below hV
  refine hK.out _ _ (fun _ => C4.out.m.cel) (wtn ?_)
  clear hK K
  refine wpAnyT_gen (R := fun U1 => Hid (DC w U1 p q d A1 B1 c1 e1 base W bW cW) ∧ U1.cell? ⟨bS, 1, none⟩ = some (.string RW) ∧ Hid (p < base ∧ base ≤ U1.heap.size) ∧ Hid (∀ V, Below U1.heap.size U1 V → Tab V)) ⟨C4, hcS, HPB4, HTU4⟩ (fun U1 y => ?_)
  clear C4 hcS HPB4 HTU4 hC z HTU HPB hbU C
  obtain ⟨C, m1, HPB, HTU⟩ := y
  refine wtp 4 (fun _ => C.out.m.cel) ?_
  refine wto 5 fun K hK => ?_
  go_simp
  refine hK.out _ _ (fun _ => C.out.m.cel) (wtn ?_)
  clear hK K
  refine wto 6 fun K hK => ?_
  go_simp
  go_at_call 31
  refine (HNP.out base A1 B1 c1 e1 U1 (HTU.out _ bw_) HZ1.out ⟨own_below C.out.o.1 bw_, own_below C.out.o.2 bw_⟩ HPB.out.2).mono ?_
  rintro r w' ⟨A2, B2, c2, e2, X, n, rfl, do2, ox2, gx, rfl⟩
  have C2 := hd_ (C.out.m.below (V' := up U1 gx) (up_below U1 gx))
  have DO2 := hd_ do2
  have OX2 := hd_ ox2
  clear do2 ox2
  obtain ⟨hpV, x0, x1, x2, x3, x4, x5, x6, x7⟩ := C2.out.bx.eight
  obtain ⟨f0, f1, f2, f3, f4, f5, f6, f7⟩ := C2.out.bx.open8
  refine hK.out _ _ (fun _ => C2.out.cel) (wtn ?_)
  clear hK K
  refine wtp 7 (fun _ => C2.out.cel) ?_
  refine wtp 8 (fun _ => C2.out.cel) ?_
  refine wtp 9 (fun _ => C2.out.cel) ?_
  refine wto 10 fun K hK => ?_
  go_simp
  refine hK.out _ _ tf_ (wtn ?_)
  clear hK K
  refine wtp 11 tf_ ?_
  refine wtd ?_
  refine exit_genD (R := fun U1 => Hid (MD w U1 p q (dkcs D2 A2 B2 c2 e2)) ∧ Hid (DOwn base U1 D2 A2 B2 c2 e2) ∧ Hid (U1.ownsRow base 9 1 (.slice X L2.length n) L2.length (strs L2))) ⟨hd_ (C2.out.put8 _ _ _ _ _ _ _ _), hd_ ⟨own_all DO2.out.1 HPB.out.1 _ _ _ _ _ _ _ _, own_all DO2.out.2 HPB.out.1 _ _ _ _ _ _ _ _⟩, hd_ (own_all OX2.out HPB.out.1 _ _ _ _ _ _ _ _)⟩ (fun U1 y => ?_)
  obtain ⟨z, DO, OX⟩ := y
  clear C2 DO2 OX2 C
  obtain ⟨hpV, x0, x1, x2, x3, x4, x5, x6, x7⟩ := z.out.bx.eight
  obtain ⟨hqT, r0, r1, r2, r3, r4, r5, r6, r7⟩ := z.out.rs.eight
  obtain ⟨f0, f1, f2, f3, f4, f5, f6, f7⟩ := z.out.rs.open8
  go_wp2_with fail
  refine post_gen (R := fun W => Blk W q 31 (dkcs (D2) A2 B2 c2 e2) ∧ DOwn w.heap.size W (D2) A2 B2 c2 e2 ∧ W.ownsRow w.heap.size 9 1 (.slice X L2.length n) L2.length (strs (L2)) ∧ UpOf w W) ⟨blk_put8 z.out.rs _ _ _ _ _ _ _ _, ⟨own_mono (own_all DO.out.1 HBV.out.2.1 _ _ _ _ _ _ _ _) HBV.out.2.2, own_mono (own_all DO.out.2 HBV.out.2.1 _ _ _ _ _ _ _ _) HBV.out.2.2⟩, own_mono (own_all OX.out HBV.out.2.1 _ _ _ _ _ _ _ _) HBV.out.2.2, put8_up z.out.up z.out.hq _ _ _ _ _ _ _ _⟩ (fun W st => ?_)
  obtain ⟨s1, s4, s2, s3⟩ := st
  obtain ⟨hqW, w0, w1, w2, w3, w4, w5, w6, w7⟩ := s1.eight
  clear s1 r0 r1 r2 r3 r4 r5 r6 r7 f0 f1 f2 f3 f4 f5 f6 f7 x0 x1 x2 x3 x4 x5 x6 x7
  exact bodyPost_ret (v := .tuple #[dkv (D2) A2 B2 c2 e2, .slice X L2.length n, i64 0]) (by simp [results, Tryz.results9, go_sem, hqW, w0, w1, w2, w3, w4, w5, w6, w7]) rfl ⟨_, _, _, _, _, _, rfl, s4, s2, s3⟩
theorem dcK5_any {two : List ByteArray → ByteArray × Int} (h2 : TwoOk two) (d : DeskD) (A B : Option Addr) (c e : Nat) (s : ByteArray) (w : World) (W : List ByteArray) (hs : s.size ≤ 1048576) (hS : DSee w d A B) (hz : DkSz d e) (hv : vDesk d = true) (ht : Tab w) (hW : splitA 32 [] s.data.toList = W)
  (hf : fitK (kindOf (wd W 0)) W.length = true) (hk : kindOf (wd W 0) = 5) :
  Calls Tryz.prog 9 #[dkv d A B c e, .string s] w fun r w' => dcYes (doK two d W 5).1 (doK two d W 5).2 w r w' := by
 have HK := hd_ hk
 have HLEN := hd_ (show W.length = 4 by rw [hk] at hf; simpa [fitK] using hf)
 have HWS9 := hd_ (show ∀ i, i < W.length → (wd W i).size ≤ 1048576 from fun i hi => by
  have := split_size 32 s.data.toList [] (wd W i) (by rw [hW, ← wd_eq hi]; exact List.getElem_mem hi)
  rw [bsz] at this
  simp at this
  omega)
 obtain ⟨D2, hD2⟩ : ∃ D, (doK two d W 5).1 = D := ⟨_, rfl⟩
 obtain ⟨L2, hL2⟩ : ∃ L, (doK two d W 5).2 = L := ⟨_, rfl⟩
 rw [hD2, hL2]
 obtain ⟨X1, hX1⟩ : ∃ X, wd W 1 = X := ⟨_, rfl⟩
 obtain ⟨X2, hX2⟩ : ∃ X, wd W 2 = X := ⟨_, rfl⟩
 obtain ⟨X3, hX3⟩ : ∃ X, wd W 3 = X := ⟨_, rfl⟩
 have HNP : Hid (∀ (base : Nat) (A1 B1 : Option Addr) (c1 e1 : Nat) (V : World), Tab V → DkSz d e1 → DOwn base V d A1 B1 c1 e1 → base ≤ V.heap.size →
   Calls Tryz.prog 38 #[dkv d A1 B1 c1 e1, .string X1, .string X2, .string X3] V fun r w' => NP base D2 L2 V r w') := hd_ fun base A1 B1 c1 e1 V h2 h3 h4 h5 => by
  have := en_np two base d A1 B1 c1 e1 W V (HWS9.out 1 (by have := HLEN.out; omega)) (HWS9.out 2 (by have := HLEN.out; omega)) (HWS9.out 3 (by have := HLEN.out; omega)) h2 h3 h4 h5
  rw [hD2, hL2, hX1, hX2, hX3] at this
  exact this
 clear hD2 hL2
 clear hk
 have HS := hd_ hS
 have HZ := hd_ hz
 have HV := hd_ hv
 have HT := hd_ ht
 have HSP : Hid (∀ V, Calls Tryz.prog 27 #[.string s, .int .i64 ((s.size : Int) + 2)] V fun e w' => txPost W V e w') := hd_ fun V => by
  have := splitAt_any s (s.size + 1) V (by omega) (by omega)
  rw [spl_all, hW, show (((s.size + 1 : Nat) : Int) + 1) = (s.size : Int) + 2 by omega] at this
  exact this
 have hW1 : 0 < W.length := by rw [← hW]; exact List.length_pos_iff.2 (splitA_ne 32 _ _)
 have hWl : W.length ≤ 2000000 := by
  have := split_len 32 s.data.toList []
  rw [hW, bsz] at this
  omega
 have hno := fit_yes (kind_le _) hf
 obtain ⟨L, hL⟩ : ∃ L, (wcR (kindOf (wd W 0))).1 = L := ⟨_, rfl⟩
 obtain ⟨M, hM⟩ : ∃ M, (wcR (kindOf (wd W 0))).2 = M := ⟨_, rfl⟩
 have HWC : Hid (∀ V, Calls Tryz.prog 28 #[.string (wd W 0)] V fun e w' => e = .returned (.tuple #[i64 L, .bool M]) ∧ V = w') := hd_ fun V => by
  have := wordCounts_any (wd W 0) V
  rw [hL, hM] at this
  exact this
 rw [hL, hM] at hno
 clear hS hz hv ht hW hf hL hM
 go_enter Tryz.func9, Tryz.ntmps9
 go_upto_region 1 with (fail)
 refine wpg (R := fun V => Hid (MD w V w.heap.size (w.heap.size + 1) (dkcs d A B c e))) (hd_ (MD.new _ _)) (fun V z => ?_)
 generalize hp9 : w.heap.size = p at z ⊢
 generalize hq9 : p + 1 = q at z ⊢
 clear hp9 hq9
 obtain ⟨hpV, x0, x1, x2, x3, x4, x5, x6, x7⟩ := z.out.bx.eight
 go_wp2_with fail
 refine (ret_as (validDeskI_any d A B c e _ (HS.out.below z.out.up.below) HZ.out (HT.out.below z.out.up.below)) HV.out).mono ?_
 rintro r w' ⟨rfl, g1, rfl⟩
 go_wp2_with fail
 refine (HSP.out _).mono ?_
 rintro r w' ⟨AW, cW, rfl, ow, g2, rfl⟩
 have z2 := hd_ (z.out.below (V' := up V (g1.tr g2)) (up_below V _))
 have OW : Hid ((up V (g1.tr g2)).ownsRow (up V g1).heap.size 9 1 (.slice AW W.length cW) W.length (strs W)) := hd_ ow
 have HBV := hd_ (show p < (up V g1).heap.size ∧ q < (up V g1).heap.size ∧ w.heap.size ≤ (up V g1).heap.size from ⟨Nat.lt_of_lt_of_le z.out.bx.lt (up_below V g1).size, Nat.lt_of_lt_of_le z.out.rs.lt (up_below V g1).size, Nat.le_trans z.out.up.below.size (up_below V g1).size⟩)
 generalize (up V g1).heap.size = base at OW HBV
 obtain ⟨bW, oW, eW, hbW, cw⟩ := wd_at (Rds.of_own OW.out) (i := 0) hW1
 subst eW
 have cw0 := cw 0 hW1
 rw [Nat.add_zero] at cw0
 clear ow cw x0 x1 x2 x3 x4 x5 x6 x7 hpV z
 go_upto_region 6 with (go_at_call 28; refine (HWC.out _).mono ?_; rintro r w' ⟨rfl, rfl⟩)
 have HNO := hd_ hno
 have t1' : (L == 0) = false := by rw [beq_eq_false_iff_ne]; omega
 have t2' : decide ((W.length : Int) < L) = false := decide_eq_false (by omega)
 go_cut [46] (fun x U => x = .bool false ∧ Hid (MD w U p q (dkcs d A B c e)) ∧ Hid (U.ownsRow base 9 1 (.slice (some ⟨bW, oW, none⟩) W.length cW) W.length (strs W)))
 case first =>
  by_cases t3 : L < (W.length : Int)
  ·have t3' : decide (L < (W.length : Int)) = true := decide_eq_true t3
   have hM : M = true := hno.2.2.resolve_left (by omega)
   subst hM
   clear hno t3
   go_wp2_with fail
   go_meet
   exact ⟨rfl, z2, OW⟩
  ·have t3' : decide (L < (W.length : Int)) = false := decide_eq_false t3
   clear hno t3
   go_wp2_with fail
   go_meet
   exact ⟨rfl, z2, OW⟩
 case rest =>
  obtain ⟨rfl, z, OW⟩ := hcut
  clear z2 hno t1' t2' cw0
  obtain ⟨hpV, x0, x1, x2, x3, x4, x5, x6, x7⟩ := z.out.bx.eight
  obtain ⟨f0, f1, f2, f3, f4, f5, f6, f7⟩ := z.out.bx.open8
  go_wp2_with fail
  refine (copied_any d A B c e _ (HS.out.below z.out.up.below) HZ.out.s HZ.out.n).mono ?_
  rintro r w' ⟨A1, B1, c1, e1, rfl, hdo, g3, rfl⟩
  have z3 := hd_ (z.out.below (up_below wc g3))
  have HDO := hd_ hdo
  have OW3 := hd_ (own_below OW.out (up_below wc g3))
  have HWS := hd_ (show base ≤ wc.heap.size from by
   have := OW.out.lt bW rfl
   omega)
  clear hdo x0 x1 x2 x3 x4 x5 x6 x7 f0 f1 f2 f3 f4 f5 f6 f7 hpV OW
  obtain ⟨hpV, x0, x1, x2, x3, x4, x5, x6, x7⟩ := z3.out.bx.eight
  obtain ⟨f0, f1, f2, f3, f4, f5, f6, f7⟩ := z3.out.bx.open8
  go_upto_region 10 with (fail)
  obtain ⟨g9, e9⟩ := own_some OW3.out hW1
  injection e9 with e9
  injection e9 with e9a e9 e9b
  clear e9a e9b
  subst e9
  have hpw : p < wc.heap.size := z.out.bx.lt
  have m8 := hd_ (z3.out.put8 (i64 d.b.bars) (i64 d.b.rise) (i64 d.b.fall) (i64 d.b.clr) (i64 d.b.near) (.slice A1 d.stops.length c1) (.slice B1 d.drills.length e1) (.string d.log))
  have o81 := hd_ (own_mono (own_all HDO.out.1 hpw (i64 d.b.bars) (i64 d.b.rise) (i64 d.b.fall) (i64 d.b.clr) (i64 d.b.near) (.slice A1 d.stops.length c1) (.slice B1 d.drills.length e1) (.string d.log)) HWS.out)
  have o82 := hd_ (own_mono (own_all HDO.out.2 hpw (i64 d.b.bars) (i64 d.b.rise) (i64 d.b.fall) (i64 d.b.clr) (i64 d.b.near) (.slice A1 d.stops.length c1) (.slice B1 d.drills.length e1) (.string d.log)) HWS.out)
  have o83 := hd_ (own_all OW3.out HBV.out.1 (i64 d.b.bars) (i64 d.b.rise) (i64 d.b.fall) (i64 d.b.clr) (i64 d.b.near) (.slice A1 d.stops.length c1) (.slice B1 d.drills.length e1) (.string d.log))
  refine wpg (R := fun U => Hid (DC w U p q d A1 B1 c1 e1 base W bW cW)) (hd_ ⟨m8.out.below ((Below.refl _ _).alloc (Nat.le_refl _) _), ⟨o81.out.alloc _, o82.out.alloc _⟩, o83.out.alloc _, HBV.out⟩) (fun U C => ?_)
  clear x0 x1 x2 x3 x4 x5 x6 x7 f0 f1 f2 f3 f4 f5 f6 f7 hpV z3 HDO OW3 z HWS m8 o81 o82 o83
  obtain ⟨q0, q1, q2, q3, q4, q5, q6, q7, q8, q9, q10, q11, q12, q13⟩ := kts HK.out
  simp only [Nat.reduceEqDiff, eq_self, decide_true, decide_false] at q0 q1 q2 q3 q4 q5 q6 q7 q8 q9 q10 q11 q12 q13
  have HTU : Hid (∀ V, Below U.heap.size U V → Tab V) := hd_ fun V hV => (HT.out.below C.out.m.up.below).below hV
  have hbU : base ≤ U.heap.size := by have := C.out.wo.lt bW rfl; omega
  have HPB : Hid (p < base ∧ base ≤ U.heap.size) := hd_ ⟨C.out.hb.1, hbU⟩
  have hbW : bW < U.heap.size := (C.out.wo.lt bW rfl).2
  have hcw : ∀ i, i < W.length → U.cell? ⟨bW, i, none⟩ = some (.string (wd W i)) := fun i hi => by
   obtain ⟨b9, o9, e9, _, hc9⟩ := wd_at (Rds.of_own C.out.wo) hi
   injection e9 with e9
   injection e9 with e91 e92
   subst e91 e92
   have := hc9 i hi
   rwa [Nat.zero_add] at this
  have n1 := hcw 1 (by have := HLEN.out; omega)
  have n2 := hcw 2 (by have := HLEN.out; omega)
  have n3 := hcw 3 (by have := HLEN.out; omega)
  rw [hX1] at n1
  rw [hX2] at n2
  rw [hX3] at n3
  clear hcw
  have z := hd_ C.out.m
  go_upto_region 30 with (fail)
  have HZ1 : Hid (DkSz d e1) := hd_ ⟨HZ.out.s, HZ.out.n, HZ.out.b, HZ.out.l, own_capD C.out.o.2⟩
  rw [HLEN.out]
  have HLX := HLEN
  clear HLEN
  have hC : cel8 U.drew p d A1 B1 c1 e1 ∧ U.drew.cell? ⟨bW, 1, none⟩ = some (.string X1) ∧ U.drew.cell? ⟨bW, 2, none⟩ = some (.string X2) ∧ U.drew.cell? ⟨bW, 3, none⟩ = some (.string X3) := ⟨z.out.cel, n1, n2, n3⟩
  refine wp_region_T (fun U => (U.cell? ⟨p, 0, none⟩ = some (i64 d.b.bars) ∧ U.cell? ⟨p, 1, none⟩ = some (i64 d.b.rise) ∧ U.cell? ⟨p, 2, none⟩ = some (i64 d.b.fall) ∧ U.cell? ⟨p, 3, none⟩ = some (i64 d.b.clr) ∧ U.cell? ⟨p, 4, none⟩ = some (i64 d.b.near) ∧ U.cell? ⟨p, 5, none⟩ = some (.slice A1 d.stops.length c1) ∧ U.cell? ⟨p, 6, none⟩ = some (.slice B1 d.drills.length e1) ∧ U.cell? ⟨p, 7, none⟩ = some (.string d.log)) ∧ U.cell? ⟨bW, 1, none⟩ = some (.string X1) ∧ U.cell? ⟨bW, 2, none⟩ = some (.string X2) ∧ U.cell? ⟨bW, 3, none⟩ = some (.string X3)) 14 (by kernel_rfl) ?_
  refine wtl 0 (hC) ?_
  refine wtp 1 (fun _ => hC) ?_
  refine wtp 2 (fun _ => hC) ?_
  refine wtl 3 (hC) ?_
  refine wtp 4 (fun _ => hC) ?_
  refine wtp 5 (fun _ => hC) ?_
  refine wtl 6 (hC) ?_
  refine wtp 7 (fun _ => hC) ?_
  refine wtp 8 (fun _ => hC) ?_
  refine wtl 9 (hC) ?_
  refine wto 10 fun K hK => ?_
  go_simp
  have hpb : ∀ gx : Up U.drew, (up U.drew gx).cell? ⟨bW, 1, none⟩ = some (.string X1) ∧ (up U.drew gx).cell? ⟨bW, 2, none⟩ = some (.string X2) ∧ (up U.drew gx).cell? ⟨bW, 3, none⟩ = some (.string X3) := fun gx => ⟨((up_below U.drew gx).cell (p := ⟨bW, 1, none⟩) hbW).trans n1, ((up_below U.drew gx).cell (p := ⟨bW, 2, none⟩) hbW).trans n2, ((up_below U.drew gx).cell (p := ⟨bW, 3, none⟩) hbW).trans n3⟩
  go_at_call 38
  refine (HNP.out base A1 B1 c1 e1 U.drew (HTU.out _ bw_) HZ1.out ⟨own_below C.out.o.1 bw_, own_below C.out.o.2 bw_⟩ HPB.out.2).mono ?_
  rintro r w' ⟨A2, B2, c2, e2, X, n, rfl, do2, ox2, gx, rfl⟩
  have C2 := hd_ (C.out.m.below (V' := up U.drew gx) (bl_up (Below.drew (Below.refl _ _)) gx))
  have DO2 := hd_ do2
  have OX2 := hd_ ox2
  clear do2 ox2
  obtain ⟨hpV, x0, x1, x2, x3, x4, x5, x6, x7⟩ := C2.out.bx.eight
  obtain ⟨f0, f1, f2, f3, f4, f5, f6, f7⟩ := C2.out.bx.open8
  refine hK.out _ _ (fun _ => ⟨C2.out.cel, hpb gx⟩) (wtn ?_)
  clear hK K
  refine wtp 11 (fun _ => ⟨C2.out.cel, hpb gx⟩) ?_
  refine wtp 12 (fun _ => ⟨C2.out.cel, hpb gx⟩) ?_
  refine wtp 13 (fun _ => ⟨C2.out.cel, hpb gx⟩) ?_
  refine wto 14 fun K hK => ?_
  go_simp
  refine hK.out _ _ tf_ (wtn ?_)
  clear hK K
  refine wtp 15 tf_ ?_
  refine wtd ?_
  refine exit_genD (R := fun U1 => Hid (MD w U1 p q (dkcs D2 A2 B2 c2 e2)) ∧ Hid (DOwn base U1 D2 A2 B2 c2 e2) ∧ Hid (U1.ownsRow base 9 1 (.slice X L2.length n) L2.length (strs L2))) ⟨hd_ (C2.out.put8 _ _ _ _ _ _ _ _), hd_ ⟨own_all DO2.out.1 HPB.out.1 _ _ _ _ _ _ _ _, own_all DO2.out.2 HPB.out.1 _ _ _ _ _ _ _ _⟩, hd_ (own_all OX2.out HPB.out.1 _ _ _ _ _ _ _ _)⟩ (fun U1 y => ?_)
  obtain ⟨z, DO, OX⟩ := y
  clear C2 DO2 OX2 C
  obtain ⟨hpV, x0, x1, x2, x3, x4, x5, x6, x7⟩ := z.out.bx.eight
  obtain ⟨hqT, r0, r1, r2, r3, r4, r5, r6, r7⟩ := z.out.rs.eight
  obtain ⟨f0, f1, f2, f3, f4, f5, f6, f7⟩ := z.out.rs.open8
  go_wp2_with fail
  refine post_gen (R := fun W => Blk W q 31 (dkcs (D2) A2 B2 c2 e2) ∧ DOwn w.heap.size W (D2) A2 B2 c2 e2 ∧ W.ownsRow w.heap.size 9 1 (.slice X L2.length n) L2.length (strs (L2)) ∧ UpOf w W) ⟨blk_put8 z.out.rs _ _ _ _ _ _ _ _, ⟨own_mono (own_all DO.out.1 HBV.out.2.1 _ _ _ _ _ _ _ _) HBV.out.2.2, own_mono (own_all DO.out.2 HBV.out.2.1 _ _ _ _ _ _ _ _) HBV.out.2.2⟩, own_mono (own_all OX.out HBV.out.2.1 _ _ _ _ _ _ _ _) HBV.out.2.2, put8_up z.out.up z.out.hq _ _ _ _ _ _ _ _⟩ (fun W st => ?_)
  obtain ⟨s1, s4, s2, s3⟩ := st
  obtain ⟨hqW, w0, w1, w2, w3, w4, w5, w6, w7⟩ := s1.eight
  clear s1 r0 r1 r2 r3 r4 r5 r6 r7 f0 f1 f2 f3 f4 f5 f6 f7 x0 x1 x2 x3 x4 x5 x6 x7
  exact bodyPost_ret (v := .tuple #[dkv (D2) A2 B2 c2 e2, .slice X L2.length n, i64 0]) (by simp [results, Tryz.results9, go_sem, hqW, w0, w1, w2, w3, w4, w5, w6, w7]) rfl ⟨_, _, _, _, _, _, rfl, s4, s2, s3⟩
theorem dcK7_any {two : List ByteArray → ByteArray × Int} (h2 : TwoOk two) (d : DeskD) (A B : Option Addr) (c e : Nat) (s : ByteArray) (w : World) (W : List ByteArray) (hs : s.size ≤ 1048576) (hS : DSee w d A B) (hz : DkSz d e) (hv : vDesk d = true) (ht : Tab w) (hW : splitA 32 [] s.data.toList = W)
  (hf : fitK (kindOf (wd W 0)) W.length = true) (hk : kindOf (wd W 0) = 7) :
  Calls Tryz.prog 9 #[dkv d A B c e, .string s] w fun r w' => dcYes d (lineR d.drills (wd W 1) (wd W 2)) w r w' := by
 have HK := hd_ hk
 have HLEN := hd_ (show W.length = 3 by rw [hk] at hf; simpa [fitK] using hf)
 have HWS9 := hd_ (show ∀ i, i < W.length → (wd W i).size ≤ 1048576 from fun i hi => by
  have := split_size 32 s.data.toList [] (wd W i) (by rw [hW, ← wd_eq hi]; exact List.getElem_mem hi)
  rw [bsz] at this
  simp at this
  omega)
 obtain ⟨R, hR⟩ : ∃ R, lineR d.drills (wd W 1) (wd W 2) = R := ⟨_, rfl⟩
 obtain ⟨X1, hX1⟩ : ∃ X, wd W 1 = X := ⟨_, rfl⟩
 obtain ⟨X2, hX2⟩ : ∃ X, wd W 2 = X := ⟨_, rfl⟩
 have HAT : Hid (∀ (A1 B1 : Option Addr) (c1 e1 : Nat) (V : World), DSee V d A1 B1 → DkSz d e1 → Tab V → Calls Tryz.prog 37 #[dkv d A1 B1 c1 e1, .string X1, .string X2] V fun r w' => txPost R V r w') := hd_ fun A1 B1 c1 e1 V h1 h2 h3 => by
  have := drillLineC_any d A1 B1 c1 e1 (wd W 1) (wd W 2) V h1 h2 (HWS9.out 2 (by have := HLEN.out; omega)) h3
  rw [hR, hX1, hX2] at this
  exact this
 rw [hR]
 clear hR
 clear hk
 have HS := hd_ hS
 have HZ := hd_ hz
 have HV := hd_ hv
 have HT := hd_ ht
 have HSP : Hid (∀ V, Calls Tryz.prog 27 #[.string s, .int .i64 ((s.size : Int) + 2)] V fun e w' => txPost W V e w') := hd_ fun V => by
  have := splitAt_any s (s.size + 1) V (by omega) (by omega)
  rw [spl_all, hW, show (((s.size + 1 : Nat) : Int) + 1) = (s.size : Int) + 2 by omega] at this
  exact this
 have hW1 : 0 < W.length := by rw [← hW]; exact List.length_pos_iff.2 (splitA_ne 32 _ _)
 have hWl : W.length ≤ 2000000 := by
  have := split_len 32 s.data.toList []
  rw [hW, bsz] at this
  omega
 have hno := fit_yes (kind_le _) hf
 obtain ⟨L, hL⟩ : ∃ L, (wcR (kindOf (wd W 0))).1 = L := ⟨_, rfl⟩
 obtain ⟨M, hM⟩ : ∃ M, (wcR (kindOf (wd W 0))).2 = M := ⟨_, rfl⟩
 have HWC : Hid (∀ V, Calls Tryz.prog 28 #[.string (wd W 0)] V fun e w' => e = .returned (.tuple #[i64 L, .bool M]) ∧ V = w') := hd_ fun V => by
  have := wordCounts_any (wd W 0) V
  rw [hL, hM] at this
  exact this
 rw [hL, hM] at hno
 clear hS hz hv ht hW hf hL hM
 go_enter Tryz.func9, Tryz.ntmps9
 go_upto_region 1 with (fail)
 refine wpg (R := fun V => Hid (MD w V w.heap.size (w.heap.size + 1) (dkcs d A B c e))) (hd_ (MD.new _ _)) (fun V z => ?_)
 generalize hp9 : w.heap.size = p at z ⊢
 generalize hq9 : p + 1 = q at z ⊢
 clear hp9 hq9
 obtain ⟨hpV, x0, x1, x2, x3, x4, x5, x6, x7⟩ := z.out.bx.eight
 go_wp2_with fail
 refine (ret_as (validDeskI_any d A B c e _ (HS.out.below z.out.up.below) HZ.out (HT.out.below z.out.up.below)) HV.out).mono ?_
 rintro r w' ⟨rfl, g1, rfl⟩
 go_wp2_with fail
 refine (HSP.out _).mono ?_
 rintro r w' ⟨AW, cW, rfl, ow, g2, rfl⟩
 have z2 := hd_ (z.out.below (V' := up V (g1.tr g2)) (up_below V _))
 have OW : Hid ((up V (g1.tr g2)).ownsRow (up V g1).heap.size 9 1 (.slice AW W.length cW) W.length (strs W)) := hd_ ow
 have HBV := hd_ (show p < (up V g1).heap.size ∧ q < (up V g1).heap.size ∧ w.heap.size ≤ (up V g1).heap.size from ⟨Nat.lt_of_lt_of_le z.out.bx.lt (up_below V g1).size, Nat.lt_of_lt_of_le z.out.rs.lt (up_below V g1).size, Nat.le_trans z.out.up.below.size (up_below V g1).size⟩)
 generalize (up V g1).heap.size = base at OW HBV
 obtain ⟨bW, oW, eW, hbW, cw⟩ := wd_at (Rds.of_own OW.out) (i := 0) hW1
 subst eW
 have cw0 := cw 0 hW1
 rw [Nat.add_zero] at cw0
 clear ow cw x0 x1 x2 x3 x4 x5 x6 x7 hpV z
 go_upto_region 6 with (go_at_call 28; refine (HWC.out _).mono ?_; rintro r w' ⟨rfl, rfl⟩)
 have HNO := hd_ hno
 have t1' : (L == 0) = false := by rw [beq_eq_false_iff_ne]; omega
 have t2' : decide ((W.length : Int) < L) = false := decide_eq_false (by omega)
 go_cut [46] (fun x U => x = .bool false ∧ Hid (MD w U p q (dkcs d A B c e)) ∧ Hid (U.ownsRow base 9 1 (.slice (some ⟨bW, oW, none⟩) W.length cW) W.length (strs W)))
 case first =>
  by_cases t3 : L < (W.length : Int)
  ·have t3' : decide (L < (W.length : Int)) = true := decide_eq_true t3
   have hM : M = true := hno.2.2.resolve_left (by omega)
   subst hM
   clear hno t3
   go_wp2_with fail
   go_meet
   exact ⟨rfl, z2, OW⟩
  ·have t3' : decide (L < (W.length : Int)) = false := decide_eq_false t3
   clear hno t3
   go_wp2_with fail
   go_meet
   exact ⟨rfl, z2, OW⟩
 case rest =>
  obtain ⟨rfl, z, OW⟩ := hcut
  clear z2 hno t1' t2' cw0
  obtain ⟨hpV, x0, x1, x2, x3, x4, x5, x6, x7⟩ := z.out.bx.eight
  obtain ⟨f0, f1, f2, f3, f4, f5, f6, f7⟩ := z.out.bx.open8
  go_wp2_with fail
  refine (copied_any d A B c e _ (HS.out.below z.out.up.below) HZ.out.s HZ.out.n).mono ?_
  rintro r w' ⟨A1, B1, c1, e1, rfl, hdo, g3, rfl⟩
  have z3 := hd_ (z.out.below (up_below wc g3))
  have HDO := hd_ hdo
  have OW3 := hd_ (own_below OW.out (up_below wc g3))
  have HWS := hd_ (show base ≤ wc.heap.size from by
   have := OW.out.lt bW rfl
   omega)
  clear hdo x0 x1 x2 x3 x4 x5 x6 x7 f0 f1 f2 f3 f4 f5 f6 f7 hpV OW
  obtain ⟨hpV, x0, x1, x2, x3, x4, x5, x6, x7⟩ := z3.out.bx.eight
  obtain ⟨f0, f1, f2, f3, f4, f5, f6, f7⟩ := z3.out.bx.open8
  go_upto_region 10 with (fail)
  obtain ⟨g9, e9⟩ := own_some OW3.out hW1
  injection e9 with e9
  injection e9 with e9a e9 e9b
  clear e9a e9b
  subst e9
  have hpw : p < wc.heap.size := z.out.bx.lt
  have m8 := hd_ (z3.out.put8 (i64 d.b.bars) (i64 d.b.rise) (i64 d.b.fall) (i64 d.b.clr) (i64 d.b.near) (.slice A1 d.stops.length c1) (.slice B1 d.drills.length e1) (.string d.log))
  have o81 := hd_ (own_mono (own_all HDO.out.1 hpw (i64 d.b.bars) (i64 d.b.rise) (i64 d.b.fall) (i64 d.b.clr) (i64 d.b.near) (.slice A1 d.stops.length c1) (.slice B1 d.drills.length e1) (.string d.log)) HWS.out)
  have o82 := hd_ (own_mono (own_all HDO.out.2 hpw (i64 d.b.bars) (i64 d.b.rise) (i64 d.b.fall) (i64 d.b.clr) (i64 d.b.near) (.slice A1 d.stops.length c1) (.slice B1 d.drills.length e1) (.string d.log)) HWS.out)
  have o83 := hd_ (own_all OW3.out HBV.out.1 (i64 d.b.bars) (i64 d.b.rise) (i64 d.b.fall) (i64 d.b.clr) (i64 d.b.near) (.slice A1 d.stops.length c1) (.slice B1 d.drills.length e1) (.string d.log))
  refine wpg (R := fun U => Hid (DC w U p q d A1 B1 c1 e1 base W bW cW)) (hd_ ⟨m8.out.below ((Below.refl _ _).alloc (Nat.le_refl _) _), ⟨o81.out.alloc _, o82.out.alloc _⟩, o83.out.alloc _, HBV.out⟩) (fun U C => ?_)
  clear x0 x1 x2 x3 x4 x5 x6 x7 f0 f1 f2 f3 f4 f5 f6 f7 hpV z3 HDO OW3 z HWS m8 o81 o82 o83
  obtain ⟨q0, q1, q2, q3, q4, q5, q6, q7, q8, q9, q10, q11, q12, q13⟩ := kts HK.out
  simp only [Nat.reduceEqDiff, eq_self, decide_true, decide_false] at q0 q1 q2 q3 q4 q5 q6 q7 q8 q9 q10 q11 q12 q13
  have HTU : Hid (∀ V, Below U.heap.size U V → Tab V) := hd_ fun V hV => (HT.out.below C.out.m.up.below).below hV
  have hbU : base ≤ U.heap.size := by have := C.out.wo.lt bW rfl; omega
  have HPB : Hid (p < base ∧ base ≤ U.heap.size) := hd_ ⟨C.out.hb.1, hbU⟩
  have hbW : bW < U.heap.size := (C.out.wo.lt bW rfl).2
  have hcw : ∀ i, i < W.length → U.cell? ⟨bW, i, none⟩ = some (.string (wd W i)) := fun i hi => by
   obtain ⟨b9, o9, e9, _, hc9⟩ := wd_at (Rds.of_own C.out.wo) hi
   injection e9 with e9
   injection e9 with e91 e92
   subst e91 e92
   have := hc9 i hi
   rwa [Nat.zero_add] at this
  have n1 := hcw 1 (by have := HLEN.out; omega)
  have n2 := hcw 2 (by have := HLEN.out; omega)
  rw [hX1] at n1
  rw [hX2] at n2
  clear hcw
  go_upto_region 28 with (fail)
  rw [HLEN.out]
  have HLX := HLEN
  clear HLEN
  have hpU : p < U.heap.size := by have := HPB.out; omega
  obtain ⟨hpV, x0, x1, x2, x3, x4, x5, x6, x7⟩ := C.out.m.bx.eight
  have HZ1 : Hid (DkSz d e1) := hd_ ⟨HZ.out.s, HZ.out.n, HZ.out.b, HZ.out.l, own_capD C.out.o.2⟩
  have HS1 : Hid (∀ V, Below U.heap.size U V → DSee V d A1 B1) := hd_ fun V hV => (DOwn.see C.out.o).below hV
  go_region_held3 (fun w' => (U).heap.size ≤ w'.heap.size ∧ ∀ b o, b < (U).heap.size → w'.cell? ⟨b, o, none⟩ = (U).cell? ⟨b, o, none⟩) (exact sm_of bw_) (first | (go_at_call 37; refine (HAT.out A1 B1 c1 e1 _ (HS1.out _ bw_) HZ1.out (HTU.out _ bw_)).mono ?_; rintro r w' ⟨X, n, rfl, ox, gx, rfl⟩))
  clear x0 x1 x2 x3 x4 x5 x6 x7
  have C2 := hd_ (C.out.below (V := up U.drew (gx)) bw_)
  have hbU3 : base ≤ (U.drew).heap.size := Nat.le_trans hbU (show Below U.heap.size U (U.drew) from bw_).size
  have OX : Hid ((up U.drew (gx)).ownsRow base 9 1 (.slice X (R).length n) (R).length (strs R)) := hd_ (own_mono ox hbU3)
  refine exit_genD (R := fun U1 => Hid (DC w U1 p q d A1 B1 c1 e1 base W bW cW) ∧ Hid (U1.ownsRow base 9 1 (.slice X (R).length n) (R).length (strs R))) ⟨C2, OX⟩ (fun U1 y => ?_)
  obtain ⟨C3, OX1⟩ := y
  have z := hd_ C3.out.m
  have DO := hd_ C3.out.o
  clear ox C C2 n1 n2 OX hbU3
  have OX := OX1
  obtain ⟨hpV, x0, x1, x2, x3, x4, x5, x6, x7⟩ := z.out.bx.eight
  obtain ⟨hqT, r0, r1, r2, r3, r4, r5, r6, r7⟩ := z.out.rs.eight
  obtain ⟨f0, f1, f2, f3, f4, f5, f6, f7⟩ := z.out.rs.open8
  go_wp2_with fail
  refine post_gen (R := fun W => Blk W q 31 (dkcs (d) A1 B1 c1 e1) ∧ DOwn w.heap.size W (d) A1 B1 c1 e1 ∧ W.ownsRow w.heap.size 9 1 (.slice X R.length n) R.length (strs (R)) ∧ UpOf w W) ⟨blk_put8 z.out.rs _ _ _ _ _ _ _ _, ⟨own_mono (own_all DO.out.1 HBV.out.2.1 _ _ _ _ _ _ _ _) HBV.out.2.2, own_mono (own_all DO.out.2 HBV.out.2.1 _ _ _ _ _ _ _ _) HBV.out.2.2⟩, own_mono (own_all OX.out HBV.out.2.1 _ _ _ _ _ _ _ _) HBV.out.2.2, put8_up z.out.up z.out.hq _ _ _ _ _ _ _ _⟩ (fun W st => ?_)
  obtain ⟨s1, s4, s2, s3⟩ := st
  obtain ⟨hqW, w0, w1, w2, w3, w4, w5, w6, w7⟩ := s1.eight
  clear s1 r0 r1 r2 r3 r4 r5 r6 r7 f0 f1 f2 f3 f4 f5 f6 f7 x0 x1 x2 x3 x4 x5 x6 x7
  exact bodyPost_ret (v := .tuple #[dkv (d) A1 B1 c1 e1, .slice X R.length n, i64 0]) (by simp [results, Tryz.results9, go_sem, hqW, w0, w1, w2, w3, w4, w5, w6, w7]) rfl ⟨_, _, _, _, _, _, rfl, s4, s2, s3⟩
theorem dcK11_any {two : List ByteArray → ByteArray × Int} (h2 : TwoOk two) (d : DeskD) (A B : Option Addr) (c e : Nat) (s : ByteArray) (w : World) (W : List ByteArray) (hs : s.size ≤ 1048576) (hS : DSee w d A B) (hz : DkSz d e) (hv : vDesk d = true) (ht : Tab w) (hW : splitA 32 [] s.data.toList = W)
  (hf : fitK (kindOf (wd W 0)) W.length = true) (hk : kindOf (wd W 0) = 11) :
  Calls Tryz.prog 9 #[dkv d A B c e, .string s] w fun r w' => dcYes d (if numB (wd W 1) then sent (setR (wordsA [] (restW W 2).data.toList) (sval (wd W 1))) else [errL 7]) w r w' := by
 have HK := hd_ hk
 have HLEN := hd_ (show 3 ≤ W.length by rw [hk] at hf; simpa [fitK] using hf)
 have HWS9 := hd_ (show ∀ i, i < W.length → (wd W i).size ≤ 1048576 from fun i hi => by
  have := split_size 32 s.data.toList [] (wd W i) (by rw [hW, ← wd_eq hi]; exact List.getElem_mem hi)
  rw [bsz] at this
  simp at this
  omega)
 obtain ⟨R, hR⟩ : ∃ R, (if numB (wd W 1) then sent (setR (wordsA [] (restW W 2).data.toList) (sval (wd W 1))) else [errL 7]) = R := ⟨_, rfl⟩
 have HRW : Hid ((restW W 2).size ≤ 1048576) := hd_ (by
  have := restW_size hW (m := 2) (by have := HLEN.out; omega)
  rw [bsz] at this
  omega)
 obtain ⟨RW, hRW⟩ : ∃ X, restW W 2 = X := ⟨_, rfl⟩
 obtain ⟨X1, hX1⟩ : ∃ X, wd W 1 = X := ⟨_, rfl⟩
 have HSQ : Hid (∀ V, Calls Tryz.prog 27 #[.string s, i64 3] V fun e w' => ∃ b n, e = .returned (.slice (some ⟨b, 0, none⟩) 3 n) ∧ w'.cell? ⟨b, 2, none⟩ = some (.string RW) ∧ UpOf V w') := hd_ fun V => by
  have := splRest_any hs hW (m := 2) (by have := HLEN.out; omega) (by omega) V
  rw [hRW] at this
  exact this
 have HAT : Hid (∀ (A1 B1 : Option Addr) (c1 e1 : Nat) (V : World), Tab V → Calls Tryz.prog 32 #[dkv d A1 B1 c1 e1, .string X1, .string RW] V fun r w' => txPost R V r w') := hd_ fun A1 B1 c1 e1 V h3 => by
  have := setLineOf_any d A1 B1 c1 e1 (wd W 1) (restW W 2) V (HWS9.out 1 (by have := HLEN.out; omega)) HRW.out h3
  rw [hR, hX1, hRW] at this
  exact this
 rw [hR]
 have HRZ := HRW
 clear hR HRW
 clear hk
 have HS := hd_ hS
 have HZ := hd_ hz
 have HV := hd_ hv
 have HT := hd_ ht
 have HSP : Hid (∀ V, Calls Tryz.prog 27 #[.string s, .int .i64 ((s.size : Int) + 2)] V fun e w' => txPost W V e w') := hd_ fun V => by
  have := splitAt_any s (s.size + 1) V (by omega) (by omega)
  rw [spl_all, hW, show (((s.size + 1 : Nat) : Int) + 1) = (s.size : Int) + 2 by omega] at this
  exact this
 have hW1 : 0 < W.length := by rw [← hW]; exact List.length_pos_iff.2 (splitA_ne 32 _ _)
 have hWl : W.length ≤ 2000000 := by
  have := split_len 32 s.data.toList []
  rw [hW, bsz] at this
  omega
 have hno := fit_yes (kind_le _) hf
 obtain ⟨L, hL⟩ : ∃ L, (wcR (kindOf (wd W 0))).1 = L := ⟨_, rfl⟩
 obtain ⟨M, hM⟩ : ∃ M, (wcR (kindOf (wd W 0))).2 = M := ⟨_, rfl⟩
 have HWC : Hid (∀ V, Calls Tryz.prog 28 #[.string (wd W 0)] V fun e w' => e = .returned (.tuple #[i64 L, .bool M]) ∧ V = w') := hd_ fun V => by
  have := wordCounts_any (wd W 0) V
  rw [hL, hM] at this
  exact this
 rw [hL, hM] at hno
 clear hS hz hv ht hW hf hL hM
 go_enter Tryz.func9, Tryz.ntmps9
 go_upto_region 1 with (fail)
 refine wpg (R := fun V => Hid (MD w V w.heap.size (w.heap.size + 1) (dkcs d A B c e))) (hd_ (MD.new _ _)) (fun V z => ?_)
 generalize hp9 : w.heap.size = p at z ⊢
 generalize hq9 : p + 1 = q at z ⊢
 clear hp9 hq9
 obtain ⟨hpV, x0, x1, x2, x3, x4, x5, x6, x7⟩ := z.out.bx.eight
 go_wp2_with fail
 refine (ret_as (validDeskI_any d A B c e _ (HS.out.below z.out.up.below) HZ.out (HT.out.below z.out.up.below)) HV.out).mono ?_
 rintro r w' ⟨rfl, g1, rfl⟩
 go_wp2_with fail
 refine (HSP.out _).mono ?_
 rintro r w' ⟨AW, cW, rfl, ow, g2, rfl⟩
 have z2 := hd_ (z.out.below (V' := up V (g1.tr g2)) (up_below V _))
 have OW : Hid ((up V (g1.tr g2)).ownsRow (up V g1).heap.size 9 1 (.slice AW W.length cW) W.length (strs W)) := hd_ ow
 have HBV := hd_ (show p < (up V g1).heap.size ∧ q < (up V g1).heap.size ∧ w.heap.size ≤ (up V g1).heap.size from ⟨Nat.lt_of_lt_of_le z.out.bx.lt (up_below V g1).size, Nat.lt_of_lt_of_le z.out.rs.lt (up_below V g1).size, Nat.le_trans z.out.up.below.size (up_below V g1).size⟩)
 generalize (up V g1).heap.size = base at OW HBV
 obtain ⟨bW, oW, eW, hbW, cw⟩ := wd_at (Rds.of_own OW.out) (i := 0) hW1
 subst eW
 have cw0 := cw 0 hW1
 rw [Nat.add_zero] at cw0
 clear ow cw x0 x1 x2 x3 x4 x5 x6 x7 hpV z
 go_upto_region 6 with (go_at_call 28; refine (HWC.out _).mono ?_; rintro r w' ⟨rfl, rfl⟩)
 have HNO := hd_ hno
 have t1' : (L == 0) = false := by rw [beq_eq_false_iff_ne]; omega
 have t2' : decide ((W.length : Int) < L) = false := decide_eq_false (by omega)
 go_cut [46] (fun x U => x = .bool false ∧ Hid (MD w U p q (dkcs d A B c e)) ∧ Hid (U.ownsRow base 9 1 (.slice (some ⟨bW, oW, none⟩) W.length cW) W.length (strs W)))
 case first =>
  by_cases t3 : L < (W.length : Int)
  ·have t3' : decide (L < (W.length : Int)) = true := decide_eq_true t3
   have hM : M = true := hno.2.2.resolve_left (by omega)
   subst hM
   clear hno t3
   go_wp2_with fail
   go_meet
   exact ⟨rfl, z2, OW⟩
  ·have t3' : decide (L < (W.length : Int)) = false := decide_eq_false t3
   clear hno t3
   go_wp2_with fail
   go_meet
   exact ⟨rfl, z2, OW⟩
 case rest =>
  obtain ⟨rfl, z, OW⟩ := hcut
  clear z2 hno t1' t2' cw0
  obtain ⟨hpV, x0, x1, x2, x3, x4, x5, x6, x7⟩ := z.out.bx.eight
  obtain ⟨f0, f1, f2, f3, f4, f5, f6, f7⟩ := z.out.bx.open8
  go_wp2_with fail
  refine (copied_any d A B c e _ (HS.out.below z.out.up.below) HZ.out.s HZ.out.n).mono ?_
  rintro r w' ⟨A1, B1, c1, e1, rfl, hdo, g3, rfl⟩
  have z3 := hd_ (z.out.below (up_below wc g3))
  have HDO := hd_ hdo
  have OW3 := hd_ (own_below OW.out (up_below wc g3))
  have HWS := hd_ (show base ≤ wc.heap.size from by
   have := OW.out.lt bW rfl
   omega)
  clear hdo x0 x1 x2 x3 x4 x5 x6 x7 f0 f1 f2 f3 f4 f5 f6 f7 hpV OW
  obtain ⟨hpV, x0, x1, x2, x3, x4, x5, x6, x7⟩ := z3.out.bx.eight
  obtain ⟨f0, f1, f2, f3, f4, f5, f6, f7⟩ := z3.out.bx.open8
  go_upto_region 10 with (fail)
  obtain ⟨g9, e9⟩ := own_some OW3.out hW1
  injection e9 with e9
  injection e9 with e9a e9 e9b
  clear e9a e9b
  subst e9
  have hpw : p < wc.heap.size := z.out.bx.lt
  have m8 := hd_ (z3.out.put8 (i64 d.b.bars) (i64 d.b.rise) (i64 d.b.fall) (i64 d.b.clr) (i64 d.b.near) (.slice A1 d.stops.length c1) (.slice B1 d.drills.length e1) (.string d.log))
  have o81 := hd_ (own_mono (own_all HDO.out.1 hpw (i64 d.b.bars) (i64 d.b.rise) (i64 d.b.fall) (i64 d.b.clr) (i64 d.b.near) (.slice A1 d.stops.length c1) (.slice B1 d.drills.length e1) (.string d.log)) HWS.out)
  have o82 := hd_ (own_mono (own_all HDO.out.2 hpw (i64 d.b.bars) (i64 d.b.rise) (i64 d.b.fall) (i64 d.b.clr) (i64 d.b.near) (.slice A1 d.stops.length c1) (.slice B1 d.drills.length e1) (.string d.log)) HWS.out)
  have o83 := hd_ (own_all OW3.out HBV.out.1 (i64 d.b.bars) (i64 d.b.rise) (i64 d.b.fall) (i64 d.b.clr) (i64 d.b.near) (.slice A1 d.stops.length c1) (.slice B1 d.drills.length e1) (.string d.log))
  refine wpg (R := fun U => Hid (DC w U p q d A1 B1 c1 e1 base W bW cW)) (hd_ ⟨m8.out.below ((Below.refl _ _).alloc (Nat.le_refl _) _), ⟨o81.out.alloc _, o82.out.alloc _⟩, o83.out.alloc _, HBV.out⟩) (fun U C => ?_)
  clear x0 x1 x2 x3 x4 x5 x6 x7 f0 f1 f2 f3 f4 f5 f6 f7 hpV z3 HDO OW3 z HWS m8 o81 o82 o83
  obtain ⟨q0, q1, q2, q3, q4, q5, q6, q7, q8, q9, q10, q11, q12, q13⟩ := kts HK.out
  simp only [Nat.reduceEqDiff, eq_self, decide_true, decide_false] at q0 q1 q2 q3 q4 q5 q6 q7 q8 q9 q10 q11 q12 q13
  have HTU : Hid (∀ V, Below U.heap.size U V → Tab V) := hd_ fun V hV => (HT.out.below C.out.m.up.below).below hV
  have hbU : base ≤ U.heap.size := by have := C.out.wo.lt bW rfl; omega
  have HPB : Hid (p < base ∧ base ≤ U.heap.size) := hd_ ⟨C.out.hb.1, hbU⟩
  have HCW : Hid (∀ V, DC w V p q d A1 B1 c1 e1 base W bW cW → V.cell? ⟨bW, 1, none⟩ = some (.string X1)) := hd_ fun V hV => by
   have h1W : 1 < W.length := by have := HLEN.out; omega
   obtain ⟨b9, o9, e9, _, hc9⟩ := wd_at (Rds.of_own hV.wo) h1W
   injection e9 with e9
   injection e9 with e91 e92
   subst e91 e92
   have := hc9 1 h1W
   rwa [Nat.zero_add, hX1] at this
  have hl1 : (1 : Int) < W.length := by have := HLEN.out; omega
  have z := hd_ C.out.m
  go_upto_region 22 with (fail)
  have hC : cel8 U.drew p d A1 B1 c1 e1 ∧ U.drew.cell? ⟨bW, 1, none⟩ = some (.string X1) := ⟨z.out.cel, HCW.out U C.out⟩
  refine wp_region_T (fun U => (U.cell? ⟨p, 0, none⟩ = some (i64 d.b.bars) ∧ U.cell? ⟨p, 1, none⟩ = some (i64 d.b.rise) ∧ U.cell? ⟨p, 2, none⟩ = some (i64 d.b.fall) ∧ U.cell? ⟨p, 3, none⟩ = some (i64 d.b.clr) ∧ U.cell? ⟨p, 4, none⟩ = some (i64 d.b.near) ∧ U.cell? ⟨p, 5, none⟩ = some (.slice A1 d.stops.length c1) ∧ U.cell? ⟨p, 6, none⟩ = some (.slice B1 d.drills.length e1) ∧ U.cell? ⟨p, 7, none⟩ = some (.string d.log)) ∧ U.cell? ⟨bW, 1, none⟩ = some (.string X1)) 9 (by kernel_rfl) ?_
  refine wtl 0 (hC) ?_
  refine wtp 1 (fun _ => hC) ?_
  refine wtp 2 (fun _ => hC) ?_
  refine wtl 3 (hC) ?_
  refine wtp 4 (fun _ => hC) ?_
  refine wto 5 fun K hK => ?_
  go_simp
  go_at_call 27
  refine (HSQ.out _).mono ?_
  rintro r w' ⟨bS, nS, rfl, hcS, gS, rfl⟩
  have C4 := hd_ (C.out.below (V := up U.drew gS) (bl_up (Below.drew (Below.refl _ _)) gS))
  have HPB4 := hd_ (show p < base ∧ base ≤ (up U.drew gS).heap.size from ⟨HPB.out.1, Nat.le_trans HPB.out.2 (show Below U.heap.size U (up U.drew gS) from bw_).size⟩)
  have HTU4 : Hid (∀ V, Below (up U.drew gS).heap.size (up U.drew gS) V → Tab V) := hd_ fun V hV => (HT.out.below C4.out.m.up.below).below hV
  refine hK.out _ _ (fun _ => ⟨C4.out.m.cel, HCW.out _ C4.out⟩) (wtn ?_)
  clear hK K
  refine wpAnyT_gen (R := fun U1 => Hid (DC w U1 p q d A1 B1 c1 e1 base W bW cW) ∧ U1.cell? ⟨bS, 2, none⟩ = some (.string RW) ∧ Hid (p < base ∧ base ≤ U1.heap.size) ∧ Hid (∀ V, Below U1.heap.size U1 V → Tab V)) ⟨C4, hcS, HPB4, HTU4⟩ (fun U1 y => ?_)
  clear C4 hcS HPB4 HTU4 hC z HTU HPB hbU C
  obtain ⟨C, m1, HPB, HTU⟩ := y
  have hC : cel8 U1 p d A1 B1 c1 e1 ∧ U1.cell? ⟨bW, 1, none⟩ = some (.string X1) := ⟨C.out.m.cel, HCW.out U1 C.out⟩
  refine wtp 6 (fun _ => hC) ?_
  refine wto 7 fun K hK => ?_
  go_simp
  refine hK.out _ _ (fun _ => hC) (wtn ?_)
  clear hK K
  refine wto 8 fun K hK => ?_
  go_simp
  go_at_call 32
  refine (HAT.out A1 B1 c1 e1 _ (HTU.out _ (Below.refl _ _))).mono ?_
  rintro r w' ⟨X, n, rfl, ox, gx, rfl⟩
  have C2 := hd_ (C.out.below (V := up U1 gx) (bl_up (Below.refl _ _) gx))
  have OX2 : Hid ((up U1 gx).ownsRow base 9 1 (.slice X R.length n) R.length (strs R)) := hd_ (own_mono ox HPB.out.2)
  refine hK.out _ _ (fun _ => ⟨C2.out.m.cel, HCW.out _ C2.out⟩) (wtn ?_)
  clear hK K
  refine wto 9 fun K hK => ?_
  go_simp
  refine hK.out _ _ tf_ (wtn ?_)
  clear hK K
  refine wpAnyT_done (by kernel_rfl) ?_ _
  (try simp only [Act.put, List.getElem_toArray, List.getElem_cons_succ, List.getElem_cons_zero, List.setIfInBounds_toArray, List.set_cons_zero, List.set_cons_succ])
  refine exit_genD (R := fun U1 => Hid (DC w U1 p q d A1 B1 c1 e1 base W bW cW) ∧ Hid (U1.ownsRow base 9 1 (.slice X R.length n) R.length (strs R))) ⟨C2, OX2⟩ (fun U1 y => ?_)
  obtain ⟨C3, OX⟩ := y
  have z := hd_ C3.out.m
  have DO := hd_ C3.out.o
  clear ox C C2 OX2 m1 hC
  obtain ⟨hpV, x0, x1, x2, x3, x4, x5, x6, x7⟩ := z.out.bx.eight
  obtain ⟨hqT, r0, r1, r2, r3, r4, r5, r6, r7⟩ := z.out.rs.eight
  obtain ⟨f0, f1, f2, f3, f4, f5, f6, f7⟩ := z.out.rs.open8
  go_wp2_with fail
  refine post_gen (R := fun W => Blk W q 31 (dkcs (d) A1 B1 c1 e1) ∧ DOwn w.heap.size W (d) A1 B1 c1 e1 ∧ W.ownsRow w.heap.size 9 1 (.slice X R.length n) R.length (strs (R)) ∧ UpOf w W) ⟨blk_put8 z.out.rs _ _ _ _ _ _ _ _, ⟨own_mono (own_all DO.out.1 HBV.out.2.1 _ _ _ _ _ _ _ _) HBV.out.2.2, own_mono (own_all DO.out.2 HBV.out.2.1 _ _ _ _ _ _ _ _) HBV.out.2.2⟩, own_mono (own_all OX.out HBV.out.2.1 _ _ _ _ _ _ _ _) HBV.out.2.2, put8_up z.out.up z.out.hq _ _ _ _ _ _ _ _⟩ (fun W st => ?_)
  obtain ⟨s1, s4, s2, s3⟩ := st
  obtain ⟨hqW, w0, w1, w2, w3, w4, w5, w6, w7⟩ := s1.eight
  clear s1 r0 r1 r2 r3 r4 r5 r6 r7 f0 f1 f2 f3 f4 f5 f6 f7 x0 x1 x2 x3 x4 x5 x6 x7
  exact bodyPost_ret (v := .tuple #[dkv (d) A1 B1 c1 e1, .slice X R.length n, i64 0]) (by simp [results, Tryz.results9, go_sem, hqW, w0, w1, w2, w3, w4, w5, w6, w7]) rfl ⟨_, _, _, _, _, _, rfl, s4, s2, s3⟩
end Go.Proofs.YtbianlkenallaaaGreatDoor

/-
  The reference's rests of a code: are words a code, and all rests. The bounds stand at each.
-/
import Derived.Test.YtbianlkenallaaaGreatDoorCodeT2
import Derived.Test.YtbianlkenallaaaGreatDoorMgB
import Derived.StillTail
import Derived.StillTailTactics
import Derived.Deep.LoopGhost
set_option linter.all false
set_option maxHeartbeats 2000000
set_option maxRecDepth 10000
namespace Go.Proofs.YtbianlkenallaaaGreatDoor
open Go.RowKit
def idxS (l : List ByteArray) (s : ByteArray) : Int := match l.findIdx? fun x => decide (x = s) with
 | some k => k
 | none => -1
theorem IdxIs.eq {l : List ByteArray} {s : ByteArray} {i : Int} (h : IdxIs l s i) : i = idxS l s := by
 unfold idxS
 rcases h with ⟨rfl, hn⟩ | ⟨k, rfl, hk, he, hn⟩
 ·have : (l.findIdx? fun x => decide (x = s)) = none := by
   rw [List.findIdx?_eq_none_iff]
   intro x hx
   obtain ⟨j, hj, rfl⟩ := List.getElem_of_mem hx
   rw [wd_eq hj]
   exact decide_eq_false (hn j hj)
  rw [this]
 ·have : (l.findIdx? fun x => decide (x = s)) = some k := by
   rw [List.findIdx?_eq_some_iff_getElem]
   refine ⟨hk, by rw [wd_eq hk]; exact decide_eq_true he, fun j hj => ?_⟩
   rw [wd_eq (by omega)]
   simpa using hn j hj
  rw [this]
theorem idxS_is (l : List ByteArray) (s : ByteArray) : IdxIs l s (idxS l s) := by
 unfold idxS
 cases h : l.findIdx? fun x => decide (x = s) with
 | none =>
  rw [List.findIdx?_eq_none_iff] at h
  exact .inl ⟨rfl, fun j hj e => by
   have := h l[j] (List.getElem_mem hj)
   rw [wd_eq hj] at this
   exact of_decide_eq_false this e⟩
 | some k =>
  rw [List.findIdx?_eq_some_iff_getElem] at h
  obtain ⟨hk, h1, h2⟩ := h
  rw [wd_eq hk] at h1
  refine .inr ⟨k, rfl, hk, of_decide_eq_true h1, fun j hj e => ?_⟩
  have := h2 j hj
  rw [wd_eq (by omega)] at this
  simp [e] at this
theorem l17IdxS_any (A : Option Addr) (c : Nat) (l : List ByteArray) (s : ByteArray) (w : World) (h : Rds w 1 A l.length (strs l)) (hn : l.length ≤ 100000000) :
  Calls Tryz.prog 188 #[.slice A l.length c, .string s] w fun e w' => e = .returned (i64 (idxS l s)) ∧ w = w' :=
 (l17Index_any A c l s w h hn).mono fun e w' ⟨i, h1, h2, h3⟩ => ⟨by rw [h1, h2.eq], h3⟩
theorem l17Ok_any (A : Option Addr) (c : Nat) (ws : List ByteArray) (w : World) (h : Rds w 1 A ws.length (strs ws)) (hc : ws.length ≤ c) (hn : ws.length ≤ 100000000) (hf : ∀ i, i < ws.length → (wd ws i).size ≤ 100000000) :
  Calls Tryz.prog 186 #[.slice A ws.length c] w fun e w' => e = .returned (.bool (vCode ws)) ∧ UpOf w w' := by
 have HR := hd_ h
 have HF := hd_ hf
 have HC := hd_ hc
 clear h hf hc
 go_enter Tryz.func186, Tryz.ntmps186
 go_wp2_with fail
 go_loopw [3] (fun t3 wr => ∃ k : Nat, k ≤ ws.length ∧ t3 = i64 k ∧ Hid (∀ j, j < k → wdOk ws j = true) ∧ UpOf w wr) (fun t3 _ => ws.length - (intOf t3).toNat)
 case atStart => exact ⟨0, by omega, rfl, fun j hj => absurd hj (by omega), UpOf.refl _⟩
 case round =>
  obtain ⟨k, hk, rfl, HN, g, rfl⟩ := hrel
  by_cases hlt : k < ws.length
  ·have hlt' : (k : Int) < (ws.length : Int) := by omega
   have hkc := HC.out
   have hkc' : (k : Int) ≤ (c : Int) := by omega
   obtain ⟨b, off, rfl, hb, hcc⟩ := wd_at HR.out hlt
   have c0 := hcc k hlt
   have hS0 := HF.out k hlt
   have HIX : Hid (∀ V, Below w.heap.size w V → Calls Tryz.prog 188 #[.slice (some ⟨b, off, none⟩) k c, .string (wd ws k)] V fun e w' => e = .returned (i64 (idxS (ws.take k) (wd ws k))) ∧ V = w') := hd_ fun V hV => by
    have hl : (ws.take k).length = k := by rw [List.length_take]; omega
    have hr := (HR.out.below hV).pre (m := k) (by omega)
    rw [Nat.mul_one, show (strs ws).take k = strs (ws.take k) from (List.map_take ..).symm] at hr
    have := l17IdxS_any (some ⟨b, off, none⟩) c (ws.take k) (wd ws k) V (by rw [hl]; exact hr) (by omega)
    rw [hl] at this
    exact this
   have hix := idxS_is (ws.take k) (wd ws k)
   have hwt : ∀ j, j < k → wd (ws.take k) j = wd ws j := fun j hj => by
    rw [wd, wd, List.getD_eq_getElem?_getD, List.getD_eq_getElem?_getD, List.getElem?_take, if_pos hj]
   have hlk : (ws.take k).length = k := by rw [List.length_take]; omega
   obtain ⟨z, hz⟩ : ∃ z, idxS (ws.take k) (wd ws k) = z := ⟨_, rfl⟩
   rw [hz] at HIX hix
   clear hcc hkc hz
   by_cases h0 : (wd ws k).size = 0
   ·have he := isEmpty_yes h0
    have hres := hd_ (vCode_at hlt (wdOk_1 h0))
    clear h0 hix hwt hlk
    obtain ⟨S, hS⟩ : ∃ S, wd ws k = S := ⟨_, rfl⟩
    rw [hS] at c0 he HIX
    clear hS hS0
    go_wp2_with (first | ((with_reducible refine wru ?_); (repeat (go_big_quiet_step (fail))); refine wqn fun nq => ?_))
    go_ret
    rw [hres.out]
    exact ⟨rfl, uw_⟩
   ·have he := isEmpty_no (s := wd ws k) (by omega)
    cases q1 : txtB 33 8 (wd ws k) with
    | false =>
     have hres := hd_ (vCode_at hlt (wdOk_2 q1))
     clear hix hwt hlk
     obtain ⟨S, hS⟩ : ∃ S, wd ws k = S := ⟨_, rfl⟩
     rw [hS] at c0 he HIX q1 hS0 h0
     clear hS h0
     go_wp2_with (first | ((with_reducible refine wru ?_); (repeat (go_big_quiet_step (first | (go_at_call 178; exact uqs_ (ret_as (l17Text_any S 8 _ (by omega) (by omega)) q1))))); refine wqn fun nq => ?_))
     go_ret
     rw [hres.out]
     exact ⟨rfl, uw_⟩
    | true =>
     rcases hix with ⟨rfl, hno⟩ | ⟨j, rfl, hj, hej, _⟩
     ·have HOK : Hid (wdOk ws k = true) := hd_ (wdOk_0 (by omega) q1 fun j hj => by rw [← hwt j hj]; exact hno j (by omega))
      clear hno hwt hlk
      obtain ⟨S, hS⟩ : ∃ S, wd ws k = S := ⟨_, rfl⟩
      rw [hS] at c0 he HIX q1 hS0 h0
      clear hS h0
      go_wp2_with (first | ((with_reducible refine wru ?_); (repeat (go_big_quiet_step (first | (go_at_call 178; exact uqs_ (ret_as (l17Text_any S 8 _ (by omega) (by omega)) q1)) | (go_at_call 188; exact uqs_ (HIX.out _ bw_))))); refine wqn fun nq => ?_))
      go_roundw
      case rel => exact ⟨k + 1, by omega, by go_num, hd_ fun j hj => by
       by_cases e : j = k
       ·rw [e]; exact HOK.out
       ·exact HN.out j (by omega), uw_⟩
      case measure => (simp [intOf]; try omega)
     ·rw [hlk] at hj
      rw [hwt j hj] at hej
      have hres := hd_ (vCode_at hlt (wdOk_3 hj hej))
      clear hej hwt hlk
      obtain ⟨S, hS⟩ : ∃ S, wd ws k = S := ⟨_, rfl⟩
      rw [hS] at c0 he HIX q1 hS0 h0
      clear hS h0
      go_wp2_with (first | ((with_reducible refine wru ?_); (repeat (go_big_quiet_step (first | (go_at_call 178; exact uqs_ (ret_as (l17Text_any S 8 _ (by omega) (by omega)) q1)) | (go_at_call 188; exact uqs_ (HIX.out _ bw_))))); refine wqn fun nq => ?_))
      go_ret
      rw [hres.out]
      exact ⟨rfl, uw_⟩
  ·obtain rfl : k = ws.length := by omega
   by_cases h10 : ws.length ≤ 10
   ·have h10' : (ws.length : Int) ≤ 10 := by omega
    have hres := hd_ (vCode_true h10 HN.out)
    go_wp2_with (first | ((with_reducible refine wru ?_); (repeat (go_big_quiet_step (fail))); refine wqn fun nq => ?_))
    go_ret
    rw [hres.out]
    exact ⟨rfl, uw_⟩
   ·have h10' : ¬ (ws.length : Int) ≤ 10 := by omega
    have hres := hd_ (vCode_len h10)
    go_wp2_with (first | ((with_reducible refine wru ?_); (repeat (go_big_quiet_step (fail))); refine wqn fun nq => ?_))
    go_ret
    rw [hres.out]
    exact ⟨rfl, uw_⟩
end Go.Proofs.YtbianlkenallaaaGreatDoor

/-
  The shortest text with two readings: the reference's. The bounds stand at it.
-/
import Derived.Test.YtbianlkenallaaaGreatDoorCodeT4
import Derived.Test.YtbianlkenallaaaGreatDoorMgB
set_option linter.all false
set_option maxHeartbeats 2000000
set_option maxRecDepth 10000
namespace Go.Proofs.YtbianlkenallaaaGreatDoor
open Go.RowKit
theorem twoReadingsS_any {two : List ByteArray → ByteArray × Int} (h2 : TwoOk two) (A : Option Addr) (c : Nat) (ws : List ByteArray) (w : World) (h : Rds w 1 A ws.length (strs ws)) (hc : ws.length ≤ c) (hn : ws.length ≤ 100000000) (hf : ∀ i, i < ws.length → (wd ws i).size ≤ 100000000) :
  Calls Tryz.prog 149 #[.slice A ws.length c] w fun e w' => e = .returned (.tuple #[.string (two ws).1, i64 (two ws).2]) ∧ UpOf w w' := by
 have HR := hd_ h
 have HF := hd_ hf
 have HC := hd_ hc
 clear h hf hc
 cases hv : vCode ws with
 | false =>
  have hr := hd_ ((h2 ws).2 hv)
  go_enter Tryz.func149, Tryz.ntmps149
  go_wp2_with (first | (go_at_call 186; refine (ret_as (l17Ok_any A c ws _ (HR.out.below bw_) HC.out hn HF.out) hv).mono ?_; rintro e w' ⟨rfl, g, rfl⟩))
  go_ret2
  rw [hr.out]
  exact ⟨rfl, uw_⟩
 | true =>
  obtain ⟨h10, hi⟩ := vCode_inv hv
  have h8 : ∀ i, i < ws.length → (wd ws i).size ≤ 8 := fun i hi2 => (txtB_inv (hi i hi2).2.1).1
  have HT := hd_ ((h2 ws).1 hv)
  have HRS : Hid (∀ V, Below w.heap.size w V → Calls Tryz.prog 187 #[.slice A ws.length c] V fun e w' => rsPost ws V e w') := hd_ fun V hV => l17Rests_any A c ws V (HR.out.below hV) h10 h8
  clear h8 hi
  go_enter Tryz.func149, Tryz.ntmps149
  go_wp2_with fail
  refine (ret_as (l17Ok_any A c ws _ (HR.out.below bw_) HC.out hn HF.out) hv).mono ?_
  rintro e w' ⟨rfl, g1, rfl⟩
  go_wp2_with fail
  refine (HRS.out _ bw_).mono ?_
  rintro e V ⟨rb, R, more, A1, c1, E1, d1, rfl, hq, hfx, hnd, hR⟩
  have HQ := hd_ hq
  have HU := hd_ (show UpOf w V from (show UpOf w (up w g1) from uw_).tr hq.up.below)
  have hrb := hq.bk.lt
  have k0 : V.cell? ⟨rb, 0, none⟩ = some (.slice A1 (keysB R).length c1) := hq.bk.cell 0
  have k1 : V.cell? ⟨rb, 1, none⟩ = some (.slice E1 (textsB R).length d1) := hq.bk.cell 1
  have h3 := hfx.two (nodup_key hnd)
  have hix := idxS_is (keysB R) ⟨#[]⟩
  have HIX : Hid (Calls Tryz.prog 188 #[.slice A1 (keysB R).length c1, .string ⟨#[]⟩] V fun e w' => e = .returned (i64 (idxS (keysB R) ⟨#[]⟩)) ∧ V = w') := hd_ (l17IdxS_any A1 c1 (keysB R) ⟨#[]⟩ V (Rds.of_own hq.ka) (by rw [keysB_len]; omega))
  obtain ⟨z, hz⟩ : ∃ z, idxS (keysB R) ⟨#[]⟩ = z := ⟨_, rfl⟩
  rw [hz] at hix HIX
  clear hz hq hfx hnd HRS
  rcases hix with ⟨rfl, hno⟩ | ⟨k, rfl, hk, he, _⟩
  ·have hni : ∀ t, (([] : List UInt8), t) ∉ R := fun t ht => by
    obtain ⟨i, hi, e⟩ := List.getElem_of_mem ht
    refine hno i (by rw [keysB_len]; exact hi) ?_
    have e2 : om R i = ([], t) := by rw [om, List.getD_eq_getElem?_getD, List.getElem?_eq_getElem hi, e]; rfl
    rw [wd_keys hi, e2]
   have hres := hd_ (show ((two ws).1, (two ws).2) = (⟨#[]⟩, 3) by
    obtain ⟨e1, e2⟩ := HT.out.uniq (h3.2 hni)
    rw [e2, ← bs_of (two ws).1, e1])
   clear h3 hno hni
   go_wp2_with fail
   refine HIX.out.mono ?_
   rintro e w' ⟨rfl, rfl⟩
   go_wp2_with fail
   go_ret2
   have e := hres.out
   rw [Prod.mk.injEq] at e
   rw [e.1, e.2]
   exact ⟨rfl, HU.out⟩
  ·have hkR : k < R.length := by rw [keysB_len] at hk; exact hk
   obtain ⟨gE, rfl⟩ := own_someT HQ.out.te (by rw [textsB_len]; omega)
   obtain ⟨hgE, cE⟩ := ws_at (Rds.of_own HQ.out.te) (i := k) (by rw [textsB_len]; exact hkR)
   rw [Nat.zero_add, wd_texts hkR] at cE
   rw [wd_keys hkR] at he
   have he2 : (om R k).1 = [] := by
    have := congrArg (fun x : ByteArray => x.data.toList) he
    simpa using this
   have hin : ([], (om R k).2) ∈ R := by
    have := om_mem hkR
    rw [show om R k = ([], (om R k).2) by rw [← he2]] at this
    exact this
   have hres := hd_ (show ((two ws).1, (two ws).2) = (bs (om R k).2, 0) by
    obtain ⟨e1, e2⟩ := HT.out.uniq (h3.1 _ hin)
    rw [e2, ← e1, bs_of])
   have hTl := textsB_len R
   have hltT : (k : Int) < ((textsB R).length : Int) := by omega
   obtain ⟨X, hX⟩ : ∃ S, bs (om R k).2 = S := ⟨_, rfl⟩
   rw [hX] at cE hres
   clear h3 he he2 hin hX hTl hk hkR
   go_wp2_with fail
   refine HIX.out.mono ?_
   rintro e w' ⟨rfl, rfl⟩
   go_wp2_with fail
   go_ret2
   have e := hres.out
   rw [Prod.mk.injEq] at e
   rw [e.1, e.2]
   exact ⟨rfl, HU.out⟩
end Go.Proofs.YtbianlkenallaaaGreatDoor

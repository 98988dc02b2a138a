/-
  The reference's drawing of defects with prices, whatever the bytes are. The bounds stand at it.
-/
import Derived.Test.YtfggbcmpgkhlaaaDrawDefects
import Derived.Test.YtfggbcmpgkhlaaaGen
namespace Go.Proofs.Ytfggbcmpgkhlaaa
open Go.RowKit
set_option maxRecDepth 10000 in
set_option maxHeartbeats 1000000 in
theorem a2Defects_any (A : Option Addr) (n c : Nat) (zs : List Int) (w : World) (hz : ∀ z ∈ zs, 0 ≤ z ∧ z ≤ 255) (h : Rds w 1 A n (bytes zs)) (hn : n ≤ 3000) :
    Calls Try.prog 10 #[.slice A n c] w fun e w' => ∃ (l : List Defect) (ps : List Int) (A1 : Option Addr) (c1 : Nat) (A2 : Option Addr) (c2 : Nat), e = .returned (.tuple #[.slice A1 l.length c1, .slice A2 ps.length c2]) ∧ Rds w' 3 A1 l.length (dfcs l) ∧ Rds w' 1 A2 ps.length (ics ps) ∧ drawnD ps.length l ∧ ps.length ≤ 5 ∧ (∀ i, i < ps.length → 1 ≤ num ps i ∧ num ps i ≤ 12) ∧ UpOf w w' := by
  have HR := Lib.hid h
  clear h
  go_enter Try.func10, Try.ntmps10
  go_wp2_with fail
  refine (l00From_any A n c _).mono ?_
  rintro e w1 ⟨rfl, rfl⟩
  go_wp2_with fail
  refine (prices_any w.heap.size A n c 0 _ (src_new w A n c) (byt_new hz HR.out _) (by omega) (by omega)).mono ?_
  rintro e w2 ⟨ps, A2, c2, k2, rfl, ho, hv, hl, hk2, hs2, hg⟩
  have HO := Lib.hid ho
  have HG := Lib.hid hg
  have HS := Lib.hid hs2
  have HB := Lib.hid ((byt_new hz HR.out (.cells #[.slice A n c, .int .i64 0, .int .u64 0] 82)).grown hg)
  have HV := Lib.hid hv
  clear ho hg hs2 hv
  go_wp2_with fail
  refine (l23Draw_any w.heap.size A n c k2 ps.length w2 HS.out HB.out (by omega) (by omega) hl).mono ?_
  rintro e w3 ⟨l, A1, c1, rfl, ho3, hd, hg3⟩
  have HO3 := Lib.hid ho3
  have HP := Lib.hid ((Rds.of_own HO.out).grown hg3 (fun hn b' off e he => by
    have := (own_block HO.out e).1
    injection he with he
    simp at this
    omega))
  have HG3 := Lib.hid hg3
  clear ho3 hg3
  go_wp2_with fail
  go_ret2
  exact ⟨l, ps, A1, c1, A2, c2, rfl, Rds.of_own HO3.out, HP.out, hd, hl, fun i hi => by
      have := HV.out ps[i] (List.getElem_mem hi)
      rwa [num_eq hi] at this,
    up_of_grown (up_of_grown ((Below.refl _ _).alloc (Nat.le_refl _) _) HG.out (fun k hk => by injection hk with hk; omega)).below HG3.out (fun k hk => by injection hk with hk; omega)⟩
end Go.Proofs.Ytfggbcmpgkhlaaa

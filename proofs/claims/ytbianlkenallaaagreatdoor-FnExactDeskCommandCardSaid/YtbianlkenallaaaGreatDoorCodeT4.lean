/-
  The reference's rests of a code: all rests. The bounds stand at it.
-/
import Derived.Test.YtbianlkenallaaaGreatDoorMgD
import Derived.Deep.DeepMust
set_option linter.all false
set_option maxHeartbeats 8000000
set_option maxRecDepth 10000
namespace Go.Proofs.YtbianlkenallaaaGreatDoor
open Go.RowKit
theorem lists_len' (ws : List ByteArray) : (lists ws).length = ws.length := by simp [lists]
theorem lists_get' {ws : List ByteArray} {k : Nat} (h : k < ws.length) : (lists ws)[k]? = some (wd ws k).data.toList := by
 rw [lists, List.getElem?_map, List.getElem?_eq_getElem h, wd_eq h]; rfl
theorem ext_from (s : ByteArray) (n : Nat) : (s.extract n s.size).data.toList = s.data.toList.drop n := by
 rw [bs_extract, bs_list, List.take_of_length_le]
 rw [List.length_drop, bsz]
 exact Nat.le_refl _
theorem slice_from (s : ByteArray) (n : Nat) (h : n ≤ s.size) : ∀ wx : World, (Instr.slice 9 (.string s) (some (i64 n)) none none).run Tryz.prog wx = .ok (.string (s.extract n s.size)) wx := fun wx => by
 have := run_slice_string_from_if (P := Tryz.prog) wx 9 s .i64 (n : Int) Tryz.underlying9
 rw [if_pos (by omega)] at this
 simpa using this
theorem beg_size {s t : ByteArray} (h : begB s t = true) : t.size ≤ s.size := (pre_iff.1 h).1
theorem ws_at {w : World} {ws : List ByteArray} {b off : Nat} (h : Rds w 1 (some ⟨b, off, none⟩) ws.length (strs ws)) {i : Nat} (hi : i < ws.length) : b < w.heap.size ∧ w.cell? ⟨b, off + i, none⟩ = some (.string (wd ws i)) := by
 obtain ⟨b9, o9, e9, hb, hc⟩ := wd_at h hi
 injection e9 with e9
 injection e9 with e91 e92
 subst e91 e92
 exact ⟨hb, hc i hi⟩
def rsPost (ws : List ByteArray) (w : World) (e : Ending) (w' : World) : Prop := ∃ rb R more A c E d, e = .returned (.pointer (some ⟨rb, 0, none⟩)) ∧ QK w w' rb (keysB R) (textsB R) more A c E d ∧ Fix (lists ws) R ∧ (R.map (·.1)).Nodup ∧ R.length ≤ 90
theorem l17Rests_any (A : Option Addr) (c : Nat) (ws : List ByteArray) (w : World) (h : Rds w 1 A ws.length (strs ws)) (hn : ws.length ≤ 10) (h8 : ∀ i, i < ws.length → (wd ws i).size ≤ 8) :
 Calls Tryz.prog 187 #[.slice A ws.length c] w fun e w' => rsPost ws w e w' := by
 have HR := hd_ h
 have H8 := hd_ h8
 have HW8 : Hid (∀ x ∈ lists ws, x.length ≤ 8) := hd_ fun x hx => by
  rw [lists, List.mem_map] at hx
  obtain ⟨y, hy, rfl⟩ := hx
  obtain ⟨i, hi, rfl⟩ := List.getElem_of_mem hy
  have := H8.out i hi
  rw [← wd_eq hi] at this
  exact this
 have HW10 : Hid ((lists ws).length ≤ 10) := hd_ (by rw [lists_len']; exact hn)
 clear h h8
 go_enter Tryz.func187, Tryz.ntmps187
 go_upto_region 2 with (fail)
 obtain ⟨rb, hrb⟩ := nm_ (w.heap.size)
 have HQ0 := hd_ (show QK w (w.alloc (.cells #[.slice none 0 0, .slice none 0 0, .bool false] 204)) w.heap.size (keysB []) (textsB []) false none 0 none 0 from
  ⟨Blk.new _ _ _, ⟨rfl, .inl ⟨rfl, rfl⟩⟩, ⟨rfl, .inl ⟨rfl, rfl⟩⟩, .inl rfl, Nat.le_refl _, uw_⟩)
 refine wpg (R := fun V => Hid (QK w V rb (keysB []) (textsB []) false none 0 none 0)) (by rw [← hrb]; exact HQ0) (fun V HQ1 => ?_)
 rw [hrb]
 clear HQ0 hrb
 go_wp2_with fail
 go_loopw [4] (fun t4 wr => ∃ (i : Nat) (R : List Amb) (more : Bool) (A1 : Option Addr) (c1 : Nat) (E1 : Option Addr) (d1 : Nat), i ≤ ws.length ∧ t4 = i64 i ∧ Hid (RB (lists ws) R i 0) ∧ Hid (more = false → R = []) ∧ Hid (QK w wr rb (keysB R) (textsB R) more A1 c1 E1 d1)) (fun t4 _ => ws.length - (intOf t4).toNat)
 case atStart => exact ⟨0, [], false, none, 0, none, 0, by omega, rfl, hd_ (RB.start _), hd_ fun _ => rfl, HQ1⟩
 case round =>
  obtain ⟨i, R, more, A1, c1, E1, d1, hi, rfl, HB, HM, HQ⟩ := hrel
  clear HQ1
  by_cases hlt : i < ws.length
  ·have hlt' : (i : Int) < (ws.length : Int) := by omega
   go_wp2_with fail
   go_loopw [5] (fun t5 wr2 => ∃ (k : Nat) (R : List Amb) (more : Bool) (A1 : Option Addr) (c1 : Nat) (E1 : Option Addr) (d1 : Nat), k ≤ ws.length ∧ t5 = i64 k ∧ Hid (RB (lists ws) R i k) ∧ Hid (more = false → R = []) ∧ Hid (QK w wr2 rb (keysB R) (textsB R) more A1 c1 E1 d1)) (fun t5 _ => ws.length - (intOf t5).toNat)
   case atStart => exact ⟨0, R, more, A1, c1, E1, d1, by omega, rfl, HB, HM, HQ⟩
   case round =>
    clear HB HM HQ
    clear R more A1 c1 E1 d1
    obtain ⟨k, R, more, A1, c1, E1, d1, hk, rfl, HB, HM, HQ⟩ := hrel
    by_cases hkl : k < ws.length
    ·have hkl' : (k : Int) < (ws.length : Int) := by omega
     obtain ⟨g, hg⟩ := HQ.out.up
     subst hg
     obtain ⟨b, off, rfl, hb, -⟩ := wd_at HR.out hlt
     obtain ⟨hbw, cI⟩ := ws_at HR.out hlt
     obtain ⟨-, cK⟩ := ws_at HR.out hkl
     have hIs := H8.out i hlt
     have hKs := H8.out k hkl
     by_cases hik : i = k
     ·have HB2 := hd_ (HB.out.skip fun u v hne => absurd hik hne)
      have hik' : ((i : Int) != (k : Int)) = false := by rw [hik]; simp
      clear hik
      go_wp2_with ((with_reducible refine wru ?_); refine wrz fun _ => ?_)
      go_roundw
      case rel => exact ⟨k + 1, R, more, A1, c1, E1, d1, by omega, by go_num, HB2, HM, hd_ (HQ.out.below bw_)⟩
      case measure => (simp [intOf]; try omega)
     ·have hik' : ((i : Int) != (k : Int)) = true := by rw [bne_iff_ne]; omega
      cases hbg : begB (wd ws i) (wd ws k) with
      | false =>
        have HB2 := hd_ (HB.out.skip fun u v _ hu hv => by
         rw [lists_get' hkl] at hu
         rw [lists_get' hlt] at hv
         injection hu with hu
         injection hv with hv
         rw [← hu, ← hv]
         exact hbg)
        obtain ⟨U, hU⟩ := nm_ (wd ws i)
        obtain ⟨W, hW⟩ := nm_ (wd ws k)
        rw [hU] at cI hIs hbg
        rw [hW] at cK hKs hbg
        clear hU hW hik
        go_wp2_with (first | (go_at_call 216; refine cs_ (ra_ (l17Begins_any U W _ (by omega) (by omega)) hbg) ?_) | ((with_reducible refine wru ?_); (repeat (go_big_quiet_step (first | (go_at_call 216; exact uqs_ (ra_ (l17Begins_any U W _ (by omega) (by omega)) hbg))))); refine wqn fun nq => ?_))
        go_roundw
        case rel => exact ⟨k + 1, R, more, A1, c1, E1, d1, by omega, by go_num, HB2, HM, hd_ (HQ.out.below bw_)⟩
        case measure => (simp [intOf]; try omega)
      | true =>
        have hsub := beg_size hbg
        have HB2 := hd_ (show RB (lists ws) (putR R ((wd ws i).extract (wd ws k).size (wd ws i).size).data.toList (wd ws i).data.toList) i (k + 1) by
         have := HB.out.add HW8.out HW10.out hik (lists_get' hkl) (lists_get' hlt) hbg
         rw [ext_from]
         rw [bsz] at this
         exact this)
        have HM2 := hd_ (show (more || putB R ((wd ws i).extract (wd ws k).size (wd ws i).size).data.toList (wd ws i).data.toList) = false → putR R ((wd ws i).extract (wd ws k).size (wd ws i).size).data.toList (wd ws i).data.toList = [] from fun h9 => by
         rw [Bool.or_eq_false_iff] at h9
         have := HM.out h9.1
         rw [this] at h9
         exact absurd h9.2 (by simp [putB]))
        obtain ⟨U, hU⟩ := nm_ (wd ws i)
        obtain ⟨W, hW⟩ := nm_ (wd ws k)
        rw [hU, hW] at HB2 HM2
        rw [hU] at cI hIs hbg hsub
        rw [hW] at cK hKs hbg hsub
        have hsl := slice_from U W.size hsub
        have HRN := hd_ (show R.length ≤ 1000000 by have := HB.out.rw.rl HW8.out HW10.out; omega)
        clear hU hW hik
        go_upto_region 9 with (first | ((with_reducible refine wp_region_up (by kernel_rfl) (by kernel_rfl) ?_); (repeat (go_big_quiet_step (first | (go_at_call 216; first | exact upq_tr_same (ra_ (l17Begins_any U W _ (by omega) (by omega)) hbg) | exact upq_same (ra_ (l17Begins_any U W _ (by omega) (by omega)) hbg))))); refine wpQuiet_nil ?_; intro _ hw'; obtain ⟨nq, hw''⟩ := hw'; subst hw''))
        go_still_tail 15, (by kernel_rfl)
        change wpList _ _ _ _ _ (World.drew _)
        rw [drew_up]
        go_wp2_with fail
        refine (l17Put_any w rb R more A1 c1 E1 d1 _ U _ (HQ.out.below bw_) HRN.out).mono ?_
        rintro e w' ⟨A2, c2, E2, d2, rfl, hq2⟩
        have HQ2 := hd_ hq2
        clear hq2
        go_wp2_with fail
        go_roundw
        case rel => exact ⟨k + 1, _, _, A2, c2, E2, d2, by omega, by go_num, HB2, HM2, HQ2⟩
        case measure => (simp [intOf]; try omega)
    ·obtain rfl : k = ws.length := by omega
     have HB2 := hd_ (show RB (lists ws) R (i + 1) 0 by
      have := HB.out
      rw [← lists_len'] at this
      exact this.row)
     go_wp2_with fail
     go_roundw
     case rel => exact ⟨i + 1, R, more, A1, c1, E1, d1, by omega, by go_num, HB2, HM, HQ⟩
     case measure => (simp [intOf]; try omega)
  ·obtain rfl : i = ws.length := by omega
   have HF0 := hd_ (show more = false → Fix (lists ws) R from fun h => by
    have h0 := HM.out h
    subst h0
    have hb := HB.out
    rw [← lists_len'] at hb
    exact ⟨hb.rw.ok, fun a b u v hab hu hv hp => hb.ba a b u v (.inl (List.getElem?_eq_some_iff.1 hv).1) hab hu hv hp, fun p hp => by cases hp⟩)
   have HB2 := hd_ (show RB (lists ws) R (lists ws).length 0 by rw [lists_len']; exact HB.out)
   clear HB HM
   go_wp2_with fail
   go_loopg [6] (mu R + 1) (fun gk t6 wr => ∃ (R : List Amb) (more : Bool) (A1 : Option Addr) (c1 : Nat) (E1 : Option Addr) (d1 : Nat), Hid (RB (lists ws) R (lists ws).length 0) ∧ Hid (more = false → Fix (lists ws) R) ∧ Hid (more = true → mu R + 1 ≤ gk) ∧ Hid (QK w wr rb (keysB R) (textsB R) more A1 c1 E1 d1))
   case atStart => exact ⟨R, more, A1, c1, E1, d1, HB2, HF0, hd_ fun _ => Nat.le_refl _, HQ⟩
   case round =>
    clear HB2 HF0 HQ
    clear R more A1 c1 E1 d1
    obtain ⟨R, more, A1, c1, E1, d1, HB, HF, HG, HQ⟩ := hrel
    have hrbl := HQ.out.bk.lt
    have k2 : wr.cell? ⟨rb, 2, none⟩ = some (.bool more) := HQ.out.bk.cell 2
    cases more with
    | false =>
      have HFX := hd_ (HF.out rfl)
      go_wp2_with fail
      go_ret
      exact ⟨rb, R, false, A1, c1, E1, d1, rfl, HQ.out, HFX.out, HB.out.rw.nd, HB.out.rw.rl HW8.out HW10.out⟩
    | true =>
      have hgk := HG.out rfl
      have f2 := HQ.out.bk.free 2
      have HD0 := hd_ (RD.start HB.out)
      have HQ3 := hd_ (HQ.out.flag false)
      obtain ⟨R0, hR0⟩ : ∃ R0, R0 = R := ⟨_, rfl⟩
      have HD1 : Hid (RD (lists ws) R0 R false 0 0) := by rw [hR0]; exact HD0
      have HGK := hd_ (show mu R0 + 1 ≤ gk by rw [hR0]; exact hgk)
      clear HB HF HG HD0 hR0 hgk
      go_upto_region 12 with (fail)
      refine wpg (R := fun V => Hid (QK w V rb (keysB R) (textsB R) false A1 c1 E1 d1)) HQ3 (fun V HQ4 => ?_)
      clear HQ3 f2 HQ hrbl k2
      go_wp2_with fail
      go_loopw [6] (fun t6 wr2 => ∃ (i : Nat) (R : List Amb) (b : Bool) (A1 : Option Addr) (c1 : Nat) (E1 : Option Addr) (d1 : Nat), t6 = i64 i ∧ i ≤ R.length ∧ Hid (RD (lists ws) R0 R b i 0) ∧ Hid (QK w wr2 rb (keysB R) (textsB R) b A1 c1 E1 d1)) (fun t6 _ => 100 - (intOf t6).toNat)
      case atStart => exact ⟨0, R, false, A1, c1, E1, d1, rfl, by omega, HD1, HQ4⟩
      case round =>
       clear HD1 HQ4
       clear R A1 c1 E1 d1
       obtain ⟨i, R, b, A1, c1, E1, d1, rfl, hi, HD, HQ⟩ := hrel
       have hR90 := HD.out.rw.rl HW8.out HW10.out
       have hrbl := HQ.out.bk.lt
       have k0 : wr.cell? ⟨rb, 0, none⟩ = some (.slice A1 (keysB R).length c1) := HQ.out.bk.cell 0
       have hKl := keysB_len R
       by_cases hlt : i < R.length
       ·have hltK : i < (keysB R).length := by omega
        have hlt' : (i : Int) < ((keysB R).length : Int) := by omega
        obtain ⟨gA, rfl⟩ := own_someT HQ.out.ka (by omega)
        obtain ⟨hgA, cA⟩ := ws_at (Rds.of_own HQ.out.ka) hltK
        rw [Nat.zero_add, wd_keys hlt] at cA
        obtain ⟨S, hS⟩ := nm_ (bs (om R i).1)
        rw [hS] at cA
        have HS := hd_ (show (om R i).1 = S.data.toList by rw [← hS, bs_list])
        have hSs : S.size ≤ 8 := by
         have := sfx_le HW8.out (HD.out.rw.ok _ (om_mem hlt)).sfx
         rw [HS.out, bsz] at this
         exact this
        clear hS hltK hi
        go_upto_region 16 with (fail)
        clear hKl hlt' k0 cA
        go_wp2_with fail
        go_loopw [8] (fun t8 wr3 => ∃ (k : Nat) (R : List Amb) (b : Bool) (A1 : Option Addr) (c1 : Nat) (E1 : Option Addr) (d1 : Nat), t8 = i64 k ∧ k ≤ ws.length ∧ i < R.length ∧ Hid ((om R i).1 = S.data.toList) ∧ Hid (RD (lists ws) R0 R b i k) ∧ Hid (QK w wr3 rb (keysB R) (textsB R) b A1 c1 E1 d1)) (fun t8 _ => ws.length - (intOf t8).toNat)
        case atStart => exact ⟨0, R, b, _, c1, E1, d1, rfl, by omega, hlt, HS, HD, HQ⟩
        case round =>
         clear HS HD HQ hlt hR90 hrbl hgA
         obtain ⟨k, R, b, A1, c1, E1, d1, rfl, hk, hlt, HS, HD, HQ⟩ := hrel
         have hR90 := HD.out.rw.rl HW8.out HW10.out
         by_cases hkl : k < ws.length
         ·have hkl' : (k : Int) < (ws.length : Int) := by omega
          by_cases hS0 : S.size = 0
          ·have he := isEmpty_yes hS0
           have HD2 := hd_ (HD.out.row (.inr (by rw [HS.out]; exact List.eq_nil_of_length_eq_zero (by rw [bsz]; exact hS0))))
           go_wp2_with fail
           go_roundw
           case rel => exact ⟨i + 1, R, b, A1, c1, E1, d1, by go_num, by omega, HD2, HQ⟩
           case measure => (simp [intOf]; try omega)
          ·have he := isEmpty_no (s := S) (by omega)
           have hne : (om R i).1 ≠ [] := by
            rw [HS.out]
            intro e
            exact hS0 (by rw [← bsz, e]; rfl)
           have HNE := hd_ hne
           obtain ⟨gE, rfl⟩ := own_someT HQ.out.te (by rw [textsB_len]; omega)
           obtain ⟨hgE, cE⟩ := ws_at (Rds.of_own HQ.out.te) (i := i) (by rw [textsB_len]; exact hlt)
           rw [Nat.zero_add, wd_texts hlt] at cE
           obtain ⟨X, hX⟩ := nm_ (bs (om R i).2)
           rw [hX] at cE
           have HX := hd_ (show (om R i).2 = X.data.toList by rw [← hX, bs_list])
           have hXs : X.size ≤ 1000 := by
            have := HD.out.rw.tb _ (om_mem hlt)
            rw [HX.out, bsz] at this
            omega
           have hrbl := HQ.out.bk.lt
           have k1 : wr.cell? ⟨rb, 1, none⟩ = some (.slice (some ⟨gE, 0, none⟩) (textsB R).length d1) := HQ.out.bk.cell 1
           have hTl := textsB_len R
           have hltT : (i : Int) < ((textsB R).length : Int) := by omega
           have hRW := HR.out.below HQ.out.up.below
           obtain ⟨b7, off, rfl, hb, -⟩ := wd_at hRW hkl
           obtain ⟨hbw, cK⟩ := ws_at hRW hkl
           have hKs := H8.out k hkl
           have HRN := hd_ (show R.length ≤ 1000000 by omega)
           obtain ⟨W, hW⟩ := nm_ (wd ws k)
           have HLG := hd_ (show (lists ws)[k]? = some W.data.toList by rw [lists_get' hkl, hW])
           rw [hW] at cK hKs
           clear hX hTl hRW hW hS0 hne
           cases h1 : begB W S with
           | true =>
             have hsub := beg_size h1
             have hsl := slice_from W S.size hsub
             obtain ⟨Z, hZ⟩ := nm_ (W.extract S.size W.size)
             have hZl : Z.data.toList = W.data.toList.drop S.size := by rw [← hZ, ext_from]
             have hZs : Z.size ≤ 8 := by rw [← bsz, hZl, List.length_drop, bsz]; omega
             have hex : exR (om R i).1 W.data.toList = some (Z.data.toList, Z.data.toList) := by
              rw [HS.out, exR_other, if_pos (show S.data.toList.isPrefixOf W.data.toList = true from h1), hZl, bsz]
             rw [hZ] at hsl
             have HK9 := hd_ (putR_key R Z.data.toList (X ++ Z).data.toList hlt)
             have HD2 := hd_ (show RD (lists ws) R0 (putR R Z.data.toList (X ++ Z).data.toList) (b || putB R Z.data.toList (X ++ Z).data.toList) i (k + 1) by
              have := HD.out.put HW8.out HW10.out hlt HLG.out HNE.out hex
              rw [HX.out] at this
              rw [ByteArray.data_append, Array.toList_append]
              exact this)
             have es : ∀ V, (Op.stringOp .add X Z).run Tryz.prog V = .ok (.string (X ++ Z)) V := fun V => run_string_add_sum V _ _ (by omega)
             clear hZ hZl hex
             go_wp2_with fail
             refine cs_ (ra_ (l17Begins_any W S _ (by omega) (by omega)) h1) ?_
             go_wp2_with fail
             refine (l17Put_any w rb R b A1 c1 _ d1 Z (X ++ Z) _ HQ.out HRN.out).mono ?_
             rintro e w' ⟨A2, c2, E2, d2, rfl, hq2⟩
             have HQ2 := hd_ hq2
             clear hq2
             go_wp2_with fail
             go_roundw
             case rel => exact ⟨k + 1, _, _, A2, c2, E2, d2, by go_num, by omega, HK9.out.2, hd_ (by rw [HK9.out.1]; exact HS.out), HD2, HQ2⟩
             case measure => (simp [intOf]; try omega)
           | false =>
             cases h2 : begB S W with
             | true =>
               have hsub := beg_size h2
               have hsl := slice_from S W.size hsub
               obtain ⟨Z, hZ⟩ := nm_ (S.extract W.size S.size)
               have hZl : Z.data.toList = S.data.toList.drop W.size := by rw [← hZ, ext_from]
               have hex : exR (om R i).1 W.data.toList = some ([], Z.data.toList) := by
                rw [HS.out, exR_other, if_neg (by rw [show S.data.toList.isPrefixOf W.data.toList = false from h1]; simp), if_pos (show W.data.toList.isPrefixOf S.data.toList = true from h2), hZl, bsz]
               rw [hZ] at hsl
               have HK9 := hd_ (putR_key R Z.data.toList X.data.toList hlt)
               have HD2 := hd_ (show RD (lists ws) R0 (putR R Z.data.toList X.data.toList) (b || putB R Z.data.toList X.data.toList) i (k + 1) by
                have := HD.out.put HW8.out HW10.out hlt HLG.out HNE.out hex
                rw [HX.out, List.append_nil] at this
                exact this)
               clear hZ hZl hex
               go_wp2_with fail
               refine cs_ (ra_ (l17Begins_any W S _ (by omega) (by omega)) h1) ?_
               go_wp2_with fail
               refine cs_ (ra_ (l17Begins_any S W _ (by omega) (by omega)) h2) ?_
               go_wp2_with fail
               refine (l17Put_any w rb R b A1 c1 _ d1 Z X _ HQ.out HRN.out).mono ?_
               rintro e w' ⟨A2, c2, E2, d2, rfl, hq2⟩
               have HQ2 := hd_ hq2
               clear hq2
               go_wp2_with fail
               go_roundw
               case rel => exact ⟨k + 1, _, _, A2, c2, E2, d2, by go_num, by omega, HK9.out.2, hd_ (by rw [HK9.out.1]; exact HS.out), HD2, HQ2⟩
               case measure => (simp [intOf]; try omega)
             | false =>
               have HD2 := hd_ (HD.out.none fun w9 hw9 => by
                rw [HLG.out] at hw9
                injection hw9 with hw9
                rw [← hw9, HS.out, exR_other, if_neg (by rw [show S.data.toList.isPrefixOf W.data.toList = false from h1]; simp), if_neg (by rw [show W.data.toList.isPrefixOf S.data.toList = false from h2]; simp)])
               go_wp2_with fail
               refine cs_ (ra_ (l17Begins_any W S _ (by omega) (by omega)) h1) ?_
               go_wp2_with fail
               refine cs_ (ra_ (l17Begins_any S W _ (by omega) (by omega)) h2) ?_
               go_wp2_with fail
               go_roundw
               case rel => exact ⟨k + 1, R, b, A1, c1, _, d1, by go_num, by omega, hlt, HS, HD2, HQ⟩
               case measure => (simp [intOf]; try omega)
         ·obtain rfl : k = ws.length := by omega
          have HD2 := hd_ (HD.out.row (.inl (lists_len' ws).symm))
          go_wp2_with fail
          go_roundw
          case rel => exact ⟨i + 1, R, b, A1, c1, E1, d1, by go_num, by omega, HD2, HQ⟩
          case measure => (simp [intOf]; try omega)
       ·obtain rfl : i = R.length := by omega
        have hge : ¬ (R.length : Int) < ((keysB R).length : Int) := by omega
        have HF2 := hd_ (show b = false → Fix (lists ws) R from fun e => by
         have h9 := HD.out
         rw [e] at h9
         exact h9.fix)
        have HG2 := hd_ (show b = true → mu R + 1 ≤ mu R0 from fun e => HD.out.lt e)
        have HB2 := hd_ (show RB (lists ws) R (lists ws).length 0 from ⟨HD.out.rw, HD.out.ba⟩)
        clear hKl
        go_wp2_with fail
        go_roundg (mu R0)
        case measure => exact HGK.out
        case rel => exact ⟨R, b, A1, c1, E1, d1, HB2, HF2, HG2, HQ⟩
end Go.Proofs.YtbianlkenallaaaGreatDoor

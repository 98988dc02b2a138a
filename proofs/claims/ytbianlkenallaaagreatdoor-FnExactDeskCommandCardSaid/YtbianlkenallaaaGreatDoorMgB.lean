/-
  Common parts, put together: Stamp, Encs, AppAt, NumL, NumI, SplitS, WordsI, LogI, CutI, NumS, LogS, IntsTo, ToDesk, TakeT, OwnT, CodeJ, CodeR, CodeT1, CodeT2, TxtMap, AlignQ, IntsSz, Only, Strs, InDrills, InInts, TabLaid.
-/
import Derived.Test.YtbianlkenallaaaGreatDoorMgA
import Derived.Laws.Concat
import Derived.Deep.DeepMust
import Derived.Test.YtbianlkenallaaaGreatDoorRows
import Derived.OpenShut
import Derived.Lib.SmallJoins
import Derived.ChangeOld
import Derived.Deep.Slices
import Derived.StillTail
import Derived.Deep.RegionHeld3
import Derived.Laws.OwnMore
import Derived.Maps.StringElems
import Derived.Deep.Fields
import Derived.Deep.Strs
import Derived.Test.YtbianlkenallaaaGreatDoorTie
import Derived.Test.YtbianlkenallaaaGreatDoorCards
import Derived.ProofKit
import Derived.LaidMore
import Derived.Stop.Joined
import Derived.Stop.LaidErr
import Derived.SevenTiedAt
set_option linter.all false
set_option maxHeartbeats 4000000
set_option maxRecDepth 10000
namespace Go.Proofs.YtbianlkenallaaaGreatDoor
open Go.RowKit
theorem words_any (x : Entry) (hv : vEntry x = true) (w : World) (ht : Tab w) :
 Calls Tryz.prog 90 #[env x] w fun e w' => e = .returned (.string (ewords x)) ∧ UpOf w w' := by
 have HT := hd_ ht
 clear ht
 obtain ⟨b1, b2, b3, b4, b5⟩ := vEntry_inv hv
 clear hv
 go_enter Tryz.func90, Tryz.ntmps90
 go_wp2_with fail
 refine wpg (R := fun V => (V.cell? ⟨w.heap.size, 0, none⟩ = some (i64 x.day) ∧ V.cell? ⟨w.heap.size, 1, none⟩ = some (.string x.what) ∧ V.cell? ⟨w.heap.size, 2, none⟩ = some (i64 x.value) ∧ w.heap.size < V.heap.size) ∧ UpOf w V)
  ⟨⟨World.cell?_alloc_new w #[i64 x.day, .string x.what, i64 x.value] _ 0, World.cell?_alloc_new w #[i64 x.day, .string x.what, i64 x.value] _ 1, World.cell?_alloc_new w #[i64 x.day, .string x.what, i64 x.value] _ 2, by simp⟩, uw_⟩ (fun V st => ?_)
 obtain ⟨⟨d0, d1, d2, hq⟩, hup⟩ := st
 have HT2 := hd_ (HT.out.below hup.below)
 have HU := hd_ hup
 clear hup HT
 generalize w.heap.size = q at *
 have hz1 := dec_len (n := x.day) (by omega) (by omega)
 have hz2 := dec_len (n := x.value) (by omega) (by omega)
 have hz4 := nameB_bd b3
 have z1 : (⟨#[32]⟩ : ByteArray).size = 1 := rfl
 have e1 : ∀ w, (Op.stringOp .add (dec x.day) (⟨#[32]⟩ : ByteArray)).run Tryz.prog w = .ok (.string (dec x.day ++ ⟨#[32]⟩)) w := fun w => run_string_add_sum w _ _ (by omega)
 have e2 : ∀ w, (Op.stringOp .add (dec x.day ++ ⟨#[32]⟩) x.what).run Tryz.prog w = .ok (.string (dec x.day ++ ⟨#[32]⟩ ++ x.what)) w := fun w => run_string_add_sum w _ _ (by simp only [ByteArray.size_append]; omega)
 have e3 : ∀ w, (Op.stringOp .add (dec x.day ++ ⟨#[32]⟩ ++ x.what) (⟨#[32]⟩ : ByteArray)).run Tryz.prog w = .ok (.string (dec x.day ++ ⟨#[32]⟩ ++ x.what ++ ⟨#[32]⟩)) w := fun w => run_string_add_sum w _ _ (by simp only [ByteArray.size_append]; omega)
 have e4 : ∀ w, (Op.stringOp .add (dec x.day ++ ⟨#[32]⟩ ++ x.what ++ ⟨#[32]⟩) (dec x.value)).run Tryz.prog w = .ok (.string (ewords x)) w := fun w => run_string_add_sum w _ _ (by simp only [ByteArray.size_append]; omega)
 clear hz1 hz2 hz4 z1 b3
 go_region_held3 (fun w' => (V).heap.size ≤ w'.heap.size ∧ ∀ b o, b < (V).heap.size → w'.cell? ⟨b, o, none⟩ = (V).cell? ⟨b, o, none⟩) (exact sm_of bw_) (first | (go_at_call 41; refine cu_ (decI_any _ _ (by omega) (by omega) (HT2.out.below bw_)) fun g5 => ?_))
 go_wp2_with ((with_reducible refine wru ?_); refine wrz fun _ => ?_)
 go_ret
 exact ⟨rfl, HU.out.tr bw_⟩
theorem l27Words_any (x : Entry) (hv : vEntry x = true) (b o : Nat) (w : World) (h : EAt w b o x) :
 Calls Tryz.prog 161 #[.pointer (some ⟨b, o, none⟩)] w fun e w' => e = .returned (.string (ewords x)) ∧ UpOf w w' := by
 obtain ⟨b1, b2, b3, b4, b5⟩ := vEntry_inv hv
 clear hv
 obtain ⟨hb, c0, c1, c2⟩ := h
 go_enter Tryz.func161, Tryz.ntmps161
 go_wp2_with fail
 have hz1 := dec_len (n := x.day) (by omega) (by omega)
 have hz2 := dec_len (n := x.value) (by omega) (by omega)
 have hz4 := nameB_bd b3
 have z1 : (⟨#[32]⟩ : ByteArray).size = 1 := rfl
 have e1 : ∀ w, (Op.stringOp .add (dec x.day) (⟨#[32]⟩ : ByteArray)).run Tryz.prog w = .ok (.string (dec x.day ++ ⟨#[32]⟩)) w := fun w => run_string_add_sum w _ _ (by omega)
 have e2 : ∀ w, (Op.stringOp .add (dec x.day ++ ⟨#[32]⟩) x.what).run Tryz.prog w = .ok (.string (dec x.day ++ ⟨#[32]⟩ ++ x.what)) w := fun w => run_string_add_sum w _ _ (by simp only [ByteArray.size_append]; omega)
 have e3 : ∀ w, (Op.stringOp .add (dec x.day ++ ⟨#[32]⟩ ++ x.what) (⟨#[32]⟩ : ByteArray)).run Tryz.prog w = .ok (.string (dec x.day ++ ⟨#[32]⟩ ++ x.what ++ ⟨#[32]⟩)) w := fun w => run_string_add_sum w _ _ (by simp only [ByteArray.size_append]; omega)
 have e4 : ∀ w, (Op.stringOp .add (dec x.day ++ ⟨#[32]⟩ ++ x.what ++ ⟨#[32]⟩) (dec x.value)).run Tryz.prog w = .ok (.string (ewords x)) w := fun w => run_string_add_sum w _ _ (by simp only [ByteArray.size_append]; omega)
 clear hz1 hz2 hz4 z1 b3
 go_region_held3 (fun w' => (w).heap.size ≤ w'.heap.size ∧ ∀ b o, b < (w).heap.size → w'.cell? ⟨b, o, none⟩ = (w).cell? ⟨b, o, none⟩) (exact sm_of bw_) (first | (go_at_call 157; refine cu_ (l01Dec_any _ _ (by omega) (by omega)) fun g5 => ?_))
 go_wp2_with ((with_reducible refine wru ?_); refine wrz fun _ => ?_)
 go_ret
 exact ⟨rfl, uw_⟩
theorem tm_pos {n : Int} (h : 0 ≤ n) : n.tmod 65519 = n % 65519 := Int.tmod_eq_emod_of_nonneg h
theorem stamp_any (x : Entry) (hv : vEntry x = true) (n : Int) (h0 : 0 ≤ n) (h1 : n < 65519) (w : World) (ht : Tab w) :
 Calls Tryz.prog 174 #[env x, i64 n] w fun e w' => e = .returned (i64 (stampP n x)) ∧ UpOf w w' := by
 have HT := hd_ ht
 have HV := hd_ hv
 have hl0 := ewords_len hv
 clear ht hv
 obtain ⟨R, hR⟩ := nm_ (stampP n x)
 rw [hR]
 obtain ⟨s0, hs0⟩ := nm_ ((n + 29) % 65519)
 have ht0 : (n + 29).tmod 65519 = s0 := by rw [tm_pos (by omega), hs0]
 have hb0 : 0 ≤ s0 ∧ s0 < 65519 := by omega
 obtain ⟨t, hte⟩ := nm_ (ewords x)
 have hl : t.size ≤ 52 := by rw [← hte]; exact hl0
 have HR := hd_ (show stampG s0 t.data.toList = R by rw [← hte, ← hs0, ← hR]; rfl)
 have cw : ∀ W, Tab W → Calls Tryz.prog 90 #[env x] W fun e w' => e = .returned (.string t) ∧ UpOf W w' := fun W hW => by rw [← hte]; exact words_any x HV.out W hW
 have CW := hd_ cw
 clear hR hs0 hte hl0 cw
 go_enter Tryz.func174, Tryz.ntmps174
 go_wp2_with (first | (go_at_call 90; refine cu_ (CW.out _ (HT.out.below bw_)) fun g => ?_))
 refine wpg (R := fun V => UpOf w V) (uw_) (fun W hup => ?_)
 have HU := hd_ hup
 clear hup HT
 generalize w.heap.size = q at *
 go_loopw [5, 15] (fun s i wr => ∃ (k : Nat) (v : Int), k ≤ t.size ∧ 0 ≤ v ∧ v < 65519 ∧ i = i64 k ∧ s = i64 v ∧ Hid (stampG s0 (t.data.toList.take k) = v) ∧ ∃ g : Up W, wr = up W g) (fun _ i _ => t.size - (intOf i).toNat)
 case atStart => exact ⟨0, s0, by omega, hb0.1, hb0.2, rfl, rfl, rfl, ex_up bw_⟩
 case round =>
  obtain ⟨k, v, hk, hv0, hv1, rfl, rfl, hvk, g, rfl⟩ := hrel
  by_cases hlt : k < t.size
  ·obtain ⟨c, hc⟩ := nm_ (t[k])
   obtain ⟨v', hv'⟩ : ∃ v', (37 * v + (c.toNat : Int)) % 65519 = v' := ⟨_, rfl⟩
   have hcb : c.toNat < 256 := UInt8.toNat_lt c
   have hm : (37 * v + (c.toNat : Int)).tmod 65519 = v' := by rw [tm_pos (by omega), hv']
   have hb' : 0 ≤ v' ∧ v' < 65519 := by omega
   have hkl : k < t.data.toList.length := hlt
   have hg2 := hd_ (show stampG s0 (t.data.toList.take (k + 1)) = v' by
    rw [List.take_add_one, List.getElem?_eq_getElem hkl, Option.toList_some, stampG_snoc, hvk.out, ← hv', ← hc]; rfl)
   have HB' := hd_ hb'
   clear hv' hb'
   go_wp2_with fail
   go_roundw
   case rel => exact ⟨k + 1, v', by omega, HB'.out.1, HB'.out.2, by go_num, rfl, hg2, ex_up bw_⟩
   case measure => (simp [intOf]; try omega)
  ·obtain rfl : k = t.size := by omega
   have hR2 := hd_ (show R = v by rw [← HR.out, ← hvk.out, List.take_of_length_le (Nat.le_of_eq (bsz t))])
   go_wp2_with fail
   go_ret
   exact ⟨by rw [hR2.out] <;> rfl, HU.out.tr bw_⟩
theorem l27Stamp_any (t : ByteArray) (hl : t.size ≤ 52) (x : Entry) (hte : t = ewords x) (n : Int) (h0 : 0 ≤ n) (h1 : n < 65519) (w : World) :
 Calls Tryz.prog 192 #[i64 n, .string t] w fun e w' => e = .returned (i64 (stampP n x)) ∧ UpOf w w' := by
 obtain ⟨R, hR⟩ := nm_ (stampP n x)
 rw [hR]
 obtain ⟨s0, hs0⟩ := nm_ ((n + 29) % 65519)
 have ht0 : (n + 29).tmod 65519 = s0 := by rw [tm_pos (by omega), hs0]
 have hb0 : 0 ≤ s0 ∧ s0 < 65519 := by omega
 have HR := hd_ (show stampG s0 t.data.toList = R by rw [hte, ← hs0, ← hR]; rfl)
 clear hR hs0 hte
 go_enter Tryz.func192, Tryz.ntmps192
 go_wp2_with fail
 refine wpg (R := fun V => UpOf w V) (uw_) (fun W hup => ?_)
 have HU := hd_ hup
 clear hup
 go_loopw [5, 6] (fun s i wr => ∃ (k : Nat) (v : Int), k ≤ t.size ∧ 0 ≤ v ∧ v < 65519 ∧ i = i64 k ∧ s = i64 v ∧ Hid (stampG s0 (t.data.toList.take k) = v) ∧ ∃ g : Up W, wr = up W g) (fun _ i _ => t.size - (intOf i).toNat)
 case atStart => exact ⟨0, s0, by omega, hb0.1, hb0.2, rfl, rfl, rfl, ex_up bw_⟩
 case round =>
  obtain ⟨k, v, hk, hv0, hv1, rfl, rfl, hvk, g, rfl⟩ := hrel
  by_cases hlt : k < t.size
  ·obtain ⟨c, hc⟩ := nm_ (t[k])
   obtain ⟨v', hv'⟩ : ∃ v', (37 * v + (c.toNat : Int)) % 65519 = v' := ⟨_, rfl⟩
   have hcb : c.toNat < 256 := UInt8.toNat_lt c
   have hm : (37 * v + (c.toNat : Int)).tmod 65519 = v' := by rw [tm_pos (by omega), hv']
   have hb' : 0 ≤ v' ∧ v' < 65519 := by omega
   have hkl : k < t.data.toList.length := hlt
   have hg2 := hd_ (show stampG s0 (t.data.toList.take (k + 1)) = v' by
    rw [List.take_add_one, List.getElem?_eq_getElem hkl, Option.toList_some, stampG_snoc, hvk.out, ← hv', ← hc]; rfl)
   have HB' := hd_ hb'
   clear hv' hb'
   go_wp2_with fail
   go_roundw
   case rel => exact ⟨k + 1, v', by omega, HB'.out.1, HB'.out.2, by go_num, rfl, hg2, ex_up bw_⟩
   case measure => (simp [intOf]; try omega)
  ·obtain rfl : k = t.size := by omega
   have hR2 := hd_ (show R = v by rw [← HR.out, ← hvk.out, List.take_of_length_le (Nat.le_of_eq (bsz t))])
   go_wp2_with fail
   go_ret
   exact ⟨by rw [hR2.out] <;> rfl, HU.out.tr bw_⟩
def encs (l : List Entry) : List Value := l.flatMap Entry.cells
theorem en_clen (h : Entry) : h.cells.length = 3 := rfl
theorem en_at {w : World} {A : Option Addr} {l : List Entry} (h : Rds w 3 A l.length (encs l)) {k : Nat} (hk : k < l.length) :
 ∃ b off, A = some ⟨b, off, none⟩ ∧ b < w.heap.size ∧ w.cell? ⟨b, off + k * 3, none⟩ = some (i64 l[k].day) ∧ w.cell? ⟨b, off + k * 3 + 1, none⟩ = some (.string l[k].what) ∧ w.cell? ⟨b, off + k * 3 + 2, none⟩ = some (i64 l[k].value) := by
 obtain ⟨b, off, e, hb, hc⟩ := rds_elem en_clen h hk (by omega)
 exact ⟨b, off, e, hb, hc 0 _ rfl, hc 1 _ rfl, hc 2 _ rfl⟩
theorem wpl_appAt {P : Program} {w : World} {ops : Array Oper} {rest : List Oper} {o : Oper} {a : Act} {Q : Exit → Act → World → Prop} (hgd : o.guard = none) (s x : Operand) (t : TypeId)
 (ho : o.op = .call { callee := .builtin .append, args := #[s, x], argTypes := #[t, t] })
 (base : Nat) (e : TypeId) (z : Value) (size bytes : Nat) (el : ElemOf P t e z size bytes)
 (v : Value) (n : Nat) (xs : List Value) (hs : a.eval s = v) (hown : w.ownsRow base e size v n xs)
 (b m c : Nat) (news : List Value) (hx : a.eval x = .slice (some ⟨b, 0, none⟩) m c) (hr : Rds w size (some ⟨b, 0, none⟩) m news) (h1 : ∀ u ∈ news, u.oneCell' = true)
 (hm : 0 < m) (h63 : n + m ≤ maxLen) (hbytes : (n + m) * bytes ≤ 140737488355328) (hbase : base ≤ w.heap.size)
 (h : ∀ g cap w', w'.ownsRow base e size (.slice (some ⟨g, 0, none⟩) (n + m) cap) (n + m) (xs ++ news) → w.grownBy w' v.ownBlock → (v.ownBlock = some g ∨ g = w.heap.size) → wpList P ops Q rest (a.put o.dst (.slice (some ⟨g, 0, none⟩) (n + m) cap)) w') : wpList P ops Q (o :: rest) a w := by
 obtain ⟨ht, hzs, hsz, i, hi, hz, hsize, hby⟩ := el
 refine wpList_append_lies w hgd s x t ho base e i z size bytes ht hi hz hsize hby hzs hsz v n xs hs hown ⟨b, 0, none⟩ m c news hx hr.1 (fun j u hu => ?_) h1 hm h63 hbytes hbase _ rfl fun g cap w' h2 h3 h4 _ => h g cap w' h2 h3 h4
 have hj : j < news.length := (List.getElem?_eq_some_iff.1 hu).1
 obtain ⟨b', off, e, _, hc⟩ := hr.2 (by rw [← hr.1]; omega)
 injection e with e
 injection e with e1 e2
 subst e1 e2
 have hadd : (⟨b, 0, none⟩ : Addr).add j = ⟨b, 0 + j, none⟩ := by unfold Addr.add; split <;> simp_all
 rw [hadd]
 exact hc j u hu
theorem step_appAt {P : Program} {w : World} {ops : Array Oper} {o : Oper} {a : Act} {K : Act → World → Prop} {Q : Exit → Act → World → Prop} {E : Prop} (hgd : o.guard = none) (s x : Operand) (t : TypeId)
 (ho : o.op = .call { callee := .builtin .append, args := #[s, x], argTypes := #[t, t] })
 (base : Nat) (e : TypeId) (z : Value) (size bytes : Nat) (el : ElemOf P t e z size bytes)
 (v : Value) (n : Nat) (xs : List Value) (hs : a.eval s = v) (hown : w.ownsRow base e size v n xs)
 (b m c : Nat) (news : List Value) (hx : a.eval x = .slice (some ⟨b, 0, none⟩) m c) (hr : Rds w size (some ⟨b, 0, none⟩) m news) (h1 : ∀ u ∈ news, u.oneCell' = true)
 (hm : 0 < m) (h63 : n + m ≤ maxLen) (hbytes : (n + m) * bytes ≤ 140737488355328) (hbase : base ≤ w.heap.size)
 (h : ∀ g cap w', w'.ownsRow base e size (.slice (some ⟨g, 0, none⟩) (n + m) cap) (n + m) (xs ++ news) → w.grownBy w' v.ownBlock → (v.ownBlock = some g ∨ g = w.heap.size) → K (a.put o.dst (.slice (some ⟨g, 0, none⟩) (n + m) cap)) w') :
 if Region.wanted o (yielded ops a.tmps) = true then Oper.wp P o a w K Q else E := by
 obtain ⟨ht, hzs, hsz, i, hi, hz, hsize, hby⟩ := el
 refine step_append_lies w hgd s x t ho base e i z size bytes ht hi hz hsize hby hzs hsz v n xs hs hown ⟨b, 0, none⟩ m c news hx hr.1 (fun j u hu => ?_) h1 hm h63 hbytes hbase _ rfl fun g cap w' h2 h3 h4 _ => h g cap w' h2 h3 h4
 have hj : j < news.length := (List.getElem?_eq_some_iff.1 hu).1
 obtain ⟨b', off, e, _, hc⟩ := hr.2 (by rw [← hr.1]; omega)
 injection e with e
 injection e with e1 e2
 subst e1 e2
 have hadd : (⟨b, 0, none⟩ : Addr).add j = ⟨b, 0 + j, none⟩ := by unfold Addr.add; split <;> simp_all
 rw [hadd]
 exact hc j u hu
theorem dig_sub {c : UInt8} (h : digit c = true) : ((c.toNat : Int) - 48) = (dval c : Int) := by
 have := of_decide_eq_true h
 unfold dval
 omega
theorem take_snoc {l : List UInt8} {k : Nat} (h : k < l.length) : l.take (k + 1) = l.take k ++ [l.getD k 0] := by
 rw [List.take_add_one, List.getElem?_eq_getElem h]
 simp [h]
theorem valL_take_bd {l : List UInt8} {k : Nat} (h : ∀ j, j < k → digit (l.getD j 0) = true) (hk : k ≤ 17) (hl : k ≤ l.length) : valL 0 (l.take k) < 100000000000000000 := by
 have h1 := valL_lt (l.take k) (fun c hc => by
  obtain ⟨j, hj, rfl⟩ := List.getElem_of_mem hc
  rw [List.length_take] at hj
  have := h j (by omega)
  rw [List.getElem_take]
  rw [List.getD_eq_getElem?_getD, List.getElem?_eq_getElem (by omega)] at this
  exact this)
 have h2 : 10 ^ (l.take k).length ≤ 10 ^ 17 := Nat.pow_le_pow_right (by omega) (by rw [List.length_take]; omega)
 have h3 : (10 : Nat) ^ 17 = 100000000000000000 := by decide
 omega
theorem all_of_at {l : List UInt8} (h : ∀ j, j < l.length → digit (l.getD j 0) = true) : l.all digit = true := by
 rw [List.all_eq_true]
 intro c hc
 obtain ⟨j, hj, rfl⟩ := List.getElem_of_mem hc
 have := h j hj
 rwa [List.getD_eq_getElem?_getD, List.getElem?_eq_getElem hj] at this
theorem all_no {l : List UInt8} {k : Nat} (hk : k < l.length) (h : digit (l.getD k 0) = false) : l.all digit = false := by
 rw [← Bool.not_eq_true, List.all_eq_true]
 intro hc
 have := hc (l.getD k 0) (by rw [List.getD_eq_getElem?_getD, List.getElem?_eq_getElem hk]; exact List.getElem_mem hk)
 rw [h] at this; cases this
theorem tl_ne {a b : ByteArray} (h : ¬ a = b) : (!(a.toList == b.toList)) = true := by
 rw [ByteArray.toList_eq, ByteArray.toList_eq]
 have : (a.data.toList == b.data.toList) = false := by rw [beq_eq_false_iff_ne]; intro he; exact h (ba_ext he)
 rw [this]; rfl
theorem tl_eq {a b : ByteArray} (h : a = b) : (!(a.toList == b.toList)) = false := by subst h; simp
theorem readDecimal_any (s : ByteArray) (w : World) (hs : s.size ≤ 9223372036854775807) (htab : Tab w) :
 Calls Tryz.prog 79 #[.string s] w fun e w' => e = .returned (.tuple #[i64 (rdR s).1, .bool (rdR s).2]) ∧ UpOf w w' := by
 have HTAB := hd_ htab
 clear htab
 by_cases h0 : 0 < s.size
 ·have hb := hd_ (byteAt_eq h0)
  by_cases h45 : (s[0].toNat : Int) = 45
  ·have hg := hd_ (show negS s = true by unfold negS; rw [← hb.out]; exact decide_eq_true ⟨h0, h45⟩)
   obtain ⟨t, ht⟩ := nm_ (s.extract 1 s.size)
   have htl : t.data.toList = digs s := by
    rw [digs, if_pos hg.out, ← ht, bs_extract s 1 s.size, bs_list, List.take_of_length_le (by simp)]
   obtain ⟨m, htm⟩ := nm_ (t.size)
   have hms : m < s.size := by rw [← htm, ← ht, ByteArray.size_extract]; omega
   obtain ⟨T, hT0⟩ := nm_ (digs s)
   have HTL := hd_ hT0
   have HTT := hd_ (htl.trans hT0)
   have hT := hd_ (show T.length = m by rw [← hT0, ← htl, ← htm]; rfl)
   clear htl hT0
   go_enter Tryz.func79, Tryz.ntmps79
   by_cases hl : 1 ≤ m ∧ m ≤ 18
   ·obtain ⟨l1, l2⟩ := hl
    have z : ((m : Int) == 0) = false := by rw [beq_eq_false_iff_ne]; omega
    have L12 := hd_ (show 1 ≤ (digs s).length ∧ (digs s).length ≤ 18 by rw [HTL.out, hT.out]; exact ⟨l1, l2⟩)
    go_wp2_with fail
    go_loopw [5, 28] (fun n i wr => ∃ (k v : Nat), k ≤ m ∧ i = i64 k ∧ n = i64 v ∧ Hid (valL 0 (T.take k) = v) ∧ Hid (∀ j, j < k → digit (T.getD j 0) = true) ∧ ∃ g : Up w, wr = up w g) (fun _ i _ => m - (intOf i).toNat)
    case atStart => exact ⟨0, 0, by omega, rfl, rfl, rfl, fun j hj => by omega, ex_up bw_⟩
    case round =>
     obtain ⟨k, v, hk, rfl, rfl, hv, hall, g, rfl⟩ := hrel
     by_cases hlt : k < m
     ·have hlt' : k < t.size := by omega
      have hbt := hd_ (show t[k] = T.getD k 0 by rw [byteAt_eq hlt', byteAt, HTT.out])
      cases q : digit t[k]
      ·have HF := hd_ (rdR_no (numB_digit (s := s) (by rw [HTL.out]; exact all_no (by rw [hT.out]; exact hlt) (by rw [← hbt.out]; exact q))))
       go_wp2_with (first | (go_at_call 130; refine cs_ (ra_ (isDigit_any _ _) q) ?_))
       go_ret2
       exact ⟨by rw [HF.out]; rfl, uw_⟩
      ·have hv0 := valL_take_bd hall.out (by omega) (by rw [hT.out]; omega)
       rw [hv.out] at hv0
       have hds := dig_sub q
       have hdl := dval_lt q
       have hq := of_decide_eq_true q
       have hv2 := hd_ (show valL 0 (T.take (k + 1)) = 10 * v + dval t[k] by rw [take_snoc (by rw [hT.out]; exact hlt), valL_snoc, hv.out, hbt.out])
       have hall2 := hd_ (lt_ext (P := fun j => digit (T.getD j 0) = true) hall.out (by rw [← hbt.out]; exact q))
       go_wp2_with (first | (go_at_call 130; refine cs_ (ra_ (isDigit_any _ _) q) ?_))
       go_roundw
       case rel => exact ⟨k + 1, 10 * v + dval t[k], by omega, by go_num, by go_num, hv2, hall2, ex_up bw_⟩
       case measure => (simp [intOf]; try omega)
     ·obtain rfl : k = m := by omega
      have HA := hd_ (show (digs s).all digit = true by rw [HTL.out]; exact all_of_at (by rw [hT.out]; exact hall.out))
      have HV := hd_ (show sval s = -(v : Int) by rw [sval, if_pos hg.out, HTL.out, ← hv.out, List.take_of_length_le (by rw [hT.out]; omega)])
      have HB := hd_ (sval_bd L12.out.2 HA.out)
      rw [HV.out] at HB
      have hB := HB.out
      by_cases hd : dec (-(v : Int)) = s
      ·have HF := hd_ (rdR_ok (numB_ok L12.out HA.out (by rw [HV.out]; exact hd)))
       have hne := tl_eq hd
       go_wp2_with (first | (go_at_call 41; refine cu_ (decI_any _ _ (by omega) (by omega) (HTAB.out.below bw_)) fun g => ?_))
       go_ret2
       exact ⟨by rw [HF.out, HV.out] <;> rfl, uw_⟩
      ·have HF := hd_ (rdR_no (numB_dec (s := s) (by rw [HV.out]; exact hd)))
       have hne := tl_ne hd
       go_wp2_with (first | (go_at_call 41; refine cu_ (decI_any _ _ (by omega) (by omega) (HTAB.out.below bw_)) fun g => ?_))
       go_ret2
       exact ⟨by rw [HF.out]; rfl, uw_⟩
   ·have HF := hd_ (rdR_no (numB_len (s := s) (by rw [HTL.out, hT.out]; exact hl)))
    by_cases l0 : m = 0
    ·have z : ((m : Int) == 0) = true := by rw [beq_iff_eq]; omega
     go_wp2_with fail
     go_ret2
     exact ⟨by rw [HF.out]; rfl, uw_⟩
    ·have z : ((m : Int) == 0) = false := by rw [beq_eq_false_iff_ne]; omega
     have l3 : 18 < m := by omega
     go_wp2_with fail
     go_ret2
     exact ⟨by rw [HF.out]; rfl, uw_⟩
  ·have hg := hd_ (show negS s = false by unfold negS; rw [← hb.out]; exact decide_eq_false fun h => h45 h.2)
   obtain ⟨t, rfl⟩ := nm_ (s)
   have htl : s.data.toList = digs s := by rw [digs, if_neg (by rw [hg.out]; simp)]
   obtain ⟨m, htm⟩ := nm_ (s.size)
   obtain ⟨T, hT0⟩ := nm_ (digs s)
   have HTL := hd_ hT0
   have HTT := hd_ (htl.trans hT0)
   have hT := hd_ (show T.length = m by rw [← hT0, ← htl, ← htm]; rfl)
   clear htl hT0
   obtain ⟨c0, hc0⟩ := nm_ (s[0])
   rw [hc0] at h45
   have z45 : ((c0.toNat : Int) == 45) = false := by rw [beq_eq_false_iff_ne]; exact h45
   go_enter Tryz.func79, Tryz.ntmps79
   by_cases hl : 1 ≤ m ∧ m ≤ 18
   ·obtain ⟨l1, l2⟩ := hl
    have z : ((m : Int) == 0) = false := by rw [beq_eq_false_iff_ne]; omega
    have L12 := hd_ (show 1 ≤ (digs s).length ∧ (digs s).length ≤ 18 by rw [HTL.out, hT.out]; exact ⟨l1, l2⟩)
    go_wp2_with fail
    go_loopw [5, 28] (fun n i wr => ∃ (k v : Nat), k ≤ m ∧ i = i64 k ∧ n = i64 v ∧ Hid (valL 0 (T.take k) = v) ∧ Hid (∀ j, j < k → digit (T.getD j 0) = true) ∧ ∃ g : Up w, wr = up w g) (fun _ i _ => m - (intOf i).toNat)
    case atStart => exact ⟨0, 0, by omega, rfl, rfl, rfl, fun j hj => by omega, ex_up bw_⟩
    case round =>
     obtain ⟨k, v, hk, rfl, rfl, hv, hall, g, rfl⟩ := hrel
     by_cases hlt : k < m
     ·have hlt' : k < s.size := by omega
      have hbt := hd_ (show s[k] = T.getD k 0 by rw [byteAt_eq hlt', byteAt, HTT.out])
      cases q : digit s[k]
      ·have HF := hd_ (rdR_no (numB_digit (s := s) (by rw [HTL.out]; exact all_no (by rw [hT.out]; exact hlt) (by rw [← hbt.out]; exact q))))
       go_wp2_with (first | (go_at_call 130; refine cs_ (ra_ (isDigit_any _ _) q) ?_))
       go_ret2
       exact ⟨by rw [HF.out]; rfl, uw_⟩
      ·have hv0 := valL_take_bd hall.out (by omega) (by rw [hT.out]; omega)
       rw [hv.out] at hv0
       have hds := dig_sub q
       have hdl := dval_lt q
       have hq := of_decide_eq_true q
       have hv2 := hd_ (show valL 0 (T.take (k + 1)) = 10 * v + dval s[k] by rw [take_snoc (by rw [hT.out]; exact hlt), valL_snoc, hv.out, hbt.out])
       have hall2 := hd_ (lt_ext (P := fun j => digit (T.getD j 0) = true) hall.out (by rw [← hbt.out]; exact q))
       go_wp2_with (first | (go_at_call 130; refine cs_ (ra_ (isDigit_any _ _) q) ?_))
       go_roundw
       case rel => exact ⟨k + 1, 10 * v + dval s[k], by omega, by go_num, by go_num, hv2, hall2, ex_up bw_⟩
       case measure => (simp [intOf]; try omega)
     ·obtain rfl : k = m := by omega
      have HA := hd_ (show (digs s).all digit = true by rw [HTL.out]; exact all_of_at (by rw [hT.out]; exact hall.out))
      have HV := hd_ (show sval s = (v : Int) by rw [sval, if_neg (by rw [hg.out]; simp), HTL.out, ← hv.out, List.take_of_length_le (by rw [hT.out]; omega)])
      have HB := hd_ (sval_bd L12.out.2 HA.out)
      rw [HV.out] at HB
      have hB := HB.out
      by_cases hd : dec ((v : Int)) = s
      ·have HF := hd_ (rdR_ok (numB_ok L12.out HA.out (by rw [HV.out]; exact hd)))
       have hne := tl_eq hd
       go_wp2_with (first | (go_at_call 41; refine cu_ (decI_any _ _ (by omega) (by omega) (HTAB.out.below bw_)) fun g => ?_))
       go_ret2
       exact ⟨by rw [HF.out, HV.out] <;> rfl, uw_⟩
      ·have HF := hd_ (rdR_no (numB_dec (s := s) (by rw [HV.out]; exact hd)))
       have hne := tl_ne hd
       go_wp2_with (first | (go_at_call 41; refine cu_ (decI_any _ _ (by omega) (by omega) (HTAB.out.below bw_)) fun g => ?_))
       go_ret2
       exact ⟨by rw [HF.out]; rfl, uw_⟩
   ·have HF := hd_ (rdR_no (numB_len (s := s) (by rw [HTL.out, hT.out]; exact hl)))
    by_cases l0 : m = 0
    ·have z : ((m : Int) == 0) = true := by rw [beq_iff_eq]; omega
     go_wp2_with fail
     go_ret2
     exact ⟨by rw [HF.out]; rfl, uw_⟩
    ·have z : ((m : Int) == 0) = false := by rw [beq_eq_false_iff_ne]; omega
     have l3 : 18 < m := by omega
     go_wp2_with fail
     go_ret2
     exact ⟨by rw [HF.out]; rfl, uw_⟩
 ·have h1 : s.size = 0 := by omega
  have HF := hd_ (rdR_no (numB_len (s := s) (by
   have : digs s = [] := by
    have h2 : s.data.toList = [] := List.eq_nil_of_length_eq_zero (by rw [bsz]; exact h1)
    rw [digs, h2]; simp
   rw [this]; simp)))
  go_enter Tryz.func79, Tryz.ntmps79
  go_wp2_with fail
  go_ret2
  exact ⟨by rw [HF.out]; rfl, uw_⟩
theorem drop_at {l : List UInt8} {k : Nat} (h : k < l.length) : l.drop k = l.getD k 0 :: l.drop (k + 1) := by
 rw [List.drop_eq_getElem_cons h]
 simp [h]
theorem cur_snoc {l : List UInt8} {f k : Nat} (h : k < l.length) (hf : f ≤ k) : (l.drop f).take (k + 1 - f) = (l.drop f).take (k - f) ++ [l.getD k 0] := by
 rw [show k + 1 - f = (k - f) + 1 by omega, List.take_add_one, List.getElem?_drop, show f + (k - f) = k by omega, List.getElem?_eq_getElem h]
 simp [h]
theorem l01Split_any (s : ByteArray) (b : UInt8) (x : Int) (hx : (b.toNat : Int) = x) (w : World) (hs : s.size ≤ 1000000000) :
 Calls Tryz.prog 44 #[.string s, .int .u8 x] w fun e w' => ∃ A c, e = .returned (.slice A (splitA b [] s.data.toList).length c) ∧ w'.ownsRow w.heap.size 9 1 (.slice A (splitA b [] s.data.toList).length c) (splitA b [] s.data.toList).length (strs (splitA b [] s.data.toList)) ∧ UpOf w w' := by
 have hOwn := hd_ (World.ownsRow_lit (base := w.heap.size) (e := 9) (size := 1) w #[] 0 (Nat.le_refl _) (by unfold maxLen; omega) rfl)
 obtain ⟨L, hL⟩ := nm_ (s.data.toList)
 have hLn := hd_ (show L.length = s.size by rw [← hL]; rfl)
 have HL := hd_ hL
 rw [hL]
 clear hL
 obtain ⟨R, hR⟩ := nm_ (splitA b [] L)
 have HR := hd_ hR
 rw [hR]
 clear hR
 go_enter Tryz.func44, Tryz.ntmps44
 go_wp2_with fail
 go_loopw [5, 6, 7] (fun o f i wr => ∃ (k fr : Nat) (ws : List ByteArray) (A : Option Addr) (c : Nat), k ≤ s.size ∧ fr ≤ k ∧ ws.length ≤ k ∧ i = i64 k ∧ f = i64 fr ∧ o = .slice A ws.length c ∧ Hid (splitA b [] L = ws ++ splitA b ((L.drop fr).take (k - fr)) (L.drop k)) ∧ wr.ownsRow w.heap.size 9 1 (.slice A ws.length c) ws.length (strs ws) ∧ ∃ g : Up w, wr = up w g) (fun _ _ i _ => s.size - (intOf i).toNat)
 case atStart => exact ⟨0, 0, [], _, _, by omega, by omega, Nat.le_refl _, rfl, rfl, rfl, by show _ = _; simp, hOwn.out, ex_up bw_⟩
 case round =>
  obtain ⟨k, fr, ws, A, c, hk, hfr, hwl, rfl, rfl, rfl, hsp, hown, g, rfl⟩ := hrel
  by_cases hlt : k < s.size
  ·have hbt := hd_ (show s[k] = L.getD k 0 by rw [byteAt_eq hlt, byteAt, HL.out])
   have hkl : k < L.length := by rw [hLn.out]; exact hlt
   have hdr := hd_ (drop_at hkl)
   by_cases q : (s[k].toNat : Int) = x
   ·have qe : ((s[k].toNat : Int) == x) = true := by rw [beq_iff_eq]; exact q
    have hcb : s[k] = b := by
     have : s[k].toNat = b.toNat := by omega
     exact UInt8.toNat_inj.1 this
    have hsp2 := hd_ (show splitA b [] L = (ws ++ [s.extract fr k]) ++ splitA b ((L.drop (k + 1)).take (k + 1 - (k + 1))) (L.drop (k + 1)) by
     rw [hsp.out, hdr.out, ← hbt.out, hcb, splitA_hit, bs_extract, HL.out]; simp)
    clear q hcb hkl
    go_wp2_with (first | (at_builtin; go_must (refine wpl_appU rfl _ _ 24 rfl w w.heap.size 9 _ 1 16 el_str (.slice A ws.length c) ws.length (strs ws) rfl (ob_ hown bw_) _ 1 1 [.string (s.extract fr k)] rfl (rds_new _ _ _ 1 1 rfl) (fun u hu => by simp at hu; subst hu; rfl) (by unfold maxLen; omega) (by omega) (ub_ w _).size bw_ (Nat.le_refl _) ?_; intro A2 c2 g2 o2)))
    go_roundw
    case rel => exact ⟨k + 1, k + 1, ws ++ [s.extract fr k], A2, c2, by omega, by omega, by simp; omega, by go_num, by go_num, by simp, hsp2, by rw [List.length_append, strs_app]; exact o2, _, rfl⟩
    case measure => (simp [intOf]; try omega)
   ·have qe : ((s[k].toNat : Int) == x) = false := by rw [beq_eq_false_iff_ne]; exact q
    have hsp2 := hd_ (show splitA b [] L = ws ++ splitA b ((L.drop fr).take (k + 1 - fr)) (L.drop (k + 1)) by
     rw [hsp.out, hdr.out, cur_snoc hkl hfr, splitA, if_neg (by rw [← hbt.out]; intro he; exact q (by rw [he]; exact hx))])
    clear q hkl
    go_wp2_with fail
    go_roundw
    case rel => exact ⟨k + 1, fr, ws, A, c, by omega, by omega, by omega, by go_num, rfl, rfl, hsp2, hown, ex_up bw_⟩
    case measure => (simp [intOf]; try omega)
  ·obtain rfl : k = s.size := by omega
   have e0 : L.drop s.size = [] := List.drop_eq_nil_of_le (by rw [hLn.out]; exact Nat.le_refl _)
   have hsp2 := hd_ (show R = ws ++ [s.extract fr s.size] by
    rw [← HR.out, hsp.out, e0, splitA, bs_extract, HL.out])
   clear e0
   go_wp2_with (first | (at_builtin; go_must (refine wpl_appU rfl _ _ 24 rfl w w.heap.size 9 _ 1 16 el_str (.slice A ws.length c) ws.length (strs ws) rfl (ob_ hown bw_) _ 1 1 [.string (s.extract fr s.size)] rfl (rds_new _ _ _ 1 1 rfl) (fun u hu => by simp at hu; subst hu; rfl) (by unfold maxLen; omega) (by omega) (ub_ w _).size bw_ (Nat.le_refl _) ?_; intro A2 c2 g2 o2)))
   go_ret
   rw [hsp2.out, List.length_append, strs_app]
   exact ⟨A2, c2, rfl, o2, uw_⟩
def curW (L : List UInt8) (k : Nat) : Option Nat → List UInt8
 | none => []
 | some f => (L.drop f).take (k - f)
def stW : Option Nat → Value
 | none => i64 (-1)
 | some f => i64 f
theorem splitWords_any (s : ByteArray) (w : World) (hs : s.size ≤ 1000000000) :
 Calls Tryz.prog 76 #[.string s] w fun e w' => ∃ A c, e = .returned (.slice A (wordsA [] s.data.toList).length c) ∧ w'.ownsRow w.heap.size 9 1 (.slice A (wordsA [] s.data.toList).length c) (wordsA [] s.data.toList).length (strs (wordsA [] s.data.toList)) ∧ UpOf w w' := by
 have hOwn := hd_ (World.ownsRow_lit (base := w.heap.size) (e := 9) (size := 1) w #[] 0 (Nat.le_refl _) (by unfold maxLen; omega) rfl)
 obtain ⟨L, hL⟩ := nm_ (s.data.toList)
 have hLn := hd_ (show L.length = s.size by rw [← hL]; rfl)
 have HL := hd_ hL
 rw [hL]
 clear hL
 obtain ⟨R, hR⟩ := nm_ (wordsA [] L)
 have HR := hd_ hR
 rw [hR]
 clear hR
 go_enter Tryz.func76, Tryz.ntmps76
 go_wp2_with fail
 go_loopw [3, 4, 9] (fun o f i wr => ∃ (k : Nat) (st : Option Nat) (ws : List ByteArray) (A : Option Addr) (c : Nat), k ≤ s.size ∧ Hid (∀ f, st = some f → f < k) ∧ ws.length ≤ k ∧ i = i64 k ∧ f = stW st ∧ o = .slice A ws.length c ∧ Hid (wordsA [] L = ws ++ wordsA (curW L k st) (L.drop k)) ∧ wr.ownsRow w.heap.size 9 1 (.slice A ws.length c) ws.length (strs ws) ∧ ∃ g : Up w, wr = up w g) (fun _ _ i _ => s.size - (intOf i).toNat)
 case atStart => exact ⟨0, none, [], _, _, by omega, (by intro f hf; cases hf), Nat.le_refl _, rfl, rfl, rfl, by show _ = _; simp [curW], hOwn.out, ex_up bw_⟩
 case round =>
  obtain ⟨k, st, ws, A, c, hk, hst, hwl, rfl, rfl, rfl, hsp, hown, g, rfl⟩ := hrel
  by_cases hlt : k < s.size
  ·have hbt := hd_ (show s[k] = L.getD k 0 by rw [byteAt_eq hlt, byteAt, HL.out])
   have hkl : k < L.length := by rw [hLn.out]; exact hlt
   have hdr := hd_ (drop_at hkl)
   by_cases q : (s[k].toNat : Int) = 32
   ·have qe : ((s[k].toNat : Int) == 32) = true := by rw [beq_iff_eq]; exact q
    have hcb : s[k] = 32 := by
     have : s[k].toNat = (32 : UInt8).toNat := by simp; omega
     exact UInt8.toNat_inj.1 this
    cases st with
    | none =>
      have hsp2 := hd_ (show wordsA [] L = ws ++ wordsA (curW L (k + 1) none) (L.drop (k + 1)) by
       rw [hsp.out, hdr.out, ← hbt.out, hcb]; simp [curW, wordsA])
      clear q hcb hkl
      unfold stW
      go_wp2_with fail
      go_roundw
      case rel => exact ⟨k + 1, none, ws, A, c, by omega, (by intro f hf; cases hf), by omega, by go_num, rfl, rfl, hsp2, hown, ex_up bw_⟩
      case measure => (simp [intOf]; try omega)
    | some fr =>
      have hfr := hst.out fr rfl
      have hfr' := Nat.le_of_lt hfr
      have hcne : curW L k (some fr) ≠ [] := by
       intro he
       have := congrArg List.length he
       simp [curW] at this
       omega
      have hsp2 := hd_ (show wordsA [] L = (ws ++ [s.extract fr k]) ++ wordsA (curW L (k + 1) none) (L.drop (k + 1)) by
       rw [hsp.out, hdr.out, ← hbt.out, hcb, wordsA, if_pos rfl, if_neg hcne, bs_extract, HL.out]; simp [curW])
      clear q hcb hkl hcne
      unfold stW
      go_wp2_with (first | (at_builtin; go_must (refine wpl_appU rfl _ _ 24 rfl w w.heap.size 9 _ 1 16 el_str (.slice A ws.length c) ws.length (strs ws) rfl (ob_ hown bw_) _ 1 1 [.string (s.extract fr k)] rfl (rds_new _ _ _ 1 1 rfl) (fun u hu => by simp at hu; subst hu; rfl) (by unfold maxLen; omega) (by omega) (ub_ w _).size bw_ (Nat.le_refl _) ?_; intro A2 c2 g2 o2)))
      go_roundw
      case rel => exact ⟨k + 1, none, ws ++ [s.extract fr k], A2, c2, by omega, (by intro f hf; cases hf), by simp; omega, by go_num, rfl, by simp, hsp2, by rw [List.length_append, strs_app]; exact o2, _, rfl⟩
      case measure => (simp [intOf]; try omega)
   ·have qe : ((s[k].toNat : Int) == 32) = false := by rw [beq_eq_false_iff_ne]; exact q
    have qn : ((s[k].toNat : Int) != 32) = true := by rw [bne_iff_ne]; exact q
    have hne : ¬ s[k] = 32 := fun he => q (by rw [he]; rfl)
    cases st with
    | none =>
      have hsp2 := hd_ (show wordsA [] L = ws ++ wordsA (curW L (k + 1) (some k)) (L.drop (k + 1)) by
       have e2 := cur_snoc hkl (Nat.le_refl k)
       rw [hsp.out, hdr.out, wordsA, if_neg (by rw [← hbt.out]; exact hne)]
       show ws ++ wordsA ([] ++ [L.getD k 0]) _ = ws ++ wordsA ((L.drop k).take (k + 1 - k)) _
       rw [e2]; simp)
      clear q hne hkl
      unfold stW
      go_wp2_with fail
      go_roundw
      case rel => exact ⟨k + 1, some k, ws, A, c, by omega, (by intro f hf; injection hf; omega), by omega, by go_num, rfl, rfl, hsp2, hown, ex_up bw_⟩
      case measure => (simp [intOf]; try omega)
    | some fr =>
      have hfr := hst.out fr rfl
      have hfr' := Nat.le_of_lt hfr
      have hsp2 := hd_ (show wordsA [] L = ws ++ wordsA (curW L (k + 1) (some fr)) (L.drop (k + 1)) by
       have e2 := cur_snoc hkl (Nat.le_of_lt hfr)
       rw [hsp.out, hdr.out, wordsA, if_neg (by rw [← hbt.out]; exact hne)]
       show ws ++ wordsA ((L.drop fr).take (k - fr) ++ [L.getD k 0]) _ = ws ++ wordsA ((L.drop fr).take (k + 1 - fr)) _
       rw [e2])
      clear q hne hkl
      unfold stW
      go_wp2_with fail
      go_roundw
      case rel => exact ⟨k + 1, some fr, ws, A, c, by omega, (by intro f hf; injection hf; omega), by omega, by go_num, rfl, rfl, hsp2, hown, ex_up bw_⟩
      case measure => (simp [intOf]; try omega)
  ·obtain rfl : k = s.size := by omega
   have e0 : L.drop s.size = [] := List.drop_eq_nil_of_le (by rw [hLn.out]; exact Nat.le_refl _)
   cases st with
   | none =>
     have hsp2 := hd_ (show R = ws by rw [← HR.out, hsp.out, e0]; simp [curW, wordsA])
     clear e0
     unfold stW
     go_wp2_with fail
     go_ret
     rw [hsp2.out]
     exact ⟨A, c, rfl, ob_ hown bw_, uw_⟩
   | some fr =>
     have hfr := hst.out fr rfl
     have hfr' := Nat.le_of_lt hfr
     have hcne : curW L s.size (some fr) ≠ [] := by
      intro he
      have := congrArg List.length he
      simp [curW, hLn.out] at this
      omega
     have hsp2 := hd_ (show R = ws ++ [s.extract fr s.size] by
      rw [← HR.out, hsp.out, e0, wordsA, if_neg hcne, bs_extract, HL.out]; rfl)
     clear e0 hcne
     unfold stW
     go_wp2_with (first | (at_builtin; go_must (refine wpl_appU rfl _ _ 24 rfl w w.heap.size 9 _ 1 16 el_str (.slice A ws.length c) ws.length (strs ws) rfl (ob_ hown bw_) _ 1 1 [.string (s.extract fr s.size)] rfl (rds_new _ _ _ 1 1 rfl) (fun u hu => by simp at hu; subst hu; rfl) (by unfold maxLen; omega) (by omega) (ub_ w _).size bw_ (Nat.le_refl _) ?_; intro A2 c2 g2 o2)))
     go_ret
     rw [hsp2.out, List.length_append, strs_app]
     exact ⟨A2, c2, rfl, o2, uw_⟩
def LI (base : Nat) (w : World) (rb : Nat) (l : List Entry) (st : Int) (sz : Nat) : Prop :=
 ∃ A c, Blk w rb 152 #[.slice A l.length c, i64 st, i64 sz] ∧ base ≤ rb ∧ w.ownsRow base 127 3 (.slice A l.length c) l.length (encs l) ∧ ((Value.slice A l.length c).ownBlock = none ∨ (Value.slice A l.length c).ownBlock ≠ some rb)
theorem LI.below {base rb sz : Nat} {w w' : World} {l : List Entry} {st : Int} (h : LI base w rb l st sz) (hb : Below w.heap.size w w') : LI base w' rb l st sz := by
 obtain ⟨A, c, h1, h2, h3, h4⟩ := h
 exact ⟨A, c, (hb.block rb h1.lt).trans h1, h2, ob_ h3 hb, h4⟩
theorem LI.lt {base rb sz : Nat} {w : World} {l : List Entry} {st : Int} (h : LI base w rb l st sz) : base ≤ rb ∧ rb < w.heap.size := by
 obtain ⟨A, c, h1, h2, h3, h4⟩ := h
 exact ⟨h2, h1.lt⟩
theorem en_last {w : World} {A : Option Addr} {l : List Entry} {n : Nat} (h : Rds w 3 A l.length (encs l)) (hn : l.length = n + 1) :
 ∃ b off, A = some ⟨b, off, none⟩ ∧ b < w.heap.size ∧ w.cell? ⟨b, off + n * 3, none⟩ = some (i64 (dayL l)) := by
 obtain ⟨b, off, e, hb, c, _⟩ := en_at h (k := n) (by omega)
 refine ⟨b, off, e, hb, ?_⟩
 have e2 : l.getD n ⟨0, ByteArray.empty, 0⟩ = l[n] := by rw [List.getD_eq_getElem?_getD, List.getElem?_eq_getElem (by omega)]; rfl
 rw [dayL, if_neg (by omega), c, eat, show l.length - 1 = n by omega, e2]
theorem dayI_any (base rb sz : Nat) (l : List Entry) (st : Int) (w : World) (h : LI base w rb l st sz) (hn : l.length ≤ 1000000000) :
 Calls Tryz.prog 173 #[.pointer (some ⟨rb, 0, none⟩)] w fun e w' => e = .returned (i64 (dayL l)) ∧ UpOf w w' := by
 obtain ⟨A, c, h1, h2, h3, h4⟩ := h
 have c0 := h1.cell 0
 have hlt := h1.lt
 simp only [List.getElem?_toArray, List.getElem?_cons_zero] at c0
 obtain ⟨D, hD⟩ := nm_ (dayL l)
 rw [hD]
 rcases Nat.eq_zero_or_pos l.length with h0 | h0
 ·have z : ((l.length : Int) == 0) = true := by rw [beq_iff_eq]; omega
  obtain rfl : D = 0 := by rw [← hD, dayL, if_pos h0]
  clear hD h1 h2 h3 h4
  go_enter Tryz.func173, Tryz.ntmps173
  go_wp2_with ((with_reducible refine wru ?_); refine wrz fun _ => ?_)
  go_ret
  exact ⟨rfl, uw_⟩
 ·obtain ⟨n, hn1⟩ : ∃ n, l.length = n + 1 := ⟨l.length - 1, by omega⟩
  obtain ⟨b, off, rfl, hb, cd⟩ := en_last (Rds.of_own h3) hn1
  rw [hD] at cd
  rw [hn1] at c0 hn
  have z : (((n + 1 : Nat) : Int) == 0) = false := by rw [beq_eq_false_iff_ne]; omega
  clear hD h1 h2 h3 h4 h0 hn1
  go_enter Tryz.func173, Tryz.ntmps173
  go_wp2_with ((with_reducible refine wru ?_); refine wrz fun _ => ?_)
  go_ret
  exact ⟨rfl, uw_⟩
theorem tl_teq {a b : ByteArray} (h : a = b) : (a.toList == b.toList) = true := by subst h; simp
theorem tl_tne {a b : ByteArray} (h : ¬ a = b) : (a.toList == b.toList) = false := by
 have := tl_ne h
 simpa using this
theorem one_byte (s : ByteArray) {L : List UInt8} (hL : s.data.toList = L) {k : Nat} (hk : k < L.length) : s.extract k (k + 1) = bs [L.getD k 0] := by
 rw [bs_extract, hL, drop_at hk, show k + 1 - k = 1 by omega]; rfl
theorem cut_any (s t : ByteArray) (b : UInt8) (ht : t = ⟨#[b]⟩) (w : World) (hs : s.size ≤ 1000000000) :
 Calls Tryz.prog 42 #[.string s, .string t] w fun e w' => e = .returned (.tuple #[.string (cutA b [] s.data.toList).1, .string (cutA b [] s.data.toList).2.1, .bool (cutA b [] s.data.toList).2.2]) ∧ UpOf w w' := by
 have hts : t.size = 1 := by rw [ht]; rfl
 have htb : t = bs [b] := ht
 obtain ⟨L, hL⟩ := nm_ (s.data.toList)
 have hLn := hd_ (show L.length = s.size by rw [← hL]; rfl)
 have HL := hd_ hL
 rw [hL]
 obtain ⟨R, hR⟩ := nm_ (cutA b [] L)
 have HR := hd_ hR
 rw [hR]
 have HT := hd_ htb
 clear hR hL ht htb
 go_enter Tryz.func42, Tryz.ntmps42
 go_wp2_with ((with_reducible refine wru ?_); refine wrz fun _ => ?_)
 go_loopw [7] (fun i wr => ∃ (k : Nat), k ≤ s.size ∧ i = i64 k ∧ Hid (cutA b [] L = cutA b (L.take k) (L.drop k)) ∧ ∃ g : Up w, wr = up w g) (fun i _ => s.size - (intOf i).toNat)
 case atStart => exact ⟨0, by omega, rfl, rfl, ex_up bw_⟩
 case round =>
  obtain ⟨k, hk, rfl, hsp, g, rfl⟩ := hrel
  by_cases hlt : k < s.size
  ·have hkl : k < L.length := by rw [hLn.out]; exact hlt
   have h1 : (k : Int) + 1 ≤ (s.size : Int) := by omega
   have hob := hd_ (one_byte s HL.out hkl)
   have hdr := hd_ (drop_at hkl)
   have hsl : ∀ wx : World, (Instr.slice 9 (.string s) (some (i64 k)) (some (.int .i64 ((k : Int) + 1))) none).run Tryz.prog wx = .ok (.string (s.extract k (k + 1))) wx := fun wx => by
    have := run_slice_string (P := Tryz.prog) wx 9 s .i64 .i64 (k : Int) ((k + 1 : Nat) : Int) Tryz.underlying9 (by omega) (by omega) (by omega)
    simpa using this
   by_cases q : L.getD k 0 = b
   ·have qe := tl_teq (show s.extract k (k + 1) = t by rw [hob.out, q, HT.out])
    have hR2 := hd_ (show R = (s.extract 0 k, s.extract (k + 1) s.size, true) by
     rw [← HR.out, hsp.out, hdr.out, cutA, if_pos q, bs_extract, bs_extract, HL.out, List.drop_zero, Nat.sub_zero, List.take_of_length_le (l := L.drop (k + 1)) (by rw [List.length_drop, hLn.out]; omega)])
    clear q hkl
    go_wp2_with ((with_reducible refine wru ?_); refine wrz fun _ => ?_)
    go_ret3
    rw [hR2.out]
    exact ⟨rfl, uw_⟩
   ·have qe := tl_tne (show ¬ s.extract k (k + 1) = t by rw [hob.out, HT.out]; intro he; exact q (by have := bs_inj he; injection this))
    have hsp2 := hd_ (show cutA b [] L = cutA b (L.take (k + 1)) (L.drop (k + 1)) by
     rw [hsp.out, hdr.out, cutA, if_neg q, take_snoc hkl])
    clear q hkl
    go_wp2_with ((with_reducible refine wru ?_); refine wrz fun _ => ?_)
    go_roundw
    case rel => exact ⟨k + 1, by omega, by go_num, hsp2, ex_up bw_⟩
    case measure => (simp [intOf]; try omega)
  ·obtain rfl : k = s.size := by omega
   have e0 : L.drop s.size = [] := List.drop_eq_nil_of_le (by rw [hLn.out]; exact Nat.le_refl _)
   have e1 : L.take s.size = L := List.take_of_length_le (by rw [hLn.out]; exact Nat.le_refl _)
   have hR2 := hd_ (show R = (s, ⟨#[]⟩, false) by
    rw [← HR.out, hsp.out, e0, e1, cutA, ← HL.out, bs_of])
   clear e0 e1
   go_wp2_with ((with_reducible refine wru ?_); refine wrz fun _ => ?_)
   go_ret3
   rw [hR2.out]
   exact ⟨rfl, uw_⟩
theorem l01Number_any (s : ByteArray) (w : World) (hs : s.size ≤ 9223372036854775807) :
 Calls Tryz.prog 146 #[.string s] w fun e w' => e = .returned (.tuple #[i64 (rdR s).1, .bool (rdR s).2]) ∧ UpOf w w' := by
 by_cases h0 : 0 < s.size
 ·have hb := hd_ (byteAt_eq h0)
  have ze := isEmpty_no h0
  by_cases h45 : (s[0].toNat : Int) = 45
  ·have hg := hd_ (show negS s = true by unfold negS; rw [← hb.out]; exact decide_eq_true ⟨h0, h45⟩)
   obtain ⟨t, ht⟩ := nm_ (s.extract 1 s.size)
   have htl : t.data.toList = digs s := by
    rw [digs, if_pos hg.out, ← ht, bs_extract s 1 s.size, bs_list, List.take_of_length_le (by simp)]
   obtain ⟨m, htm⟩ := nm_ (t.size)
   have hms : m < s.size := by rw [← htm, ← ht, ByteArray.size_extract]; omega
   obtain ⟨T, hT0⟩ := nm_ (digs s)
   have HTL := hd_ hT0
   have HTT := hd_ (htl.trans hT0)
   have hT := hd_ (show T.length = m by rw [← hT0, ← htl, ← htm]; rfl)
   clear htl hT0
   go_enter Tryz.func146, Tryz.ntmps146
   by_cases hl : 1 ≤ m ∧ m ≤ 18
   ·obtain ⟨l1, l2⟩ := hl
    have z : ((m : Int) == 0) = false := by rw [beq_eq_false_iff_ne]; omega
    have L12 := hd_ (show 1 ≤ (digs s).length ∧ (digs s).length ≤ 18 by rw [HTL.out, hT.out]; exact ⟨l1, l2⟩)
    go_wp2_with fail
    go_loopw [5, 6] (fun n i wr => ∃ (k v : Nat), k ≤ m ∧ i = i64 k ∧ n = i64 v ∧ Hid (valL 0 (T.take k) = v) ∧ Hid (∀ j, j < k → digit (T.getD j 0) = true) ∧ ∃ g : Up w, wr = up w g) (fun _ i _ => m - (intOf i).toNat)
    case atStart => exact ⟨0, 0, by omega, rfl, rfl, rfl, fun j hj => by omega, ex_up bw_⟩
    case round =>
     obtain ⟨k, v, hk, rfl, rfl, hv, hall, g, rfl⟩ := hrel
     by_cases hlt : k < m
     ·have hlt' : k < t.size := by omega
      have hbt := hd_ (show t[k] = T.getD k 0 by rw [byteAt_eq hlt', byteAt, HTT.out])
      cases q : digit t[k]
      ·have HF := hd_ (rdR_no (numB_digit (s := s) (by rw [HTL.out]; exact all_no (by rw [hT.out]; exact hlt) (by rw [← hbt.out]; exact q))))
       go_wp2_with (first | (go_at_call 183; refine cs_ (ra_ (l01Digit_any _ _) q) ?_))
       go_ret2
       exact ⟨by rw [HF.out] <;> rfl, uw_⟩
      ·have hv0 := valL_take_bd hall.out (by omega) (by rw [hT.out]; omega)
       rw [hv.out] at hv0
       have hds := dig_sub q
       have hdl := dval_lt q
       have hq := of_decide_eq_true q
       have hv2 := hd_ (show valL 0 (T.take (k + 1)) = 10 * v + dval t[k] by rw [take_snoc (by rw [hT.out]; exact hlt), valL_snoc, hv.out, hbt.out])
       have hall2 := hd_ (lt_ext (P := fun j => digit (T.getD j 0) = true) hall.out (by rw [← hbt.out]; exact q))
       go_wp2_with (first | (go_at_call 183; refine cs_ (ra_ (l01Digit_any _ _) q) ?_))
       go_roundw
       case rel => exact ⟨k + 1, 10 * v + dval t[k], by omega, by go_num, by go_num, hv2, hall2, ex_up bw_⟩
       case measure => (simp [intOf]; try omega)
     ·obtain rfl : k = m := by omega
      have HA := hd_ (show (digs s).all digit = true by rw [HTL.out]; exact all_of_at (by rw [hT.out]; exact hall.out))
      have HV := hd_ (show sval s = -(v : Int) by rw [sval, if_pos hg.out, HTL.out, ← hv.out, List.take_of_length_le (by rw [hT.out]; omega)])
      have HB := hd_ (sval_bd L12.out.2 HA.out)
      rw [HV.out] at HB
      have hB := HB.out
      by_cases hd : dec (-(v : Int)) = s
      ·have HF := hd_ (rdR_ok (numB_ok L12.out HA.out (by rw [HV.out]; exact hd)))
       have hne := tl_eq hd
       go_wp2_with (first | (go_at_call 157; refine cu_ (l01Dec_any _ _ (by omega) (by omega)) fun g => ?_))
       go_ret2
       exact ⟨by rw [HF.out, HV.out] <;> rfl, uw_⟩
      ·have HF := hd_ (rdR_no (numB_dec (s := s) (by rw [HV.out]; exact hd)))
       have hne := tl_ne hd
       go_wp2_with (first | (go_at_call 157; refine cu_ (l01Dec_any _ _ (by omega) (by omega)) fun g => ?_))
       go_ret2
       exact ⟨by rw [HF.out] <;> rfl, uw_⟩
   ·have HF := hd_ (rdR_no (numB_len (s := s) (by rw [HTL.out, hT.out]; exact hl)))
    by_cases l0 : m = 0
    ·first
      | (exfalso; omega)
      | (go_wp2_with fail
         go_ret2
         exact ⟨by rw [HF.out] <;> rfl, uw_⟩)
    ·have z : ((m : Int) == 0) = false := by rw [beq_eq_false_iff_ne]; omega
     have l3 : 18 < m := by omega
     go_wp2_with fail
     go_ret2
     exact ⟨by rw [HF.out] <;> rfl, uw_⟩
  ·have hg := hd_ (show negS s = false by unfold negS; rw [← hb.out]; exact decide_eq_false fun h => h45 h.2)
   obtain ⟨t, rfl⟩ := nm_ (s)
   have htl : s.data.toList = digs s := by rw [digs, if_neg (by rw [hg.out]; simp)]
   obtain ⟨m, htm⟩ := nm_ (s.size)
   obtain ⟨T, hT0⟩ := nm_ (digs s)
   have HTL := hd_ hT0
   have HTT := hd_ (htl.trans hT0)
   have hT := hd_ (show T.length = m by rw [← hT0, ← htl, ← htm]; rfl)
   clear htl hT0
   obtain ⟨c0, hc0⟩ := nm_ (s[0])
   rw [hc0] at h45
   have z45 : ((c0.toNat : Int) == 45) = false := by rw [beq_eq_false_iff_ne]; exact h45
   go_enter Tryz.func146, Tryz.ntmps146
   by_cases hl : 1 ≤ m ∧ m ≤ 18
   ·obtain ⟨l1, l2⟩ := hl
    have z : ((m : Int) == 0) = false := by rw [beq_eq_false_iff_ne]; omega
    have L12 := hd_ (show 1 ≤ (digs s).length ∧ (digs s).length ≤ 18 by rw [HTL.out, hT.out]; exact ⟨l1, l2⟩)
    go_wp2_with fail
    go_loopw [5, 6] (fun n i wr => ∃ (k v : Nat), k ≤ m ∧ i = i64 k ∧ n = i64 v ∧ Hid (valL 0 (T.take k) = v) ∧ Hid (∀ j, j < k → digit (T.getD j 0) = true) ∧ ∃ g : Up w, wr = up w g) (fun _ i _ => m - (intOf i).toNat)
    case atStart => exact ⟨0, 0, by omega, rfl, rfl, rfl, fun j hj => by omega, ex_up bw_⟩
    case round =>
     obtain ⟨k, v, hk, rfl, rfl, hv, hall, g, rfl⟩ := hrel
     by_cases hlt : k < m
     ·have hlt' : k < s.size := by omega
      have hbt := hd_ (show s[k] = T.getD k 0 by rw [byteAt_eq hlt', byteAt, HTT.out])
      cases q : digit s[k]
      ·have HF := hd_ (rdR_no (numB_digit (s := s) (by rw [HTL.out]; exact all_no (by rw [hT.out]; exact hlt) (by rw [← hbt.out]; exact q))))
       go_wp2_with (first | (go_at_call 183; refine cs_ (ra_ (l01Digit_any _ _) q) ?_))
       go_ret2
       exact ⟨by rw [HF.out] <;> rfl, uw_⟩
      ·have hv0 := valL_take_bd hall.out (by omega) (by rw [hT.out]; omega)
       rw [hv.out] at hv0
       have hds := dig_sub q
       have hdl := dval_lt q
       have hq := of_decide_eq_true q
       have hv2 := hd_ (show valL 0 (T.take (k + 1)) = 10 * v + dval s[k] by rw [take_snoc (by rw [hT.out]; exact hlt), valL_snoc, hv.out, hbt.out])
       have hall2 := hd_ (lt_ext (P := fun j => digit (T.getD j 0) = true) hall.out (by rw [← hbt.out]; exact q))
       go_wp2_with (first | (go_at_call 183; refine cs_ (ra_ (l01Digit_any _ _) q) ?_))
       go_roundw
       case rel => exact ⟨k + 1, 10 * v + dval s[k], by omega, by go_num, by go_num, hv2, hall2, ex_up bw_⟩
       case measure => (simp [intOf]; try omega)
     ·obtain rfl : k = m := by omega
      have HA := hd_ (show (digs s).all digit = true by rw [HTL.out]; exact all_of_at (by rw [hT.out]; exact hall.out))
      have HV := hd_ (show sval s = (v : Int) by rw [sval, if_neg (by rw [hg.out]; simp), HTL.out, ← hv.out, List.take_of_length_le (by rw [hT.out]; omega)])
      have HB := hd_ (sval_bd L12.out.2 HA.out)
      rw [HV.out] at HB
      have hB := HB.out
      by_cases hd : dec ((v : Int)) = s
      ·have HF := hd_ (rdR_ok (numB_ok L12.out HA.out (by rw [HV.out]; exact hd)))
       have hne := tl_eq hd
       go_wp2_with (first | (go_at_call 157; refine cu_ (l01Dec_any _ _ (by omega) (by omega)) fun g => ?_))
       go_ret2
       exact ⟨by rw [HF.out, HV.out] <;> rfl, uw_⟩
      ·have HF := hd_ (rdR_no (numB_dec (s := s) (by rw [HV.out]; exact hd)))
       have hne := tl_ne hd
       go_wp2_with (first | (go_at_call 157; refine cu_ (l01Dec_any _ _ (by omega) (by omega)) fun g => ?_))
       go_ret2
       exact ⟨by rw [HF.out] <;> rfl, uw_⟩
   ·have HF := hd_ (rdR_no (numB_len (s := s) (by rw [HTL.out, hT.out]; exact hl)))
    by_cases l0 : m = 0
    ·first
      | (exfalso; omega)
      | (go_wp2_with fail
         go_ret2
         exact ⟨by rw [HF.out] <;> rfl, uw_⟩)
    ·have z : ((m : Int) == 0) = false := by rw [beq_eq_false_iff_ne]; omega
     have l3 : 18 < m := by omega
     go_wp2_with fail
     go_ret2
     exact ⟨by rw [HF.out] <;> rfl, uw_⟩
 ·have h1 : s.size = 0 := by omega
  have ze := isEmpty_yes h1
  have HF := hd_ (rdR_no (numB_len (s := s) (by
   have : digs s = [] := by
    have h2 : s.data.toList = [] := List.eq_nil_of_length_eq_zero (by rw [bsz]; exact h1)
    rw [digs, h2]; simp
   rw [this]; simp)))
  go_enter Tryz.func146, Tryz.ntmps146
  go_wp2_with fail
  go_ret2
  exact ⟨by rw [HF.out] <;> rfl, uw_⟩
def LS (base : Nat) (w : World) (rb : Nat) (s : ByteArray) (l : List Entry) (st : Int) (sz : Nat) : Prop :=
 ∃ A c, Blk w rb 171 #[.string s, i64 sz, i64 st, .slice A l.length c] ∧ base ≤ rb ∧ w.ownsRow base 127 3 (.slice A l.length c) l.length (encs l) ∧ ((Value.slice A l.length c).ownBlock = none ∨ (Value.slice A l.length c).ownBlock ≠ some rb)
theorem LS.below {base rb sz : Nat} {w w' : World} {s : ByteArray} {l : List Entry} {st : Int} (h : LS base w rb s l st sz) (hb : Below w.heap.size w w') : LS base w' rb s l st sz := by
 obtain ⟨A, c, h1, h2, h3, h4⟩ := h
 exact ⟨A, c, (hb.block rb h1.lt).trans h1, h2, ob_ h3 hb, h4⟩
theorem LS.lt {base rb sz : Nat} {w : World} {s : ByteArray} {l : List Entry} {st : Int} (h : LS base w rb s l st sz) : base ≤ rb ∧ rb < w.heap.size := by
 obtain ⟨A, c, h1, h2, h3, h4⟩ := h
 exact ⟨h2, h1.lt⟩
theorem LS.cells {base rb sz : Nat} {w : World} {s : ByteArray} {l : List Entry} {st : Int} (h : LS base w rb s l st sz) :
 w.cell? ⟨rb, 0, none⟩ = some (.string s) ∧ w.cell? ⟨rb, 1, none⟩ = some (i64 sz) ∧ w.cell? ⟨rb, 2, none⟩ = some (i64 st) := by
 obtain ⟨A, c, h1, h2, h3, h4⟩ := h
 exact ⟨h1.cell 0, h1.cell 1, h1.cell 2⟩
theorem dayS_any (base rb sz : Nat) (s : ByteArray) (l : List Entry) (st : Int) (w : World) (h : LS base w rb s l st sz) (hn : l.length ≤ 1000000000) :
 Calls Tryz.prog 190 #[.pointer (some ⟨rb, 0, none⟩)] w fun e w' => e = .returned (i64 (dayL l)) ∧ UpOf w w' := by
 obtain ⟨A, c, h1, h2, h3, h4⟩ := h
 have c0 := h1.cell 3
 have hlt := h1.lt
 simp only [List.getElem?_toArray, List.getElem?_cons_zero, List.getElem?_cons_succ] at c0
 obtain ⟨D, hD⟩ := nm_ (dayL l)
 rw [hD]
 rcases Nat.eq_zero_or_pos l.length with h0 | h0
 ·have z : ((l.length : Int) == 0) = true := by rw [beq_iff_eq]; omega
  obtain rfl : D = 0 := by rw [← hD, dayL, if_pos h0]
  clear hD h1 h2 h3 h4
  go_enter Tryz.func190, Tryz.ntmps190
  go_wp2_with ((with_reducible refine wru ?_); refine wrz fun _ => ?_)
  go_ret
  exact ⟨rfl, uw_⟩
 ·obtain ⟨n, hn1⟩ : ∃ n, l.length = n + 1 := ⟨l.length - 1, by omega⟩
  obtain ⟨b, off, rfl, hb, cd⟩ := en_last (Rds.of_own h3) hn1
  rw [hD] at cd
  rw [hn1] at c0 hn
  have z : (((n + 1 : Nat) : Int) == 0) = false := by rw [beq_eq_false_iff_ne]; omega
  clear hD h1 h2 h3 h4 h0 hn1
  go_enter Tryz.func190, Tryz.ntmps190
  go_wp2_with ((with_reducible refine wru ?_); refine wrz fun _ => ?_)
  go_ret
  exact ⟨rfl, uw_⟩
theorem l27Line_any (x : Entry) (hv : vEntry x = true) (st : Int) (h0 : 0 ≤ st) (h1 : st < 65519) (b o : Nat) (w : World) (h : EAt w b o x) :
 Calls Tryz.prog 191 #[i64 st, .pointer (some ⟨b, o, none⟩)] w fun e w' => e = .returned (.string (lineP x st ++ ⟨#[10]⟩)) ∧ UpOf w w' := by
 have hz1 := ewords_len hv
 have hz2 := dec_len (n := st) (by omega) (by omega)
 have hz3 := lineP_len hv h0 h1
 have z1 : (⟨#[32]⟩ : ByteArray).size = 1 := rfl
 have z2 : (⟨#[10]⟩ : ByteArray).size = 1 := rfl
 have e1 : ∀ w, (Op.stringOp .add (ewords x) (⟨#[32]⟩ : ByteArray)).run Tryz.prog w = .ok (.string (ewords x ++ ⟨#[32]⟩)) w := fun w => run_string_add_sum w _ _ (by omega)
 have e2 : ∀ w, (Op.stringOp .add (ewords x ++ ⟨#[32]⟩) (dec st)).run Tryz.prog w = .ok (.string (lineP x st)) w := fun w => run_string_add_sum w _ _ (by simp only [ByteArray.size_append]; omega)
 have e3 : ∀ w, (Op.stringOp .add (lineP x st) (⟨#[10]⟩ : ByteArray)).run Tryz.prog w = .ok (.string (lineP x st ++ ⟨#[10]⟩)) w := fun w => run_string_add_sum w _ _ (by omega)
 clear hz1 hz2 hz3 z1 z2
 go_enter Tryz.func191, Tryz.ntmps191
 go_wp2_with (first | (go_at_call 161; refine cu_ (l27Words_any x hv _ _ _ (h.below bw_)) fun g => ?_) | (go_at_call 157; refine cu_ (l01Dec_any _ _ (by omega) (by omega)) fun g => ?_))
 go_ret
 exact ⟨rfl, uw_⟩
theorem toInt64S_any (A : Option Addr) (c : Nat) (l : List Int) (w : World) (h : Rds w 1 A l.length (ics l)) (hn : l.length ≤ 100000000) :
 Calls Tryz.prog 53 #[.slice A l.length c] w fun e w' => ∃ b : Nat, e = .returned (.slice (some ⟨b, 0, none⟩) l.length l.length) ∧ w'.ownsRow w.heap.size 2 1 (.slice (some ⟨b, 0, none⟩) l.length l.length) l.length (ics l) ∧ UpOf w w' := by
 have hi : (Tryz.prog.info? 2).map (fun i => (i.zero, i.size, i.bytes)) = some (some (i64 0), 1, 8) := by kernel_rfl
 obtain ⟨i0, hi, hz0, hz1, hz2⟩ := info_parts hi
 have hmk : ∀ u : World, (Instr.makeSlice 28 (i64 l.length) (i64 l.length)).run Tryz.prog u = .ok (.slice (some ⟨u.heap.size, 0, none⟩) l.length l.length) (u.alloc (.cells (madeCells #[i64 0] (l.length * 1)) 2)) := fun u => by
  have h := run_make (P := Tryz.prog) u 28 2 i0 _ Tryz.underlying28 hi hz0 .i64 .i64 l.length l.length (by omega) (Int.le_refl _) (by rw [hz2]; omega) (by omega)
  simpa [hz1, Value.cells] using h
 clear hi hz0 hz1 hz2
 go_enter Tryz.func53, Tryz.ntmps53
 go_wp2_with fail
 go_loopw [4] (fun i wr => ∃ k : Nat, k ≤ l.length ∧ i = i64 k ∧ ∃ ys, wr.ownsRow w.heap.size 2 1 (.slice (some ⟨w.heap.size, 0, none⟩) l.length l.length) l.length ys ∧
  (∀ i (hi : i < l.length), i < k → ys[i]? = some (i64 l[i])) ∧ Below w.heap.size w wr) (fun i _ => l.length - (intOf i).toNat)
 case atStart =>
  refine ⟨0, by omega, rfl, _, World.ownsRow_lit w _ l.length (Nat.le_refl _) (by unfold maxLen; omega) (by first | exact size_madeCells _ _ | (rw [size_madeCells]; simp)), fun i hi h0 => by omega, (Below.refl _ _).alloc (Nat.le_refl _) _⟩
 case round =>
  obtain ⟨k, hk, rfl, ys, hown, hys, hbel⟩ := hrel
  by_cases hlt : k < l.length
  ·obtain ⟨b, off, rfl, hb, c0⟩ := int_at (h.below hbel) rfl hlt
   have hwl := (own_block hown rfl).2.1
   have hlen := hown.1
   have d0 := hown.cellAt k (by omega)
   rw [List.getElem?_eq_getElem (by omega)] at d0
   have f0 := fun i => hown.frozenAt i
   have HY := hd_ hys
   clear hys h
   go_wp2_with fail
   all_goals go_roundw
   all_goals first
    | (case measure => (simp [intOf]; try omega))
    | (go_light
       have s1 := hown.stored k (i64 l[k])
       exact ⟨k + 1, by omega, by go_num, _, s1.1, fun i hi hik => set1_get HY.out (by omega) hi hik hlt (fun _ => rfl), hbel.setCell (Nat.le_refl _) _⟩)
    | (go_light
       have s1 := (own_up hown nq).stored k (i64 l[k])
       exact ⟨k + 1, by omega, by go_num, _, s1.1, fun i hi hik => set1_get HY.out (by omega) hi hik hlt (fun _ => rfl), (hbel.trans (nq.below.mono hbel.size)).setCell (Nat.le_refl _) _⟩)
  ·go_wp2_with fail
   go_ret
   obtain rfl : k = l.length := by omega
   have hy : ys = ics l := ics_ext (by have := hown.1; omega) (fun i hi => hys i hi hi)
   rw [hy] at hown
   exact ⟨_, rfl, hown, UpOf.of hbel⟩
theorem toBasket_any (b : Bsk) (w : World) : Calls Tryz.prog 52 #[bsv b] w fun e w' => e = .returned (bsv b) ∧ UpOf w w' := by
 go_enter Tryz.func52, Tryz.ntmps52
 go_wp2_with fail
 exact bodyPost_ret (v := bsv b) (by simp [results, Tryz.results52, go_sem]) rfl ⟨rfl, uw_⟩
theorem calls_gen {P : Program} {f : FuncId} {args : Array Value} {w : World} {Q : Ending → World → Prop} {R : World → Prop} (st : R w) (h : ∀ W, R W → Calls P f args W Q) : Calls P f args w Q := h w st
theorem post_gen {P : Program} {F : Func} {Q : Ending → World → Prop} {x : Exit} {a : Act} {w : World} {R : World → Prop} (st : R w) (h : ∀ W, R W → bodyPost P F Q x a W) : bodyPost P F Q x a w := h w st
theorem act_gen {K : Act → World → Prop} {a : Act} {w : World} {R : World → Prop} (st : R w) (h : ∀ W, R W → K a W) : K a w := h w st
structure TD (w W : World) (p q s : Nat) (x r o : Array Value) : Prop where
 box : Box W p x
 res : Blk W q 31 r
 out : Blk W s 31 o
 bel : Below w.heap.size w W
 ps : p ≠ s
 qs : q ≠ s
 pq : p ≠ q
 hs : w.heap.size ≤ s
 hq : w.heap.size ≤ q
section
variable {w W W' : World} {p q s : Nat} {x r o : Array Value}
theorem TD.below (h : TD w W p q s x r o) (hb : Below W.heap.size W W') : TD w W' p q s x r o :=
 ⟨h.box.below hb, (hb.block q h.res.lt).trans h.res, (hb.block s h.out.lt).trans h.out, h.bel.trans (hb.mono h.bel.size), h.ps, h.qs, h.pq, h.hs, h.hq⟩
theorem TD.up (h : TD w W p q s x r o) (g : Up W) : TD w (Go.Proofs.YtbianlkenallaaaGreatDoor.up W g) p q s x r o := h.below g.below
theorem box_far {b : Nat} (h : Box W b x) {a : Addr} (hp : b ≠ a.block) (u : Value) : Box (W.setCell a u) b x :=
 ⟨by simpa [World.setCell] using h.1, fun i u' hu => (World.cell?_of_block (w := W) (Below.heap_setCell W a u b hp)).trans (h.2 i u' hu)⟩
theorem TD.put (h : TD w W p q s x r o) (i : Nat) (u : Value) : TD w (W.setCell ⟨s, i, none⟩ u) p q s x r (o.setIfInBounds i u) :=
 ⟨box_far h.box h.ps _, h.res.far h.qs _, h.out.put i u, h.bel.setCell h.hs _, h.ps, h.qs, h.pq, h.hs, h.hq⟩
theorem TD.putR (h : TD w W p q s x r o) (i : Nat) (u : Value) : TD w (W.setCell ⟨q, i, none⟩ u) p q s x (r.setIfInBounds i u) o :=
 ⟨box_far h.box h.pq _, h.res.put i u, h.out.far (Ne.symm h.qs) _, h.bel.setCell h.hq _, h.ps, h.qs, h.pq, h.hs, h.hq⟩
theorem TD.outs {o0 o1 o2 o3 o4 o5 o6 o7 : Value} (h : TD w W p q s x r #[o0, o1, o2, o3, o4, o5, o6, o7]) : s < W.heap.size ∧ W.cell? ⟨s, 0, none⟩ = some o0 ∧ W.cell? ⟨s, 1, none⟩ = some o1 ∧ W.cell? ⟨s, 2, none⟩ = some o2 ∧ W.cell? ⟨s, 3, none⟩ = some o3 ∧
 W.cell? ⟨s, 4, none⟩ = some o4 ∧ W.cell? ⟨s, 5, none⟩ = some o5 ∧ W.cell? ⟨s, 6, none⟩ = some o6 ∧ W.cell? ⟨s, 7, none⟩ = some o7 ∧ (∀ i, W.frozen? ⟨s, i, none⟩ = false) :=
 ⟨h.out.lt, h.out.cell 0, h.out.cell 1, h.out.cell 2, h.out.cell 3, h.out.cell 4, h.out.cell 5, h.out.cell 6, h.out.cell 7, fun i => h.out.free i⟩
theorem TD.ress {o0 o1 o2 o3 o4 o5 o6 o7 : Value} (h : TD w W p q s x #[o0, o1, o2, o3, o4, o5, o6, o7] o) : q < W.heap.size ∧ W.cell? ⟨q, 0, none⟩ = some o0 ∧ W.cell? ⟨q, 1, none⟩ = some o1 ∧ W.cell? ⟨q, 2, none⟩ = some o2 ∧ W.cell? ⟨q, 3, none⟩ = some o3 ∧
 W.cell? ⟨q, 4, none⟩ = some o4 ∧ W.cell? ⟨q, 5, none⟩ = some o5 ∧ W.cell? ⟨q, 6, none⟩ = some o6 ∧ W.cell? ⟨q, 7, none⟩ = some o7 ∧ (∀ i, W.frozen? ⟨q, i, none⟩ = false) :=
 ⟨h.res.lt, h.res.cell 0, h.res.cell 1, h.res.cell 2, h.res.cell 3, h.res.cell 4, h.res.cell 5, h.res.cell 6, h.res.cell 7, fun i => h.res.free i⟩
theorem TD.all {r0 r1 r2 r3 r4 r5 r6 r7 : Value} (h : TD w W p q s x #[r0, r1, r2, r3, r4, r5, r6, r7] o) (u0 u1 u2 u3 u4 u5 u6 u7 : Value) : TD w ((((((((W.setCell ⟨q, 0, none⟩ u0).setCell ⟨q, 1, none⟩ u1).setCell ⟨q, 2, none⟩ u2).setCell ⟨q, 3, none⟩ u3).setCell ⟨q, 4, none⟩ u4).setCell ⟨q, 5, none⟩ u5).setCell ⟨q, 6, none⟩ u6).setCell ⟨q, 7, none⟩ u7) p q s x #[u0, u1, u2, u3, u4, u5, u6, u7] o := by
 have h0 : TD w _ p q s x #[u0, r1, r2, r3, r4, r5, r6, r7] o := h.putR 0 u0
 have h1 : TD w _ p q s x #[u0, u1, r2, r3, r4, r5, r6, r7] o := h0.putR 1 u1
 have h2 : TD w _ p q s x #[u0, u1, u2, r3, r4, r5, r6, r7] o := h1.putR 2 u2
 have h3 : TD w _ p q s x #[u0, u1, u2, u3, r4, r5, r6, r7] o := h2.putR 3 u3
 have h4 : TD w _ p q s x #[u0, u1, u2, u3, u4, r5, r6, r7] o := h3.putR 4 u4
 have h5 : TD w _ p q s x #[u0, u1, u2, u3, u4, u5, r6, r7] o := h4.putR 5 u5
 have h6 : TD w _ p q s x #[u0, u1, u2, u3, u4, u5, u6, r7] o := h5.putR 6 u6
 have h7 : TD w _ p q s x #[u0, u1, u2, u3, u4, u5, u6, u7] o := h6.putR 7 u7
 exact h7
end
abbrev zc : Array Value := #[i64 0, i64 0, i64 0, i64 0, i64 0, .slice none 0 0, .slice none 0 0, .string ⟨#[]⟩]
theorem own_setOld {w : World} {base : Nat} {e : TypeId} {size : Nat} {v : Value} {n : Nat} {xs : List Value} (h : w.ownsRow base e size v n xs) {p : Addr} (hp : p.block < base) (u : Value) : (w.setCell p u).ownsRow base e size v n xs := by
 refine h.kept (row := some p.block) ⟨rfl, rfl, rfl, by simp [World.setCell], fun k _ hne => Below.heap_setCell w p u k (fun e => hne (by rw [e]))⟩ ?_
 cases hv : v.ownBlock with
 | none => exact .inl rfl
 | some k =>
   refine .inr fun he => ?_
   injection he with he
   have := (h.lt k hv).1
   omega
theorem oa_ {W : World} {q base : Nat} {e : TypeId} {size : Nat} {v : Value} {n : Nat} {xs : List Value} (h : W.ownsRow base e size v n xs) (hp : q < base) (u0 u1 u2 u3 u4 u5 u6 u7 : Value) : (((((((((W.setCell ⟨q, 0, none⟩ u0).setCell ⟨q, 1, none⟩ u1).setCell ⟨q, 2, none⟩ u2).setCell ⟨q, 3, none⟩ u3).setCell ⟨q, 4, none⟩ u4).setCell ⟨q, 5, none⟩ u5).setCell ⟨q, 6, none⟩ u6).setCell ⟨q, 7, none⟩ u7)).ownsRow base e size v n xs := by
 have h0 := own_setOld (p := ⟨q, 0, none⟩) h hp u0
 have h1 := own_setOld (p := ⟨q, 1, none⟩) h0 hp u1
 have h2 := own_setOld (p := ⟨q, 2, none⟩) h1 hp u2
 have h3 := own_setOld (p := ⟨q, 3, none⟩) h2 hp u3
 have h4 := own_setOld (p := ⟨q, 4, none⟩) h3 hp u4
 have h5 := own_setOld (p := ⟨q, 5, none⟩) h4 hp u5
 have h6 := own_setOld (p := ⟨q, 6, none⟩) h5 hp u6
 have h7 := own_setOld (p := ⟨q, 7, none⟩) h6 hp u7
 exact h7
theorem td_new (w : World) (x : Array Value) : TD w (((w.alloc (.cells x 43)).alloc (.cells zc 31)).alloc (.cells zc 31)) w.heap.size (w.heap.size + 1) (w.heap.size + 1 + 1) x zc zc := by
 have e1 : (w.alloc (.cells x 43)).heap.size = w.heap.size + 1 := by simp
 have e2 : ((w.alloc (.cells x 43)).alloc (.cells zc 31)).heap.size = w.heap.size + 1 + 1 := by simp
 have X1 := (Blk.new (w.alloc (.cells x 43)) 31 zc).alloc (.cells zc 31)
 have X2 := Blk.new ((w.alloc (.cells x 43)).alloc (.cells zc 31)) 31 zc
 rw [e1] at X1
 rw [e2] at X2
 exact ⟨(Box.new w x 43).below bw_, X1, X2, bw_, by omega, by omega, by omega, by omega, by omega⟩
def DOwn (base : Nat) (w : World) (d : DeskD) (A B : Option Addr) (c e : Nat) : Prop := w.ownsRow base 2 1 (.slice A d.stops.length c) d.stops.length (ics d.stops) ∧ w.ownsRow base 112 3 (.slice B d.drills.length e) d.drills.length (drcs d.drills)
theorem DOwn.see {base : Nat} {w : World} {d : DeskD} {A B : Option Addr} {c e : Nat} (h : DOwn base w d A B c e) : DSee w d A B := ⟨Rds.of_own h.1, Rds.of_own h.2⟩
theorem toDeskO_any (d : DeskD) (A B : Option Addr) (c e : Nat) (w : World) (h : DSee w d A B) (hn : d.stops.length ≤ 100000000) (hm : d.drills.length ≤ 100000000) :
 Calls Tryz.prog 16 #[dkv d A B c e] w fun r w' => ∃ A' B', r = .returned (dkv d A' B' d.stops.length d.drills.length) ∧ DOwn w.heap.size w' d A' B' d.stops.length d.drills.length ∧ UpOf w w' := by
 have H := hd_ h
 clear h
 go_enter Tryz.func16, Tryz.ntmps16
 go_wp2_with fail
 have hs0 := td_new w (dkcs d A B c e)
 generalize w.heap.size + 1 + 1 = s at *
 generalize w.heap.size + 1 = q at *
 generalize hp : w.heap.size = p at *
 refine calls_gen (R := fun V => TD w V p q s (dkcs d A B c e) zc zc) hs0 (fun W0 st0 => ?_)
 have S0 := hd_ st0
 obtain ⟨l1, _, _, _, _, _, x5, x6, x7⟩ := st0.box.eight
 obtain ⟨l3, z0, z1, z2, z3, z4, z5, z6, z7, f3⟩ := st0.outs
 clear hs0 st0
 refine cu_ (toBasket_any d.b _) fun g1 => ?_
 go_wp2_with fail
 refine calls_gen (R := fun V => TD w V p q s (dkcs d A B c e) zc #[i64 d.b.bars, i64 d.b.rise, i64 d.b.fall, i64 d.b.clr, i64 d.b.near, .slice none 0 0, .slice none 0 0, .string ⟨#[]⟩]) ((((((S0.out.up g1).put 0 (i64 d.b.bars)).put 1 (i64 d.b.rise)).put 2 (i64 d.b.fall)).put 3 (i64 d.b.clr)).put 4 (i64 d.b.near)) (fun W1 st1 => ?_)
 have S1 := hd_ st1
 have hpW1 : p ≤ W1.heap.size := Nat.le_trans (Nat.le_of_eq hp.symm) S1.out.bel.size
 clear l1 x5 x6 x7 l3 z0 z1 z2 z3 z4 z5 z6 z7 f3
 obtain ⟨l1, _, _, _, _, _, x5, x6, x7⟩ := st1.box.eight
 obtain ⟨l3, z0, z1, z2, z3, z4, z5, z6, z7, f3⟩ := st1.outs
 clear st1
 refine (toInt64S_any _ _ _ _ (H.out.1.below S1.out.bel) hn).mono ?_
 rintro r w' ⟨b2, rfl, o2, g2, rfl⟩
 go_wp2_with fail
 refine calls_gen (R := fun V => TD w V p q s (dkcs d A B c e) zc #[i64 d.b.bars, i64 d.b.rise, i64 d.b.fall, i64 d.b.clr, i64 d.b.near, .slice (some ⟨b2, 0, none⟩) d.stops.length d.stops.length, .slice none 0 0, .string ⟨#[]⟩] ∧
  V.ownsRow W1.heap.size 2 1 (.slice (some ⟨b2, 0, none⟩) d.stops.length d.stops.length) d.stops.length (ics d.stops) ∧ W1.heap.size ≤ V.heap.size) ⟨(S1.out.up g2).put 5 _, own_setOld o2 l3 _, by simp [World.setCell]⟩ (fun W2 st2 => ?_)
 have S2 := hd_ st2
 have hpW2 : p ≤ W2.heap.size := Nat.le_trans (Nat.le_of_eq hp.symm) S2.out.1.bel.size
 have hq1 : q < W1.heap.size := S1.out.res.lt
 clear l1 x5 x6 x7 z0 z1 z2 z3 z4 z5 z6 z7 f3
 obtain ⟨l1, _, _, _, _, _, x5, x6, x7⟩ := st2.1.box.eight
 obtain ⟨l4, z0, z1, z2, z3, z4, z5, z6, z7, f3⟩ := st2.1.outs
 obtain ⟨l5, y0, y1, y2, y3, y4, y5, y6, y7, f4⟩ := st2.1.ress
 clear st2 o2
 refine (toDrillS_any _ _ _ _ (H.out.2.below S2.out.1.bel) hm).mono ?_
 rintro r w' ⟨b3, rfl, o3, g3, rfl⟩
 have o2 := own_up S2.out.2.1 g3
 simp only []
 iterate 6 go_step
 refine act_gen (R := fun V => TD w V p q s (dkcs d A B c e) zc #[i64 d.b.bars, i64 d.b.rise, i64 d.b.fall, i64 d.b.clr, i64 d.b.near, .slice (some ⟨b2, 0, none⟩) d.stops.length d.stops.length, .slice (some ⟨b3, 0, none⟩) d.drills.length d.drills.length, .string ⟨#[]⟩] ∧
  V.ownsRow W1.heap.size 2 1 (.slice (some ⟨b2, 0, none⟩) d.stops.length d.stops.length) d.stops.length (ics d.stops) ∧
  V.ownsRow W2.heap.size 112 3 (.slice (some ⟨b3, 0, none⟩) d.drills.length d.drills.length) d.drills.length (drcs d.drills)) ⟨(S2.out.1.up g3).put 6 _, own_setOld o2 l3 _, own_setOld o3 l4 _⟩ (fun W3 st3 => ?_)
 have S3 := hd_ st3
 have hq2 : q < W2.heap.size := l5
 clear l1 x5 x6 x7 z0 z1 z2 z3 z4 z5 z6 z7 f3 l5 y0 y1 y2 y3 y4 y5 y6 y7 f4 o2 o3
 obtain ⟨l1, _, _, _, _, _, x5, x6, x7⟩ := st3.1.box.eight
 obtain ⟨l6, z0, z1, z2, z3, z4, z5, z6, z7, f3⟩ := st3.1.outs
 clear st3
 iterate 17 go_step
 refine act_gen (R := fun V => TD w V p q s (dkcs d A B c e) zc #[i64 d.b.bars, i64 d.b.rise, i64 d.b.fall, i64 d.b.clr, i64 d.b.near, .slice (some ⟨b2, 0, none⟩) d.stops.length d.stops.length, .slice (some ⟨b3, 0, none⟩) d.drills.length d.drills.length, .string d.log] ∧ V.ownsRow W1.heap.size 2 1 (.slice (some ⟨b2, 0, none⟩) d.stops.length d.stops.length) d.stops.length (ics d.stops) ∧ V.ownsRow W2.heap.size 112 3 (.slice (some ⟨b3, 0, none⟩) d.drills.length d.drills.length) d.drills.length (drcs d.drills)) ⟨S3.out.1.put 7 _, own_setOld S3.out.2.1 l3 _, own_setOld S3.out.2.2 l4 _⟩ (fun W4 st4 => ?_)
 have S4 := hd_ st4
 clear l1 x5 x6 x7 z0 z1 z2 z3 z4 z5 z6 z7 f3 l6
 obtain ⟨l6, z0, z1, z2, z3, z4, z5, z6, z7, f3⟩ := st4.1.outs
 obtain ⟨l5, y0, y1, y2, y3, y4, y5, y6, y7, f4⟩ := st4.1.ress
 clear st4
 iterate 11 go_step
 refine act_gen (R := fun V => TD w V p q s (dkcs d A B c e) #[i64 d.b.bars, i64 d.b.rise, i64 d.b.fall, i64 d.b.clr, i64 d.b.near, .slice (some ⟨b2, 0, none⟩) d.stops.length d.stops.length, .slice (some ⟨b3, 0, none⟩) d.drills.length d.drills.length, .string d.log] #[i64 d.b.bars, i64 d.b.rise, i64 d.b.fall, i64 d.b.clr, i64 d.b.near, .slice (some ⟨b2, 0, none⟩) d.stops.length d.stops.length, .slice (some ⟨b3, 0, none⟩) d.drills.length d.drills.length, .string d.log] ∧ V.ownsRow W1.heap.size 2 1 (.slice (some ⟨b2, 0, none⟩) d.stops.length d.stops.length) d.stops.length (ics d.stops) ∧ V.ownsRow W2.heap.size 112 3 (.slice (some ⟨b3, 0, none⟩) d.drills.length d.drills.length) d.drills.length (drcs d.drills)) ⟨S4.out.1.all _ _ _ _ _ _ _ _, oa_ S4.out.2.1 hq1 _ _ _ _ _ _ _ _, oa_ S4.out.2.2 hq2 _ _ _ _ _ _ _ _⟩ (fun W5 st5 => ?_)
 have S5 := hd_ st5
 clear l6 z0 z1 z2 z3 z4 z5 z6 z7 f3 l5 y0 y1 y2 y3 y4 y5 y6 y7 f4
 obtain ⟨l5, y0, y1, y2, y3, y4, y5, y6, y7, f4⟩ := st5.1.ress
 clear st5
 go_wp2_with fail
 exact bodyPost_ret (v := dkv d (some ⟨b2, 0, none⟩) (some ⟨b3, 0, none⟩) d.stops.length d.drills.length) (by simp [results, Tryz.results16, go_sem, y0, y1, y2, y3, y4, y5, y6, y7]) rfl ⟨_, _, rfl, ⟨om_ S5.out.2.1 (Nat.le_trans (Nat.le_of_eq hp) hpW1), om_ S5.out.2.2 (Nat.le_trans (Nat.le_of_eq hp) hpW2)⟩, UpOf.of S5.out.1.bel⟩
theorem toDesk_any (d : DeskD) (A B : Option Addr) (c e : Nat) (w : World) (h : DSee w d A B) (hn : d.stops.length ≤ 100000000) (hm : d.drills.length ≤ 100000000) :
 Calls Tryz.prog 16 #[dkv d A B c e] w fun r w' => ∃ A' B' c' e', r = .returned (dkv d A' B' c' e') ∧ DSee w' d A' B' ∧ UpOf w w' := by
 refine (toDeskO_any d A B c e w h hn hm).mono ?_
 rintro r w' ⟨A', B', rfl, ho, hu⟩
 exact ⟨A', B', _, _, rfl, ho.see, hu⟩
end Go.Proofs.YtbianlkenallaaaGreatDoor
namespace Go.Proofs.YtbianlkenallaaaGreatDoor
open Go
section
variable {P : Program} {ops : Array Oper} {Q : Exit → Act → World → Prop} {md : Region.Mode} {C : World → Prop} {app : Nat}
def wpAnyT (P : Program) (md : Region.Mode) (ops : Array Oper) (Q : Exit → Act → World → Prop) (C : World → Prop) (app : Nat) : Nat → Array Bool → Act → World → Prop
 | 0, listed, a, w => Region.ready md ops listed = [] ∧ Q .normal a w
 | fuel + 1, listed, a, w =>
   (Region.ready md ops listed = [] → Q .normal a w) ∧
   ∀ i ∈ Region.ready md ops listed, wpOp P ops Q i (fun a' w' => ((listed.setIfInBounds i true).getD app true = false → C w') ∧ wpAnyT P md ops Q C app fuel (listed.setIfInBounds i true) a' w') a w
theorem wpAny_of_T : ∀ (fuel : Nat) (listed : Array Bool) (a : Act) (w : World), wpAnyT P md ops Q C app fuel listed a w → wpAny P md ops Q fuel listed a w
 | 0, _, _, _, h => h
 | fuel + 1, _, _, _, h => ⟨h.1, fun i hi => wpOp_mono (fun a' w' h' => wpAny_of_T fuel _ a' w' h'.2) (h.2 i hi)⟩
theorem wpAnyT_first {S : World → Prop} {Inv : Array Bool → Prop} {i : Nat} {oi : Oper} {v : Value} (hi : ops[i]? = some oi) (hsel : ∀ (j : Nat) (o : Oper) cs b, ops[j]? = some o → o.op ≠ .select cs b)
 (hQ : ∀ c a w, Q (.panic c) (a.put oi.dst v) w → Q (.panic c) a w) (hia : i ≠ app)
 (hCS : ∀ listed w, Inv listed → (listed.getD app true = false → C w) → S w) (hInv : ∀ listed j, Inv listed → listed.getD i true = false → j ≠ i → j ∈ Region.ready md ops listed → Inv (listed.setIfInBounds j true)) :
 ∀ (fuel : Nat) (listed : Array Bool) (a : Act) (w : World),
  (∀ j oj, ops[j]? = some oj → j ≠ i → listed.getD j true = false → (∀ e ∈ oj.after, Region.binds md e = true → e.on ≠ i) → oi.apart ops oj = true) →
  i ∈ Region.ready md ops listed → Inv listed → YieldsIf P ops S oi v a → (listed.getD app true = false → C w) →
  wpAnyT P md ops Q C app fuel (listed.setIfInBounds i true) (a.put oi.dst v) w → wpAnyT P md ops Q C app (fuel + 1) listed a w := by
 intro fuel
 have eqv : ∀ (listed : Array Bool), (listed.setIfInBounds i true).getD app true = false → listed.getD app true = false := fun listed h => by rwa [getD_set_ne true hia] at h
 induction fuel with
 | zero =>
   intro listed a w _ hr hv hy hC H
   refine ⟨fun h => (by rw [h] at hr; cases hr), fun j hj => ?_⟩
   by_cases hji : j = i
   ·subst hji; exact hy.wpOp hi (hCS _ _ hv hC) ⟨fun h => hC (eqv _ h), H⟩
   ·have := ready_mono hj hji
    rw [H.1] at this
    cases this
 | succ fuel ih =>
   intro listed a w hfree hr hv hy hC H
   have hun := (mem_ready.1 hr).1
   refine ⟨fun h => (by rw [h] at hr; cases hr), fun j hj => ?_⟩
   by_cases hji : j = i
   ·subst hji; exact hy.wpOp hi (hCS _ _ hv hC) ⟨fun h => hC (eqv _ h), H⟩
   ·have h1 := H.2 j (ready_mono hj hji)
    obtain ⟨hjun, oj, hoj, hall⟩ := mem_ready.1 hj
    have hnot : ∀ e ∈ oj.after, Region.binds md e = true → e.on ≠ i := fun e he hb heq => by
     have h1 := hall e he hb
     rw [heq, getD_both hun] at h1
     cases h1
    have h2 := wpOp_putIf hoj (hfree j oj hoj hji hjun hnot) (fun cs b => hsel i oi cs b hi) (fun cs b => hsel j oj cs b hoj) hQ hy h1
    have hfree' : ∀ k ok, ops[k]? = some ok → k ≠ i → (listed.setIfInBounds j true).getD k true = false →
     (∀ e ∈ ok.after, Region.binds md e = true → e.on ≠ i) → oi.apart ops ok = true := fun k ok hk hki hun hno => by
     refine hfree k ok hk hki ?_ hno
     by_cases hjk : j = k
     ·subst hjk; exact hjun
     ·rw [getD_set_ne true hjk] at hun; exact hun
    refine wpOp_mono (fun a' w' h3 => ?_) h2
    have hC' : (listed.setIfInBounds j true).getD app true = false → C w' := fun h => h3.2.1 (by
     rw [Array.setIfInBounds_comm _ _ (Ne.symm hji), getD_set_ne true hia]; exact h)
    refine ⟨hC', ih (listed.setIfInBounds j true) a' w' hfree' (ready_mono hr (Ne.symm hji)) (hInv _ _ hv hun hji hj) h3.1 hC' ?_⟩
    rw [Array.setIfInBounds_comm _ _ hji]
    exact h3.2.2
theorem wpAnyT_pure {i : Nat} {oi : Oper} {v : Value} {fuel : Nat} {listed : Array Bool} {a : Act} {w : World} (hi : ops[i]? = some oi)
 (hs : Region.noSelect ops = true) (hf : Region.free md ops listed i = true) (hr : (Region.ready md ops listed).contains i = true) (hia : i ≠ app)
 (hQ : ∀ c a w, Q (.panic c) (a.put oi.dst v) w → Q (.panic c) a w) (hy : YieldsIf P ops (fun _ => True) oi v a) (hC : listed.getD app true = false → C w)
 (h : wpAnyT P md ops Q C app fuel (listed.setIfInBounds i true) (a.put oi.dst v) w) : wpAnyT P md ops Q C app (fuel + 1) listed a w :=
 wpAnyT_first (Inv := fun _ => True) hi (Region.noSelect_spec hs) hQ hia (fun _ _ _ _ => trivial) (fun _ _ _ _ _ _ => trivial) fuel listed a w (Region.free_spec hi hf) (by simpa using hr) trivial hy hC h
theorem wpAnyT_load {i : Nat} {oi : Oper} {v : Value} {fuel : Nat} {listed : Array Bool} {a : Act} {w : World} (hi : ops[i]? = some oi)
 (hs : Region.noSelect ops = true) (hf : Region.free md ops listed i = true) (hr : (Region.ready md ops listed).contains i = true) (hia : i ≠ app) (hw : Region.waitsFor md ops app i = true) (hl : listed.getD app true = false)
 (hQ : ∀ c a w, Q (.panic c) (a.put oi.dst v) w → Q (.panic c) a w) (hy : YieldsIf P ops C oi v a) (hC : C w)
 (h : wpAnyT P md ops Q C app fuel (listed.setIfInBounds i true) (a.put oi.dst v) w) : wpAnyT P md ops Q C app (fuel + 1) listed a w := by
 obtain ⟨oa, hoa, e, he, hb, hon⟩ := Region.waitsFor_spec hw
 refine wpAnyT_first (Inv := fun l => l.getD app true = false) hi (Region.noSelect_spec hs) hQ hia (fun _ _ h1 h2 => h2 h1) (fun l j h1 h2 h3 h4 => ?_) fuel listed a w (Region.free_spec hi hf) (by simpa using hr) hl hy (fun _ => hC) h
 have hja : j ≠ app := fun e9 => by
  subst e9
  obtain ⟨_, oj, hoj, hall⟩ := mem_ready.1 h4
  have : oj = oa := Option.some.inj (hoj.symm.trans hoa)
  subst this
  have h5 := hall e he hb
  rw [hon, getD_both h2] at h5
  cases h5
 rw [getD_set_ne true hja]; exact h1
def AllReadyT (P : Program) (md : Region.Mode) (ops : Array Oper) (Q : Exit → Act → World → Prop) (C : World → Prop) (app : Nat) (fuel : Nat) (listed : Array Bool) (a : Act) (w : World) (rs : List Nat) : Prop :=
 ∀ i ∈ rs, wpOp P ops Q i (fun a' w' => ((listed.setIfInBounds i true).getD app true = false → C w') ∧ wpAnyT P md ops Q C app fuel (listed.setIfInBounds i true) a' w') a w
section
variable {fuel : Nat} {listed : Array Bool} {a : Act} {w : World}
theorem AllReadyT.nil : AllReadyT P md ops Q C app fuel listed a w [] := fun _ h => by cases h
theorem AllReadyT.cons {i : Nat} {o : Oper} {rs : List Nat} (ho : ops[i]? = some o)
 (h : ∀ K' : Act → World → Prop, Shut (∀ a w, ((listed.setIfInBounds i true).getD app true = false → C w) → wpAnyT P md ops Q C app fuel (listed.setIfInBounds i true) a w → K' a w) → if Region.wanted o (yielded ops a.tmps) = true then Oper.wp P o a w K' Q else K' (a.put o.dst undef) w)
 (hs : AllReadyT P md ops Q C app fuel listed a w rs) : AllReadyT P md ops Q C app fuel listed a w (i :: rs) := fun j hj => by
 rcases List.mem_cons.1 hj with rfl | hj
 ·exact wpOp_step ho (fun K' hK => h K' (fun a w hS hW => hK a w ⟨hS, hW⟩))
 ·exact hs j hj
theorem wpAnyT_ready {rs : List Nat} {fuel : Nat} {listed : Array Bool} {a : Act} {w : World} (hr : Region.ready md ops listed = rs) (hne : rs ≠ [])
 (h : AllReadyT P md ops Q C app fuel listed a w rs) : wpAnyT P md ops Q C app (fuel + 1) listed a w := ⟨fun h0 => absurd (hr ▸ h0) hne, hr ▸ h⟩
theorem wpAnyT_done {listed : Array Bool} {a : Act} {w : World} (hr : Region.ready md ops listed = []) (h : Q .normal a w) : ∀ fuel, wpAnyT P md ops Q C app fuel listed a w
 | 0 => ⟨hr, h⟩
 | _ + 1 => ⟨fun _ => h, by rw [hr]; simp⟩
theorem wp_region_T {id : Nat} {a : Act} {w : World} (C : World → Prop) (app : Nat) (hm : P.follows .mixedOrders = true)
 (h : wpAnyT P .any ops Q C app ops.size (Array.replicate ops.size false) a w.drew) : (Code.region id ops true).wp P Q a w :=
 wp_region_any hm (wpAny_of_T _ _ _ _ h)
theorem wpAnyT_one {i : Nat} {o : Oper} {fuel : Nat} {listed : Array Bool} {a : Act} {w : World} (hr : Region.ready md ops listed = [i]) (ho : ops[i]? = some o)
 (h : ∀ K' : Act → World → Prop, Shut (∀ a w, ((listed.setIfInBounds i true).getD app true = false → C w) → wpAnyT P md ops Q C app fuel (listed.setIfInBounds i true) a w → K' a w) → if Region.wanted o (yielded ops a.tmps) = true then Oper.wp P o a w K' Q else K' (a.put o.dst undef) w) :
 wpAnyT P md ops Q C app (fuel + 1) listed a w := wpAnyT_ready hr (by simp) (AllReadyT.cons ho h AllReadyT.nil)
theorem wpAnyT_gen {R : World → Prop} (st : R w) (h : ∀ V, R V → wpAnyT P md ops Q C app fuel listed a V) : wpAnyT P md ops Q C app fuel listed a w := h w st
end
theorem wtn {fuel : Nat} {listed L : Array Bool} {a b : Act} {w : World} (h : wpAnyT P md ops Q C app fuel L b w) (hL : listed = L := by (try simp only [Act.put, List.getElem_toArray, List.getElem_cons_succ, List.getElem_cons_zero, List.setIfInBounds_toArray, List.set_cons_zero, List.set_cons_succ]); exact rfl) (hb : a = b := by (try simp only [Act.put, List.getElem_toArray, List.getElem_cons_succ, List.getElem_cons_zero, List.setIfInBounds_toArray, List.set_cons_zero, List.set_cons_succ]); exact rfl) : wpAnyT P md ops Q C app fuel listed a w := by
 subst hL hb
 exact h
theorem wtp (i : Nat) {oi : Oper} {v : Value} {fuel : Nat} {listed L : Array Bool} {a b : Act} {w : World} (hC : listed.getD app true = false → C w) (h : wpAnyT P md ops Q C app fuel L b w) (hi : ops[i]? = some oi := by rfl)
 (hs : Region.noSelect ops = true := by kernel_rfl) (hf : Region.free md ops listed i = true := by kernel_rfl) (hr : (Region.ready md ops listed).contains i = true := by kernel_rfl) (hia : i ≠ app := by decide)
 (hy : YieldsIf P ops (fun _ => True) oi v a := by exact Or.inl ⟨by rfl, by intro w _; go_simp; try (with_reducible rfl)⟩) (hQ : ∀ c a w, Q (.panic c) (a.put oi.dst v) w → Q (.panic c) a w := by exact fun _ _ _ h => h)
 (hL : listed.setIfInBounds i true = L := by (try simp only [Act.put, List.getElem_toArray, List.getElem_cons_succ, List.getElem_cons_zero, List.setIfInBounds_toArray, List.set_cons_zero, List.set_cons_succ]); exact rfl) (hb : a.put oi.dst v = b := by (try simp only [Act.put, List.getElem_toArray, List.getElem_cons_succ, List.getElem_cons_zero, List.setIfInBounds_toArray, List.set_cons_zero, List.set_cons_succ]); exact rfl) : wpAnyT P md ops Q C app (fuel + 1) listed a w := by
 subst hL hb
 exact wpAnyT_pure hi hs hf hr hia hQ hy hC h
theorem tf_ {b : Bool} {p : Prop} (h : b = true := by kernel_rfl) : b = false → p := fun e => by
 rw [h] at e
 cases e
theorem wtl (i : Nat) {oi : Oper} {v : Value} {fuel : Nat} {listed L : Array Bool} {a b : Act} {w : World} (hC : C w) (h : wpAnyT P md ops Q C app fuel L b w) (hi : ops[i]? = some oi := by rfl)
 (hs : Region.noSelect ops = true := by kernel_rfl) (hf : Region.free md ops listed i = true := by kernel_rfl) (hr : (Region.ready md ops listed).contains i = true := by kernel_rfl) (hia : i ≠ app := by decide) (hw : Region.waitsFor md ops app i = true := by kernel_rfl) (hl : listed.getD app true = false := by kernel_rfl)
 (hy : YieldsIf P ops C oi v a := by exact Or.inl ⟨by rfl, by intro w hSw; (try dsimp only at hSw); go_simp; try (with_reducible rfl)⟩) (hQ : ∀ c a w, Q (.panic c) (a.put oi.dst v) w → Q (.panic c) a w := by exact fun _ _ _ h => h)
 (hL : listed.setIfInBounds i true = L := by (try simp only [Act.put, List.getElem_toArray, List.getElem_cons_succ, List.getElem_cons_zero, List.setIfInBounds_toArray, List.set_cons_zero, List.set_cons_succ]); exact rfl) (hb : a.put oi.dst v = b := by (try simp only [Act.put, List.getElem_toArray, List.getElem_cons_succ, List.getElem_cons_zero, List.setIfInBounds_toArray, List.set_cons_zero, List.set_cons_succ]); exact rfl) : wpAnyT P md ops Q C app (fuel + 1) listed a w := by
 subst hL hb
 exact wpAnyT_load hi hs hf hr hia hw hl hQ hy hC h
theorem wto (i : Nat) {o : Oper} {fuel : Nat} {listed : Array Bool} {a : Act} {w : World}
 (h : ∀ K' : Act → World → Prop, Shut (∀ a w, ((listed.setIfInBounds i true).getD app true = false → C w) → wpAnyT P md ops Q C app fuel (listed.setIfInBounds i true) a w → K' a w) → if Region.wanted o (yielded ops a.tmps) = true then Oper.wp P o a w K' Q else K' (a.put o.dst undef) w)
 (hr : Region.ready md ops listed = [i] := by kernel_rfl) (ho : ops[i]? = some o := by rfl) : wpAnyT P md ops Q C app (fuel + 1) listed a w := wpAnyT_one hr ho h
theorem wtd {fuel : Nat} {listed : Array Bool} {a b : Act} {w : World} (h : Q .normal b w) (hr : Region.ready md ops listed = [] := by kernel_rfl) (hb : a = b := by (try simp only [Act.put, List.getElem_toArray, List.getElem_cons_succ, List.getElem_cons_zero, List.setIfInBounds_toArray, List.set_cons_zero, List.set_cons_succ]); exact rfl) : wpAnyT P md ops Q C app fuel listed a w := by
 subst hb
 exact wpAnyT_done hr h fuel
end
end Go.Proofs.YtbianlkenallaaaGreatDoor
namespace Go.Proofs.YtbianlkenallaaaGreatDoor
open Go.RowKit
theorem own_tne {w : World} {B B' e e' size size' n n' : Nat} {v v' : Value} {xs xs' : List Value} (h : w.ownsRow B e size v n xs) (h' : w.ownsRow B' e' size' v' n' xs') (hne : e ≠ e') : v.ownBlock = none ∨ v.ownBlock ≠ v'.ownBlock := by
 rcases h.2 with ⟨rfl, _⟩ | ⟨g, cap, cur, rfl, _, hgg, _⟩
 ·exact .inl rfl
 ·rcases h'.2 with ⟨rfl, _⟩ | ⟨g', cap', cur', rfl, _, hgg', _⟩
  ·exact .inr (by simp [Value.ownBlock])
  ·refine .inr fun he => ?_
   simp only [Value.ownBlock, Option.some.injEq] at he
   subst he
   rw [hgg] at hgg'
   simp only [Option.some.injEq, Obj.cells.injEq] at hgg'
   exact hne hgg'.2.1
theorem blk_tne {w : World} {B e size n p : Nat} {t : TypeId} {v : Value} {xs : List Value} {cs : Array Value} (hb : Blk w p t cs) (h : w.ownsRow B e size v n xs) (hne : e ≠ t) : some p ≠ v.ownBlock := by
 rcases h.2 with ⟨rfl, _⟩ | ⟨g, cap, cur, rfl, _, hgg, _⟩
 ·simp [Value.ownBlock]
 ·intro he
  simp only [Value.ownBlock, Option.some.injEq] at he
  subst he
  unfold Blk at hb
  rw [hgg] at hb
  simp only [Option.some.injEq, Obj.cells.injEq] at hb
  exact hne hb.2.1
theorem wpl_appW {w : World} {ops : Array Oper} {rest : List Oper} {o : Oper} {a : Act} {Q : Exit → Act → World → Prop} (hgd : o.guard = none) (sl x : Operand)
 (ho : o.op = .call { callee := .builtin .append, args := #[sl, x], argTypes := #[24, 24] })
 (base : Nat) (A : Option Addr) (c : Nat) (l : List ByteArray) (hs : a.eval sl = .slice A l.length c) (hown : w.ownsRow base 9 1 (.slice A l.length c) l.length (strs l)) (s : ByteArray) (p : Nat) (hx : a.eval x = .slice (some ⟨p, 0, none⟩) 1 1)
 (hp : w.cell? ⟨p, 0, none⟩ = some (.string s)) (h63 : l.length ≤ 100000000) (hbase : base ≤ w.heap.size) (H : Nat) (hH : w.heap.size = H)
 (h : ∀ g c' l' w', Hid (l' = l ++ [s]) → w'.ownsRow base 9 1 (.slice (some ⟨g, 0, none⟩) l'.length c') l'.length (strs l') → w.grownBy w' (Value.slice A l.length c).ownBlock → ((Value.slice A l.length c).ownBlock = some g ∨ g = H) → g < w'.heap.size → wpList Tryz.prog ops Q rest (a.put o.dst (.slice (some ⟨g, 0, none⟩) l'.length c')) w') : wpList Tryz.prog ops Q (o :: rest) a w := by
 obtain ⟨ht, hzs, hsz, i, hi, hz, hsize, hby⟩ := el_str
 refine wpList_append_lies w hgd sl x 24 ho base 9 i _ 1 16 ht hi hz hsize hby hzs hsz _ _ _ hs hown ⟨p, 0, none⟩ 1 1 [.string s] hx rfl (fun j u hj => ?_) (fun u hu => by simp at hu; subst hu; rfl) (by omega) (by unfold maxLen; omega) (by omega) hbase H hH fun g cap w' h2 h3 h4 h5 => ?_
 ·cases j with
  | zero => simp at hj; subst hj; exact hp
  | succ j => simp at hj
 ·have e1 : l.length + 1 = (l ++ [s]).length := by simp
  have e2 : strs l ++ [Value.string s] = strs (l ++ [s]) := by simp [strs]
  rw [e1, e2] at h2
  rw [e1]
  exact h g cap _ w' (hd_ rfl) h2 h3 h4 h5
abbrev Amb := List UInt8 × List UInt8
structure FR (W : List (List UInt8)) (O : List Amb) (i k : Nat) : Prop where
 ok : ∀ p ∈ O, ∃ (a b : Nat) (u v : List UInt8), a ≠ b ∧ W[a]? = some u ∧ W[b]? = some v ∧ u.isPrefixOf v = true ∧ p = (v, v.drop u.length)
 all : ∀ (a b : Nat) (u v : List UInt8), (a < i ∨ (a = i ∧ b < k)) → a ≠ b → W[a]? = some u → W[b]? = some v → u.isPrefixOf v = true → (v, v.drop u.length) ∈ O
 len : O.length ≤ 10 * i + k
section
variable {W : List (List UInt8)} {O R : List Amb} {i k : Nat}
theorem FR.start (W : List (List UInt8)) : FR W [] 0 0 := ⟨fun p hp => (by cases hp), fun a b u v h => (by omega), by simp⟩
theorem FR.skip (h : FR W O i k) (hno : ∀ u v, i ≠ k → W[i]? = some u → W[k]? = some v → u.isPrefixOf v = false) : FR W O i (k + 1) :=
 ⟨h.ok, fun a b u v hab hne hu hv hp => by
  by_cases e : a = i ∧ b = k
  ·obtain ⟨rfl, rfl⟩ := e
   rw [hno u v hne hu hv] at hp; cases hp
  ·exact h.all a b u v (by omega) hne hu hv hp, by have := h.len; omega⟩
theorem FR.add (h : FR W O i k) {u v : List UInt8} (hne : i ≠ k) (hu : W[i]? = some u) (hv : W[k]? = some v) (hp : u.isPrefixOf v = true) : FR W (O ++ [(v, v.drop u.length)]) i (k + 1) :=
 ⟨fun p hpm => by
   rcases List.mem_append.1 hpm with hpm | hpm
   ·exact h.ok p hpm
   ·rw [List.mem_singleton] at hpm
    exact ⟨i, k, u, v, hne, hu, hv, hp, hpm⟩,
  fun a b u' v' hab hne' hu' hv' hp' => by
   rw [List.mem_append]
   by_cases e : a = i ∧ b = k
   ·obtain ⟨rfl, rfl⟩ := e
    rw [hu] at hu'; injection hu' with hu'
    rw [hv] at hv'; injection hv' with hv'
    subst hu'; subst hv'
    exact .inr (List.mem_singleton.2 rfl)
   ·exact .inl (h.all a b u' v' (by omega) hne' hu' hv' hp'), by rw [List.length_append]; have := h.len; simp; omega⟩
theorem FR.row (h : FR W O i W.length) (h10 : W.length ≤ 10) : FR W O (i + 1) 0 :=
 ⟨h.ok, fun a b u v hab hne hu hv hp => by
  have hb : b < W.length := (List.getElem?_eq_some_iff.1 hv).1
  exact h.all a b u v (by omega) hne hu hv hp, by have := h.len; omega⟩
structure JW (W : List (List UInt8)) (O R : List Amb) : Prop where
 d : Dij W O R
 nd : (R.map (·.1)).Nodup
 ol : O.length ≤ 100 + 10 * R.length
 ob : ∀ p ∈ O, p.1.length ≤ 8 + 8 * R.length
 rb : ∀ p ∈ R, p.2.length ≤ 8 + 8 * R.length
theorem JW.start (h8 : ∀ w ∈ W, w.length ≤ 8) (h10 : W.length ≤ 10) (h : FR W O W.length 0) : JW W O [] where
 d := ⟨fun p hp => by
  obtain ⟨a, b, u, v, hne, hu, hv, hpf, rfl⟩ := h.ok p hp
  exact .base hne hu hv hpf,
  fun p hp => (by cases hp), fun i k u v hne hu hv hpf => .inr (h.all i k u v (.inl (List.getElem?_eq_some_iff.1 hu).1) hne hu hv hpf), fun p hp => (by cases hp)⟩
 nd := by simp
 ol := by have := h.len; simp; omega
 ob := fun p hp => by
  obtain ⟨a, b, u, v, hne, hu, hv, hpf, rfl⟩ := h.ok p hp
  have := h8 v (List.mem_of_getElem? hv)
  show v.length ≤ _
  omega
 rb := fun p hp => (by cases hp)
theorem sfx_le (h8 : ∀ w ∈ W, w.length ≤ 8) {r : List UInt8} (h : r ∈ sfxs W) : r.length ≤ 8 := by
 rw [sfxs, List.mem_flatMap] at h
 obtain ⟨w, hw, h⟩ := h
 rw [List.mem_map] at h
 obtain ⟨i, _, rfl⟩ := h
 rw [List.length_drop]
 have := h8 w hw
 omega
theorem JW.rest (h : JW W O R) (h8 : ∀ w ∈ W, w.length ≤ 8) {p : Amb} (hp : p ∈ O) : p.2.length ≤ 8 := sfx_le h8 (h.d.ok p hp).sfx
theorem JW.rl (h : JW W O R) (h8 : ∀ w ∈ W, w.length ≤ 8) (h10 : W.length ≤ 10) : R.length ≤ 90 := by
 have h1 := nodup_le (l := R.map (·.1)) (m := sfxs W) h.nd fun x hx => by
  rw [List.mem_map] at hx
  obtain ⟨p, hp, rfl⟩ := hx
  exact (h.d.best p hp).1.sfx
 rw [List.length_map] at h1
 exact Nat.le_trans h1 (sfxs_len h8 h10)
def om (O : List Amb) (i : Nat) : Amb := O.getD i ([], [])
theorem om_mem {i : Nat} (h : i < O.length) : om O i ∈ O := by
 rw [om, List.getD_eq_getElem?_getD, List.getElem?_eq_getElem h]
 exact List.getElem_mem h
theorem om_split {i : Nat} (h : i < O.length) : O = O.take i ++ om O i :: O.drop (i + 1) := by
 have e : O.drop i = om O i :: O.drop (i + 1) := by
  rw [om, List.getD_eq_getElem?_getD, List.getElem?_eq_getElem h]
  exact List.drop_eq_getElem_cons h
 rw [← e, List.take_append_drop]
theorem JW.drop (h : JW W O R) {i : Nat} (hi : i < O.length) {t : List UInt8} (hd : ((om O i).2, t) ∈ R) : JW W (O.take i ++ O.drop (i + 1)) R where
 d := by
  have := h.d
  rw [om_split hi] at this
  exact this.drop hd
 nd := h.nd
 ol := by rw [List.length_append, List.length_take, List.length_drop]; have := h.ol; omega
 ob := fun p hp => h.ob p (by
  rcases List.mem_append.1 hp with hp | hp
  ·exact List.mem_of_mem_take hp
  ·exact List.mem_of_mem_drop hp)
 rb := h.rb
theorem exR_len {r w m r' : List UInt8} (h : exR r w = some (m, r')) (hw : w.length ≤ 8) : m.length ≤ 8 := by
 unfold exR at h
 split at h
 ·injection h with h; injection h with h1 h2
  rw [← h1]; simp
 ·split at h
  ·injection h with h; injection h with h1 h2
   rw [← h1, List.length_drop]; omega
  ·cases h
theorem JW.take (h : JW W O R) (h8 : ∀ w ∈ W, w.length ≤ 8) (h10 : W.length ≤ 10) {i : Nat} (hi : i < O.length) (hm : ∀ q ∈ O, leT (om O i).1 q.1) (hd : ∀ t, ((om O i).2, t) ∉ R) :
 JW W (O.take i ++ O.drop (i + 1) ++ (if (om O i).2 = [] then [] else succs (om O i) W)) (((om O i).2, (om O i).1) :: R) where
 d := by
  have := h.d
  have hm' := hm
  rw [om_split hi] at this
  refine this.take (fun q hq => hm q ?_) hd
  rw [om_split hi]; exact hq
 nd := by
  rw [List.map_cons, List.nodup_cons]
  refine ⟨fun hx => ?_, h.nd⟩
  rw [List.mem_map] at hx
  obtain ⟨p, hp, e⟩ := hx
  exact hd p.2 (by have e' : p.1 = (om O i).2 := e; rw [← e']; exact hp)
 ol := by
  have h1 := h.ol
  have h2 := succs_len (om O i) W
  have h3 : (if (om O i).2 = [] then [] else succs (om O i) W).length ≤ 10 := by
   split
   ·simp
   ·omega
  rw [List.length_append, List.length_append, List.length_take, List.length_drop, List.length_cons]
  omega
 ob := fun p hp => by
  rw [List.length_cons]
  rw [List.mem_append, List.mem_append] at hp
  have h0 := h.ob (om O i) (om_mem hi)
  rcases hp with (hp | hp) | hp
  ·have := h.ob p (List.mem_of_mem_take hp); omega
  ·have := h.ob p (List.mem_of_mem_drop hp); omega
  ·split at hp
   ·cases hp
   ·rw [succs, List.mem_filterMap] at hp
    obtain ⟨w, hw, he⟩ := hp
    cases hx : exR (om O i).2 w with
    | none => rw [hx] at he; cases he
    | some z =>
      rw [hx] at he
      injection he with he
      subst he
      have := exR_len (m := z.1) (r' := z.2) hx (h8 w hw)
      show ((om O i).1 ++ z.1).length ≤ _
      rw [List.length_append]
      omega
 rb := fun p hp => by
  rw [List.length_cons]
  rcases List.mem_cons.1 hp with rfl | hp
  ·have := h.ob (om O i) (om_mem hi); show (om O i).1.length ≤ _; omega
  ·have := h.rb p hp; omega
end
def ambE (p : Amb) : List Value := [.string ⟨p.1.toArray⟩, .string ⟨p.2.toArray⟩]
def ambC (O : List Amb) : List Value := O.flatMap ambE
theorem ambE_len (p : Amb) : (ambE p).length = 2 := rfl
theorem ambC_len (O : List Amb) : (ambC O).length = O.length * 2 := flat_len ambE_len O
theorem ambC_app (a b : List Amb) : ambC (a ++ b) = ambC a ++ ambC b := by simp [ambC]
theorem ambC_one (O : List Amb) : ∀ u ∈ ambC O, u.oneCell' = true := by
 intro u hu
 simp only [ambC, List.mem_flatMap, ambE, List.mem_cons, List.not_mem_nil, or_false] at hu
 obtain ⟨p, _, rfl | rfl⟩ := hu <;> rfl
theorem ambC_take : ∀ (O : List Amb) (k : Nat), ambC (O.take k) = (ambC O).take (k * 2)
 | [], k => by simp [ambC]
 | p :: O, 0 => by simp [ambC]
 | p :: O, k + 1 => by
   have := ambC_take O k
   rw [show (k + 1) * 2 = k * 2 + 1 + 1 by omega]
   simp only [ambC, List.take_succ_cons, List.flatMap_cons, ambE, List.cons_append, List.nil_append] at this ⊢
   rw [this]
theorem ambC_drop : ∀ (O : List Amb) (k : Nat), ambC (O.drop k) = (ambC O).drop (k * 2)
 | [], k => by simp [ambC]
 | p :: O, 0 => by simp [ambC]
 | p :: O, k + 1 => by
   have := ambC_drop O k
   rw [show (k + 1) * 2 = k * 2 + 1 + 1 by omega]
   simp only [ambC, List.drop_succ_cons, List.flatMap_cons, ambE, List.cons_append, List.nil_append] at this ⊢
   rw [this]
def rk : List UInt8 → Nat
 | [] => 0
 | c :: t => (c.toNat + 1) * 257 ^ t.length + rk t
theorem rk_lt : ∀ t : List UInt8, rk t < 257 ^ t.length
 | [] => by simp [rk]
 | c :: t => by
   have ih := rk_lt t
   have hc : c.toNat + 2 ≤ 257 := by have := UInt8.toNat_lt c; omega
   have h2 : (c.toNat + 2) * 257 ^ t.length ≤ 257 * 257 ^ t.length := Nat.mul_le_mul_right _ hc
   have e : (c.toNat + 2) * 257 ^ t.length = (c.toNat + 1) * 257 ^ t.length + 257 ^ t.length := by rw [show c.toNat + 2 = (c.toNat + 1) + 1 from rfl, Nat.add_mul _ 1, Nat.one_mul]
   rw [rk, List.length_cons, Nat.pow_succ, Nat.mul_comm (257 ^ t.length) 257]
   omega
theorem rk_low (c : UInt8) (t : List UInt8) : 257 ^ t.length ≤ rk (c :: t) := by
 rw [rk]
 have : 1 * 257 ^ t.length ≤ (c.toNat + 1) * 257 ^ t.length := Nat.mul_le_mul_right _ (by omega)
 omega
theorem rk_bl : ∀ a b : List UInt8, a.length = b.length → Op.bytesLess a b = true → rk a < rk b
 | [], [], _, h => by simp [Op.bytesLess] at h
 | [], _ :: _, h, _ => by simp at h
 | _ :: _, [], h, _ => by simp at h
 | a :: x, b :: y, h, h2 => by
   have hl : x.length = y.length := by simpa using h
   simp only [Op.bytesLess, Bool.or_eq_true, Bool.and_eq_true, decide_eq_true_eq, beq_iff_eq] at h2
   rw [rk, rk, hl]
   rcases h2 with h2 | ⟨rfl, h2⟩
   ·have h3 := rk_lt x
    rw [hl] at h3
    have h4 : (a.toNat + 2) * 257 ^ y.length ≤ (b.toNat + 1) * 257 ^ y.length := Nat.mul_le_mul_right _ (by rw [UInt8.lt_iff_toNat_lt] at h2; omega)
    have e : (a.toNat + 2) * 257 ^ y.length = (a.toNat + 1) * 257 ^ y.length + 257 ^ y.length := by rw [show a.toNat + 2 = (a.toNat + 1) + 1 from rfl, Nat.add_mul _ 1, Nat.one_mul]
    omega
   ·have := rk_bl x y hl h2
    omega
theorem rk_less {a b : List UInt8} (h : lessT a b = true) : rk a < rk b := by
 rcases lessT_iff.1 h with h | ⟨h1, h2⟩
 ·cases b with
  | nil => simp at h
  | cons c t =>
    rw [List.length_cons] at h
    have h1 := rk_lt a
    have h2 : 257 ^ a.length ≤ 257 ^ t.length := Nat.pow_le_pow_right (by omega) (by omega)
    have h3 := rk_low c t
    omega
 ·exact rk_bl a b h1 h2
def bigE (n : Nat) : Nat := 257 ^ n
theorem bigE_le {a b : Nat} (h : a ≤ b) : bigE a ≤ bigE b := Nat.pow_le_pow_right (by omega) h
theorem rk_bigE (t : List UInt8) : rk t < bigE t.length := rk_lt t
def bigN : Nat := bigE 1000
theorem rk_big {t : List UInt8} (h : t.length ≤ 1000) : rk t < bigN := by
 rw [bigN]
 exact Nat.lt_of_lt_of_le (rk_bigE t) (bigE_le h)
def putR : List Amb → List UInt8 → List UInt8 → List Amb
 | [], r, t => [(r, t)]
 | p :: R, r, t => if p.1 = r then (if lessT t p.2 = true then (r, t) :: R else p :: R) else p :: putR R r t
def putB : List Amb → List UInt8 → List UInt8 → Bool
 | [], _, _ => true
 | p :: R, r, t => if p.1 = r then lessT t p.2 else putB R r t
theorem put_new : ∀ {R : List Amb} {r : List UInt8} (t : List UInt8), (∀ p ∈ R, p.1 ≠ r) → putR R r t = R ++ [(r, t)] ∧ putB R r t = true
 | [], r, t, _ => ⟨rfl, rfl⟩
 | p :: R, r, t, h => by
   obtain ⟨h1, h2⟩ := put_new (R := R) t fun q hq => h q (List.mem_cons_of_mem _ hq)
   rw [putR, putB, if_neg (h p (by simp)), if_neg (h p (by simp)), h1, h2]
   exact ⟨rfl, rfl⟩
theorem put_old : ∀ (A : List Amb) {r s : List UInt8} {B : List Amb} (t : List UInt8), (∀ p ∈ A, p.1 ≠ r) →
 putR (A ++ (r, s) :: B) r t = (if lessT t s = true then A ++ (r, t) :: B else A ++ (r, s) :: B) ∧ putB (A ++ (r, s) :: B) r t = lessT t s
 | [], r, s, B, t, _ => by
   rw [List.nil_append, List.nil_append, putR, putB, if_pos rfl, if_pos rfl]
   exact ⟨rfl, rfl⟩
 | p :: A, r, s, B, t, h => by
   obtain ⟨h1, h2⟩ := put_old A (r := r) (s := s) (B := B) t fun q hq => h q (List.mem_cons_of_mem _ hq)
   rw [List.cons_append, List.cons_append, putR, putB, if_neg (h p (by simp)), if_neg (h p (by simp)), h1, h2]
   refine ⟨?_, rfl⟩
   split <;> rfl
theorem key_split : ∀ {R : List Amb} {r : List UInt8}, (∃ p ∈ R, p.1 = r) → ∃ A s B, R = A ++ (r, s) :: B ∧ ∀ p ∈ A, p.1 ≠ r
 | [], r, ⟨p, hp, _⟩ => by cases hp
 | p :: R, r, h => by
   by_cases e : p.1 = r
   ·exact ⟨[], p.2, R, by rw [← e]; rfl, fun q hq => by cases hq⟩
   ·obtain ⟨q, hq, e2⟩ := h
    rcases List.mem_cons.1 hq with rfl | hq
    ·exact absurd e2 e
    ·obtain ⟨A, s, B, rfl, hA⟩ := key_split ⟨q, hq, e2⟩
     refine ⟨p :: A, s, B, rfl, fun x hx => ?_⟩
     rcases List.mem_cons.1 hx with rfl | hx
     ·exact e
     ·exact hA x hx
def Cov (R R' : List Amb) : Prop := ∀ p ∈ R, ∃ t, (p.1, t) ∈ R' ∧ leT t p.2
theorem Cov.refl (R : List Amb) : Cov R R := fun p hp => ⟨p.2, hp, leT_refl _⟩
structure RW (W : List (List UInt8)) (R : List Amb) : Prop where
 ok : ∀ p ∈ R, Rst W p.1 p.2
 nd : (R.map (·.1)).Nodup
 tb : ∀ p ∈ R, p.2.length ≤ 8 + 8 * R.length
def mu (R : List Amb) : Nat := (90 - R.length) * bigN + (R.map fun p => rk p.2).sum
section
variable {W : List (List UInt8)} {R R' R0 : List Amb} {r t : List UInt8}
theorem RW.rl (h : RW W R) (h8 : ∀ w ∈ W, w.length ≤ 8) (h10 : W.length ≤ 10) : R.length ≤ 90 := by
 have h1 := nodup_le (l := R.map (·.1)) (m := sfxs W) h.nd fun x hx => by
  rw [List.mem_map] at hx
  obtain ⟨p, hp, rfl⟩ := hx
  exact (h.ok p hp).sfx
 rw [List.length_map] at h1
 exact Nat.le_trans h1 (sfxs_len h8 h10)
structure Puts (W : List (List UInt8)) (R : List Amb) (r t : List UInt8) (R' : List Amb) (b : Bool) : Prop where
 rw : RW W R'
 cov : Cov R R'
 has : ∃ s, (r, s) ∈ R' ∧ leT s t
 lt : b = true → mu R' < mu R
 eq : b = false → R' = R
 ln : R.length ≤ R'.length
theorem RW.put (h : RW W R) (h8 : ∀ w ∈ W, w.length ≤ 8) (h10 : W.length ≤ 10) (hr : Rst W r t) (ht : t.length ≤ 16 + 8 * R.length) : Puts W R r t (putR R r t) (putB R r t) := by
 by_cases hx : ∃ p ∈ R, p.1 = r
 ·obtain ⟨A, s, B, rfl, hA⟩ := key_split hx
  obtain ⟨e1, e2⟩ := put_old A (s := s) (B := B) t hA
  cases hl : lessT t s with
  | false =>
    rw [hl, if_neg (by simp)] at e1
    rw [e1, e2, hl]
    exact ⟨h, Cov.refl _, ⟨s, by simp, hl⟩, fun h => (by cases h), fun _ => rfl, Nat.le_refl _⟩
  | true =>
    rw [hl, if_pos rfl] at e1
    rw [e1, e2, hl]
    have hle := leT_of_less hl
    have hsl : t.length ≤ s.length := by rcases lessT_iff.1 hl with h | ⟨h, _⟩ <;> omega
    refine ⟨⟨fun p hp => ?_, ?_, fun p hp => ?_⟩, fun p hp => ?_, ⟨t, by simp, leT_refl _⟩, fun _ => ?_, fun h => (by cases h), by simp⟩
    ·simp only [List.mem_append, List.mem_cons] at hp
     rcases hp with hp | rfl | hp
     ·exact h.ok p (by simp [hp])
     ·exact hr
     ·exact h.ok p (by simp [hp])
    ·have := h.nd
     simpa using this
    ·have hlen : (A ++ (r, t) :: B).length = (A ++ (r, s) :: B).length := by simp
     rw [hlen]
     simp only [List.mem_append, List.mem_cons] at hp
     rcases hp with hp | rfl | hp
     ·exact h.tb p (by simp [hp])
     ·have := h.tb (r, s) (by simp)
      exact Nat.le_trans hsl this
     ·exact h.tb p (by simp [hp])
    ·simp only [List.mem_append, List.mem_cons] at hp
     rcases hp with hp | rfl | hp
     ·exact ⟨p.2, by simp [hp], leT_refl _⟩
     ·exact ⟨t, by simp, hle⟩
     ·exact ⟨p.2, by simp [hp], leT_refl _⟩
    ·have h1 := rk_less hl
     unfold mu
     simp only [List.length_append, List.length_cons, List.map_append, List.map_cons, List.sum_append, List.sum_cons]
     omega
 ·have hA : ∀ p ∈ R, p.1 ≠ r := fun p hp e => hx ⟨p, hp, e⟩
  obtain ⟨e1, e2⟩ := put_new t hA
  rw [e1, e2]
  have hrw : RW W (R ++ [(r, t)]) := ⟨fun p hp => by
   rw [List.mem_append, List.mem_singleton] at hp
   rcases hp with hp | rfl
   ·exact h.ok p hp
   ·exact hr,
   by
    rw [List.map_append, List.nodup_append]
    refine ⟨h.nd, by simp, fun a ha b hb hab => ?_⟩
    simp only [List.map_cons, List.map_nil, List.mem_singleton] at hb
    subst hb hab
    rw [List.mem_map] at ha
    obtain ⟨p, hp, e⟩ := ha
    exact hA p hp e,
   fun p hp => by
    rw [List.length_append, List.length_singleton]
    rw [List.mem_append, List.mem_singleton] at hp
    rcases hp with hp | rfl
    ·have := h.tb p hp; omega
    ·show t.length ≤ _; omega⟩
  have hn := hrw.rl h8 h10
  rw [List.length_append, List.length_singleton] at hn
  refine ⟨hrw, fun p hp => ⟨p.2, by simp [hp], leT_refl _⟩, ⟨t, by simp, leT_refl _⟩, fun _ => ?_, fun h => (by cases h), by simp⟩
  have h1 := rk_big (t := t) (by omega)
  unfold mu
  simp only [List.length_append, List.length_singleton, List.map_append, List.map_cons, List.map_nil, List.sum_append, List.sum_cons, List.sum_nil]
  have e9 : (90 - R.length) * bigN = (90 - (R.length + 1)) * bigN + bigN := by
   rw [show 90 - R.length = (90 - (R.length + 1)) + 1 by omega, Nat.add_mul _ 1, Nat.one_mul]
  omega
theorem putR_keys (R : List Amb) (r t : List UInt8) : ((putR R r t).map (·.1) = R.map (·.1) ∧ (putR R r t).length = R.length) ∨ ((putR R r t).map (·.1) = R.map (·.1) ++ [r] ∧ (putR R r t).length = R.length + 1) := by
 by_cases hx : ∃ p ∈ R, p.1 = r
 ·obtain ⟨A, s, B, rfl, hA⟩ := key_split hx
  obtain ⟨e1, _⟩ := put_old A (s := s) (B := B) t hA
  rw [e1]
  left
  split <;> simp
 ·obtain ⟨e1, _⟩ := put_new t fun p hp e => hx ⟨p, hp, e⟩
  rw [e1]
  right
  simp
theorem om_key {i : Nat} (h : i < R.length) : (R.map (·.1))[i]? = some (om R i).1 := by
 rw [List.getElem?_map, List.getElem?_eq_getElem h, om, List.getD_eq_getElem?_getD, List.getElem?_eq_getElem h]; rfl
theorem putR_key (R : List Amb) (r t : List UInt8) {i : Nat} (h : i < R.length) : (om (putR R r t) i).1 = (om R i).1 ∧ i < (putR R r t).length := by
 have hl : i < (putR R r t).length := by rcases putR_keys R r t with h1 | h1 <;> omega
 refine ⟨?_, hl⟩
 have e1 := om_key hl
 have e2 := om_key h
 rcases putR_keys R r t with ⟨h1, _⟩ | ⟨h1, _⟩
 ·rw [h1, e2] at e1
  injection e1 with e1
  exact e1.symm
 ·rw [h1, List.getElem?_append_left (by rw [List.length_map]; exact h), e2] at e1
  injection e1 with e1
  exact e1.symm
def BA (W : List (List UInt8)) (R : List Amb) (i k : Nat) : Prop := ∀ (a b : Nat) (u v : List UInt8), (b < i ∨ (b = i ∧ a < k)) → a ≠ b → W[a]? = some u → W[b]? = some v → u.isPrefixOf v = true → ∃ t, (v.drop u.length, t) ∈ R ∧ leT t v
theorem BA.cov {i k : Nat} (h : BA W R i k) (hc : Cov R R') : BA W R' i k := fun a b u v h1 h2 h3 h4 h5 => by
 obtain ⟨t, ht, hle⟩ := h a b u v h1 h2 h3 h4 h5
 obtain ⟨s, hs, hle2⟩ := hc _ ht
 exact ⟨s, hs, leT_trans hle2 hle⟩
theorem BA.start (W : List (List UInt8)) : BA W [] 0 0 := fun a b u v h => by omega
theorem BA.row {i : Nat} (h : BA W R i W.length) : BA W R (i + 1) 0 := fun a b u v h1 h2 h3 h4 h5 =>
 h a b u v (by have := (List.getElem?_eq_some_iff.1 h3).1; omega) h2 h3 h4 h5
theorem BA.skip {i k : Nat} (h : BA W R i k) (hno : ∀ u v, i ≠ k → W[k]? = some u → W[i]? = some v → u.isPrefixOf v = false) : BA W R i (k + 1) := fun a b u v h1 h2 h3 h4 h5 => by
 by_cases e : b = i ∧ a = k
 ·obtain ⟨rfl, rfl⟩ := e
  rw [hno u v (fun e => h2 e.symm) h3 h4] at h5; cases h5
 ·exact h a b u v (by omega) h2 h3 h4 h5
theorem BA.add {i k : Nat} {u v : List UInt8} (h : BA W R i k) (hu : W[k]? = some u) (hv : W[i]? = some v) {b : Bool} (hp : Puts W R (v.drop u.length) v R' b) : BA W R' i (k + 1) := fun a b u' v' h1 h2 h3 h4 h5 => by
 by_cases e : b = i ∧ a = k
 ·obtain ⟨rfl, rfl⟩ := e
  rw [hu] at h3; injection h3 with h3
  rw [hv] at h4; injection h4 with h4
  subst h3 h4
  exact hp.has
 ·exact (h.cov hp.cov) a b u' v' (by omega) h2 h3 h4 h5
structure RB (W : List (List UInt8)) (R : List Amb) (i k : Nat) : Prop where
 rw : RW W R
 ba : BA W R i k
theorem RB.start (W : List (List UInt8)) : RB W [] 0 0 := ⟨⟨fun p hp => (by cases hp), by simp, fun p hp => (by cases hp)⟩, BA.start W⟩
theorem RB.row {i : Nat} (h : RB W R i W.length) : RB W R (i + 1) 0 := ⟨h.rw, h.ba.row⟩
theorem RB.skip {i k : Nat} (h : RB W R i k) (hno : ∀ u v, i ≠ k → W[k]? = some u → W[i]? = some v → u.isPrefixOf v = false) : RB W R i (k + 1) := ⟨h.rw, h.ba.skip hno⟩
theorem RB.add {i k : Nat} {u v : List UInt8} (h : RB W R i k) (h8 : ∀ w ∈ W, w.length ≤ 8) (h10 : W.length ≤ 10) (hik : i ≠ k) (hu : W[k]? = some u) (hv : W[i]? = some v) (hp : u.isPrefixOf v = true) : RB W (putR R (v.drop u.length) v) i (k + 1) := by
 have hq := h.rw.put h8 h10 (.base (fun e => hik e.symm) hu hv hp) (by have := h8 v (List.mem_of_getElem? hv); omega)
 exact ⟨hq.rw, h.ba.add hu hv hq⟩
def NX (W : List (List UInt8)) (R : List Amb) (i k : Nat) : Prop := ∀ (a b : Nat) (w : List UInt8), (a < i ∨ (a = i ∧ b < k)) → a < R.length → W[b]? = some w → (om R a).1 ≠ [] → ∀ m r', exR (om R a).1 w = some (m, r') → ∃ t, (r', t) ∈ R ∧ leT t ((om R a).2 ++ m)
structure RD (W : List (List UInt8)) (R0 R : List Amb) (more : Bool) (i k : Nat) : Prop where
 rw : RW W R
 ba : BA W R W.length 0
 le : mu R ≤ mu R0
 lt : more = true → mu R < mu R0
 nx : more = false → NX W R i k
theorem RD.start (h : RB W R W.length 0) : RD W R R false 0 0 := ⟨h.rw, h.ba, Nat.le_refl _, fun h => (by cases h), fun _ a b w h1 => by omega⟩
theorem RD.none {b : Bool} {i k : Nat} (h : RD W R0 R b i k) (hno : ∀ w, W[k]? = some w → exR (om R i).1 w = Option.none) : RD W R0 R b i (k + 1) := ⟨h.rw, h.ba, h.le, h.lt, fun hb a c w h1 h2 h3 h4 m r' h5 => by
 by_cases e : a = i ∧ c = k
 ·obtain ⟨rfl, rfl⟩ := e
  rw [hno w h3] at h5; cases h5
 ·exact h.nx hb a c w (by omega) h2 h3 h4 m r' h5⟩
theorem RD.row {b : Bool} {i k : Nat} (h : RD W R0 R b i k) (hk : k = W.length ∨ (om R i).1 = []) : RD W R0 R b (i + 1) 0 := ⟨h.rw, h.ba, h.le, h.lt, fun hb a c w h1 h2 h3 h4 m r' h5 => by
 have hc := (List.getElem?_eq_some_iff.1 h3).1
 rcases Nat.lt_or_ge a i with hlt | hge
 ·exact h.nx hb a c w (.inl hlt) h2 h3 h4 m r' h5
 ·obtain rfl : a = i := by omega
  rcases hk with rfl | hk
  ·exact h.nx hb a c w (.inr ⟨rfl, hc⟩) h2 h3 h4 m r' h5
  ·exact absurd hk h4⟩
theorem RD.put {b : Bool} {i k : Nat} (h : RD W R0 R b i k) (h8 : ∀ w ∈ W, w.length ≤ 8) (h10 : W.length ≤ 10) (hi : i < R.length) {w m r' : List UInt8} (hw : W[k]? = some w) (hr : (om R i).1 ≠ []) (he : exR (om R i).1 w = some (m, r')) :
 RD W R0 (putR R r' ((om R i).2 ++ m)) (b || putB R r' ((om R i).2 ++ m)) i (k + 1) := by
 have hm := om_mem hi
 have hwm := List.mem_of_getElem? hw
 have hl := exR_len he (h8 w hwm)
 have hq := h.rw.put (r := r') (t := (om R i).2 ++ m) h8 h10 (.step (h.rw.ok _ hm) hr hwm he) (by rw [List.length_append]; have := h.rw.tb _ hm; omega)
 refine ⟨hq.rw, h.ba.cov hq.cov, ?_, fun hb => ?_, fun hb => ?_⟩
 ·have := h.le
  cases hx : putB R r' ((om R i).2 ++ m) with
  | true => have := hq.lt hx; omega
  | false => rw [hq.eq hx]; exact this
 ·cases hx : putB R r' ((om R i).2 ++ m) with
  | true => have := hq.lt hx; have := h.le; omega
  | false =>
    rw [hx, Bool.or_false] at hb
    rw [hq.eq hx]; exact h.lt hb
 ·rw [Bool.or_eq_false_iff] at hb
  have hh := hq.has
  rw [hq.eq hb.2] at hh ⊢
  intro a c w' h1 h2 h3 h4 m' r'' h5
  by_cases e : a = i ∧ c = k
  ·obtain ⟨rfl, rfl⟩ := e
   rw [hw] at h3; injection h3 with h3
   subst h3
   rw [he] at h5; injection h5 with h5; injection h5 with h5 h6
   subst h5 h6
   exact hh
  ·exact h.nx hb.1 a c w' (by omega) h2 h3 h4 m' r'' h5
theorem RD.fix {k : Nat} (h : RD W R0 R false R.length k) : Fix W R where
 ok := h.rw.ok
 base := fun i k u v hik hu hv hp => h.ba i k u v (.inl (List.getElem?_eq_some_iff.1 hv).1) hik hu hv hp
 next := fun p hp hr w hw m r' he => by
  obtain ⟨i, hi, rfl⟩ := List.getElem_of_mem hp
  obtain ⟨j, hj, rfl⟩ := List.getElem_of_mem hw
  have e : R[i] = om R i := by rw [om, List.getD_eq_getElem?_getD, List.getElem?_eq_getElem hi]; rfl
  rw [e] at hr he ⊢
  exact h.nx rfl i j _ (.inl hi) hi (List.getElem?_eq_getElem hj) hr m r' he
theorem nodup_key (h : (R.map (·.1)).Nodup) : ∀ r s t, (r, s) ∈ R → (r, t) ∈ R → s = t := by
 induction R with
 | nil => intro r s t h1; cases h1
 | cons p R ih =>
   rw [List.map_cons, List.nodup_cons] at h
   intro r s t h1 h2
   have key : ∀ x, (p.1, x) ∈ R → False := fun x hx => h.1 (by rw [List.mem_map]; exact ⟨_, hx, rfl⟩)
   rcases List.mem_cons.1 h1 with e1 | h1
   ·rcases List.mem_cons.1 h2 with e2 | h2
    ·rw [← e2] at e1; injection e1
    ·exact absurd h2 (fun hx => key t (by rw [← e1]; exact hx))
   ·rcases List.mem_cons.1 h2 with e2 | h2
    ·exact absurd h1 (fun hx => key s (by rw [← e2]; exact hx))
    ·exact ih h.2 r s t h1 h2
end
def IdxIs (l : List ByteArray) (s : ByteArray) (i : Int) : Prop := (i = -1 ∧ ∀ j, j < l.length → wd l j ≠ s) ∨ ∃ k : Nat, i = k ∧ k < l.length ∧ wd l k = s ∧ ∀ j, j < k → wd l j ≠ s
theorem l17Index_any (A : Option Addr) (c : Nat) (l : List ByteArray) (s : ByteArray) (w : World) (h : Rds w 1 A l.length (strs l)) (hn : l.length ≤ 100000000) :
 Calls Tryz.prog 188 #[.slice A l.length c, .string s] w fun e w' => ∃ i : Int, e = .returned (i64 i) ∧ IdxIs l s i ∧ w = w' := by
 have HR := hd_ h
 clear h
 go_enter Tryz.func188, Tryz.ntmps188
 go_wp2_with fail
 go_loopw [5] (fun t5 wr => ∃ k : Nat, k ≤ l.length ∧ t5 = i64 k ∧ Hid (∀ j, j < k → wd l j ≠ s) ∧ wr = w) (fun t5 _ => l.length - (intOf t5).toNat)
 case atStart => exact ⟨0, by omega, rfl, fun j hj => absurd hj (by omega), rfl⟩
 case round =>
  obtain ⟨k, hk, rfl, HN, hw⟩ := hrel
  subst hw
  by_cases hlt : k < l.length
  ·have hlt' : (k : Int) < (l.length : Int) := by omega
   obtain ⟨b, off, rfl, hb, hc⟩ := wd_at HR.out hlt
   have c0 := hc k hlt
   clear hc
   by_cases he : wd l k = s
   ·have hq := tl_teq he
    go_wp2_with fail
    go_ret
    exact ⟨k, rfl, .inr ⟨k, rfl, hlt, he, HN.out⟩, rfl⟩
   ·have hq := tl_tne he
    go_wp2_with fail
    go_roundw
    case rel => exact ⟨k + 1, by omega, by go_num, hd_ fun j hj => by
     by_cases e : j = k
     ·rw [e]; exact he
     ·exact HN.out j (by omega), trivial⟩
    case measure => (simp [intOf]; try omega)
  ·obtain rfl : k = l.length := by omega
   go_wp2_with fail
   go_ret
   exact ⟨-1, rfl, .inl ⟨rfl, HN.out⟩, rfl⟩
theorem pre_iff {s t : ByteArray} : t.data.toList.isPrefixOf s.data.toList = true ↔ t.size ≤ s.size ∧ s.extract 0 t.size = t := by
 rw [List.isPrefixOf_iff_prefix]
 constructor
 ·rintro ⟨r, hr⟩
  have hl := congrArg List.length hr
  rw [List.length_append, bsz, bsz] at hl
  refine ⟨by omega, ba_ext ?_⟩
  rw [bs_extract, bs_list, List.drop_zero, Nat.sub_zero, ← hr, ← bsz, List.take_left]
 ·rintro ⟨_, h2⟩
  have h3 := congrArg (fun x : ByteArray => x.data.toList) h2
  simp only [bs_extract, List.drop_zero, Nat.sub_zero] at h3
  exact ⟨s.data.toList.drop t.size, by rw [← h3]; simp⟩
def begB (s t : ByteArray) : Bool := t.data.toList.isPrefixOf s.data.toList
theorem l17Begins_any (s t : ByteArray) (w : World) (hs : s.size ≤ 1000000000) (ht : t.size ≤ 1000000000) :
 Calls Tryz.prog 216 #[.string s, .string t] w fun e w' => e = .returned (.bool (begB s t)) ∧ w = w' := by
 by_cases h1 : t.size ≤ s.size
 ·have h1' : (t.size : Int) ≤ (s.size : Int) := by omega
  have hsl : ∀ wx : World, (Instr.slice 9 (.string s) none (some (i64 t.size)) none).run Tryz.prog wx = .ok (.string (s.extract 0 t.size)) wx := fun wx => by
   have := run_slice_string_to_if (P := Tryz.prog) wx 9 s .i64 (t.size : Int) Tryz.underlying9
   rw [if_pos (by omega)] at this
   simpa using this
  by_cases he : s.extract 0 t.size = t
  ·have hq := tl_teq he
   have hf := hd_ (show begB s t = true from pre_iff.2 ⟨h1, he⟩)
   go_enter Tryz.func216, Tryz.ntmps216
   go_wp2_with fail
   go_ret
   rw [hf.out]
   exact ⟨rfl, rfl⟩
  ·have hq := tl_tne he
   have hf := hd_ (show begB s t = false by
    rw [← Bool.not_eq_true]; exact fun h => he (pre_iff.1 h).2)
   go_enter Tryz.func216, Tryz.ntmps216
   go_wp2_with fail
   go_ret
   rw [hf.out]
   exact ⟨rfl, rfl⟩
 ·have h1' : ¬ (t.size : Int) ≤ (s.size : Int) := by omega
  have hf := hd_ (show begB s t = false by
   rw [← Bool.not_eq_true]; exact fun h => h1 (pre_iff.1 h).1)
  go_enter Tryz.func216, Tryz.ntmps216
  go_wp2_with fail
  go_ret
  rw [hf.out]
  exact ⟨rfl, rfl⟩
theorem own_someT {w : World} {base e size n c : Nat} {A : Option Addr} {xs : List Value} (h : w.ownsRow base e size (.slice A n c) n xs) (hn : 0 < n) : ∃ g, A = some ⟨g, 0, none⟩ := by
 obtain ⟨_, ⟨_, h2⟩ | ⟨g, cap, cur, h1, _⟩⟩ := h
 ·omega
 ·injection h1 with h1
  exact ⟨g, h1⟩
theorem own_set1 {V : World} {base e size n q : Nat} {t : TypeId} {v : Value} {xs : List Value} {cs : Array Value} (h : V.ownsRow base e size v n xs) (hb : Blk V q t cs) (hne : e ≠ t) (i : Nat) (u : Value) : (V.setCell ⟨q, i, none⟩ u).ownsRow base e size v n xs := by
 have h9 := blk_tne hb h hne
 refine ⟨h.1, ?_⟩
 rcases h.2 with h2 | ⟨g, cap, cur, rfl, hg, hgg, r⟩
 ·exact .inl h2
 ·refine .inr ⟨g, cap, cur, rfl, hg, ?_, r⟩
  rw [Below.heap_setCell _ _ _ g (fun e => h9 (by rw [show g = q from e]; rfl))]
  exact hgg
structure QK (w0 V : World) (rb : Nat) (K T : List ByteArray) (more : Bool) (A : Option Addr) (c : Nat) (E : Option Addr) (d : Nat) : Prop where
 bk : Blk V rb 204 #[.slice A K.length c, .slice E T.length d, .bool more]
 ka : V.ownsRow w0.heap.size 9 1 (.slice A K.length c) K.length (strs K)
 te : V.ownsRow w0.heap.size 9 1 (.slice E T.length d) T.length (strs T)
 ne : (Value.slice A K.length c).ownBlock = none ∨ (Value.slice A K.length c).ownBlock ≠ (Value.slice E T.length d).ownBlock
 lo : w0.heap.size ≤ rb
 up : UpOf w0 V
section
variable {w0 V V' : World} {rb : Nat} {K T : List ByteArray} {more : Bool} {A E : Option Addr} {c d : Nat}
theorem QK.below (h : QK w0 V rb K T more A c E d) (hb : Below V.heap.size V V') : QK w0 V' rb K T more A c E d :=
 ⟨h.bk.up ⟨V', hb⟩, ob_ h.ka hb, ob_ h.te hb, h.ne, h.lo, h.up.tr hb⟩
theorem QK.ne2 (h : QK w0 V rb K T more A c E d) : (Value.slice E T.length d).ownBlock = none ∨ (Value.slice E T.length d).ownBlock ≠ (Value.slice A K.length c).ownBlock := by
 cases he : (Value.slice E T.length d).ownBlock with
 | none => exact .inl rfl
 | some x =>
   refine .inr fun e => ?_
   rcases h.ne with h1 | h1
   ·rw [h1] at e; cases e
   ·exact h1 (by rw [he]; exact e.symm)
theorem QK.key {K' : List ByteArray} {g c' H : Nat} (h : QK w0 V rb K T more A c E d) (hg : V.grownBy V' (Value.slice A K.length c).ownBlock)
 (ho : V'.ownsRow w0.heap.size 9 1 (.slice (some ⟨g, 0, none⟩) K'.length c') K'.length (strs K')) (hl : (Value.slice A K.length c).ownBlock = some g ∨ g = H) (hH : V.heap.size = H) :
 QK w0 (V'.setCell ⟨rb, 0, none⟩ (.slice (some ⟨g, 0, none⟩) K'.length c')) rb K' T more (some ⟨g, 0, none⟩) c' E d := by
 have hb := h.bk.grown hg (blk_tne h.bk h.ka (by decide))
 have hu : UpOf w0 V' := up_of_grown h.up.below hg fun k hk => (h.ka.lt k hk).1
 refine ⟨hb.put 0 _, own_set1 ho hb (by decide) 0 _, own_set1 (h.te.kept hg h.ne2) hb (by decide) 0 _, .inr fun e => ?_, h.lo, UpOf.of (hu.below.setCell (p := ⟨rb, 0, none⟩) h.lo _)⟩
 have hlt := (h.te.lt g (by rw [← e]; rfl)).2
 rcases hl with hl | rfl
 ·rcases h.ne with h1 | h1
  ·rw [h1] at hl; cases hl
  ·exact h1 (by rw [hl, ← e]; rfl)
 ·omega
theorem QK.txt {T' : List ByteArray} {g d' H : Nat} (h : QK w0 V rb K T more A c E d) (hg : V.grownBy V' (Value.slice E T.length d).ownBlock)
 (ho : V'.ownsRow w0.heap.size 9 1 (.slice (some ⟨g, 0, none⟩) T'.length d') T'.length (strs T')) (hl : (Value.slice E T.length d).ownBlock = some g ∨ g = H) (hH : V.heap.size = H) :
 QK w0 (V'.setCell ⟨rb, 1, none⟩ (.slice (some ⟨g, 0, none⟩) T'.length d')) rb K T' more A c (some ⟨g, 0, none⟩) d' := by
 have hb := h.bk.grown hg (blk_tne h.bk h.te (by decide))
 have hu : UpOf w0 V' := up_of_grown h.up.below hg fun k hk => (h.te.lt k hk).1
 refine ⟨hb.put 1 _, own_set1 (h.ka.kept hg h.ne) hb (by decide) 1 _, own_set1 ho hb (by decide) 1 _, ?_, h.lo, UpOf.of (hu.below.setCell (p := ⟨rb, 1, none⟩) h.lo _)⟩
 cases ha : (Value.slice A K.length c).ownBlock with
 | none => exact .inl rfl
 | some x =>
   refine .inr fun e => ?_
   have e2 : x = g := by simpa [Value.ownBlock] using e
   subst e2
   have hlt := (h.ka.lt x ha).2
   rcases hl with hl | rfl
   ·rcases h.ne with h1 | h1
    ·rw [ha] at h1; cases h1
    ·exact h1 (by rw [ha, hl])
   ·omega
theorem QK.flag (h : QK w0 V rb K T more A c E d) (m : Bool) : QK w0 (V.setCell ⟨rb, 2, none⟩ (.bool m)) rb K T m A c E d :=
 ⟨h.bk.put 2 _, own_set1 h.ka h.bk (by decide) 2 _, own_set1 h.te h.bk (by decide) 2 _, h.ne, h.lo, UpOf.of (h.up.below.setCell (p := ⟨rb, 2, none⟩) h.lo _)⟩
theorem strs_set (T : List ByteArray) (k : Nat) (s : ByteArray) : (strs T).set k (.string s) = strs (T.set k s) := by simp [strs, List.map_set]
theorem QK.store {g k : Nat} {s : ByteArray} (h : QK w0 V rb K T more A c (some ⟨g, 0, none⟩) d) (hk : k < T.length) : QK w0 (V.setCell ⟨g, k, none⟩ (.string s)) rb K (T.set k s) more A c (some ⟨g, 0, none⟩) d := by
 have hgl := h.te.lt g rfl
 have hne : rb ≠ g := fun e => by
  have := blk_tne h.bk h.te (by decide)
  exact this (by rw [e]; rfl)
 have hte := (h.te.stored k (.string s)).1
 rw [strs_set] at hte
 have hkk : (V.setCell ⟨g, k, none⟩ (.string s)).ownsRow w0.heap.size 9 1 (.slice A K.length c) K.length (strs K) := by
  refine ⟨h.ka.1, ?_⟩
  rcases h.ka.2 with h2 | ⟨g2, cap, cur, e2, hg2, hgg, r⟩
  ·exact .inl h2
  ·refine .inr ⟨g2, cap, cur, e2, hg2, ?_, r⟩
   rw [Below.heap_setCell _ _ _ g2 (fun e => ?_)]
   ·exact hgg
   ·rcases h.ne with h1 | h1
    ·rw [e2] at h1; cases h1
    ·exact h1 (by rw [e2]; show some g2 = some g; rw [show g2 = g from e])
 exact ⟨by rw [List.length_set]; exact h.bk.far (p := ⟨g, k, none⟩) hne _, hkk, by rw [List.length_set]; exact hte, by rw [List.length_set]; exact h.ne, h.lo, UpOf.of (h.up.below.setCell (p := ⟨g, k, none⟩) hgl.1 _)⟩
end
def keysB (R : List Amb) : List ByteArray := R.map fun p => bs p.1
def textsB (R : List Amb) : List ByteArray := R.map fun p => bs p.2
theorem keysB_len (R : List Amb) : (keysB R).length = R.length := by simp [keysB]
theorem textsB_len (R : List Amb) : (textsB R).length = R.length := by simp [textsB]
theorem wd_keys {R : List Amb} {i : Nat} (h : i < R.length) : wd (keysB R) i = bs (om R i).1 := by
 rw [wd, om, keysB, List.getD_eq_getElem?_getD, List.getD_eq_getElem?_getD, List.getElem?_map, List.getElem?_eq_getElem h]; rfl
theorem wd_texts {R : List Amb} {i : Nat} (h : i < R.length) : wd (textsB R) i = bs (om R i).2 := by
 rw [wd, om, textsB, List.getD_eq_getElem?_getD, List.getD_eq_getElem?_getD, List.getElem?_map, List.getElem?_eq_getElem h]; rfl
theorem putNew {R : List Amb} {r : ByteArray} (t : ByteArray) (h : ∀ j, j < (keysB R).length → wd (keysB R) j ≠ r) :
 keysB (putR R r.data.toList t.data.toList) = keysB R ++ [r] ∧ textsB (putR R r.data.toList t.data.toList) = textsB R ++ [t] ∧ putB R r.data.toList t.data.toList = true := by
 obtain ⟨h1, h2⟩ := put_new (R := R) (r := r.data.toList) t.data.toList fun p hp e => by
  obtain ⟨i, hi, rfl⟩ := List.getElem_of_mem hp
  refine h i (by rw [keysB_len]; exact hi) ?_
  have e2 : R[i] = om R i := by rw [om, List.getD_eq_getElem?_getD, List.getElem?_eq_getElem hi]; rfl
  rw [wd_keys hi, ← e2, e, bs_of]
 rw [h1, h2]
 refine ⟨?_, ?_, rfl⟩
 ·rw [keysB, keysB, List.map_append]; show _ ++ [bs r.data.toList] = _; rw [bs_of]
 ·rw [textsB, textsB, List.map_append]; show _ ++ [bs t.data.toList] = _; rw [bs_of]
theorem putOld {R : List Amb} {r : ByteArray} (t : ByteArray) {k : Nat} (hk : k < (keysB R).length) (he : wd (keysB R) k = r) (hn : ∀ j, j < k → wd (keysB R) j ≠ r) :
 putB R r.data.toList t.data.toList = lessT t.data.toList (wd (textsB R) k).data.toList ∧ keysB (putR R r.data.toList t.data.toList) = keysB R ∧
 textsB (putR R r.data.toList t.data.toList) = if lessT t.data.toList (wd (textsB R) k).data.toList = true then (textsB R).set k t else textsB R := by
 rw [keysB_len] at hk
 have hs := om_split hk
 rw [wd_keys hk] at he
 have he2 : (om R k).1 = r.data.toList := by rw [← he, bs_list]
 have ho : om R k = (r.data.toList, (om R k).2) := by rw [← he2]
 rw [wd_texts hk, bs_list]
 generalize (om R k).2 = s at ho ⊢
 rw [ho] at hs
 have hA : ∀ p ∈ R.take k, p.1 ≠ r.data.toList := fun p hp e => by
  obtain ⟨i, hi, rfl⟩ := List.getElem_of_mem hp
  rw [List.length_take] at hi
  refine hn i (by omega) ?_
  have e2 : (R.take k)[i] = om R i := by rw [List.getElem_take, om, List.getD_eq_getElem?_getD, List.getElem?_eq_getElem (by omega)]; rfl
  rw [wd_keys (by omega), ← e2, e, bs_of]
 have hl : (R.take k).length = k := by rw [List.length_take]; omega
 obtain ⟨h1, h2⟩ := put_old (R.take k) (s := s) (B := R.drop (k + 1)) t.data.toList hA
 rw [← hs] at h1 h2
 refine ⟨h2, ?_, ?_⟩
 ·rw [h1]
  split
  ·rw [hs, keysB, keysB, List.map_append, List.map_append, ← hs]; rfl
  ·rfl
 ·rw [h1]
  split
  ·have e3 : textsB R = textsB (R.take k) ++ bs s :: textsB (R.drop (k + 1)) := by
    show textsB R = _
    rw [show textsB R = textsB (R.take k ++ (r.data.toList, s) :: R.drop (k + 1)) by rw [← hs], textsB, List.map_append]; rfl
   rw [e3, show textsB (R.take k ++ (r.data.toList, t.data.toList) :: R.drop (k + 1)) = textsB (R.take k) ++ bs t.data.toList :: textsB (R.drop (k + 1)) by rw [textsB, List.map_append]; rfl, bs_of]
   have hl2 : (textsB (R.take k)).length = k := by rw [textsB_len, hl]
   rw [List.set_append_right _ _ (by omega), hl2, Nat.sub_self, List.set_cons_zero]
  ·rfl
def putPost (w0 : World) (rb : Nat) (R : List Amb) (more : Bool) (e : Ending) (w' : World) : Prop := ∃ A c E d, e = .returned (.tuple #[]) ∧ QK w0 w' rb (keysB R) (textsB R) more A c E d
theorem l17Put_any (w0 : World) (rb : Nat) (R : List Amb) (more : Bool) (A : Option Addr) (c : Nat) (E : Option Addr) (d : Nat) (r t : ByteArray) (w : World) (h : QK w0 w rb (keysB R) (textsB R) more A c E d) (hn : R.length ≤ 1000000) :
 Calls Tryz.prog 217 #[.pointer (some ⟨rb, 0, none⟩), .string r, .string t] w fun e w' => putPost w0 rb (putR R r.data.toList t.data.toList) (more || putB R r.data.toList t.data.toList) e w' := by
 have HN := hd_ hn
 have HQ := hd_ h
 have hrb := h.bk.lt
 have k0 : w.cell? ⟨rb, 0, none⟩ = some (.slice A (keysB R).length c) := by rw [h.bk.cell]; rfl
 have k1 : w.cell? ⟨rb, 1, none⟩ = some (.slice E (textsB R).length d) := by rw [h.bk.cell]; rfl
 clear h hn
 go_enter Tryz.func217, Tryz.ntmps217
 go_wp2_with fail
 refine (l17Index_any A c (keysB R) r _ (Rds.of_own HQ.out.ka) (by rw [keysB_len]; have := HN.out; omega)).mono ?_
 rintro e w' ⟨i, rfl, hi, rfl⟩
 rcases hi with ⟨rfl, hno⟩ | ⟨k, rfl, hk, he, hno⟩
 ·obtain ⟨e1, e2, e3⟩ := putNew t hno
  have HE := hd_ (show ∀ e w', putPost w0 rb (putR R r.data.toList t.data.toList) (more || putB R r.data.toList t.data.toList) e w' = ∃ A c E d, e = .returned (.tuple #[]) ∧ QK w0 w' rb (keysB R ++ [r]) (textsB R ++ [t]) true A c E d by
   intro e w'; unfold putPost; rw [e1, e2, e3, Bool.or_true])
  clear hno e1 e2 e3
  have hKl := keysB_len R
  have hTl := textsB_len R
  generalize keysB R = K at *
  generalize textsB R = T at *
  have HKl := hd_ hKl
  have HTl := hd_ hTl
  clear hKl hTl
  have HB := hd_ (HQ.out.below (bl_alloc (Below.refl _ _) (.cells #[.string r] 9)))
  go_upto_region 3 with (at_builtin; go_must (refine wpl_appW rfl _ _ rfl w0.heap.size A c K rfl HB.out.ka r w.heap.size rfl (by simp) (by have := HKl.out; have := HN.out; omega) HB.out.up.below.size _ rfl ?_); intro g c2 K2 W2 hK2 o2 g2 l2 hg2; have hrb2 : rb < W2.heap.size := Nat.lt_of_lt_of_le HB.out.bk.lt g2.size; have hf0 : W2.frozen? ⟨rb, 0, none⟩ = false := (HB.out.bk.grown g2 (blk_tne HB.out.bk HB.out.ka (by decide))).free 0; have hc0 : W2.cell? ⟨rb, 0, none⟩ = some (.slice A K.length c) := (HB.out.bk.grown g2 (blk_tne HB.out.bk HB.out.ka (by decide))).cell 0)
  refine wpg (R := fun V => Hid (QK w0 V rb K2 T more (some ⟨g, 0, none⟩) c2 E d)) (hd_ (HB.out.key g2 o2 l2 rfl)) (fun V HQ3 => ?_)
  clear o2 g2 l2 hg2 hrb2 hf0 hc0 HB HQ hrb k0 k1
  have hrb := HQ3.out.bk.lt
  have k1 : V.cell? ⟨rb, 1, none⟩ = some (.slice E T.length d) := HQ3.out.bk.cell 1
  have HB := hd_ (HQ3.out.below (bl_alloc (Below.refl _ _) (.cells #[.string t] 9)))
  go_upto_region 4 with (at_builtin; go_must (refine wpl_appW rfl _ _ rfl w0.heap.size E d T rfl HB.out.te t V.heap.size rfl (by simp) (by have := HTl.out; have := HN.out; omega) HB.out.up.below.size _ rfl ?_); intro g9 d2 T2 W2 hT2 o2 g2 l2 hg2; have hrb2 : rb < W2.heap.size := Nat.lt_of_lt_of_le HB.out.bk.lt g2.size; have hf0 : W2.frozen? ⟨rb, 1, none⟩ = false := (HB.out.bk.grown g2 (blk_tne HB.out.bk HB.out.te (by decide))).free 1; have hc0 : W2.cell? ⟨rb, 1, none⟩ = some (.slice E T.length d) := (HB.out.bk.grown g2 (blk_tne HB.out.bk HB.out.te (by decide))).cell 1)
  refine wpg (R := fun V => Hid (QK w0 V rb K2 T2 more (some ⟨g, 0, none⟩) c2 (some ⟨g9, 0, none⟩) d2)) (hd_ (HB.out.txt g2 o2 l2 rfl)) (fun U HQ4 => ?_)
  clear o2 g2 l2 hg2 hrb2 hf0 hc0 HB HQ3 hrb k1
  have hrb := HQ4.out.bk.lt
  have k2 : U.cell? ⟨rb, 2, none⟩ = some (.bool more) := HQ4.out.bk.cell 2
  have f2 := HQ4.out.bk.free 2
  go_wp2_with fail
  refine bodyPost_ret (results_none rfl _ _ _) rfl ?_
  rw [HE.out, ← hK2.out, ← hT2.out]
  exact ⟨_, _, _, _, rfl, HQ4.out.flag true⟩
 ·obtain ⟨e1, e2, e3⟩ := putOld t hk he hno
  have hkR : k < R.length := by rw [keysB_len] at hk; exact hk
  have hkT : k < (textsB R).length := by rw [textsB_len]; exact hkR
  obtain ⟨o, ho⟩ := nm_ (wd (textsB R) k)
  rw [ho] at e1 e3
  obtain ⟨gE, rfl⟩ := own_someT HQ.out.te (by omega)
  have hcE : w.cell? ⟨gE, k, none⟩ = some (.string o) := by
   obtain ⟨b9, o9, e9, _, hc9⟩ := wd_at (Rds.of_own HQ.out.te) hkT
   injection e9 with e9
   injection e9 with e91 e92
   subst e91 e92
   have := hc9 k hkT
   rwa [Nat.zero_add, ho] at this
  have hgE : gE < w.heap.size := (HQ.out.te.lt gE rfl).2
  have hfE : w.frozen? ⟨gE, k, none⟩ = false := HQ.out.te.frozenAt k
  have f2 := HQ.out.bk.free 2
  have k2 : w.cell? ⟨rb, 2, none⟩ = some (.bool more) := HQ.out.bk.cell 2
  have hkT' : (k : Int) < ((textsB R).length : Int) := by omega
  have hneE : rb ≠ gE := fun e => by
   have := blk_tne HQ.out.bk HQ.out.te (by decide)
   exact this (by rw [e]; rfl)
  obtain ⟨less, hless⟩ := nm_ (lessT t.data.toList o.data.toList)
  rw [hless] at e1 e3
  have HE := hd_ (show ∀ e w', putPost w0 rb (putR R r.data.toList t.data.toList) (more || putB R r.data.toList t.data.toList) e w' = ∃ A c E d, e = .returned (.tuple #[]) ∧ QK w0 w' rb (keysB R) (if less = true then (textsB R).set k t else textsB R) (more || less) A c E d by
   intro e w'; unfold putPost; rw [e1, e2, e3])
  have HKT := hd_ hkT
  clear e1 e2 e3 hno he hk hkR hkT ho k0
  generalize keysB R = K at *
  generalize textsB R = T at *
  have hls := lessT_iff (a := t.data.toList) (b := o.data.toList)
  rw [bsz, bsz, hless] at hls
  by_cases q1 : t.size < o.size
  ·have q1' : (t.size : Int) < (o.size : Int) := by omega
   obtain rfl : less = true := hls.2 (.inl q1)
   clear hls hless
   go_upto_region 8 with (fail)
   refine wpg (R := fun V => Hid (QK w0 V rb K (T.set k t) more A c (some ⟨gE, 0, none⟩) d)) (hd_ (HQ.out.store HKT.out)) (fun V HQ3 => ?_)
   clear hcE hgE hfE hrb k1 k2 f2 HQ
   have hrb := HQ3.out.bk.lt
   have f2 := HQ3.out.bk.free 2
   have k2 : V.cell? ⟨rb, 2, none⟩ = some (.bool more) := HQ3.out.bk.cell 2
   go_wp2_with fail
   go_end0
   rw [HE.out]
   exact ⟨_, _, _, _, rfl, by rw [if_pos (by simp), Bool.or_true]; exact HQ3.out.flag true⟩
  ·have q1' : ¬ (t.size : Int) < (o.size : Int) := by omega
   by_cases q2 : t.size = o.size
   ·have q2' : ((t.size : Int) == (o.size : Int)) = true := by rw [beq_iff_eq]; omega
    cases less with
    | true =>
      have q3 : Op.bytesLess t.toList o.toList = true := by
       rw [ByteArray.toList_eq, ByteArray.toList_eq]
       rcases hls.1 rfl with h | h
       ·exact absurd h q1
       ·exact h.2
      clear hls hless q2
      go_upto_region 8 with (fail)
      refine wpg (R := fun V => Hid (QK w0 V rb K (T.set k t) more A c (some ⟨gE, 0, none⟩) d)) (hd_ (HQ.out.store HKT.out)) (fun V HQ3 => ?_)
      clear hcE hgE hfE hrb k1 k2 f2 HQ
      have hrb := HQ3.out.bk.lt
      have f2 := HQ3.out.bk.free 2
      have k2 : V.cell? ⟨rb, 2, none⟩ = some (.bool more) := HQ3.out.bk.cell 2
      go_wp2_with fail
      go_end0
      rw [HE.out]
      exact ⟨_, _, _, _, rfl, by rw [if_pos (by simp), Bool.or_true]; exact HQ3.out.flag true⟩
    | false =>
      have q3 : Op.bytesLess t.toList o.toList = false := by
       rw [ByteArray.toList_eq, ByteArray.toList_eq, ← Bool.not_eq_true]
       exact fun h => absurd (hls.2 (.inr ⟨q2, h⟩)) (by simp)
      clear hls hless q2
      go_wp2_with fail
      go_end0
      rw [HE.out]
      exact ⟨_, _, _, _, rfl, by rw [if_neg (by simp), Bool.or_false]; exact HQ.out⟩
   ·have q2' : ((t.size : Int) == (o.size : Int)) = false := by rw [beq_eq_false_iff_ne]; omega
    cases less with
    | true =>
      exfalso
      rcases hls.1 rfl with h | h
      ·exact q1 h
      ·exact q2 h.1
    | false =>
      clear hls hless q2
      go_wp2_with fail
      go_end0
      rw [HE.out]
      exact ⟨_, _, _, _, rfl, by rw [if_neg (by simp), Bool.or_false]; exact HQ.out⟩
end Go.Proofs.YtbianlkenallaaaGreatDoor
namespace Go.Proofs.YtbianlkenallaaaGreatDoor
open Go.RowKit Go.Maps
def TxtAt (w : World) (P : Program) (k e : TypeId) (b n : Nat) (R : List (List UInt8 × List UInt8)) : Prop :=
 ∃ D : DataW Unit, w.ownsMap P k (plainElem P e) b n D ∧ IsMap D ∧ (∀ s, Maps.has D (.string s) = true ↔ ∃ t, (s, t) ∈ R) ∧ ∀ s t z, (s, t) ∈ R → D.atKey (.string s) z = .lit (.string t)
section
variable {w w' : World} {P : Program} {k e t : TypeId} {b n : Nat} {R : List (List UInt8 × List UInt8)}
theorem TxtAt.made (w : World) (P : Program) (k e : TypeId) : TxtAt (w.alloc (.map #[] 0)) P k e w.heap.size 0 [] :=
 ⟨.map [], World.ownsMap_made _ _ _ _, isMap_empty, fun s => ⟨fun h => (by cases h), fun ⟨_, h⟩ => (by cases h)⟩, fun s t z h => (by cases h)⟩
theorem TxtAt.lt (h : TxtAt w P k e b n R) : b < w.heap.size := by obtain ⟨D, h, _⟩ := h; exact h.lt
theorem TxtAt.kept {row : Option Nat} (h : TxtAt w P k e b n R) (hg : w.grownBy w' row) (hne : some b ≠ row) : TxtAt w' P k e b n R := by
 obtain ⟨D, h1, h2, h3⟩ := h
 exact ⟨D, h1.kept hg hne, h2, h3⟩
theorem TxtAt.below (h : TxtAt w P k e b n R) (hb : Below w.heap.size w w') : TxtAt w' P k e b n R :=
 h.kept (row := none) (grown_up ⟨w', hb⟩ none) (by simp)
theorem str_keyOf {P : Program} {k : TypeId} (hk : P.underlying k = some .string) {s : ByteArray} (hs : s.size ≤ maxLen) : keyOf P k (.string s) = some (.string s.data.toList) := WideMaps.keyOf_string_mk hk hs
theorem TxtAt.look (h : TxtAt w P k e b n R) (ht : P.underlying t = some (.map k e)) (hk : P.underlying k = some .string) (he : P.underlying e = some .string) (hz : ∀ w, (zeroValue e).run P w = .ok (.string ⟨#[]⟩) w)
 (s : ByteArray) (hs : s.size ≤ maxLen) {x : List UInt8} (hx : (s.data.toList, x) ∈ R) : ∀ g : Up w, (Instr.lookup t (.map (some b)) (.string s) true).run P (up w g) = .ok (.tuple #[.string ⟨x.toArray⟩, .bool true]) (up w g) := fun g => by
 obtain ⟨D, h1, h2, h3, h4⟩ := h
 obtain ⟨v, ps, hrun, hv⟩ := (h1.kept (grown_up g none) (by simp)).look_ok (string_keyed hk) ht (hz _) (plainElem_string (s := ⟨#[]⟩) he (by decide)) (str_keyOf hk hs)
 obtain ⟨c, rfl, hc, _⟩ := plainElem_string_inv he hv
 rw [(h3 _).2 ⟨x, hx⟩] at hrun
 have := congrArg Prod.fst hc
 dsimp only at this
 rw [h4 _ _ _ hx] at this
 injection this with this
 injection this with this
 rw [hrun, this]
theorem TxtAt.look_no (h : TxtAt w P k e b n R) (ht : P.underlying t = some (.map k e)) (hk : P.underlying k = some .string) (he : P.underlying e = some .string) (hz : ∀ w, (zeroValue e).run P w = .ok (.string ⟨#[]⟩) w)
 (s : ByteArray) (hs : s.size ≤ maxLen) (hx : ∀ x, (s.data.toList, x) ∉ R) : ∃ y, ∀ g : Up w, (Instr.lookup t (.map (some b)) (.string s) true).run P (up w g) = .ok (.tuple #[.string y, .bool false]) (up w g) := by
 obtain ⟨D, h1, h2, h3, h4⟩ := h
 have hf : Maps.has D (.string s.data.toList) = false := by
  cases hh : Maps.has D (.string s.data.toList)
  ·rfl
  ·obtain ⟨x, hx'⟩ := (h3 _).1 hh
   exact absurd hx' (hx x)
 have key : ∀ g : Up w, ∃ c : ByteArray, (Instr.lookup t (.map (some b)) (.string s) true).run P (up w g) = .ok (.tuple #[.string c, .bool false]) (up w g) ∧ D.atKey (.string s.data.toList) (.lit (.string [])) = .lit (.string c.data.toList) := fun g => by
  obtain ⟨v, ps, hrun, hv⟩ := (h1.kept (grown_up g none) (by simp)).look_ok (string_keyed hk) ht (hz _) (plainElem_string (s := ⟨#[]⟩) he (by decide)) (str_keyOf hk hs)
  obtain ⟨c, rfl, hc, _⟩ := plainElem_string_inv he hv
  rw [hf] at hrun
  exact ⟨c, hrun, congrArg Prod.fst hc⟩
 obtain ⟨c, _, hc⟩ := key ⟨w, Below.refl _ _⟩
 refine ⟨c, fun g => ?_⟩
 obtain ⟨c', hrun, hc'⟩ := key g
 rw [hc] at hc'
 injection hc' with hc'
 injection hc' with hc'
 rw [hrun, ba_ext hc']
theorem TxtAt.put (h : TxtAt w P k e b n R) (ht : P.underlying t = some (.map k e)) (hk : P.underlying k = some .string) (he : P.underlying e = some .string) (hn : n < maxLen) (s x : ByteArray) (hs : s.size ≤ maxLen) (hx : x.size ≤ maxLen)
 (hnew : ∀ y, (s.data.toList, y) ∉ R) :
 ∃ w', (Instr.mapUpdate t (.map (some b)) (.string s) (.string x)).run P w = .ok () w' ∧ TxtAt w' P k e b (n + 1) ((s.data.toList, x.data.toList) :: R) ∧ w.grownBy w' (some b) := by
 obtain ⟨D, h1, h2, h3, h4⟩ := h
 obtain ⟨w', hrun, r1, r2⟩ := h1.update (string_keyed hk) ht hn (str_keyOf hk hs) (plainElem_string he hx)
 refine ⟨w', hrun, ⟨_, r1, h2.put _ _, fun s' => ?_, fun s' t' z hm => ?_⟩, r2⟩
 ·by_cases hh : s' = s.data.toList
  ·subst hh
   rw [has_put_same h2 (by simp [WideAt.IsKeyLit])]
   exact ⟨fun _ => ⟨_, List.mem_cons_self ..⟩, fun _ => rfl⟩
  ·rw [has_put_other (fun h => hh (by injection h with h)), h3 s']
   constructor
   ·rintro ⟨y, hy⟩; exact ⟨y, List.mem_cons_of_mem _ hy⟩
   ·rintro ⟨y, hy⟩
    rcases List.mem_cons.1 hy with he | hy
    ·injection he with he _; exact absurd he hh
    ·exact ⟨y, hy⟩
 ·rcases List.mem_cons.1 hm with he | hm
  ·injection he with e1 e2
   subst e1; subst e2
   have hk0 : WideAt.IsKeyLit (Lit.string s.data.toList) := by simp [WideAt.IsKeyLit]
   rw [atKey_put_same h2 hk0]
  ·have hh : s' ≠ s.data.toList := fun e1 => hnew t' (e1 ▸ hm)
   rw [atKey_put_other (fun h => hh (by injection h with h))]
   exact h4 _ _ _ hm
end
theorem wpl_txtPut {P : Program} (w : World) {ops : Array Oper} {rest : List Oper} {o : Oper} {a : Act} {Q : Exit → Act → World → Prop}
 (hg : o.guard = none) (m x v : Operand) (t : TypeId) (hop : o.op = Op.mapUpdate t m x v)
 (k e : TypeId) (ht : P.underlying t = some (.map k e)) (hk : P.underlying k = some .string) (he : P.underlying e = some .string) (b n : Nat) (R : List (List UInt8 × List UInt8))
 (hm : a.eval m = .map (some b)) (hown : TxtAt w P k e b n R) (hn : n < maxLen) (s y : ByteArray) (hs : s.size ≤ maxLen) (hy : y.size ≤ maxLen) (hnew : ∀ z, (s.data.toList, z) ∉ R) (hx : a.eval x = .string s) (hv : a.eval v = .string y)
 (hK : ∀ w', TxtAt w' P k e b (n + 1) ((s.data.toList, y.data.toList) :: R) → w.grownBy w' (some b) → wpList P ops Q rest (a.put o.dst undef) w') :
 wpList P ops Q (o :: rest) a w := by
 refine wpList_plain hg fun K' hK' => ?_
 obtain ⟨w', hrun, r1, r2⟩ := hown.put ht hk he hn s y hs hy hnew
 unfold Oper.wp
 simp [execOp, hop, hm, hx, hv, hrun, Result.andThen]
 exact hK' _ _ (hK w' r1 r2)
end Go.Proofs.YtbianlkenallaaaGreatDoor
namespace Go.Proofs.YtbianlkenallaaaGreatDoor
open Go.RowKit
def rst (a : ByteArray) (i : Nat) : ByteArray := a.extract i a.size
theorem rst_size (a : ByteArray) (i : Nat) : (rst a i).size = a.size - i := by simp [rst]
theorem rst_at (a : ByteArray) (i x : Nat) : byteAt (rst a i) x = byteAt a (i + x) := by
 unfold byteAt rst
 rw [List.getD_eq_getElem?_getD, List.getD_eq_getElem?_getD]
 congr 1
 simp only [ByteArray.data_extract, Array.toList_extract, List.extract_eq_drop_take, List.getElem?_take, List.getElem?_drop]
 split
 ·rfl
 ·rw [List.getElem?_eq_none]
  show a.size ≤ _
  omega
theorem okAl_rst {a b : ByteArray} {i k : Nat} (j : Nat) : okAl (rst a i) (rst b k) 0 0 j = okAl a b i k j := by
 unfold okAl
 simp only [rst_size, rst_at, Nat.add_zero, Nat.zero_add]
 congr 1
 ·rw [decide_eq_decide]; omega
 congr 1
 ·rw [decide_eq_decide]; omega
 congr 1
 ·rw [decide_eq_decide]; constructor <;> (rintro ⟨h1, h2, h3⟩; exact ⟨by omega, by omega, h3⟩)
 congr 1
 ·rw [decide_eq_decide]; constructor <;> (rintro ⟨h1, h2, h3⟩; exact ⟨by omega, by omega, h3⟩)
 ·rw [decide_eq_decide]; constructor <;> (rintro ⟨h1, h2, h3⟩; exact ⟨by omega, by omega, h3⟩)
theorem szInt64S_any (A : Option Addr) (c : Nat) (l : List Int) (k : Int) (w : World) (hk : 0 ≤ k) (hk1 : k ≤ 1048576) (hn : l.length ≤ 9223372036854775807) :
 Calls Tryz.prog 49 #[.slice A l.length c, i64 k] w fun e w' => e = .returned (i64 (szR k l.length)) ∧ UpOf w w' := by
 by_cases h : k < l.length
 ·go_enter Tryz.func49, Tryz.ntmps49
  go_wp2_with fail
  go_ret
  exact ⟨ret_int (szR_no (by omega)).symm, uw_⟩
 ·go_enter Tryz.func49, Tryz.ntmps49
  go_wp2_with fail
  go_ret
  exact ⟨ret_int (szR_ok (by omega)).symm, uw_⟩
structure Only (lo hi : Nat) (w w' : World) : Prop where
 os : w'.os = w.os
 tape : w'.tape = w.tape
 output : w'.output = w.output
 size : w.heap.size ≤ w'.heap.size
 block : ∀ k, k < w.heap.size → (k < lo ∨ hi ≤ k) → w'.heap[k]? = w.heap[k]?
section
variable {lo hi : Nat} {w w' w'' : World}
theorem Only.refl (lo hi : Nat) (w : World) : Only lo hi w w := ⟨rfl, rfl, rfl, Nat.le_refl _, fun _ _ _ => rfl⟩
theorem Only.up (h : Only lo hi w w') (g : Up w') : Only lo hi w (up w' g) :=
 ⟨g.below.os.trans h.os, g.below.tape.trans h.tape, g.below.output.trans h.output, Nat.le_trans h.size g.below.size, fun i hi' hne => (g.below.block i (Nat.lt_of_lt_of_le hi' h.size)).trans (h.block i hi' hne)⟩
theorem Only.grown {row : Option Nat} (h : Only lo hi w w') (hg : w'.grownBy w'' row) (hr : ∀ k, row = some k → lo ≤ k ∧ k < hi) : Only lo hi w w'' :=
 ⟨hg.os.trans h.os, hg.tape.trans h.tape, hg.output.trans h.output, Nat.le_trans h.size hg.size, fun i hi' hne => (hg.block i (Nat.lt_of_lt_of_le hi' h.size) (fun e => by have := hr i e.symm; omega)).trans (h.block i hi' hne)⟩
theorem Only.own {base size n : Nat} {e : TypeId} {v : Value} {xs : List Value} (ho : Only lo hi w w') (h : w.ownsRow base e size v n xs) (hb : hi ≤ base ∨ ∀ k, v.ownBlock = some k → k < lo) : w'.ownsRow base e size v n xs := by
 refine ⟨h.1, ?_⟩
 rcases h.2 with h2 | ⟨g, cap, cur, hv, hg, hh, r⟩
 ·exact .inl h2
 ·refine .inr ⟨g, cap, cur, hv, hg, (ho.block g (Array.getElem?_eq_some_iff.1 hh).1 ?_).trans hh, r⟩
  rcases hb with hb | hb
  ·exact .inr (by omega)
  ·exact .inl (hb g (by rw [hv]; rfl))
theorem Only.upOf {W : World} (ho : Only lo hi w w') (hW : Below W.heap.size W w) (hlo : W.heap.size ≤ lo) : UpOf W w' :=
 .of ⟨ho.os.trans hW.os, ho.tape.trans hW.tape, ho.output.trans hW.output, Nat.le_trans hW.size ho.size, fun k hk => (ho.block k (Nat.lt_of_lt_of_le hk hW.size) (.inl (by omega))).trans (hW.block k hk)⟩
theorem Only.of_grown {row : Option Nat} (hg : w.grownBy w' row) (hr : ∀ k, row = some k → lo ≤ k ∧ k < hi) : Only lo hi w w' := (Only.refl lo hi w).grown hg hr
end
theorem ret_i {k : IntKind} {a b : Int} (h : a = b) : Ending.returned (.int k a) = .returned (.int k b) := by rw [h]
theorem eqStringS_any (A A' : Option Addr) (n c c' : Nat) (ss : List ByteArray) (w : World) (h : Rds w 1 A n (strs ss)) (h' : Rds w 1 A' n (strs ss)) (hn : n ≤ 100000000) :
 Calls Tryz.prog 18 #[.slice A n c, .slice A' n c'] w fun e w' => e = .returned (.bool true) ∧ UpOf w w' := by
 go_enter Tryz.func18, Tryz.ntmps18
 go_wp2_with ((with_reducible refine wru ?_); refine wrz fun _ => ?_)
 go_loopw [5] (fun i wr => ∃ k : Nat, k ≤ n ∧ i = .int .i64 k ∧ ∃ g : Up w, wr = up w g) (fun i _ => n - (intOf i).toNat)
 case atStart => exact ⟨0, by omega, rfl, ⟨w, Below.refl _ _⟩, rfl⟩
 case round =>
  obtain ⟨k, hk, rfl, g, rfl⟩ := hrel
  by_cases hlt : k < n
  ·obtain ⟨b, off, rfl, hb, hc⟩ := h.at (by omega)
   obtain ⟨b', off', rfl, hb', hc'⟩ := h'.at (by omega)
   have hl := h.1
   simp only [strs, List.length_map, Nat.mul_one] at hl
   have c0 : w.cell? ⟨b, off + k, none⟩ = some (.string ss[k]) := hc k _ (by simp [strs])
   have c1 : w.cell? ⟨b', off' + k, none⟩ = some (.string ss[k]) := hc' k _ (by simp [strs])
   clear hc hc' h h'
   go_wp2_with ((with_reducible refine wru ?_); refine wrz fun _ => ?_)
   go_roundw
   case rel => exact ⟨k + 1, by omega, by go_num, _, rfl⟩
   case measure => simp [intOf]; omega
  ·go_wp2_with ((with_reducible refine wru ?_); refine wrz fun _ => ?_)
   go_ret
   exact ⟨rfl, uw_⟩
def marks (k n : Nat) : List ByteArray := (List.range n).map fun i => mt ((k + i : Nat) : Int)
theorem marks_get {k n i : Nat} (h : i < n) : (strs (marks k n))[i]? = some (.string (mt ((k : Int) + i))) := by
 simp [strs, marks, h]
theorem marks_len (k n : Nat) : (strs (marks k n)).length = n := by simp [strs, marks]
theorem marks_eq {k n : Nat} {ys : List Value} (hl : ys.length = n) (h : ∀ i, i < n → ys[i]? = some (.string (mt ((k : Int) + i)))) : ys = strs (marks k n) := by
 apply List.ext_getElem?
 intro i
 by_cases hi : i < n
 ·rw [h i hi, marks_get hi]
 ·rw [List.getElem?_eq_none (by omega), List.getElem?_eq_none (by rw [marks_len]; omega)]
theorem heldStringS_any (A : Option Addr) (n c k0 : Nat) (w : World) (h : Rds w 1 A n (strs (marks k0 n))) (hk0 : 1 ≤ k0) (hn : k0 + n < 1000000000) :
 Calls Tryz.prog 22 #[.slice A n c, .int .i64 k0] w fun e w' => e = .returned (.int .i64 ((k0 + n : Nat) : Int)) ∧ UpOf w w' := by
 go_enter Tryz.func22, Tryz.ntmps22
 go_wp2_with ((with_reducible refine wru ?_); refine wrz fun _ => ?_)
 go_loopw [1, 5] (fun kk i wr => ∃ k : Nat, k ≤ n ∧ i = .int .i64 k ∧ kk = .int .i64 ((k0 : Int) + k) ∧ ∃ g : Up w, wr = up w g) (fun _ i _ => n - (intOf i).toNat)
 case atStart => exact ⟨0, by omega, rfl, by go_num, ⟨w, Below.refl _ _⟩, rfl⟩
 case round =>
  obtain ⟨k, hk, rfl, rfl, g, rfl⟩ := hrel
  by_cases hlt : k < n
  ·obtain ⟨b, off, rfl, hb, hc⟩ := h.at (by omega)
   have c0 : w.cell? ⟨b, off + k, none⟩ = some (.string (mt ((k0 : Int) + k))) := hc k _ (marks_get hlt)
   clear hc h
   go_wp2_with (first | ((with_reducible refine wru ?_); (repeat (go_big_quiet_step (first | (go_at_call 60; exact uq_ (markText_any _ _ (by omega) (by omega)))))); refine wqn fun nq => ?_))
   go_roundw
   case rel => exact ⟨k + 1, by omega, by go_num, by go_num, _, rfl⟩
   case measure => simp [intOf]; omega
  ·go_wp2_with ((with_reducible refine wru ?_); refine wrz fun _ => ?_)
   go_ret
   obtain rfl : k = n := by omega
   exact ⟨ret_i (by omega), uw_⟩
theorem markStringS_any (base : Nat) (A : Option Addr) (n c k0 : Nat) (xs : List Value) (w : World) (h : w.ownsRow base 9 1 (.slice A n c) n xs) (hk0 : 1 ≤ k0) (hn : k0 + n < 1000000000) :
 Calls Tryz.prog 20 #[.slice A n c, .int .i64 k0] w fun e w' => e = .returned (.int .i64 ((k0 + n : Nat) : Int)) ∧ w'.ownsRow base 9 1 (.slice A n c) n (strs (marks k0 n)) ∧ w.grownBy w' (Value.slice A n c).ownBlock := by
 go_enter Tryz.func20, Tryz.ntmps20
 go_wp2_with fail
 go_loopw [1, 5] (fun kk i wr => ∃ k : Nat, k ≤ n ∧ i = .int .i64 k ∧ kk = .int .i64 ((k0 : Int) + k) ∧ ∃ ys, wr.ownsRow base 9 1 (.slice A n c) n ys ∧ (∀ i, i < k → ys[i]? = some (.string (mt ((k0 : Int) + i)))) ∧ w.grownBy wr (Value.slice A n c).ownBlock) (fun _ i _ => n - (intOf i).toNat)
 case atStart => exact ⟨0, by omega, rfl, by go_num, xs, h, fun i hi => by omega, grown_refl _ _⟩
 case round =>
  obtain ⟨k, hk, rfl, rfl, ys, hown, hys, hgr⟩ := hrel
  by_cases hlt : k < n
  ·obtain ⟨b, off, rfl, hb, hc⟩ := (Rds.of_own hown).at (by omega)
   obtain ⟨hb0, hb1, rfl⟩ := own_block hown rfl
   have c0 := hown.cellAt k (by omega)
   have f0 := hown.frozenAt k
   obtain ⟨u, hu⟩ : ∃ u, ys[k]? = some u := ⟨_, List.getElem?_eq_getElem (by have := hown.1; omega)⟩
   rw [hu] at c0
   have HY := hd_ hys
   clear hc h hys
   go_wp2_with (first | (go_at_call 60; refine cu_ (markText_any _ _ (by omega) (by omega)) fun g => ?_))
   go_roundw
   case rel =>
    go_light
    have hst := (own_up hown g).stored k (.string (mt ((k0 : Int) + k)))
    refine ⟨k + 1, by omega, by go_num, by go_num, _, hst.1, fun i hi => ?_, grown_trans hgr (grown_trans (grown_up g _) hst.2)⟩
    rw [List.getElem?_set]
    by_cases he : k = i
    ·subst he
     rw [if_pos rfl, if_pos (by have := hown.1; omega)]
    ·rw [if_neg he]
     exact HY.out i (by omega)
   case measure => simp [intOf]; omega
  ·go_wp2_with fail
   go_ret
   obtain rfl : k = n := by omega
   have hy : ys = strs (marks k0 k) := marks_eq (by have := hown.1; omega) hys
   rw [hy] at hown
   exact ⟨ret_i (by omega), hown, hgr⟩
end Go.Proofs.YtbianlkenallaaaGreatDoor
namespace Go.Proofs.YtbianlkenallaaaGreatDoor
open Go.ChangeShapes Go.WideShapes Go.ChangeAt Go.RowKit Go.Joins Go.Deep
set_option linter.unusedVariables false
set_option maxRecDepth 10000
theorem dr_addlit (b off j : Nat) : (⟨b, off, none⟩ : Addr).add j = ⟨b, off + j, none⟩ := by unfold Addr.add; split <;> simp_all
def dr_num : Option Value → Int
 | some (.int _ q) => q
 | _ => 0
def dr_str : Option Value → ByteArray
 | some (.string q) => q
 | _ => ByteArray.empty
theorem open_dr {W : World} {sp : Nat → Bool} {held : Bool} {H : Type} {enc : TypeId × Value → H} {fuel : Nat} {cs0 : List Value} {d : DataW H × List MemPlace}
 (hf : DataW.trod enc Tryz.prog W 0 sp held fuel 41 cs0 = some d) :
 ∃ (A : Option Addr) (c : Nat) (l : List Drill), cs0 = [.slice A l.length c] ∧ Rds W 3 A l.length (drcs l) ∧ l.length ≤ 9223372036854775807 ∧ l.length ≤ c ∧ (∀ h ∈ l, h.name.size ≤ 9223372036854775807 ∧ h.letters.size ≤ 9223372036854775807) := by
 rcases open_slice Tryz.underlying41 hf with ⟨rfl, _⟩ | ⟨x, n, c, m, k, D, Pl, rfl, _, hl, hm, hmm, _, hi⟩
 ·exact ⟨none, 0, [], rfl, Rds.empty _ _ _, by simp, by simp, by simp⟩
 ·unfold maxLen at hm
  obtain ⟨b, off, spot⟩ := x
  have hC : Tryz.prog.cellsOf 141 = 3 := by kernel_rfl
  have hs : ∀ i, i < n → ∃ (a0 : ByteArray) (a1 : ByteArray) (a2 : Int), W.cell? ((⟨b, off, spot⟩ : Addr).add (i * 3)) = some (.string a0) ∧ W.cell? (((⟨b, off, spot⟩ : Addr).add (i * 3)).add 1) = some (.string a1) ∧ W.cell? (((⟨b, off, spot⟩ : Addr).add (i * 3)).add 2) = some (i64 a2) ∧ a0.size ≤ 9223372036854775807 ∧ a1.size ≤ 9223372036854775807 := by
   intro i hin
   obtain ⟨cs', hcs, ht⟩ := hi i (by rw [hmm]; split <;> omega)
   rw [hC] at hcs
   obtain ⟨_, hcl, hat⟩ := World.cells?_some hcs
   have h0 := hat 0 (by omega)
   have h1 := hat 1 (by omega)
   have h2 := hat 2 (by omega)
   match cs', hcl with
   | [v0, v1, v2], _ =>
     obtain ⟨y0, y1, y2, k', _, _, t0, t1, t2⟩ := trod_struct3 Tryz.underlying141 ht
     have hc1 : Tryz.prog.cellsOf 2 = 1 := by kernel_rfl
     have hc2 : Tryz.prog.cellsOf 9 = 1 := by kernel_rfl
     simp only [hc1, hc2, List.drop_zero, List.drop_succ_cons, List.take_succ_cons, List.take_zero] at t0 t1 t2
     obtain ⟨a0, e0, _, z0⟩ := DataW.trod_string Tryz.underlying9 t0
     unfold maxLen at z0
     obtain ⟨a1, e1, _, z1⟩ := DataW.trod_string Tryz.underlying9 t1
     unfold maxLen at z1
     obtain ⟨a2, e2, _, _⟩ := DataW.trod_int Tryz.underlying2 t2
     simp only [List.cons.injEq, and_true] at e0 e1 e2
     subst e0 e1 e2
     refine ⟨a0, a1, a2, ?_, h1, h2, z0, z1⟩
     have hz : (((⟨b, off, spot⟩ : Addr).add (i * 3)).add 0) = ((⟨b, off, spot⟩ : Addr).add (i * 3)) := by simp [Addr.add]
     rw [hz] at h0
     exact h0
  by_cases hn0 : n = 0
  ·subst hn0
   exact ⟨_, c, [], rfl, Rds.empty _ _ _, by simp, by simp, by simp⟩
  ·obtain ⟨q0, q1, q2, hq, _⟩ := hs 0 (by omega)
   have hspot : spot = none := by simpa [Addr.add] using World.cell?_spot hq
   subst hspot
   simp only [dr_addlit] at hs hq
   obtain ⟨l, rfl, hl'⟩ : ∃ l : List Drill, l.length = n ∧ ∀ i (hi : i < l.length), W.cell? ⟨b, off + i * 3, none⟩ = some (.string l[i].name) ∧ W.cell? ⟨b, off + i * 3 + 1, none⟩ = some (.string l[i].letters) ∧ W.cell? ⟨b, off + i * 3 + 2, none⟩ = some (i64 l[i].minutes) ∧ l[i].name.size ≤ 9223372036854775807 ∧ l[i].letters.size ≤ 9223372036854775807 := by
    refine ⟨(List.range n).map (fun i => ⟨dr_str (W.cell? ⟨b, off + i * 3, none⟩), dr_str (W.cell? ⟨b, off + i * 3 + 1, none⟩), dr_num (W.cell? ⟨b, off + i * 3 + 2, none⟩)⟩), by simp, fun i hi => ?_⟩
    obtain ⟨a0, a1, a2, e0, e1, e2, z0, z1⟩ := hs i (by simpa using hi)
    simp [e0, e1, e2, dr_num, dr_str]
    exact ⟨z0, z1⟩
   refine ⟨_, c, l, rfl, rds_of_elems dr_clen (World.block_lt_of_cell? W _ hq) fun k hk j u hu => ?_, by omega, hl, fun h hh => ?_⟩
   ·obtain ⟨e0, e1, e2, _, _⟩ := hl' k hk
    match j, hu with
    | 0, hu => injection hu with hu; rw [← hu]; exact e0
    | 1, hu => injection hu with hu; rw [← hu]; exact e1
    | 2, hu => injection hu with hu; rw [← hu]; exact e2
   ·obtain ⟨i, hi, rfl⟩ := List.getElem_of_mem hh
    have := hl' i hi
    exact ⟨this.2.2.2.1, this.2.2.2.2⟩
set_option linter.unusedVariables false
set_option maxRecDepth 10000
theorem open_i64 {W : World} {sp : Nat → Bool} {held : Bool} {H : Type} {enc : TypeId × Value → H} {fuel : Nat} {cs0 : List Value} {d : DataW H × List MemPlace}
 (hf : DataW.trod enc Tryz.prog W 0 sp held fuel 28 cs0 = some d) :
 ∃ (A : Option Addr) (c : Nat) (l : List Int), cs0 = [.slice A l.length c] ∧ Rds W 1 A l.length (ics l) ∧ l.length ≤ 9223372036854775807 ∧ l.length ≤ c := by
 rcases open_ints Tryz.underlying28 Tryz.underlying2 (by kernel_rfl) hf with ⟨rfl, _⟩ | ⟨x, n, c, zs, rfl, _, hl, hm, hz, _, hcell, _⟩
 ·exact ⟨none, 0, [], rfl, Rds.empty _ _ _, by simp, by simp⟩
 ·unfold maxLen at hm
  have hzn : n ≤ zs.length := by rw [hz]; split <;> omega
  have hlen : (zs.take n).length = n := by rw [List.length_take]; omega
  refine ⟨some x, c, zs.take n, by rw [hlen], ⟨by simp [ics], fun hn => ?_⟩, by omega, by omega⟩
  rw [hlen] at hn
  obtain ⟨b, off, spot⟩ := x
  have hc0 := hcell 0 (by omega)
  have hspot : spot = none := by simpa [Addr.add] using World.cell?_spot hc0
  subst hspot
  have hadd : ∀ j : Nat, (⟨b, off, none⟩ : Addr).add j = ⟨b, off + j, none⟩ := fun j => by unfold Addr.add; split <;> simp_all
  rw [hadd] at hc0
  refine ⟨b, off, rfl, World.block_lt_of_cell? W _ hc0, fun j u hu => ?_⟩
  have hj : j < n := by
   rcases Nat.lt_or_ge j n with h | h
   ·exact h
   ·rw [List.getElem?_eq_none (by rw [ics_len, hlen]; omega)] at hu
    cases hu
  rw [← hadd, hcell j (by omega)]
  simp [ics, hj, List.getElem?_eq_getElem (show j < zs.length by omega)] at hu
  rw [← hu]
  simp [List.getD, List.getElem?_eq_getElem (show j < zs.length by omega)]
end Go.Proofs.YtbianlkenallaaaGreatDoor
namespace Go.Proofs.YtbianlkenallaaaGreatDoor
open Go.ChangeShapes Go.WideShapes Go.ChangeAt Go.RowKit
theorem gT : Tryz.prog.globalNamed "internal/strconv.uint64pow10" = some 0 := by kernel_rfl
theorem gTType : (Tryz.prog.globals[0]?).map (·.type) = some 220 := by kernel_rfl
def laidL : List (String × DataW Unit) := [("math/bits.deBruijn32tab", Rows.laid_math_bits_deBruijn32tab), ("math/bits.deBruijn64tab", Rows.laid_math_bits_deBruijn64tab), ("internal/strconv.uint64pow10", Rows.laid_internal_strconv_uint64pow10)]
theorem door_met (os : Os) (args : Array Value) : laidMetH Tryz.prog laidL ((World.doorLaid Tryz.prog 400 os).forCall (fun _ _ => 0) ⟨#[], args, []⟩).memory :=
 laidMetH_of_parts3 (fuel := 8) (laidMet_of_run' 8 (by kernel_rfl) (by kernel_rfl)) (by kernel_rfl) (by kernel_rfl)
theorem tab_of_laid {W : World} (h : laidMetH Tryz.prog laidL W) : Tab W := by
 rw [MakeChecks.laidMetH_plain _ _ _ (by kernel_rfl)] at h
 exact Lib.tabIs_of_head gT gTType Tryz.underlying220 Tryz.underlying93 (by kernel_rfl) (by kernel_rfl) h.tail.tail
end Go.Proofs.YtbianlkenallaaaGreatDoor

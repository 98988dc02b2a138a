/-
  AddEntry, of the program and of the reference. The bounds stand at each; the program's leans on the laid table.
-/
import Derived.Test.YtbianlkenallaaaGreatDoorMgE
set_option linter.all false
set_option maxHeartbeats 2000000
set_option maxRecDepth 10000
namespace Go.Proofs.YtbianlkenallaaaGreatDoor
open Go.RowKit
def newLine (st : Int) (x : Entry) : ByteArray := lineP x (stampP st x) ++ ⟨#[10]⟩
theorem newLine_len {x : Entry} (h : vEntry x = true) (st : Int) : (newLine st x).size ≤ 73 := by
 have hb := stampP_bd st x
 have := lineP_len h hb.1 hb.2
 have z : (⟨#[10]⟩ : ByteArray).size = 1 := rfl
 simp only [newLine, ByteArray.size_append]
 omega
def extR (log : ByteArray) (l : List Entry) (st : Int) (x : Entry) : ByteArray × Int :=
 if vEntry x = true then (if x.day < dayL l then (⟨#[]⟩, 6) else (log ++ newLine st x, 0)) else (⟨#[]⟩, 7)
theorem extR_7 {log : ByteArray} {l : List Entry} {st : Int} {x : Entry} (h : vEntry x = false) : extR log l st x = (⟨#[]⟩, 7) := by rw [extR, if_neg (by rw [h]; simp)]
theorem extR_6 {log : ByteArray} {l : List Entry} {st : Int} {x : Entry} (h : vEntry x = true) (h2 : x.day < dayL l) : extR log l st x = (⟨#[]⟩, 6) := by rw [extR, if_pos h, if_pos h2]
theorem LI.cells3 {base rb sz : Nat} {w : World} {l : List Entry} {st : Int} (h : LI base w rb l st sz) : w.cell? ⟨rb, 1, none⟩ = some (i64 st) ∧ rb < w.heap.size := by
 obtain ⟨A, c, h1, _⟩ := h
 exact ⟨h1.cell 1, h1.lt⟩
theorem LI.put2 {base rb sz : Nat} {l : List Entry} {st : Int} {w : World} {Al : Option Addr} {cl gb cap : Nat} {x : Entry} (b : Blk w rb 152 #[.slice Al l.length cl, i64 st, i64 sz]) (hb : base ≤ rb)
 (o : w.ownsRow base 127 3 (.slice (some ⟨gb, 0, none⟩) (l.length + 1) cap) (l.length + 1) (encs l ++ [i64 x.day, .string x.what, i64 x.value])) (hne : gb ≠ rb) (st' : Int) :
 LI base ((w.setCell ⟨rb, 0, none⟩ (.slice (some ⟨gb, 0, none⟩) (l.length + 1) cap)).setCell ⟨rb, 1, none⟩ (i64 st')) rb (l ++ [x]) st' sz := by
 have hne2 : (Value.slice (some ⟨gb, 0, none⟩) (l.length + 1) cap).ownBlock = none ∨ (Value.slice (some ⟨gb, 0, none⟩) (l.length + 1) cap).ownBlock ≠ some rb := .inr (fun e => by injection e with e; exact hne e)
 have b3 := (b.put 0 (.slice (some ⟨gb, 0, none⟩) (l.length + 1) cap)).put 1 (i64 st')
 have o3 := (o.kept (grown_put w rb 0 (.slice (some ⟨gb, 0, none⟩) (l.length + 1) cap)) hne2).kept (grown_put _ rb 1 (i64 st')) hne2
 refine ⟨some ⟨gb, 0, none⟩, cap, ?_, hb, ?_, ?_⟩
 ·rw [List.length_append, List.length_singleton]; exact b3
 ·rw [List.length_append, List.length_singleton, show encs (l ++ [x]) = encs l ++ [i64 x.day, .string x.what, i64 x.value] by simp [encs, Entry.cells]]; exact o3
 ·rw [List.length_append, List.length_singleton]; exact hne2
theorem pg {Q : Exit → Act → World → Prop} {e : Exit} {a : Act} {w : World} {R : World → Prop} (st : R w) (h : ∀ W, R W → Q e a W) : Q e a w := h w st
theorem EAt.grown {w w' : World} {b o : Nat} {x : Entry} {row : Option Nat} (a : EAt w b o x) (hg : w.grownBy w' row) (hne : some b ≠ row) : EAt w' b o x :=
 ⟨Nat.lt_of_lt_of_le a.1 hg.size, (hg.cell_far ⟨b, o, none⟩ a.1 hne).trans a.2.1, (hg.cell_far ⟨b, o + 1, none⟩ a.1 hne).trans a.2.2.1, (hg.cell_far ⟨b, o + 2, none⟩ a.1 hne).trans a.2.2.2⟩
theorem EAt.set {w : World} {b o rb i : Nat} {x : Entry} (a : EAt w b o x) (hne : b ≠ rb) (u : Value) : EAt (w.setCell ⟨rb, i, none⟩ u) b o x :=
 a.grown (grown_put w rb i u) (fun e => hne (by injection e))
theorem Below.sets2 {B rb : Nat} {a w : World} (hr : B ≤ rb) (h : Below B a w) (u0 u1 : Value) : Below B a ((w.setCell ⟨rb, 0, none⟩ u0).setCell ⟨rb, 1, none⟩ u1) :=
 (h.setCell (p := ⟨rb, 0, none⟩) hr u0).setCell (p := ⟨rb, 1, none⟩) hr u1
theorem ext_no (base rb sz : Nat) (l : List Entry) (st : Int) (log : ByteArray) (x : Entry) (w : World) (h : LI base w rb l st sz) (hl : l.length ≤ 1000000000) (hs : x.what.size ≤ 9223372036854775807)
 (hno : vEntry x = false ∨ x.day < dayL l) :
 Calls Tryz.prog 138 #[.pointer (some ⟨rb, 0, none⟩), .string log, env x] w fun e w' => e = .returned (.tuple #[.string (extR log l st x).1, i64 (extR log l st x).2]) ∧ UpOf w w' := by
 have HL := hd_ h
 clear h
 cases h1 : vEntry x
 ·have hf := hd_ (extR_7 (log := log) (l := l) (st := st) h1)
  clear hno
  go_enter Tryz.func138, Tryz.ntmps138
  go_wp2_with (first | (go_at_call 172; refine cu_ (ra_ (validEntryI_any x _ hs) h1) fun g => ?_) | ((with_reducible refine wru ?_); refine wrz fun _ => ?_))
  go_ret2
  exact ⟨by rw [hf.out] <;> rfl, uw_⟩
 ·have h2 : x.day < dayL l := hno.resolve_left (by rw [h1]; simp)
  have hf := hd_ (extR_6 (log := log) (st := st) h1 h2)
  clear hno
  go_enter Tryz.func138, Tryz.ntmps138
  go_wp2_with (first | (go_at_call 172; refine cu_ (ra_ (validEntryI_any x _ hs) h1) fun g => ?_) | ((with_reducible refine wru ?_); (repeat (go_big_quiet_step (first | (go_at_call 173; exact uq_ (dayI_any _ _ _ _ _ _ (HL.out.below bw_) hl))))); refine wqn fun nq => ?_))
  go_ret2
  exact ⟨by rw [hf.out] <;> rfl, uw_⟩
theorem ext_ok (base rb sz : Nat) (l : List Entry) (st : Int) (log : ByteArray) (x : Entry) (w : World) (h : LI base w rb l st sz) (ht : ∀ W', Below base w W' → Tab W') (hl : l.length ≤ 1000000000) (hlog : log.size ≤ 1000000000) (s0 : 0 ≤ st) (s1 : st < 65519)
 (h1 : vEntry x = true) (h2 : ¬ x.day < dayL l) :
 Calls Tryz.prog 138 #[.pointer (some ⟨rb, 0, none⟩), .string log, env x] w fun e w' => e = .returned (.tuple #[.string (log ++ newLine st x), i64 0]) ∧ LI base w' rb (l ++ [x]) (stampP st x) sz ∧ Below base w w' := by
 have HB0 := hd_ (show base ≤ w.heap.size from Nat.le_trans h.lt.1 (Nat.le_of_lt h.lt.2))
 have HBR := hd_ h.lt.1
 have HL := hd_ h
 have HT := hd_ ht
 have hs : x.what.size ≤ 9223372036854775807 := by have := (nameB_bd (vEntry_inv h1).2.2.1).2; omega
 have hb := stampP_bd st x
 have hz1 := ewords_len h1
 have hz2 := dec_len (n := stampP st x) (by omega) (by omega)
 have z1 : (⟨#[32]⟩ : ByteArray).size = 1 := rfl
 have z2 : (⟨#[10]⟩ : ByteArray).size = 1 := rfl
 have e1 : ∀ w, (Op.stringOp .add log (ewords x)).run Tryz.prog w = .ok (.string (log ++ ewords x)) w := fun w => run_string_add_sum w _ _ (by omega)
 have e2 : ∀ w, (Op.stringOp .add (log ++ ewords x) (⟨#[32]⟩ : ByteArray)).run Tryz.prog w = .ok (.string (log ++ ewords x ++ ⟨#[32]⟩)) w := fun w => run_string_add_sum w _ _ (by simp only [ByteArray.size_append]; omega)
 have e3 : ∀ w, (Op.stringOp .add (log ++ ewords x ++ ⟨#[32]⟩) (dec (stampP st x))).run Tryz.prog w = .ok (.string (log ++ ewords x ++ ⟨#[32]⟩ ++ dec (stampP st x))) w := fun w => run_string_add_sum w _ _ (by simp only [ByteArray.size_append]; omega)
 have e4 : ∀ w, (Op.stringOp .add (log ++ ewords x ++ ⟨#[32]⟩ ++ dec (stampP st x)) (⟨#[10]⟩ : ByteArray)).run Tryz.prog w = .ok (.string (log ++ newLine st x)) w := fun w => by
  rw [run_string_add_sum w _ _ (by simp only [ByteArray.size_append]; omega)]
  rw [newLine, lineP]
  congr 2
  apply ba_ext
  simp [ByteArray.data_append]
 obtain ⟨Al, cl, r1, r2, r3, r4⟩ := h
 have R1 := hd_ r1
 have R3 := hd_ r3
 have R4 := hd_ r4
 have HLT := hd_ r1.lt
 have HOQ := hd_ (fun k hk => (r3.lt k hk).2)
 clear ht hz1 hz2 z1 z2 r1 r2 r3 r4
 go_enter Tryz.func138, Tryz.ntmps138
 go_wp2_with fail
 refine cu_ (ra_ (validEntryI_any x _ hs) h1) fun g1 => ?_
 go_wp2_with fail
 refine wpg (R := fun V => EAt V w.heap.size 0 x ∧ LI base V rb l st sz ∧ UpOf w V) ⟨⟨by simp, by simp, by simp, by simp⟩, HL.out.below bw_, uw_⟩ (fun V z => ?_)
 clear HL
 obtain ⟨q, hqq⟩ := nm_ (w.heap.size)
 rw [hqq] at z ⊢
 have HQQ := hd_ hqq
 clear hqq
 have HE := hd_ z.1
 obtain ⟨⟨hq, y0, y1, y2⟩, hl', hu⟩ := z
 obtain ⟨c1, hrb⟩ := hl'.cells3
 simp only [Nat.zero_add] at y1 y2
 have HL := hd_ hl'
 have HU := hd_ hu
 clear hl' hu
 go_wp2_with (first | ((with_reducible refine wru ?_); (repeat (go_big_quiet_step (first | (go_at_call 173; exact uq_ (dayI_any _ _ _ _ _ _ (HL.out.below bw_) hl)) | (go_at_call 174; exact uq_ (stamp_any x h1 _ s0 s1 _ (HT.out _ ((HU.out.tr bw_).below.mono HB0.out))))))); refine wqn fun nq => ?_))
 refine wpg (R := fun V3 => EAt V3 q 0 x ∧ UpOf w V3) ⟨HE.out.below bw_, HU.out.tr bw_⟩ (fun V3 z => ?_)
 clear y0 y1 y2 hq c1 hrb HL HU HE
 have HE := hd_ z.1
 have HU := hd_ z.2
 obtain ⟨hq, y0, y1, y2⟩ := z.1
 simp only [Nat.zero_add] at y1 y2
 have b3 := R1.out.below' z.2.below
 have c0 := b3.cell 0
 have c1 := b3.cell 1
 have hrb := b3.lt
 simp only [List.getElem?_toArray, List.getElem?_cons_zero, List.getElem?_cons_succ] at c0 c1
 have B3 := hd_ b3
 have O3 := hd_ (ob_ R3.out z.2.below)
 have HBS := hd_ (show base ≤ V3.heap.size from Nat.le_trans HB0.out z.2.below.size)
 have HQN := hd_ (show some q ≠ (Value.slice Al l.length cl).ownBlock from fun e => by have := HOQ.out q e.symm; have := HQQ.out; omega)
 clear z b3
 go_region_law (first | (go_must (refine step_appAt rfl _ _ 100 (by rfl) base 127 _ 3 32 el_entry (.slice Al l.length cl) l.length (encs l) (by rfl) (ob_ O3.out bw_) _ 1 1 [i64 x.day, .string x.what, i64 x.value] (by rfl) (rds_new _ #[i64 x.day, .string x.what, i64 x.value] _ 3 1 rfl) (fun u hu => by simp at hu; rcases hu with rfl | rfl | rfl <;> rfl) (by omega) (by unfold maxLen; omega) (by omega) (Nat.le_trans HBS.out (Below.size (B := V3.heap.size) (w := V3) bw_)) ?_); intro gb cap w4 o4 hg4 hat4; have b4 := (B3.out.below' bw_).grown hg4 (ne_row R4.out); have E4 := (HE.out.below bw_).grown hg4 HQN.out; have d0 := b4.cell 0; have d1 := b4.cell 1; have f0 := b4.free 0; have f1 := b4.free 1; simp only [List.getElem?_toArray, List.getElem?_cons_zero, List.getElem?_cons_succ] at d0 d1))
 all_goals
  refine pg (R := fun W5 => EAt W5 q 0 x ∧ LI base W5 rb (l ++ [x]) (stampP st x) sz ∧ Below base w W5)
   ⟨(E4.set (by have := HQQ.out; have := HLT.out; omega) _).set (by have := HQQ.out; have := HLT.out; omega) _, LI.put2 b4 HBR.out o4 (gb_ne R4.out hat4 (Nat.lt_of_lt_of_le hrb (Below.size (B := V3.heap.size) (w := V3) bw_))) _, Below.sets2 HBR.out (((HU.out.below.mono HB0.out).trans ((show Below V3.heap.size V3 _ from bw_).mono HBS.out)).grown hg4 (Nat.le_trans HBS.out (Below.size (B := V3.heap.size) (w := V3) bw_)) (fun k hk => (O3.out.lt k hk).1)) _ _⟩ (fun W5 z => ?_)
  clear y0 y1 y2 hq c0 c1 hrb d0 d1 f0 f1 b4 o4 hat4 hg4 E4
  obtain ⟨⟨hq, y0, y1, y2⟩, hl5, hb5⟩ := z
  simp only [Nat.zero_add] at y1 y2
  have HL5 := hd_ hl5
  have HB5 := hd_ hb5
  clear hl5 hb5
  go_wp2_with (first | (go_at_call 90; refine cu_ (words_any x h1 _ (HT.out _ (HB5.out.trans (Below.mono bw_ (Nat.le_trans HB0.out HB5.out.size))))) fun g => ?_) | (go_at_call 41; refine cu_ (decI_any _ _ (by omega) (by omega) (HT.out _ (HB5.out.trans (Below.mono bw_ (Nat.le_trans HB0.out HB5.out.size))))) fun g => ?_) | ((with_reducible refine wru ?_); refine wrz fun _ => ?_))
  go_ret2
  exact ⟨rfl, HL5.out.below bw_, HB5.out.trans (Below.mono bw_ (Nat.le_trans HB0.out HB5.out.size))⟩
end Go.Proofs.YtbianlkenallaaaGreatDoor

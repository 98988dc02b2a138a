/-
  The program's taking of one line of a log. The bounds stand at each; it leans on the laid table.
-/
import Derived.Test.YtbianlkenallaaaGreatDoorMgB
set_option linter.all false
set_option maxHeartbeats 2000000
set_option maxRecDepth 10000
namespace Go.Proofs.YtbianlkenallaaaGreatDoor
open Go.RowKit
theorem wAt_size {L : List UInt8} (i : Nat) : (wAt (wordsA [] L) i).size ≤ L.length := by
 unfold wAt
 rw [List.getD_eq_getElem?_getD]
 cases h : (wordsA [] L)[i]? with
 | none => exact Nat.zero_le _
 | some p =>
   have := words_size L [] p (List.mem_of_getElem? h)
   simpa using this
theorem words4 {w : World} {A : Option Addr} {W : List ByteArray} (h : Rds w 1 A W.length (strs W)) (h4 : W.length = 4) :
 ∃ b off, A = some ⟨b, off, none⟩ ∧ b < w.heap.size ∧ w.cell? ⟨b, off, none⟩ = some (.string (wAt W 0)) ∧ w.cell? ⟨b, off + 1, none⟩ = some (.string (wAt W 1)) ∧ w.cell? ⟨b, off + 2, none⟩ = some (.string (wAt W 2)) := by
 obtain ⟨b, off, e, hb, hc⟩ := str_at h (i := 0) (by omega)
 exact ⟨b, off, e, hb, hc 0 (by omega), hc 1 (by omega), hc 2 (by omega)⟩
theorem takeI_no (base rb sz : Nat) (l : List Entry) (st : Int) (line : ByteArray) (w : World) (h : LI base w rb l st sz) (ht : Tab w) (hline : line.size ≤ 1000000000) (hl : l.length ≤ 1000000000) (s0 : 0 ≤ st) (s1 : st < 65519)
 (hno : takeB (dayL l) st line (wordsA [] line.data.toList) = false) :
 Calls Tryz.prog 205 #[.pointer (some ⟨rb, 0, none⟩), .string line] w fun e w' => e = .returned (.bool false) ∧ UpOf w w' := by
 obtain ⟨W, hW⟩ := nm_ (wordsA [] line.data.toList)
 have HS := hd_ (fun i => (show (wAt W i).size ≤ 9223372036854775807 by rw [← hW]; exact Nat.le_trans (wAt_size i) (by rw [bsz]; omega)))
 have cw : ∀ V, Calls Tryz.prog 76 #[.string line] V fun e w' => ∃ A c, e = .returned (.slice A W.length c) ∧ w'.ownsRow V.heap.size 9 1 (.slice A W.length c) W.length (strs W) ∧ UpOf V w' := fun V => by rw [← hW]; exact splitWords_any line V (by omega)
 have CW := hd_ cw
 have HT := hd_ ht
 have HL := hd_ h
 clear ht h cw
 rw [hW] at hno
 clear hW
 by_cases h1 : W.length = 4
 ·cases h2 : (rdR (wAt W 0)).2
  ·clear hno
   go_enter Tryz.func205, Tryz.ntmps205
   go_wp2_with fail
   refine (CW.out _).mono ?_
   rintro e w' ⟨A1, k1, rfl, o1, g1, rfl⟩
   obtain ⟨b1, p1, rfl, hb1, q0, q1, q2⟩ := words4 (Rds.of_own o1) h1
   clear o1
   rw [h1]
   obtain ⟨Al, cl, r1, r2, r3, r4⟩ := HL.out
   have hrlt := r1.lt
   go_wp2_with fail
   refine cg (R := fun V => (b1 < V.heap.size ∧ V.cell? ⟨b1, p1, none⟩ = some (.string (wAt W 0)) ∧ V.cell? ⟨b1, p1 + 1, none⟩ = some (.string (wAt W 1)) ∧ V.cell? ⟨b1, p1 + 2, none⟩ = some (.string (wAt W 2))) ∧ (rb < V.heap.size ∧ V.cell? ⟨rb, 1, none⟩ = some (i64 st)) ∧ LI base V rb l st sz ∧ Tab V ∧ UpOf w V)
    ⟨⟨hb1, q0, q1, q2⟩, ⟨(r1.up g1).lt, (r1.up g1).cell 1⟩, HL.out.below bw_, HT.out.below bw_, uw_⟩ (fun V s => ?_)
   clear hrlt q0 q1 q2 hb1 r1 r2 r3 r4 HL HT Al cl
   obtain ⟨⟨hb1, q0, q1, q2⟩, ⟨hr, qs⟩, hl, ht, hu⟩ := s
   have HL := hd_ hl
   have HT := hd_ ht
   have HU := hd_ hu
   clear hl ht hu
   refine cu_ (readDecimal_any _ _ (HS.out _) HT.out) fun g2 => ?_
   go_wp2_with (first | (go_at_call 79; refine cu_ (readDecimal_any _ _ (HS.out _) (HT.out.below bw_)) fun g => ?_) | ((with_reducible refine wru ?_); refine wrz fun _ => ?_))
   go_ret
   exact ⟨rfl, HU.out.tr bw_⟩
  cases h3 : (rdR (wAt W 2)).2
  ·clear hno
   go_enter Tryz.func205, Tryz.ntmps205
   go_wp2_with fail
   refine (CW.out _).mono ?_
   rintro e w' ⟨A1, k1, rfl, o1, g1, rfl⟩
   obtain ⟨b1, p1, rfl, hb1, q0, q1, q2⟩ := words4 (Rds.of_own o1) h1
   clear o1
   rw [h1]
   obtain ⟨Al, cl, r1, r2, r3, r4⟩ := HL.out
   have hrlt := r1.lt
   go_wp2_with fail
   refine cg (R := fun V => (b1 < V.heap.size ∧ V.cell? ⟨b1, p1, none⟩ = some (.string (wAt W 0)) ∧ V.cell? ⟨b1, p1 + 1, none⟩ = some (.string (wAt W 1)) ∧ V.cell? ⟨b1, p1 + 2, none⟩ = some (.string (wAt W 2))) ∧ (rb < V.heap.size ∧ V.cell? ⟨rb, 1, none⟩ = some (i64 st)) ∧ LI base V rb l st sz ∧ Tab V ∧ UpOf w V)
    ⟨⟨hb1, q0, q1, q2⟩, ⟨(r1.up g1).lt, (r1.up g1).cell 1⟩, HL.out.below bw_, HT.out.below bw_, uw_⟩ (fun V s => ?_)
   clear hrlt q0 q1 q2 hb1 r1 r2 r3 r4 HL HT Al cl
   obtain ⟨⟨hb1, q0, q1, q2⟩, ⟨hr, qs⟩, hl, ht, hu⟩ := s
   have HL := hd_ hl
   have HT := hd_ ht
   have HU := hd_ hu
   clear hl ht hu
   refine cu_ (readDecimal_any _ _ (HS.out _) HT.out) fun g2 => ?_
   go_wp2_with (first | (go_at_call 79; refine cu_ (readDecimal_any _ _ (HS.out _) (HT.out.below bw_)) fun g => ?_) | ((with_reducible refine wru ?_); refine wrz fun _ => ?_))
   go_ret
   exact ⟨rfl, HU.out.tr bw_⟩
  cases h4 : vEntry (eOf W)
  ·clear hno
   go_enter Tryz.func205, Tryz.ntmps205
   go_wp2_with fail
   refine (CW.out _).mono ?_
   rintro e w' ⟨A1, k1, rfl, o1, g1, rfl⟩
   obtain ⟨b1, p1, rfl, hb1, q0, q1, q2⟩ := words4 (Rds.of_own o1) h1
   clear o1
   rw [h1]
   obtain ⟨Al, cl, r1, r2, r3, r4⟩ := HL.out
   have hrlt := r1.lt
   go_wp2_with fail
   refine cg (R := fun V => (b1 < V.heap.size ∧ V.cell? ⟨b1, p1, none⟩ = some (.string (wAt W 0)) ∧ V.cell? ⟨b1, p1 + 1, none⟩ = some (.string (wAt W 1)) ∧ V.cell? ⟨b1, p1 + 2, none⟩ = some (.string (wAt W 2))) ∧ (rb < V.heap.size ∧ V.cell? ⟨rb, 1, none⟩ = some (i64 st)) ∧ LI base V rb l st sz ∧ Tab V ∧ UpOf w V)
    ⟨⟨hb1, q0, q1, q2⟩, ⟨(r1.up g1).lt, (r1.up g1).cell 1⟩, HL.out.below bw_, HT.out.below bw_, uw_⟩ (fun V s => ?_)
   clear hrlt q0 q1 q2 hb1 r1 r2 r3 r4 HL HT Al cl
   obtain ⟨⟨hb1, q0, q1, q2⟩, ⟨hr, qs⟩, hl, ht, hu⟩ := s
   have HL := hd_ hl
   have HT := hd_ ht
   have HU := hd_ hu
   clear hl ht hu
   refine cu_ (readDecimal_any _ _ (HS.out _) HT.out) fun g2 => ?_
   go_wp2_with (first | (go_at_call 79; refine cu_ (readDecimal_any _ _ (HS.out _) (HT.out.below bw_)) fun g => ?_) | (go_at_call 172; refine cu_ (ra_ (validEntryI_any (eOf W) _ (HS.out 1)) h4) fun g => ?_) | ((with_reducible refine wru ?_); refine wrz fun _ => ?_))
   go_ret
   exact ⟨rfl, HU.out.tr bw_⟩
  by_cases h5 : dayL l ≤ (eOf W).day
  ·have hb := stampP_bd st (eOf W)
   have h5' : ¬ (rdR (wAt W 0)).1 < dayL l := Int.not_lt.2 h5
   have h6 : ¬ lineP (eOf W) (stampP st (eOf W)) = line := by
    intro he
    rw [takeB_0 h1 h2 h3 h4 h5 he] at hno
    cases hno
   have hne := tl_ne h6
   have hz1 := ewords_len h4
   have hz2 := dec_len (n := stampP st (eOf W)) (by omega) (by omega)
   have z1 : (⟨#[32]⟩ : ByteArray).size = 1 := rfl
   have e1 : ∀ w, (Op.stringOp .add (ewords (eOf W)) (⟨#[32]⟩ : ByteArray)).run Tryz.prog w = .ok (.string (ewords (eOf W) ++ ⟨#[32]⟩)) w := fun w => run_string_add_sum w _ _ (by omega)
   have e2 : ∀ w, (Op.stringOp .add (ewords (eOf W) ++ ⟨#[32]⟩) (dec (stampP st (eOf W)))).run Tryz.prog w = .ok (.string (lineP (eOf W) (stampP st (eOf W)))) w := fun w => run_string_add_sum w _ _ (by simp only [ByteArray.size_append]; omega)
   clear hz1 hz2 z1
   clear hno h5 h6
   go_enter Tryz.func205, Tryz.ntmps205
   go_wp2_with fail
   refine (CW.out _).mono ?_
   rintro e w' ⟨A1, k1, rfl, o1, g1, rfl⟩
   obtain ⟨b1, p1, rfl, hb1, q0, q1, q2⟩ := words4 (Rds.of_own o1) h1
   clear o1
   rw [h1]
   obtain ⟨Al, cl, r1, r2, r3, r4⟩ := HL.out
   have hrlt := r1.lt
   go_wp2_with fail
   refine cg (R := fun V => (b1 < V.heap.size ∧ V.cell? ⟨b1, p1, none⟩ = some (.string (wAt W 0)) ∧ V.cell? ⟨b1, p1 + 1, none⟩ = some (.string (wAt W 1)) ∧ V.cell? ⟨b1, p1 + 2, none⟩ = some (.string (wAt W 2))) ∧ (rb < V.heap.size ∧ V.cell? ⟨rb, 1, none⟩ = some (i64 st)) ∧ LI base V rb l st sz ∧ Tab V ∧ UpOf w V)
    ⟨⟨hb1, q0, q1, q2⟩, ⟨(r1.up g1).lt, (r1.up g1).cell 1⟩, HL.out.below bw_, HT.out.below bw_, uw_⟩ (fun V s => ?_)
   clear hrlt q0 q1 q2 hb1 r1 r2 r3 r4 HL HT Al cl
   obtain ⟨⟨hb1, q0, q1, q2⟩, ⟨hr, qs⟩, hl, ht, hu⟩ := s
   have HL := hd_ hl
   have HT := hd_ ht
   have HU := hd_ hu
   clear hl ht hu
   refine cu_ (readDecimal_any _ _ (HS.out _) HT.out) fun g2 => ?_
   go_wp2_with (first | (go_at_call 79; refine cu_ (readDecimal_any _ _ (HS.out _) (HT.out.below bw_)) fun g => ?_) | (go_at_call 172; refine cu_ (ra_ (validEntryI_any (eOf W) _ (HS.out 1)) h4) fun g => ?_) | (go_at_call 173; refine cu_ (dayI_any _ _ _ _ _ _ (HL.out.below bw_) (by omega)) fun g => ?_) | (go_at_call 90; refine cu_ (words_any (eOf W) h4 _ (HT.out.below bw_)) fun g => ?_) | (go_at_call 41; refine cu_ (decI_any _ _ (by omega) (by omega) (HT.out.below bw_)) fun g => ?_) | ((with_reducible refine wru ?_); (repeat (go_big_quiet_step (first | (go_at_call 174; exact uq_ (stamp_any (eOf W) h4 _ (by omega) (by omega) _ (HT.out.below bw_)))))); refine wqn fun nq => ?_))
   go_ret
   exact ⟨rfl, HU.out.tr bw_⟩
  ·have h5' : (rdR (wAt W 0)).1 < dayL l := by have : ¬ dayL l ≤ (rdR (wAt W 0)).1 := h5; omega
   clear hno h5
   go_enter Tryz.func205, Tryz.ntmps205
   go_wp2_with fail
   refine (CW.out _).mono ?_
   rintro e w' ⟨A1, k1, rfl, o1, g1, rfl⟩
   obtain ⟨b1, p1, rfl, hb1, q0, q1, q2⟩ := words4 (Rds.of_own o1) h1
   clear o1
   rw [h1]
   obtain ⟨Al, cl, r1, r2, r3, r4⟩ := HL.out
   have hrlt := r1.lt
   go_wp2_with fail
   refine cg (R := fun V => (b1 < V.heap.size ∧ V.cell? ⟨b1, p1, none⟩ = some (.string (wAt W 0)) ∧ V.cell? ⟨b1, p1 + 1, none⟩ = some (.string (wAt W 1)) ∧ V.cell? ⟨b1, p1 + 2, none⟩ = some (.string (wAt W 2))) ∧ (rb < V.heap.size ∧ V.cell? ⟨rb, 1, none⟩ = some (i64 st)) ∧ LI base V rb l st sz ∧ Tab V ∧ UpOf w V)
    ⟨⟨hb1, q0, q1, q2⟩, ⟨(r1.up g1).lt, (r1.up g1).cell 1⟩, HL.out.below bw_, HT.out.below bw_, uw_⟩ (fun V s => ?_)
   clear hrlt q0 q1 q2 hb1 r1 r2 r3 r4 HL HT Al cl
   obtain ⟨⟨hb1, q0, q1, q2⟩, ⟨hr, qs⟩, hl, ht, hu⟩ := s
   have HL := hd_ hl
   have HT := hd_ ht
   have HU := hd_ hu
   clear hl ht hu
   refine cu_ (readDecimal_any _ _ (HS.out _) HT.out) fun g2 => ?_
   go_wp2_with (first | (go_at_call 79; refine cu_ (readDecimal_any _ _ (HS.out _) (HT.out.below bw_)) fun g => ?_) | (go_at_call 172; refine cu_ (ra_ (validEntryI_any (eOf W) _ (HS.out 1)) h4) fun g => ?_) | (go_at_call 173; refine cu_ (dayI_any _ _ _ _ _ _ (HL.out.below bw_) (by omega)) fun g => ?_) | ((with_reducible refine wru ?_); refine wrz fun _ => ?_))
   go_ret
   exact ⟨rfl, HU.out.tr bw_⟩
 ·have z : ((W.length : Int) != 4) = true := by rw [bne_iff_ne]; omega
  clear hno
  go_enter Tryz.func205, Tryz.ntmps205
  go_wp2_with fail
  refine (CW.out _).mono ?_
  rintro e w' ⟨A1, k1, rfl, o1, g1, rfl⟩
  go_wp2_with ((with_reducible refine wru ?_); refine wrz fun _ => ?_)
  go_ret
  exact ⟨rfl, uw_⟩
theorem Blk.below' {w w' : World} {b : Nat} {t : TypeId} {cs : Array Value} (h : Blk w b t cs) (hb : Below w.heap.size w w') : Blk w' b t cs := (hb.block b h.lt).trans h
theorem ne_row {v : Value} {rb : Nat} (h : v.ownBlock = none ∨ v.ownBlock ≠ some rb) : some rb ≠ v.ownBlock := by
 rcases h with h | h
 ·rw [h]; simp
 ·exact fun e => h e.symm
theorem el_entry : ElemOf Tryz.prog 100 127 (.agg #[i64 0, .string ByteArray.empty, i64 0]) 3 32 := elem_of Tryz.underlying100 (by kernel_rfl) rfl (by omega)
theorem wrap2 {a b : Nat} (ha : a ≤ 1000000000) (hb : b ≤ 1000000000) : IntKind.i64.wrap (IntKind.i64.wrap ((a : Int) + (b : Int)) + 1) = ((a + b + 1 : Nat) : Int) := by
 simp [IntKind.wrap, IntKind.signed, IntKind.bits]
 omega
theorem gb_ne {v : Value} {rb gb s : Nat} (h : v.ownBlock = none ∨ v.ownBlock ≠ some rb) (hat : v.ownBlock = some gb ∨ gb = s) (hs : rb < s) : gb ≠ rb := by
 rintro rfl
 rcases hat with h1 | h1
 ·rcases h with h | h
  ·rw [h] at h1; cases h1
  ·exact h h1
 ·omega
theorem Below.sets3 {B rb : Nat} {a w : World} (hr : B ≤ rb) (h : Below B a w) (u0 u1 u2 : Value) : Below B a (((w.setCell ⟨rb, 0, none⟩ u0).setCell ⟨rb, 1, none⟩ u1).setCell ⟨rb, 2, none⟩ u2) :=
 ((h.setCell (p := ⟨rb, 0, none⟩) hr u0).setCell (p := ⟨rb, 1, none⟩) hr u1).setCell (p := ⟨rb, 2, none⟩) hr u2
theorem LI.put {base rb sz : Nat} {l : List Entry} {st : Int} {w : World} {Al : Option Addr} {cl gb cap : Nat} {x : Entry} (b : Blk w rb 152 #[.slice Al l.length cl, i64 st, i64 sz]) (hb : base ≤ rb)
 (o : w.ownsRow base 127 3 (.slice (some ⟨gb, 0, none⟩) (l.length + 1) cap) (l.length + 1) (encs l ++ [i64 x.day, .string x.what, i64 x.value])) (hne : gb ≠ rb) (st' : Int) (sz' : Int) {n : Nat} (hn : sz' = (n : Int) := by rfl) :
 LI base (((w.setCell ⟨rb, 0, none⟩ (.slice (some ⟨gb, 0, none⟩) (l.length + 1) cap)).setCell ⟨rb, 1, none⟩ (i64 st')).setCell ⟨rb, 2, none⟩ (i64 sz')) rb (l ++ [x]) st' n := by
 subst hn
 have hne2 : (Value.slice (some ⟨gb, 0, none⟩) (l.length + 1) cap).ownBlock = none ∨ (Value.slice (some ⟨gb, 0, none⟩) (l.length + 1) cap).ownBlock ≠ some rb := .inr (fun e => by injection e with e; exact hne e)
 have b3 := ((b.put 0 (.slice (some ⟨gb, 0, none⟩) (l.length + 1) cap)).put 1 (i64 st')).put 2 (i64 n)
 have o3 := ((o.kept (grown_put w rb 0 (.slice (some ⟨gb, 0, none⟩) (l.length + 1) cap)) hne2).kept (grown_put _ rb 1 (i64 st')) hne2).kept (grown_put _ rb 2 (i64 n)) hne2
 refine ⟨some ⟨gb, 0, none⟩, cap, ?_, hb, ?_, ?_⟩
 ·rw [List.length_append, List.length_singleton]; exact b3
 ·rw [List.length_append, List.length_singleton, show encs (l ++ [x]) = encs l ++ [i64 x.day, .string x.what, i64 x.value] by simp [encs, Entry.cells]]; exact o3
 ·rw [List.length_append, List.length_singleton]; exact hne2
theorem takeI_ok (base rb sz : Nat) (l : List Entry) (st : Int) (line : ByteArray) (w : World) (h : LI base w rb l st sz) (ht : Tab w) (hline : line.size ≤ 1000000000) (hl : l.length ≤ 1000000000) (s0 : 0 ≤ st) (s1 : st < 65519) (hsz : sz ≤ 1000000000)
 (hok : takeB (dayL l) st line (wordsA [] line.data.toList) = true) :
 Calls Tryz.prog 205 #[.pointer (some ⟨rb, 0, none⟩), .string line] w fun e w' => e = .returned (.bool true) ∧ LI base w' rb (l ++ [eOf (wordsA [] line.data.toList)]) (stampP st (eOf (wordsA [] line.data.toList))) (sz + line.size + 1) ∧ Below base w w' := by
 have HB0 := hd_ (show base ≤ w.heap.size from Nat.le_trans h.lt.1 (Nat.le_of_lt h.lt.2))
 have HBR := hd_ h.lt.1
 obtain ⟨W, hW⟩ := nm_ (wordsA [] line.data.toList)
 have HS := hd_ (fun i => (show (wAt W i).size ≤ 9223372036854775807 by rw [← hW]; exact Nat.le_trans (wAt_size i) (by rw [bsz]; omega)))
 have cw : ∀ V, Calls Tryz.prog 76 #[.string line] V fun e w' => ∃ A c, e = .returned (.slice A W.length c) ∧ w'.ownsRow V.heap.size 9 1 (.slice A W.length c) W.length (strs W) ∧ UpOf V w' := fun V => by rw [← hW]; exact splitWords_any line V (by omega)
 have CW := hd_ cw
 have HT := hd_ ht
 have HL := hd_ h
 clear ht h cw
 rw [hW] at hok ⊢
 clear hW
 obtain ⟨h1, h2, h3, h4, h5, h6⟩ := takeB_inv hok
 have hb := stampP_bd st (eOf W)
 have h5' : ¬ (rdR (wAt W 0)).1 < dayL l := Int.not_lt.2 h5
 have hne := tl_eq h6
 have hz1 := ewords_len h4
 have hz2 := dec_len (n := stampP st (eOf W)) (by omega) (by omega)
 have z1 : (⟨#[32]⟩ : ByteArray).size = 1 := rfl
 have e1 : ∀ w, (Op.stringOp .add (ewords (eOf W)) (⟨#[32]⟩ : ByteArray)).run Tryz.prog w = .ok (.string (ewords (eOf W) ++ ⟨#[32]⟩)) w := fun w => run_string_add_sum w _ _ (by omega)
 have e2 : ∀ w, (Op.stringOp .add (ewords (eOf W) ++ ⟨#[32]⟩) (dec (stampP st (eOf W)))).run Tryz.prog w = .ok (.string (lineP (eOf W) (stampP st (eOf W)))) w := fun w => run_string_add_sum w _ _ (by simp only [ByteArray.size_append]; omega)
 clear hz1 hz2 z1
 clear hok h5 h6
 go_enter Tryz.func205, Tryz.ntmps205
 go_wp2_with fail
 refine (CW.out _).mono ?_
 rintro e w' ⟨A1, k1, rfl, o1, g1, rfl⟩
 obtain ⟨b1, p1, rfl, hb1, q0, q1, q2⟩ := words4 (Rds.of_own o1) h1
 clear o1
 rw [h1]
 obtain ⟨Al, cl, r1, r2, r3, r4⟩ := HL.out
 have hrlt := r1.lt
 go_wp2_with fail
 refine cg (R := fun V => (b1 < V.heap.size ∧ V.cell? ⟨b1, p1, none⟩ = some (.string (wAt W 0)) ∧ V.cell? ⟨b1, p1 + 1, none⟩ = some (.string (wAt W 1)) ∧ V.cell? ⟨b1, p1 + 2, none⟩ = some (.string (wAt W 2))) ∧ (rb < V.heap.size ∧ V.cell? ⟨rb, 1, none⟩ = some (i64 st)) ∧ LI base V rb l st sz ∧ Tab V ∧ UpOf w V)
  ⟨⟨hb1, q0, q1, q2⟩, ⟨(r1.up g1).lt, (r1.up g1).cell 1⟩, HL.out.below bw_, HT.out.below bw_, uw_⟩ (fun V s => ?_)
 clear hrlt q0 q1 q2 hb1 r1 r2 r3 r4 HL HT Al cl
 obtain ⟨⟨hb1, q0, q1, q2⟩, ⟨hr, qs⟩, hl, ht, hu⟩ := s
 have HL := hd_ hl
 have HT := hd_ ht
 have HU := hd_ hu
 clear hl ht hu
 refine cu_ (readDecimal_any _ _ (HS.out _) HT.out) fun g2 => ?_
 go_wp2_with fail
 refine cu_ (readDecimal_any _ _ (HS.out _) (HT.out.below bw_)) fun g3 => ?_
 go_wp2_with fail
 refine cg (R := fun V2 => (V2.cell? ⟨(up V (g2.tr g3)).heap.size, 0, none⟩ = some (i64 (rdR (wAt W 0)).1) ∧ V2.cell? ⟨(up V (g2.tr g3)).heap.size, 1, none⟩ = some (.string (wAt W 1)) ∧ V2.cell? ⟨(up V (g2.tr g3)).heap.size, 2, none⟩ = some (i64 (rdR (wAt W 2)).1) ∧ (up V (g2.tr g3)).heap.size < V2.heap.size) ∧ (rb < V2.heap.size ∧ V2.cell? ⟨rb, 1, none⟩ = some (i64 st)) ∧ LI base V2 rb l st sz ∧ Tab V2 ∧ UpOf w V2)
  ⟨⟨by simp, by simp, by simp, by simp⟩, ⟨(HL.out.below (w' := _) bw_).lt.2, by simp [hr, qs]⟩, HL.out.below bw_, HT.out.below bw_, HU.out.tr bw_⟩ (fun V2 s => ?_)
 clear q0 q1 q2 hb1 hr qs HL HT HU
 generalize (up V (g2.tr g3)).heap.size = q at *
 obtain ⟨⟨e0, e1', e2', hq⟩, ⟨hr, qs⟩, hl', ht', hu⟩ := s
 have HL := hd_ hl'
 have HT := hd_ ht'
 have HU := hd_ hu
 clear hl' ht' hu
 refine cu_ (ra_ (validEntryI_any (eOf W) _ (HS.out 1)) h4) fun g4 => ?_
 go_wp2_with (first | (go_at_call 173; refine cu_ (dayI_any _ _ _ _ _ _ (HL.out.below bw_) (by omega)) fun g => ?_) | (go_at_call 90; refine cu_ (words_any (eOf W) h4 _ (HT.out.below bw_)) fun g => ?_) | (go_at_call 41; refine cu_ (decI_any _ _ (by omega) (by omega) (HT.out.below bw_)) fun g => ?_) | ((with_reducible refine wru ?_); (repeat (go_big_quiet_step (first | (go_at_call 174; exact uq_ (stamp_any (eOf W) h4 _ (by omega) (by omega) _ (HT.out.below bw_)))))); refine wqn fun nq => ?_))
 refine wpg (R := fun V3 => (V3.cell? ⟨q, 0, none⟩ = some (i64 (rdR (wAt W 0)).1) ∧ V3.cell? ⟨q, 1, none⟩ = some (.string (wAt W 1)) ∧ V3.cell? ⟨q, 2, none⟩ = some (i64 (rdR (wAt W 2)).1) ∧ q < V3.heap.size) ∧ LI base V3 rb l st sz ∧ UpOf w V3)
  ⟨⟨by simp [hq, e0], by simp [hq, e1'], by simp [hq, e2'], by simp [hq]⟩, HL.out.below bw_, HU.out.tr bw_⟩ (fun V3 s => ?_)
 clear e0 e1' e2' hq hr qs HL HT HU e1 e2 HS CW
 obtain ⟨⟨e0, e1, e2, hq⟩, ⟨Al, cl, r1, r2, r3, r4⟩, hu⟩ := s
 have HU := hd_ hu
 have c0 := r1.cell 0
 have c1 := r1.cell 1
 have c2 := r1.cell 2
 have hrb := r1.lt
 simp only [List.getElem?_toArray, List.getElem?_cons_zero, List.getElem?_cons_succ] at c0 c1 c2
 have R1 := hd_ r1
 have R3 := hd_ r3
 have R4 := hd_ r4
 have HBS := hd_ (show base ≤ V3.heap.size from Nat.le_trans r2 (Nat.le_of_lt hrb))
 clear hu r1 r3 r4
 go_region_law (first | (go_must (refine step_appAt rfl _ _ 100 (by rfl) base 127 _ 3 32 el_entry (.slice Al l.length cl) l.length (encs l) (by rfl) (ob_ R3.out bw_) _ 1 1 [i64 (rdR (wAt W 0)).1, .string (wAt W 1), i64 (rdR (wAt W 2)).1] (by rfl) (rds_new _ #[i64 (rdR (wAt W 0)).1, .string (wAt W 1), i64 (rdR (wAt W 2)).1] _ 3 1 rfl) (fun u hu => by simp at hu; rcases hu with rfl | rfl | rfl <;> rfl) (by omega) (by unfold maxLen; omega) (by omega) (Nat.le_trans HBS.out (Below.size (B := V3.heap.size) (w := V3) bw_)) ?_); intro gb cap w4 o4 hg4 hat4; have b4 := (R1.out.below' bw_).grown hg4 (ne_row R4.out); have d0 := b4.cell 0; have d1 := b4.cell 1; have d2 := b4.cell 2; have f0 := b4.free 0; have f1 := b4.free 1; have f2 := b4.free 2; simp only [List.getElem?_toArray, List.getElem?_cons_zero, List.getElem?_cons_succ] at d0 d1 d2))
 all_goals
  rw [wrap2 hsz hline]
  go_wp2_with ((with_reducible refine wru ?_); refine wrz fun _ => ?_)
  go_ret
  exact ⟨rfl, LI.put b4 HBR.out o4 (gb_ne R4.out hat4 (Nat.lt_of_lt_of_le hrb (Below.size (B := V3.heap.size) (w := V3) bw_))) _ _, Below.sets3 HBR.out (((HU.out.below.mono HB0.out).trans ((show Below V3.heap.size V3 _ from bw_).mono HBS.out)).grown hg4 (Nat.le_trans HBS.out (Below.size (B := V3.heap.size) (w := V3) bw_)) (fun k hk => (R3.out.lt k hk).1)) _ _ _⟩
end Go.Proofs.YtbianlkenallaaaGreatDoor

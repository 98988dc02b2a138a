/-
  The reference's console: its state, and what it says. The bounds stand at each.
-/
import Derived.Test.YtbianlkenallaaaGreatDoorMgB
import Derived.Test.YtbianlkenallaaaGreatDoorMgC
import Derived.Test.YtbianlkenallaaaGreatDoorMgF
import Derived.Test.YtbianlkenallaaaGreatDoorMgA
set_option linter.all false
set_option maxHeartbeats 8000000
set_option maxRecDepth 10000
namespace Go.Proofs.YtbianlkenallaaaGreatDoor
open Go.RowKit
theorem codeNameS_any (c : Int) (w : World) : Calls Tryz.prog 96 #[i64 c] w fun e w' => e = .returned (.string (cnm c)) ∧ UpOf w w' := by
 have HN : Hid (∀ V : World, Rds (V.alloc (.cells (strs cnms).toArray 9)) 1 (some ⟨V.heap.size, 0, none⟩) 11 (strs cnms)) := hd_ fun V => rds_new V (strs cnms).toArray 9 1 11 rfl
 cases hb : btw c 0 10 with
 | false =>
  have hr := hd_ (show cnm c = ⟨#[]⟩ by rw [cnm, hb]; rfl)
  go_enter Tryz.func96, Tryz.ntmps96
  go_upto_region 2 with (fail)
  refine wpg (R := fun V => Hid (UpOf w V)) (hd_ (show UpOf w (w.alloc (.cells (strs cnms).toArray 9)) from uw_)) (fun V hu => ?_)
  obtain ⟨g, rfl⟩ := hu.out
  go_wp2_with (first | (go_at_call 141; refine (ret_as (in_any c 0 10 _) hb).mono ?_; rintro e w' ⟨rfl, rfl⟩))
  go_ret
  rw [hr.out]
  exact ⟨rfl, uw_⟩
 | true =>
  have h1 := btw_true hb
  obtain ⟨n, rfl⟩ : ∃ n : Nat, c = (n : Int) := ⟨c.toNat, by omega⟩
  have hn : n < 11 := by omega
  have hn' : (n : Int) < 11 := by omega
  have hr := hd_ (show cnm (n : Int) = wd cnms n by rw [cnm, hb, if_pos rfl, Int.toNat_natCast])
  go_enter Tryz.func96, Tryz.ntmps96
  go_upto_region 2 with (fail)
  refine wpg (R := fun V => Hid (UpOf w V) ∧ Rds V 1 (some ⟨w.heap.size, 0, none⟩) 11 (strs cnms)) ⟨hd_ (show UpOf w (w.alloc (.cells (strs cnms).toArray 9)) from uw_), HN.out w⟩ (fun V hu => ?_)
  obtain ⟨hu, hrd⟩ := hu
  obtain ⟨g, rfl⟩ := hu.out
  obtain ⟨b, off, e9, hb9, hc9⟩ := wd_at (ws := cnms) hrd (i := n) hn
  injection e9 with e9
  injection e9 with e91 e92
  subst e91 e92
  have c0 := hc9 n hn
  rw [Nat.zero_add] at c0
  clear hc9 hrd
  go_wp2_with fail
  refine (ret_as (in_any (n : Int) 0 10 _) hb).mono ?_
  rintro e w' ⟨rfl, rfl⟩
  go_wp2_with fail
  go_ret
  rw [hr.out]
  exact ⟨rfl, uw_⟩
structure SzO (w V : World) : Prop where
 size : w.heap.size ≤ V.heap.size
structure UpX (w : World) (sb : Nat) (V : World) : Prop where
 below : SzO w V
 os : V.os = w.os
 tape : V.tape = w.tape
 output : V.output = w.output
 block : ∀ k, k < w.heap.size → k ≠ sb → V.heap[k]? = w.heap[k]?
theorem UpX.tr {w V V' : World} {sb : Nat} (h : UpX w sb V) (hb : Below V.heap.size V V') : UpX w sb V' :=
 ⟨⟨Nat.le_trans h.below.size hb.size⟩, hb.os.trans h.os, hb.tape.trans h.tape, hb.output.trans h.output, fun k hk hne => (hb.block k (Nat.lt_of_lt_of_le hk h.below.size)).trans (h.block k hk hne)⟩
theorem UpX.grown {w V V' : World} {sb : Nat} {row : Option Nat} (h : UpX w sb V) (hg : V.grownBy V' row) (hr : ∀ k, row = some k → w.heap.size ≤ k) : UpX w sb V' :=
 ⟨⟨Nat.le_trans h.below.size hg.size⟩, hg.os.trans h.os, hg.tape.trans h.tape, hg.output.trans h.output, fun k hk hne => (hg.block k (Nat.lt_of_lt_of_le hk h.below.size) (fun e => by
  have := hr k (by first | exact e | exact e.symm)
  omega)).trans (h.block k hk hne)⟩
theorem UpX.set {w V : World} {sb : Nat} (h : UpX w sb V) (i : Nat) (u : Value) : UpX w sb (V.setCell ⟨sb, i, none⟩ u) :=
 ⟨⟨by rw [World.size_setCell]; exact h.below.size⟩, h.os, h.tape, h.output, fun k hk hne => (Below.heap_setCell V ⟨sb, i, none⟩ u k hne).trans (h.block k hk hne)⟩
theorem UpX.of {w V : World} {sb : Nat} (h : Below w.heap.size w V) : UpX w sb V := ⟨⟨h.size⟩, h.os, h.tape, h.output, fun k hk _ => h.block k hk⟩
structure LE (w0 V : World) (sb : Nat) (D : DeskD) (A B : Option Addr) (c e : Nat) (O : Option Addr) (oc : Nat) (L : List ByteArray) (x y : Value) : Prop where
 bk : Blk V sb 77 #[i64 D.b.bars, i64 D.b.rise, i64 D.b.fall, i64 D.b.clr, i64 D.b.near, .slice A D.stops.length c, .slice B D.drills.length e, .string D.log, .slice O L.length oc, x, y]
 dw : DOwn w0.heap.size V D A B c e
 ow : V.ownsRow w0.heap.size 9 1 (.slice O L.length oc) L.length (strs L)
 up : UpX w0 sb V
 lo : True
section
variable {w0 V V' : World} {sb : Nat} {D : DeskD} {A B O : Option Addr} {c e oc : Nat} {L : List ByteArray} {x y : Value}
theorem LE.below (h : LE w0 V sb D A B c e O oc L x y) (hb : Below V.heap.size V V') : LE w0 V' sb D A B c e O oc L x y :=
 ⟨h.bk.up ⟨V', hb⟩, ⟨own_below h.dw.1 hb, own_below h.dw.2 hb⟩, own_below h.ow hb, h.up.tr hb, h.lo⟩
theorem LE.cel (h : LE w0 V sb D A B c e O oc L x y) : sb < V.heap.size ∧ (V.cell? ⟨sb, 0, none⟩ = some (i64 D.b.bars) ∧ V.cell? ⟨sb, 1, none⟩ = some (i64 D.b.rise) ∧ V.cell? ⟨sb, 2, none⟩ = some (i64 D.b.fall) ∧ V.cell? ⟨sb, 3, none⟩ = some (i64 D.b.clr) ∧ V.cell? ⟨sb, 4, none⟩ = some (i64 D.b.near) ∧ V.cell? ⟨sb, 5, none⟩ = some (.slice A D.stops.length c) ∧ V.cell? ⟨sb, 6, none⟩ = some (.slice B D.drills.length e) ∧ V.cell? ⟨sb, 7, none⟩ = some (.string D.log)) ∧ V.cell? ⟨sb, 8, none⟩ = some (.slice O L.length oc) ∧ V.cell? ⟨sb, 9, none⟩ = some x ∧ V.cell? ⟨sb, 10, none⟩ = some y :=
 ⟨h.bk.lt, ⟨h.bk.cell 0, h.bk.cell 1, h.bk.cell 2, h.bk.cell 3, h.bk.cell 4, h.bk.cell 5, h.bk.cell 6, h.bk.cell 7⟩, h.bk.cell 8, h.bk.cell 9, h.bk.cell 10⟩
theorem LE.said {O' : Option Addr} {oc' : Nat} {L' : List ByteArray} (h : LE w0 V sb D A B c e O oc L x y) (hg : V.grownBy V' (Value.slice O L.length oc).ownBlock)
  (ho : V'.ownsRow w0.heap.size 9 1 (.slice O' L'.length oc') L'.length (strs L')) : LE w0 (V'.setCell ⟨sb, 8, none⟩ (.slice O' L'.length oc')) sb D A B c e O' oc' L' x y := by
 have hb := h.bk.grown hg (blk_tne h.bk h.ow (by decide))
 have hu : UpX w0 sb V' := h.up.grown hg fun k hk => (h.ow.lt k hk).1
 exact ⟨hb.put 8 _, ⟨own_set1 (h.dw.1.kept hg (own_tne h.dw.1 h.ow (by decide))) hb (by decide) 8 _, own_set1 (h.dw.2.kept hg (own_tne h.dw.2 h.ow (by decide))) hb (by decide) 8 _⟩, own_set1 ho hb (by decide) 8 _, hu.set 8 _, h.lo⟩
end
def lePost (w0 : World) (sb : Nat) (D : DeskD) (L : List ByteArray) (x y : Value) (w' : World) : Prop := ∃ A B c e O oc, LE w0 w' sb D A B c e O oc L x y
theorem say_any (w0 : World) (sb : Nat) (D : DeskD) (A B : Option Addr) (c e : Nat) (O : Option Addr) (oc : Nat) (L : List ByteArray) (x y : Value) (s : ByteArray) (w : World) (h : LE w0 w sb D A B c e O oc L x y) (hn : L.length ≤ 1000000) :
  Calls Tryz.prog 47 #[.pointer (some ⟨sb, 0, none⟩), .string s] w fun r w' => r = .returned (.tuple #[]) ∧ lePost w0 sb D (L ++ [s]) x y w' := by
 have HE := hd_ h
 obtain ⟨hsb, _, k8, _, _⟩ := h.cel
 have HB := hd_ (h.below (bl_alloc (Below.refl _ _) (.cells #[.string s] 9)))
 clear h
 go_enter Tryz.func47, Tryz.ntmps47
 go_wp2_with (at_builtin; go_must (refine wpl_appW rfl _ _ rfl w0.heap.size O oc L rfl HB.out.ow s w.heap.size rfl (by simp) (by omega) HB.out.up.below.size _ rfl ?_); intro g c2 L2 W2 hL2 o2 g2 l2 hg2; have hrb2 : sb < W2.heap.size := Nat.lt_of_lt_of_le HB.out.bk.lt g2.size; have hf0 : W2.frozen? ⟨sb, 8, none⟩ = false := (HB.out.bk.grown g2 (blk_tne HB.out.bk HB.out.ow (by decide))).free 8; have hc0 : W2.cell? ⟨sb, 8, none⟩ = some (.slice O L.length oc) := (HB.out.bk.grown g2 (blk_tne HB.out.bk HB.out.ow (by decide))).cell 8)
 go_end0
 refine ⟨rfl, ?_⟩
 rw [← hL2.out]
 exact ⟨A, B, c, e, _, c2, HB.out.said g2 o2⟩
theorem errL_sum (c : Int) : ∀ V, (Op.stringOp .add (⟨#[101, 114, 114, 111, 114, 32]⟩ : ByteArray) (cnm c)).run Tryz.prog V = .ok (.string (errL c)) V := fun V => run_string_add_sum V _ _ (by
 have := cnm_size c
 have e : (⟨#[101, 114, 114, 111, 114, 32]⟩ : ByteArray).size = 6 := rfl
 omega)
theorem reportR0_any (p : Option Addr) (w : World) : Calls Tryz.prog 45 #[.pointer p, i64 0] w fun r w' => r = .returned (.bool false) ∧ w = w' := by
 go_enter Tryz.func45, Tryz.ntmps45
 go_wp2_with fail
 go_ret
 exact ⟨rfl, rfl⟩
theorem reportR_any (w0 : World) (sb : Nat) (D : DeskD) (A B : Option Addr) (c e : Nat) (O : Option Addr) (oc : Nat) (L : List ByteArray) (x y : Value) (n : Int) (w : World) (h : LE w0 w sb D A B c e O oc L x y) (hn : L.length ≤ 1000000) (hc : ¬ n = 0) :
  Calls Tryz.prog 45 #[.pointer (some ⟨sb, 0, none⟩), i64 n] w fun r w' => r = .returned (.bool true) ∧ lePost w0 sb D (L ++ [errL n]) x y w' := by
 have HE := hd_ h
 have h1 : (n == 0) = false := by rw [beq_eq_false_iff_ne]; exact hc
 have es := errL_sum n
 clear h hc
 go_enter Tryz.func45, Tryz.ntmps45
 go_wp2_with fail
 refine (codeNameS_any n _).mono ?_
 rintro r w' ⟨rfl, g1, rfl⟩
 go_wp2_with fail
 refine (say_any w0 sb D A B c e O oc L x y _ _ (HE.out.below bw_) hn).mono ?_
 rintro r w' ⟨rfl, hp⟩
 go_wp2_with fail
 go_ret
 exact ⟨rfl, hp⟩
theorem listR_any (w0 : World) (sb : Nat) (D : DeskD) (A B : Option Addr) (c e : Nat) (O : Option Addr) (oc : Nat) (L : List ByteArray) (x y : Value) (X : Option Addr) (xc : Nat) (S : List ByteArray) (w : World) (h : LE w0 w sb D A B c e O oc L x y) (hx : Rds w 1 X S.length (strs S)) (hn : L.length + S.length ≤ 900000) :
  Calls Tryz.prog 154 #[.pointer (some ⟨sb, 0, none⟩), .slice X S.length xc] w fun r w' => r = .returned (.tuple #[]) ∧ lePost w0 sb D (L ++ S ++ [okLine S.length]) x y w' := by
 have HE := hd_ h
 have HX := hd_ hx
 obtain ⟨hsb, _, k8, _, _⟩ := h.cel
 have es : ∀ V, (Op.stringOp .add (⟨#[111, 107, 32]⟩ : ByteArray) (dec (S.length : Int))).run Tryz.prog V = .ok (.string (okLine S.length)) V := fun V => run_string_add_sum V _ _ (by
  have := dec_len (n := (S.length : Int)) (by omega) (by omega)
  have e : (⟨#[111, 107, 32]⟩ : ByteArray).size = 3 := rfl
  omega)
 clear h hx
 go_enter Tryz.func154, Tryz.ntmps154
 go_upto_region 1 with (at_builtin; go_must (refine wpl_app rfl _ _ 24 rfl w0.heap.size 9 (.string ByteArray.empty) 1 16 el_str (.slice O L.length oc) L.length (strs L) rfl HE.out.ow X S.length xc (strs S) rfl HX.out (fun u hu => by simp only [strs, List.mem_map] at hu; obtain ⟨b, _, rfl⟩ := hu; rfl) (by unfold maxLen; omega) (by omega) HE.out.up.below.size ?_); intro O2 c2 W2 o2 g2; have hrb2 : sb < W2.heap.size := Nat.lt_of_lt_of_le HE.out.bk.lt g2.size; have hf0 : W2.frozen? ⟨sb, 8, none⟩ = false := (HE.out.bk.grown g2 (blk_tne HE.out.bk HE.out.ow (by decide))).free 8; have hc0 : W2.cell? ⟨sb, 8, none⟩ = some (.slice O L.length oc) := (HE.out.bk.grown g2 (blk_tne HE.out.bk HE.out.ow (by decide))).cell 8)
 obtain ⟨L2, hL2⟩ : ∃ l, L ++ S = l := ⟨_, rfl⟩
 have hl2 : L.length + S.length = L2.length := by rw [← hL2, List.length_append]
 have hs2 : strs L ++ strs S = strs L2 := by rw [← hL2]; simp [strs]
 rw [hl2, hs2] at o2
 rw [hl2]
 refine wpg (R := fun V => Hid (LE w0 V sb D A B c e O2 c2 L2 x y)) (hd_ (HE.out.said g2 o2)) (fun V HV => ?_)
 have hL3 : L2.length ≤ 1000000 := by omega
 have HL2 := hd_ hL2
 clear o2 g2 hrb2 hf0 hc0 HE HX hs2 hl2 k8 hsb hL2
 go_wp2_with fail
 refine (l01Dec_any (S.length : Int) _ (by omega) (by omega)).mono ?_
 rintro r w' ⟨rfl, g1, rfl⟩
 go_wp2_with fail
 refine (say_any w0 sb D A B c e O2 c2 L2 x y _ _ (HV.out.below bw_) hL3).mono ?_
 rintro r w' ⟨rfl, hp⟩
 go_wp2_with fail
 go_end0
 exact ⟨rfl, by rw [HL2.out]; exact hp⟩
def formK (k : Nat) : ByteArray := if k = 0 ∨ k = 9 then ⟨#[120, 120]⟩ else if k = 1 then ⟨#[110, 110, 110, 110, 110]⟩ else if k = 2 ∨ k = 3 ∨ k = 10 then ⟨#[114]⟩ else if k = 6 ∨ k = 12 then ⟨#[108]⟩
 else if k = 11 then ⟨#[110, 114]⟩ else if k = 7 then ⟨#[120, 110]⟩ else if k = 13 then ⟨#[110, 110]⟩ else if k = 5 then ⟨#[110, 120, 110]⟩ else if k = 4 ∨ k = 8 then ⟨#[]⟩ else ⟨#[45]⟩
theorem l28Form_any (s : ByteArray) (w : World) : Calls Tryz.prog 97 #[.string s] w fun e w' => e = .returned (.string (formK (kindOf s))) ∧ w = w' := by
 obtain ⟨q0, q1, q2, q3, q4, q5, q6, q7, q8, q9, q10, q11, q12, q13⟩ := kts (s := s) rfl
 have hk := kind_le s
 obtain ⟨k, hkk⟩ : ∃ k, kindOf s = k := ⟨_, rfl⟩
 rw [hkk] at hk q0 q1 q2 q3 q4 q5 q6 q7 q8 q9 q10 q11 q12 q13 ⊢
 clear hkk
 have h15 : k = 0 ∨ k = 1 ∨ k = 2 ∨ k = 3 ∨ k = 4 ∨ k = 5 ∨ k = 6 ∨ k = 7 ∨ k = 8 ∨ k = 9 ∨ k = 10 ∨ k = 11 ∨ k = 12 ∨ k = 13 ∨ k = 14 := by omega
 clear hk
 rcases h15 with rfl | rfl | rfl | rfl | rfl | rfl | rfl | rfl | rfl | rfl | rfl | rfl | rfl | rfl | rfl
 all_goals
  simp only [Nat.reduceEqDiff, eq_self, decide_true, decide_false] at q0 q1 q2 q3 q4 q5 q6 q7 q8 q9 q10 q11 q12 q13
  go_enter Tryz.func97, Tryz.ntmps97
  go_wp2_with fail
  go_ret
  exact ⟨rfl, rfl⟩
end Go.Proofs.YtbianlkenallaaaGreatDoor

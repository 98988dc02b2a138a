/-
  The reference's drawing of lines for the console: short ones without a line's end. The bounds stand at each.
-/
import Derived.Test.YtbianlkenallaaaGreatDoorDrawEntry
import Derived.Test.YtbianlkenallaaaGreatDoorDrawLog
set_option linter.all false
namespace Go.Proofs.YtbianlkenallaaaGreatDoor
open Go.RowKit
def linB (x : ByteArray) : Bool := decide (x.size ≤ 40) && x.data.toList.all (fun c => decide (c ≠ 10))
theorem linB_inv {x : ByteArray} (h : linB x = true) : x.size ≤ 40 ∧ ∀ c ∈ x.data.toList, c ≠ 10 := by
  simpa only [linB, Bool.and_eq_true, decide_eq_true_eq, List.all_eq_true] using h
def ln0 : List ByteArray := [⟨#[98, 97, 115, 107, 101, 116, 32, 51, 48, 32, 50, 32, 50, 32, 49, 32, 52]⟩, ⟨#[98, 97, 115, 107, 101, 116, 32, 52, 52, 32, 51, 32, 50, 32, 50, 32, 51]⟩, ⟨#[98, 97, 115, 107, 101, 116, 32, 49, 32, 49, 32, 49, 32, 49, 32, 49]⟩, ⟨#[98, 97, 115, 107, 101, 116, 32, 53, 32, 53, 32, 53, 32, 53]⟩, ⟨#[98, 97, 115, 107, 101, 116, 32, 54, 48, 32, 120, 32, 49, 32, 49, 32, 49]⟩, ⟨#[119, 97, 105, 116, 32, 52, 32, 53]⟩, ⟨#[119, 97, 105, 116, 32, 52, 32, 52]⟩, ⟨#[119, 97, 105, 116, 32, 52, 52, 32, 49]⟩]
theorem ln0_ok : ∀ x ∈ ln0, linB x = true := by decide
def ln1 : List ByteArray := [⟨#[102, 97, 115, 116, 32, 52, 32, 53, 32, 52]⟩, ⟨#[102, 97, 115, 116, 32, 48]⟩, ⟨#[102, 97, 115, 116, 32, 57, 57]⟩, ⟨#[102, 97, 115, 116, 32, 49, 32, 120]⟩, ⟨#[102, 97, 115, 116]⟩, ⟨#[102, 97, 115, 116, 32, 51, 32, 51, 32, 51, 32, 51]⟩]
theorem ln1_ok : ∀ x ∈ ln1, linB x = true := by decide
def ln2 : List ByteArray := [⟨#[115, 101, 116, 32, 56, 32, 97, 32, 98, 98, 32, 99]⟩, ⟨#[115, 101, 116, 32, 54, 32, 97, 32, 98, 98, 32, 99]⟩, ⟨#[115, 101, 116, 32, 53, 32, 97, 32, 98, 98, 32, 99]⟩, ⟨#[115, 101, 116, 32, 48, 32, 97]⟩, ⟨#[115, 101, 116, 32, 56, 48, 32, 32]⟩, ⟨#[115, 101, 116, 32, 57]⟩, ⟨#[115, 101, 116, 32, 120, 32, 97]⟩]
theorem ln2_ok : ∀ x ∈ ln2, linB x = true := by decide
def ln3 : List ByteArray := [⟨#[115, 116, 111, 112, 115, 32, 49, 48, 32, 50, 48]⟩, ⟨#[115, 116, 111, 112, 115, 32, 53]⟩, ⟨#[115, 116, 111, 112, 115, 32, 50, 48, 32, 49, 48]⟩, ⟨#[115, 116, 111, 112, 115, 32, 51, 49]⟩, ⟨#[115, 116, 111, 112, 115, 32, 120]⟩, ⟨#[115, 116, 111, 112, 115]⟩]
theorem ln3_ok : ∀ x ∈ ln3, linB x = true := by decide
def ln4 : List ByteArray := [⟨#[114, 111, 119, 32, 97, 32, 32, 32, 32, 32, 32, 32, 32, 32, 98]⟩, ⟨#[114, 111, 119, 32, 97, 98, 99]⟩, ⟨#[114, 111, 119, 32, 32, 32, 32, 32, 32, 120, 32, 32, 32, 32, 121]⟩, ⟨#[114, 111, 119, 32, 97, 98, 32]⟩, ⟨#[114, 111, 119]⟩, ⟨#[114, 111, 119, 32, 97, 31]⟩]
theorem ln4_ok : ∀ x ∈ ln4, linB x = true := by decide
def ln5 : List ByteArray := [⟨#[99, 111, 100, 101, 32, 97, 32, 97, 98, 32, 98]⟩, ⟨#[99, 111, 100, 101, 32, 97, 32, 98, 98]⟩, ⟨#[99, 111, 100, 101, 32, 48, 32, 48, 49, 32, 49, 49]⟩, ⟨#[99, 111, 100, 101, 32, 97, 32, 97]⟩, ⟨#[99, 111, 100, 101]⟩, ⟨#[99, 111, 100, 101, 32, 99, 99, 99, 99, 99, 99, 99, 99, 99]⟩]
theorem ln5_ok : ∀ x ∈ ln5, linB x = true := by decide
def ln6 : List ByteArray := [⟨#[97, 108, 105, 103, 110, 32, 116, 104, 101, 32, 104, 116, 101]⟩, ⟨#[97, 108, 105, 103, 110, 32, 97, 98, 99, 32]⟩, ⟨#[109, 97, 114, 107, 32, 97, 98, 99, 100, 101, 102, 32, 97, 98, 99, 100, 101, 102]⟩, ⟨#[109, 97, 114, 107, 32, 97, 98, 99, 100, 32, 97, 98, 120, 100]⟩, ⟨#[109, 97, 114, 107, 32, 32, 120]⟩, ⟨#[97, 108, 105, 103, 110, 32, 120]⟩]
theorem ln6_ok : ∀ x ∈ ln6, linB x = true := by decide
def ln7 : List ByteArray := [⟨#[100, 114, 105, 108, 108, 32, 104, 111, 109, 101, 32, 102, 106, 32, 53]⟩, ⟨#[100, 114, 105, 108, 108, 32, 116, 111, 112, 32, 114, 116, 121, 117, 32, 49, 48]⟩, ⟨#[100, 114, 105, 108, 108, 32, 120]⟩, ⟨#[100, 114, 105, 108, 108, 32, 108, 111, 119, 32, 97, 97, 32, 53]⟩, ⟨#[100, 114, 105, 108, 108, 115]⟩, ⟨#[108, 105, 110, 101, 32, 104, 111, 109, 101, 32, 57]⟩, ⟨#[108, 105, 110, 101, 32, 110, 111, 110, 101, 32, 57]⟩, ⟨#[108, 105, 110, 101, 32, 104, 111, 109, 101, 32, 48]⟩, ⟨#[108, 105, 110, 101, 32, 104, 111, 109, 101, 32, 120]⟩]
theorem ln7_ok : ∀ x ∈ ln7, linB x = true := by decide
def ln8 : List ByteArray := [⟨#[101, 110, 116, 101, 114, 32, 51, 32, 112, 97, 103, 101, 115, 32, 53, 48, 48]⟩, ⟨#[101, 110, 116, 101, 114, 32, 52, 32, 112, 97, 103, 101, 115, 32, 45, 50, 48]⟩, ⟨#[101, 110, 116, 101, 114, 32, 50, 32, 98, 101, 108, 108, 115, 32, 49]⟩, ⟨#[101, 110, 116, 101, 114, 32, 57, 32, 66, 101, 108, 108, 115, 32, 49]⟩, ⟨#[108, 111, 103]⟩, ⟨#[108, 111, 103, 32, 49]⟩, ⟨#[]⟩, ⟨#[98, 111, 111, 116]⟩]
theorem ln8_ok : ∀ x ∈ ln8, linB x = true := by decide
set_option maxRecDepth 10000 in
set_option maxHeartbeats 4000000 in
theorem l28Line_any (b : Nat) (A : Option Addr) (n c k : Nat) (w : World) (h : SrcAt w b A n c k) (hb : Byt w b A n) (hk : k ≤ 800000) (hn : n ≤ 1000000) :
    Calls Tryz.prog 25 #[.pointer (some ⟨b, 0, none⟩)] w fun e w' => ∃ (x : ByteArray) (k' : Nat), e = .returned (.string x) ∧ linB x = true ∧ k' ≤ k + 4 ∧ SrcAt w' b A n c k' ∧ w.grownBy w' (some b) := by
  have hlt := h.lt
  have HS := Lib.hid h
  have HB := Lib.hid hb
  clear h hb
  go_enter Tryz.func25, Tryz.ntmps25
  go_wp2_with fail
  refine (pick_any b A n c k 9 _ HS.out HB.out (by omega) hn (by omega)).mono ?_
  rintro e w1 ⟨x1, k1, rfl, y0, y1, hk1, hs1, hg1⟩
  have S1 := Lib.hid hs1
  have B1 := Lib.hid (HB.out.grown hg1)
  have G1 := Lib.hid hg1
  have hb1 : b < w1.heap.size := hs1.lt
  clear hs1 hg1 HS HB
  by_cases t0 : x1 = 0
  · subst t0
    go_wp2_with fail
    refine cg (R := fun V => SrcAt V b A n c k1 ∧ Byt V b A n ∧ w.grownBy V (some b) ∧ Rds V 1 (some ⟨w1.heap.size, 0, none⟩) 8 (strs ln0)) ⟨S1.out.alloc _, B1.out.alloc _, gr_alloc G1.out _, rds_newAt 1 8 rfl rfl⟩ (fun V z => ?_)
    refine (text_any b A n c k1 (some ⟨w1.heap.size, 0, none⟩) 8 ln0 V z.1 z.2.1 (by omega) hn z.2.2.2 (by decide) (by decide) (addr_ne hb1)).mono ?_
    rintro e w2 ⟨v2, k2, rfl, ⟨x, hx, rfl⟩, hk2, hs2, hg2⟩
    have hx9 := ln0_ok x hx
    have HZ := Lib.hid (grown_trans z.2.2.1 hg2)
    have HS2 := Lib.hid hs2
    clear z hs2 hg2 hx
    go_wp2_with fail
    go_ret
    exact ⟨x, k2, rfl, hx9, by omega, HS2.out, HZ.out⟩
  by_cases t1 : x1 = 1
  · subst t1
    go_wp2_with fail
    refine cg (R := fun V => SrcAt V b A n c k1 ∧ Byt V b A n ∧ w.grownBy V (some b) ∧ Rds V 1 (some ⟨w1.heap.size, 0, none⟩) 6 (strs ln1)) ⟨S1.out.alloc _, B1.out.alloc _, gr_alloc G1.out _, rds_newAt 1 6 rfl rfl⟩ (fun V z => ?_)
    refine (text_any b A n c k1 (some ⟨w1.heap.size, 0, none⟩) 6 ln1 V z.1 z.2.1 (by omega) hn z.2.2.2 (by decide) (by decide) (addr_ne hb1)).mono ?_
    rintro e w2 ⟨v2, k2, rfl, ⟨x, hx, rfl⟩, hk2, hs2, hg2⟩
    have hx9 := ln1_ok x hx
    have HZ := Lib.hid (grown_trans z.2.2.1 hg2)
    have HS2 := Lib.hid hs2
    clear z hs2 hg2 hx
    go_wp2_with fail
    go_ret
    exact ⟨x, k2, rfl, hx9, by omega, HS2.out, HZ.out⟩
  by_cases t2 : x1 = 2
  · subst t2
    go_wp2_with fail
    refine cg (R := fun V => SrcAt V b A n c k1 ∧ Byt V b A n ∧ w.grownBy V (some b) ∧ Rds V 1 (some ⟨w1.heap.size, 0, none⟩) 7 (strs ln2)) ⟨S1.out.alloc _, B1.out.alloc _, gr_alloc G1.out _, rds_newAt 1 7 rfl rfl⟩ (fun V z => ?_)
    refine (text_any b A n c k1 (some ⟨w1.heap.size, 0, none⟩) 7 ln2 V z.1 z.2.1 (by omega) hn z.2.2.2 (by decide) (by decide) (addr_ne hb1)).mono ?_
    rintro e w2 ⟨v2, k2, rfl, ⟨x, hx, rfl⟩, hk2, hs2, hg2⟩
    have hx9 := ln2_ok x hx
    have HZ := Lib.hid (grown_trans z.2.2.1 hg2)
    have HS2 := Lib.hid hs2
    clear z hs2 hg2 hx
    go_wp2_with fail
    go_ret
    exact ⟨x, k2, rfl, hx9, by omega, HS2.out, HZ.out⟩
  by_cases t3 : x1 = 3
  · subst t3
    go_wp2_with fail
    refine cg (R := fun V => SrcAt V b A n c k1 ∧ Byt V b A n ∧ w.grownBy V (some b) ∧ Rds V 1 (some ⟨w1.heap.size, 0, none⟩) 6 (strs ln3)) ⟨S1.out.alloc _, B1.out.alloc _, gr_alloc G1.out _, rds_newAt 1 6 rfl rfl⟩ (fun V z => ?_)
    refine (text_any b A n c k1 (some ⟨w1.heap.size, 0, none⟩) 6 ln3 V z.1 z.2.1 (by omega) hn z.2.2.2 (by decide) (by decide) (addr_ne hb1)).mono ?_
    rintro e w2 ⟨v2, k2, rfl, ⟨x, hx, rfl⟩, hk2, hs2, hg2⟩
    have hx9 := ln3_ok x hx
    have HZ := Lib.hid (grown_trans z.2.2.1 hg2)
    have HS2 := Lib.hid hs2
    clear z hs2 hg2 hx
    go_wp2_with fail
    go_ret
    exact ⟨x, k2, rfl, hx9, by omega, HS2.out, HZ.out⟩
  by_cases t4 : x1 = 4
  · subst t4
    go_wp2_with fail
    refine cg (R := fun V => SrcAt V b A n c k1 ∧ Byt V b A n ∧ w.grownBy V (some b) ∧ Rds V 1 (some ⟨w1.heap.size, 0, none⟩) 6 (strs ln4)) ⟨S1.out.alloc _, B1.out.alloc _, gr_alloc G1.out _, rds_newAt 1 6 rfl rfl⟩ (fun V z => ?_)
    refine (text_any b A n c k1 (some ⟨w1.heap.size, 0, none⟩) 6 ln4 V z.1 z.2.1 (by omega) hn z.2.2.2 (by decide) (by decide) (addr_ne hb1)).mono ?_
    rintro e w2 ⟨v2, k2, rfl, ⟨x, hx, rfl⟩, hk2, hs2, hg2⟩
    have hx9 := ln4_ok x hx
    have HZ := Lib.hid (grown_trans z.2.2.1 hg2)
    have HS2 := Lib.hid hs2
    clear z hs2 hg2 hx
    go_wp2_with fail
    go_ret
    exact ⟨x, k2, rfl, hx9, by omega, HS2.out, HZ.out⟩
  by_cases t5 : x1 = 5
  · subst t5
    go_wp2_with fail
    refine cg (R := fun V => SrcAt V b A n c k1 ∧ Byt V b A n ∧ w.grownBy V (some b) ∧ Rds V 1 (some ⟨w1.heap.size, 0, none⟩) 6 (strs ln5)) ⟨S1.out.alloc _, B1.out.alloc _, gr_alloc G1.out _, rds_newAt 1 6 rfl rfl⟩ (fun V z => ?_)
    refine (text_any b A n c k1 (some ⟨w1.heap.size, 0, none⟩) 6 ln5 V z.1 z.2.1 (by omega) hn z.2.2.2 (by decide) (by decide) (addr_ne hb1)).mono ?_
    rintro e w2 ⟨v2, k2, rfl, ⟨x, hx, rfl⟩, hk2, hs2, hg2⟩
    have hx9 := ln5_ok x hx
    have HZ := Lib.hid (grown_trans z.2.2.1 hg2)
    have HS2 := Lib.hid hs2
    clear z hs2 hg2 hx
    go_wp2_with fail
    go_ret
    exact ⟨x, k2, rfl, hx9, by omega, HS2.out, HZ.out⟩
  by_cases t6 : x1 = 6
  · subst t6
    go_wp2_with fail
    refine cg (R := fun V => SrcAt V b A n c k1 ∧ Byt V b A n ∧ w.grownBy V (some b) ∧ Rds V 1 (some ⟨w1.heap.size, 0, none⟩) 6 (strs ln6)) ⟨S1.out.alloc _, B1.out.alloc _, gr_alloc G1.out _, rds_newAt 1 6 rfl rfl⟩ (fun V z => ?_)
    refine (text_any b A n c k1 (some ⟨w1.heap.size, 0, none⟩) 6 ln6 V z.1 z.2.1 (by omega) hn z.2.2.2 (by decide) (by decide) (addr_ne hb1)).mono ?_
    rintro e w2 ⟨v2, k2, rfl, ⟨x, hx, rfl⟩, hk2, hs2, hg2⟩
    have hx9 := ln6_ok x hx
    have HZ := Lib.hid (grown_trans z.2.2.1 hg2)
    have HS2 := Lib.hid hs2
    clear z hs2 hg2 hx
    go_wp2_with fail
    go_ret
    exact ⟨x, k2, rfl, hx9, by omega, HS2.out, HZ.out⟩
  by_cases t7 : x1 = 7
  · subst t7
    go_wp2_with fail
    refine cg (R := fun V => SrcAt V b A n c k1 ∧ Byt V b A n ∧ w.grownBy V (some b) ∧ Rds V 1 (some ⟨w1.heap.size, 0, none⟩) 9 (strs ln7)) ⟨S1.out.alloc _, B1.out.alloc _, gr_alloc G1.out _, rds_newAt 1 9 rfl rfl⟩ (fun V z => ?_)
    refine (text_any b A n c k1 (some ⟨w1.heap.size, 0, none⟩) 9 ln7 V z.1 z.2.1 (by omega) hn z.2.2.2 (by decide) (by decide) (addr_ne hb1)).mono ?_
    rintro e w2 ⟨v2, k2, rfl, ⟨x, hx, rfl⟩, hk2, hs2, hg2⟩
    have hx9 := ln7_ok x hx
    have HZ := Lib.hid (grown_trans z.2.2.1 hg2)
    have HS2 := Lib.hid hs2
    clear z hs2 hg2 hx
    go_wp2_with fail
    go_ret
    exact ⟨x, k2, rfl, hx9, by omega, HS2.out, HZ.out⟩
  have u0 : (x1 == 0) = false := by rw [beq_eq_false_iff_ne]; exact t0
  have u1 : (x1 == 1) = false := by rw [beq_eq_false_iff_ne]; exact t1
  have u2 : (x1 == 2) = false := by rw [beq_eq_false_iff_ne]; exact t2
  have u3 : (x1 == 3) = false := by rw [beq_eq_false_iff_ne]; exact t3
  have u4 : (x1 == 4) = false := by rw [beq_eq_false_iff_ne]; exact t4
  have u5 : (x1 == 5) = false := by rw [beq_eq_false_iff_ne]; exact t5
  have u6 : (x1 == 6) = false := by rw [beq_eq_false_iff_ne]; exact t6
  have u7 : (x1 == 7) = false := by rw [beq_eq_false_iff_ne]; exact t7
  go_wp2_with fail
  refine cg (R := fun V => SrcAt V b A n c k1 ∧ Byt V b A n ∧ w.grownBy V (some b) ∧ Rds V 1 (some ⟨w1.heap.size, 0, none⟩) 8 (strs ln8)) ⟨S1.out.alloc _, B1.out.alloc _, gr_alloc G1.out _, rds_newAt 1 8 rfl rfl⟩ (fun V z => ?_)
  refine (text_any b A n c k1 (some ⟨w1.heap.size, 0, none⟩) 8 ln8 V z.1 z.2.1 (by omega) hn z.2.2.2 (by decide) (by decide) (addr_ne hb1)).mono ?_
  rintro e w2 ⟨v2, k2, rfl, ⟨x, hx, rfl⟩, hk2, hs2, hg2⟩
  have hx9 := ln8_ok x hx
  have HZ := Lib.hid (grown_trans z.2.2.1 hg2)
  have HS2 := Lib.hid hs2
  clear z hs2 hg2 hx
  go_wp2_with fail
  go_ret
  exact ⟨x, k2, rfl, hx9, by omega, HS2.out, HZ.out⟩
set_option maxRecDepth 10000 in
set_option maxHeartbeats 4000000 in
theorem a2Lines_any (A : Option Addr) (n c : Nat) (zs : List Int) (w0 : World) (hz : ∀ z ∈ zs, 0 ≤ z ∧ z ≤ 255) (h : Rds w0 1 A n (bytes zs)) (hn : n ≤ 3000) :
    Calls Tryz.prog 7 #[.slice A n c] w0 fun e w' => ∃ (l : List ByteArray) (A' : Option Addr) (c' : Nat), e = .returned (.slice A' l.length c') ∧ w'.ownsRow w0.heap.size 9 1 (.slice A' l.length c') l.length (strs l) ∧ (∀ x ∈ l, linB x = true) ∧ l.length ≤ 8 ∧ UpOf w0 w' := by
  have HR := Lib.hid h
  clear h
  go_enter Tryz.func7, Tryz.ntmps7
  go_wp2_with fail
  refine (l00From_any A n c _).mono ?_
  rintro e w ⟨rfl, hw⟩
  have hs0 := src_new w0 A n c
  have hb0 := byt_new hz HR.out (.cells #[.slice A n c, .int .i64 0, .int .u64 0] 95)
  have hu0 : UpOf w0 (w0.alloc (.cells #[.slice A n c, .int .i64 0, .int .u64 0] 95)) := UpOf.of (BL.o (by repeat constructor))
  have hlt : w0.heap.size < (w0.alloc (.cells #[.slice A n c, .int .i64 0, .int .u64 0] 95)).heap.size := by simp
  rw [← hw] at hs0 hb0 hu0 hlt
  have HS := Lib.hid hs0
  have HB := Lib.hid hb0
  have HU := Lib.hid hu0
  have hle : w0.heap.size ≤ w.heap.size := by omega
  clear hw hs0 hb0 hu0 hz HR
  obtain ⟨b, hb⟩ : ∃ b, w0.heap.size = b := ⟨_, rfl⟩
  rw [hb] at HS HB hlt hle ⊢
  have hOwn := Lib.hid (World.ownsRow_lit (base := w.heap.size) (e := 9) (size := 1) w #[] 0 (Nat.le_refl _) (by unfold maxLen; omega) rfl)
  go_wp2_with fail
  refine (pick_any b A n c 0 9 _ (HS.out.alloc _) (HB.out.alloc _) (by omega) (by omega) (by omega)).mono ?_
  rintro e w1 ⟨x, k1, rfl, y0, y1, hk1, hs1, hg1⟩
  obtain ⟨j0, rfl⟩ : ∃ j : Nat, x = (j : Int) := ⟨x.toNat, by omega⟩
  have hj0 : j0 ≤ 8 := by omega
  have S1 := Lib.hid hs1
  have B1 := Lib.hid ((HB.out.alloc _).grown hg1)
  have O1 := Lib.hid (hOwn.out.kept hg1 (.inr (fun e => by injection e with e; exact absurd e.symm (Nat.ne_of_lt hlt))))
  have G1 := Lib.hid (show w.grownBy w1 (some b) from grown_trans (gr_alloc (grown_refl w _) _) hg1)
  clear hs1 hg1 y1 y0
  go_wp2_with fail
  go_loopw [4, 5] (fun o kk wr => ∃ (l : List ByteArray) (A' : Option Addr) (c' j k' : Nat), kk = i64 j ∧ o = .slice A' l.length c' ∧ Hid (∀ x ∈ l, linB x = true) ∧ l.length + j ≤ 8 ∧ k' + 4 * j ≤ 100 ∧ SrcAt wr b A n c k' ∧ Byt wr b A n ∧ wr.ownsRow w.heap.size 9 1 (.slice A' l.length c') l.length (strs l) ∧ w.grownBy wr (some b)) (fun _ kk _ => (intOf kk).toNat)
  case atStart => exact ⟨[], _, _, j0, k1, rfl, rfl, fun x hx => by simp at hx, by simp; omega, by omega, S1.out, B1.out, O1.out, G1.out⟩
  case round =>
    obtain ⟨l, A', c', j, k', rfl, rfl, hva, hlj, hkj, hs, hbt, hown, hgr⟩ := hrel
    have HSR := Lib.hid hs
    have HBT := Lib.hid hbt
    have HOWN := Lib.hid hown
    have HGR := Lib.hid hgr
    clear hs hbt hown hgr
    by_cases hj : 0 < j
    · have hj' : (0 : Int) < (j : Int) := by omega
      go_wp2_with fail
      refine (l28Line_any b A n c k' wr HSR.out HBT.out (by omega) (by omega)).mono ?_
      rintro e w2 ⟨x, k2, rfl, hx, hk2, hs2, hg2⟩
      have S2 := Lib.hid hs2
      have B2 := Lib.hid (HBT.out.grown hg2)
      have O2 := Lib.hid (HOWN.out.kept hg2 (by cases hv : (Value.slice A' l.length c').ownBlock with | none => exact .inl rfl | some q => exact .inr (fun e => by injection e with e; have := (HOWN.out.lt q hv).1; omega)))
      have G2 := Lib.hid (grown_trans HGR.out hg2)
      clear hs2 hg2 HSR HBT HOWN HGR
      have hbs : w.heap.size ≤ w2.heap.size := G2.out.size
      have hb1 : (w2.alloc (.cells #[.string x] 9)).ownsRow w.heap.size 9 1 (.slice A' l.length c') l.length (strs l) := own_below O2.out (BL.o (by repeat constructor))
      have hb2 : w.heap.size ≤ (w2.alloc (.cells #[.string x] 9)).heap.size := by simp; omega
      go_wp2_with (at_builtin; refine wpl_app rfl _ _ 24 rfl w.heap.size 9 (.string ByteArray.empty) 1 16 el_str (.slice A' l.length c') l.length (strs l) rfl hb1 (some ⟨w2.heap.size, 0, none⟩) 1 1 [.string x] rfl (rds_new _ #[.string x] _ 1 1 rfl) (fun u hu => by simp at hu; subst hu; rfl) (by unfold maxLen; omega) (by omega) hb2 ?_; intro A2 c2 W2 o2 hgr2)
      go_roundw
      case rel => exact ⟨l ++ [x], A2, c2, j - 1, k2, by go_num, by rw [List.length_append]; rfl, fun y hy => by
          rw [List.mem_append, List.mem_singleton] at hy
          rcases hy with hy | rfl
          · exact hva.out y hy
          · exact hx, by rw [List.length_append, List.length_singleton]; omega, by omega,
        (S2.out.alloc _).kept hgr2 (fun e => absurd (O2.out.lt _ e.symm).1 (by omega)),
        (B2.out.alloc _).kept hgr2 (fun j hj => by have := (O2.out.lt j hj).1; omega),
        by rw [List.length_append]; simpa [strs] using o2, gr_far (gr_alloc G2.out _) hgr2 (fun j hj => (O2.out.lt j hj).1)⟩
      case measure => (simp [intOf]; try omega)
    · obtain rfl : j = 0 := by omega
      go_wp2_with fail
      go_ret
      exact ⟨l, A', c', rfl, own_mono HOWN.out (by omega), hva.out, by omega, up_of_grown (W := w0) HU.out.below HGR.out (fun k hk => by injection hk with hk; omega)⟩
end Go.Proofs.YtbianlkenallaaaGreatDoor

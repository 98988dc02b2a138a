/-
  The reference's source of choices: what 'next' and 'pick' hand back, whatever bytes they read. The bounds stand at each.
-/
import Derived.Test.YtbianlkenallaaaGreatDoorRows
import Derived.Test.YtbianlkenallaaaGreatDoorMgA
set_option linter.all false
namespace Go.Proofs.YtbianlkenallaaaGreatDoor
open Go.RowKit

/-- block b holds a source over n bytes at A, of which so many have been asked for -/
def SrcAt (w : World) (b : Nat) (A : Option Addr) (n c k : Nat) : Prop :=
  ∃ seed : Int, 0 ≤ seed ∧ seed ≤ 18446744073709551615 ∧ Blk w b 95 #[.slice A n c, .int .i64 k, .int .u64 seed]
def bytes (zs : List Int) : List Value := zs.map (Value.int .u8)
/-- A is n bytes, not in block b -/
def Byt (w : World) (b : Nat) (A : Option Addr) (n : Nat) : Prop :=
  ∃ zs : List Int, (∀ z ∈ zs, 0 ≤ z ∧ z ≤ 255) ∧ Rds w 1 A n (bytes zs) ∧ (0 < n → ∀ b' off, A = some ⟨b', off, none⟩ → b' < b)
theorem wrap_u64 (x : Int) : 0 ≤ IntKind.u64.wrap x ∧ IntKind.u64.wrap x ≤ 18446744073709551615 := by
  rw [IntKind.wrap_u64]; omega
theorem low_byte (x : Int) (h0 : 0 ≤ x) (h1 : x ≤ 18446744073709551615) : 0 ≤ wrap64 (bits BinOp.and IntKind.u64 (x / 1099511627776) 255) ∧ wrap64 (bits BinOp.and IntKind.u64 (x / 1099511627776) 255) ≤ 255 := by
  obtain ⟨y, hy⟩ := Int.eq_ofNat_of_zero_le (a := x / 1099511627776) (by omega)
  rw [hy, show (255 : Int) = ((255 : Nat) : Int) from rfl, bits_and_u64_nat y 255 (by omega) (by omega)]
  have : y &&& 255 ≤ 255 := Nat.and_le_right
  unfold wrap64
  omega
def NextPost (w : World) (b : Nat) (A : Option Addr) (n c k : Nat) (e : Ending) (w' : World) : Prop :=
  ∃ x : Int, e = .returned (.int .i64 x) ∧ 0 ≤ x ∧ x ≤ 255 ∧ SrcAt w' b A n c (k + 1) ∧ w.grownBy w' (some b)
set_option maxRecDepth 10000 in
theorem srcNext_any (b : Nat) (A : Option Addr) (n c k : Nat) (w : World) (h : SrcAt w b A n c k) (hb : Byt w b A n) (hk : k ≤ 1000000) (hn : n ≤ 1000000) :
    Calls Tryz.prog 63 #[.pointer (some ⟨b, 0, none⟩)] w (NextPost w b A n c k) := by
  obtain ⟨seed, s0, s1, hh⟩ := h
  have c0 : w.cell? ⟨b, 0, none⟩ = some (.slice A n c) := by rw [hh.cell]; rfl
  have c1 : w.cell? ⟨b, 1, none⟩ = some (.int .i64 k) := by rw [hh.cell]; rfl
  have c2 : w.cell? ⟨b, 2, none⟩ = some (.int .u64 seed) := by rw [hh.cell]; rfl
  have f1 : w.frozen? ⟨b, 1, none⟩ = false := hh.free _
  have f2 : w.frozen? ⟨b, 2, none⟩ = false := hh.free _
  have hbw : b < w.heap.size := hh.lt
  by_cases hlt : k < n
  · obtain ⟨zs, hz, hr, hne⟩ := hb
    obtain ⟨b', off, rfl, hb', hc⟩ := hr.at (by omega)
    have hl := hr.1
    simp only [bytes, List.length_map, Nat.mul_one] at hl
    have c3 : w.cell? ⟨b', off + k, none⟩ = some (.int .u8 zs[k]) := hc k _ (by simp [bytes])
    have hz' := hz zs[k] (List.getElem_mem _)
    have hbb := Nat.ne_of_lt (hne (by omega) b' off rfl)
    generalize zs[k] = z at *
    have HH := Lib.hid hh
    clear hc hr hz hl hh hne
    go_enter Tryz.func63, Tryz.ntmps63
    go_wp2_with (first | ((with_reducible refine wp_region_up (by kernel_rfl) (by kernel_rfl) ?_); (repeat (go_big_quiet_step (fail))); refine wpQuiet_nil ?_; intro _ hw'; obtain ⟨nq, hw''⟩ := hw'; subst hw''))
    go_ret
    refine ⟨z, rfl, hz'.1, hz'.2, ?_, ?_⟩
    · exact ⟨_, (wrap_u64 _).1, (wrap_u64 _).2, by simpa using (((HH.out.up _).put 1 _).put 2 _).up nq⟩
    · exact grown_trans (grown_up _ _) (grown_trans (grown_put _ _ _ _) (grown_trans (grown_put _ _ _ _) (grown_up nq _)))
  · have HH := Lib.hid hh
    clear hh hb
    go_enter Tryz.func63, Tryz.ntmps63
    go_wp2_with (first | ((with_reducible refine wp_region_up (by kernel_rfl) (by kernel_rfl) ?_); (repeat (go_big_quiet_step (fail))); refine wpQuiet_nil ?_; intro _ hw'; obtain ⟨nq, hw''⟩ := hw'; subst hw''))
    go_ret
    exact ⟨_, rfl, (low_byte _ (wrap_u64 _).1 (wrap_u64 _).2).1, (low_byte _ (wrap_u64 _).1 (wrap_u64 _).2).2, ⟨_, (wrap_u64 _).1, (wrap_u64 _).2, by simpa using (((HH.out.up _).put 1 _).put 2 _).up nq⟩,
      grown_trans (grown_up _ _) (grown_trans (grown_put _ _ _ _) (grown_trans (grown_put _ _ _ _) (grown_up nq _)))⟩

theorem SrcAt.alloc {w : World} {b n c k : Nat} {A : Option Addr} (h : SrcAt w b A n c k) (o : Obj) : SrcAt (w.alloc o) b A n c k := by
  obtain ⟨s, h0, h1, hB⟩ := h
  exact ⟨s, h0, h1, hB.alloc o⟩
theorem SrcAt.lt {w : World} {b n c k : Nat} {A : Option Addr} (h : SrcAt w b A n c k) : b < w.heap.size := by
  obtain ⟨s, h0, h1, hB⟩ := h
  exact hB.lt
theorem Byt.alloc {w : World} {b n : Nat} {A : Option Addr} (h : Byt w b A n) (o : Obj) : Byt (w.alloc o) b A n := by
  obtain ⟨zs, h1, h2, h3⟩ := h
  exact ⟨zs, h1, h2.alloc o, h3⟩
theorem l00From_any (A : Option Addr) (n c : Nat) (w : World) :
    Calls Tryz.prog 23 #[.slice A n c] w fun e w' => e = .returned (.pointer (some ⟨w.heap.size, 0, none⟩)) ∧ w' = w.alloc (.cells #[.slice A n c, .int .i64 0, .int .u64 0] 95) := by
  go_enter Tryz.func23, Tryz.ntmps23
  go_wp2_with (first | ((with_reducible refine wp_region_up (by kernel_rfl) (by kernel_rfl) ?_); (repeat (go_big_quiet_step (fail))); refine wpQuiet_nil ?_; intro _ hw'; obtain ⟨nq, hw''⟩ := hw'; subst hw''))
  go_ret
  exact ⟨rfl, rfl⟩
theorem src_new (w : World) (A : Option Addr) (n c : Nat) : SrcAt (w.alloc (.cells #[.slice A n c, .int .i64 0, .int .u64 0] 95)) w.heap.size A n c 0 := ⟨0, by omega, by omega, Blk.new _ _ _⟩
theorem byt_new {w : World} {A : Option Addr} {n : Nat} {zs : List Int} (hz : ∀ z ∈ zs, 0 ≤ z ∧ z ≤ 255) (h : Rds w 1 A n (bytes zs)) (o : Obj) : Byt (w.alloc o) w.heap.size A n :=
  ⟨zs, hz, h.alloc o, fun hn b' off e => by
    obtain ⟨b1, o1, e1, hb, _⟩ := h.at (by omega)
    rw [e] at e1
    injection e1 with e1
    injection e1 with e1 _
    omega⟩
/-- a number from 0 to n - 1, 0 where n is 1 or less -/
def PickPost (w : World) (b : Nat) (A : Option Addr) (n c k : Nat) (m : Int) (e : Ending) (w' : World) : Prop :=
  ∃ (x : Int) (k' : Nat), e = .returned (.int .i64 x) ∧ 0 ≤ x ∧ (x < m ∨ x = 0) ∧ k' ≤ k + 2 ∧ SrcAt w' b A n c k' ∧ w.grownBy w' (some b)
theorem Byt.grown {w w' : World} {b n : Nat} {A : Option Addr} (h : Byt w b A n) (hg : w.grownBy w' (some b)) : Byt w' b A n := by
  obtain ⟨zs, h1, h2, h3⟩ := h
  exact ⟨zs, h1, h2.grown hg (fun hn b' off hA he => Nat.ne_of_lt (h3 (by omega) b' off hA) (by injection he)), h3⟩
set_option maxRecDepth 10000 in
theorem pick_any (b : Nat) (A : Option Addr) (n c k : Nat) (m : Int) (w : World) (h : SrcAt w b A n c k) (hb : Byt w b A n) (hk : k ≤ 900000) (hn : n ≤ 1000000) (hm : m ≤ 1000000) :
    Calls Tryz.prog 24 #[.pointer (some ⟨b, 0, none⟩), .int .i64 m] w (PickPost w b A n c k m) := by
  by_cases h1 : m ≤ 1
  · go_enter Tryz.func24, Tryz.ntmps24
    go_wp2_with (first | ((with_reducible refine wp_region_up (by kernel_rfl) (by kernel_rfl) ?_); (repeat (go_big_quiet_step (fail))); refine wpQuiet_nil ?_; intro _ hw'; obtain ⟨nq, hw''⟩ := hw'; subst hw''))
    go_ret
    exact ⟨0, k, rfl, by omega, .inr rfl, by omega, h, grown_refl _ _⟩
  · by_cases h2 : m ≤ 200
    · go_enter Tryz.func24, Tryz.ntmps24
      go_wp2_with fail
      refine (srcNext_any b A n c k _ h hb (by omega) hn).mono ?_
      rintro e w1 ⟨x, rfl, x0, x1, hs, hg⟩
      go_wp2_with fail
      go_ret
      exact ⟨x % m, k + 1, rfl, Int.emod_nonneg _ (by omega), .inl (Int.emod_lt_of_pos _ (by omega)), by omega, hs, hg⟩
    · go_enter Tryz.func24, Tryz.ntmps24
      go_wp2_with fail
      refine (srcNext_any b A n c k _ h hb (by omega) hn).mono ?_
      rintro e w1 ⟨x, rfl, x0, x1, hs, hg⟩
      go_wp2_with fail
      refine (srcNext_any b A n c (k + 1) _ hs (hb.grown hg) (by omega) hn).mono ?_
      rintro e w2 ⟨y, rfl, y0, y1, hs2, hg2⟩
      go_wp2_with fail
      go_ret
      exact ⟨(x * 256 + y) % m, k + 2, rfl, Int.emod_nonneg _ (by omega), .inl (Int.emod_lt_of_pos _ (by omega)), by omega, hs2, grown_trans hg hg2⟩
end Go.Proofs.YtbianlkenallaaaGreatDoor

/-
  The texts that the laws' marks are: the law's own markText. The bounds stand at it.
-/
import Derived.Test.YtiibpldfnnhhlaaRows
import Derived.Test.YtiibpldfnnhhlaaSlices
namespace Go.Proofs.Ytiibpldfnnhhlaa
open Go.RowKit
/-- the letters of a mark's number, before those that are there -/
def mtGo : Nat → Int → ByteArray → ByteArray
  | 0, _, s => s
  | f + 1, n, s => if 0 < n then mtGo f (n / 10) (⟨#[UInt8.ofNat (48 + n % 10).toNat]⟩ ++ s) else s
def mt (k : Int) : ByteArray := if k ≤ 0 then ⟨#[109, 48]⟩ else ⟨#[109]⟩ ++ mtGo 9 k ⟨#[]⟩
def pow10 : Nat → Int
  | 0 => 1
  | f + 1 => 10 * pow10 f
theorem pow10_pos (f : Nat) : 1 ≤ pow10 f := by induction f with
  | zero => simp [pow10]
  | succ f ih => simp only [pow10]; omega

theorem mtGo_end {f : Nat} {n : Int} {s : ByteArray} (h : ¬ 0 < n) : mtGo f n s = s := by
  cases f with
  | zero => rfl
  | succ f => rw [mtGo, if_neg h]
set_option maxRecDepth 10000 in
theorem markText_any (k : Int) (w : World) (h0 : 1 ≤ k) (h1 : k < 1000000000) :
    Calls Try.prog 72 #[.int .i64 k] w fun e w' => e = .returned (.string (mt k)) ∧ UpOf w w' := by
  have hmt : Hid (mt k = ⟨#[109]⟩ ++ mtGo 9 k ⟨#[]⟩) := by unfold mt; rw [if_neg (by omega)]; rfl
  have hkc := fun (g : Up w) (x : Int) => conv_one (P := Try.prog) (up w g) 60 5 9 Try.underlying60 Try.underlying5 Try.underlying9 x
  simp only [alloc_up] at hkc
  go_enter Try.func72, Try.ntmps72
  go_wp2_with (first | ((with_reducible refine wp_region_up (by kernel_rfl) (by kernel_rfl) ?_); (repeat (go_big_quiet_step (fail))); refine wpQuiet_nil ?_; intro _ hw'; obtain ⟨nq, hw''⟩ := hw'; subst hw''))
  go_loopw [0, 3] (fun kk out wr => ∃ (f : Nat) (n : Int) (s : ByteArray), f ≤ 9 ∧ 0 ≤ n ∧ n < 1000000000 ∧ Hid (n < pow10 f) ∧ s.size + f ≤ 9 ∧ kk = .int .i64 n ∧ out = .string s ∧ Hid (mt k = ⟨#[109]⟩ ++ mtGo f n s) ∧ ∃ g : Up w, wr = up w g) (fun kk _ _ => (intOf kk).toNat)
  case atStart => exact ⟨9, k, ⟨#[]⟩, by omega, by omega, by omega, by show k < pow10 9; simp [pow10]; omega, by decide, rfl, rfl, hmt, ⟨w, Below.refl _ _⟩, rfl⟩
  case round =>
    obtain ⟨f, n, s, hf, hn0, hn1, hp, hs, rfl, rfl, he, g, rfl⟩ := hrel
    by_cases hn : 0 < n
    · go_wp2_with (first | ((with_reducible refine wp_region_up (by kernel_rfl) (by kernel_rfl) ?_); (repeat (go_big_quiet_step (fail))); refine wpQuiet_nil ?_; intro _ hw'; obtain ⟨nq, hw''⟩ := hw'; subst hw''))
      all_goals go_roundw
      case rel =>
        go_light
        obtain ⟨f, rfl⟩ : ∃ f', f = f' + 1 := by
          cases f with
          | zero => have := hp.out; simp [pow10] at this; omega
          | succ f => exact ⟨f, rfl⟩
        refine ⟨f, n / 10, _, by omega, by omega, by omega, ?_, ?_, rfl, rfl, ?_, _, rfl⟩
        · have := hp.out
          simp only [pow10] at this
          show n / 10 < pow10 f
          omega
        · simp only [ByteArray.size_append', ByteArray.size_mk']
          simp
          omega
        · have := he.out
          rw [mtGo, if_pos hn] at this
          exact this
      case measure => simp [intOf]; omega
    · go_wp2_with (first | ((with_reducible refine wp_region_up (by kernel_rfl) (by kernel_rfl) ?_); (repeat (go_big_quiet_step (fail))); refine wpQuiet_nil ?_; intro _ hw'; obtain ⟨nq, hw''⟩ := hw'; subst hw''))
      go_ret
      refine ⟨?_, UpOf.of (by repeat (first | exact Below.refl _ _ | refine bl_tr ?_ _ | refine bl_al ?_ _ | refine bl_dr ?_ | refine bl_up ?_ _ | refine Below.drew ?_ | refine bl_alloc ?_ _ | refine Below.setCell ?_ (by first | (simp; done) | (simp; omega)) _))⟩
      rw [he.out, mtGo_end (by omega)]
      rfl
end Go.Proofs.Ytiibpldfnnhhlaa

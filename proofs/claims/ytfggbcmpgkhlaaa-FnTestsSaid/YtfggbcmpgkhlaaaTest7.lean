/-
  RunTests, of the program and of the reference. The bounds stand at each.
-/
import Derived.Test.YtfggbcmpgkhlaaaTest6
import Derived.Test.YtfggbcmpgkhlaaaStrApp
namespace Go.Proofs.Ytfggbcmpgkhlaaa
open Go.RowKit
def rep (n : Nat) : List UInt8 := List.replicate n 63
theorem rep_len (n : Nat) : (rep n).length = n := List.length_replicate
theorem rep_step (n : Nat) : rep n ++ (⟨#[63]⟩ : ByteArray).data.toList = rep (n + 1) := by
  show List.replicate n 63 ++ [63] = List.replicate (n + 1) 63
  rw [List.replicate_succ']
/-- n answers that are not known yet -/
def qs (n : Nat) : ByteArray := ⟨(rep n).toArray⟩
theorem qs_list (n : Nat) : (qs n).data.toList = List.replicate n 63 := by simp [qs, rep]
theorem qs_size (n : Nat) : (qs n).size = n := by rw [← bsz, qs_list, List.length_replicate]
set_option maxRecDepth 10000 in
theorem repeat_any (n : Nat) (w : World) (hn : n ≤ 1000000) :
    Calls Try.prog 41 #[.string ⟨#[63]⟩, i64 n] w fun e w' => e = .returned (.string (qs n)) ∧ UpOf w w' := by
  have hOwn := Lib.hid (World.ownsRow_lit (base := w.heap.size) (e := 5) (size := 1) w #[] 0 (Nat.le_refl _) (by unfold maxLen; omega) rfl)
  have hmx : max (n : Int) 0 = n := by omega
  go_enter Try.func41, Try.ntmps41
  go_wp2_with (first | ((with_reducible refine wp_region_up (by kernel_rfl) (by kernel_rfl) ?_); (repeat (go_big_quiet_step (fail))); refine wpQuiet_nil ?_; intro _ hw'; obtain ⟨nq, hw''⟩ := hw'; subst hw''))
  go_loopw [5, 9] (fun v i wr => ∃ k : Nat, k ≤ n ∧ i = i64 k ∧ ∃ A c, v = .slice A (rep k).length c ∧ wr.ownsRow w.heap.size 5 1 (.slice A (rep k).length c) (rep k).length (Lib.byteCells (rep k)) ∧ ∃ g : Up w, wr = up w g) (fun _ i _ => n - (intOf i).toNat)
  case atStart => exact ⟨0, by omega, rfl, _, _, rfl, hOwn.out, ex_up (by repeat (first | exact Below.refl _ _ | refine bl_tr ?_ _ | refine bl_al ?_ _ | refine bl_dr ?_ | refine bl_up ?_ _ | refine Below.drew ?_ | refine bl_alloc ?_ _ | refine Below.setCell ?_ (by first | (simp; done) | (simp; omega)) _))⟩
  case round =>
    obtain ⟨k, hk, rfl, A, c, rfl, hown, g, rfl⟩ := hrel
    have hrl := Lib.hid (rep_len k)
    by_cases hlt : k < n
    · have HO := Lib.hid hown
      clear hown
      go_wp2_with (first | (at_builtin; refine wpl_appS rfl _ _ 22 9 rfl w w.heap.size 5 el_byte Try.underlying9 A c (rep k) rfl (own_below HO.out (by repeat (first | exact Below.refl _ _ | refine bl_tr ?_ _ | refine bl_al ?_ _ | refine bl_dr ?_ | refine bl_up ?_ _ | refine Below.drew ?_ | refine bl_alloc ?_ _ | refine Below.setCell ?_ (by first | (simp; done) | (simp; omega)) _))) ⟨#[63]⟩ rfl (by rw [hrl.out]; show k + 1 ≤ _; omega) (up_below w _).size (by repeat (first | exact Below.refl _ _ | refine bl_tr ?_ _ | refine bl_al ?_ _ | refine bl_dr ?_ | refine bl_up ?_ _ | refine Below.drew ?_ | refine bl_alloc ?_ _ | refine Below.setCell ?_ (by first | (simp; done) | (simp; omega)) _)) (Nat.le_refl _) ?_; intro A2 c2 g2 o2) | ((with_reducible refine wp_region_up (by kernel_rfl) (by kernel_rfl) ?_); (repeat (go_big_quiet_step (fail))); refine wpQuiet_nil ?_; intro _ hw'; obtain ⟨nq, hw''⟩ := hw'; subst hw''))
      go_roundw
      case rel => exact ⟨k + 1, by omega, by go_num, A2, c2, congrArg (fun n => Value.slice A2 n c2) (by simp [rep_len]), by rw [rep_step] at o2; exact o2, _, rfl⟩
      case measure => (simp [intOf]; try omega)
    · obtain rfl : k = n := by omega
      have hcv := conv_own hown rfl (Below.refl _ _)
      go_wp2_with (first | ((with_reducible refine wp_region_up (by kernel_rfl) (by kernel_rfl) ?_); (repeat (go_big_quiet_step (fail))); refine wpQuiet_nil ?_; intro _ hw'; obtain ⟨nq, hw''⟩ := hw'; subst hw''))
      go_ret
      exact ⟨rfl, UpOf.of (by repeat (first | exact Below.refl _ _ | refine bl_tr ?_ _ | refine bl_al ?_ _ | refine bl_dr ?_ | refine bl_up ?_ _ | refine Below.drew ?_ | refine bl_alloc ?_ _ | refine Below.setCell ?_ (by first | (simp; done) | (simp; omega)) _))⟩
theorem cut6 (n : Nat) (hn : n ≤ 6) : (⟨#[63, 63, 63, 63, 63, 63]⟩ : ByteArray).extract 0 n = qs n := by
  rcases (show n = 0 ∨ n = 1 ∨ n = 2 ∨ n = 3 ∨ n = 4 ∨ n = 5 ∨ n = 6 by omega) with rfl | rfl | rfl | rfl | rfl | rfl | rfl <;> rfl
def runR (l : List Defect) (ps : List Int) (k : Int) : List Int × ByteArray × Int :=
  if vDefects l ps = true then if btw k 0 ((l.length : Int) - 1) = true then ((runT l ps (dat l k.toNat) (qs ps.length)).1, (runT l ps (dat l k.toNat) (qs ps.length)).2, 0) else ([], ByteArray.empty, 2) else ([], ByteArray.empty, 1)
theorem runN_len (l : List Defect) (ps : List Int) (d : Defect) : ∀ f s, (runN l ps d f s).1.length ≤ f := by
  intro f
  induction f with
  | zero => intro s; simp [runN]
  | succ f ih =>
    intro s
    rw [runN]
    split
    · simp
    · simp only [List.length_cons]
      have := ih (put s (wst l ps s).2.toNat (byteAt d.signs (wst l ps s).2.toNat))
      omega
theorem runT_len (l : List Defect) (ps : List Int) (d : Defect) (s : ByteArray) : (runT l ps d s).1.length ≤ s.size := Nat.le_trans (runN_len _ _ _ _ _) (holes_le s)
def strHoles : Value → Nat
  | .string s => holes s
  | _ => 0
/-- what is left of a run: the tests so far, and the answers -/
def RunSt (l : List Defect) (ps : List Int) (d : Defect) (out : List Int) (s : ByteArray) : Prop :=
  s.size = ps.length ∧ out.length + holes s ≤ 6 ∧ out ++ (runT l ps d s).1 = (runT l ps d (qs ps.length)).1 ∧ (runT l ps d s).2 = (runT l ps d (qs ps.length)).2
theorem RunSt.start (l : List Defect) (ps : List Int) (d : Defect) (h : ps.length ≤ 6) : RunSt l ps d [] (qs ps.length) :=
  ⟨qs_size _, by have := holes_le (qs ps.length); rw [qs_size] at this; simp; omega, rfl, rfl⟩
theorem RunSt.step {l : List Defect} {ps : List Int} {d : Defect} {out : List Int} {s : ByteArray} (h : RunSt l ps d out s) (hd : vDef ps.length d = true) (hf : foundB l s = false) {t : Nat} (ht : t < ps.length) (e : (wst l ps s).2 = t) (h63 : (byteAt s t).toNat = 63) :
    RunSt l ps d (out ++ [(t : Int)]) (put s t (byteAt d.signs t)) ∧ holes (put s t (byteAt d.signs t)) + 1 = holes s := by
  obtain ⟨h1, h2, h3, h4⟩ := h
  have hh := holes_put (c := byteAt d.signs t) (show t < s.size by omega) h63 (sign_ne hd ht)
  have hr := runT_step h1 hd hf ht e h63
  rw [hr] at h3 h4
  refine ⟨⟨by rw [put_size, h1], by rw [List.length_append, List.length_singleton]; omega, by simpa using h3, h4⟩, hh⟩
theorem RunSt.done {l : List Defect} {ps : List Int} {d : Defect} {out : List Int} {s : ByteArray} (h : RunSt l ps d out s) (hf : foundB l s = true) : out = (runT l ps d (qs ps.length)).1 ∧ s = (runT l ps d (qs ps.length)).2 := by
  obtain ⟨_, _, h3, h4⟩ := h
  rw [runT_found hf] at h3 h4
  exact ⟨by simpa using h3, h4⟩
theorem Plan.grown {w w' W0 : World} {p m : Nat} {A B : Option Addr} {c d : Nat} {l : List Defect} {ps : List Int} {N N0 : Nat} {row : Option Nat} (h : Plan w p m A B c d l ps N) (h0 : Plan W0 p m A B c d l ps N0) (hg : w.grownBy w' row) (hr : ∀ k, row = some k → W0.heap.size ≤ k) : Plan w' p m A B c d l ps N := by
  refine ⟨h.box.grown hg (fun e => ?_), h.memo.kept hg (fun e => ?_), h.list.grown hg (fun hn b off e e2 => ?_), h.prices.grown hg (fun hn b off e e2 => ?_), h.pm, h.am, h.bm⟩
  · have := hr p e.symm; have := h0.box.lt; omega
  · have := hr m e.symm; have := h0.memo.lt; omega
  · have := hr b e2.symm
    obtain ⟨b', off', e', hb, _⟩ := h0.list.at hn
    rw [e] at e'
    injection e' with e'
    injection e' with e' _
    omega
  · have := hr b e2.symm
    obtain ⟨b', off', e', hb, _⟩ := h0.prices.at hn
    rw [e] at e'
    injection e' with e'
    injection e' with e' _
    omega
theorem runR_1 {l : List Defect} {ps : List Int} {k : Int} (h : vDefects l ps = false) : runR l ps k = ([], ByteArray.empty, 1) := by rw [runR, if_neg (by simp [h])]
theorem runR_2 {l : List Defect} {ps : List Int} {k : Int} (h : vDefects l ps = true) (h2 : btw k 0 ((l.length : Int) - 1) = false) : runR l ps k = ([], ByteArray.empty, 2) := by rw [runR, if_pos h, if_neg (by simp [h2])]
theorem runR_0 {l : List Defect} {ps : List Int} {D : Nat} (h : vDefects l ps = true) (h2 : btw (D : Int) 0 ((l.length : Int) - 1) = true) : runR l ps D = ((runT l ps (dat l D) (qs ps.length)).1, (runT l ps (dat l D) (qs ps.length)).2, 0) := by rw [runR, if_pos h, if_pos h2]; rfl
theorem own_ne {w : World} {base e size n m : Nat} {v : Value} {xs : List Value} (h : w.ownsRow base e size v n xs) (hm : m < base) : v.ownBlock = none ∨ v.ownBlock ≠ some m := by
  cases hv : v.ownBlock with
  | none => exact .inl rfl
  | some k =>
    refine .inr fun e => ?_
    injection e with e
    have := (h.lt k hv).1
    omega
theorem Plan.sign {w : World} {p m b off : Nat} {B : Option Addr} {c d : Nat} {l : List Defect} {ps : List Int} {N D : Nat} (h : Plan w p m (some ⟨b, off, none⟩) B c d l ps N) (hD : D < l.length) : b < w.heap.size ∧ w.cell? ⟨b, off + D * 3 + 2, none⟩ = some (.string (dat l D).signs) := by
  obtain ⟨b', off', e, hb, hc⟩ := def_all h.list hD
  injection e with e
  injection e with e1 e2
  subst e1 e2
  exact ⟨hb, (hc D hD).2.2.2⟩
set_option maxRecDepth 10000 in
set_option maxHeartbeats 4000000 in
theorem runI_any (A B : Option Addr) (c d : Nat) (l : List Defect) (ps : List Int) (k : Int) (w : World) (h : Rds w 3 A l.length (dfcs l)) (hp : Rds w 1 B ps.length (ics ps)) (hn : l.length ≤ 100000000) (hm : ps.length ≤ 100000000) (hs : sizesD l) :
    Calls Try.prog 12 #[.slice A l.length c, .slice B ps.length d, i64 k] w fun e w' => ∃ A' c', e = .returned (.tuple #[.slice A' (runR l ps k).1.length c', .string (runR l ps k).2.1, i64 (runR l ps k).2.2]) ∧ w'.ownsRow w.heap.size 2 1 (.slice A' (runR l ps k).1.length c') (runR l ps k).1.length (ics (runR l ps k).1) ∧ UpOf w w' := by
  cases b1 : vDefects l ps
  · have hR := Lib.hid (runR_1 (k := k) b1)
    go_enter Try.func12, Try.ntmps12
    go_wp2_with (first | (go_at_call 38; refine (ret_as (validDefects_any _ _ _ _ _ _ _ (h.below (by repeat (first | exact Below.refl _ _ | refine bl_tr ?_ _ | refine bl_al ?_ _ | refine bl_dr ?_ | refine bl_up ?_ _ | refine Below.drew ?_ | refine bl_alloc ?_ _ | refine Below.setCell ?_ (by first | (simp; done) | (simp; omega)) _))) (hp.below (by repeat (first | exact Below.refl _ _ | refine bl_tr ?_ _ | refine bl_al ?_ _ | refine bl_dr ?_ | refine bl_up ?_ _ | refine Below.drew ?_ | refine bl_alloc ?_ _ | refine Below.setCell ?_ (by first | (simp; done) | (simp; omega)) _))) hn hm hs) b1).mono ?_; rintro e w' ⟨rfl, g, rfl⟩) | ((with_reducible refine wp_region_up (by kernel_rfl) (by kernel_rfl) ?_); (repeat (go_big_quiet_step (first | (go_at_call 38; first | exact upq_tr (ret_as (validDefects_any _ _ _ _ _ _ _ (h.below (by repeat (first | exact Below.refl _ _ | refine bl_tr ?_ _ | refine bl_al ?_ _ | refine bl_dr ?_ | refine bl_up ?_ _ | refine Below.drew ?_ | refine bl_alloc ?_ _ | refine Below.setCell ?_ (by first | (simp; done) | (simp; omega)) _))) (hp.below (by repeat (first | exact Below.refl _ _ | refine bl_tr ?_ _ | refine bl_al ?_ _ | refine bl_dr ?_ | refine bl_up ?_ _ | refine Below.drew ?_ | refine bl_alloc ?_ _ | refine Below.setCell ?_ (by first | (simp; done) | (simp; omega)) _))) hn hm hs) b1) | exact upq (ret_as (validDefects_any _ _ _ _ _ _ _ (h.below (by repeat (first | exact Below.refl _ _ | refine bl_tr ?_ _ | refine bl_al ?_ _ | refine bl_dr ?_ | refine bl_up ?_ _ | refine Below.drew ?_ | refine bl_alloc ?_ _ | refine Below.setCell ?_ (by first | (simp; done) | (simp; omega)) _))) (hp.below (by repeat (first | exact Below.refl _ _ | refine bl_tr ?_ _ | refine bl_al ?_ _ | refine bl_dr ?_ | refine bl_up ?_ _ | refine Below.drew ?_ | refine bl_alloc ?_ _ | refine Below.setCell ?_ (by first | (simp; done) | (simp; omega)) _))) hn hm hs) b1))))); refine wpQuiet_nil ?_; intro _ hw'; obtain ⟨nq, hw''⟩ := hw'; subst hw''))
    go_ret3
    rw [hR.out]
    exact ⟨none, 0, rfl, ⟨rfl, .inl ⟨rfl, rfl⟩⟩, UpOf.of (by repeat (first | exact Below.refl _ _ | refine bl_tr ?_ _ | refine bl_al ?_ _ | refine bl_dr ?_ | refine bl_up ?_ _ | refine Below.drew ?_ | refine bl_alloc ?_ _ | refine Below.setCell ?_ (by first | (simp; done) | (simp; omega)) _))⟩
  cases b2 : btw k 0 ((l.length : Int) - 1)
  · have hR := Lib.hid (runR_2 b1 b2)
    go_enter Try.func12, Try.ntmps12
    go_wp2_with (first | (go_at_call 38; refine (ret_as (validDefects_any _ _ _ _ _ _ _ (h.below (by repeat (first | exact Below.refl _ _ | refine bl_tr ?_ _ | refine bl_al ?_ _ | refine bl_dr ?_ | refine bl_up ?_ _ | refine Below.drew ?_ | refine bl_alloc ?_ _ | refine Below.setCell ?_ (by first | (simp; done) | (simp; omega)) _))) (hp.below (by repeat (first | exact Below.refl _ _ | refine bl_tr ?_ _ | refine bl_al ?_ _ | refine bl_dr ?_ | refine bl_up ?_ _ | refine Below.drew ?_ | refine bl_alloc ?_ _ | refine Below.setCell ?_ (by first | (simp; done) | (simp; omega)) _))) hn hm hs) b1).mono ?_; rintro e w' ⟨rfl, g, rfl⟩) | (go_at_call 39; refine (ret_as (between_any _ _ _ _) b2).mono ?_; rintro e w' ⟨rfl, rfl⟩) | ((with_reducible refine wp_region_up (by kernel_rfl) (by kernel_rfl) ?_); (repeat (go_big_quiet_step (first | (go_at_call 38; first | exact upq_tr (ret_as (validDefects_any _ _ _ _ _ _ _ (h.below (by repeat (first | exact Below.refl _ _ | refine bl_tr ?_ _ | refine bl_al ?_ _ | refine bl_dr ?_ | refine bl_up ?_ _ | refine Below.drew ?_ | refine bl_alloc ?_ _ | refine Below.setCell ?_ (by first | (simp; done) | (simp; omega)) _))) (hp.below (by repeat (first | exact Below.refl _ _ | refine bl_tr ?_ _ | refine bl_al ?_ _ | refine bl_dr ?_ | refine bl_up ?_ _ | refine Below.drew ?_ | refine bl_alloc ?_ _ | refine Below.setCell ?_ (by first | (simp; done) | (simp; omega)) _))) hn hm hs) b1) | exact upq (ret_as (validDefects_any _ _ _ _ _ _ _ (h.below (by repeat (first | exact Below.refl _ _ | refine bl_tr ?_ _ | refine bl_al ?_ _ | refine bl_dr ?_ | refine bl_up ?_ _ | refine Below.drew ?_ | refine bl_alloc ?_ _ | refine Below.setCell ?_ (by first | (simp; done) | (simp; omega)) _))) (hp.below (by repeat (first | exact Below.refl _ _ | refine bl_tr ?_ _ | refine bl_al ?_ _ | refine bl_dr ?_ | refine bl_up ?_ _ | refine Below.drew ?_ | refine bl_alloc ?_ _ | refine Below.setCell ?_ (by first | (simp; done) | (simp; omega)) _))) hn hm hs) b1)) | (go_at_call 39; first | exact upq_tr_same (ret_as (between_any _ _ _ _) b2) | exact upq_same (ret_as (between_any _ _ _ _) b2))))); refine wpQuiet_nil ?_; intro _ hw'; obtain ⟨nq, hw''⟩ := hw'; subst hw''))
    go_ret3
    rw [hR.out]
    exact ⟨none, 0, rfl, ⟨rfl, .inl ⟨rfl, rfl⟩⟩, UpOf.of (by repeat (first | exact Below.refl _ _ | refine bl_tr ?_ _ | refine bl_al ?_ _ | refine bl_dr ?_ | refine bl_up ?_ _ | refine Below.drew ?_ | refine bl_alloc ?_ _ | refine Below.setCell ?_ (by first | (simp; done) | (simp; omega)) _))⟩
  obtain ⟨k1, k2⟩ := btw_true b2
  obtain ⟨D, rfl⟩ : ∃ D : Nat, k = D := ⟨k.toNat, by omega⟩
  have hD : D < l.length := by omega
  have hR := Lib.hid (runR_0 b1 b2)
  obtain ⟨hl10, hp6, _, hvd⟩ := vDefects_inv b1
  have hdv := Lib.hid (hvd D hD)
  have hV := Lib.hid b1
  clear hvd
  go_enter Try.func12, Try.ntmps12
  go_wp2_with (first | (go_at_call 38; refine (ret_as (validDefects_any _ _ _ _ _ _ _ (h.below (by repeat (first | exact Below.refl _ _ | refine bl_tr ?_ _ | refine bl_al ?_ _ | refine bl_dr ?_ | refine bl_up ?_ _ | refine Below.drew ?_ | refine bl_alloc ?_ _ | refine Below.setCell ?_ (by first | (simp; done) | (simp; omega)) _))) (hp.below (by repeat (first | exact Below.refl _ _ | refine bl_tr ?_ _ | refine bl_al ?_ _ | refine bl_dr ?_ | refine bl_up ?_ _ | refine Below.drew ?_ | refine bl_alloc ?_ _ | refine Below.setCell ?_ (by first | (simp; done) | (simp; omega)) _))) hn hm hs) b1).mono ?_; rintro e w' ⟨rfl, g, rfl⟩) | (go_at_call 39; refine (ret_as (between_any _ _ _ _) b2).mono ?_; rintro e w' ⟨rfl, rfl⟩) | ((with_reducible refine wp_region_up (by kernel_rfl) (by kernel_rfl) ?_); (repeat (go_big_quiet_step (first | (go_at_call 38; first | exact upq_tr (ret_as (validDefects_any _ _ _ _ _ _ _ (h.below (by repeat (first | exact Below.refl _ _ | refine bl_tr ?_ _ | refine bl_al ?_ _ | refine bl_dr ?_ | refine bl_up ?_ _ | refine Below.drew ?_ | refine bl_alloc ?_ _ | refine Below.setCell ?_ (by first | (simp; done) | (simp; omega)) _))) (hp.below (by repeat (first | exact Below.refl _ _ | refine bl_tr ?_ _ | refine bl_al ?_ _ | refine bl_dr ?_ | refine bl_up ?_ _ | refine Below.drew ?_ | refine bl_alloc ?_ _ | refine Below.setCell ?_ (by first | (simp; done) | (simp; omega)) _))) hn hm hs) b1) | exact upq (ret_as (validDefects_any _ _ _ _ _ _ _ (h.below (by repeat (first | exact Below.refl _ _ | refine bl_tr ?_ _ | refine bl_al ?_ _ | refine bl_dr ?_ | refine bl_up ?_ _ | refine Below.drew ?_ | refine bl_alloc ?_ _ | refine Below.setCell ?_ (by first | (simp; done) | (simp; omega)) _))) (hp.below (by repeat (first | exact Below.refl _ _ | refine bl_tr ?_ _ | refine bl_al ?_ _ | refine bl_dr ?_ | refine bl_up ?_ _ | refine Below.drew ?_ | refine bl_alloc ?_ _ | refine Below.setCell ?_ (by first | (simp; done) | (simp; omega)) _))) hn hm hs) b1)) | (go_at_call 39; first | exact upq_tr_same (ret_as (between_any _ _ _ _) b2) | exact upq_same (ret_as (between_any _ _ _ _) b2))))); refine wpQuiet_nil ?_; intro _ hw'; obtain ⟨nq, hw''⟩ := hw'; subst hw''))
  refine (newPlanner_any _ _ _ _ _ _ _ (h.below (by repeat (first | exact Below.refl _ _ | refine bl_tr ?_ _ | refine bl_al ?_ _ | refine bl_dr ?_ | refine bl_up ?_ _ | refine Below.drew ?_ | refine bl_alloc ?_ _ | refine Below.setCell ?_ (by first | (simp; done) | (simp; omega)) _))) (hp.below (by repeat (first | exact Below.refl _ _ | refine bl_tr ?_ _ | refine bl_al ?_ _ | refine bl_dr ?_ | refine bl_up ?_ _ | refine Below.drew ?_ | refine bl_alloc ?_ _ | refine Below.setCell ?_ (by first | (simp; done) | (simp; omega)) _)))).mono ?_
  rintro e w' ⟨p, m, rfl, hP0, hm0, g1, rfl⟩
  have hB0 : Hid (Below w.heap.size w (up _ g1)) := Below.trans (by repeat (first | exact Below.refl _ _ | refine bl_tr ?_ _ | refine bl_al ?_ _ | refine bl_dr ?_ | refine bl_up ?_ _ | refine Below.drew ?_ | refine bl_alloc ?_ _ | refine Below.setCell ?_ (by first | (simp; done) | (simp; omega)) _)) ((up_below _ g1).mono (by first | exact Nat.le_refl _ | exact (up_below _ _).size | exact Nat.le_trans (up_below _ _).size (up_below _ _).size | (simp; done) | (repeat (first | exact Nat.le_refl _ | refine Nat.le_trans ?_ (le_tr_self _)))))
  have HP0 := Lib.hid hP0
  have hmw : w.heap.size ≤ m := Nat.le_trans (by first | exact Nat.le_refl _ | exact (up_below _ _).size | exact Nat.le_trans (up_below _ _).size (up_below _ _).size | (simp; done) | (repeat (first | exact Nat.le_refl _ | refine Nat.le_trans ?_ (le_tr_self _)))) hm0
  clear hP0 h hp b1 b2 hm0
  revert HP0 hB0
  generalize up _ g1 = W0
  intro hB0 HP0
  obtain ⟨bA, offA, rfl, _, _⟩ := def_all HP0.out.list hD
  go_wp2_with (first | (go_at_call 41; refine (repeat_any _ _ (by omega)).mono ?_; rintro e w' ⟨rfl, g, rfl⟩) | ((with_reducible refine wp_region_up (by kernel_rfl) (by kernel_rfl) ?_); (repeat (go_big_quiet_step (first | (go_at_call 41; first | exact upq_tr (repeat_any _ _ (by omega)) | exact upq (repeat_any _ _ (by omega)))))); refine wpQuiet_nil ?_; intro _ hw'; obtain ⟨nq, hw''⟩ := hw'; subst hw''))
  have hOwn := Lib.hid (World.ownsRow_lit (base := W0.heap.size) (e := 2) (size := 1) (up W0 g) #[] 0 (up_below W0 g).size (by unfold maxLen; omega) rfl)
  have HPs := Lib.hid (show Plan (up W0 (g.al (.cells #[] 2))) p m (some ⟨bA, offA, none⟩) B c d l ps 0 from HP0.out.below (by repeat (first | exact Below.refl _ _ | refine bl_tr ?_ _ | refine bl_al ?_ _ | refine bl_dr ?_ | refine bl_up ?_ _ | refine Below.drew ?_ | refine bl_alloc ?_ _ | refine Below.setCell ?_ (by first | (simp; done) | (simp; omega)) _)))
  have HBs := Lib.hid (show Below W0.heap.size W0 (up W0 (g.al (.cells #[] 2))) from (by repeat (first | exact Below.refl _ _ | refine bl_tr ?_ _ | refine bl_al ?_ _ | refine bl_dr ?_ | refine bl_up ?_ _ | refine Below.drew ?_ | refine bl_alloc ?_ _ | refine Below.setCell ?_ (by first | (simp; done) | (simp; omega)) _)))
  go_loopw [10, 11] (fun a v wr => ∃ (s : ByteArray) (out : List Int) (A' : Option Addr) (c' : Nat), a = .string s ∧ v = .slice A' out.length c' ∧ Hid (RunSt l ps (dat l D) out s) ∧ Hid (wr.ownsRow W0.heap.size 2 1 (.slice A' out.length c') out.length (ics out)) ∧ Hid (Plan wr p m (some ⟨bA, offA, none⟩) B c d l ps (out.length * 600000)) ∧ Hid (Below w.heap.size w wr) ∧ W0.heap.size ≤ wr.heap.size) (fun a _ _ => strHoles a)
  case atStart => exact ⟨_, [], _, _, rfl, rfl, RunSt.start _ _ _ hp6, hOwn.out, (show Plan _ p m (some ⟨bA, offA, none⟩) B c d l ps (([] : List Int).length * 600000) by simpa using HPs.out), hB0.out.trans (HBs.out.mono hB0.out.size), HBs.out.size⟩
  case round =>
    obtain ⟨s, out, A', c', rfl, rfl, hst, hown, hpl, hbel, hsz⟩ := hrel
    obtain ⟨hs1, hs2, _, _⟩ := hst.out
    have hz := Lib.hid (vDefects_sizes hV.out hs1)
    cases b1 : foundB l s
    · obtain ⟨t, ht, hw, h63, _⟩ := wst_spec hV.out hs1 b1
      have hw2 := Lib.hid (show (wst l ps s).2 = (t : Int) by rw [hw])
      have H63 := Lib.hid h63
      have HF := Lib.hid b1
      clear hw h63
      go_wp2_with fail
      refine (ret_as (isFound_any _ _ _ _ _ hpl.out.list (by omega) (by omega) hz.out) b1).mono ?_
      rintro e w' ⟨rfl, g1, rfl⟩
      go_wp2_with fail
      refine (ret_num (next_any p m _ B c d l ps hV.out s _ _ hs1 HF.out (hpl.out.up g1) (by omega)) hw2.out).mono ?_
      rintro e w2 ⟨rfl, hP2, hg2⟩
      have hO2 := Lib.hid ((own_below hown.out (up_below wr g1)).kept hg2 (own_ne (own_below hown.out (up_below wr g1)) HP0.out.memo.lt))
      have hsz2 : W0.heap.size ≤ w2.heap.size := Nat.le_trans hsz (Nat.le_trans (up_below wr g1).size hg2.size)
      have hB2 := Lib.hid ((hbel.out.trans (Below.mono (up_below wr g1) hbel.out.size)).grown hg2 (Nat.le_trans hbel.out.size (up_below wr g1).size) (fun k hk => by injection hk with hk; omega))
      have HP2 := Lib.hid hP2
      have hts : t < s.size := by omega
      have htd : t < (dat l D).signs.size := by have := (vDef_inv hdv.out).2.2.2.1; omega
      have hbb := Lib.hid (byteAt_eq htd)
      clear hP2 hg2
      go_wp2_with (first | (at_builtin; refine wpl_app rfl _ _ 25 rfl W0.heap.size 2 _ 1 8 el_int _ _ _ rfl (own_below hO2.out (by repeat (first | exact Below.refl _ _ | refine bl_tr ?_ _ | refine bl_al ?_ _ | refine bl_dr ?_ | refine bl_up ?_ _ | refine Below.drew ?_ | refine bl_alloc ?_ _ | refine Below.setCell ?_ (by first | (simp; done) | (simp; omega)) _))) _ 1 1 [i64 (t : Int)] rfl (rds_new _ _ _ 1 1 rfl) (fun u hu => by simp at hu; subst hu; rfl) (by unfold maxLen; omega) (by omega) (Nat.le_trans hsz2 (by simp)) ?_; intro A3 c3 w3 o3 hg3; have d2 := (Plan.grown (HP2.out.below (by repeat (first | exact Below.refl _ _ | refine bl_tr ?_ _ | refine bl_al ?_ _ | refine bl_dr ?_ | refine bl_up ?_ _ | refine Below.drew ?_ | refine bl_alloc ?_ _ | refine Below.setCell ?_ (by first | (simp; done) | (simp; omega)) _))) HP0.out hg3 (fun k hk => (hO2.out.lt k hk).1)).sign hD; have HP3 := Lib.hid (Plan.grown (HP2.out.below (by repeat (first | exact Below.refl _ _ | refine bl_tr ?_ _ | refine bl_al ?_ _ | refine bl_dr ?_ | refine bl_up ?_ _ | refine Below.drew ?_ | refine bl_alloc ?_ _ | refine Below.setCell ?_ (by first | (simp; done) | (simp; omega)) _))) HP0.out hg3 (fun k hk => (hO2.out.lt k hk).1)); have HB3 := Lib.hid ((hB2.out.trans (Below.mono (by repeat (first | exact Below.refl _ _ | refine bl_tr ?_ _ | refine bl_al ?_ _ | refine bl_dr ?_ | refine bl_up ?_ _ | refine Below.drew ?_ | refine bl_alloc ?_ _ | refine Below.setCell ?_ (by first | (simp; done) | (simp; omega)) _)) hB2.out.size)).grown hg3 (Nat.le_trans hB2.out.size (by simp)) (fun k hk => Nat.le_trans hB0.out.size (hO2.out.lt k hk).1)); have HO3 := Lib.hid o3; have hs3 := hg3.size; clear o3 hg3) | (go_at_call 44; refine (answered_any s t (dat l D).signs[t] _ hts).mono ?_; rintro e w4 ⟨rfl, g4, rfl⟩))
      have hst2 := hst.out.step hdv.out HF.out ht hw2.out H63.out
      rw [← hbb.out] at hst2
      go_roundw
      case rel =>
        refine ⟨put s t (dat l D).signs[t], out ++ [(t : Int)], A3, c3, rfl, congrArg (fun n => Value.slice A3 n c3) (by simp), hst2.1, ?_, ?_, ?_, ?_⟩
        · show (up w3 g4).ownsRow W0.heap.size 2 1 (.slice A3 (out ++ [(t : Int)]).length c3) (out ++ [(t : Int)]).length (ics (out ++ [(t : Int)]))
          rw [ics_app, List.length_append]
          exact own_below HO3.out (by repeat (first | exact Below.refl _ _ | refine bl_tr ?_ _ | refine bl_al ?_ _ | refine bl_dr ?_ | refine bl_up ?_ _ | refine Below.drew ?_ | refine bl_alloc ?_ _ | refine Below.setCell ?_ (by first | (simp; done) | (simp; omega)) _))
        · show Plan (up w3 g4) p m (some ⟨bA, offA, none⟩) B c d l ps ((out ++ [(t : Int)]).length * 600000)
          rw [List.length_append, List.length_singleton, Nat.add_mul, Nat.one_mul]
          exact HP3.out.up g4
        · exact HB3.out.trans ((up_below w3 g4).mono HB3.out.size)
        · have hq := (up_below w3 g4).size
          simp at hs3
          omega
      case measure =>
        show holes (put s t (dat l D).signs[t]) < holes s
        have := hst2.2
        omega
    · have D1 := Lib.hid (hst.out.done b1).1
      have D2 := Lib.hid (hst.out.done b1).2
      go_wp2_with fail
      refine (ret_as (isFound_any _ _ _ _ _ hpl.out.list (by omega) (by omega) hz.out) b1).mono ?_
      rintro e w' ⟨rfl, g1, rfl⟩
      go_wp2_with fail
      go_ret3
      rw [hR.out]
      refine ⟨A', c', ?_, ?_, UpOf.of (hbel.out.trans (Below.mono (by repeat (first | exact Below.refl _ _ | refine bl_tr ?_ _ | refine bl_al ?_ _ | refine bl_dr ?_ | refine bl_up ?_ _ | refine Below.drew ?_ | refine bl_alloc ?_ _ | refine Below.setCell ?_ (by first | (simp; done) | (simp; omega)) _)) hbel.out.size))⟩
      · show _ = Ending.returned (.tuple #[.slice A' (runT l ps (dat l D) (qs ps.length)).1.length c', .string (runT l ps (dat l D) (qs ps.length)).2, i64 0])
        rw [← D1.out, ← D2.out]
        rfl
      · show (up wr g1).ownsRow w.heap.size 2 1 (.slice A' (runT l ps (dat l D) (qs ps.length)).1.length c') (runT l ps (dat l D) (qs ps.length)).1.length (ics (runT l ps (dat l D) (qs ps.length)).1)
        rw [← D1.out]
        exact own_mono (own_below hown.out (by repeat (first | exact Below.refl _ _ | refine bl_tr ?_ _ | refine bl_al ?_ _ | refine bl_dr ?_ | refine bl_up ?_ _ | refine Below.drew ?_ | refine bl_alloc ?_ _ | refine Below.setCell ?_ (by first | (simp; done) | (simp; omega)) _))) hB0.out.size
end Go.Proofs.Ytfggbcmpgkhlaaa

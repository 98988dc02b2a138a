/-
  The reference's console: its methods, said by the kind of the command. The bounds stand at DoH.
-/
import Derived.Test.YtbianlkenallaaaGreatDoorWordK2
import Derived.Test.YtbianlkenallaaaGreatDoorConsR9
import Derived.Test.YtbianlkenallaaaGreatDoorConsRA
import Derived.Test.YtbianlkenallaaaGreatDoorConsRB
import Derived.Test.YtbianlkenallaaaGreatDoorConsRC
import Derived.Test.YtbianlkenallaaaGreatDoorConsRD
import Derived.Test.YtbianlkenallaaaGreatDoorConsRE
import Derived.Test.YtbianlkenallaaaGreatDoorConsRF
import Derived.Test.YtbianlkenallaaaGreatDoorMgE
set_option linter.all false
namespace Go.Proofs.YtbianlkenallaaaGreatDoor
open Go.RowKit
structure DoH (D : DeskD) (L W : List ByteArray) : Prop where
 v : vDesk D = true
 n : L.length ≤ 800000
 wl : W.length ≤ 2000000
 ws : ∀ i, i < W.length → (wd W i).size ≤ 1048576
 rs : ∀ i, i < W.length → (restW W i).size ≤ 1048576
 st : D.stops.length ≤ 1000
 dr : D.drills.length ≤ 10
 db : DBd D.drills
 lg : D.log.size ≤ 1048576
theorem k10 {two : List ByteArray → ByteArray × Int} (h2 : TwoOk two) (w0 : World) (sb : Nat) (D : DeskD) (A B : Option Addr) (c e : Nat) (O : Option Addr) (oc : Nat) (L : List ByteArray) (NA : Option Addr) (nc : Nat) (ns : List Int) (TA : Option Addr) (tc : Nat) (ts : List ByteArray) (w : World) (W : List ByteArray) (h : ME w0 w sb D A B c e O oc L NA nc ns TA tc ts) (hd : DoH D L W) (hf : fitK 10 W.length = true)
  (hw : wF W (formK 10).data.toList 0 [] [] = some (ns, ts)) : Calls Tryz.prog 110 #[.pointer (some ⟨sb, 0, none⟩)] w fun r w' => mePost w0 sb (doK two D W 10).1 (L ++ (doK two D W 10).2) r w' := by
 have h3 : 2 ≤ W.length := by simpa [fitK] using hf
 rw [wF_2 (.inr (.inr rfl))] at hw
 injection hw with hw
 injection hw with e1 e2
 subst e1 e2
 have hz := hd.rs 1 (by omega)
 exact rowM_any w0 sb D A B c e O oc L NA nc [] TA tc [restW W 1] w h rfl (by show (restW W 1).size ≤ _; omega) (by have := hd.n; omega) (by have := hd.st; omega)
theorem k2 {two : List ByteArray → ByteArray × Int} (h2 : TwoOk two) (w0 : World) (sb : Nat) (D : DeskD) (A B : Option Addr) (c e : Nat) (O : Option Addr) (oc : Nat) (L : List ByteArray) (NA : Option Addr) (nc : Nat) (ns : List Int) (TA : Option Addr) (tc : Nat) (ts : List ByteArray) (w : World) (W : List ByteArray) (h : ME w0 w sb D A B c e O oc L NA nc ns TA tc ts) (hd : DoH D L W) (hf : fitK 2 W.length = true)
  (hw : wF W (formK 2).data.toList 0 [] [] = some (ns, ts)) : Calls Tryz.prog 102 #[.pointer (some ⟨sb, 0, none⟩)] w fun r w' => mePost w0 sb (doK two D W 2).1 (L ++ (doK two D W 2).2) r w' := by
 have h3 : 2 ≤ W.length := by simpa [fitK] using hf
 rw [wF_2 (.inl rfl)] at hw
 injection hw with hw
 injection hw with e1 e2
 subst e1 e2
 exact codeM_any h2 w0 sb D A B c e O oc L NA nc [] TA tc [restW W 1] w h rfl (hd.rs 1 (by omega)) (by have := hd.n; omega)
theorem k6 {two : List ByteArray → ByteArray × Int} (h2 : TwoOk two) (w0 : World) (sb : Nat) (D : DeskD) (A B : Option Addr) (c e : Nat) (O : Option Addr) (oc : Nat) (L : List ByteArray) (NA : Option Addr) (nc : Nat) (ns : List Int) (TA : Option Addr) (tc : Nat) (ts : List ByteArray) (w : World) (W : List ByteArray) (h : ME w0 w sb D A B c e O oc L NA nc ns TA tc ts) (hd : DoH D L W) (hf : fitK 6 W.length = true)
  (hw : wF W (formK 6).data.toList 0 [] [] = some (ns, ts)) : Calls Tryz.prog 106 #[.pointer (some ⟨sb, 0, none⟩)] w fun r w' => mePost w0 sb (doK two D W 6).1 (L ++ (doK two D W 6).2) r w' := by
 rw [wF_6 (.inl rfl)] at hw
 cases hq : numsOf (W.drop 1) with
 | none => rw [hq] at hw; cases hw
 | some l =>
  rw [hq] at hw
  injection hw with hw
  injection hw with e1 e2
  subst e1 e2
  have hll := numsOf_len hq
  rw [List.length_drop] at hll
  have hwl := hd.wl
  have hr : doK two D W 6 = (D, nmb (tfR D.b l)) := by simp only [doK, hq]
  rw [hr]
  exact fastM_any w0 sb D A B c e O oc L NA nc l TA tc [] w h (by omega) (by have := hd.n; omega)
theorem k13 {two : List ByteArray → ByteArray × Int} (h2 : TwoOk two) (w0 : World) (sb : Nat) (D : DeskD) (A B : Option Addr) (c e : Nat) (O : Option Addr) (oc : Nat) (L : List ByteArray) (NA : Option Addr) (nc : Nat) (ns : List Int) (TA : Option Addr) (tc : Nat) (ts : List ByteArray) (w : World) (W : List ByteArray) (h : ME w0 w sb D A B c e O oc L NA nc ns TA tc ts) (hd : DoH D L W) (hf : fitK 13 W.length = true)
  (hw : wF W (formK 13).data.toList 0 [] [] = some (ns, ts)) : Calls Tryz.prog 113 #[.pointer (some ⟨sb, 0, none⟩)] w fun r w' => mePost w0 sb (doK two D W 13).1 (L ++ (doK two D W 13).2) r w' := by
 have h3 : W.length = 3 := by simpa [fitK] using hf
 rw [wF_13 h3] at hw
 cases hq : numsOf (W.drop 1) with
 | none => rw [hq] at hw; cases hw
 | some l =>
  rw [hq] at hw
  injection hw with hw
  injection hw with e1 e2
  subst e1 e2
  have hll := numsOf_len hq
  rw [List.length_drop] at hll
  have hr : doK two D W 13 = (D, nmb (mwR D.b (num l 0) (num l 1))) := by simp only [doK, hq]
  rw [hr]
  exact waitM_any w0 sb D A B c e O oc L NA nc l TA tc [] w h (by omega) (by have := hd.n; omega)
theorem k12 {two : List ByteArray → ByteArray × Int} (h2 : TwoOk two) (w0 : World) (sb : Nat) (D : DeskD) (A B : Option Addr) (c e : Nat) (O : Option Addr) (oc : Nat) (L : List ByteArray) (NA : Option Addr) (nc : Nat) (ns : List Int) (TA : Option Addr) (tc : Nat) (ts : List ByteArray) (w : World) (W : List ByteArray) (h : ME w0 w sb D A B c e O oc L NA nc ns TA tc ts) (hd : DoH D L W) (hf : fitK 12 W.length = true)
  (hw : wF W (formK 12).data.toList 0 [] [] = some (ns, ts)) : Calls Tryz.prog 112 #[.pointer (some ⟨sb, 0, none⟩)] w fun r w' => mePost w0 sb (doK two D W 12).1 (L ++ (doK two D W 12).2) r w' := by
 rw [wF_6 (.inr rfl)] at hw
 cases hq : numsOf (W.drop 1) with
 | none => rw [hq] at hw; cases hw
 | some l =>
  rw [hq] at hw
  injection hw with hw
  injection hw with e1 e2
  subst e1 e2
  have hll := numsOf_len hq
  rw [List.length_drop] at hll
  have hwl := hd.wl
  have hr : doK two D W 12 = (if vStops l then { D with stops := l } else D, if vStops l then [dkText { D with stops := l }] else [errL 1]) := by
   simp only [doK, hq]
   split <;> rfl
  rw [hr]
  exact stopsM_any w0 sb D A B c e O oc L NA nc l TA tc [] w h (by omega) hd.v (by have := hd.dr; omega) (by have := hd.n; omega)
theorem k11 {two : List ByteArray → ByteArray × Int} (h2 : TwoOk two) (w0 : World) (sb : Nat) (D : DeskD) (A B : Option Addr) (c e : Nat) (O : Option Addr) (oc : Nat) (L : List ByteArray) (NA : Option Addr) (nc : Nat) (ns : List Int) (TA : Option Addr) (tc : Nat) (ts : List ByteArray) (w : World) (W : List ByteArray) (h : ME w0 w sb D A B c e O oc L NA nc ns TA tc ts) (hd : DoH D L W) (hf : fitK 11 W.length = true)
  (hw : wF W (formK 11).data.toList 0 [] [] = some (ns, ts)) : Calls Tryz.prog 111 #[.pointer (some ⟨sb, 0, none⟩)] w fun r w' => mePost w0 sb (doK two D W 11).1 (L ++ (doK two D W 11).2) r w' := by
 have h3 : 3 ≤ W.length := by simpa [fitK] using hf
 rw [wF_11 h3] at hw
 cases hb : numB (wd W 1) with
 | false => rw [hb] at hw; simp at hw
 | true =>
  rw [hb, if_pos rfl] at hw
  injection hw with hw
  injection hw with e1 e2
  subst e1 e2
  have hr : doK two D W 11 = (D, sent (setR (wordsA [] (restW W 2).data.toList) (sval (wd W 1)))) := by simp [doK, hb]
  rw [hr]
  exact setM_any w0 sb D A B c e O oc L NA nc [sval (wd W 1)] TA tc [restW W 2] w h rfl rfl (hd.rs 2 (by omega)) (by have := hd.n; omega)
theorem k7 {two : List ByteArray → ByteArray × Int} (h2 : TwoOk two) (w0 : World) (sb : Nat) (D : DeskD) (A B : Option Addr) (c e : Nat) (O : Option Addr) (oc : Nat) (L : List ByteArray) (NA : Option Addr) (nc : Nat) (ns : List Int) (TA : Option Addr) (tc : Nat) (ts : List ByteArray) (w : World) (W : List ByteArray) (h : ME w0 w sb D A B c e O oc L NA nc ns TA tc ts) (hd : DoH D L W) (hf : fitK 7 W.length = true)
  (hw : wF W (formK 7).data.toList 0 [] [] = some (ns, ts)) : Calls Tryz.prog 107 #[.pointer (some ⟨sb, 0, none⟩)] w fun r w' => mePost w0 sb (doK two D W 7).1 (L ++ (doK two D W 7).2) r w' := by
 have h3 : W.length = 3 := by simpa [fitK] using hf
 rw [wF_7 h3] at hw
 cases hb : numB (wd W 2) with
 | false => rw [hb] at hw; simp at hw
 | true =>
  rw [hb, if_pos rfl] at hw
  injection hw with hw
  injection hw with e1 e2
  subst e1 e2
  have hr : doK two D W 7 = (D, match findD D.drills (wd W 1) with | none => [errL 3] | some x => sent (dlR x (sval (wd W 2)))) := by
   simp only [doK, hb, if_pos rfl]
   cases findD D.drills (wd W 1) <;> rfl
  rw [hr]
  exact lineM_any w0 sb D A B c e O oc L NA nc [sval (wd W 2)] TA tc [wd W 1] w h rfl rfl (hd.ws 1 (by omega)) (by have := hd.n; omega) (by have := hd.dr; omega) hd.db
theorem k1 {two : List ByteArray → ByteArray × Int} (h2 : TwoOk two) (w0 : World) (sb : Nat) (D : DeskD) (A B : Option Addr) (c e : Nat) (O : Option Addr) (oc : Nat) (L : List ByteArray) (NA : Option Addr) (nc : Nat) (ns : List Int) (TA : Option Addr) (tc : Nat) (ts : List ByteArray) (w : World) (W : List ByteArray) (h : ME w0 w sb D A B c e O oc L NA nc ns TA tc ts) (hd : DoH D L W) (hf : fitK 1 W.length = true)
  (hw : wF W (formK 1).data.toList 0 [] [] = some (ns, ts)) : Calls Tryz.prog 101 #[.pointer (some ⟨sb, 0, none⟩)] w fun r w' => mePost w0 sb (doK two D W 1).1 (L ++ (doK two D W 1).2) r w' := by
 have h3 : W.length = 6 := by simpa [fitK] using hf
 rw [wF_1 h3] at hw
 cases hq : numsOf (W.drop 1) with
 | none => rw [hq] at hw; cases hw
 | some l =>
  rw [hq] at hw
  injection hw with hw
  injection hw with e1 e2
  subst e1 e2
  have hll := numsOf_len hq
  rw [List.length_drop] at hll
  have hr : doK two D W 1 = (if vBsk ⟨num l 0, num l 1, num l 2, num l 3, num l 4⟩ then { D with b := ⟨num l 0, num l 1, num l 2, num l 3, num l 4⟩ } else D, if vBsk ⟨num l 0, num l 1, num l 2, num l 3, num l 4⟩ then [dkText { D with b := ⟨num l 0, num l 1, num l 2, num l 3, num l 4⟩ }] else [errL 1]) := by
   simp only [doK, hq]
   split <;> rfl
  rw [hr]
  exact basketM_any w0 sb D A B c e O oc L NA nc l TA tc [] w h (by omega) hd.v (by have := hd.st; omega) (by have := hd.dr; omega) (by have := hd.n; omega) _ _ _ _ _ rfl rfl rfl rfl rfl
theorem k3 {two : List ByteArray → ByteArray × Int} (h2 : TwoOk two) (w0 : World) (sb : Nat) (D : DeskD) (A B : Option Addr) (c e : Nat) (O : Option Addr) (oc : Nat) (L : List ByteArray) (NA : Option Addr) (nc : Nat) (ns : List Int) (TA : Option Addr) (tc : Nat) (ts : List ByteArray) (w : World) (W : List ByteArray) (h : ME w0 w sb D A B c e O oc L NA nc ns TA tc ts) (hd : DoH D L W) (hf : fitK 3 W.length = true)
  (hw : wF W (formK 3).data.toList 0 [] [] = some (ns, ts)) : Calls Tryz.prog 103 #[.pointer (some ⟨sb, 0, none⟩)] w fun r w' => mePost w0 sb (doK two D W 3).1 (L ++ (doK two D W 3).2) r w' := by
 have h3 : 2 ≤ W.length := by simpa [fitK] using hf
 rw [wF_2 (.inr (.inl rfl))] at hw
 injection hw with hw
 injection hw with e1 e2
 subst e1 e2
 exact drillM_any w0 sb D A B c e O oc L NA nc [] TA tc [restW W 1] w h rfl (hd.rs 1 (by omega)) (by have := hd.n; omega) hd.v (by have := hd.st; omega) hd.dr hd.db _ _ (by
  show _ = (doK two D W 3)
  simp only [doK]
  rfl)
theorem k5 {two : List ByteArray → ByteArray × Int} (h2 : TwoOk two) (w0 : World) (sb : Nat) (D : DeskD) (A B : Option Addr) (c e : Nat) (O : Option Addr) (oc : Nat) (L : List ByteArray) (NA : Option Addr) (nc : Nat) (ns : List Int) (TA : Option Addr) (tc : Nat) (ts : List ByteArray) (w : World) (W : List ByteArray) (h : ME w0 w sb D A B c e O oc L NA nc ns TA tc ts) (hd : DoH D L W) (hf : fitK 5 W.length = true)
  (hw : wF W (formK 5).data.toList 0 [] [] = some (ns, ts)) : Calls Tryz.prog 105 #[.pointer (some ⟨sb, 0, none⟩)] w fun r w' => mePost w0 sb (doK two D W 5).1 (L ++ (doK two D W 5).2) r w' := by
 have h3 : W.length = 4 := by simpa [fitK] using hf
 rw [wF_5 h3] at hw
 cases hq : numsOf [wd W 1, wd W 3] with
 | none => rw [hq] at hw; cases hw
 | some l =>
  rw [hq] at hw
  injection hw with hw
  injection hw with e1 e2
  subst e1 e2
  have hll := numsOf_len hq
  exact enterM_any w0 sb D A B c e O oc L NA nc l TA tc [wd W 2] w h hll rfl (hd.ws 2 (by omega)) (by have := hd.n; omega) hd.lg _ _ _ _ rfl rfl (by
   show _ = (doK two D W 5)
   simp only [doK, hq]
   rfl)
theorem k4 {two : List ByteArray → ByteArray × Int} (h2 : TwoOk two) (w0 : World) (sb : Nat) (D : DeskD) (A B : Option Addr) (c e : Nat) (O : Option Addr) (oc : Nat) (L : List ByteArray) (NA : Option Addr) (nc : Nat) (ns : List Int) (TA : Option Addr) (tc : Nat) (ts : List ByteArray) (w : World) (W : List ByteArray) (h : ME w0 w sb D A B c e O oc L NA nc ns TA tc ts) (hd : DoH D L W) (hf : fitK 4 W.length = true)
  (hw : wF W (formK 4).data.toList 0 [] [] = some (ns, ts)) : Calls Tryz.prog 104 #[.pointer (some ⟨sb, 0, none⟩)] w fun r w' => mePost w0 sb (doK two D W 4).1 (L ++ (doK two D W 4).2) r w' := by
 exact drillsM_any w0 sb D A B c e O oc L _ _ w h.le hd.n hd.v
theorem k8 {two : List ByteArray → ByteArray × Int} (h2 : TwoOk two) (w0 : World) (sb : Nat) (D : DeskD) (A B : Option Addr) (c e : Nat) (O : Option Addr) (oc : Nat) (L : List ByteArray) (NA : Option Addr) (nc : Nat) (ns : List Int) (TA : Option Addr) (tc : Nat) (ts : List ByteArray) (w : World) (W : List ByteArray) (h : ME w0 w sb D A B c e O oc L NA nc ns TA tc ts) (hd : DoH D L W) (hf : fitK 8 W.length = true)
  (hw : wF W (formK 8).data.toList 0 [] [] = some (ns, ts)) : Calls Tryz.prog 108 #[.pointer (some ⟨sb, 0, none⟩)] w fun r w' => mePost w0 sb (doK two D W 8).1 (L ++ (doK two D W 8).2) r w' := by
 exact logM_any w0 sb D A B c e O oc L _ _ w h.le hd.n hd.v
end Go.Proofs.YtbianlkenallaaaGreatDoor

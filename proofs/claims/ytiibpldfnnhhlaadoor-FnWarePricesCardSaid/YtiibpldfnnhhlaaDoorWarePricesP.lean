/-
  Prices of wares keep the law: plain facts (what is cheapest, the most for some money, sums, texts read back). No program.
-/
import Derived.Test.YtiibpldfnnhhlaaDoorMgB
import Derived.Test.YtiibpldfnnhhlaaDoorReadWareP
namespace Go.Proofs.YtiibpldfnnhhlaaDoor
open Go.RowKit
theorem askR_inv {α : Type} {l : List Ware} {k m hi : Int} {no : Int → α} {r : α} {g : α → Int} (hno : ∀ c, g (no c) = c) (h : g (askR l k m hi no r) = 0) : vWares l = true ∧ btw k 0 ((l.length : Int) - 1) = true ∧ btw m 0 hi = true := by
  cases h1 : vWares l
  · rw [askR_1 h1, hno] at h; omega
  cases h2 : btw k 0 ((l.length : Int) - 1)
  · rw [askR_2 h1 h2, hno] at h; omega
  cases h3 : btw m 0 hi
  · rw [askR_3 h1 h2 h3, hno] at h; omega
  exact ⟨rfl, rfl, rfl⟩
theorem btw_mk {n lo hi : Int} (h : lo ≤ n ∧ n ≤ hi) : btw n lo hi = true := decide_eq_true h
theorem priceR_0 {l : List Ware} {k m : Int} (h1 : vWares l = true) (h2 : btw k 0 ((l.length : Int) - 1) = true) (h3 : 0 ≤ m ∧ m ≤ 1000) : priceR l k m = (prc (wat l k.toNat) m, 0) := by rw [priceR, askR_0 h1 h2 (btw_mk h3)]
theorem mst_spec (x : Ware) (c : Int) : ∀ n : Nat, (0 ≤ mst x c n ∧ mst x c n ≤ (n : Int)) ∧ (mst x c n = 0 ∨ prc x (mst x c n) ≤ c) ∧ (mst x c n < (n : Int) → c < prc x (mst x c n + 1))
  | 0 => by simp [mst]
  | n + 1 => by
    obtain ⟨a, b, d⟩ := mst_spec x c n
    by_cases h : prc x ((n : Int) + 1) ≤ c
    · rw [mst_yes h]
      exact ⟨by omega, .inr h, fun h9 => by omega⟩
    · rw [mst_no h]
      refine ⟨by omega, b, fun h9 => ?_⟩
      by_cases e : mst x c n = (n : Int)
      · rw [e]; omega
      · exact d (by omega)
theorem most_law {l : List Ware} {k c : Int} (h : (mostR l k c).2 = 0) : (0 ≤ (mostR l k c).1 ∧ (mostR l k c).1 ≤ 1000) ∧ (priceR l k (mostR l k c).1).2 = 0 ∧ (priceR l k (mostR l k c).1).1 ≤ c ∧ ((mostR l k c).1 < 1000 → (priceR l k ((mostR l k c).1 + 1)).2 = 0 ∧ c < (priceR l k ((mostR l k c).1 + 1)).1) := by
  obtain ⟨h1, h2, h3⟩ := askR_inv (g := fun r : Int × Int => r.2) (fun _ => rfl) h
  have e : mostR l k c = (mst (wat l k.toNat) c 1000, 0) := askR_0 h1 h2 h3
  obtain ⟨a, b, d⟩ := mst_spec (wat l k.toNat) c 1000
  have h4 := btw_true h3
  rw [e]
  show (0 ≤ mst (wat l k.toNat) c 1000 ∧ mst (wat l k.toNat) c 1000 ≤ 1000) ∧ (priceR l k (mst (wat l k.toNat) c 1000)).2 = 0 ∧ (priceR l k (mst (wat l k.toNat) c 1000)).1 ≤ c ∧ (mst (wat l k.toNat) c 1000 < 1000 → (priceR l k (mst (wat l k.toNat) c 1000 + 1)).2 = 0 ∧ c < (priceR l k (mst (wat l k.toNat) c 1000 + 1)).1)
  generalize mst (wat l k.toNat) c 1000 = M at *
  refine ⟨by omega, by rw [priceR_0 h1 h2 (by omega)], ?_, fun h9 => ?_⟩
  · rw [priceR_0 h1 h2 (by omega)]
    rcases b with b | b
    · rw [b]; simp [prc]; omega
    · exact b
  · rw [priceR_0 h1 h2 (by omega)]
    exact ⟨rfl, d (by omega)⟩
theorem chp_spec {x : Ware} (hv : vWare x = true) {m : Int} (hm : 0 ≤ m ∧ m ≤ 1000) : ∀ k, k ≤ x.brs.length → (m ≤ (chp x m k).1 ∧ (chp x m k).1 ≤ 1000) ∧ (chp x m k).2 = prc x (chp x m k).1 ∧ (chp x m k).2 ≤ prc x m
  | 0, _ => ⟨by show m ≤ m ∧ m ≤ 1000; omega, rfl, Int.le_refl _⟩
  | k + 1, hk => by
    obtain ⟨a, b, d⟩ := chp_spec hv hm k (by omega)
    have hb := brkAt_bd ((vWare_inv hv).2.2.2 k (by omega))
    rw [chp]
    split
    · rename_i h
      exact ⟨⟨by show m ≤ (brk x k).fr; omega, by show (brk x k).fr ≤ 1000; omega⟩, rfl, by show prc x (brk x k).fr ≤ _; omega⟩
    · exact ⟨a, b, d⟩
theorem cheap_law {l : List Ware} {k m : Int} (h : (cheapR l k m).2.2 = 0) : m ≤ (cheapR l k m).1 ∧ (priceR l k m).2 = 0 ∧ (cheapR l k m).2.1 ≤ (priceR l k m).1 ∧ priceR l k (cheapR l k m).1 = ((cheapR l k m).2.1, 0) := by
  obtain ⟨h1, h2, h3⟩ := askR_inv (g := fun r : Int × Int × Int => r.2.2) (fun _ => rfl) h
  have e : cheapR l k m = ((chp (wat l k.toNat) m (wat l k.toNat).brs.length).1, (chp (wat l k.toNat) m (wat l k.toNat).brs.length).2, 0) := askR_0 h1 h2 h3
  have h4 := btw_true h3
  have h5 := btw_true h2
  have hv := (vWares_inv h1).2 k.toNat (by omega)
  obtain ⟨a, b, d⟩ := chp_spec hv h4 (wat l k.toNat).brs.length (Nat.le_refl _)
  rw [e, priceR_0 h1 h2 h4]
  dsimp only
  exact ⟨a.1, rfl, d, by rw [priceR_0 h1 h2 (by omega), b]⟩
theorem bsk_law {l : List Ware} {many : List Int} (h : (bskR l many).2 = 0) : many.length = l.length ∧ (bskR l many).1 = bsk l many l.length ∧ (∀ i : Nat, i < l.length → priceR l (i : Int) (iat many i) = (prc (wat l i) (iat many i), 0) ∧ 0 ≤ prc (wat l i) (iat many i) ∧ prc (wat l i) (iat many i) ≤ 1000000000) ∧ l.length ≤ 30 := by
  by_cases h1 : vWares l = true
  · by_cases h2 : isMany l many 1000 = true
    · obtain ⟨h3, h4⟩ := isMany_inv h2
      refine ⟨h3, by rw [bskR, if_pos h1, if_pos h2], fun i hi => ⟨?_, prc_bd ((vWares_inv h1).2 i hi) (h4 i (by omega)).1 (h4 i (by omega)).2⟩, (vWares_inv h1).1⟩
      have := priceR_0 (l := l) (k := (i : Int)) (m := iat many i) h1 (btw_mk (by omega)) (h4 i (by omega))
      rwa [Int.toNat_natCast] at this
    · rw [bskR, if_pos h1, if_neg h2] at h
      exact absurd h (by show ¬ (2 : Int) = 0; omega)
  · rw [bskR, if_neg h1] at h
    exact absurd h (by show ¬ (1 : Int) = 0; omega)
theorem sameR_refl (l : List Ware) : sameR l l = true := sameR_true rfl fun i _ => sameAt_0 rfl rfl fun k _ => by simp [brkEq]
theorem wText_ne {x : Ware} (h : vWare x = true) : (wText x).data.toList ≠ [] := by
  rw [text_list h]
  have := (name_free (vWare_inv h).1).2
  simp [this]
/-- a ware's line reads back, and an empty line is none -/
theorem text_back (t : Ware) : (rwR (wText t)).2 = !(wText t).toList.isEmpty ∧ ((rwR (wText t)).2 = true → (rwR (wText t)).1 = t) := by
  cases hv : vWare t
  · have e := wText_no hv
    rw [e]
    have ho : okRI ⟨#[]⟩ = false := by
      cases ho : okRI ⟨#[]⟩
      · rfl
      · obtain ⟨h1, h2⟩ := okRI_text ho
        have := wText_ne h1
        rw [← h2] at this
        exact absurd rfl this
    rw [rwR_no ho]
    exact ⟨by rw [ByteArray.toList_eq]; rfl, fun h => by cases h⟩
  · obtain ⟨⟨h1, h2⟩, _⟩ := text_okR hv
    rw [rwR_ok h1, h2]
    refine ⟨?_, fun _ => rfl⟩
    have := wText_ne hv
    rw [ByteArray.toList_eq]
    cases hd : (wText t).data.toList
    · exact absurd hd this
    · rfl
end Go.Proofs.YtiibpldfnnhhlaaDoor

/-
  Texts cut at a byte: plain facts. No program. No condition but what stands at each.
-/
import Derived.Test.YtiagckbdofeecaaDoorNumP
namespace Go.Proofs.YtiagckbdofeecaaDoor
open Go.RowKit
abbrev bs (l : List UInt8) : ByteArray := ⟨l.toArray⟩
theorem bs_list (l : List UInt8) : (bs l).data.toList = l := by simp
theorem bs_of (s : ByteArray) : bs s.data.toList = s := by cases s; rfl
theorem bs_size (l : List UInt8) : (bs l).size = l.length := by rw [← bsz, bs_list]
theorem bs_inj {a b : List UInt8} (h : bs a = bs b) : a = b := by rw [← bs_list a, h, bs_list]
theorem bs_extract (s : ByteArray) (i j : Nat) : s.extract i j = bs ((s.data.toList.drop i).take (j - i)) := by
  have : s = ByteArray.mk s.data.toList.toArray := by cases s; rfl
  rw [this, ByteArray.extract_mk]
/-- the parts of a text between bytes: those of cur ++ l, where cur holds none -/
def splitA (by' : UInt8) : List UInt8 → List UInt8 → List ByteArray
  | cur, [] => [bs cur]
  | cur, c :: t => if c = by' then bs cur :: splitA by' [] t else splitA by' (cur ++ [c]) t
/-- the parts that are not empty -/
def wordsA : List UInt8 → List UInt8 → List ByteArray
  | cur, [] => if cur = [] then [] else [bs cur]
  | cur, c :: t => if c = 32 then (if cur = [] then wordsA [] t else bs cur :: wordsA [] t) else wordsA (cur ++ [c]) t
theorem splitA_hit (b : UInt8) (cur t : List UInt8) : splitA b cur (b :: t) = bs cur :: splitA b [] t := by rw [splitA, if_pos rfl]
theorem splitA_skip {b : UInt8} : ∀ (a cur t : List UInt8), (∀ c ∈ a, c ≠ b) → splitA b cur (a ++ t) = splitA b (cur ++ a) t
  | [], cur, t, _ => by simp
  | c :: a, cur, t, h => by
    rw [List.cons_append, splitA, if_neg (h c (by simp)), splitA_skip a (cur ++ [c]) t fun d hd => h d (by simp [hd])]
    simp
theorem splitA_last {b : UInt8} (a : List UInt8) (h : ∀ c ∈ a, c ≠ b) : splitA b [] a = [bs a] := by
  have := splitA_skip a [] [] h
  simpa [splitA] using this
theorem splitA_part {b : UInt8} (a t : List UInt8) (h : ∀ c ∈ a, c ≠ b) : splitA b [] (a ++ b :: t) = bs a :: splitA b [] t := by
  rw [splitA_skip a [] _ h, splitA_hit]; simp
theorem wordsA_skip : ∀ (a cur t : List UInt8), (∀ c ∈ a, c ≠ 32) → wordsA cur (a ++ t) = wordsA (cur ++ a) t
  | [], cur, t, _ => by simp
  | c :: a, cur, t, h => by
    rw [List.cons_append, wordsA, if_neg (h c (by simp)), wordsA_skip a (cur ++ [c]) t fun d hd => h d (by simp [hd])]
    simp
theorem wordsA_last (a : List UInt8) (h : ∀ c ∈ a, c ≠ 32) (hn : a ≠ []) : wordsA [] a = [bs a] := by
  have := wordsA_skip a [] [] h
  simpa [wordsA, hn] using this
theorem wordsA_part (a t : List UInt8) (h : ∀ c ∈ a, c ≠ 32) (hn : a ≠ []) : wordsA [] (a ++ 32 :: t) = bs a :: wordsA [] t := by
  rw [wordsA_skip a [] _ h, wordsA, if_pos rfl, if_neg (by simpa using hn)]; simp
theorem splitA_ne (b : UInt8) : ∀ (l cur : List UInt8), splitA b cur l ≠ []
  | [], cur => by simp [splitA]
  | c :: t, cur => by
    rw [splitA]
    split
    · simp
    · exact splitA_ne b t _
def joinL (b : UInt8) : List ByteArray → List UInt8
  | [] => []
  | [p] => p.data.toList
  | p :: q :: r => p.data.toList ++ b :: joinL b (q :: r)
theorem join_split (b : UInt8) : ∀ (l cur : List UInt8), joinL b (splitA b cur l) = cur ++ l
  | [], cur => by simp [splitA, joinL]
  | c :: t, cur => by
    rw [splitA]
    split
    · rename_i h
      subst h
      have ih := join_split c t []
      cases hh : splitA c [] t with
      | nil => exact absurd hh (splitA_ne c t [])
      | cons p r =>
        rw [hh] at ih
        show (bs cur).data.toList ++ c :: joinL c (p :: r) = _
        rw [ih, bs_list]; simp
    · rw [join_split b t (cur ++ [c])]; simp
theorem split_len (b : UInt8) : ∀ (l cur : List UInt8), (splitA b cur l).length ≤ l.length + 1
  | [], cur => by simp [splitA]
  | c :: t, cur => by
    rw [splitA]
    split
    · have := split_len b t []; simp; omega
    · have := split_len b t (cur ++ [c]); simp; omega
theorem words_len : ∀ (l cur : List UInt8), (wordsA cur l).length ≤ l.length + 1
  | [], cur => by rw [wordsA]; split <;> simp
  | c :: t, cur => by
    rw [wordsA]
    split
    · split
      · have := words_len t []; simp; omega
      · have := words_len t []; simp; omega
    · have := words_len t (cur ++ [c]); simp; omega
theorem words_size : ∀ (l cur : List UInt8), ∀ p ∈ wordsA cur l, p.size ≤ cur.length + l.length
  | [], cur, p, hp => by
    rw [wordsA] at hp
    split at hp
    · cases hp
    · rw [List.mem_singleton] at hp; rw [hp, bs_size]; simp
  | c :: t, cur, p, hp => by
    rw [wordsA] at hp
    split at hp
    · split at hp
      · have := words_size t [] p hp; simp at this ⊢; omega
      · rw [List.mem_cons] at hp
        rcases hp with rfl | hp
        · rw [bs_size]; simp
        · have := words_size t [] p hp; simp at this ⊢; omega
    · have := words_size t (cur ++ [c]) p hp; simp at this ⊢; omega
theorem split_size (b : UInt8) : ∀ (l cur : List UInt8), ∀ p ∈ splitA b cur l, p.size ≤ cur.length + l.length
  | [], cur, p, hp => by rw [splitA, List.mem_singleton] at hp; rw [hp, bs_size]; simp
  | c :: t, cur, p, hp => by
    rw [splitA] at hp
    split at hp
    · rw [List.mem_cons] at hp
      rcases hp with rfl | hp
      · rw [bs_size]; simp
      · have := split_size b t [] p hp; simp at this ⊢; omega
    · have := split_size b t (cur ++ [c]) p hp; simp at this ⊢; omega
/-- no part holds the byte -/
theorem split_free (b : UInt8) : ∀ (l cur : List UInt8), (∀ c ∈ cur, c ≠ b) → ∀ p ∈ splitA b cur l, ∀ c ∈ p.data.toList, c ≠ b
  | [], cur, h, p, hp => by rw [splitA, List.mem_singleton] at hp; rw [hp, bs_list]; exact h
  | c :: t, cur, h, p, hp => by
    rw [splitA] at hp
    split at hp
    · rw [List.mem_cons] at hp
      rcases hp with rfl | hp
      · rw [bs_list]; exact h
      · exact split_free b t [] (fun _ h => by cases h) p hp
    · rename_i hc
      refine split_free b t (cur ++ [c]) (fun d hd => ?_) p hp
      rw [List.mem_append, List.mem_singleton] at hd
      rcases hd with hd | rfl
      · exact h d hd
      · exact hc
/-- a text cut at the first such byte -/
def cutA (b : UInt8) : List UInt8 → List UInt8 → ByteArray × ByteArray × Bool
  | cur, [] => (bs cur, bs [], false)
  | cur, c :: t => if c = b then (bs cur, bs t, true) else cutA b (cur ++ [c]) t
theorem cutA_skip {b : UInt8} : ∀ (a cur t : List UInt8), (∀ c ∈ a, c ≠ b) → cutA b cur (a ++ t) = cutA b (cur ++ a) t
  | [], cur, t, _ => by simp
  | c :: a, cur, t, h => by
    rw [List.cons_append, cutA, if_neg (h c (by simp)), cutA_skip a (cur ++ [c]) t fun d hd => h d (by simp [hd])]
    simp
theorem cutA_part {b : UInt8} (a t : List UInt8) (h : ∀ c ∈ a, c ≠ b) : cutA b [] (a ++ b :: t) = (bs a, bs t, true) := by
  rw [cutA_skip a [] _ h, cutA, if_pos rfl]; simp
theorem cutA_none {b : UInt8} (a : List UInt8) (h : ∀ c ∈ a, c ≠ b) : cutA b [] a = (bs a, bs [], false) := by
  have := cutA_skip a [] [] h
  simpa [cutA] using this
theorem cutA_join (b : UInt8) : ∀ (l cur : List UInt8), (cutA b cur l).2.2 = true → (cutA b cur l).1.data.toList ++ b :: (cutA b cur l).2.1.data.toList = cur ++ l
  | [], cur, h => by simp [cutA] at h
  | c :: t, cur, h => by
    rw [cutA] at h ⊢
    split
    · rename_i hc
      subst hc
      simp
    · rename_i hc
      rw [if_neg hc] at h
      rw [cutA_join b t (cur ++ [c]) h]; simp
theorem cutA_free (b : UInt8) : ∀ (l cur : List UInt8), (∀ c ∈ cur, c ≠ b) → ∀ c ∈ (cutA b cur l).1.data.toList, c ≠ b
  | [], cur, h => by rw [cutA, bs_list]; exact h
  | c :: t, cur, h => by
    rw [cutA]
    split
    · rw [bs_list]; exact h
    · rename_i hc
      refine cutA_free b t (cur ++ [c]) fun d hd => ?_
      rw [List.mem_append, List.mem_singleton] at hd
      rcases hd with hd | rfl
      · exact h d hd
      · exact hc
theorem cutA_size (b : UInt8) : ∀ (l cur : List UInt8), (cutA b cur l).1.size ≤ cur.length + l.length ∧ (cutA b cur l).2.1.size ≤ l.length
  | [], cur => by rw [cutA]; simp [bs_size]
  | c :: t, cur => by
    rw [cutA]
    split
    · simp [bs_size]
    · have := cutA_size b t (cur ++ [c])
      simp at this ⊢
      omega
end Go.Proofs.YtiagckbdofeecaaDoor

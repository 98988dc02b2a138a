/-
  Lists of entries as cells. No condition.
-/
import Derived.Test.YtbianlkenallaaaDoorEnt0
namespace Go.Proofs.YtbianlkenallaaaDoor
open Go.RowKit
def encs (l : List Entry) : List Value := l.flatMap Entry.cells
theorem en_clen (h : Entry) : h.cells.length = 3 := rfl
theorem en_len (l : List Entry) : (encs l).length = l.length * 3 := flat_len en_clen l
theorem en_one (l : List Entry) : ∀ u ∈ encs l, u.oneCell' = true := by
  intro u hu
  simp only [encs, List.mem_flatMap, Entry.cells, List.mem_cons, List.not_mem_nil, or_false] at hu
  obtain ⟨a, _, rfl | rfl | rfl⟩ := hu <;> rfl
theorem en_at {w : World} {A : Option Addr} {l : List Entry} (h : Rds w 3 A l.length (encs l)) {k : Nat} (hk : k < l.length) :
    ∃ b off, A = some ⟨b, off, none⟩ ∧ b < w.heap.size ∧ w.cell? ⟨b, off + k * 3, none⟩ = some (i64 l[k].day) ∧ w.cell? ⟨b, off + k * 3 + 1, none⟩ = some (.string l[k].what) ∧ w.cell? ⟨b, off + k * 3 + 2, none⟩ = some (i64 l[k].value) := by
  obtain ⟨b, off, e, hb, hc⟩ := rds_elem en_clen h hk (by omega)
  exact ⟨b, off, e, hb, hc 0 _ rfl, hc 1 _ rfl, hc 2 _ rfl⟩
end Go.Proofs.YtbianlkenallaaaDoor

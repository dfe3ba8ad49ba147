import Derived.Test.YtpdpampmbdgofaaTWords
namespace Go.Proofs.YtpdpampmbdgofaaW.Marks
open Go.RowKit
/-- A block of one of these types is none of another type's. -/
theorem bound_ne {W : World} {g t : Nat} {E : List Nat} {cs : Array Value} (h : ∃ q, q ∈ E ∧ ∃ cells, W.heap[g]? = some (.cells cells q (0, 0))) (hb : W.heap[g]? = some (.cells cs t (0, 0))) (ht : ∀ q, q ∈ E → q ≠ t) : False := by
  obtain ⟨q, hq, cells, hc⟩ := h
  rw [hc] at hb
  injection hb with hb
  injection hb with _ hb
  exact ht q hq hb
end Go.Proofs.YtpdpampmbdgofaaW.Marks

/- An argument that is a slice of whole numbers, as a row in memory: nothing of the program. -/
import Derived.Test.YtdajadfgiifioaaDoorRead
import Derived.Test.YtdajadfgiifioaaDoorLists
namespace Go.Proofs.YtdajadfgiifioaaDoor
open Go.RowKit
theorem intsAt_of {w : World} {k : IntKind} {v : Value} (h : RdV w (.slice 1 (.int k)) v) : ∃ xs : List Int, RowAt w 1 v xs.length (xs.map (Value.int k)) ∧ ∀ x ∈ xs, (Lit.int k x).wf = true := by
  obtain ⟨a, n, cap, F, rfl, h1, h2, h3⟩ := rd_slice (n := 0) h
  by_cases hn : n = 0
  · subst hn
    exact ⟨[], ⟨by simp, .inl ⟨⟨a, cap, rfl, h2⟩, rfl⟩⟩, by simp⟩
  rcases h3 with h3 | ⟨b, o, rfl, hb, hF⟩
  · exact absurd h3 hn
  · have hX : ∀ i, ∃ x : Int, i < n → F i = [.int k x] ∧ (Lit.int k x).wf = true := fun i => by
      by_cases hi : i < n
      · obtain ⟨h4, h5, y, h6, h7⟩ := hF i hi
        exact ⟨y, fun _ => ⟨h6, h7⟩⟩
      · exact ⟨0, fun h => absurd h hi⟩
    obtain ⟨X, hX⟩ := Classical.axiomOfChoice hX
    refine ⟨(List.range n).map X, ⟨by simp, .inr ⟨b, o, cap, by simp, by simpa using h1, h2, hb, fun i hi => ?_⟩⟩, fun x hx => ?_⟩
    · have hi : i < n := by simpa using hi
      obtain ⟨h4, h5, _⟩ := hF i hi
      have h8 := h5 0 (by omega)
      simp only [Nat.zero_add, Nat.mul_one, Nat.add_zero] at h8
      rw [h8, (hX i hi).1]
      simp [hi]
    · obtain ⟨i, hi, rfl⟩ := List.mem_map.1 hx
      exact (hX i (by simpa using hi)).2
end Go.Proofs.YtdajadfgiifioaaDoor

/- Spans of a plan lie apart: plain. -/
import Derived.Test.YtpeajlponlmceaaLay10
import Derived.Test.YtpeajlponlmceaaRApart
namespace Go.Proofs.Ytpeajlponlmceaa
open Go.RowKit
set_option linter.unusedSimpArgs false
set_option linter.unusedVariables false

theorem sum_nonneg (l : List Int) (h : ∀ x ∈ l, 0 ≤ x) : 0 ≤ l.sum := by
  induction l with
  | nil => simp
  | cons s r ih =>
    have h1 := h s (by simp)
    have h2 := ih fun x hx => h x (by simp [hx])
    rw [List.sum_cons]; omega
theorem plan_nonneg {C : Cfg} (h : accB C = true) : ∀ s ∈ sizesC C, 0 ≤ s := fun s hs => by
  rcases List.mem_append.1 hs with hs | hs
  · obtain ⟨p, hp, rfl⟩ := List.mem_map.1 hs
    exact ((acc_of h).parts p hp).2.1
  · obtain ⟨x, hx, hy⟩ := List.mem_flatMap.1 hs
    have := chn_small h hx
    simp only [pairL, List.mem_cons, List.not_mem_nil, or_false] at hy
    rcases hy with rfl | rfl <;> omega
theorem spansAt_row {w : World} {a : Option Addr} {n cap : Nat} {l : List (Int × Int)} (hl : l.length = n) (h : RowAt w 2 (.slice a n cap) n (l.flatMap spanC)) : SpansAt w a n (fun i => (l.getD i (0, 0)).1) (fun i => (l.getD i (0, 0)).2) := by
  by_cases hn : n = 0
  · exact .inl hn
  · obtain ⟨g, o, ha, hg, hc⟩ := h.at (by omega)
    refine .inr ⟨g, o, ha, hg, fun i hi => ?_⟩
    have h1 := hc (i * 2 + 0) (by omega)
    have h2 := hc (i * 2 + 1) (by omega)
    rw [flat_at spanC 2 spanC_len l i 0 (by omega) (by omega)] at h1
    rw [flat_at spanC 2 spanC_len l i 1 (by omega) (by omega)] at h2
    dsimp only
    rw [getD_at _ _ _ (by omega : i < l.length)]
    exact ⟨h1, by rw [Nat.add_assoc]; exact h2⟩
theorem apart_of {n : Nat} {F S : Nat → Int} (h : ∀ i j, i < j → j < n → F i + S i ≤ F j) : apartB n F S = true := apartB_true fun i hi j hj => by
  have h1 := h j i hj hi
  rw [← Bool.not_eq_true, meetsB_true]
  omega
theorem sum_take_le (l : List Int) (h : ∀ x ∈ l, 0 ≤ x) (i j : Nat) (hij : i ≤ j) : (l.take i).sum ≤ (l.take j).sum := by
  obtain ⟨d, rfl⟩ : ∃ d, j = i + d := ⟨j - i, by omega⟩
  rw [List.take_add, List.sum_append]
  have := sum_nonneg ((l.drop i).take d) fun x hx => h x (List.mem_of_mem_drop (List.mem_of_mem_take hx))
  omega
theorem planL_at {C : Cfg} (h : accB C = true) (i : Nat) (hi : i < (planL C).length) : (planL C)[i] = (((sizesC C).take i).sum, (sizesC C).getD i 0) ∧ i < (sizesC C).length := by
  have hl : i < (sizesC C).length := by rw [planL_len C h] at hi; rw [sizesC_len]; exact hi
  have h1 : (planL C)[i]? = some (0 + ((sizesC C).take i).sum, (sizesC C)[i]) := by rw [planL, if_pos h, spansF_at _ i hl]
  rw [List.getElem?_eq_getElem hi, Option.some.injEq, Int.zero_add] at h1
  exact ⟨by rw [h1, getD_at _ _ _ hl], hl⟩
theorem plan_apart {C : Cfg} (h : accB C = true) : apartB (planL C).length (fun i => ((planL C).getD i (0, 0)).1) (fun i => ((planL C).getD i (0, 0)).2) = true := apart_of fun i j hij hj => by
  obtain ⟨h1, h2⟩ := planL_at h i (by omega)
  obtain ⟨h3, h4⟩ := planL_at h j hj
  rw [getD_at _ _ _ (by omega : i < (planL C).length), getD_at _ _ _ hj, h1, h3]
  show ((sizesC C).take i).sum + (sizesC C).getD i 0 ≤ ((sizesC C).take j).sum
  have h5 := sum_take_le (sizesC C) (plan_nonneg h) (i + 1) j (by omega)
  rw [List.take_succ_eq_append_getElem h2, List.sum_append, List.sum_cons, List.sum_nil, ← getD_at _ _ 0 h2] at h5
  omega
/-- n pieces of z words each, one behind the other. -/
def pcs (b z : Int) (n : Nat) : List (Int × Int) := (List.range n).map fun i : Nat => (b + (i : Int) * z, z)
theorem pcs_len (b z : Int) (n : Nat) : (pcs b z n).length = n := by simp [pcs]
theorem pcs_at (b z : Int) (n i : Nat) (h : i < n) : (pcs b z n).getD i (0, 0) = (b + (i : Int) * z, z) := by
  rw [List.getD_eq_getElem?_getD, pcs, List.getElem?_map, List.getElem?_range h]; rfl
theorem pcs_snoc (b z : Int) (n : Nat) : (pcs b z (n + 1)).flatMap spanC = (pcs b z n).flatMap spanC ++ [.int .i64 (b + (n : Int) * z), .int .i64 z] := by
  rw [pcs, List.range_succ, List.map_append, List.flatMap_append]; simp [pcs, spanC]
theorem mul_step (z : Int) (hz : 0 ≤ z) (i j : Nat) (h : i < j) : (i : Int) * z + z ≤ (j : Int) * z := by
  have h1 : ((i : Int) + 1) * z ≤ (j : Int) * z := Int.mul_le_mul_of_nonneg_right (by omega) hz
  rw [Int.add_mul, Int.one_mul] at h1; exact h1
theorem pcs_apart (b z : Int) (hz : 0 ≤ z) (n : Nat) : apartB n (fun i => ((pcs b z n).getD i (0, 0)).1) (fun i => ((pcs b z n).getD i (0, 0)).2) = true := apart_of fun i j hij hj => by
  rw [pcs_at b z n i (by omega), pcs_at b z n j hj]
  have := mul_step z hz i j hij
  dsimp only; omega
theorem pcs_in (b z : Int) (n i : Nat) (h : i < n) (hb : 0 ≤ b ∧ b ≤ 5000) (hz : 1 ≤ z ∧ z ≤ 20) (hn : n ≤ 8) : lieB (b + (i : Int) * z) z b ((n : Int) * z) = true ∧ 0 ≤ (i : Int) * z ∧ (i : Int) * z ≤ 160 ∧ 0 ≤ (n : Int) * z ∧ (n : Int) * z ≤ 160 := by
  have h1 := mul_step z (by omega) i n h
  have h2 : 0 ≤ (i : Int) * z := Int.mul_nonneg (by omega) (by omega)
  have h3 : (n : Int) * z ≤ 8 * 20 := Int.mul_le_mul (by omega) hz.2 (by omega) (by omega)
  refine ⟨lieB_true.2 fun _ => ?_, h2, by omega, by omega, by omega⟩
  omega
/-- A channel's pieces: what stands ahead of them, their size, and how many there are. -/
theorem buf_pcs {C : Cfg} (h : accB C = true) (k : Nat) (hk : k < C.chans.length) (hkd : (C.chans.getD k default).kind = 1) (a b i : Nat) (ha : a ≤ 1) (hb : b ≤ 1) (hi : i = 2 * a + b) :
    bufB C k a b = (befC C k + 3 + (i : Int) * (2 + (C.chans.getD k default).words), 2 + (C.chans.getD k default).words) := by
  rw [bufB_yes C k a b ⟨h, hk, hkd, by omega, by omega⟩, hi]
  have : ((2 * a + b : Nat) : Int) = 2 * (a : Int) + (b : Int) := by omega
  rw [this]
  exact congrArg (fun z => (z, 2 + (C.chans.getD k default).words)) (by omega)
theorem cell_pcs {C : Cfg} (h : accB C = true) (k : Nat) (hk : k < C.chans.length) (hkd : (C.chans.getD k default).kind = 2) (i : Nat) (hi : (i : Int) < (C.chans.getD k default).depth) :
    cellB C k i = (befC C k + 1 + (i : Int) * (1 + (C.chans.getD k default).words), 1 + (C.chans.getD k default).words) := by
  rw [cellB_yes C k i ⟨h, hk, hkd, by omega, hi⟩]
  exact congrArg (fun z => (z, 1 + (C.chans.getD k default).words)) (by omega)
end Go.Proofs.Ytpeajlponlmceaa

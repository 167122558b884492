/- Contracts of package layout: the spans, one by one. -/
import Derived.Test.YtdajadfgiifioaaDoorLay2
namespace Go.Proofs.YtdajadfgiifioaaDoor
open Go.RowKit
set_option linter.unusedSimpArgs false
set_option linter.unusedVariables false

theorem of_any (cv : Value) (C : Cfg) (hsm : C.small) (w : World) (h : CfgAt w cv C) : Calls Tryd.prog 85 #[cv] w fun e w' => ∃ v, e = .returned (.agg #[.int .i64 (planN C : Nat), v, .int .i64 (planE C)]) ∧ w'.ownsRow w.heap.size 85 2 v (planL C).length ((planL C).flatMap spanC) ∧ Below w.heap.size w w' := by
  cases ha : accB C with
  | true => exact (of_yes cv C hsm ha w h).mono fun e w' ⟨⟨v, he, ho⟩, hb⟩ => ⟨v, by rw [he, planN_acc C ha], ho, hb⟩
  | false => exact (of_no cv C hsm ha w h).mono fun e w' ⟨he, hb⟩ => ⟨.slice none 0 0, by rw [he, planN_no C ha, planE_no C ha]; rfl, by rw [planL_no C ha]; exact World.ownsRow_nil _ _ _ _, hb⟩

set_option maxRecDepth 100000 in
set_option maxHeartbeats 1000000 in
theorem at_no (P E : Int) (v : Value) (f i m : Int) (hi : ¬ (0 ≤ i ∧ i < m)) (w : World) : Calls Tryd.prog 86 #[.agg #[.int .i64 P, v, .int .i64 E], .int .i64 f, .int .i64 i, .int .i64 m] w fun e w' => e = .returned (.agg #[.int .i64 0, .int .i64 0]) ∧ Below w.heap.size w w' := by
  by_cases h1 : i < 0
  · go_enter Tryd.func86, Tryd.ntmps86
    go_wp2
    exact bodyPost_ret (v := .agg #[.int .i64 0, .int .i64 0]) (results_cell_row rfl _ _ _ _ _ _ _ rfl (blk_at (w := (w.alloc (.cells #[.int .i64 P, v, .int .i64 E] 145))) (by simp) _) Tryd.underlying85 rfl (by kernel_rfl)) rfl ⟨rfl, (by repeat (first | exact Below.refl _ _ | apply below_al))⟩
  · have h2 : decide (i < 0) = false := decide_eq_false h1
    have h3 : m ≤ i := by omega
    go_enter Tryd.func86, Tryd.ntmps86
    go_wp2
    exact bodyPost_ret (v := .agg #[.int .i64 0, .int .i64 0]) (results_cell_row rfl _ _ _ _ _ _ _ rfl (blk_at (w := (w.alloc (.cells #[.int .i64 P, v, .int .i64 E] 145))) (by simp) _) Tryd.underlying85 rfl (by kernel_rfl)) rfl ⟨rfl, (by repeat (first | exact Below.refl _ _ | apply below_al))⟩
set_option maxRecDepth 100000 in
set_option maxHeartbeats 1000000 in
theorem at_yes (P E : Int) (v : Value) (L : List (Int × Int)) (f i : Nat) (m : Int) (hf : f ≤ 1) (hi : (i : Int) < m) (hj : f + i < L.length) (hl : L.length ≤ 1000) (s : Int × Int) (hs : L[f + i]? = some s) (w : World) (h : RowAt w 2 v L.length (L.flatMap spanC)) :
    Calls Tryd.prog 86 #[.agg #[.int .i64 P, v, .int .i64 E], .int .i64 f, .int .i64 i, .int .i64 m] w fun e w' => e = .returned (.agg #[.int .i64 s.1, .int .i64 s.2]) ∧ Below w.heap.size w w' := by
  obtain ⟨va, vc, rfl, hv1, hv2⟩ := h.shape
  obtain ⟨g, o, rfl, hg, hc⟩ := h.at (by omega)
  have hsx : L[f + i] = s := by rw [List.getElem?_eq_getElem hj] at hs; exact Option.some.inj hs
  have e0 : w.cell? ⟨g, o + (f + i) * 2, none⟩ = some (.int .i64 s.1) := by
    have h1 := hc ((f + i) * 2 + 0) (by omega)
    rw [flat_at spanC 2 spanC_len L (f + i) 0 hj (by omega), hsx] at h1
    exact h1
  have e1 : w.cell? ⟨g, o + (f + i) * 2 + 1, none⟩ = some (.int .i64 s.2) := by
    have h1 := hc ((f + i) * 2 + 1) (by omega)
    rw [flat_at spanC 2 spanC_len L (f + i) 1 hj (by omega), hsx] at h1
    exact h1
  obtain ⟨j, hj'⟩ : ∃ j, f + i = j := ⟨_, rfl⟩
  have s1 : IntKind.i64.wrap ((f : Int) + (i : Int)) = (j : Int) := by rw [← hj']; exact (IntWalk.i64_in _ (by omega)).trans (by omega)
  rw [hj'] at e0 e1 hj
  have h2 : decide ((i : Int) < 0) = false := decide_eq_false (by omega)
  have h3 : decide (m ≤ (i : Int)) = false := decide_eq_false (by omega)
  have k0 : (0 : Int) ≤ (j : Int) := by omega
  have k1 : (j : Int) < (L.length : Int) := by omega
  clear hsx hs hc hj' h
  go_enter Tryd.func86, Tryd.ntmps86
  go_wp2
  exact bodyPost_ret (v := .agg #[.int .i64 s.1, .int .i64 s.2]) (results_cell_row rfl _ _ _ _ _ _ _ rfl (blk_at (w := (w.alloc (.cells #[.int .i64 P, .slice (some ⟨g, o, none⟩) L.length vc, .int .i64 E] 145))) (by simp) _) Tryd.underlying85 rfl (by kernel_rfl)) rfl ⟨rfl, (by repeat (first | exact Below.refl _ _ | apply below_al))⟩
/-- Every second one. -/
def pickL (L : List (Int × Int)) (p n : Nat) : List (Int × Int) := (List.range n).map fun j => L.getD (p + j * 2) (0, 0)
theorem pickL_len (L : List (Int × Int)) (p n : Nat) : (pickL L p n).length = n := by simp [pickL]
theorem pickL_succ (L : List (Int × Int)) (p n : Nat) (s : Int × Int) (h : L[p + n * 2]? = some s) : (pickL L p (n + 1)).flatMap spanC = (pickL L p n).flatMap spanC ++ spanC s := by
  rw [pickL, List.range_succ, List.map_append, List.flatMap_append]
  simp [pickL, List.getD_eq_getElem?_getD, h]

end Go.Proofs.YtdajadfgiifioaaDoor

/- Contracts of the reference's row of whole numbers, and of the law's example. -/
import Derived.Test.YtimikgencnkcnabRows
import Derived.Test.YtimikgencnkcnabSl
import Derived.Test.YtimikgencnkcnabFifo
import Derived.BigQuiet
import Derived.Deep.QuietTactic
namespace Go.Proofs.Ytimikgencnkcnab
open Go.RowKit
set_option linter.unusedSimpArgs false
set_option linter.unusedVariables false

/-- The reference's row in block X holds q. -/
def RQ (w : World) (X : Nat) (most : Int) (q : List Int) : Prop := ∃ v, w.heap[X]? = some (.cells #[.int .i64 most, v] 40 (0, 0)) ∧ SlAt w (X + 1) 3 1 v q.length (i64s q)
theorem RQ.but {S : List Nat} {w w1 : World} {X : Nat} {most : Int} {q : List Int} (h : RQ w X most q) (hb : ButS S w w1) (hS : ∀ b, b ∈ S → b < X) : RQ w1 X most q := by
  obtain ⟨v, h1, h2⟩ := h
  exact ⟨v, hb.blk h1 fun hm => by have := hS X hm; omega, h2.but hb fun b hm => by have := hS b hm; omega⟩
theorem QAt.low {w w1 : World} {B D cap X : Nat} {q : List Int} (h : QAt w B D cap q) (hb : Below X w w1) (h1 : B < X) (h2 : D < X) : QAt w1 B D cap q := by
  obtain ⟨rs, first, hr, hq⟩ := h
  exact ⟨rs, first, ⟨(hb.block B h1).trans hr.head, (hb.block D h2).trans hr.ring, hr.len, hr.pos, hr.most, hr.lt, hr.le⟩, hq⟩
theorem RQ.below {w w1 : World} {X : Nat} {most : Int} {q : List Int} (h : RQ w X most q) (hb : Below w.heap.size w w1) : RQ w1 X most q := h.but (S := []) (ButS.of_below hb) (by simp)

set_option maxHeartbeats 400000 in
theorem refPut_full (X : Nat) (most : Int) (q : List Int) (x : Int) (w : World) (h : RQ w X most q) (hq : most ≤ q.length) : Calls Try.prog 15 #[.pointer (some ⟨X, 0, none⟩), .int .i64 x] w fun e w' => e = .returned (.bool false) ∧ Below w.heap.size w w' := by
  obtain ⟨v, h1, h2⟩ := h
  obtain ⟨a, cap, rfl, hc1, hc2⟩ := h2.row.shape
  have c0 : w.cell? ⟨X, 0, none⟩ = some (.int .i64 most) := (cell_blk h1 0).trans rfl
  have c1 : w.cell? ⟨X, 1, none⟩ = some (.slice a q.length cap) := (cell_blk h1 1).trans rfl
  clear h1 h2
  go_enter Try.func15, Try.ntmps15
  go_wp2_with fail
  go_quiet (fail)
  go_wp2
  go_ret
  exact ⟨rfl, below_drN (Below.refl _ _)⟩

set_option maxHeartbeats 1000000 in
theorem refPut_room (X : Nat) (most : Int) (q : List Int) (x : Int) (w : World) (h : RQ w X most q) (hq : (q.length : Int) < most) (hl : q.length ≤ 5000) : Calls Try.prog 15 #[.pointer (some ⟨X, 0, none⟩), .int .i64 x] w fun e w' =>
    e = .returned (.bool true) ∧ Below X w w' ∧ Kp (RQ w' X most (q ++ [x])) := by
  obtain ⟨v, h1, h2⟩ := h
  obtain ⟨a, cap, rfl, hc1, hc2⟩ := h2.row.shape
  have c0 : w.cell? ⟨X, 0, none⟩ = some (.int .i64 most) := (cell_blk h1 0).trans rfl
  have c1 : w.cell? ⟨X, 1, none⟩ = some (.slice a q.length cap) := (cell_blk h1 1).trans rfl
  obtain ⟨i0, hi, hz0, hz1, hz2⟩ := info_parts Try.infoInt
  have H1 := Kp.mk h1
  have H2 := Kp.mk h2
  have hX := blk_lt h1
  clear h1 h2
  go_enter Try.func15, Try.ntmps15
  go_wp2_with fail
  go_quiet (fail)
  go_wp2_with (at_builtin; refine wpList_append_sl _ rfl _ _ 22 rfl (X + 1) 3 i0 (.int .i64 0) 1 8 Try.underlying22 hi hz0 hz1 hz2 rfl (by decide) _ _ _ rfl (SlAt.al H2.out _) ⟨w.heap.size, 0, none⟩ 1 1 [.int .i64 x] rfl rfl (cell_one_new _ _ _) (by simp [Value.oneCell']) (by unfold maxLen; omega) (by omega) (by simp; omega) ?_; intro v' w1 hv' hb1; obtain ⟨a', cap', rfl, hc1', hc2'⟩ := hv'.row.shape; have k1 := (hb1.block X (by omega)).trans (blk_al H1.out _); have d1 : w1.cell? ⟨X, 1, none⟩ = some (.slice a q.length cap) := (cell_blk k1 1).trans rfl; have f1 : w1.frozen? ⟨X, 1, none⟩ = false := frozen_blk k1 1)
  go_ret
  refine ⟨rfl, (((below_drN (Below.refl X w)).alloc (by simp; omega) _).trans (hb1.mono (Nat.le_succ X))).setCell (Nat.le_refl _) _, ⟨_, (blk_set k1 1 _).trans rfl, ?_⟩⟩
  have h := hv'.set (p := ⟨X, 1, none⟩) (by simp) (.slice a' (q.length + 1) cap')
  rw [List.length_append, i64s, List.map_append]
  exact h

set_option maxHeartbeats 400000 in
theorem refTake_none (X : Nat) (most : Int) (w : World) (h : RQ w X most []) : Calls Try.prog 17 #[.pointer (some ⟨X, 0, none⟩)] w fun e w' => e = .returned (.tuple #[.int .i64 0, .bool false]) ∧ w' = w := by
  obtain ⟨v, h1, h2⟩ := h
  obtain ⟨a, cap, rfl, hc1, hc2⟩ := h2.row.shape
  have c1 : w.cell? ⟨X, 1, none⟩ = some (.slice a 0 cap) := (cell_blk h1 1).trans rfl
  clear h1 h2
  go_enter Try.func17, Try.ntmps17
  go_wp2
  go_ret2
  exact ⟨rfl, rfl⟩

set_option maxHeartbeats 1000000 in
theorem refTake_some (X : Nat) (most : Int) (x : Int) (q : List Int) (w : World) (h : RQ w X most (x :: q)) : Calls Try.prog 17 #[.pointer (some ⟨X, 0, none⟩)] w fun e w' =>
    e = .returned (.tuple #[.int .i64 x, .bool true]) ∧ Below X w w' ∧ Kp (RQ w' X most q) := by
  obtain ⟨v, h1, h2⟩ := h
  obtain ⟨a, cap, rfl, hc1, hc2⟩ := h2.row.shape
  rw [List.length_cons] at h2 hc1
  have c1 : w.cell? ⟨X, 1, none⟩ = some (.slice a (q.length + 1) cap) := (cell_blk h1 1).trans rfl
  have f1 : w.frozen? ⟨X, 1, none⟩ = false := frozen_blk h1 1
  obtain ⟨i0, hi, hz0, hz1, hz2⟩ := info_parts Try.infoInt
  have hsl := fun w => run_slice_from 22 3 Try.underlying22 hi a q.length cap (by omega) w
  rw [hz1] at hsl
  obtain ⟨g, o, rfl, hg, hcc⟩ := h2.row.at (by omega)
  have c2 : w.cell? ⟨g, o, none⟩ = some (.int .i64 x) := (hcc 0 (by omega)).trans rfl
  have ht := SlAt.tail h2
  by_cases hcap : cap = 1
  · subst hcap
    simp only [↓reduceIte, Nat.sub_self] at hsl ht
    have H1 := Kp.mk h1
    have H2 := Kp.mk ht
    have hX := blk_lt h1
    clear h1 h2 ht hcc
    go_enter Try.func17, Try.ntmps17
    go_wp2
    go_ret2
    refine ⟨rfl, (Below.refl X w).setCell (Nat.le_refl _) _, ⟨_, (blk_set H1.out 1 _).trans rfl, ?_⟩⟩
    exact H2.out.set (p := ⟨X, 1, none⟩) (by simp) _
  · simp only [if_neg hcap, Option.map_some, add_at] at hsl ht
    have H1 := Kp.mk h1
    have H2 := Kp.mk ht
    have hX := blk_lt h1
    clear h1 h2 ht hcc
    go_enter Try.func17, Try.ntmps17
    go_wp2
    go_ret2
    refine ⟨rfl, (Below.refl X w).setCell (Nat.le_refl _) _, ⟨_, (blk_set H1.out 1 _).trans rfl, ?_⟩⟩
    exact H2.out.set (p := ⟨X, 1, none⟩) (by simp) _
end Go.Proofs.Ytimikgencnkcnab

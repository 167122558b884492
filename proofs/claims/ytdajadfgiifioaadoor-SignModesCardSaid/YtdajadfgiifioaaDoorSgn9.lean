/- The signs' laws: the example. -/
import Derived.Test.YtdajadfgiifioaaDoorSgn6
namespace Go.Proofs.YtdajadfgiifioaaDoor
open Go.RowKit
set_option linter.unusedSimpArgs false
set_option linter.unusedVariables false
theorem row_blk {w : World} {b : Nat} {cs : Array Value} {ty : TypeId} {fz : Nat × Nat} {k n : Nat} {xs : List Value} (h : w.heap[b]? = some (.cells cs ty fz)) (hx : cs.toList = xs) (hl : xs.length = n * k) (hn : n ≤ 100) : RowAt w k (.slice (some ⟨b, 0, none⟩) n n) n xs :=
  ⟨hl, .inr ⟨b, 0, n, rfl, Nat.le_refl _, by unfold maxLen; omega, blk_lt h, fun i hi => by rw [Nat.zero_add, cell_blk h i, ← hx, Array.getElem?_toList]⟩⟩

def exB : Cfg := ⟨[(0, 2), (1, 0)], [⟨1, 0, 1, 3, 0, 0, 0⟩], 1, [⟨0, 0, 1⟩], 1, [⟨1, 0, 1⟩]⟩
theorem exB_ok : Cfg.ok exB := ⟨fun p hp => by simp only [exB, List.mem_cons, List.not_mem_nil, or_false] at hp; rcases hp with rfl | rfl <;> exact ⟨rfl, rfl⟩, fun x hx => by simp only [exB, List.mem_cons, List.not_mem_nil, or_false] at hx; subst hx; exact ⟨rfl, rfl, rfl, rfl, rfl, rfl, rfl⟩, rfl, rfl, fun x hx => by simp only [exB, List.mem_cons, List.not_mem_nil, or_false] at hx; subst hx; exact ⟨rfl, rfl, rfl⟩, fun x hx => by simp only [exB, List.mem_cons, List.not_mem_nil, or_false] at hx; subst hx; exact ⟨rfl, rfl, rfl⟩⟩
set_option maxRecDepth 100000 in
set_option maxHeartbeats 4000000 in
theorem example10_any (w : World) : Calls Tryd.prog 27 #[] w fun e w' => ∃ cs : Array Value, e = .returned (.agg cs) ∧ CfgAt w' (.agg cs) exB ∧ Below w.heap.size w w' := by
  go_enter Tryd.func27, Tryd.ntmps27
  go_wp2
  refine bodyPost_ret (v := .agg #[.slice (some ⟨w.heap.size + 1, 0, none⟩) 2 2, .slice (some ⟨w.heap.size + 1 + 1, 0, none⟩) 1 1, .int .i64 1, .slice (some ⟨w.heap.size + 1 + 1 + 1 + 1, 0, none⟩) 1 1, .int .i64 1, .slice (some ⟨w.heap.size + 1 + 1 + 1 + 1 + 1, 0, none⟩) 1 1]) (results_cell_row rfl _ _ _ _ _ _ _ rfl (blk_al (blk_al (blk_al (blk_al (blk_al (blk_new _ _) _) _) _) _) _) Tryd.underlying29 rfl (by kernel_rfl)) rfl ⟨_, rfl, ⟨exB_ok, _, 2, _, 1, _, 1, _, 1, rfl, ?_, ?_, ?_, ?_, ?_, ?_, ?_, ?_⟩, (by repeat (first | exact Below.refl _ _ | apply below_al))⟩
  · exact ⟨Nat.le_refl _, by unfold maxLen; omega⟩
  · exact ⟨Nat.le_refl _, by unfold maxLen; omega⟩
  · exact ⟨Nat.le_refl _, by unfold maxLen; omega⟩
  · exact ⟨Nat.le_refl _, by unfold maxLen; omega⟩
  · exact row_blk (blk_al (blk_al (blk_al (blk_al (blk_at (w := (w.alloc (.cells #[.slice (some ⟨w.heap.size + 1, 0, none⟩) 2 2, .slice (some ⟨w.heap.size + 1 + 1, 0, none⟩) 1 1, .int .i64 1, .slice (some ⟨w.heap.size + 1 + 1 + 1 + 1, 0, none⟩) 1 1, .int .i64 1, .slice (some ⟨w.heap.size + 1 + 1 + 1 + 1 + 1, 0, none⟩) 1 1] 29))) (by simp) _) _) _) _) _) rfl rfl (by decide)
  · exact row_blk (blk_al (blk_al (blk_al (blk_at (w := ((w.alloc (.cells #[.slice (some ⟨w.heap.size + 1, 0, none⟩) 2 2, .slice (some ⟨w.heap.size + 1 + 1, 0, none⟩) 1 1, .int .i64 1, .slice (some ⟨w.heap.size + 1 + 1 + 1 + 1, 0, none⟩) 1 1, .int .i64 1, .slice (some ⟨w.heap.size + 1 + 1 + 1 + 1 + 1, 0, none⟩) 1 1] 29)).alloc (.cells #[.int .i64 0, .int .i64 2, .int .i64 1, .int .i64 0] 92))) (by simp) _) _) _) _) rfl rfl (by decide)
  · exact row_blk (blk_al (blk_at (w := ((((w.alloc (.cells #[.slice (some ⟨w.heap.size + 1, 0, none⟩) 2 2, .slice (some ⟨w.heap.size + 1 + 1, 0, none⟩) 1 1, .int .i64 1, .slice (some ⟨w.heap.size + 1 + 1 + 1 + 1, 0, none⟩) 1 1, .int .i64 1, .slice (some ⟨w.heap.size + 1 + 1 + 1 + 1 + 1, 0, none⟩) 1 1] 29)).alloc (.cells #[.int .i64 0, .int .i64 2, .int .i64 1, .int .i64 0] 92)).alloc (.cells #[.int .i64 1, .int .i64 0, .int .i64 1, .int .i64 3, .int .i64 0, .int .i64 0, .int .u32 0] 53)).alloc (.cells #[.slice (some ⟨w.heap.size + 1, 0, none⟩) 2 2, .slice (some ⟨w.heap.size + 1 + 1, 0, none⟩) 1 1, .int .i64 1, .slice (some ⟨w.heap.size + 1 + 1 + 1 + 1, 0, none⟩) 1 1, .int .i64 1, .slice (some ⟨w.heap.size + 1 + 1 + 1 + 1 + 1, 0, none⟩) 1 1] 29))) (by simp) _) _) rfl rfl (by decide)
  · exact row_blk (blk_at (w := (((((w.alloc (.cells #[.slice (some ⟨w.heap.size + 1, 0, none⟩) 2 2, .slice (some ⟨w.heap.size + 1 + 1, 0, none⟩) 1 1, .int .i64 1, .slice (some ⟨w.heap.size + 1 + 1 + 1 + 1, 0, none⟩) 1 1, .int .i64 1, .slice (some ⟨w.heap.size + 1 + 1 + 1 + 1 + 1, 0, none⟩) 1 1] 29)).alloc (.cells #[.int .i64 0, .int .i64 2, .int .i64 1, .int .i64 0] 92)).alloc (.cells #[.int .i64 1, .int .i64 0, .int .i64 1, .int .i64 3, .int .i64 0, .int .i64 0, .int .u32 0] 53)).alloc (.cells #[.slice (some ⟨w.heap.size + 1, 0, none⟩) 2 2, .slice (some ⟨w.heap.size + 1 + 1, 0, none⟩) 1 1, .int .i64 1, .slice (some ⟨w.heap.size + 1 + 1 + 1 + 1, 0, none⟩) 1 1, .int .i64 1, .slice (some ⟨w.heap.size + 1 + 1 + 1 + 1 + 1, 0, none⟩) 1 1] 29)).alloc (.cells #[.int .i64 0, .int .i64 0, .int .i64 1] 94))) (by simp) _) rfl rfl (by decide)
theorem CfgAt.cells {w : World} {cs : Array Value} {C : Cfg} (h : CfgAt w (.agg cs) C) : ∃ v0 v1 v2 v3 v4 v5 : Value, cs = #[v0, v1, v2, v3, v4, v5] ∧ (∃ a n c, v0 = .slice a n c) ∧ (∃ a n c, v1 = .slice a n c) ∧ (∃ n, v2 = .int .i64 n) ∧ (∃ a n c, v3 = .slice a n c) ∧ (∃ n, v4 = .int .i64 n) ∧ ∃ a n c, v5 = .slice a n c := by
  obtain ⟨ho, pa, pc, ca, cc, a0, c0, a1, c1, hv, _⟩ := h
  simp only [Value.agg.injEq] at hv
  exact ⟨_, _, _, _, _, _, hv, ⟨_, _, _, rfl⟩, ⟨_, _, _, rfl⟩, ⟨_, rfl⟩, ⟨_, _, _, rfl⟩, ⟨_, rfl⟩, ⟨_, _, _, rfl⟩⟩
theorem exB_small : exB.small := ⟨by decide, by decide, by decide, by decide⟩
theorem std0 (w : World) (b : Bool) : StdAt w (.agg #[.int .i64 0, .bool b, .slice none 0 0, .slice none 0 0]) ⟨0, b, [], []⟩ :=
  ⟨⟨rfl, by simp, by simp⟩, none, 0, none, 0, rfl, ⟨Nat.le_refl _, by decide⟩, ⟨Nat.le_refl _, by decide⟩, ⟨rfl, .inl ⟨⟨none, 0, rfl, by decide⟩, rfl⟩⟩, ⟨rfl, .inl ⟨⟨none, 0, rfl, by decide⟩, rfl⟩⟩⟩
theorem std1 (w : World) (g : Nat) (h : w.heap[g]? = some (.cells #[.int .i64 0] 3 (0, 0))) : StdAt w (.agg #[.int .i64 0, .bool true, .slice (some ⟨g, 0, none⟩) 1 1, .slice none 0 0]) ⟨0, true, [0], []⟩ :=
  ⟨⟨rfl, by simp; rfl, by simp⟩, some ⟨g, 0, none⟩, 1, none, 0, rfl, ⟨Nat.le_refl _, by decide⟩, ⟨Nat.le_refl _, by decide⟩, row_blk h rfl rfl (by decide), ⟨rfl, .inl ⟨⟨none, 0, rfl, by decide⟩, rfl⟩⟩⟩
theorem rqtW (w : World) (g : Nat) (h : w.heap[g]? = some (.cells #[.int .u32 1] 51 (0, 0))) : RqtAt w (.agg #[.int .i64 3, .int .i64 0, .int .u64 0, .slice (some ⟨g, 0, none⟩) 1 1]) ⟨3, 0, 0, [1]⟩ :=
  ⟨⟨rfl, rfl, by decide, by decide⟩, some ⟨g, 0, none⟩, 1, rfl, ⟨Nat.le_refl _, by decide⟩, row_blk h rfl rfl (by decide)⟩
theorem rqtN (w : World) : RqtAt w (.agg #[.int .i64 2, .int .i64 0, .int .u64 0, .slice none 0 0]) ⟨2, 0, 0, []⟩ :=
  ⟨⟨rfl, rfl, by decide, by decide⟩, none, 0, rfl, ⟨Nat.le_refl _, by decide⟩, ⟨rfl, .inl ⟨⟨none, 0, rfl, by decide⟩, rfl⟩⟩⟩
theorem exB1 : refV exB ⟨0, false, [], []⟩ ⟨3, 0, 0, [1]⟩ = 3 := by decide +kernel
theorem exB2 : refV exB ⟨0, true, [], []⟩ ⟨2, 0, 0, []⟩ = 5 := by decide +kernel
theorem exB3 : refV exB ⟨0, true, [0], []⟩ ⟨3, 0, 0, [1]⟩ = 0 := by decide +kernel
theorem exB4 : nameV 1 = ⟨#[99, 114, 101, 97, 116, 101]⟩ := by decide +kernel
set_option maxRecDepth 100000 in
set_option maxHeartbeats 4000000 in
theorem wakes10_any (w : World) (hN : NamesAt w) : Calls Tryd.prog 10 #[] w fun e w' => e = .returned (.bool true) ∧ Below w.heap.size w w' := by
  have HN := Kp.mk hN
  clear hN
  go_enter Tryd.func10, Tryd.ntmps10
  have HB0 : Kp (Below w.heap.size w w) := ⟨Below.refl _ _⟩
  go_wp2_with fail
  refine (example10_any _).mono ?_
  rintro e w1 ⟨cs, rfl, hC, hb⟩
  have HB1 : Kp (Below w.heap.size w w1) := ⟨below_call HB0.out hb⟩
  have E1 : Kp (CfgAt w1 (.agg cs) exB) := ⟨hC⟩
  clear HB0 hb
  clear hC
  obtain ⟨v0, v1, v2, v3, v4, v5, rfl, ⟨p1, p2, p3, rfl⟩, ⟨p4, p5, p6, rfl⟩, ⟨p7, rfl⟩, ⟨p8, p9, pA, rfl⟩, ⟨pB, rfl⟩, ⟨pC, pD, pE, rfl⟩⟩ := CfgAt.cells E1.out
  go_wp2_with fail
  refine (refused_any _ _ _ exB ⟨0, false, [], []⟩ ⟨3, 0, 0, [1]⟩ exB_small (by decide) (by decide) _ (HN.out.below (below_al (below_al (below_al HB1.out _) _) _)) (((E1.out.below (below_al (Below.refl _ _) _)).below (below_al (Below.refl _ _) _)).below (below_al (Below.refl _ _) _)) (std0 _ false) (rqtW _ _ (blk_al (blk_at (w := (w1.alloc (.cells #[.slice p1 p2 p3, .slice p4 p5 p6, .int .i64 p7, .slice p8 p9 pA, .int .i64 pB, .slice pC pD pE] 29))) (by simp) _) _))).mono ?_
  rw [exB1]
  rintro e w2 ⟨rfl, hb⟩
  have q2 : Kp (w2.heap[w1.heap.size]? = some (.cells #[.slice p1 p2 p3, .slice p4 p5 p6, .int .i64 p7, .slice p8 p9 pA, .int .i64 pB, .slice pC pD pE] 29 (0, 0))) := ⟨blk_below (blk_al (blk_al (blk_new _ _) _) _) hb⟩
  have d2 : Kp (w2.heap[w1.heap.size + 1]? = some (.cells #[.int .u32 1] 51 (0, 0))) := ⟨blk_below (blk_al (blk_at (w := (w1.alloc (.cells #[.slice p1 p2 p3, .slice p4 p5 p6, .int .i64 p7, .slice p8 p9 pA, .int .i64 pB, .slice pC pD pE] 29))) (by simp) _) _) hb⟩
  have u2 : Kp (w2.heap[w1.heap.size + 1 + 1]? = some (.cells #[.int .i64 3, .int .i64 0, .int .u64 0, .slice (some ⟨w1.heap.size + 1, 0, none⟩) 1 1] 44 (0, 0))) := ⟨blk_below (blk_at (w := ((w1.alloc (.cells #[.slice p1 p2 p3, .slice p4 p5 p6, .int .i64 p7, .slice p8 p9 pA, .int .i64 pB, .slice pC pD pE] 29)).alloc (.cells #[.int .u32 1] 51))) (by simp) _) hb⟩
  have HB2 : Kp (Below w.heap.size w w2) := ⟨below_call (below_al (below_al (below_al HB1.out _) _) _) hb⟩
  have E2 : Kp (CfgAt w2 (.agg #[.slice p1 p2 p3, .slice p4 p5 p6, .int .i64 p7, .slice p8 p9 pA, .int .i64 pB, .slice pC pD pE]) exB) := ⟨(((E1.out.below (below_al (Below.refl _ _) _)).below (below_al (Below.refl _ _) _)).below (below_al (Below.refl _ _) _)).below hb⟩
  clear HB1 E1 hb
  have qc0 : w2.cell? ⟨w1.heap.size, 0, none⟩ = some (.slice p1 p2 p3) := (cell_blk q2.out 0).trans rfl
  have qc1 : w2.cell? ⟨w1.heap.size, 1, none⟩ = some (.slice p4 p5 p6) := (cell_blk q2.out 1).trans rfl
  have qc2 : w2.cell? ⟨w1.heap.size, 2, none⟩ = some (.int .i64 p7) := (cell_blk q2.out 2).trans rfl
  have qc3 : w2.cell? ⟨w1.heap.size, 3, none⟩ = some (.slice p8 p9 pA) := (cell_blk q2.out 3).trans rfl
  have qc4 : w2.cell? ⟨w1.heap.size, 4, none⟩ = some (.int .i64 pB) := (cell_blk q2.out 4).trans rfl
  have qc5 : w2.cell? ⟨w1.heap.size, 5, none⟩ = some (.slice pC pD pE) := (cell_blk q2.out 5).trans rfl
  have ql := blk_lt q2.out
  have dc0 : w2.cell? ⟨w1.heap.size + 1, 0, none⟩ = some (.int .u32 1) := (cell_blk d2.out 0).trans rfl
  have dl := blk_lt d2.out
  have uc0 : w2.cell? ⟨w1.heap.size + 1 + 1, 0, none⟩ = some (.int .i64 3) := (cell_blk u2.out 0).trans rfl
  have uc1 : w2.cell? ⟨w1.heap.size + 1 + 1, 1, none⟩ = some (.int .i64 0) := (cell_blk u2.out 1).trans rfl
  have uc2 : w2.cell? ⟨w1.heap.size + 1 + 1, 2, none⟩ = some (.int .u64 0) := (cell_blk u2.out 2).trans rfl
  have uc3 : w2.cell? ⟨w1.heap.size + 1 + 1, 3, none⟩ = some (.slice (some ⟨w1.heap.size + 1, 0, none⟩) 1 1) := (cell_blk u2.out 3).trans rfl
  have ul := blk_lt u2.out
  go_wp2_with fail
  refine (refused_any _ _ _ exB ⟨0, true, [], []⟩ ⟨2, 0, 0, []⟩ exB_small (by decide) (by decide) _ (HN.out.below HB2.out) E2.out (std0 _ true) (rqtN _)).mono ?_
  rw [exB2]
  rintro e w3 ⟨rfl, hb⟩
  have q3 : Kp (w3.heap[w1.heap.size]? = some (.cells #[.slice p1 p2 p3, .slice p4 p5 p6, .int .i64 p7, .slice p8 p9 pA, .int .i64 pB, .slice pC pD pE] 29 (0, 0))) := ⟨blk_below q2.out hb⟩
  have d3 : Kp (w3.heap[w1.heap.size + 1]? = some (.cells #[.int .u32 1] 51 (0, 0))) := ⟨blk_below d2.out hb⟩
  have u3 : Kp (w3.heap[w1.heap.size + 1 + 1]? = some (.cells #[.int .i64 3, .int .i64 0, .int .u64 0, .slice (some ⟨w1.heap.size + 1, 0, none⟩) 1 1] 44 (0, 0))) := ⟨blk_below u2.out hb⟩
  have HB3 : Kp (Below w.heap.size w w3) := ⟨below_call HB2.out hb⟩
  have E3 : Kp (CfgAt w3 (.agg #[.slice p1 p2 p3, .slice p4 p5 p6, .int .i64 p7, .slice p8 p9 pA, .int .i64 pB, .slice pC pD pE]) exB) := ⟨E2.out.below hb⟩
  clear qc0 qc1 qc2 qc3 qc4 qc5 ql dc0 dl uc0 uc1 uc2 uc3 ul q2 d2 u2 HB2 E2 hb
  have qc0 : w3.cell? ⟨w1.heap.size, 0, none⟩ = some (.slice p1 p2 p3) := (cell_blk q3.out 0).trans rfl
  have qc1 : w3.cell? ⟨w1.heap.size, 1, none⟩ = some (.slice p4 p5 p6) := (cell_blk q3.out 1).trans rfl
  have qc2 : w3.cell? ⟨w1.heap.size, 2, none⟩ = some (.int .i64 p7) := (cell_blk q3.out 2).trans rfl
  have qc3 : w3.cell? ⟨w1.heap.size, 3, none⟩ = some (.slice p8 p9 pA) := (cell_blk q3.out 3).trans rfl
  have qc4 : w3.cell? ⟨w1.heap.size, 4, none⟩ = some (.int .i64 pB) := (cell_blk q3.out 4).trans rfl
  have qc5 : w3.cell? ⟨w1.heap.size, 5, none⟩ = some (.slice pC pD pE) := (cell_blk q3.out 5).trans rfl
  have ql := blk_lt q3.out
  have dc0 : w3.cell? ⟨w1.heap.size + 1, 0, none⟩ = some (.int .u32 1) := (cell_blk d3.out 0).trans rfl
  have dl := blk_lt d3.out
  have uc0 : w3.cell? ⟨w1.heap.size + 1 + 1, 0, none⟩ = some (.int .i64 3) := (cell_blk u3.out 0).trans rfl
  have uc1 : w3.cell? ⟨w1.heap.size + 1 + 1, 1, none⟩ = some (.int .i64 0) := (cell_blk u3.out 1).trans rfl
  have uc2 : w3.cell? ⟨w1.heap.size + 1 + 1, 2, none⟩ = some (.int .u64 0) := (cell_blk u3.out 2).trans rfl
  have uc3 : w3.cell? ⟨w1.heap.size + 1 + 1, 3, none⟩ = some (.slice (some ⟨w1.heap.size + 1, 0, none⟩) 1 1) := (cell_blk u3.out 3).trans rfl
  have ul := blk_lt u3.out
  go_wp2_with fail
  refine (refused_any _ _ _ exB ⟨0, true, [0], []⟩ ⟨3, 0, 0, [1]⟩ exB_small (by decide) (by decide) _ (HN.out.below (below_al HB3.out _)) (E3.out.below (below_al (Below.refl _ _) _)) (std1 _ _ (blk_new _ _)) (rqtW _ _ (blk_al d3.out _))).mono ?_
  rw [exB3]
  rintro e w4 ⟨rfl, hb⟩
  have m4 : Kp (w4.heap[w3.heap.size]? = some (.cells #[.int .i64 0] 3 (0, 0))) := ⟨blk_below (blk_new _ _) hb⟩
  have q4 : Kp (w4.heap[w1.heap.size]? = some (.cells #[.slice p1 p2 p3, .slice p4 p5 p6, .int .i64 p7, .slice p8 p9 pA, .int .i64 pB, .slice pC pD pE] 29 (0, 0))) := ⟨blk_below (blk_al q3.out _) hb⟩
  have d4 : Kp (w4.heap[w1.heap.size + 1]? = some (.cells #[.int .u32 1] 51 (0, 0))) := ⟨blk_below (blk_al d3.out _) hb⟩
  have u4 : Kp (w4.heap[w1.heap.size + 1 + 1]? = some (.cells #[.int .i64 3, .int .i64 0, .int .u64 0, .slice (some ⟨w1.heap.size + 1, 0, none⟩) 1 1] 44 (0, 0))) := ⟨blk_below (blk_al u3.out _) hb⟩
  have HB4 : Kp (Below w.heap.size w w4) := ⟨below_call (below_al HB3.out _) hb⟩
  have E4 : Kp (CfgAt w4 (.agg #[.slice p1 p2 p3, .slice p4 p5 p6, .int .i64 p7, .slice p8 p9 pA, .int .i64 pB, .slice pC pD pE]) exB) := ⟨(E3.out.below (below_al (Below.refl _ _) _)).below hb⟩
  clear qc0 qc1 qc2 qc3 qc4 qc5 ql dc0 dl uc0 uc1 uc2 uc3 ul q3 d3 u3 HB3 E3 hb
  have mc0 : w4.cell? ⟨w3.heap.size, 0, none⟩ = some (.int .i64 0) := (cell_blk m4.out 0).trans rfl
  have ml := blk_lt m4.out
  have qc0 : w4.cell? ⟨w1.heap.size, 0, none⟩ = some (.slice p1 p2 p3) := (cell_blk q4.out 0).trans rfl
  have qc1 : w4.cell? ⟨w1.heap.size, 1, none⟩ = some (.slice p4 p5 p6) := (cell_blk q4.out 1).trans rfl
  have qc2 : w4.cell? ⟨w1.heap.size, 2, none⟩ = some (.int .i64 p7) := (cell_blk q4.out 2).trans rfl
  have qc3 : w4.cell? ⟨w1.heap.size, 3, none⟩ = some (.slice p8 p9 pA) := (cell_blk q4.out 3).trans rfl
  have qc4 : w4.cell? ⟨w1.heap.size, 4, none⟩ = some (.int .i64 pB) := (cell_blk q4.out 4).trans rfl
  have qc5 : w4.cell? ⟨w1.heap.size, 5, none⟩ = some (.slice pC pD pE) := (cell_blk q4.out 5).trans rfl
  have ql := blk_lt q4.out
  have dc0 : w4.cell? ⟨w1.heap.size + 1, 0, none⟩ = some (.int .u32 1) := (cell_blk d4.out 0).trans rfl
  have dl := blk_lt d4.out
  have uc0 : w4.cell? ⟨w1.heap.size + 1 + 1, 0, none⟩ = some (.int .i64 3) := (cell_blk u4.out 0).trans rfl
  have uc1 : w4.cell? ⟨w1.heap.size + 1 + 1, 1, none⟩ = some (.int .i64 0) := (cell_blk u4.out 1).trans rfl
  have uc2 : w4.cell? ⟨w1.heap.size + 1 + 1, 2, none⟩ = some (.int .u64 0) := (cell_blk u4.out 2).trans rfl
  have uc3 : w4.cell? ⟨w1.heap.size + 1 + 1, 3, none⟩ = some (.slice (some ⟨w1.heap.size + 1, 0, none⟩) 1 1) := (cell_blk u4.out 3).trans rfl
  have ul := blk_lt u4.out
  go_wp2_with fail
  refine (name_any 1 _ (HN.out.below HB4.out)).mono ?_
  rw [exB4]
  rintro e w5 ⟨rfl, hb⟩
  have m5 : Kp (w5.heap[w3.heap.size]? = some (.cells #[.int .i64 0] 3 (0, 0))) := ⟨blk_below m4.out hb⟩
  have q5 : Kp (w5.heap[w1.heap.size]? = some (.cells #[.slice p1 p2 p3, .slice p4 p5 p6, .int .i64 p7, .slice p8 p9 pA, .int .i64 pB, .slice pC pD pE] 29 (0, 0))) := ⟨blk_below q4.out hb⟩
  have d5 : Kp (w5.heap[w1.heap.size + 1]? = some (.cells #[.int .u32 1] 51 (0, 0))) := ⟨blk_below d4.out hb⟩
  have u5 : Kp (w5.heap[w1.heap.size + 1 + 1]? = some (.cells #[.int .i64 3, .int .i64 0, .int .u64 0, .slice (some ⟨w1.heap.size + 1, 0, none⟩) 1 1] 44 (0, 0))) := ⟨blk_below u4.out hb⟩
  have HB5 : Kp (Below w.heap.size w w5) := ⟨below_call HB4.out hb⟩
  have E5 : Kp (CfgAt w5 (.agg #[.slice p1 p2 p3, .slice p4 p5 p6, .int .i64 p7, .slice p8 p9 pA, .int .i64 pB, .slice pC pD pE]) exB) := ⟨E4.out.below hb⟩
  clear mc0 ml qc0 qc1 qc2 qc3 qc4 qc5 ql dc0 dl uc0 uc1 uc2 uc3 ul m4 q4 d4 u4 HB4 E4 hb
  have mc0 : w5.cell? ⟨w3.heap.size, 0, none⟩ = some (.int .i64 0) := (cell_blk m5.out 0).trans rfl
  have ml := blk_lt m5.out
  have qc0 : w5.cell? ⟨w1.heap.size, 0, none⟩ = some (.slice p1 p2 p3) := (cell_blk q5.out 0).trans rfl
  have qc1 : w5.cell? ⟨w1.heap.size, 1, none⟩ = some (.slice p4 p5 p6) := (cell_blk q5.out 1).trans rfl
  have qc2 : w5.cell? ⟨w1.heap.size, 2, none⟩ = some (.int .i64 p7) := (cell_blk q5.out 2).trans rfl
  have qc3 : w5.cell? ⟨w1.heap.size, 3, none⟩ = some (.slice p8 p9 pA) := (cell_blk q5.out 3).trans rfl
  have qc4 : w5.cell? ⟨w1.heap.size, 4, none⟩ = some (.int .i64 pB) := (cell_blk q5.out 4).trans rfl
  have qc5 : w5.cell? ⟨w1.heap.size, 5, none⟩ = some (.slice pC pD pE) := (cell_blk q5.out 5).trans rfl
  have ql := blk_lt q5.out
  have dc0 : w5.cell? ⟨w1.heap.size + 1, 0, none⟩ = some (.int .u32 1) := (cell_blk d5.out 0).trans rfl
  have dl := blk_lt d5.out
  have uc0 : w5.cell? ⟨w1.heap.size + 1 + 1, 0, none⟩ = some (.int .i64 3) := (cell_blk u5.out 0).trans rfl
  have uc1 : w5.cell? ⟨w1.heap.size + 1 + 1, 1, none⟩ = some (.int .i64 0) := (cell_blk u5.out 1).trans rfl
  have uc2 : w5.cell? ⟨w1.heap.size + 1 + 1, 2, none⟩ = some (.int .u64 0) := (cell_blk u5.out 2).trans rfl
  have uc3 : w5.cell? ⟨w1.heap.size + 1 + 1, 3, none⟩ = some (.slice (some ⟨w1.heap.size + 1, 0, none⟩) 1 1) := (cell_blk u5.out 3).trans rfl
  have ul := blk_lt u5.out
  go_wp2
  go_ret
  exact ⟨rfl, HB5.out⟩
end Go.Proofs.YtdajadfgiifioaaDoor

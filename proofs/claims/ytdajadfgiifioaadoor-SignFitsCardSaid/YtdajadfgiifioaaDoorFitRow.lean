/- The law SignFits holds of every input: what is not refused has all that it needs. Condition: the table porthole/sign.names as laid (tied). -/
import Derived.Test.YtdajadfgiifioaaDoorSgn6
import Derived.Test.YtdajadfgiifioaaDoorRLay2
import Derived.Test.YtdajadfgiifioaaDoorSpanH
import Derived.Test.YtdajadfgiifioaaDoorSgn7
import Derived.Test.YtdajadfgiifioaaDoorSgn1
import Derived.Test.YtdajadfgiifioaaDoorRead
import Derived.ProofKit
import Derived.LaidMore
import Derived.OpenShut
import Derived.FnData
import Derived.MakeChecks
import Derived.LaidHandle
import Derived.Stop.Joined
import Derived.Test.YtdajadfgiifioaaDoorCards
import Derived.Test.YtdajadfgiifioaaDoorTie
import Derived.WalkKit
import Derived.SevenTiedAt
namespace Go.Proofs.YtdajadfgiifioaaDoor
section
open Go.RowKit
set_option linter.unusedSimpArgs false
set_option linter.unusedVariables false
theorem row_blk {w : World} {b : Nat} {cs : Array Value} {ty : TypeId} {fz : Nat × Nat} {k n : Nat} {xs : List Value} (h : w.heap[b]? = some (.cells cs ty fz)) (hx : cs.toList = xs) (hl : xs.length = n * k) (hn : n ≤ 100) : RowAt w k (.slice (some ⟨b, 0, none⟩) n n) n xs :=
  ⟨hl, .inr ⟨b, 0, n, rfl, Nat.le_refl _, by unfold maxLen; omega, blk_lt h, fun i hi => by rw [Nat.zero_add, cell_blk h i, ← hx, Array.getElem?_toList]⟩⟩

def exB : Cfg := ⟨[(0, 2), (1, 0)], [⟨1, 0, 1, 3, 0, 0, 0⟩], 1, [⟨0, 0, 1⟩], 1, [⟨1, 0, 1⟩]⟩
theorem exB_ok : Cfg.ok exB := ⟨fun p hp => by simp only [exB, List.mem_cons, List.not_mem_nil, or_false] at hp; rcases hp with rfl | rfl <;> exact ⟨rfl, rfl⟩, fun x hx => by simp only [exB, List.mem_cons, List.not_mem_nil, or_false] at hx; subst hx; exact ⟨rfl, rfl, rfl, rfl, rfl, rfl, rfl⟩, rfl, rfl, fun x hx => by simp only [exB, List.mem_cons, List.not_mem_nil, or_false] at hx; subst hx; exact ⟨rfl, rfl, rfl⟩, fun x hx => by simp only [exB, List.mem_cons, List.not_mem_nil, or_false] at hx; subst hx; exact ⟨rfl, rfl, rfl⟩⟩
set_option maxRecDepth 100000 in
set_option maxHeartbeats 4000000 in
theorem example10_any (w : World) : Calls Tryd.prog 27 #[] w fun e w' => ∃ cs : Array Value, e = .returned (.agg cs) ∧ CfgAt w' (.agg cs) exB ∧ Below w.heap.size w w' := by
  go_enter Tryd.func27, Tryd.ntmps27
  go_wp2
  refine bodyPost_ret (v := .agg #[.slice (some ⟨w.heap.size + 1, 0, none⟩) 2 2, .slice (some ⟨w.heap.size + 1 + 1, 0, none⟩) 1 1, .int .i64 1, .slice (some ⟨w.heap.size + 1 + 1 + 1 + 1, 0, none⟩) 1 1, .int .i64 1, .slice (some ⟨w.heap.size + 1 + 1 + 1 + 1 + 1, 0, none⟩) 1 1]) (results_cell_row rfl _ _ _ _ _ _ _ rfl (blk_al (blk_al (blk_al (blk_al (blk_al (blk_new _ _) _) _) _) _) _) Tryd.underlying29 rfl (by kernel_rfl)) rfl ⟨_, rfl, ⟨exB_ok, _, 2, _, 1, _, 1, _, 1, rfl, ?_, ?_, ?_, ?_, ?_, ?_, ?_, ?_⟩, (by repeat (first | exact Below.refl _ _ | apply below_al))⟩
  · exact ⟨Nat.le_refl _, by unfold maxLen; omega⟩
  · exact ⟨Nat.le_refl _, by unfold maxLen; omega⟩
  · exact ⟨Nat.le_refl _, by unfold maxLen; omega⟩
  · exact ⟨Nat.le_refl _, by unfold maxLen; omega⟩
  · exact row_blk (blk_al (blk_al (blk_al (blk_al (blk_at (w := (w.alloc (.cells #[.slice (some ⟨w.heap.size + 1, 0, none⟩) 2 2, .slice (some ⟨w.heap.size + 1 + 1, 0, none⟩) 1 1, .int .i64 1, .slice (some ⟨w.heap.size + 1 + 1 + 1 + 1, 0, none⟩) 1 1, .int .i64 1, .slice (some ⟨w.heap.size + 1 + 1 + 1 + 1 + 1, 0, none⟩) 1 1] 29))) (by simp) _) _) _) _) _) rfl rfl (by decide)
  · exact row_blk (blk_al (blk_al (blk_al (blk_at (w := ((w.alloc (.cells #[.slice (some ⟨w.heap.size + 1, 0, none⟩) 2 2, .slice (some ⟨w.heap.size + 1 + 1, 0, none⟩) 1 1, .int .i64 1, .slice (some ⟨w.heap.size + 1 + 1 + 1 + 1, 0, none⟩) 1 1, .int .i64 1, .slice (some ⟨w.heap.size + 1 + 1 + 1 + 1 + 1, 0, none⟩) 1 1] 29)).alloc (.cells #[.int .i64 0, .int .i64 2, .int .i64 1, .int .i64 0] 92))) (by simp) _) _) _) _) rfl rfl (by decide)
  · exact row_blk (blk_al (blk_at (w := ((((w.alloc (.cells #[.slice (some ⟨w.heap.size + 1, 0, none⟩) 2 2, .slice (some ⟨w.heap.size + 1 + 1, 0, none⟩) 1 1, .int .i64 1, .slice (some ⟨w.heap.size + 1 + 1 + 1 + 1, 0, none⟩) 1 1, .int .i64 1, .slice (some ⟨w.heap.size + 1 + 1 + 1 + 1 + 1, 0, none⟩) 1 1] 29)).alloc (.cells #[.int .i64 0, .int .i64 2, .int .i64 1, .int .i64 0] 92)).alloc (.cells #[.int .i64 1, .int .i64 0, .int .i64 1, .int .i64 3, .int .i64 0, .int .i64 0, .int .u32 0] 53)).alloc (.cells #[.slice (some ⟨w.heap.size + 1, 0, none⟩) 2 2, .slice (some ⟨w.heap.size + 1 + 1, 0, none⟩) 1 1, .int .i64 1, .slice (some ⟨w.heap.size + 1 + 1 + 1 + 1, 0, none⟩) 1 1, .int .i64 1, .slice (some ⟨w.heap.size + 1 + 1 + 1 + 1 + 1, 0, none⟩) 1 1] 29))) (by simp) _) _) rfl rfl (by decide)
  · exact row_blk (blk_at (w := (((((w.alloc (.cells #[.slice (some ⟨w.heap.size + 1, 0, none⟩) 2 2, .slice (some ⟨w.heap.size + 1 + 1, 0, none⟩) 1 1, .int .i64 1, .slice (some ⟨w.heap.size + 1 + 1 + 1 + 1, 0, none⟩) 1 1, .int .i64 1, .slice (some ⟨w.heap.size + 1 + 1 + 1 + 1 + 1, 0, none⟩) 1 1] 29)).alloc (.cells #[.int .i64 0, .int .i64 2, .int .i64 1, .int .i64 0] 92)).alloc (.cells #[.int .i64 1, .int .i64 0, .int .i64 1, .int .i64 3, .int .i64 0, .int .i64 0, .int .u32 0] 53)).alloc (.cells #[.slice (some ⟨w.heap.size + 1, 0, none⟩) 2 2, .slice (some ⟨w.heap.size + 1 + 1, 0, none⟩) 1 1, .int .i64 1, .slice (some ⟨w.heap.size + 1 + 1 + 1 + 1, 0, none⟩) 1 1, .int .i64 1, .slice (some ⟨w.heap.size + 1 + 1 + 1 + 1 + 1, 0, none⟩) 1 1] 29)).alloc (.cells #[.int .i64 0, .int .i64 0, .int .i64 1] 94))) (by simp) _) rfl rfl (by decide)
theorem CfgAt.cells {w : World} {cs : Array Value} {C : Cfg} (h : CfgAt w (.agg cs) C) : ∃ v0 v1 v2 v3 v4 v5 : Value, cs = #[v0, v1, v2, v3, v4, v5] ∧ (∃ a n c, v0 = .slice a n c) ∧ (∃ a n c, v1 = .slice a n c) ∧ (∃ n, v2 = .int .i64 n) ∧ (∃ a n c, v3 = .slice a n c) ∧ (∃ n, v4 = .int .i64 n) ∧ ∃ a n c, v5 = .slice a n c := by
  obtain ⟨ho, pa, pc, ca, cc, a0, c0, a1, c1, hv, _⟩ := h
  simp only [Value.agg.injEq] at hv
  exact ⟨_, _, _, _, _, _, hv, ⟨_, _, _, rfl⟩, ⟨_, _, _, rfl⟩, ⟨_, rfl⟩, ⟨_, _, _, rfl⟩, ⟨_, rfl⟩, ⟨_, _, _, rfl⟩⟩
theorem exB_small : exB.small := ⟨by decide, by decide, by decide, by decide⟩
theorem std0 (w : World) (b : Bool) : StdAt w (.agg #[.int .i64 0, .bool b, .slice none 0 0, .slice none 0 0]) ⟨0, b, [], []⟩ :=
  ⟨⟨rfl, by simp, by simp⟩, none, 0, none, 0, rfl, ⟨Nat.le_refl _, by decide⟩, ⟨Nat.le_refl _, by decide⟩, ⟨rfl, .inl ⟨⟨none, 0, rfl, by decide⟩, rfl⟩⟩, ⟨rfl, .inl ⟨⟨none, 0, rfl, by decide⟩, rfl⟩⟩⟩
theorem std1 (w : World) (g : Nat) (h : w.heap[g]? = some (.cells #[.int .i64 0] 3 (0, 0))) : StdAt w (.agg #[.int .i64 0, .bool true, .slice (some ⟨g, 0, none⟩) 1 1, .slice none 0 0]) ⟨0, true, [0], []⟩ :=
  ⟨⟨rfl, by simp; rfl, by simp⟩, some ⟨g, 0, none⟩, 1, none, 0, rfl, ⟨Nat.le_refl _, by decide⟩, ⟨Nat.le_refl _, by decide⟩, row_blk h rfl rfl (by decide), ⟨rfl, .inl ⟨⟨none, 0, rfl, by decide⟩, rfl⟩⟩⟩
theorem rqtW (w : World) (g : Nat) (h : w.heap[g]? = some (.cells #[.int .u32 1] 51 (0, 0))) : RqtAt w (.agg #[.int .i64 3, .int .i64 0, .int .u64 0, .slice (some ⟨g, 0, none⟩) 1 1]) ⟨3, 0, 0, [1]⟩ :=
  ⟨⟨rfl, rfl, by decide, by decide⟩, some ⟨g, 0, none⟩, 1, rfl, ⟨Nat.le_refl _, by decide⟩, row_blk h rfl rfl (by decide)⟩
theorem rqtN (w : World) : RqtAt w (.agg #[.int .i64 2, .int .i64 0, .int .u64 0, .slice none 0 0]) ⟨2, 0, 0, []⟩ :=
  ⟨⟨rfl, rfl, by decide, by decide⟩, none, 0, rfl, ⟨Nat.le_refl _, by decide⟩, ⟨rfl, .inl ⟨⟨none, 0, rfl, by decide⟩, rfl⟩⟩⟩
theorem exB1 : refV exB ⟨0, false, [], []⟩ ⟨3, 0, 0, [1]⟩ = 3 := by decide +kernel
theorem exB2 : refV exB ⟨0, true, [], []⟩ ⟨2, 0, 0, []⟩ = 5 := by decide +kernel
theorem exB3 : refV exB ⟨0, true, [0], []⟩ ⟨3, 0, 0, [1]⟩ = 0 := by decide +kernel
theorem exB4 : nameV 1 = ⟨#[99, 114, 101, 97, 116, 101]⟩ := by decide +kernel
set_option maxRecDepth 100000 in
set_option maxHeartbeats 4000000 in
theorem wakes10_any (w : World) (hN : NamesAt w) : Calls Tryd.prog 10 #[] w fun e w' => e = .returned (.bool true) ∧ Below w.heap.size w w' := by
  have HN := Kp.mk hN
  clear hN
  go_enter Tryd.func10, Tryd.ntmps10
  have HB0 : Kp (Below w.heap.size w w) := ⟨Below.refl _ _⟩
  go_wp2_with fail
  refine (example10_any _).mono ?_
  rintro e w1 ⟨cs, rfl, hC, hb⟩
  have HB1 : Kp (Below w.heap.size w w1) := ⟨below_call HB0.out hb⟩
  have E1 : Kp (CfgAt w1 (.agg cs) exB) := ⟨hC⟩
  clear HB0 hb
  clear hC
  obtain ⟨v0, v1, v2, v3, v4, v5, rfl, ⟨p1, p2, p3, rfl⟩, ⟨p4, p5, p6, rfl⟩, ⟨p7, rfl⟩, ⟨p8, p9, pA, rfl⟩, ⟨pB, rfl⟩, ⟨pC, pD, pE, rfl⟩⟩ := CfgAt.cells E1.out
  go_wp2_with fail
  refine (refused_any _ _ _ exB ⟨0, false, [], []⟩ ⟨3, 0, 0, [1]⟩ exB_small (by decide) (by decide) _ (HN.out.below (below_al (below_al (below_al HB1.out _) _) _)) (((E1.out.below (below_al (Below.refl _ _) _)).below (below_al (Below.refl _ _) _)).below (below_al (Below.refl _ _) _)) (std0 _ false) (rqtW _ _ (blk_al (blk_at (w := (w1.alloc (.cells #[.slice p1 p2 p3, .slice p4 p5 p6, .int .i64 p7, .slice p8 p9 pA, .int .i64 pB, .slice pC pD pE] 29))) (by simp) _) _))).mono ?_
  rw [exB1]
  rintro e w2 ⟨rfl, hb⟩
  have q2 : Kp (w2.heap[w1.heap.size]? = some (.cells #[.slice p1 p2 p3, .slice p4 p5 p6, .int .i64 p7, .slice p8 p9 pA, .int .i64 pB, .slice pC pD pE] 29 (0, 0))) := ⟨blk_below (blk_al (blk_al (blk_new _ _) _) _) hb⟩
  have d2 : Kp (w2.heap[w1.heap.size + 1]? = some (.cells #[.int .u32 1] 51 (0, 0))) := ⟨blk_below (blk_al (blk_at (w := (w1.alloc (.cells #[.slice p1 p2 p3, .slice p4 p5 p6, .int .i64 p7, .slice p8 p9 pA, .int .i64 pB, .slice pC pD pE] 29))) (by simp) _) _) hb⟩
  have u2 : Kp (w2.heap[w1.heap.size + 1 + 1]? = some (.cells #[.int .i64 3, .int .i64 0, .int .u64 0, .slice (some ⟨w1.heap.size + 1, 0, none⟩) 1 1] 44 (0, 0))) := ⟨blk_below (blk_at (w := ((w1.alloc (.cells #[.slice p1 p2 p3, .slice p4 p5 p6, .int .i64 p7, .slice p8 p9 pA, .int .i64 pB, .slice pC pD pE] 29)).alloc (.cells #[.int .u32 1] 51))) (by simp) _) hb⟩
  have HB2 : Kp (Below w.heap.size w w2) := ⟨below_call (below_al (below_al (below_al HB1.out _) _) _) hb⟩
  have E2 : Kp (CfgAt w2 (.agg #[.slice p1 p2 p3, .slice p4 p5 p6, .int .i64 p7, .slice p8 p9 pA, .int .i64 pB, .slice pC pD pE]) exB) := ⟨(((E1.out.below (below_al (Below.refl _ _) _)).below (below_al (Below.refl _ _) _)).below (below_al (Below.refl _ _) _)).below hb⟩
  clear HB1 E1 hb
  have qc0 : w2.cell? ⟨w1.heap.size, 0, none⟩ = some (.slice p1 p2 p3) := (cell_blk q2.out 0).trans rfl
  have qc1 : w2.cell? ⟨w1.heap.size, 1, none⟩ = some (.slice p4 p5 p6) := (cell_blk q2.out 1).trans rfl
  have qc2 : w2.cell? ⟨w1.heap.size, 2, none⟩ = some (.int .i64 p7) := (cell_blk q2.out 2).trans rfl
  have qc3 : w2.cell? ⟨w1.heap.size, 3, none⟩ = some (.slice p8 p9 pA) := (cell_blk q2.out 3).trans rfl
  have qc4 : w2.cell? ⟨w1.heap.size, 4, none⟩ = some (.int .i64 pB) := (cell_blk q2.out 4).trans rfl
  have qc5 : w2.cell? ⟨w1.heap.size, 5, none⟩ = some (.slice pC pD pE) := (cell_blk q2.out 5).trans rfl
  have ql := blk_lt q2.out
  have dc0 : w2.cell? ⟨w1.heap.size + 1, 0, none⟩ = some (.int .u32 1) := (cell_blk d2.out 0).trans rfl
  have dl := blk_lt d2.out
  have uc0 : w2.cell? ⟨w1.heap.size + 1 + 1, 0, none⟩ = some (.int .i64 3) := (cell_blk u2.out 0).trans rfl
  have uc1 : w2.cell? ⟨w1.heap.size + 1 + 1, 1, none⟩ = some (.int .i64 0) := (cell_blk u2.out 1).trans rfl
  have uc2 : w2.cell? ⟨w1.heap.size + 1 + 1, 2, none⟩ = some (.int .u64 0) := (cell_blk u2.out 2).trans rfl
  have uc3 : w2.cell? ⟨w1.heap.size + 1 + 1, 3, none⟩ = some (.slice (some ⟨w1.heap.size + 1, 0, none⟩) 1 1) := (cell_blk u2.out 3).trans rfl
  have ul := blk_lt u2.out
  go_wp2_with fail
  refine (refused_any _ _ _ exB ⟨0, true, [], []⟩ ⟨2, 0, 0, []⟩ exB_small (by decide) (by decide) _ (HN.out.below HB2.out) E2.out (std0 _ true) (rqtN _)).mono ?_
  rw [exB2]
  rintro e w3 ⟨rfl, hb⟩
  have q3 : Kp (w3.heap[w1.heap.size]? = some (.cells #[.slice p1 p2 p3, .slice p4 p5 p6, .int .i64 p7, .slice p8 p9 pA, .int .i64 pB, .slice pC pD pE] 29 (0, 0))) := ⟨blk_below q2.out hb⟩
  have d3 : Kp (w3.heap[w1.heap.size + 1]? = some (.cells #[.int .u32 1] 51 (0, 0))) := ⟨blk_below d2.out hb⟩
  have u3 : Kp (w3.heap[w1.heap.size + 1 + 1]? = some (.cells #[.int .i64 3, .int .i64 0, .int .u64 0, .slice (some ⟨w1.heap.size + 1, 0, none⟩) 1 1] 44 (0, 0))) := ⟨blk_below u2.out hb⟩
  have HB3 : Kp (Below w.heap.size w w3) := ⟨below_call HB2.out hb⟩
  have E3 : Kp (CfgAt w3 (.agg #[.slice p1 p2 p3, .slice p4 p5 p6, .int .i64 p7, .slice p8 p9 pA, .int .i64 pB, .slice pC pD pE]) exB) := ⟨E2.out.below hb⟩
  clear qc0 qc1 qc2 qc3 qc4 qc5 ql dc0 dl uc0 uc1 uc2 uc3 ul q2 d2 u2 HB2 E2 hb
  have qc0 : w3.cell? ⟨w1.heap.size, 0, none⟩ = some (.slice p1 p2 p3) := (cell_blk q3.out 0).trans rfl
  have qc1 : w3.cell? ⟨w1.heap.size, 1, none⟩ = some (.slice p4 p5 p6) := (cell_blk q3.out 1).trans rfl
  have qc2 : w3.cell? ⟨w1.heap.size, 2, none⟩ = some (.int .i64 p7) := (cell_blk q3.out 2).trans rfl
  have qc3 : w3.cell? ⟨w1.heap.size, 3, none⟩ = some (.slice p8 p9 pA) := (cell_blk q3.out 3).trans rfl
  have qc4 : w3.cell? ⟨w1.heap.size, 4, none⟩ = some (.int .i64 pB) := (cell_blk q3.out 4).trans rfl
  have qc5 : w3.cell? ⟨w1.heap.size, 5, none⟩ = some (.slice pC pD pE) := (cell_blk q3.out 5).trans rfl
  have ql := blk_lt q3.out
  have dc0 : w3.cell? ⟨w1.heap.size + 1, 0, none⟩ = some (.int .u32 1) := (cell_blk d3.out 0).trans rfl
  have dl := blk_lt d3.out
  have uc0 : w3.cell? ⟨w1.heap.size + 1 + 1, 0, none⟩ = some (.int .i64 3) := (cell_blk u3.out 0).trans rfl
  have uc1 : w3.cell? ⟨w1.heap.size + 1 + 1, 1, none⟩ = some (.int .i64 0) := (cell_blk u3.out 1).trans rfl
  have uc2 : w3.cell? ⟨w1.heap.size + 1 + 1, 2, none⟩ = some (.int .u64 0) := (cell_blk u3.out 2).trans rfl
  have uc3 : w3.cell? ⟨w1.heap.size + 1 + 1, 3, none⟩ = some (.slice (some ⟨w1.heap.size + 1, 0, none⟩) 1 1) := (cell_blk u3.out 3).trans rfl
  have ul := blk_lt u3.out
  go_wp2_with fail
  refine (refused_any _ _ _ exB ⟨0, true, [0], []⟩ ⟨3, 0, 0, [1]⟩ exB_small (by decide) (by decide) _ (HN.out.below (below_al HB3.out _)) (E3.out.below (below_al (Below.refl _ _) _)) (std1 _ _ (blk_new _ _)) (rqtW _ _ (blk_al d3.out _))).mono ?_
  rw [exB3]
  rintro e w4 ⟨rfl, hb⟩
  have m4 : Kp (w4.heap[w3.heap.size]? = some (.cells #[.int .i64 0] 3 (0, 0))) := ⟨blk_below (blk_new _ _) hb⟩
  have q4 : Kp (w4.heap[w1.heap.size]? = some (.cells #[.slice p1 p2 p3, .slice p4 p5 p6, .int .i64 p7, .slice p8 p9 pA, .int .i64 pB, .slice pC pD pE] 29 (0, 0))) := ⟨blk_below (blk_al q3.out _) hb⟩
  have d4 : Kp (w4.heap[w1.heap.size + 1]? = some (.cells #[.int .u32 1] 51 (0, 0))) := ⟨blk_below (blk_al d3.out _) hb⟩
  have u4 : Kp (w4.heap[w1.heap.size + 1 + 1]? = some (.cells #[.int .i64 3, .int .i64 0, .int .u64 0, .slice (some ⟨w1.heap.size + 1, 0, none⟩) 1 1] 44 (0, 0))) := ⟨blk_below (blk_al u3.out _) hb⟩
  have HB4 : Kp (Below w.heap.size w w4) := ⟨below_call (below_al HB3.out _) hb⟩
  have E4 : Kp (CfgAt w4 (.agg #[.slice p1 p2 p3, .slice p4 p5 p6, .int .i64 p7, .slice p8 p9 pA, .int .i64 pB, .slice pC pD pE]) exB) := ⟨(E3.out.below (below_al (Below.refl _ _) _)).below hb⟩
  clear qc0 qc1 qc2 qc3 qc4 qc5 ql dc0 dl uc0 uc1 uc2 uc3 ul q3 d3 u3 HB3 E3 hb
  have mc0 : w4.cell? ⟨w3.heap.size, 0, none⟩ = some (.int .i64 0) := (cell_blk m4.out 0).trans rfl
  have ml := blk_lt m4.out
  have qc0 : w4.cell? ⟨w1.heap.size, 0, none⟩ = some (.slice p1 p2 p3) := (cell_blk q4.out 0).trans rfl
  have qc1 : w4.cell? ⟨w1.heap.size, 1, none⟩ = some (.slice p4 p5 p6) := (cell_blk q4.out 1).trans rfl
  have qc2 : w4.cell? ⟨w1.heap.size, 2, none⟩ = some (.int .i64 p7) := (cell_blk q4.out 2).trans rfl
  have qc3 : w4.cell? ⟨w1.heap.size, 3, none⟩ = some (.slice p8 p9 pA) := (cell_blk q4.out 3).trans rfl
  have qc4 : w4.cell? ⟨w1.heap.size, 4, none⟩ = some (.int .i64 pB) := (cell_blk q4.out 4).trans rfl
  have qc5 : w4.cell? ⟨w1.heap.size, 5, none⟩ = some (.slice pC pD pE) := (cell_blk q4.out 5).trans rfl
  have ql := blk_lt q4.out
  have dc0 : w4.cell? ⟨w1.heap.size + 1, 0, none⟩ = some (.int .u32 1) := (cell_blk d4.out 0).trans rfl
  have dl := blk_lt d4.out
  have uc0 : w4.cell? ⟨w1.heap.size + 1 + 1, 0, none⟩ = some (.int .i64 3) := (cell_blk u4.out 0).trans rfl
  have uc1 : w4.cell? ⟨w1.heap.size + 1 + 1, 1, none⟩ = some (.int .i64 0) := (cell_blk u4.out 1).trans rfl
  have uc2 : w4.cell? ⟨w1.heap.size + 1 + 1, 2, none⟩ = some (.int .u64 0) := (cell_blk u4.out 2).trans rfl
  have uc3 : w4.cell? ⟨w1.heap.size + 1 + 1, 3, none⟩ = some (.slice (some ⟨w1.heap.size + 1, 0, none⟩) 1 1) := (cell_blk u4.out 3).trans rfl
  have ul := blk_lt u4.out
  go_wp2_with fail
  refine (name_any 1 _ (HN.out.below HB4.out)).mono ?_
  rw [exB4]
  rintro e w5 ⟨rfl, hb⟩
  have m5 : Kp (w5.heap[w3.heap.size]? = some (.cells #[.int .i64 0] 3 (0, 0))) := ⟨blk_below m4.out hb⟩
  have q5 : Kp (w5.heap[w1.heap.size]? = some (.cells #[.slice p1 p2 p3, .slice p4 p5 p6, .int .i64 p7, .slice p8 p9 pA, .int .i64 pB, .slice pC pD pE] 29 (0, 0))) := ⟨blk_below q4.out hb⟩
  have d5 : Kp (w5.heap[w1.heap.size + 1]? = some (.cells #[.int .u32 1] 51 (0, 0))) := ⟨blk_below d4.out hb⟩
  have u5 : Kp (w5.heap[w1.heap.size + 1 + 1]? = some (.cells #[.int .i64 3, .int .i64 0, .int .u64 0, .slice (some ⟨w1.heap.size + 1, 0, none⟩) 1 1] 44 (0, 0))) := ⟨blk_below u4.out hb⟩
  have HB5 : Kp (Below w.heap.size w w5) := ⟨below_call HB4.out hb⟩
  have E5 : Kp (CfgAt w5 (.agg #[.slice p1 p2 p3, .slice p4 p5 p6, .int .i64 p7, .slice p8 p9 pA, .int .i64 pB, .slice pC pD pE]) exB) := ⟨E4.out.below hb⟩
  clear mc0 ml qc0 qc1 qc2 qc3 qc4 qc5 ql dc0 dl uc0 uc1 uc2 uc3 ul m4 q4 d4 u4 HB4 E4 hb
  have mc0 : w5.cell? ⟨w3.heap.size, 0, none⟩ = some (.int .i64 0) := (cell_blk m5.out 0).trans rfl
  have ml := blk_lt m5.out
  have qc0 : w5.cell? ⟨w1.heap.size, 0, none⟩ = some (.slice p1 p2 p3) := (cell_blk q5.out 0).trans rfl
  have qc1 : w5.cell? ⟨w1.heap.size, 1, none⟩ = some (.slice p4 p5 p6) := (cell_blk q5.out 1).trans rfl
  have qc2 : w5.cell? ⟨w1.heap.size, 2, none⟩ = some (.int .i64 p7) := (cell_blk q5.out 2).trans rfl
  have qc3 : w5.cell? ⟨w1.heap.size, 3, none⟩ = some (.slice p8 p9 pA) := (cell_blk q5.out 3).trans rfl
  have qc4 : w5.cell? ⟨w1.heap.size, 4, none⟩ = some (.int .i64 pB) := (cell_blk q5.out 4).trans rfl
  have qc5 : w5.cell? ⟨w1.heap.size, 5, none⟩ = some (.slice pC pD pE) := (cell_blk q5.out 5).trans rfl
  have ql := blk_lt q5.out
  have dc0 : w5.cell? ⟨w1.heap.size + 1, 0, none⟩ = some (.int .u32 1) := (cell_blk d5.out 0).trans rfl
  have dl := blk_lt d5.out
  have uc0 : w5.cell? ⟨w1.heap.size + 1 + 1, 0, none⟩ = some (.int .i64 3) := (cell_blk u5.out 0).trans rfl
  have uc1 : w5.cell? ⟨w1.heap.size + 1 + 1, 1, none⟩ = some (.int .i64 0) := (cell_blk u5.out 1).trans rfl
  have uc2 : w5.cell? ⟨w1.heap.size + 1 + 1, 2, none⟩ = some (.int .u64 0) := (cell_blk u5.out 2).trans rfl
  have uc3 : w5.cell? ⟨w1.heap.size + 1 + 1, 3, none⟩ = some (.slice (some ⟨w1.heap.size + 1, 0, none⟩) 1 1) := (cell_blk u5.out 3).trans rfl
  have ul := blk_lt u5.out
  go_wp2
  go_ret
  exact ⟨rfl, HB5.out⟩
end
section
open Go.RowKit
set_option linter.unusedSimpArgs false
set_option linter.unusedVariables false

def hasS (s : Int × Int) (a : Int) : Bool := hasB s.1 s.2 a
def mayK (C : Cfg) (p a : Int) (k : Nat) : Bool := ((C.chans.getD k default).frm == p && hasS (srcB C k) a) || ((C.chans.getD k default).to == p && hasS (dstB C k) a)
def mayTo (C : Cfg) (p a : Int) (k : Nat) : Bool := (List.range k).any (mayK C p a)
def mayB (C : Cfg) (p a : Int) : Bool := hasS (privB C p) a || mayTo C p a C.chans.length
theorem rhasS_any (s : Int × Int) (a : Int) (b : Bool) (h : hasS s a = b) (w : World) : Calls Tryd.prog 36 #[.agg #[.int .i64 s.1, .int .i64 s.2], .int .i64 a] w fun e w' => e = .returned (.bool b) ∧ Below w.heap.size w w' := rhas_any s.1 s.2 a b h w

set_option maxRecDepth 100000 in
set_option maxHeartbeats 4000000 in
theorem rmay_priv (cv : Value) (C : Cfg) (hsm : C.small) (p a : Int) (hh : hasS (privB C p) a = true) (w : World) (h : CfgAt w cv C) : Calls Tryd.prog 17 #[cv, .int .i64 p, .int .i64 a] w fun e w' => e = .returned (.bool (mayB C p a)) ∧ Below w.heap.size w w' := by
  have HC := Kp.mk h
  have HH := Kp.mk hh
  have HM : Kp (mayB C p a = true) := ⟨by rw [mayB, hh]; rfl⟩
  obtain ⟨ho, pa, pc, ca, cc, a0, c0, a1, c1, rfl, bp, bc, b0, b1, hp, hc, hw0, hw1⟩ := h
  clear ho hp hc hw0 hw1 hh
  go_enter Tryd.func17, Tryd.ntmps17
  have HB0 : Kp (Below w.heap.size w w) := ⟨Below.refl _ _⟩
  go_wp2_with fail
  refine (rprivate_any _ C hsm p _ (HC.out.below (below_al HB0.out _))).mono ?_
  rintro e w1 ⟨rfl, hb⟩
  have q1 : Kp (w1.heap[w.heap.size]? = some (.cells #[.slice pa C.parts.length pc, .slice ca C.chans.length cc, .int .i64 C.l0, .slice a0 C.w0.length c0, .int .i64 C.l1, .slice a1 C.w1.length c1] 29 (0, 0))) := ⟨blk_below (blk_new _ _) hb⟩
  have HB1 : Kp (Below w.heap.size w w1) := ⟨below_call (below_al HB0.out _) hb⟩
  clear HB0 hb
  have qc0 : w1.cell? ⟨w.heap.size, 0, none⟩ = some (.slice pa C.parts.length pc) := (cell_blk q1.out 0).trans rfl
  have qc1 : w1.cell? ⟨w.heap.size, 1, none⟩ = some (.slice ca C.chans.length cc) := (cell_blk q1.out 1).trans rfl
  have qc2 : w1.cell? ⟨w.heap.size, 2, none⟩ = some (.int .i64 C.l0) := (cell_blk q1.out 2).trans rfl
  have qc3 : w1.cell? ⟨w.heap.size, 3, none⟩ = some (.slice a0 C.w0.length c0) := (cell_blk q1.out 3).trans rfl
  have qc4 : w1.cell? ⟨w.heap.size, 4, none⟩ = some (.int .i64 C.l1) := (cell_blk q1.out 4).trans rfl
  have qc5 : w1.cell? ⟨w.heap.size, 5, none⟩ = some (.slice a1 C.w1.length c1) := (cell_blk q1.out 5).trans rfl
  have ql := blk_lt q1.out
  go_wp2_with fail
  refine (rhasS_any (privB C p) a true HH.out _).mono ?_
  rintro e w2 ⟨rfl, hb⟩
  have q2 : Kp (w2.heap[w.heap.size]? = some (.cells #[.slice pa C.parts.length pc, .slice ca C.chans.length cc, .int .i64 C.l0, .slice a0 C.w0.length c0, .int .i64 C.l1, .slice a1 C.w1.length c1] 29 (0, 0))) := ⟨blk_below q1.out hb⟩
  have HB2 : Kp (Below w.heap.size w w2) := ⟨below_call HB1.out hb⟩
  clear qc0 qc1 qc2 qc3 qc4 qc5 ql q1 HB1 hb
  have qc0 : w2.cell? ⟨w.heap.size, 0, none⟩ = some (.slice pa C.parts.length pc) := (cell_blk q2.out 0).trans rfl
  have qc1 : w2.cell? ⟨w.heap.size, 1, none⟩ = some (.slice ca C.chans.length cc) := (cell_blk q2.out 1).trans rfl
  have qc2 : w2.cell? ⟨w.heap.size, 2, none⟩ = some (.int .i64 C.l0) := (cell_blk q2.out 2).trans rfl
  have qc3 : w2.cell? ⟨w.heap.size, 3, none⟩ = some (.slice a0 C.w0.length c0) := (cell_blk q2.out 3).trans rfl
  have qc4 : w2.cell? ⟨w.heap.size, 4, none⟩ = some (.int .i64 C.l1) := (cell_blk q2.out 4).trans rfl
  have qc5 : w2.cell? ⟨w.heap.size, 5, none⟩ = some (.slice a1 C.w1.length c1) := (cell_blk q2.out 5).trans rfl
  have ql := blk_lt q2.out
  go_wp2
  go_ret
  exact ⟨ret_bool (by rw [HM.out]), HB2.out⟩

end
section
open Go.RowKit
set_option linter.unusedSimpArgs false
set_option linter.unusedVariables false

theorem fit_in (C : Cfg) (S : Std) (R : Rqt) (h : refV C S R = 0) : (accB C = true ∧ 0 ≤ S.part ∧ S.part < C.parts.length) ∧ (1 ≤ R.op ∧ R.op ≤ 9) ∧ docV (askV C S R) = 0 := by
  by_cases h1 : accB C = true ∧ 0 ≤ S.part ∧ S.part < C.parts.length
  · by_cases h2 : 1 ≤ R.op ∧ R.op ≤ 9
    · rw [refV_yes C S R h1 h2, docV_first _ (by exact h2.1) (by exact h2.2)] at h
      exact ⟨h1, h2, h⟩
    · rw [refV_op C S R h1 h2] at h; cases h
  · rw [refV_no C S R h1] at h; cases h
theorem fit1 (D : Ask) (ho : D.op = 1) (h : docV D = 0) : (D.own && !D.normal) = true := by
  obtain ⟨op, own, made, normal, source, k1, k2, l0, l1, lw, priv⟩ := D
  simp only at ho
  subst ho
  revert own made normal source k1 k2 l0 l1 lw priv
  decide +kernel
theorem fit2 (D : Ask) (ho : D.op = 2) (h : docV D = 0) : (!D.normal) = true := by
  obtain ⟨op, own, made, normal, source, k1, k2, l0, l1, lw, priv⟩ := D
  simp only at ho
  subst ho
  revert own made normal source k1 k2 l0 l1 lw priv
  decide +kernel
theorem fit3 (D : Ask) (ho : D.op = 3) (h : docV D = 0) : (D.own && D.normal && D.k1 && D.source && !D.l0 && !D.lw) = true := by
  obtain ⟨op, own, made, normal, source, k1, k2, l0, l1, lw, priv⟩ := D
  simp only at ho
  subst ho
  revert own made normal source k1 k2 l0 l1 lw priv
  decide +kernel
theorem fit4 (D : Ask) (ho : D.op = 4) (h : docV D = 0) : (D.own && D.normal && D.k1 && !D.source) = true := by
  obtain ⟨op, own, made, normal, source, k1, k2, l0, l1, lw, priv⟩ := D
  simp only at ho
  subst ho
  revert own made normal source k1 k2 l0 l1 lw priv
  decide +kernel
theorem fit5 (D : Ask) (ho : D.op = 5) (h : docV D = 0) : (D.own && D.normal && D.k2 && D.source && !D.l0 && !D.lw) = true := by
  obtain ⟨op, own, made, normal, source, k1, k2, l0, l1, lw, priv⟩ := D
  simp only at ho
  subst ho
  revert own made normal source k1 k2 l0 l1 lw priv
  decide +kernel
theorem fit6 (D : Ask) (ho : D.op = 6) (h : docV D = 0) : (D.own && D.normal && D.k2 && !D.source) = true := by
  obtain ⟨op, own, made, normal, source, k1, k2, l0, l1, lw, priv⟩ := D
  simp only at ho
  subst ho
  revert own made normal source k1 k2 l0 l1 lw priv
  decide +kernel
theorem fit7 (D : Ask) (ho : D.op = 7) (h : docV D = 0) : (D.own && D.normal) = true := by
  obtain ⟨op, own, made, normal, source, k1, k2, l0, l1, lw, priv⟩ := D
  simp only at ho
  subst ho
  revert own made normal source k1 k2 l0 l1 lw priv
  decide +kernel
theorem fit8 (D : Ask) (ho : D.op = 8) (h : docV D = 0) : (D.priv) = true := by
  obtain ⟨op, own, made, normal, source, k1, k2, l0, l1, lw, priv⟩ := D
  simp only at ho
  subst ho
  revert own made normal source k1 k2 l0 l1 lw priv
  decide +kernel
theorem fit9 (D : Ask) (ho : D.op = 9) (h : docV D = 0) : (D.priv) = true := by
  obtain ⟨op, own, made, normal, source, k1, k2, l0, l1, lw, priv⟩ := D
  simp only at ho
  subst ho
  revert own made normal source k1 k2 l0 l1 lw priv
  decide +kernel
theorem own_is (C : Cfg) (S : Std) (R : Rqt) (h : (askV C S R).own = true) : ∃ (k0 : Nat) (_ : k0 < C.chans.length) (src : Bool) (x : Chn), portV C R.port = ⟨k0, S.part, src, true⟩ ∧ C.chans[k0] = x ∧ (askV C S R).source = src ∧ (askV C S R).k1 = (x.kind == 1) ∧ (askV C S R).k2 = (x.kind == 2) ∧ (askV C S R).lw = decide (x.words < (R.data.length : Int)) := by
  have h0 : ((portV C R.port).is && ((portV C R.port).part == S.part)) = true := h
  rw [Bool.and_eq_true_iff] at h0
  obtain ⟨k0, hk0, pp, src, hpv, hcx⟩ := portV_is C R.port h0.1
  have hp : pp = S.part := by have h1 := h0.2; rw [hpv] at h1; simpa using h1
  subst hp
  have ha := askV_is C S R k0 _ src _ hpv hcx
  exact ⟨k0, hk0, src, _, hpv, rfl, by rw [ha]; rfl, by rw [ha]; rfl, by rw [ha]; rfl, by rw [ha]; rfl⟩
theorem privS_mono {C : Cfg} (h : accB C = true) (p : Nat) : ∀ q, p ≤ q → q ≤ C.parts.length → privS C p ≤ privS C q := by
  intro q hq hl
  induction q with
  | zero => obtain rfl : p = 0 := by omega
            exact Int.le_refl _
  | succ q ih =>
    by_cases hpq : p = q + 1
    · subst hpq; exact Int.le_refl _
    · have h1 := ih (by omega) (by omega)
      rw [privS_succ C q (by omega)]
      have h2 := (acc_of h).parts _ (List.getElem_mem (show q < C.parts.length by omega))
      omega
theorem priv_size {C : Cfg} (h : accB C = true) (p : Int) (h0 : 0 ≤ p) (h1 : p < C.parts.length) : (privB C p).1 + (privB C p).2 ≤ planE C := by
  have hp : p.toNat < C.parts.length := by omega
  rw [privB, if_pos ⟨h, h0, h1⟩, List.getD_eq_getElem?_getD, List.getElem?_eq_getElem hp]
  have h2 := privS_succ C p.toNat hp
  have h3 := privS_mono h (p.toNat + 1) C.parts.length (by omega) (Nat.le_refl _)
  have h4 : privS C C.parts.length ≤ planE C := by
    rw [planE_acc C h, befC]
    have h5 := sum_small chS 138 (by omega) (C.chans.take C.chans.length) fun x hx => by
      have := chn_small h (List.mem_of_mem_take hx)
      rw [chS]; omega
    omega
  show privS C p.toNat + C.parts[p.toNat].2 ≤ planE C
  omega
theorem privA_has (C : Cfg) (p a : Int) (h : privA C p a = true) : hasS (privB C p) a = true := by
  rw [privA, Bool.and_eq_true_iff] at h
  exact h.2
theorem privA_size {C : Cfg} (h : accB C = true) (p a : Int) (h0 : 0 ≤ p) (h1 : p < C.parts.length) (hp : privA C p a = true) : 0 ≤ a ∧ a < planE C ∧ a ≤ 1488 := by
  have h2 := priv_size h p h0 h1
  have h3 := privB_small C p
  have h4 := planE_small C
  rw [privA_iff C p a _ _ rfl rfl, Bool.and_eq_true_iff, decide_eq_true_iff, decide_eq_true_iff] at hp
  omega

set_option maxRecDepth 100000 in
set_option maxHeartbeats 8000000 in
theorem signFits_great (cv sv rv : Value) (C : Cfg) (S : Std) (R : Rqt) (hg : C.great = true) (w : World) (hN : NamesAt w) (hc : CfgAt w cv C) (hs : StdAt w sv S) (hr : RqtAt w rv R) : Calls Tryd.prog 5 #[cv, sv, rv] w fun e w' => e = .returned (.bool true) ∧ Below w.heap.size w w' := by
  have HN := Kp.mk hN
  clear hN
  have HG := Kp.mk hg
  clear hg
  have HC := Kp.mk hc
  have HS := Kp.mk hs
  have HR := Kp.mk hr
  obtain ⟨_, pa, pc, ca, cc, a0, c0, a1, c1, rfl, bp, bc, b0, b1, gp, gc, gw0, gw1⟩ := hc
  obtain ⟨_, ma, mc, va, vc, rfl, bm, bv, gm, gv⟩ := hs
  obtain ⟨ir, da, dc, rfl, bd, gd⟩ := hr
  clear gp gw0 gw1 gm gv gd bp b0 b1
  clear ir gc bc bm bv bd
  go_enter Tryd.func5, Tryd.ntmps5
  have HB0 : Kp (Below w.heap.size w w) := ⟨Below.refl _ _⟩
  go_wp2_with fail
  refine (wakes10_any _ (HN.out.below (below_al (below_al (below_al HB0.out _) _) _))).mono ?_
  rintro e w1 ⟨rfl, hb⟩
  have q1 : Kp (w1.heap[w.heap.size]? = some (.cells #[.slice pa C.parts.length pc, .slice ca C.chans.length cc, .int .i64 C.l0, .slice a0 C.w0.length c0, .int .i64 C.l1, .slice a1 C.w1.length c1] 29 (0, 0))) := ⟨blk_below (blk_al (blk_al (blk_new _ _) _) _) hb⟩
  have s1 : Kp (w1.heap[w.heap.size + 1]? = some (.cells #[.int .i64 S.part, .bool S.normal, .slice ma S.made.length mc, .slice va S.valid.length vc] 40 (0, 0))) := ⟨blk_below (blk_al (blk_at (w := (w.alloc (.cells #[.slice pa C.parts.length pc, .slice ca C.chans.length cc, .int .i64 C.l0, .slice a0 C.w0.length c0, .int .i64 C.l1, .slice a1 C.w1.length c1] 29))) (by simp) _) _) hb⟩
  have r1 : Kp (w1.heap[w.heap.size + 1 + 1]? = some (.cells #[.int .i64 R.op, .int .i64 R.port, .int .u64 R.addr, .slice da R.data.length dc] 44 (0, 0))) := ⟨blk_below (blk_at (w := ((w.alloc (.cells #[.slice pa C.parts.length pc, .slice ca C.chans.length cc, .int .i64 C.l0, .slice a0 C.w0.length c0, .int .i64 C.l1, .slice a1 C.w1.length c1] 29)).alloc (.cells #[.int .i64 S.part, .bool S.normal, .slice ma S.made.length mc, .slice va S.valid.length vc] 40))) (by simp) _) hb⟩
  have HB1 : Kp (Below w.heap.size w w1) := ⟨below_call (below_al (below_al (below_al HB0.out _) _) _) hb⟩
  clear HB0 hb
  have qc0 : w1.cell? ⟨w.heap.size, 0, none⟩ = some (.slice pa C.parts.length pc) := (cell_blk q1.out 0).trans rfl
  have qc1 : w1.cell? ⟨w.heap.size, 1, none⟩ = some (.slice ca C.chans.length cc) := (cell_blk q1.out 1).trans rfl
  have qc2 : w1.cell? ⟨w.heap.size, 2, none⟩ = some (.int .i64 C.l0) := (cell_blk q1.out 2).trans rfl
  have qc3 : w1.cell? ⟨w.heap.size, 3, none⟩ = some (.slice a0 C.w0.length c0) := (cell_blk q1.out 3).trans rfl
  have qc4 : w1.cell? ⟨w.heap.size, 4, none⟩ = some (.int .i64 C.l1) := (cell_blk q1.out 4).trans rfl
  have qc5 : w1.cell? ⟨w.heap.size, 5, none⟩ = some (.slice a1 C.w1.length c1) := (cell_blk q1.out 5).trans rfl
  have ql := blk_lt q1.out
  have sc0 : w1.cell? ⟨w.heap.size + 1, 0, none⟩ = some (.int .i64 S.part) := (cell_blk s1.out 0).trans rfl
  have sc1 : w1.cell? ⟨w.heap.size + 1, 1, none⟩ = some (.bool S.normal) := (cell_blk s1.out 1).trans rfl
  have sc2 : w1.cell? ⟨w.heap.size + 1, 2, none⟩ = some (.slice ma S.made.length mc) := (cell_blk s1.out 2).trans rfl
  have sc3 : w1.cell? ⟨w.heap.size + 1, 3, none⟩ = some (.slice va S.valid.length vc) := (cell_blk s1.out 3).trans rfl
  have sl := blk_lt s1.out
  have rc0 : w1.cell? ⟨w.heap.size + 1 + 1, 0, none⟩ = some (.int .i64 R.op) := (cell_blk r1.out 0).trans rfl
  have rc1 : w1.cell? ⟨w.heap.size + 1 + 1, 1, none⟩ = some (.int .i64 R.port) := (cell_blk r1.out 1).trans rfl
  have rc2 : w1.cell? ⟨w.heap.size + 1 + 1, 2, none⟩ = some (.int .u64 R.addr) := (cell_blk r1.out 2).trans rfl
  have rc3 : w1.cell? ⟨w.heap.size + 1 + 1, 3, none⟩ = some (.slice da R.data.length dc) := (cell_blk r1.out 3).trans rfl
  have rl := blk_lt r1.out
  go_wp2_with fail
  refine (great_any _ C _ (HC.out.below HB1.out)).mono ?_
  rw [HG.out]
  rintro e w2 ⟨rfl, hb⟩
  have q2 : Kp (w2.heap[w.heap.size]? = some (.cells #[.slice pa C.parts.length pc, .slice ca C.chans.length cc, .int .i64 C.l0, .slice a0 C.w0.length c0, .int .i64 C.l1, .slice a1 C.w1.length c1] 29 (0, 0))) := ⟨blk_below q1.out hb⟩
  have s2 : Kp (w2.heap[w.heap.size + 1]? = some (.cells #[.int .i64 S.part, .bool S.normal, .slice ma S.made.length mc, .slice va S.valid.length vc] 40 (0, 0))) := ⟨blk_below s1.out hb⟩
  have r2 : Kp (w2.heap[w.heap.size + 1 + 1]? = some (.cells #[.int .i64 R.op, .int .i64 R.port, .int .u64 R.addr, .slice da R.data.length dc] 44 (0, 0))) := ⟨blk_below r1.out hb⟩
  have HB2 : Kp (Below w.heap.size w w2) := ⟨below_call HB1.out hb⟩
  clear qc0 qc1 qc2 qc3 qc4 qc5 ql sc0 sc1 sc2 sc3 sl rc0 rc1 rc2 rc3 rl q1 s1 r1 HB1 hb
  have qc0 : w2.cell? ⟨w.heap.size, 0, none⟩ = some (.slice pa C.parts.length pc) := (cell_blk q2.out 0).trans rfl
  have qc1 : w2.cell? ⟨w.heap.size, 1, none⟩ = some (.slice ca C.chans.length cc) := (cell_blk q2.out 1).trans rfl
  have qc2 : w2.cell? ⟨w.heap.size, 2, none⟩ = some (.int .i64 C.l0) := (cell_blk q2.out 2).trans rfl
  have qc3 : w2.cell? ⟨w.heap.size, 3, none⟩ = some (.slice a0 C.w0.length c0) := (cell_blk q2.out 3).trans rfl
  have qc4 : w2.cell? ⟨w.heap.size, 4, none⟩ = some (.int .i64 C.l1) := (cell_blk q2.out 4).trans rfl
  have qc5 : w2.cell? ⟨w.heap.size, 5, none⟩ = some (.slice a1 C.w1.length c1) := (cell_blk q2.out 5).trans rfl
  have ql := blk_lt q2.out
  have sc0 : w2.cell? ⟨w.heap.size + 1, 0, none⟩ = some (.int .i64 S.part) := (cell_blk s2.out 0).trans rfl
  have sc1 : w2.cell? ⟨w.heap.size + 1, 1, none⟩ = some (.bool S.normal) := (cell_blk s2.out 1).trans rfl
  have sc2 : w2.cell? ⟨w.heap.size + 1, 2, none⟩ = some (.slice ma S.made.length mc) := (cell_blk s2.out 2).trans rfl
  have sc3 : w2.cell? ⟨w.heap.size + 1, 3, none⟩ = some (.slice va S.valid.length vc) := (cell_blk s2.out 3).trans rfl
  have sl := blk_lt s2.out
  have rc0 : w2.cell? ⟨w.heap.size + 1 + 1, 0, none⟩ = some (.int .i64 R.op) := (cell_blk r2.out 0).trans rfl
  have rc1 : w2.cell? ⟨w.heap.size + 1 + 1, 1, none⟩ = some (.int .i64 R.port) := (cell_blk r2.out 1).trans rfl
  have rc2 : w2.cell? ⟨w.heap.size + 1 + 1, 2, none⟩ = some (.int .u64 R.addr) := (cell_blk r2.out 2).trans rfl
  have rc3 : w2.cell? ⟨w.heap.size + 1 + 1, 3, none⟩ = some (.slice da R.data.length dc) := (cell_blk r2.out 3).trans rfl
  have rl := blk_lt r2.out
  go_wp2
  go_ret
  exact ⟨rfl, HB2.out⟩

set_option maxRecDepth 100000 in
set_option maxHeartbeats 8000000 in
theorem signFits_made (cv sv rv : Value) (C : Cfg) (S : Std) (R : Rqt) (hg : C.great = false) (hm : 60 < (S.made.length : Int)) (w : World) (hN : NamesAt w) (hc : CfgAt w cv C) (hs : StdAt w sv S) (hr : RqtAt w rv R) : Calls Tryd.prog 5 #[cv, sv, rv] w fun e w' => e = .returned (.bool true) ∧ Below w.heap.size w w' := by
  have HN := Kp.mk hN
  clear hN
  have HG := Kp.mk hg
  clear hg
  have HC := Kp.mk hc
  have HS := Kp.mk hs
  have HR := Kp.mk hr
  obtain ⟨_, pa, pc, ca, cc, a0, c0, a1, c1, rfl, bp, bc, b0, b1, gp, gc, gw0, gw1⟩ := hc
  obtain ⟨_, ma, mc, va, vc, rfl, bm, bv, gm, gv⟩ := hs
  obtain ⟨ir, da, dc, rfl, bd, gd⟩ := hr
  clear gp gw0 gw1 gm gv gd bp b0 b1
  clear ir gc bc bm bv bd
  go_enter Tryd.func5, Tryd.ntmps5
  have HB0 : Kp (Below w.heap.size w w) := ⟨Below.refl _ _⟩
  go_wp2_with fail
  refine (wakes10_any _ (HN.out.below (below_al (below_al (below_al HB0.out _) _) _))).mono ?_
  rintro e w1 ⟨rfl, hb⟩
  have q1 : Kp (w1.heap[w.heap.size]? = some (.cells #[.slice pa C.parts.length pc, .slice ca C.chans.length cc, .int .i64 C.l0, .slice a0 C.w0.length c0, .int .i64 C.l1, .slice a1 C.w1.length c1] 29 (0, 0))) := ⟨blk_below (blk_al (blk_al (blk_new _ _) _) _) hb⟩
  have s1 : Kp (w1.heap[w.heap.size + 1]? = some (.cells #[.int .i64 S.part, .bool S.normal, .slice ma S.made.length mc, .slice va S.valid.length vc] 40 (0, 0))) := ⟨blk_below (blk_al (blk_at (w := (w.alloc (.cells #[.slice pa C.parts.length pc, .slice ca C.chans.length cc, .int .i64 C.l0, .slice a0 C.w0.length c0, .int .i64 C.l1, .slice a1 C.w1.length c1] 29))) (by simp) _) _) hb⟩
  have r1 : Kp (w1.heap[w.heap.size + 1 + 1]? = some (.cells #[.int .i64 R.op, .int .i64 R.port, .int .u64 R.addr, .slice da R.data.length dc] 44 (0, 0))) := ⟨blk_below (blk_at (w := ((w.alloc (.cells #[.slice pa C.parts.length pc, .slice ca C.chans.length cc, .int .i64 C.l0, .slice a0 C.w0.length c0, .int .i64 C.l1, .slice a1 C.w1.length c1] 29)).alloc (.cells #[.int .i64 S.part, .bool S.normal, .slice ma S.made.length mc, .slice va S.valid.length vc] 40))) (by simp) _) hb⟩
  have HB1 : Kp (Below w.heap.size w w1) := ⟨below_call (below_al (below_al (below_al HB0.out _) _) _) hb⟩
  clear HB0 hb
  have qc0 : w1.cell? ⟨w.heap.size, 0, none⟩ = some (.slice pa C.parts.length pc) := (cell_blk q1.out 0).trans rfl
  have qc1 : w1.cell? ⟨w.heap.size, 1, none⟩ = some (.slice ca C.chans.length cc) := (cell_blk q1.out 1).trans rfl
  have qc2 : w1.cell? ⟨w.heap.size, 2, none⟩ = some (.int .i64 C.l0) := (cell_blk q1.out 2).trans rfl
  have qc3 : w1.cell? ⟨w.heap.size, 3, none⟩ = some (.slice a0 C.w0.length c0) := (cell_blk q1.out 3).trans rfl
  have qc4 : w1.cell? ⟨w.heap.size, 4, none⟩ = some (.int .i64 C.l1) := (cell_blk q1.out 4).trans rfl
  have qc5 : w1.cell? ⟨w.heap.size, 5, none⟩ = some (.slice a1 C.w1.length c1) := (cell_blk q1.out 5).trans rfl
  have ql := blk_lt q1.out
  have sc0 : w1.cell? ⟨w.heap.size + 1, 0, none⟩ = some (.int .i64 S.part) := (cell_blk s1.out 0).trans rfl
  have sc1 : w1.cell? ⟨w.heap.size + 1, 1, none⟩ = some (.bool S.normal) := (cell_blk s1.out 1).trans rfl
  have sc2 : w1.cell? ⟨w.heap.size + 1, 2, none⟩ = some (.slice ma S.made.length mc) := (cell_blk s1.out 2).trans rfl
  have sc3 : w1.cell? ⟨w.heap.size + 1, 3, none⟩ = some (.slice va S.valid.length vc) := (cell_blk s1.out 3).trans rfl
  have sl := blk_lt s1.out
  have rc0 : w1.cell? ⟨w.heap.size + 1 + 1, 0, none⟩ = some (.int .i64 R.op) := (cell_blk r1.out 0).trans rfl
  have rc1 : w1.cell? ⟨w.heap.size + 1 + 1, 1, none⟩ = some (.int .i64 R.port) := (cell_blk r1.out 1).trans rfl
  have rc2 : w1.cell? ⟨w.heap.size + 1 + 1, 2, none⟩ = some (.int .u64 R.addr) := (cell_blk r1.out 2).trans rfl
  have rc3 : w1.cell? ⟨w.heap.size + 1 + 1, 3, none⟩ = some (.slice da R.data.length dc) := (cell_blk r1.out 3).trans rfl
  have rl := blk_lt r1.out
  go_wp2_with fail
  refine (great_any _ C _ (HC.out.below HB1.out)).mono ?_
  rw [HG.out]
  rintro e w2 ⟨rfl, hb⟩
  have q2 : Kp (w2.heap[w.heap.size]? = some (.cells #[.slice pa C.parts.length pc, .slice ca C.chans.length cc, .int .i64 C.l0, .slice a0 C.w0.length c0, .int .i64 C.l1, .slice a1 C.w1.length c1] 29 (0, 0))) := ⟨blk_below q1.out hb⟩
  have s2 : Kp (w2.heap[w.heap.size + 1]? = some (.cells #[.int .i64 S.part, .bool S.normal, .slice ma S.made.length mc, .slice va S.valid.length vc] 40 (0, 0))) := ⟨blk_below s1.out hb⟩
  have r2 : Kp (w2.heap[w.heap.size + 1 + 1]? = some (.cells #[.int .i64 R.op, .int .i64 R.port, .int .u64 R.addr, .slice da R.data.length dc] 44 (0, 0))) := ⟨blk_below r1.out hb⟩
  have HB2 : Kp (Below w.heap.size w w2) := ⟨below_call HB1.out hb⟩
  clear qc0 qc1 qc2 qc3 qc4 qc5 ql sc0 sc1 sc2 sc3 sl rc0 rc1 rc2 rc3 rl q1 s1 r1 HB1 hb
  have qc0 : w2.cell? ⟨w.heap.size, 0, none⟩ = some (.slice pa C.parts.length pc) := (cell_blk q2.out 0).trans rfl
  have qc1 : w2.cell? ⟨w.heap.size, 1, none⟩ = some (.slice ca C.chans.length cc) := (cell_blk q2.out 1).trans rfl
  have qc2 : w2.cell? ⟨w.heap.size, 2, none⟩ = some (.int .i64 C.l0) := (cell_blk q2.out 2).trans rfl
  have qc3 : w2.cell? ⟨w.heap.size, 3, none⟩ = some (.slice a0 C.w0.length c0) := (cell_blk q2.out 3).trans rfl
  have qc4 : w2.cell? ⟨w.heap.size, 4, none⟩ = some (.int .i64 C.l1) := (cell_blk q2.out 4).trans rfl
  have qc5 : w2.cell? ⟨w.heap.size, 5, none⟩ = some (.slice a1 C.w1.length c1) := (cell_blk q2.out 5).trans rfl
  have ql := blk_lt q2.out
  have sc0 : w2.cell? ⟨w.heap.size + 1, 0, none⟩ = some (.int .i64 S.part) := (cell_blk s2.out 0).trans rfl
  have sc1 : w2.cell? ⟨w.heap.size + 1, 1, none⟩ = some (.bool S.normal) := (cell_blk s2.out 1).trans rfl
  have sc2 : w2.cell? ⟨w.heap.size + 1, 2, none⟩ = some (.slice ma S.made.length mc) := (cell_blk s2.out 2).trans rfl
  have sc3 : w2.cell? ⟨w.heap.size + 1, 3, none⟩ = some (.slice va S.valid.length vc) := (cell_blk s2.out 3).trans rfl
  have sl := blk_lt s2.out
  have rc0 : w2.cell? ⟨w.heap.size + 1 + 1, 0, none⟩ = some (.int .i64 R.op) := (cell_blk r2.out 0).trans rfl
  have rc1 : w2.cell? ⟨w.heap.size + 1 + 1, 1, none⟩ = some (.int .i64 R.port) := (cell_blk r2.out 1).trans rfl
  have rc2 : w2.cell? ⟨w.heap.size + 1 + 1, 2, none⟩ = some (.int .u64 R.addr) := (cell_blk r2.out 2).trans rfl
  have rc3 : w2.cell? ⟨w.heap.size + 1 + 1, 3, none⟩ = some (.slice da R.data.length dc) := (cell_blk r2.out 3).trans rfl
  have rl := blk_lt r2.out
  go_wp2
  go_ret
  exact ⟨rfl, HB2.out⟩

set_option maxRecDepth 100000 in
set_option maxHeartbeats 8000000 in
theorem signFits_data (cv sv rv : Value) (C : Cfg) (S : Std) (R : Rqt) (hg : C.great = false) (hm : ¬ 60 < (S.made.length : Int)) (hd : 100 < (R.data.length : Int)) (w : World) (hN : NamesAt w) (hc : CfgAt w cv C) (hs : StdAt w sv S) (hr : RqtAt w rv R) : Calls Tryd.prog 5 #[cv, sv, rv] w fun e w' => e = .returned (.bool true) ∧ Below w.heap.size w w' := by
  have HN := Kp.mk hN
  clear hN
  have HG := Kp.mk hg
  have hmf : decide (60 < (S.made.length : Int)) = false := decide_eq_false hm
  clear hm
  clear hg
  have HC := Kp.mk hc
  have HS := Kp.mk hs
  have HR := Kp.mk hr
  obtain ⟨_, pa, pc, ca, cc, a0, c0, a1, c1, rfl, bp, bc, b0, b1, gp, gc, gw0, gw1⟩ := hc
  obtain ⟨_, ma, mc, va, vc, rfl, bm, bv, gm, gv⟩ := hs
  obtain ⟨ir, da, dc, rfl, bd, gd⟩ := hr
  clear gp gw0 gw1 gm gv gd bp b0 b1
  clear ir gc bc bm bv bd
  go_enter Tryd.func5, Tryd.ntmps5
  have HB0 : Kp (Below w.heap.size w w) := ⟨Below.refl _ _⟩
  go_wp2_with fail
  refine (wakes10_any _ (HN.out.below (below_al (below_al (below_al HB0.out _) _) _))).mono ?_
  rintro e w1 ⟨rfl, hb⟩
  have q1 : Kp (w1.heap[w.heap.size]? = some (.cells #[.slice pa C.parts.length pc, .slice ca C.chans.length cc, .int .i64 C.l0, .slice a0 C.w0.length c0, .int .i64 C.l1, .slice a1 C.w1.length c1] 29 (0, 0))) := ⟨blk_below (blk_al (blk_al (blk_new _ _) _) _) hb⟩
  have s1 : Kp (w1.heap[w.heap.size + 1]? = some (.cells #[.int .i64 S.part, .bool S.normal, .slice ma S.made.length mc, .slice va S.valid.length vc] 40 (0, 0))) := ⟨blk_below (blk_al (blk_at (w := (w.alloc (.cells #[.slice pa C.parts.length pc, .slice ca C.chans.length cc, .int .i64 C.l0, .slice a0 C.w0.length c0, .int .i64 C.l1, .slice a1 C.w1.length c1] 29))) (by simp) _) _) hb⟩
  have r1 : Kp (w1.heap[w.heap.size + 1 + 1]? = some (.cells #[.int .i64 R.op, .int .i64 R.port, .int .u64 R.addr, .slice da R.data.length dc] 44 (0, 0))) := ⟨blk_below (blk_at (w := ((w.alloc (.cells #[.slice pa C.parts.length pc, .slice ca C.chans.length cc, .int .i64 C.l0, .slice a0 C.w0.length c0, .int .i64 C.l1, .slice a1 C.w1.length c1] 29)).alloc (.cells #[.int .i64 S.part, .bool S.normal, .slice ma S.made.length mc, .slice va S.valid.length vc] 40))) (by simp) _) hb⟩
  have HB1 : Kp (Below w.heap.size w w1) := ⟨below_call (below_al (below_al (below_al HB0.out _) _) _) hb⟩
  clear HB0 hb
  have qc0 : w1.cell? ⟨w.heap.size, 0, none⟩ = some (.slice pa C.parts.length pc) := (cell_blk q1.out 0).trans rfl
  have qc1 : w1.cell? ⟨w.heap.size, 1, none⟩ = some (.slice ca C.chans.length cc) := (cell_blk q1.out 1).trans rfl
  have qc2 : w1.cell? ⟨w.heap.size, 2, none⟩ = some (.int .i64 C.l0) := (cell_blk q1.out 2).trans rfl
  have qc3 : w1.cell? ⟨w.heap.size, 3, none⟩ = some (.slice a0 C.w0.length c0) := (cell_blk q1.out 3).trans rfl
  have qc4 : w1.cell? ⟨w.heap.size, 4, none⟩ = some (.int .i64 C.l1) := (cell_blk q1.out 4).trans rfl
  have qc5 : w1.cell? ⟨w.heap.size, 5, none⟩ = some (.slice a1 C.w1.length c1) := (cell_blk q1.out 5).trans rfl
  have ql := blk_lt q1.out
  have sc0 : w1.cell? ⟨w.heap.size + 1, 0, none⟩ = some (.int .i64 S.part) := (cell_blk s1.out 0).trans rfl
  have sc1 : w1.cell? ⟨w.heap.size + 1, 1, none⟩ = some (.bool S.normal) := (cell_blk s1.out 1).trans rfl
  have sc2 : w1.cell? ⟨w.heap.size + 1, 2, none⟩ = some (.slice ma S.made.length mc) := (cell_blk s1.out 2).trans rfl
  have sc3 : w1.cell? ⟨w.heap.size + 1, 3, none⟩ = some (.slice va S.valid.length vc) := (cell_blk s1.out 3).trans rfl
  have sl := blk_lt s1.out
  have rc0 : w1.cell? ⟨w.heap.size + 1 + 1, 0, none⟩ = some (.int .i64 R.op) := (cell_blk r1.out 0).trans rfl
  have rc1 : w1.cell? ⟨w.heap.size + 1 + 1, 1, none⟩ = some (.int .i64 R.port) := (cell_blk r1.out 1).trans rfl
  have rc2 : w1.cell? ⟨w.heap.size + 1 + 1, 2, none⟩ = some (.int .u64 R.addr) := (cell_blk r1.out 2).trans rfl
  have rc3 : w1.cell? ⟨w.heap.size + 1 + 1, 3, none⟩ = some (.slice da R.data.length dc) := (cell_blk r1.out 3).trans rfl
  have rl := blk_lt r1.out
  go_wp2_with fail
  refine (great_any _ C _ (HC.out.below HB1.out)).mono ?_
  rw [HG.out]
  rintro e w2 ⟨rfl, hb⟩
  have q2 : Kp (w2.heap[w.heap.size]? = some (.cells #[.slice pa C.parts.length pc, .slice ca C.chans.length cc, .int .i64 C.l0, .slice a0 C.w0.length c0, .int .i64 C.l1, .slice a1 C.w1.length c1] 29 (0, 0))) := ⟨blk_below q1.out hb⟩
  have s2 : Kp (w2.heap[w.heap.size + 1]? = some (.cells #[.int .i64 S.part, .bool S.normal, .slice ma S.made.length mc, .slice va S.valid.length vc] 40 (0, 0))) := ⟨blk_below s1.out hb⟩
  have r2 : Kp (w2.heap[w.heap.size + 1 + 1]? = some (.cells #[.int .i64 R.op, .int .i64 R.port, .int .u64 R.addr, .slice da R.data.length dc] 44 (0, 0))) := ⟨blk_below r1.out hb⟩
  have HB2 : Kp (Below w.heap.size w w2) := ⟨below_call HB1.out hb⟩
  clear qc0 qc1 qc2 qc3 qc4 qc5 ql sc0 sc1 sc2 sc3 sl rc0 rc1 rc2 rc3 rl q1 s1 r1 HB1 hb
  have qc0 : w2.cell? ⟨w.heap.size, 0, none⟩ = some (.slice pa C.parts.length pc) := (cell_blk q2.out 0).trans rfl
  have qc1 : w2.cell? ⟨w.heap.size, 1, none⟩ = some (.slice ca C.chans.length cc) := (cell_blk q2.out 1).trans rfl
  have qc2 : w2.cell? ⟨w.heap.size, 2, none⟩ = some (.int .i64 C.l0) := (cell_blk q2.out 2).trans rfl
  have qc3 : w2.cell? ⟨w.heap.size, 3, none⟩ = some (.slice a0 C.w0.length c0) := (cell_blk q2.out 3).trans rfl
  have qc4 : w2.cell? ⟨w.heap.size, 4, none⟩ = some (.int .i64 C.l1) := (cell_blk q2.out 4).trans rfl
  have qc5 : w2.cell? ⟨w.heap.size, 5, none⟩ = some (.slice a1 C.w1.length c1) := (cell_blk q2.out 5).trans rfl
  have ql := blk_lt q2.out
  have sc0 : w2.cell? ⟨w.heap.size + 1, 0, none⟩ = some (.int .i64 S.part) := (cell_blk s2.out 0).trans rfl
  have sc1 : w2.cell? ⟨w.heap.size + 1, 1, none⟩ = some (.bool S.normal) := (cell_blk s2.out 1).trans rfl
  have sc2 : w2.cell? ⟨w.heap.size + 1, 2, none⟩ = some (.slice ma S.made.length mc) := (cell_blk s2.out 2).trans rfl
  have sc3 : w2.cell? ⟨w.heap.size + 1, 3, none⟩ = some (.slice va S.valid.length vc) := (cell_blk s2.out 3).trans rfl
  have sl := blk_lt s2.out
  have rc0 : w2.cell? ⟨w.heap.size + 1 + 1, 0, none⟩ = some (.int .i64 R.op) := (cell_blk r2.out 0).trans rfl
  have rc1 : w2.cell? ⟨w.heap.size + 1 + 1, 1, none⟩ = some (.int .i64 R.port) := (cell_blk r2.out 1).trans rfl
  have rc2 : w2.cell? ⟨w.heap.size + 1 + 1, 2, none⟩ = some (.int .u64 R.addr) := (cell_blk r2.out 2).trans rfl
  have rc3 : w2.cell? ⟨w.heap.size + 1 + 1, 3, none⟩ = some (.slice da R.data.length dc) := (cell_blk r2.out 3).trans rfl
  have rl := blk_lt r2.out
  go_wp2
  go_ret
  exact ⟨rfl, HB2.out⟩

set_option maxRecDepth 100000 in
set_option maxHeartbeats 8000000 in
theorem signFits_no (cv sv rv : Value) (C : Cfg) (S : Std) (R : Rqt) (hg : C.great = false) (hm : ¬ 60 < (S.made.length : Int)) (hd : ¬ 100 < (R.data.length : Int)) (v : Int) (hv : refV C S R = v) (hv0 : v ≠ 0) (w : World) (hN : NamesAt w) (hc : CfgAt w cv C) (hs : StdAt w sv S) (hr : RqtAt w rv R) : Calls Tryd.prog 5 #[cv, sv, rv] w fun e w' => e = .returned (.bool true) ∧ Below w.heap.size w w' := by
  have HN := Kp.mk hN
  clear hN
  have HG := Kp.mk hg
  have HM : Kp (S.made.length ≤ 100) := ⟨by omega⟩
  have HD : Kp (R.data.length ≤ 100) := ⟨by omega⟩
  have hsm := small_of_great hg
  have hmf : decide (60 < (S.made.length : Int)) = false := decide_eq_false hm
  clear hm
  have hdf : decide (100 < (R.data.length : Int)) = false := decide_eq_false hd
  clear hd
  have HV := Kp.mk hv
  have hve : (v != 0) = true := by simpa using hv0
  clear hv0
  clear hg hv
  have HC := Kp.mk hc
  have HS := Kp.mk hs
  have HR := Kp.mk hr
  obtain ⟨_, pa, pc, ca, cc, a0, c0, a1, c1, rfl, bp, bc, b0, b1, gp, gc, gw0, gw1⟩ := hc
  obtain ⟨_, ma, mc, va, vc, rfl, bm, bv, gm, gv⟩ := hs
  obtain ⟨ir, da, dc, rfl, bd, gd⟩ := hr
  clear gp gw0 gw1 gm gv gd bp b0 b1
  clear ir gc bc bm bv bd
  go_enter Tryd.func5, Tryd.ntmps5
  have HB0 : Kp (Below w.heap.size w w) := ⟨Below.refl _ _⟩
  go_wp2_with fail
  refine (wakes10_any _ (HN.out.below (below_al (below_al (below_al HB0.out _) _) _))).mono ?_
  rintro e w1 ⟨rfl, hb⟩
  have q1 : Kp (w1.heap[w.heap.size]? = some (.cells #[.slice pa C.parts.length pc, .slice ca C.chans.length cc, .int .i64 C.l0, .slice a0 C.w0.length c0, .int .i64 C.l1, .slice a1 C.w1.length c1] 29 (0, 0))) := ⟨blk_below (blk_al (blk_al (blk_new _ _) _) _) hb⟩
  have s1 : Kp (w1.heap[w.heap.size + 1]? = some (.cells #[.int .i64 S.part, .bool S.normal, .slice ma S.made.length mc, .slice va S.valid.length vc] 40 (0, 0))) := ⟨blk_below (blk_al (blk_at (w := (w.alloc (.cells #[.slice pa C.parts.length pc, .slice ca C.chans.length cc, .int .i64 C.l0, .slice a0 C.w0.length c0, .int .i64 C.l1, .slice a1 C.w1.length c1] 29))) (by simp) _) _) hb⟩
  have r1 : Kp (w1.heap[w.heap.size + 1 + 1]? = some (.cells #[.int .i64 R.op, .int .i64 R.port, .int .u64 R.addr, .slice da R.data.length dc] 44 (0, 0))) := ⟨blk_below (blk_at (w := ((w.alloc (.cells #[.slice pa C.parts.length pc, .slice ca C.chans.length cc, .int .i64 C.l0, .slice a0 C.w0.length c0, .int .i64 C.l1, .slice a1 C.w1.length c1] 29)).alloc (.cells #[.int .i64 S.part, .bool S.normal, .slice ma S.made.length mc, .slice va S.valid.length vc] 40))) (by simp) _) hb⟩
  have HB1 : Kp (Below w.heap.size w w1) := ⟨below_call (below_al (below_al (below_al HB0.out _) _) _) hb⟩
  clear HB0 hb
  have qc0 : w1.cell? ⟨w.heap.size, 0, none⟩ = some (.slice pa C.parts.length pc) := (cell_blk q1.out 0).trans rfl
  have qc1 : w1.cell? ⟨w.heap.size, 1, none⟩ = some (.slice ca C.chans.length cc) := (cell_blk q1.out 1).trans rfl
  have qc2 : w1.cell? ⟨w.heap.size, 2, none⟩ = some (.int .i64 C.l0) := (cell_blk q1.out 2).trans rfl
  have qc3 : w1.cell? ⟨w.heap.size, 3, none⟩ = some (.slice a0 C.w0.length c0) := (cell_blk q1.out 3).trans rfl
  have qc4 : w1.cell? ⟨w.heap.size, 4, none⟩ = some (.int .i64 C.l1) := (cell_blk q1.out 4).trans rfl
  have qc5 : w1.cell? ⟨w.heap.size, 5, none⟩ = some (.slice a1 C.w1.length c1) := (cell_blk q1.out 5).trans rfl
  have ql := blk_lt q1.out
  have sc0 : w1.cell? ⟨w.heap.size + 1, 0, none⟩ = some (.int .i64 S.part) := (cell_blk s1.out 0).trans rfl
  have sc1 : w1.cell? ⟨w.heap.size + 1, 1, none⟩ = some (.bool S.normal) := (cell_blk s1.out 1).trans rfl
  have sc2 : w1.cell? ⟨w.heap.size + 1, 2, none⟩ = some (.slice ma S.made.length mc) := (cell_blk s1.out 2).trans rfl
  have sc3 : w1.cell? ⟨w.heap.size + 1, 3, none⟩ = some (.slice va S.valid.length vc) := (cell_blk s1.out 3).trans rfl
  have sl := blk_lt s1.out
  have rc0 : w1.cell? ⟨w.heap.size + 1 + 1, 0, none⟩ = some (.int .i64 R.op) := (cell_blk r1.out 0).trans rfl
  have rc1 : w1.cell? ⟨w.heap.size + 1 + 1, 1, none⟩ = some (.int .i64 R.port) := (cell_blk r1.out 1).trans rfl
  have rc2 : w1.cell? ⟨w.heap.size + 1 + 1, 2, none⟩ = some (.int .u64 R.addr) := (cell_blk r1.out 2).trans rfl
  have rc3 : w1.cell? ⟨w.heap.size + 1 + 1, 3, none⟩ = some (.slice da R.data.length dc) := (cell_blk r1.out 3).trans rfl
  have rl := blk_lt r1.out
  go_wp2_with fail
  refine (great_any _ C _ (HC.out.below HB1.out)).mono ?_
  rw [HG.out]
  rintro e w2 ⟨rfl, hb⟩
  have q2 : Kp (w2.heap[w.heap.size]? = some (.cells #[.slice pa C.parts.length pc, .slice ca C.chans.length cc, .int .i64 C.l0, .slice a0 C.w0.length c0, .int .i64 C.l1, .slice a1 C.w1.length c1] 29 (0, 0))) := ⟨blk_below q1.out hb⟩
  have s2 : Kp (w2.heap[w.heap.size + 1]? = some (.cells #[.int .i64 S.part, .bool S.normal, .slice ma S.made.length mc, .slice va S.valid.length vc] 40 (0, 0))) := ⟨blk_below s1.out hb⟩
  have r2 : Kp (w2.heap[w.heap.size + 1 + 1]? = some (.cells #[.int .i64 R.op, .int .i64 R.port, .int .u64 R.addr, .slice da R.data.length dc] 44 (0, 0))) := ⟨blk_below r1.out hb⟩
  have HB2 : Kp (Below w.heap.size w w2) := ⟨below_call HB1.out hb⟩
  clear qc0 qc1 qc2 qc3 qc4 qc5 ql sc0 sc1 sc2 sc3 sl rc0 rc1 rc2 rc3 rl q1 s1 r1 HB1 hb
  have qc0 : w2.cell? ⟨w.heap.size, 0, none⟩ = some (.slice pa C.parts.length pc) := (cell_blk q2.out 0).trans rfl
  have qc1 : w2.cell? ⟨w.heap.size, 1, none⟩ = some (.slice ca C.chans.length cc) := (cell_blk q2.out 1).trans rfl
  have qc2 : w2.cell? ⟨w.heap.size, 2, none⟩ = some (.int .i64 C.l0) := (cell_blk q2.out 2).trans rfl
  have qc3 : w2.cell? ⟨w.heap.size, 3, none⟩ = some (.slice a0 C.w0.length c0) := (cell_blk q2.out 3).trans rfl
  have qc4 : w2.cell? ⟨w.heap.size, 4, none⟩ = some (.int .i64 C.l1) := (cell_blk q2.out 4).trans rfl
  have qc5 : w2.cell? ⟨w.heap.size, 5, none⟩ = some (.slice a1 C.w1.length c1) := (cell_blk q2.out 5).trans rfl
  have ql := blk_lt q2.out
  have sc0 : w2.cell? ⟨w.heap.size + 1, 0, none⟩ = some (.int .i64 S.part) := (cell_blk s2.out 0).trans rfl
  have sc1 : w2.cell? ⟨w.heap.size + 1, 1, none⟩ = some (.bool S.normal) := (cell_blk s2.out 1).trans rfl
  have sc2 : w2.cell? ⟨w.heap.size + 1, 2, none⟩ = some (.slice ma S.made.length mc) := (cell_blk s2.out 2).trans rfl
  have sc3 : w2.cell? ⟨w.heap.size + 1, 3, none⟩ = some (.slice va S.valid.length vc) := (cell_blk s2.out 3).trans rfl
  have sl := blk_lt s2.out
  have rc0 : w2.cell? ⟨w.heap.size + 1 + 1, 0, none⟩ = some (.int .i64 R.op) := (cell_blk r2.out 0).trans rfl
  have rc1 : w2.cell? ⟨w.heap.size + 1 + 1, 1, none⟩ = some (.int .i64 R.port) := (cell_blk r2.out 1).trans rfl
  have rc2 : w2.cell? ⟨w.heap.size + 1 + 1, 2, none⟩ = some (.int .u64 R.addr) := (cell_blk r2.out 2).trans rfl
  have rc3 : w2.cell? ⟨w.heap.size + 1 + 1, 3, none⟩ = some (.slice da R.data.length dc) := (cell_blk r2.out 3).trans rfl
  have rl := blk_lt r2.out
  go_wp2_with fail
  refine (refused_any _ _ _ C S R hsm HM.out HD.out _ (HN.out.below HB2.out) (HC.out.below HB2.out) (HS.out.below HB2.out) (HR.out.below HB2.out)).mono ?_
  rw [HV.out]
  rintro e w3 ⟨rfl, hb⟩
  have q3 : Kp (w3.heap[w.heap.size]? = some (.cells #[.slice pa C.parts.length pc, .slice ca C.chans.length cc, .int .i64 C.l0, .slice a0 C.w0.length c0, .int .i64 C.l1, .slice a1 C.w1.length c1] 29 (0, 0))) := ⟨blk_below q2.out hb⟩
  have s3 : Kp (w3.heap[w.heap.size + 1]? = some (.cells #[.int .i64 S.part, .bool S.normal, .slice ma S.made.length mc, .slice va S.valid.length vc] 40 (0, 0))) := ⟨blk_below s2.out hb⟩
  have r3 : Kp (w3.heap[w.heap.size + 1 + 1]? = some (.cells #[.int .i64 R.op, .int .i64 R.port, .int .u64 R.addr, .slice da R.data.length dc] 44 (0, 0))) := ⟨blk_below r2.out hb⟩
  have HB3 : Kp (Below w.heap.size w w3) := ⟨below_call HB2.out hb⟩
  clear qc0 qc1 qc2 qc3 qc4 qc5 ql sc0 sc1 sc2 sc3 sl rc0 rc1 rc2 rc3 rl q2 s2 r2 HB2 hb
  have qc0 : w3.cell? ⟨w.heap.size, 0, none⟩ = some (.slice pa C.parts.length pc) := (cell_blk q3.out 0).trans rfl
  have qc1 : w3.cell? ⟨w.heap.size, 1, none⟩ = some (.slice ca C.chans.length cc) := (cell_blk q3.out 1).trans rfl
  have qc2 : w3.cell? ⟨w.heap.size, 2, none⟩ = some (.int .i64 C.l0) := (cell_blk q3.out 2).trans rfl
  have qc3 : w3.cell? ⟨w.heap.size, 3, none⟩ = some (.slice a0 C.w0.length c0) := (cell_blk q3.out 3).trans rfl
  have qc4 : w3.cell? ⟨w.heap.size, 4, none⟩ = some (.int .i64 C.l1) := (cell_blk q3.out 4).trans rfl
  have qc5 : w3.cell? ⟨w.heap.size, 5, none⟩ = some (.slice a1 C.w1.length c1) := (cell_blk q3.out 5).trans rfl
  have ql := blk_lt q3.out
  have sc0 : w3.cell? ⟨w.heap.size + 1, 0, none⟩ = some (.int .i64 S.part) := (cell_blk s3.out 0).trans rfl
  have sc1 : w3.cell? ⟨w.heap.size + 1, 1, none⟩ = some (.bool S.normal) := (cell_blk s3.out 1).trans rfl
  have sc2 : w3.cell? ⟨w.heap.size + 1, 2, none⟩ = some (.slice ma S.made.length mc) := (cell_blk s3.out 2).trans rfl
  have sc3 : w3.cell? ⟨w.heap.size + 1, 3, none⟩ = some (.slice va S.valid.length vc) := (cell_blk s3.out 3).trans rfl
  have sl := blk_lt s3.out
  have rc0 : w3.cell? ⟨w.heap.size + 1 + 1, 0, none⟩ = some (.int .i64 R.op) := (cell_blk r3.out 0).trans rfl
  have rc1 : w3.cell? ⟨w.heap.size + 1 + 1, 1, none⟩ = some (.int .i64 R.port) := (cell_blk r3.out 1).trans rfl
  have rc2 : w3.cell? ⟨w.heap.size + 1 + 1, 2, none⟩ = some (.int .u64 R.addr) := (cell_blk r3.out 2).trans rfl
  have rc3 : w3.cell? ⟨w.heap.size + 1 + 1, 3, none⟩ = some (.slice da R.data.length dc) := (cell_blk r3.out 3).trans rfl
  have rl := blk_lt r3.out
  go_wp2
  go_ret
  exact ⟨rfl, HB3.out⟩

set_option maxRecDepth 100000 in
set_option maxHeartbeats 8000000 in
theorem signFits_2 (cv sv rv : Value) (C : Cfg) (S : Std) (R : Rqt) (hg : C.great = false) (hm : ¬ 60 < (S.made.length : Int)) (hd : ¬ 100 < (R.data.length : Int)) (v : Int) (hv : refV C S R = v) (hv0 : v = 0) (ho : R.op = 2) (hn : S.normal = false) (w : World) (hN : NamesAt w) (hc : CfgAt w cv C) (hs : StdAt w sv S) (hr : RqtAt w rv R) : Calls Tryd.prog 5 #[cv, sv, rv] w fun e w' => e = .returned (.bool true) ∧ Below w.heap.size w w' := by
  have HN := Kp.mk hN
  clear hN
  have HG := Kp.mk hg
  have HM : Kp (S.made.length ≤ 100) := ⟨by omega⟩
  have HD : Kp (R.data.length ≤ 100) := ⟨by omega⟩
  have hsm := small_of_great hg
  have hmf : decide (60 < (S.made.length : Int)) = false := decide_eq_false hm
  clear hm
  have hdf : decide (100 < (R.data.length : Int)) = false := decide_eq_false hd
  clear hd
  have HV := Kp.mk hv
  subst hv0
  clear hg hv
  have HC := Kp.mk hc
  have HS := Kp.mk hs
  have HR := Kp.mk hr
  obtain ⟨_, pa, pc, ca, cc, a0, c0, a1, c1, rfl, bp, bc, b0, b1, gp, gc, gw0, gw1⟩ := hc
  obtain ⟨_, ma, mc, va, vc, rfl, bm, bv, gm, gv⟩ := hs
  obtain ⟨ir, da, dc, rfl, bd, gd⟩ := hr
  clear gp gw0 gw1 gm gv gd bp b0 b1
  clear ir gc bc bm bv bd
  rw [hn] at HS ⊢
  clear hn
  rw [ho] at HR ⊢
  clear ho
  go_enter Tryd.func5, Tryd.ntmps5
  have HB0 : Kp (Below w.heap.size w w) := ⟨Below.refl _ _⟩
  go_wp2_with fail
  refine (wakes10_any _ (HN.out.below (below_al (below_al (below_al HB0.out _) _) _))).mono ?_
  rintro e w1 ⟨rfl, hb⟩
  have q1 : Kp (w1.heap[w.heap.size]? = some (.cells #[.slice pa C.parts.length pc, .slice ca C.chans.length cc, .int .i64 C.l0, .slice a0 C.w0.length c0, .int .i64 C.l1, .slice a1 C.w1.length c1] 29 (0, 0))) := ⟨blk_below (blk_al (blk_al (blk_new _ _) _) _) hb⟩
  have s1 : Kp (w1.heap[w.heap.size + 1]? = some (.cells #[.int .i64 S.part, .bool false, .slice ma S.made.length mc, .slice va S.valid.length vc] 40 (0, 0))) := ⟨blk_below (blk_al (blk_at (w := (w.alloc (.cells #[.slice pa C.parts.length pc, .slice ca C.chans.length cc, .int .i64 C.l0, .slice a0 C.w0.length c0, .int .i64 C.l1, .slice a1 C.w1.length c1] 29))) (by simp) _) _) hb⟩
  have r1 : Kp (w1.heap[w.heap.size + 1 + 1]? = some (.cells #[.int .i64 2, .int .i64 R.port, .int .u64 R.addr, .slice da R.data.length dc] 44 (0, 0))) := ⟨blk_below (blk_at (w := ((w.alloc (.cells #[.slice pa C.parts.length pc, .slice ca C.chans.length cc, .int .i64 C.l0, .slice a0 C.w0.length c0, .int .i64 C.l1, .slice a1 C.w1.length c1] 29)).alloc (.cells #[.int .i64 S.part, .bool false, .slice ma S.made.length mc, .slice va S.valid.length vc] 40))) (by simp) _) hb⟩
  have HB1 : Kp (Below w.heap.size w w1) := ⟨below_call (below_al (below_al (below_al HB0.out _) _) _) hb⟩
  clear HB0 hb
  have qc0 : w1.cell? ⟨w.heap.size, 0, none⟩ = some (.slice pa C.parts.length pc) := (cell_blk q1.out 0).trans rfl
  have qc1 : w1.cell? ⟨w.heap.size, 1, none⟩ = some (.slice ca C.chans.length cc) := (cell_blk q1.out 1).trans rfl
  have qc2 : w1.cell? ⟨w.heap.size, 2, none⟩ = some (.int .i64 C.l0) := (cell_blk q1.out 2).trans rfl
  have qc3 : w1.cell? ⟨w.heap.size, 3, none⟩ = some (.slice a0 C.w0.length c0) := (cell_blk q1.out 3).trans rfl
  have qc4 : w1.cell? ⟨w.heap.size, 4, none⟩ = some (.int .i64 C.l1) := (cell_blk q1.out 4).trans rfl
  have qc5 : w1.cell? ⟨w.heap.size, 5, none⟩ = some (.slice a1 C.w1.length c1) := (cell_blk q1.out 5).trans rfl
  have ql := blk_lt q1.out
  have sc0 : w1.cell? ⟨w.heap.size + 1, 0, none⟩ = some (.int .i64 S.part) := (cell_blk s1.out 0).trans rfl
  have sc1 : w1.cell? ⟨w.heap.size + 1, 1, none⟩ = some (.bool false) := (cell_blk s1.out 1).trans rfl
  have sc2 : w1.cell? ⟨w.heap.size + 1, 2, none⟩ = some (.slice ma S.made.length mc) := (cell_blk s1.out 2).trans rfl
  have sc3 : w1.cell? ⟨w.heap.size + 1, 3, none⟩ = some (.slice va S.valid.length vc) := (cell_blk s1.out 3).trans rfl
  have sl := blk_lt s1.out
  have rc0 : w1.cell? ⟨w.heap.size + 1 + 1, 0, none⟩ = some (.int .i64 2) := (cell_blk r1.out 0).trans rfl
  have rc1 : w1.cell? ⟨w.heap.size + 1 + 1, 1, none⟩ = some (.int .i64 R.port) := (cell_blk r1.out 1).trans rfl
  have rc2 : w1.cell? ⟨w.heap.size + 1 + 1, 2, none⟩ = some (.int .u64 R.addr) := (cell_blk r1.out 2).trans rfl
  have rc3 : w1.cell? ⟨w.heap.size + 1 + 1, 3, none⟩ = some (.slice da R.data.length dc) := (cell_blk r1.out 3).trans rfl
  have rl := blk_lt r1.out
  go_wp2_with fail
  refine (great_any _ C _ (HC.out.below HB1.out)).mono ?_
  rw [HG.out]
  rintro e w2 ⟨rfl, hb⟩
  have q2 : Kp (w2.heap[w.heap.size]? = some (.cells #[.slice pa C.parts.length pc, .slice ca C.chans.length cc, .int .i64 C.l0, .slice a0 C.w0.length c0, .int .i64 C.l1, .slice a1 C.w1.length c1] 29 (0, 0))) := ⟨blk_below q1.out hb⟩
  have s2 : Kp (w2.heap[w.heap.size + 1]? = some (.cells #[.int .i64 S.part, .bool false, .slice ma S.made.length mc, .slice va S.valid.length vc] 40 (0, 0))) := ⟨blk_below s1.out hb⟩
  have r2 : Kp (w2.heap[w.heap.size + 1 + 1]? = some (.cells #[.int .i64 2, .int .i64 R.port, .int .u64 R.addr, .slice da R.data.length dc] 44 (0, 0))) := ⟨blk_below r1.out hb⟩
  have HB2 : Kp (Below w.heap.size w w2) := ⟨below_call HB1.out hb⟩
  clear qc0 qc1 qc2 qc3 qc4 qc5 ql sc0 sc1 sc2 sc3 sl rc0 rc1 rc2 rc3 rl q1 s1 r1 HB1 hb
  have qc0 : w2.cell? ⟨w.heap.size, 0, none⟩ = some (.slice pa C.parts.length pc) := (cell_blk q2.out 0).trans rfl
  have qc1 : w2.cell? ⟨w.heap.size, 1, none⟩ = some (.slice ca C.chans.length cc) := (cell_blk q2.out 1).trans rfl
  have qc2 : w2.cell? ⟨w.heap.size, 2, none⟩ = some (.int .i64 C.l0) := (cell_blk q2.out 2).trans rfl
  have qc3 : w2.cell? ⟨w.heap.size, 3, none⟩ = some (.slice a0 C.w0.length c0) := (cell_blk q2.out 3).trans rfl
  have qc4 : w2.cell? ⟨w.heap.size, 4, none⟩ = some (.int .i64 C.l1) := (cell_blk q2.out 4).trans rfl
  have qc5 : w2.cell? ⟨w.heap.size, 5, none⟩ = some (.slice a1 C.w1.length c1) := (cell_blk q2.out 5).trans rfl
  have ql := blk_lt q2.out
  have sc0 : w2.cell? ⟨w.heap.size + 1, 0, none⟩ = some (.int .i64 S.part) := (cell_blk s2.out 0).trans rfl
  have sc1 : w2.cell? ⟨w.heap.size + 1, 1, none⟩ = some (.bool false) := (cell_blk s2.out 1).trans rfl
  have sc2 : w2.cell? ⟨w.heap.size + 1, 2, none⟩ = some (.slice ma S.made.length mc) := (cell_blk s2.out 2).trans rfl
  have sc3 : w2.cell? ⟨w.heap.size + 1, 3, none⟩ = some (.slice va S.valid.length vc) := (cell_blk s2.out 3).trans rfl
  have sl := blk_lt s2.out
  have rc0 : w2.cell? ⟨w.heap.size + 1 + 1, 0, none⟩ = some (.int .i64 2) := (cell_blk r2.out 0).trans rfl
  have rc1 : w2.cell? ⟨w.heap.size + 1 + 1, 1, none⟩ = some (.int .i64 R.port) := (cell_blk r2.out 1).trans rfl
  have rc2 : w2.cell? ⟨w.heap.size + 1 + 1, 2, none⟩ = some (.int .u64 R.addr) := (cell_blk r2.out 2).trans rfl
  have rc3 : w2.cell? ⟨w.heap.size + 1 + 1, 3, none⟩ = some (.slice da R.data.length dc) := (cell_blk r2.out 3).trans rfl
  have rl := blk_lt r2.out
  go_wp2_with fail
  refine (refused_any _ _ _ C S R hsm HM.out HD.out _ (HN.out.below HB2.out) (HC.out.below HB2.out) (HS.out.below HB2.out) (HR.out.below HB2.out)).mono ?_
  rw [HV.out]
  rintro e w3 ⟨rfl, hb⟩
  have q3 : Kp (w3.heap[w.heap.size]? = some (.cells #[.slice pa C.parts.length pc, .slice ca C.chans.length cc, .int .i64 C.l0, .slice a0 C.w0.length c0, .int .i64 C.l1, .slice a1 C.w1.length c1] 29 (0, 0))) := ⟨blk_below q2.out hb⟩
  have s3 : Kp (w3.heap[w.heap.size + 1]? = some (.cells #[.int .i64 S.part, .bool false, .slice ma S.made.length mc, .slice va S.valid.length vc] 40 (0, 0))) := ⟨blk_below s2.out hb⟩
  have r3 : Kp (w3.heap[w.heap.size + 1 + 1]? = some (.cells #[.int .i64 2, .int .i64 R.port, .int .u64 R.addr, .slice da R.data.length dc] 44 (0, 0))) := ⟨blk_below r2.out hb⟩
  have HB3 : Kp (Below w.heap.size w w3) := ⟨below_call HB2.out hb⟩
  clear qc0 qc1 qc2 qc3 qc4 qc5 ql sc0 sc1 sc2 sc3 sl rc0 rc1 rc2 rc3 rl q2 s2 r2 HB2 hb
  have qc0 : w3.cell? ⟨w.heap.size, 0, none⟩ = some (.slice pa C.parts.length pc) := (cell_blk q3.out 0).trans rfl
  have qc1 : w3.cell? ⟨w.heap.size, 1, none⟩ = some (.slice ca C.chans.length cc) := (cell_blk q3.out 1).trans rfl
  have qc2 : w3.cell? ⟨w.heap.size, 2, none⟩ = some (.int .i64 C.l0) := (cell_blk q3.out 2).trans rfl
  have qc3 : w3.cell? ⟨w.heap.size, 3, none⟩ = some (.slice a0 C.w0.length c0) := (cell_blk q3.out 3).trans rfl
  have qc4 : w3.cell? ⟨w.heap.size, 4, none⟩ = some (.int .i64 C.l1) := (cell_blk q3.out 4).trans rfl
  have qc5 : w3.cell? ⟨w.heap.size, 5, none⟩ = some (.slice a1 C.w1.length c1) := (cell_blk q3.out 5).trans rfl
  have ql := blk_lt q3.out
  have sc0 : w3.cell? ⟨w.heap.size + 1, 0, none⟩ = some (.int .i64 S.part) := (cell_blk s3.out 0).trans rfl
  have sc1 : w3.cell? ⟨w.heap.size + 1, 1, none⟩ = some (.bool false) := (cell_blk s3.out 1).trans rfl
  have sc2 : w3.cell? ⟨w.heap.size + 1, 2, none⟩ = some (.slice ma S.made.length mc) := (cell_blk s3.out 2).trans rfl
  have sc3 : w3.cell? ⟨w.heap.size + 1, 3, none⟩ = some (.slice va S.valid.length vc) := (cell_blk s3.out 3).trans rfl
  have sl := blk_lt s3.out
  have rc0 : w3.cell? ⟨w.heap.size + 1 + 1, 0, none⟩ = some (.int .i64 2) := (cell_blk r3.out 0).trans rfl
  have rc1 : w3.cell? ⟨w.heap.size + 1 + 1, 1, none⟩ = some (.int .i64 R.port) := (cell_blk r3.out 1).trans rfl
  have rc2 : w3.cell? ⟨w.heap.size + 1 + 1, 2, none⟩ = some (.int .u64 R.addr) := (cell_blk r3.out 2).trans rfl
  have rc3 : w3.cell? ⟨w.heap.size + 1 + 1, 3, none⟩ = some (.slice da R.data.length dc) := (cell_blk r3.out 3).trans rfl
  have rl := blk_lt r3.out
  go_wp2
  go_ret
  exact ⟨rfl, HB3.out⟩

set_option maxRecDepth 100000 in
set_option maxHeartbeats 8000000 in
theorem signFits_8 (cv sv rv : Value) (C : Cfg) (S : Std) (R : Rqt) (hg : C.great = false) (hm : ¬ 60 < (S.made.length : Int)) (hd : ¬ 100 < (R.data.length : Int)) (v : Int) (hv : refV C S R = v) (hv0 : v = 0) (ho : R.op = 8) (hp : privA C S.part R.addr = true) (ha : accB C = true) (hp0 : 0 ≤ S.part) (hp1 : S.part < C.parts.length) (w : World) (hN : NamesAt w) (hc : CfgAt w cv C) (hs : StdAt w sv S) (hr : RqtAt w rv R) : Calls Tryd.prog 5 #[cv, sv, rv] w fun e w' => e = .returned (.bool true) ∧ Below w.heap.size w w' := by
  have HN := Kp.mk hN
  clear hN
  have HG := Kp.mk hg
  have HM : Kp (S.made.length ≤ 100) := ⟨by omega⟩
  have HD : Kp (R.data.length ≤ 100) := ⟨by omega⟩
  have hsm := small_of_great hg
  have hmf : decide (60 < (S.made.length : Int)) = false := decide_eq_false hm
  clear hm
  have hdf : decide (100 < (R.data.length : Int)) = false := decide_eq_false hd
  clear hd
  have HV := Kp.mk hv
  subst hv0
  have HH := Kp.mk (privA_has C _ _ hp)
  have HMB : Kp (mayB C S.part R.addr = true) := ⟨by rw [mayB, HH.out]; rfl⟩
  have hz := privA_size ha _ _ hp0 hp1 hp
  have hpe := planE_small C
  have v1 : IntKind.u64.wrap (planE C) = planE C := IntWalk.u64_in _ (by omega)
  have v2 : IntKind.i64.wrap R.addr = R.addr := IntWalk.i64_in _ (by omega)
  have hlt : R.addr < planE C := hz.2.1
  clear hp ha hz
  clear hg hv
  have HC := Kp.mk hc
  have HS := Kp.mk hs
  have HR := Kp.mk hr
  obtain ⟨_, pa, pc, ca, cc, a0, c0, a1, c1, rfl, bp, bc, b0, b1, gp, gc, gw0, gw1⟩ := hc
  obtain ⟨_, ma, mc, va, vc, rfl, bm, bv, gm, gv⟩ := hs
  obtain ⟨ir, da, dc, rfl, bd, gd⟩ := hr
  clear gp gw0 gw1 gm gv gd bp b0 b1
  clear ir gc bc bm bv bd
  rw [ho] at HR ⊢
  clear ho
  go_enter Tryd.func5, Tryd.ntmps5
  have HB0 : Kp (Below w.heap.size w w) := ⟨Below.refl _ _⟩
  go_wp2_with fail
  refine (wakes10_any _ (HN.out.below (below_al (below_al (below_al HB0.out _) _) _))).mono ?_
  rintro e w1 ⟨rfl, hb⟩
  have q1 : Kp (w1.heap[w.heap.size]? = some (.cells #[.slice pa C.parts.length pc, .slice ca C.chans.length cc, .int .i64 C.l0, .slice a0 C.w0.length c0, .int .i64 C.l1, .slice a1 C.w1.length c1] 29 (0, 0))) := ⟨blk_below (blk_al (blk_al (blk_new _ _) _) _) hb⟩
  have s1 : Kp (w1.heap[w.heap.size + 1]? = some (.cells #[.int .i64 S.part, .bool S.normal, .slice ma S.made.length mc, .slice va S.valid.length vc] 40 (0, 0))) := ⟨blk_below (blk_al (blk_at (w := (w.alloc (.cells #[.slice pa C.parts.length pc, .slice ca C.chans.length cc, .int .i64 C.l0, .slice a0 C.w0.length c0, .int .i64 C.l1, .slice a1 C.w1.length c1] 29))) (by simp) _) _) hb⟩
  have r1 : Kp (w1.heap[w.heap.size + 1 + 1]? = some (.cells #[.int .i64 8, .int .i64 R.port, .int .u64 R.addr, .slice da R.data.length dc] 44 (0, 0))) := ⟨blk_below (blk_at (w := ((w.alloc (.cells #[.slice pa C.parts.length pc, .slice ca C.chans.length cc, .int .i64 C.l0, .slice a0 C.w0.length c0, .int .i64 C.l1, .slice a1 C.w1.length c1] 29)).alloc (.cells #[.int .i64 S.part, .bool S.normal, .slice ma S.made.length mc, .slice va S.valid.length vc] 40))) (by simp) _) hb⟩
  have HB1 : Kp (Below w.heap.size w w1) := ⟨below_call (below_al (below_al (below_al HB0.out _) _) _) hb⟩
  clear HB0 hb
  have qc0 : w1.cell? ⟨w.heap.size, 0, none⟩ = some (.slice pa C.parts.length pc) := (cell_blk q1.out 0).trans rfl
  have qc1 : w1.cell? ⟨w.heap.size, 1, none⟩ = some (.slice ca C.chans.length cc) := (cell_blk q1.out 1).trans rfl
  have qc2 : w1.cell? ⟨w.heap.size, 2, none⟩ = some (.int .i64 C.l0) := (cell_blk q1.out 2).trans rfl
  have qc3 : w1.cell? ⟨w.heap.size, 3, none⟩ = some (.slice a0 C.w0.length c0) := (cell_blk q1.out 3).trans rfl
  have qc4 : w1.cell? ⟨w.heap.size, 4, none⟩ = some (.int .i64 C.l1) := (cell_blk q1.out 4).trans rfl
  have qc5 : w1.cell? ⟨w.heap.size, 5, none⟩ = some (.slice a1 C.w1.length c1) := (cell_blk q1.out 5).trans rfl
  have ql := blk_lt q1.out
  have sc0 : w1.cell? ⟨w.heap.size + 1, 0, none⟩ = some (.int .i64 S.part) := (cell_blk s1.out 0).trans rfl
  have sc1 : w1.cell? ⟨w.heap.size + 1, 1, none⟩ = some (.bool S.normal) := (cell_blk s1.out 1).trans rfl
  have sc2 : w1.cell? ⟨w.heap.size + 1, 2, none⟩ = some (.slice ma S.made.length mc) := (cell_blk s1.out 2).trans rfl
  have sc3 : w1.cell? ⟨w.heap.size + 1, 3, none⟩ = some (.slice va S.valid.length vc) := (cell_blk s1.out 3).trans rfl
  have sl := blk_lt s1.out
  have rc0 : w1.cell? ⟨w.heap.size + 1 + 1, 0, none⟩ = some (.int .i64 8) := (cell_blk r1.out 0).trans rfl
  have rc1 : w1.cell? ⟨w.heap.size + 1 + 1, 1, none⟩ = some (.int .i64 R.port) := (cell_blk r1.out 1).trans rfl
  have rc2 : w1.cell? ⟨w.heap.size + 1 + 1, 2, none⟩ = some (.int .u64 R.addr) := (cell_blk r1.out 2).trans rfl
  have rc3 : w1.cell? ⟨w.heap.size + 1 + 1, 3, none⟩ = some (.slice da R.data.length dc) := (cell_blk r1.out 3).trans rfl
  have rl := blk_lt r1.out
  go_wp2_with fail
  refine (great_any _ C _ (HC.out.below HB1.out)).mono ?_
  rw [HG.out]
  rintro e w2 ⟨rfl, hb⟩
  have q2 : Kp (w2.heap[w.heap.size]? = some (.cells #[.slice pa C.parts.length pc, .slice ca C.chans.length cc, .int .i64 C.l0, .slice a0 C.w0.length c0, .int .i64 C.l1, .slice a1 C.w1.length c1] 29 (0, 0))) := ⟨blk_below q1.out hb⟩
  have s2 : Kp (w2.heap[w.heap.size + 1]? = some (.cells #[.int .i64 S.part, .bool S.normal, .slice ma S.made.length mc, .slice va S.valid.length vc] 40 (0, 0))) := ⟨blk_below s1.out hb⟩
  have r2 : Kp (w2.heap[w.heap.size + 1 + 1]? = some (.cells #[.int .i64 8, .int .i64 R.port, .int .u64 R.addr, .slice da R.data.length dc] 44 (0, 0))) := ⟨blk_below r1.out hb⟩
  have HB2 : Kp (Below w.heap.size w w2) := ⟨below_call HB1.out hb⟩
  clear qc0 qc1 qc2 qc3 qc4 qc5 ql sc0 sc1 sc2 sc3 sl rc0 rc1 rc2 rc3 rl q1 s1 r1 HB1 hb
  have qc0 : w2.cell? ⟨w.heap.size, 0, none⟩ = some (.slice pa C.parts.length pc) := (cell_blk q2.out 0).trans rfl
  have qc1 : w2.cell? ⟨w.heap.size, 1, none⟩ = some (.slice ca C.chans.length cc) := (cell_blk q2.out 1).trans rfl
  have qc2 : w2.cell? ⟨w.heap.size, 2, none⟩ = some (.int .i64 C.l0) := (cell_blk q2.out 2).trans rfl
  have qc3 : w2.cell? ⟨w.heap.size, 3, none⟩ = some (.slice a0 C.w0.length c0) := (cell_blk q2.out 3).trans rfl
  have qc4 : w2.cell? ⟨w.heap.size, 4, none⟩ = some (.int .i64 C.l1) := (cell_blk q2.out 4).trans rfl
  have qc5 : w2.cell? ⟨w.heap.size, 5, none⟩ = some (.slice a1 C.w1.length c1) := (cell_blk q2.out 5).trans rfl
  have ql := blk_lt q2.out
  have sc0 : w2.cell? ⟨w.heap.size + 1, 0, none⟩ = some (.int .i64 S.part) := (cell_blk s2.out 0).trans rfl
  have sc1 : w2.cell? ⟨w.heap.size + 1, 1, none⟩ = some (.bool S.normal) := (cell_blk s2.out 1).trans rfl
  have sc2 : w2.cell? ⟨w.heap.size + 1, 2, none⟩ = some (.slice ma S.made.length mc) := (cell_blk s2.out 2).trans rfl
  have sc3 : w2.cell? ⟨w.heap.size + 1, 3, none⟩ = some (.slice va S.valid.length vc) := (cell_blk s2.out 3).trans rfl
  have sl := blk_lt s2.out
  have rc0 : w2.cell? ⟨w.heap.size + 1 + 1, 0, none⟩ = some (.int .i64 8) := (cell_blk r2.out 0).trans rfl
  have rc1 : w2.cell? ⟨w.heap.size + 1 + 1, 1, none⟩ = some (.int .i64 R.port) := (cell_blk r2.out 1).trans rfl
  have rc2 : w2.cell? ⟨w.heap.size + 1 + 1, 2, none⟩ = some (.int .u64 R.addr) := (cell_blk r2.out 2).trans rfl
  have rc3 : w2.cell? ⟨w.heap.size + 1 + 1, 3, none⟩ = some (.slice da R.data.length dc) := (cell_blk r2.out 3).trans rfl
  have rl := blk_lt r2.out
  go_wp2_with fail
  refine (refused_any _ _ _ C S R hsm HM.out HD.out _ (HN.out.below HB2.out) (HC.out.below HB2.out) (HS.out.below HB2.out) (HR.out.below HB2.out)).mono ?_
  rw [HV.out]
  rintro e w3 ⟨rfl, hb⟩
  have q3 : Kp (w3.heap[w.heap.size]? = some (.cells #[.slice pa C.parts.length pc, .slice ca C.chans.length cc, .int .i64 C.l0, .slice a0 C.w0.length c0, .int .i64 C.l1, .slice a1 C.w1.length c1] 29 (0, 0))) := ⟨blk_below q2.out hb⟩
  have s3 : Kp (w3.heap[w.heap.size + 1]? = some (.cells #[.int .i64 S.part, .bool S.normal, .slice ma S.made.length mc, .slice va S.valid.length vc] 40 (0, 0))) := ⟨blk_below s2.out hb⟩
  have r3 : Kp (w3.heap[w.heap.size + 1 + 1]? = some (.cells #[.int .i64 8, .int .i64 R.port, .int .u64 R.addr, .slice da R.data.length dc] 44 (0, 0))) := ⟨blk_below r2.out hb⟩
  have HB3 : Kp (Below w.heap.size w w3) := ⟨below_call HB2.out hb⟩
  clear qc0 qc1 qc2 qc3 qc4 qc5 ql sc0 sc1 sc2 sc3 sl rc0 rc1 rc2 rc3 rl q2 s2 r2 HB2 hb
  have qc0 : w3.cell? ⟨w.heap.size, 0, none⟩ = some (.slice pa C.parts.length pc) := (cell_blk q3.out 0).trans rfl
  have qc1 : w3.cell? ⟨w.heap.size, 1, none⟩ = some (.slice ca C.chans.length cc) := (cell_blk q3.out 1).trans rfl
  have qc2 : w3.cell? ⟨w.heap.size, 2, none⟩ = some (.int .i64 C.l0) := (cell_blk q3.out 2).trans rfl
  have qc3 : w3.cell? ⟨w.heap.size, 3, none⟩ = some (.slice a0 C.w0.length c0) := (cell_blk q3.out 3).trans rfl
  have qc4 : w3.cell? ⟨w.heap.size, 4, none⟩ = some (.int .i64 C.l1) := (cell_blk q3.out 4).trans rfl
  have qc5 : w3.cell? ⟨w.heap.size, 5, none⟩ = some (.slice a1 C.w1.length c1) := (cell_blk q3.out 5).trans rfl
  have ql := blk_lt q3.out
  have sc0 : w3.cell? ⟨w.heap.size + 1, 0, none⟩ = some (.int .i64 S.part) := (cell_blk s3.out 0).trans rfl
  have sc1 : w3.cell? ⟨w.heap.size + 1, 1, none⟩ = some (.bool S.normal) := (cell_blk s3.out 1).trans rfl
  have sc2 : w3.cell? ⟨w.heap.size + 1, 2, none⟩ = some (.slice ma S.made.length mc) := (cell_blk s3.out 2).trans rfl
  have sc3 : w3.cell? ⟨w.heap.size + 1, 3, none⟩ = some (.slice va S.valid.length vc) := (cell_blk s3.out 3).trans rfl
  have sl := blk_lt s3.out
  have rc0 : w3.cell? ⟨w.heap.size + 1 + 1, 0, none⟩ = some (.int .i64 8) := (cell_blk r3.out 0).trans rfl
  have rc1 : w3.cell? ⟨w.heap.size + 1 + 1, 1, none⟩ = some (.int .i64 R.port) := (cell_blk r3.out 1).trans rfl
  have rc2 : w3.cell? ⟨w.heap.size + 1 + 1, 2, none⟩ = some (.int .u64 R.addr) := (cell_blk r3.out 2).trans rfl
  have rc3 : w3.cell? ⟨w.heap.size + 1 + 1, 3, none⟩ = some (.slice da R.data.length dc) := (cell_blk r3.out 3).trans rfl
  have rl := blk_lt r3.out
  go_wp2_with fail
  refine held_start_gen (S := (fun w' : World => ButB (w3.heap.size) [] w3 w' ∧ ∀ bb o, bb < w3.heap.size → w'.cell? ⟨bb, o, none⟩ = w3.cell? ⟨bb, o, none⟩)) (by kernel_rfl) (fun wz : World => Kp (wz.heap[w.heap.size]? = some (.cells #[.slice pa C.parts.length pc, .slice ca C.chans.length cc, .int .i64 C.l0, .slice a0 C.w0.length c0, .int .i64 C.l1, .slice a1 C.w1.length c1] 29 (0, 0))) ∧ Kp (wz.heap[w.heap.size + 1]? = some (.cells #[.int .i64 S.part, .bool S.normal, .slice ma S.made.length mc, .slice va S.valid.length vc] 40 (0, 0))) ∧ Kp (wz.heap[w.heap.size + 1 + 1]? = some (.cells #[.int .i64 8, .int .i64 R.port, .int .u64 R.addr, .slice da R.data.length dc] 44 (0, 0))) ∧ Kp (Below w.heap.size w wz) ∧ w3.heap.size ≤ wz.heap.size) ⟨⟨blk_dr q3.out⟩, ⟨blk_dr s3.out⟩, ⟨blk_dr r3.out⟩, ⟨below_dr HB3.out⟩, Nat.le_refl _⟩ (sx_of0 (ButB.dr (ButB.refl _ (by omega)))) (fun wd0 hRn hHeld => ?_)
  clear q3 s3 r3 HB3
  obtain ⟨q3, s3, r3, HB3, hsz⟩ := hRn
  refine wpAnyH_take (i := 0) (oi := ⟨_, _, _, _, _, _⟩) (v := ?_) rfl (by kernel_rfl) (by kernel_rfl) (by kernel_rfl) (fun _ _ _ h => h) (Or.inl ⟨by rfl, ?_⟩) (by assumption) ?_
  rotate_left 1
  · (intro w hSw; go_simp; try with_reducible rfl)
  try simp only [Act.put, List.setIfInBounds_toArray, List.set_cons_zero, List.set_cons_succ]
  refine wpAnyH_take (i := 1) (oi := ⟨_, _, _, _, _, _⟩) (v := ?_) rfl (by kernel_rfl) (by kernel_rfl) (by kernel_rfl) (fun _ _ _ h => h) (Or.inl ⟨by rfl, ?_⟩) (by assumption) ?_
  rotate_left 1
  · (intro w hSw; go_simp; try with_reducible rfl)
  try simp only [Act.put, List.setIfInBounds_toArray, List.set_cons_zero, List.set_cons_succ]
  refine wpAnyH_take (i := 2) (oi := ⟨_, _, _, _, _, _⟩) (v := ?_) rfl (by kernel_rfl) (by kernel_rfl) (by kernel_rfl) (fun _ _ _ h => h) (Or.inl ⟨by rfl, ?_⟩) (by assumption) ?_
  rotate_left 1
  · (intro w hSw; go_simp; try with_reducible rfl)
  try simp only [Act.put, List.setIfInBounds_toArray, List.set_cons_zero, List.set_cons_succ]
  refine wpAnyH_ready (rs := [3]) (by kernel_rfl) (by simp) ?_
  refine (AllReadyH.cons (o := ⟨_, _, _, _, _, _⟩) rfl (fun K hK => ?_) AllReadyH.nil)
  go_simp
  go_at_call 16
  refine (rsize_any _ C hsm _ (HC.out.below HB3.out)).mono ?_
  rintro e w9 ⟨rfl, hb⟩
  try go_wp2_with fail
  refine out_gen hK _ _ (fun wz : World => Kp (wz.heap[w.heap.size]? = some (.cells #[.slice pa C.parts.length pc, .slice ca C.chans.length cc, .int .i64 C.l0, .slice a0 C.w0.length c0, .int .i64 C.l1, .slice a1 C.w1.length c1] 29 (0, 0))) ∧ Kp (wz.heap[w.heap.size + 1]? = some (.cells #[.int .i64 S.part, .bool S.normal, .slice ma S.made.length mc, .slice va S.valid.length vc] 40 (0, 0))) ∧ Kp (wz.heap[w.heap.size + 1 + 1]? = some (.cells #[.int .i64 8, .int .i64 R.port, .int .u64 R.addr, .slice da R.data.length dc] 44 (0, 0))) ∧ Kp (Below w.heap.size w wz) ∧ wd0.heap.size ≤ wz.heap.size) ⟨⟨blk_below q3.out hb⟩, ⟨blk_below s3.out hb⟩, ⟨blk_below r3.out hb⟩, ⟨below_call HB3.out hb⟩, hb.size⟩ (sx_of0 (ButB.call (And.left hHeld) hb)) (fun wd1 hRn hHn => ?_)
  clear hK K hHeld q3 s3 r3 HB3 hb
  obtain ⟨q3, s3, r3, HB3, hsz1⟩ := hRn
  have hHeld := hHn
  clear hHn
  try simp only [Act.put, List.setIfInBounds_toArray, List.set_cons_zero, List.set_cons_succ]
  refine wpAnyH_take (i := 4) (oi := ⟨_, _, _, _, _, _⟩) (v := ?_) rfl (by kernel_rfl) (by kernel_rfl) (by kernel_rfl) (fun _ _ _ h => h) (Or.inl ⟨by rfl, ?_⟩) (by assumption) ?_
  rotate_left 1
  · (intro w hSw; go_simp; try with_reducible rfl)
  try simp only [Act.put, List.setIfInBounds_toArray, List.set_cons_zero, List.set_cons_succ]
  refine wpAnyH_take (i := 5) (oi := ⟨_, _, _, _, _, _⟩) (v := ?_) rfl (by kernel_rfl) (by kernel_rfl) (by kernel_rfl) (fun _ _ _ h => h) (Or.inl ⟨by rfl, ?_⟩) (by assumption) ?_
  rotate_left 1
  · (intro w hSw; go_simp; try with_reducible rfl)
  try simp only [Act.put, List.setIfInBounds_toArray, List.set_cons_zero, List.set_cons_succ]
  refine wpAnyH_take (i := 6) (oi := ⟨_, _, _, _, _, _⟩) (v := ?_) rfl (by kernel_rfl) (by kernel_rfl) (by kernel_rfl) (fun _ _ _ h => h) (Or.inl ⟨by rfl, ?_⟩) (by assumption) ?_
  rotate_left 1
  · (intro w hSw; go_simp; try with_reducible rfl)
  try simp only [Act.put, List.setIfInBounds_toArray, List.set_cons_zero, List.set_cons_succ]
  refine wpAnyH_take (i := 7) (oi := ⟨_, _, _, _, _, _⟩) (v := ?_) rfl (by kernel_rfl) (by kernel_rfl) (by kernel_rfl) (fun _ _ _ h => h) (Or.inl ⟨by rfl, ?_⟩) (by assumption) ?_
  rotate_left 1
  · (intro w hSw; go_simp; try with_reducible rfl)
  try simp only [Act.put, List.setIfInBounds_toArray, List.set_cons_zero, List.set_cons_succ]
  refine wpAnyH_take (i := 8) (oi := ⟨_, _, _, _, _, _⟩) (v := ?_) rfl (by kernel_rfl) (by kernel_rfl) (by kernel_rfl) (fun _ _ _ h => h) (Or.inl ⟨by rfl, ?_⟩) (by assumption) ?_
  rotate_left 1
  · (intro w hSw; go_simp; try with_reducible rfl)
  try simp only [Act.put, List.setIfInBounds_toArray, List.set_cons_zero, List.set_cons_succ]
  refine wpAnyH_take (i := 9) (oi := ⟨_, _, _, _, _, _⟩) (v := ?_) rfl (by kernel_rfl) (by kernel_rfl) (by kernel_rfl) (fun _ _ _ h => h) (Or.inl ⟨by rfl, ?_⟩) (by assumption) ?_
  rotate_left 1
  · (intro w hSw; go_simp; try with_reducible rfl)
  try simp only [Act.put, List.setIfInBounds_toArray, List.set_cons_zero, List.set_cons_succ]
  refine wpAnyH_take (i := 10) (oi := ⟨_, _, _, _, _, _⟩) (v := ?_) rfl (by kernel_rfl) (by kernel_rfl) (by kernel_rfl) (fun _ _ _ h => h) (Or.inl ⟨by rfl, ?_⟩) (by assumption) ?_
  rotate_left 1
  · (intro w hSw; go_simp; try with_reducible rfl)
  try simp only [Act.put, List.setIfInBounds_toArray, List.set_cons_zero, List.set_cons_succ]
  refine wpAnyH_take (i := 11) (oi := ⟨_, _, _, _, _, _⟩) (v := ?_) rfl (by kernel_rfl) (by kernel_rfl) (by kernel_rfl) (fun _ _ _ h => h) (Or.inl ⟨by rfl, ?_⟩) (by assumption) ?_
  rotate_left 1
  · (intro w hSw; go_simp; try with_reducible rfl)
  try simp only [Act.put, List.setIfInBounds_toArray, List.set_cons_zero, List.set_cons_succ]
  refine wpAnyH_take (i := 12) (oi := ⟨_, _, _, _, _, _⟩) (v := ?_) rfl (by kernel_rfl) (by kernel_rfl) (by kernel_rfl) (fun _ _ _ h => h) (Or.inl ⟨by rfl, ?_⟩) (by assumption) ?_
  rotate_left 1
  · (intro w hSw; go_simp; try with_reducible rfl)
  try simp only [Act.put, List.setIfInBounds_toArray, List.set_cons_zero, List.set_cons_succ]
  refine wpAnyH_ready (rs := [13]) (by kernel_rfl) (by simp) ?_
  refine (AllReadyH.cons (o := ⟨_, _, _, _, _, _⟩) rfl (fun K hK => ?_) AllReadyH.nil)
  go_simp
  go_at_call 17
  refine (rmay_priv _ C hsm S.part R.addr HH.out _ (HC.out.below HB3.out)).mono ?_
  rw [HMB.out]
  rintro e w9 ⟨rfl, hb⟩
  try go_wp2_with fail
  refine out_gen hK _ _ (fun wz : World => Kp (wz.heap[w.heap.size]? = some (.cells #[.slice pa C.parts.length pc, .slice ca C.chans.length cc, .int .i64 C.l0, .slice a0 C.w0.length c0, .int .i64 C.l1, .slice a1 C.w1.length c1] 29 (0, 0))) ∧ Kp (wz.heap[w.heap.size + 1]? = some (.cells #[.int .i64 S.part, .bool S.normal, .slice ma S.made.length mc, .slice va S.valid.length vc] 40 (0, 0))) ∧ Kp (wz.heap[w.heap.size + 1 + 1]? = some (.cells #[.int .i64 8, .int .i64 R.port, .int .u64 R.addr, .slice da R.data.length dc] 44 (0, 0))) ∧ Kp (Below w.heap.size w wz) ∧ wd1.heap.size ≤ wz.heap.size) ⟨⟨blk_below q3.out hb⟩, ⟨blk_below s3.out hb⟩, ⟨blk_below r3.out hb⟩, ⟨below_call HB3.out hb⟩, hb.size⟩ (sx_of0 (ButB.call (And.left hHeld) hb)) (fun wd2 hRn hHn => ?_)
  clear hK K hHeld q3 s3 r3 HB3 hb
  obtain ⟨q3, s3, r3, HB3, hsz2⟩ := hRn
  have hHeld := hHn
  clear hHn
  try simp only [Act.put, List.setIfInBounds_toArray, List.set_cons_zero, List.set_cons_succ]
  refine wpAnyH_take (i := 14) (oi := ⟨_, _, _, _, _, _⟩) (v := ?_) rfl (by kernel_rfl) (by kernel_rfl) (by kernel_rfl) (fun _ _ _ h => h) (Or.inl ⟨by rfl, ?_⟩) (by assumption) ?_
  rotate_left 1
  · (intro w hSw; go_simp; try with_reducible rfl)
  try simp only [Act.put, List.setIfInBounds_toArray, List.set_cons_zero, List.set_cons_succ]
  refine wpAnyH_take (i := 15) (oi := ⟨_, _, _, _, _, _⟩) (v := ?_) rfl (by kernel_rfl) (by kernel_rfl) (by kernel_rfl) (fun _ _ _ h => h) (Or.inl ⟨by rfl, ?_⟩) (by assumption) ?_
  rotate_left 1
  · (intro w hSw; go_simp; try with_reducible rfl)
  try simp only [Act.put, List.setIfInBounds_toArray, List.set_cons_zero, List.set_cons_succ]
  refine wpAnyH_done (by kernel_rfl) ?_ _
  go_wp2
  go_ret
  exact ⟨rfl, HB3.out⟩

set_option maxRecDepth 100000 in
set_option maxHeartbeats 8000000 in
theorem signFits_9 (cv sv rv : Value) (C : Cfg) (S : Std) (R : Rqt) (hg : C.great = false) (hm : ¬ 60 < (S.made.length : Int)) (hd : ¬ 100 < (R.data.length : Int)) (v : Int) (hv : refV C S R = v) (hv0 : v = 0) (ho : R.op = 9) (hp : privA C S.part R.addr = true) (ha : accB C = true) (hp0 : 0 ≤ S.part) (hp1 : S.part < C.parts.length) (w : World) (hN : NamesAt w) (hc : CfgAt w cv C) (hs : StdAt w sv S) (hr : RqtAt w rv R) : Calls Tryd.prog 5 #[cv, sv, rv] w fun e w' => e = .returned (.bool true) ∧ Below w.heap.size w w' := by
  have HN := Kp.mk hN
  clear hN
  have HG := Kp.mk hg
  have HM : Kp (S.made.length ≤ 100) := ⟨by omega⟩
  have HD : Kp (R.data.length ≤ 100) := ⟨by omega⟩
  have hsm := small_of_great hg
  have hmf : decide (60 < (S.made.length : Int)) = false := decide_eq_false hm
  clear hm
  have hdf : decide (100 < (R.data.length : Int)) = false := decide_eq_false hd
  clear hd
  have HV := Kp.mk hv
  subst hv0
  have HH := Kp.mk (privA_has C _ _ hp)
  have HMB : Kp (mayB C S.part R.addr = true) := ⟨by rw [mayB, HH.out]; rfl⟩
  have hz := privA_size ha _ _ hp0 hp1 hp
  have hpe := planE_small C
  have v1 : IntKind.u64.wrap (planE C) = planE C := IntWalk.u64_in _ (by omega)
  have v2 : IntKind.i64.wrap R.addr = R.addr := IntWalk.i64_in _ (by omega)
  have hlt : R.addr < planE C := hz.2.1
  clear hp ha hz
  clear hg hv
  have HC := Kp.mk hc
  have HS := Kp.mk hs
  have HR := Kp.mk hr
  obtain ⟨_, pa, pc, ca, cc, a0, c0, a1, c1, rfl, bp, bc, b0, b1, gp, gc, gw0, gw1⟩ := hc
  obtain ⟨_, ma, mc, va, vc, rfl, bm, bv, gm, gv⟩ := hs
  obtain ⟨ir, da, dc, rfl, bd, gd⟩ := hr
  clear gp gw0 gw1 gm gv gd bp b0 b1
  clear ir gc bc bm bv bd
  rw [ho] at HR ⊢
  clear ho
  go_enter Tryd.func5, Tryd.ntmps5
  have HB0 : Kp (Below w.heap.size w w) := ⟨Below.refl _ _⟩
  go_wp2_with fail
  refine (wakes10_any _ (HN.out.below (below_al (below_al (below_al HB0.out _) _) _))).mono ?_
  rintro e w1 ⟨rfl, hb⟩
  have q1 : Kp (w1.heap[w.heap.size]? = some (.cells #[.slice pa C.parts.length pc, .slice ca C.chans.length cc, .int .i64 C.l0, .slice a0 C.w0.length c0, .int .i64 C.l1, .slice a1 C.w1.length c1] 29 (0, 0))) := ⟨blk_below (blk_al (blk_al (blk_new _ _) _) _) hb⟩
  have s1 : Kp (w1.heap[w.heap.size + 1]? = some (.cells #[.int .i64 S.part, .bool S.normal, .slice ma S.made.length mc, .slice va S.valid.length vc] 40 (0, 0))) := ⟨blk_below (blk_al (blk_at (w := (w.alloc (.cells #[.slice pa C.parts.length pc, .slice ca C.chans.length cc, .int .i64 C.l0, .slice a0 C.w0.length c0, .int .i64 C.l1, .slice a1 C.w1.length c1] 29))) (by simp) _) _) hb⟩
  have r1 : Kp (w1.heap[w.heap.size + 1 + 1]? = some (.cells #[.int .i64 9, .int .i64 R.port, .int .u64 R.addr, .slice da R.data.length dc] 44 (0, 0))) := ⟨blk_below (blk_at (w := ((w.alloc (.cells #[.slice pa C.parts.length pc, .slice ca C.chans.length cc, .int .i64 C.l0, .slice a0 C.w0.length c0, .int .i64 C.l1, .slice a1 C.w1.length c1] 29)).alloc (.cells #[.int .i64 S.part, .bool S.normal, .slice ma S.made.length mc, .slice va S.valid.length vc] 40))) (by simp) _) hb⟩
  have HB1 : Kp (Below w.heap.size w w1) := ⟨below_call (below_al (below_al (below_al HB0.out _) _) _) hb⟩
  clear HB0 hb
  have qc0 : w1.cell? ⟨w.heap.size, 0, none⟩ = some (.slice pa C.parts.length pc) := (cell_blk q1.out 0).trans rfl
  have qc1 : w1.cell? ⟨w.heap.size, 1, none⟩ = some (.slice ca C.chans.length cc) := (cell_blk q1.out 1).trans rfl
  have qc2 : w1.cell? ⟨w.heap.size, 2, none⟩ = some (.int .i64 C.l0) := (cell_blk q1.out 2).trans rfl
  have qc3 : w1.cell? ⟨w.heap.size, 3, none⟩ = some (.slice a0 C.w0.length c0) := (cell_blk q1.out 3).trans rfl
  have qc4 : w1.cell? ⟨w.heap.size, 4, none⟩ = some (.int .i64 C.l1) := (cell_blk q1.out 4).trans rfl
  have qc5 : w1.cell? ⟨w.heap.size, 5, none⟩ = some (.slice a1 C.w1.length c1) := (cell_blk q1.out 5).trans rfl
  have ql := blk_lt q1.out
  have sc0 : w1.cell? ⟨w.heap.size + 1, 0, none⟩ = some (.int .i64 S.part) := (cell_blk s1.out 0).trans rfl
  have sc1 : w1.cell? ⟨w.heap.size + 1, 1, none⟩ = some (.bool S.normal) := (cell_blk s1.out 1).trans rfl
  have sc2 : w1.cell? ⟨w.heap.size + 1, 2, none⟩ = some (.slice ma S.made.length mc) := (cell_blk s1.out 2).trans rfl
  have sc3 : w1.cell? ⟨w.heap.size + 1, 3, none⟩ = some (.slice va S.valid.length vc) := (cell_blk s1.out 3).trans rfl
  have sl := blk_lt s1.out
  have rc0 : w1.cell? ⟨w.heap.size + 1 + 1, 0, none⟩ = some (.int .i64 9) := (cell_blk r1.out 0).trans rfl
  have rc1 : w1.cell? ⟨w.heap.size + 1 + 1, 1, none⟩ = some (.int .i64 R.port) := (cell_blk r1.out 1).trans rfl
  have rc2 : w1.cell? ⟨w.heap.size + 1 + 1, 2, none⟩ = some (.int .u64 R.addr) := (cell_blk r1.out 2).trans rfl
  have rc3 : w1.cell? ⟨w.heap.size + 1 + 1, 3, none⟩ = some (.slice da R.data.length dc) := (cell_blk r1.out 3).trans rfl
  have rl := blk_lt r1.out
  go_wp2_with fail
  refine (great_any _ C _ (HC.out.below HB1.out)).mono ?_
  rw [HG.out]
  rintro e w2 ⟨rfl, hb⟩
  have q2 : Kp (w2.heap[w.heap.size]? = some (.cells #[.slice pa C.parts.length pc, .slice ca C.chans.length cc, .int .i64 C.l0, .slice a0 C.w0.length c0, .int .i64 C.l1, .slice a1 C.w1.length c1] 29 (0, 0))) := ⟨blk_below q1.out hb⟩
  have s2 : Kp (w2.heap[w.heap.size + 1]? = some (.cells #[.int .i64 S.part, .bool S.normal, .slice ma S.made.length mc, .slice va S.valid.length vc] 40 (0, 0))) := ⟨blk_below s1.out hb⟩
  have r2 : Kp (w2.heap[w.heap.size + 1 + 1]? = some (.cells #[.int .i64 9, .int .i64 R.port, .int .u64 R.addr, .slice da R.data.length dc] 44 (0, 0))) := ⟨blk_below r1.out hb⟩
  have HB2 : Kp (Below w.heap.size w w2) := ⟨below_call HB1.out hb⟩
  clear qc0 qc1 qc2 qc3 qc4 qc5 ql sc0 sc1 sc2 sc3 sl rc0 rc1 rc2 rc3 rl q1 s1 r1 HB1 hb
  have qc0 : w2.cell? ⟨w.heap.size, 0, none⟩ = some (.slice pa C.parts.length pc) := (cell_blk q2.out 0).trans rfl
  have qc1 : w2.cell? ⟨w.heap.size, 1, none⟩ = some (.slice ca C.chans.length cc) := (cell_blk q2.out 1).trans rfl
  have qc2 : w2.cell? ⟨w.heap.size, 2, none⟩ = some (.int .i64 C.l0) := (cell_blk q2.out 2).trans rfl
  have qc3 : w2.cell? ⟨w.heap.size, 3, none⟩ = some (.slice a0 C.w0.length c0) := (cell_blk q2.out 3).trans rfl
  have qc4 : w2.cell? ⟨w.heap.size, 4, none⟩ = some (.int .i64 C.l1) := (cell_blk q2.out 4).trans rfl
  have qc5 : w2.cell? ⟨w.heap.size, 5, none⟩ = some (.slice a1 C.w1.length c1) := (cell_blk q2.out 5).trans rfl
  have ql := blk_lt q2.out
  have sc0 : w2.cell? ⟨w.heap.size + 1, 0, none⟩ = some (.int .i64 S.part) := (cell_blk s2.out 0).trans rfl
  have sc1 : w2.cell? ⟨w.heap.size + 1, 1, none⟩ = some (.bool S.normal) := (cell_blk s2.out 1).trans rfl
  have sc2 : w2.cell? ⟨w.heap.size + 1, 2, none⟩ = some (.slice ma S.made.length mc) := (cell_blk s2.out 2).trans rfl
  have sc3 : w2.cell? ⟨w.heap.size + 1, 3, none⟩ = some (.slice va S.valid.length vc) := (cell_blk s2.out 3).trans rfl
  have sl := blk_lt s2.out
  have rc0 : w2.cell? ⟨w.heap.size + 1 + 1, 0, none⟩ = some (.int .i64 9) := (cell_blk r2.out 0).trans rfl
  have rc1 : w2.cell? ⟨w.heap.size + 1 + 1, 1, none⟩ = some (.int .i64 R.port) := (cell_blk r2.out 1).trans rfl
  have rc2 : w2.cell? ⟨w.heap.size + 1 + 1, 2, none⟩ = some (.int .u64 R.addr) := (cell_blk r2.out 2).trans rfl
  have rc3 : w2.cell? ⟨w.heap.size + 1 + 1, 3, none⟩ = some (.slice da R.data.length dc) := (cell_blk r2.out 3).trans rfl
  have rl := blk_lt r2.out
  go_wp2_with fail
  refine (refused_any _ _ _ C S R hsm HM.out HD.out _ (HN.out.below HB2.out) (HC.out.below HB2.out) (HS.out.below HB2.out) (HR.out.below HB2.out)).mono ?_
  rw [HV.out]
  rintro e w3 ⟨rfl, hb⟩
  have q3 : Kp (w3.heap[w.heap.size]? = some (.cells #[.slice pa C.parts.length pc, .slice ca C.chans.length cc, .int .i64 C.l0, .slice a0 C.w0.length c0, .int .i64 C.l1, .slice a1 C.w1.length c1] 29 (0, 0))) := ⟨blk_below q2.out hb⟩
  have s3 : Kp (w3.heap[w.heap.size + 1]? = some (.cells #[.int .i64 S.part, .bool S.normal, .slice ma S.made.length mc, .slice va S.valid.length vc] 40 (0, 0))) := ⟨blk_below s2.out hb⟩
  have r3 : Kp (w3.heap[w.heap.size + 1 + 1]? = some (.cells #[.int .i64 9, .int .i64 R.port, .int .u64 R.addr, .slice da R.data.length dc] 44 (0, 0))) := ⟨blk_below r2.out hb⟩
  have HB3 : Kp (Below w.heap.size w w3) := ⟨below_call HB2.out hb⟩
  clear qc0 qc1 qc2 qc3 qc4 qc5 ql sc0 sc1 sc2 sc3 sl rc0 rc1 rc2 rc3 rl q2 s2 r2 HB2 hb
  have qc0 : w3.cell? ⟨w.heap.size, 0, none⟩ = some (.slice pa C.parts.length pc) := (cell_blk q3.out 0).trans rfl
  have qc1 : w3.cell? ⟨w.heap.size, 1, none⟩ = some (.slice ca C.chans.length cc) := (cell_blk q3.out 1).trans rfl
  have qc2 : w3.cell? ⟨w.heap.size, 2, none⟩ = some (.int .i64 C.l0) := (cell_blk q3.out 2).trans rfl
  have qc3 : w3.cell? ⟨w.heap.size, 3, none⟩ = some (.slice a0 C.w0.length c0) := (cell_blk q3.out 3).trans rfl
  have qc4 : w3.cell? ⟨w.heap.size, 4, none⟩ = some (.int .i64 C.l1) := (cell_blk q3.out 4).trans rfl
  have qc5 : w3.cell? ⟨w.heap.size, 5, none⟩ = some (.slice a1 C.w1.length c1) := (cell_blk q3.out 5).trans rfl
  have ql := blk_lt q3.out
  have sc0 : w3.cell? ⟨w.heap.size + 1, 0, none⟩ = some (.int .i64 S.part) := (cell_blk s3.out 0).trans rfl
  have sc1 : w3.cell? ⟨w.heap.size + 1, 1, none⟩ = some (.bool S.normal) := (cell_blk s3.out 1).trans rfl
  have sc2 : w3.cell? ⟨w.heap.size + 1, 2, none⟩ = some (.slice ma S.made.length mc) := (cell_blk s3.out 2).trans rfl
  have sc3 : w3.cell? ⟨w.heap.size + 1, 3, none⟩ = some (.slice va S.valid.length vc) := (cell_blk s3.out 3).trans rfl
  have sl := blk_lt s3.out
  have rc0 : w3.cell? ⟨w.heap.size + 1 + 1, 0, none⟩ = some (.int .i64 9) := (cell_blk r3.out 0).trans rfl
  have rc1 : w3.cell? ⟨w.heap.size + 1 + 1, 1, none⟩ = some (.int .i64 R.port) := (cell_blk r3.out 1).trans rfl
  have rc2 : w3.cell? ⟨w.heap.size + 1 + 1, 2, none⟩ = some (.int .u64 R.addr) := (cell_blk r3.out 2).trans rfl
  have rc3 : w3.cell? ⟨w.heap.size + 1 + 1, 3, none⟩ = some (.slice da R.data.length dc) := (cell_blk r3.out 3).trans rfl
  have rl := blk_lt r3.out
  go_wp2_with fail
  refine held_start_gen (S := (fun w' : World => ButB (w3.heap.size) [] w3 w' ∧ ∀ bb o, bb < w3.heap.size → w'.cell? ⟨bb, o, none⟩ = w3.cell? ⟨bb, o, none⟩)) (by kernel_rfl) (fun wz : World => Kp (wz.heap[w.heap.size]? = some (.cells #[.slice pa C.parts.length pc, .slice ca C.chans.length cc, .int .i64 C.l0, .slice a0 C.w0.length c0, .int .i64 C.l1, .slice a1 C.w1.length c1] 29 (0, 0))) ∧ Kp (wz.heap[w.heap.size + 1]? = some (.cells #[.int .i64 S.part, .bool S.normal, .slice ma S.made.length mc, .slice va S.valid.length vc] 40 (0, 0))) ∧ Kp (wz.heap[w.heap.size + 1 + 1]? = some (.cells #[.int .i64 9, .int .i64 R.port, .int .u64 R.addr, .slice da R.data.length dc] 44 (0, 0))) ∧ Kp (Below w.heap.size w wz) ∧ w3.heap.size ≤ wz.heap.size) ⟨⟨blk_dr q3.out⟩, ⟨blk_dr s3.out⟩, ⟨blk_dr r3.out⟩, ⟨below_dr HB3.out⟩, Nat.le_refl _⟩ (sx_of0 (ButB.dr (ButB.refl _ (by omega)))) (fun wd0 hRn hHeld => ?_)
  clear q3 s3 r3 HB3
  obtain ⟨q3, s3, r3, HB3, hsz⟩ := hRn
  refine wpAnyH_take (i := 0) (oi := ⟨_, _, _, _, _, _⟩) (v := ?_) rfl (by kernel_rfl) (by kernel_rfl) (by kernel_rfl) (fun _ _ _ h => h) (Or.inl ⟨by rfl, ?_⟩) (by assumption) ?_
  rotate_left 1
  · (intro w hSw; go_simp; try with_reducible rfl)
  try simp only [Act.put, List.setIfInBounds_toArray, List.set_cons_zero, List.set_cons_succ]
  refine wpAnyH_take (i := 1) (oi := ⟨_, _, _, _, _, _⟩) (v := ?_) rfl (by kernel_rfl) (by kernel_rfl) (by kernel_rfl) (fun _ _ _ h => h) (Or.inl ⟨by rfl, ?_⟩) (by assumption) ?_
  rotate_left 1
  · (intro w hSw; go_simp; try with_reducible rfl)
  try simp only [Act.put, List.setIfInBounds_toArray, List.set_cons_zero, List.set_cons_succ]
  refine wpAnyH_take (i := 2) (oi := ⟨_, _, _, _, _, _⟩) (v := ?_) rfl (by kernel_rfl) (by kernel_rfl) (by kernel_rfl) (fun _ _ _ h => h) (Or.inl ⟨by rfl, ?_⟩) (by assumption) ?_
  rotate_left 1
  · (intro w hSw; go_simp; try with_reducible rfl)
  try simp only [Act.put, List.setIfInBounds_toArray, List.set_cons_zero, List.set_cons_succ]
  refine wpAnyH_ready (rs := [3]) (by kernel_rfl) (by simp) ?_
  refine (AllReadyH.cons (o := ⟨_, _, _, _, _, _⟩) rfl (fun K hK => ?_) AllReadyH.nil)
  go_simp
  go_at_call 16
  refine (rsize_any _ C hsm _ (HC.out.below HB3.out)).mono ?_
  rintro e w9 ⟨rfl, hb⟩
  try go_wp2_with fail
  refine out_gen hK _ _ (fun wz : World => Kp (wz.heap[w.heap.size]? = some (.cells #[.slice pa C.parts.length pc, .slice ca C.chans.length cc, .int .i64 C.l0, .slice a0 C.w0.length c0, .int .i64 C.l1, .slice a1 C.w1.length c1] 29 (0, 0))) ∧ Kp (wz.heap[w.heap.size + 1]? = some (.cells #[.int .i64 S.part, .bool S.normal, .slice ma S.made.length mc, .slice va S.valid.length vc] 40 (0, 0))) ∧ Kp (wz.heap[w.heap.size + 1 + 1]? = some (.cells #[.int .i64 9, .int .i64 R.port, .int .u64 R.addr, .slice da R.data.length dc] 44 (0, 0))) ∧ Kp (Below w.heap.size w wz) ∧ wd0.heap.size ≤ wz.heap.size) ⟨⟨blk_below q3.out hb⟩, ⟨blk_below s3.out hb⟩, ⟨blk_below r3.out hb⟩, ⟨below_call HB3.out hb⟩, hb.size⟩ (sx_of0 (ButB.call (And.left hHeld) hb)) (fun wd1 hRn hHn => ?_)
  clear hK K hHeld q3 s3 r3 HB3 hb
  obtain ⟨q3, s3, r3, HB3, hsz1⟩ := hRn
  have hHeld := hHn
  clear hHn
  try simp only [Act.put, List.setIfInBounds_toArray, List.set_cons_zero, List.set_cons_succ]
  refine wpAnyH_take (i := 4) (oi := ⟨_, _, _, _, _, _⟩) (v := ?_) rfl (by kernel_rfl) (by kernel_rfl) (by kernel_rfl) (fun _ _ _ h => h) (Or.inl ⟨by rfl, ?_⟩) (by assumption) ?_
  rotate_left 1
  · (intro w hSw; go_simp; try with_reducible rfl)
  try simp only [Act.put, List.setIfInBounds_toArray, List.set_cons_zero, List.set_cons_succ]
  refine wpAnyH_take (i := 5) (oi := ⟨_, _, _, _, _, _⟩) (v := ?_) rfl (by kernel_rfl) (by kernel_rfl) (by kernel_rfl) (fun _ _ _ h => h) (Or.inl ⟨by rfl, ?_⟩) (by assumption) ?_
  rotate_left 1
  · (intro w hSw; go_simp; try with_reducible rfl)
  try simp only [Act.put, List.setIfInBounds_toArray, List.set_cons_zero, List.set_cons_succ]
  refine wpAnyH_take (i := 6) (oi := ⟨_, _, _, _, _, _⟩) (v := ?_) rfl (by kernel_rfl) (by kernel_rfl) (by kernel_rfl) (fun _ _ _ h => h) (Or.inl ⟨by rfl, ?_⟩) (by assumption) ?_
  rotate_left 1
  · (intro w hSw; go_simp; try with_reducible rfl)
  try simp only [Act.put, List.setIfInBounds_toArray, List.set_cons_zero, List.set_cons_succ]
  refine wpAnyH_take (i := 7) (oi := ⟨_, _, _, _, _, _⟩) (v := ?_) rfl (by kernel_rfl) (by kernel_rfl) (by kernel_rfl) (fun _ _ _ h => h) (Or.inl ⟨by rfl, ?_⟩) (by assumption) ?_
  rotate_left 1
  · (intro w hSw; go_simp; try with_reducible rfl)
  try simp only [Act.put, List.setIfInBounds_toArray, List.set_cons_zero, List.set_cons_succ]
  refine wpAnyH_take (i := 8) (oi := ⟨_, _, _, _, _, _⟩) (v := ?_) rfl (by kernel_rfl) (by kernel_rfl) (by kernel_rfl) (fun _ _ _ h => h) (Or.inl ⟨by rfl, ?_⟩) (by assumption) ?_
  rotate_left 1
  · (intro w hSw; go_simp; try with_reducible rfl)
  try simp only [Act.put, List.setIfInBounds_toArray, List.set_cons_zero, List.set_cons_succ]
  refine wpAnyH_take (i := 9) (oi := ⟨_, _, _, _, _, _⟩) (v := ?_) rfl (by kernel_rfl) (by kernel_rfl) (by kernel_rfl) (fun _ _ _ h => h) (Or.inl ⟨by rfl, ?_⟩) (by assumption) ?_
  rotate_left 1
  · (intro w hSw; go_simp; try with_reducible rfl)
  try simp only [Act.put, List.setIfInBounds_toArray, List.set_cons_zero, List.set_cons_succ]
  refine wpAnyH_take (i := 10) (oi := ⟨_, _, _, _, _, _⟩) (v := ?_) rfl (by kernel_rfl) (by kernel_rfl) (by kernel_rfl) (fun _ _ _ h => h) (Or.inl ⟨by rfl, ?_⟩) (by assumption) ?_
  rotate_left 1
  · (intro w hSw; go_simp; try with_reducible rfl)
  try simp only [Act.put, List.setIfInBounds_toArray, List.set_cons_zero, List.set_cons_succ]
  refine wpAnyH_take (i := 11) (oi := ⟨_, _, _, _, _, _⟩) (v := ?_) rfl (by kernel_rfl) (by kernel_rfl) (by kernel_rfl) (fun _ _ _ h => h) (Or.inl ⟨by rfl, ?_⟩) (by assumption) ?_
  rotate_left 1
  · (intro w hSw; go_simp; try with_reducible rfl)
  try simp only [Act.put, List.setIfInBounds_toArray, List.set_cons_zero, List.set_cons_succ]
  refine wpAnyH_take (i := 12) (oi := ⟨_, _, _, _, _, _⟩) (v := ?_) rfl (by kernel_rfl) (by kernel_rfl) (by kernel_rfl) (fun _ _ _ h => h) (Or.inl ⟨by rfl, ?_⟩) (by assumption) ?_
  rotate_left 1
  · (intro w hSw; go_simp; try with_reducible rfl)
  try simp only [Act.put, List.setIfInBounds_toArray, List.set_cons_zero, List.set_cons_succ]
  refine wpAnyH_ready (rs := [13]) (by kernel_rfl) (by simp) ?_
  refine (AllReadyH.cons (o := ⟨_, _, _, _, _, _⟩) rfl (fun K hK => ?_) AllReadyH.nil)
  go_simp
  go_at_call 17
  refine (rmay_priv _ C hsm S.part R.addr HH.out _ (HC.out.below HB3.out)).mono ?_
  rw [HMB.out]
  rintro e w9 ⟨rfl, hb⟩
  try go_wp2_with fail
  refine out_gen hK _ _ (fun wz : World => Kp (wz.heap[w.heap.size]? = some (.cells #[.slice pa C.parts.length pc, .slice ca C.chans.length cc, .int .i64 C.l0, .slice a0 C.w0.length c0, .int .i64 C.l1, .slice a1 C.w1.length c1] 29 (0, 0))) ∧ Kp (wz.heap[w.heap.size + 1]? = some (.cells #[.int .i64 S.part, .bool S.normal, .slice ma S.made.length mc, .slice va S.valid.length vc] 40 (0, 0))) ∧ Kp (wz.heap[w.heap.size + 1 + 1]? = some (.cells #[.int .i64 9, .int .i64 R.port, .int .u64 R.addr, .slice da R.data.length dc] 44 (0, 0))) ∧ Kp (Below w.heap.size w wz) ∧ wd1.heap.size ≤ wz.heap.size) ⟨⟨blk_below q3.out hb⟩, ⟨blk_below s3.out hb⟩, ⟨blk_below r3.out hb⟩, ⟨below_call HB3.out hb⟩, hb.size⟩ (sx_of0 (ButB.call (And.left hHeld) hb)) (fun wd2 hRn hHn => ?_)
  clear hK K hHeld q3 s3 r3 HB3 hb
  obtain ⟨q3, s3, r3, HB3, hsz2⟩ := hRn
  have hHeld := hHn
  clear hHn
  try simp only [Act.put, List.setIfInBounds_toArray, List.set_cons_zero, List.set_cons_succ]
  refine wpAnyH_take (i := 14) (oi := ⟨_, _, _, _, _, _⟩) (v := ?_) rfl (by kernel_rfl) (by kernel_rfl) (by kernel_rfl) (fun _ _ _ h => h) (Or.inl ⟨by rfl, ?_⟩) (by assumption) ?_
  rotate_left 1
  · (intro w hSw; go_simp; try with_reducible rfl)
  try simp only [Act.put, List.setIfInBounds_toArray, List.set_cons_zero, List.set_cons_succ]
  refine wpAnyH_take (i := 15) (oi := ⟨_, _, _, _, _, _⟩) (v := ?_) rfl (by kernel_rfl) (by kernel_rfl) (by kernel_rfl) (fun _ _ _ h => h) (Or.inl ⟨by rfl, ?_⟩) (by assumption) ?_
  rotate_left 1
  · (intro w hSw; go_simp; try with_reducible rfl)
  try simp only [Act.put, List.setIfInBounds_toArray, List.set_cons_zero, List.set_cons_succ]
  refine wpAnyH_done (by kernel_rfl) ?_ _
  go_wp2
  go_ret
  exact ⟨rfl, HB3.out⟩

set_option maxRecDepth 100000 in
set_option maxHeartbeats 8000000 in
theorem signFits_1 (cv sv rv : Value) (C : Cfg) (S : Std) (R : Rqt) (hg : C.great = false) (hm : ¬ 60 < (S.made.length : Int)) (hd : ¬ 100 < (R.data.length : Int)) (v : Int) (hv : refV C S R = v) (hv0 : v = 0) (ho : R.op = 1) (hn : S.normal = false) (k0 : Nat) (hk0 : k0 < C.chans.length) (src : Bool) (hpv : portV C R.port = ⟨k0, S.part, src, true⟩) (x : Chn) (hx : C.chans[k0] = x)  (w : World) (hN : NamesAt w) (hc : CfgAt w cv C) (hs : StdAt w sv S) (hr : RqtAt w rv R) : Calls Tryd.prog 5 #[cv, sv, rv] w fun e w' => e = .returned (.bool true) ∧ Below w.heap.size w w' := by
  have HN := Kp.mk hN
  clear hN
  have HG := Kp.mk hg
  have HM : Kp (S.made.length ≤ 100) := ⟨by omega⟩
  have HD : Kp (R.data.length ≤ 100) := ⟨by omega⟩
  have hsm := small_of_great hg
  have hmf : decide (60 < (S.made.length : Int)) = false := decide_eq_false hm
  clear hm
  have hdf : decide (100 < (R.data.length : Int)) = false := decide_eq_false hd
  clear hd
  have HV := Kp.mk hv
  subst hv0
  have HPV := Kp.mk hpv
  clear hpv
  clear hg hv
  have HC := Kp.mk hc
  have HS := Kp.mk hs
  have HR := Kp.mk hr
  obtain ⟨_, pa, pc, ca, cc, a0, c0, a1, c1, rfl, bp, bc, b0, b1, gp, gc, gw0, gw1⟩ := hc
  obtain ⟨_, ma, mc, va, vc, rfl, bm, bv, gm, gv⟩ := hs
  obtain ⟨ir, da, dc, rfl, bd, gd⟩ := hr
  clear gp gw0 gw1 gm gv gd bp b0 b1
  clear bc bm bv bd
  obtain ⟨g, o, rfl, hg0, hcc⟩ := gc.at (by omega)
  have HK : Kp (∀ j, j < 7 → w.cell? ⟨g, o + k0 * 7 + j, none⟩ = (chanC x)[j]?) := ⟨fun j hj => by
    have h1 := hcc (k0 * 7 + j) (by omega)
    rw [flat_at chanC 7 chanC_len C.chans k0 j hk0 hj, hx] at h1
    rw [Nat.add_assoc]
    exact h1⟩
  have hki : (k0 : Int) < (C.chans.length : Int) := by omega
  have hkn := nat_nn k0
  have IRP := Kp.mk ir.2.1
  clear hcc hx ir gc
  rw [hn] at HS ⊢
  clear hn
  rw [ho] at HR ⊢
  clear ho
  go_enter Tryd.func5, Tryd.ntmps5
  have HB0 : Kp (Below w.heap.size w w) := ⟨Below.refl _ _⟩
  go_wp2_with fail
  refine (wakes10_any _ (HN.out.below (below_al (below_al (below_al HB0.out _) _) _))).mono ?_
  rintro e w1 ⟨rfl, hb⟩
  have q1 : Kp (w1.heap[w.heap.size]? = some (.cells #[.slice pa C.parts.length pc, .slice (some ⟨g, o, none⟩) C.chans.length cc, .int .i64 C.l0, .slice a0 C.w0.length c0, .int .i64 C.l1, .slice a1 C.w1.length c1] 29 (0, 0))) := ⟨blk_below (blk_al (blk_al (blk_new _ _) _) _) hb⟩
  have s1 : Kp (w1.heap[w.heap.size + 1]? = some (.cells #[.int .i64 S.part, .bool false, .slice ma S.made.length mc, .slice va S.valid.length vc] 40 (0, 0))) := ⟨blk_below (blk_al (blk_at (w := (w.alloc (.cells #[.slice pa C.parts.length pc, .slice (some ⟨g, o, none⟩) C.chans.length cc, .int .i64 C.l0, .slice a0 C.w0.length c0, .int .i64 C.l1, .slice a1 C.w1.length c1] 29))) (by simp) _) _) hb⟩
  have r1 : Kp (w1.heap[w.heap.size + 1 + 1]? = some (.cells #[.int .i64 1, .int .i64 R.port, .int .u64 R.addr, .slice da R.data.length dc] 44 (0, 0))) := ⟨blk_below (blk_at (w := ((w.alloc (.cells #[.slice pa C.parts.length pc, .slice (some ⟨g, o, none⟩) C.chans.length cc, .int .i64 C.l0, .slice a0 C.w0.length c0, .int .i64 C.l1, .slice a1 C.w1.length c1] 29)).alloc (.cells #[.int .i64 S.part, .bool false, .slice ma S.made.length mc, .slice va S.valid.length vc] 40))) (by simp) _) hb⟩
  have HB1 : Kp (Below w.heap.size w w1) := ⟨below_call (below_al (below_al (below_al HB0.out _) _) _) hb⟩
  clear HB0 hb
  have qc0 : w1.cell? ⟨w.heap.size, 0, none⟩ = some (.slice pa C.parts.length pc) := (cell_blk q1.out 0).trans rfl
  have qc1 : w1.cell? ⟨w.heap.size, 1, none⟩ = some (.slice (some ⟨g, o, none⟩) C.chans.length cc) := (cell_blk q1.out 1).trans rfl
  have qc2 : w1.cell? ⟨w.heap.size, 2, none⟩ = some (.int .i64 C.l0) := (cell_blk q1.out 2).trans rfl
  have qc3 : w1.cell? ⟨w.heap.size, 3, none⟩ = some (.slice a0 C.w0.length c0) := (cell_blk q1.out 3).trans rfl
  have qc4 : w1.cell? ⟨w.heap.size, 4, none⟩ = some (.int .i64 C.l1) := (cell_blk q1.out 4).trans rfl
  have qc5 : w1.cell? ⟨w.heap.size, 5, none⟩ = some (.slice a1 C.w1.length c1) := (cell_blk q1.out 5).trans rfl
  have ql := blk_lt q1.out
  have sc0 : w1.cell? ⟨w.heap.size + 1, 0, none⟩ = some (.int .i64 S.part) := (cell_blk s1.out 0).trans rfl
  have sc1 : w1.cell? ⟨w.heap.size + 1, 1, none⟩ = some (.bool false) := (cell_blk s1.out 1).trans rfl
  have sc2 : w1.cell? ⟨w.heap.size + 1, 2, none⟩ = some (.slice ma S.made.length mc) := (cell_blk s1.out 2).trans rfl
  have sc3 : w1.cell? ⟨w.heap.size + 1, 3, none⟩ = some (.slice va S.valid.length vc) := (cell_blk s1.out 3).trans rfl
  have sl := blk_lt s1.out
  have rc0 : w1.cell? ⟨w.heap.size + 1 + 1, 0, none⟩ = some (.int .i64 1) := (cell_blk r1.out 0).trans rfl
  have rc1 : w1.cell? ⟨w.heap.size + 1 + 1, 1, none⟩ = some (.int .i64 R.port) := (cell_blk r1.out 1).trans rfl
  have rc2 : w1.cell? ⟨w.heap.size + 1 + 1, 2, none⟩ = some (.int .u64 R.addr) := (cell_blk r1.out 2).trans rfl
  have rc3 : w1.cell? ⟨w.heap.size + 1 + 1, 3, none⟩ = some (.slice da R.data.length dc) := (cell_blk r1.out 3).trans rfl
  have rl := blk_lt r1.out
  go_wp2_with fail
  refine (great_any _ C _ (HC.out.below HB1.out)).mono ?_
  rw [HG.out]
  rintro e w2 ⟨rfl, hb⟩
  have q2 : Kp (w2.heap[w.heap.size]? = some (.cells #[.slice pa C.parts.length pc, .slice (some ⟨g, o, none⟩) C.chans.length cc, .int .i64 C.l0, .slice a0 C.w0.length c0, .int .i64 C.l1, .slice a1 C.w1.length c1] 29 (0, 0))) := ⟨blk_below q1.out hb⟩
  have s2 : Kp (w2.heap[w.heap.size + 1]? = some (.cells #[.int .i64 S.part, .bool false, .slice ma S.made.length mc, .slice va S.valid.length vc] 40 (0, 0))) := ⟨blk_below s1.out hb⟩
  have r2 : Kp (w2.heap[w.heap.size + 1 + 1]? = some (.cells #[.int .i64 1, .int .i64 R.port, .int .u64 R.addr, .slice da R.data.length dc] 44 (0, 0))) := ⟨blk_below r1.out hb⟩
  have HB2 : Kp (Below w.heap.size w w2) := ⟨below_call HB1.out hb⟩
  clear qc0 qc1 qc2 qc3 qc4 qc5 ql sc0 sc1 sc2 sc3 sl rc0 rc1 rc2 rc3 rl q1 s1 r1 HB1 hb
  have qc0 : w2.cell? ⟨w.heap.size, 0, none⟩ = some (.slice pa C.parts.length pc) := (cell_blk q2.out 0).trans rfl
  have qc1 : w2.cell? ⟨w.heap.size, 1, none⟩ = some (.slice (some ⟨g, o, none⟩) C.chans.length cc) := (cell_blk q2.out 1).trans rfl
  have qc2 : w2.cell? ⟨w.heap.size, 2, none⟩ = some (.int .i64 C.l0) := (cell_blk q2.out 2).trans rfl
  have qc3 : w2.cell? ⟨w.heap.size, 3, none⟩ = some (.slice a0 C.w0.length c0) := (cell_blk q2.out 3).trans rfl
  have qc4 : w2.cell? ⟨w.heap.size, 4, none⟩ = some (.int .i64 C.l1) := (cell_blk q2.out 4).trans rfl
  have qc5 : w2.cell? ⟨w.heap.size, 5, none⟩ = some (.slice a1 C.w1.length c1) := (cell_blk q2.out 5).trans rfl
  have ql := blk_lt q2.out
  have sc0 : w2.cell? ⟨w.heap.size + 1, 0, none⟩ = some (.int .i64 S.part) := (cell_blk s2.out 0).trans rfl
  have sc1 : w2.cell? ⟨w.heap.size + 1, 1, none⟩ = some (.bool false) := (cell_blk s2.out 1).trans rfl
  have sc2 : w2.cell? ⟨w.heap.size + 1, 2, none⟩ = some (.slice ma S.made.length mc) := (cell_blk s2.out 2).trans rfl
  have sc3 : w2.cell? ⟨w.heap.size + 1, 3, none⟩ = some (.slice va S.valid.length vc) := (cell_blk s2.out 3).trans rfl
  have sl := blk_lt s2.out
  have rc0 : w2.cell? ⟨w.heap.size + 1 + 1, 0, none⟩ = some (.int .i64 1) := (cell_blk r2.out 0).trans rfl
  have rc1 : w2.cell? ⟨w.heap.size + 1 + 1, 1, none⟩ = some (.int .i64 R.port) := (cell_blk r2.out 1).trans rfl
  have rc2 : w2.cell? ⟨w.heap.size + 1 + 1, 2, none⟩ = some (.int .u64 R.addr) := (cell_blk r2.out 2).trans rfl
  have rc3 : w2.cell? ⟨w.heap.size + 1 + 1, 3, none⟩ = some (.slice da R.data.length dc) := (cell_blk r2.out 3).trans rfl
  have rl := blk_lt r2.out
  go_wp2_with fail
  refine (refused_any _ _ _ C S R hsm HM.out HD.out _ (HN.out.below HB2.out) (HC.out.below HB2.out) (HS.out.below HB2.out) (HR.out.below HB2.out)).mono ?_
  rw [HV.out]
  rintro e w3 ⟨rfl, hb⟩
  have q3 : Kp (w3.heap[w.heap.size]? = some (.cells #[.slice pa C.parts.length pc, .slice (some ⟨g, o, none⟩) C.chans.length cc, .int .i64 C.l0, .slice a0 C.w0.length c0, .int .i64 C.l1, .slice a1 C.w1.length c1] 29 (0, 0))) := ⟨blk_below q2.out hb⟩
  have s3 : Kp (w3.heap[w.heap.size + 1]? = some (.cells #[.int .i64 S.part, .bool false, .slice ma S.made.length mc, .slice va S.valid.length vc] 40 (0, 0))) := ⟨blk_below s2.out hb⟩
  have r3 : Kp (w3.heap[w.heap.size + 1 + 1]? = some (.cells #[.int .i64 1, .int .i64 R.port, .int .u64 R.addr, .slice da R.data.length dc] 44 (0, 0))) := ⟨blk_below r2.out hb⟩
  have HB3 : Kp (Below w.heap.size w w3) := ⟨below_call HB2.out hb⟩
  clear qc0 qc1 qc2 qc3 qc4 qc5 ql sc0 sc1 sc2 sc3 sl rc0 rc1 rc2 rc3 rl q2 s2 r2 HB2 hb
  have qc0 : w3.cell? ⟨w.heap.size, 0, none⟩ = some (.slice pa C.parts.length pc) := (cell_blk q3.out 0).trans rfl
  have qc1 : w3.cell? ⟨w.heap.size, 1, none⟩ = some (.slice (some ⟨g, o, none⟩) C.chans.length cc) := (cell_blk q3.out 1).trans rfl
  have qc2 : w3.cell? ⟨w.heap.size, 2, none⟩ = some (.int .i64 C.l0) := (cell_blk q3.out 2).trans rfl
  have qc3 : w3.cell? ⟨w.heap.size, 3, none⟩ = some (.slice a0 C.w0.length c0) := (cell_blk q3.out 3).trans rfl
  have qc4 : w3.cell? ⟨w.heap.size, 4, none⟩ = some (.int .i64 C.l1) := (cell_blk q3.out 4).trans rfl
  have qc5 : w3.cell? ⟨w.heap.size, 5, none⟩ = some (.slice a1 C.w1.length c1) := (cell_blk q3.out 5).trans rfl
  have ql := blk_lt q3.out
  have sc0 : w3.cell? ⟨w.heap.size + 1, 0, none⟩ = some (.int .i64 S.part) := (cell_blk s3.out 0).trans rfl
  have sc1 : w3.cell? ⟨w.heap.size + 1, 1, none⟩ = some (.bool false) := (cell_blk s3.out 1).trans rfl
  have sc2 : w3.cell? ⟨w.heap.size + 1, 2, none⟩ = some (.slice ma S.made.length mc) := (cell_blk s3.out 2).trans rfl
  have sc3 : w3.cell? ⟨w.heap.size + 1, 3, none⟩ = some (.slice va S.valid.length vc) := (cell_blk s3.out 3).trans rfl
  have sl := blk_lt s3.out
  have rc0 : w3.cell? ⟨w.heap.size + 1 + 1, 0, none⟩ = some (.int .i64 1) := (cell_blk r3.out 0).trans rfl
  have rc1 : w3.cell? ⟨w.heap.size + 1 + 1, 1, none⟩ = some (.int .i64 R.port) := (cell_blk r3.out 1).trans rfl
  have rc2 : w3.cell? ⟨w.heap.size + 1 + 1, 2, none⟩ = some (.int .u64 R.addr) := (cell_blk r3.out 2).trans rfl
  have rc3 : w3.cell? ⟨w.heap.size + 1 + 1, 3, none⟩ = some (.slice da R.data.length dc) := (cell_blk r3.out 3).trans rfl
  have rl := blk_lt r3.out
  go_wp2_with fail
  refine (port_any _ C hsm R.port IRP.out _ (HC.out.below HB3.out)).mono ?_
  rw [HPV.out]
  rintro e w4 ⟨rfl, hb⟩
  have q4 : Kp (w4.heap[w.heap.size]? = some (.cells #[.slice pa C.parts.length pc, .slice (some ⟨g, o, none⟩) C.chans.length cc, .int .i64 C.l0, .slice a0 C.w0.length c0, .int .i64 C.l1, .slice a1 C.w1.length c1] 29 (0, 0))) := ⟨blk_below q3.out hb⟩
  have s4 : Kp (w4.heap[w.heap.size + 1]? = some (.cells #[.int .i64 S.part, .bool false, .slice ma S.made.length mc, .slice va S.valid.length vc] 40 (0, 0))) := ⟨blk_below s3.out hb⟩
  have r4 : Kp (w4.heap[w.heap.size + 1 + 1]? = some (.cells #[.int .i64 1, .int .i64 R.port, .int .u64 R.addr, .slice da R.data.length dc] 44 (0, 0))) := ⟨blk_below r3.out hb⟩
  have HB4 : Kp (Below w.heap.size w w4) := ⟨below_call HB3.out hb⟩
  clear qc0 qc1 qc2 qc3 qc4 qc5 ql sc0 sc1 sc2 sc3 sl rc0 rc1 rc2 rc3 rl q3 s3 r3 HB3 hb
  have qc0 : w4.cell? ⟨w.heap.size, 0, none⟩ = some (.slice pa C.parts.length pc) := (cell_blk q4.out 0).trans rfl
  have qc1 : w4.cell? ⟨w.heap.size, 1, none⟩ = some (.slice (some ⟨g, o, none⟩) C.chans.length cc) := (cell_blk q4.out 1).trans rfl
  have qc2 : w4.cell? ⟨w.heap.size, 2, none⟩ = some (.int .i64 C.l0) := (cell_blk q4.out 2).trans rfl
  have qc3 : w4.cell? ⟨w.heap.size, 3, none⟩ = some (.slice a0 C.w0.length c0) := (cell_blk q4.out 3).trans rfl
  have qc4 : w4.cell? ⟨w.heap.size, 4, none⟩ = some (.int .i64 C.l1) := (cell_blk q4.out 4).trans rfl
  have qc5 : w4.cell? ⟨w.heap.size, 5, none⟩ = some (.slice a1 C.w1.length c1) := (cell_blk q4.out 5).trans rfl
  have ql := blk_lt q4.out
  have sc0 : w4.cell? ⟨w.heap.size + 1, 0, none⟩ = some (.int .i64 S.part) := (cell_blk s4.out 0).trans rfl
  have sc1 : w4.cell? ⟨w.heap.size + 1, 1, none⟩ = some (.bool false) := (cell_blk s4.out 1).trans rfl
  have sc2 : w4.cell? ⟨w.heap.size + 1, 2, none⟩ = some (.slice ma S.made.length mc) := (cell_blk s4.out 2).trans rfl
  have sc3 : w4.cell? ⟨w.heap.size + 1, 3, none⟩ = some (.slice va S.valid.length vc) := (cell_blk s4.out 3).trans rfl
  have sl := blk_lt s4.out
  have rc0 : w4.cell? ⟨w.heap.size + 1 + 1, 0, none⟩ = some (.int .i64 1) := (cell_blk r4.out 0).trans rfl
  have rc1 : w4.cell? ⟨w.heap.size + 1 + 1, 1, none⟩ = some (.int .i64 R.port) := (cell_blk r4.out 1).trans rfl
  have rc2 : w4.cell? ⟨w.heap.size + 1 + 1, 2, none⟩ = some (.int .u64 R.addr) := (cell_blk r4.out 2).trans rfl
  have rc3 : w4.cell? ⟨w.heap.size + 1 + 1, 3, none⟩ = some (.slice da R.data.length dc) := (cell_blk r4.out 3).trans rfl
  have rl := blk_lt r4.out
  have e0 : w4.cell? ⟨g, o + k0 * 7, none⟩ = some (.int .i64 x.kind) := (HB4.out.cell (p := ⟨g, o + k0 * 7, none⟩) hg0).trans (HK.out 0 (by omega))
  have e1 : w4.cell? ⟨g, o + k0 * 7 + 1, none⟩ = some (.int .i64 x.frm) := (HB4.out.cell (p := ⟨g, o + k0 * 7 + 1, none⟩) hg0).trans (HK.out 1 (by omega))
  have e2 : w4.cell? ⟨g, o + k0 * 7 + 2, none⟩ = some (.int .i64 x.to) := (HB4.out.cell (p := ⟨g, o + k0 * 7 + 2, none⟩) hg0).trans (HK.out 2 (by omega))
  have e3 : w4.cell? ⟨g, o + k0 * 7 + 3, none⟩ = some (.int .i64 x.words) := (HB4.out.cell (p := ⟨g, o + k0 * 7 + 3, none⟩) hg0).trans (HK.out 3 (by omega))
  have e4 : w4.cell? ⟨g, o + k0 * 7 + 4, none⟩ = some (.int .i64 x.depth) := (HB4.out.cell (p := ⟨g, o + k0 * 7 + 4, none⟩) hg0).trans (HK.out 4 (by omega))
  have e5 : w4.cell? ⟨g, o + k0 * 7 + 5, none⟩ = some (.int .i64 x.period) := (HB4.out.cell (p := ⟨g, o + k0 * 7 + 5, none⟩) hg0).trans (HK.out 5 (by omega))
  have e6 : w4.cell? ⟨g, o + k0 * 7 + 6, none⟩ = some (.int .u32 x.boot) := (HB4.out.cell (p := ⟨g, o + k0 * 7 + 6, none⟩) hg0).trans (HK.out 6 (by omega))
  go_wp2
  go_ret
  exact ⟨rfl, (below_al HB4.out _)⟩

set_option maxRecDepth 100000 in
set_option maxHeartbeats 8000000 in
theorem signFits_7 (cv sv rv : Value) (C : Cfg) (S : Std) (R : Rqt) (hg : C.great = false) (hm : ¬ 60 < (S.made.length : Int)) (hd : ¬ 100 < (R.data.length : Int)) (v : Int) (hv : refV C S R = v) (hv0 : v = 0) (ho : R.op = 7) (hn : S.normal = true) (k0 : Nat) (hk0 : k0 < C.chans.length) (src : Bool) (hpv : portV C R.port = ⟨k0, S.part, src, true⟩) (x : Chn) (hx : C.chans[k0] = x)  (w : World) (hN : NamesAt w) (hc : CfgAt w cv C) (hs : StdAt w sv S) (hr : RqtAt w rv R) : Calls Tryd.prog 5 #[cv, sv, rv] w fun e w' => e = .returned (.bool true) ∧ Below w.heap.size w w' := by
  have HN := Kp.mk hN
  clear hN
  have HG := Kp.mk hg
  have HM : Kp (S.made.length ≤ 100) := ⟨by omega⟩
  have HD : Kp (R.data.length ≤ 100) := ⟨by omega⟩
  have hsm := small_of_great hg
  have hmf : decide (60 < (S.made.length : Int)) = false := decide_eq_false hm
  clear hm
  have hdf : decide (100 < (R.data.length : Int)) = false := decide_eq_false hd
  clear hd
  have HV := Kp.mk hv
  subst hv0
  have HPV := Kp.mk hpv
  clear hpv
  clear hg hv
  have HC := Kp.mk hc
  have HS := Kp.mk hs
  have HR := Kp.mk hr
  obtain ⟨_, pa, pc, ca, cc, a0, c0, a1, c1, rfl, bp, bc, b0, b1, gp, gc, gw0, gw1⟩ := hc
  obtain ⟨_, ma, mc, va, vc, rfl, bm, bv, gm, gv⟩ := hs
  obtain ⟨ir, da, dc, rfl, bd, gd⟩ := hr
  clear gp gw0 gw1 gm gv gd bp b0 b1
  clear bc bm bv bd
  obtain ⟨g, o, rfl, hg0, hcc⟩ := gc.at (by omega)
  have HK : Kp (∀ j, j < 7 → w.cell? ⟨g, o + k0 * 7 + j, none⟩ = (chanC x)[j]?) := ⟨fun j hj => by
    have h1 := hcc (k0 * 7 + j) (by omega)
    rw [flat_at chanC 7 chanC_len C.chans k0 j hk0 hj, hx] at h1
    rw [Nat.add_assoc]
    exact h1⟩
  have hki : (k0 : Int) < (C.chans.length : Int) := by omega
  have hkn := nat_nn k0
  have IRP := Kp.mk ir.2.1
  clear hcc hx ir gc
  rw [hn] at HS ⊢
  clear hn
  rw [ho] at HR ⊢
  clear ho
  go_enter Tryd.func5, Tryd.ntmps5
  have HB0 : Kp (Below w.heap.size w w) := ⟨Below.refl _ _⟩
  go_wp2_with fail
  refine (wakes10_any _ (HN.out.below (below_al (below_al (below_al HB0.out _) _) _))).mono ?_
  rintro e w1 ⟨rfl, hb⟩
  have q1 : Kp (w1.heap[w.heap.size]? = some (.cells #[.slice pa C.parts.length pc, .slice (some ⟨g, o, none⟩) C.chans.length cc, .int .i64 C.l0, .slice a0 C.w0.length c0, .int .i64 C.l1, .slice a1 C.w1.length c1] 29 (0, 0))) := ⟨blk_below (blk_al (blk_al (blk_new _ _) _) _) hb⟩
  have s1 : Kp (w1.heap[w.heap.size + 1]? = some (.cells #[.int .i64 S.part, .bool true, .slice ma S.made.length mc, .slice va S.valid.length vc] 40 (0, 0))) := ⟨blk_below (blk_al (blk_at (w := (w.alloc (.cells #[.slice pa C.parts.length pc, .slice (some ⟨g, o, none⟩) C.chans.length cc, .int .i64 C.l0, .slice a0 C.w0.length c0, .int .i64 C.l1, .slice a1 C.w1.length c1] 29))) (by simp) _) _) hb⟩
  have r1 : Kp (w1.heap[w.heap.size + 1 + 1]? = some (.cells #[.int .i64 7, .int .i64 R.port, .int .u64 R.addr, .slice da R.data.length dc] 44 (0, 0))) := ⟨blk_below (blk_at (w := ((w.alloc (.cells #[.slice pa C.parts.length pc, .slice (some ⟨g, o, none⟩) C.chans.length cc, .int .i64 C.l0, .slice a0 C.w0.length c0, .int .i64 C.l1, .slice a1 C.w1.length c1] 29)).alloc (.cells #[.int .i64 S.part, .bool true, .slice ma S.made.length mc, .slice va S.valid.length vc] 40))) (by simp) _) hb⟩
  have HB1 : Kp (Below w.heap.size w w1) := ⟨below_call (below_al (below_al (below_al HB0.out _) _) _) hb⟩
  clear HB0 hb
  have qc0 : w1.cell? ⟨w.heap.size, 0, none⟩ = some (.slice pa C.parts.length pc) := (cell_blk q1.out 0).trans rfl
  have qc1 : w1.cell? ⟨w.heap.size, 1, none⟩ = some (.slice (some ⟨g, o, none⟩) C.chans.length cc) := (cell_blk q1.out 1).trans rfl
  have qc2 : w1.cell? ⟨w.heap.size, 2, none⟩ = some (.int .i64 C.l0) := (cell_blk q1.out 2).trans rfl
  have qc3 : w1.cell? ⟨w.heap.size, 3, none⟩ = some (.slice a0 C.w0.length c0) := (cell_blk q1.out 3).trans rfl
  have qc4 : w1.cell? ⟨w.heap.size, 4, none⟩ = some (.int .i64 C.l1) := (cell_blk q1.out 4).trans rfl
  have qc5 : w1.cell? ⟨w.heap.size, 5, none⟩ = some (.slice a1 C.w1.length c1) := (cell_blk q1.out 5).trans rfl
  have ql := blk_lt q1.out
  have sc0 : w1.cell? ⟨w.heap.size + 1, 0, none⟩ = some (.int .i64 S.part) := (cell_blk s1.out 0).trans rfl
  have sc1 : w1.cell? ⟨w.heap.size + 1, 1, none⟩ = some (.bool true) := (cell_blk s1.out 1).trans rfl
  have sc2 : w1.cell? ⟨w.heap.size + 1, 2, none⟩ = some (.slice ma S.made.length mc) := (cell_blk s1.out 2).trans rfl
  have sc3 : w1.cell? ⟨w.heap.size + 1, 3, none⟩ = some (.slice va S.valid.length vc) := (cell_blk s1.out 3).trans rfl
  have sl := blk_lt s1.out
  have rc0 : w1.cell? ⟨w.heap.size + 1 + 1, 0, none⟩ = some (.int .i64 7) := (cell_blk r1.out 0).trans rfl
  have rc1 : w1.cell? ⟨w.heap.size + 1 + 1, 1, none⟩ = some (.int .i64 R.port) := (cell_blk r1.out 1).trans rfl
  have rc2 : w1.cell? ⟨w.heap.size + 1 + 1, 2, none⟩ = some (.int .u64 R.addr) := (cell_blk r1.out 2).trans rfl
  have rc3 : w1.cell? ⟨w.heap.size + 1 + 1, 3, none⟩ = some (.slice da R.data.length dc) := (cell_blk r1.out 3).trans rfl
  have rl := blk_lt r1.out
  go_wp2_with fail
  refine (great_any _ C _ (HC.out.below HB1.out)).mono ?_
  rw [HG.out]
  rintro e w2 ⟨rfl, hb⟩
  have q2 : Kp (w2.heap[w.heap.size]? = some (.cells #[.slice pa C.parts.length pc, .slice (some ⟨g, o, none⟩) C.chans.length cc, .int .i64 C.l0, .slice a0 C.w0.length c0, .int .i64 C.l1, .slice a1 C.w1.length c1] 29 (0, 0))) := ⟨blk_below q1.out hb⟩
  have s2 : Kp (w2.heap[w.heap.size + 1]? = some (.cells #[.int .i64 S.part, .bool true, .slice ma S.made.length mc, .slice va S.valid.length vc] 40 (0, 0))) := ⟨blk_below s1.out hb⟩
  have r2 : Kp (w2.heap[w.heap.size + 1 + 1]? = some (.cells #[.int .i64 7, .int .i64 R.port, .int .u64 R.addr, .slice da R.data.length dc] 44 (0, 0))) := ⟨blk_below r1.out hb⟩
  have HB2 : Kp (Below w.heap.size w w2) := ⟨below_call HB1.out hb⟩
  clear qc0 qc1 qc2 qc3 qc4 qc5 ql sc0 sc1 sc2 sc3 sl rc0 rc1 rc2 rc3 rl q1 s1 r1 HB1 hb
  have qc0 : w2.cell? ⟨w.heap.size, 0, none⟩ = some (.slice pa C.parts.length pc) := (cell_blk q2.out 0).trans rfl
  have qc1 : w2.cell? ⟨w.heap.size, 1, none⟩ = some (.slice (some ⟨g, o, none⟩) C.chans.length cc) := (cell_blk q2.out 1).trans rfl
  have qc2 : w2.cell? ⟨w.heap.size, 2, none⟩ = some (.int .i64 C.l0) := (cell_blk q2.out 2).trans rfl
  have qc3 : w2.cell? ⟨w.heap.size, 3, none⟩ = some (.slice a0 C.w0.length c0) := (cell_blk q2.out 3).trans rfl
  have qc4 : w2.cell? ⟨w.heap.size, 4, none⟩ = some (.int .i64 C.l1) := (cell_blk q2.out 4).trans rfl
  have qc5 : w2.cell? ⟨w.heap.size, 5, none⟩ = some (.slice a1 C.w1.length c1) := (cell_blk q2.out 5).trans rfl
  have ql := blk_lt q2.out
  have sc0 : w2.cell? ⟨w.heap.size + 1, 0, none⟩ = some (.int .i64 S.part) := (cell_blk s2.out 0).trans rfl
  have sc1 : w2.cell? ⟨w.heap.size + 1, 1, none⟩ = some (.bool true) := (cell_blk s2.out 1).trans rfl
  have sc2 : w2.cell? ⟨w.heap.size + 1, 2, none⟩ = some (.slice ma S.made.length mc) := (cell_blk s2.out 2).trans rfl
  have sc3 : w2.cell? ⟨w.heap.size + 1, 3, none⟩ = some (.slice va S.valid.length vc) := (cell_blk s2.out 3).trans rfl
  have sl := blk_lt s2.out
  have rc0 : w2.cell? ⟨w.heap.size + 1 + 1, 0, none⟩ = some (.int .i64 7) := (cell_blk r2.out 0).trans rfl
  have rc1 : w2.cell? ⟨w.heap.size + 1 + 1, 1, none⟩ = some (.int .i64 R.port) := (cell_blk r2.out 1).trans rfl
  have rc2 : w2.cell? ⟨w.heap.size + 1 + 1, 2, none⟩ = some (.int .u64 R.addr) := (cell_blk r2.out 2).trans rfl
  have rc3 : w2.cell? ⟨w.heap.size + 1 + 1, 3, none⟩ = some (.slice da R.data.length dc) := (cell_blk r2.out 3).trans rfl
  have rl := blk_lt r2.out
  go_wp2_with fail
  refine (refused_any _ _ _ C S R hsm HM.out HD.out _ (HN.out.below HB2.out) (HC.out.below HB2.out) (HS.out.below HB2.out) (HR.out.below HB2.out)).mono ?_
  rw [HV.out]
  rintro e w3 ⟨rfl, hb⟩
  have q3 : Kp (w3.heap[w.heap.size]? = some (.cells #[.slice pa C.parts.length pc, .slice (some ⟨g, o, none⟩) C.chans.length cc, .int .i64 C.l0, .slice a0 C.w0.length c0, .int .i64 C.l1, .slice a1 C.w1.length c1] 29 (0, 0))) := ⟨blk_below q2.out hb⟩
  have s3 : Kp (w3.heap[w.heap.size + 1]? = some (.cells #[.int .i64 S.part, .bool true, .slice ma S.made.length mc, .slice va S.valid.length vc] 40 (0, 0))) := ⟨blk_below s2.out hb⟩
  have r3 : Kp (w3.heap[w.heap.size + 1 + 1]? = some (.cells #[.int .i64 7, .int .i64 R.port, .int .u64 R.addr, .slice da R.data.length dc] 44 (0, 0))) := ⟨blk_below r2.out hb⟩
  have HB3 : Kp (Below w.heap.size w w3) := ⟨below_call HB2.out hb⟩
  clear qc0 qc1 qc2 qc3 qc4 qc5 ql sc0 sc1 sc2 sc3 sl rc0 rc1 rc2 rc3 rl q2 s2 r2 HB2 hb
  have qc0 : w3.cell? ⟨w.heap.size, 0, none⟩ = some (.slice pa C.parts.length pc) := (cell_blk q3.out 0).trans rfl
  have qc1 : w3.cell? ⟨w.heap.size, 1, none⟩ = some (.slice (some ⟨g, o, none⟩) C.chans.length cc) := (cell_blk q3.out 1).trans rfl
  have qc2 : w3.cell? ⟨w.heap.size, 2, none⟩ = some (.int .i64 C.l0) := (cell_blk q3.out 2).trans rfl
  have qc3 : w3.cell? ⟨w.heap.size, 3, none⟩ = some (.slice a0 C.w0.length c0) := (cell_blk q3.out 3).trans rfl
  have qc4 : w3.cell? ⟨w.heap.size, 4, none⟩ = some (.int .i64 C.l1) := (cell_blk q3.out 4).trans rfl
  have qc5 : w3.cell? ⟨w.heap.size, 5, none⟩ = some (.slice a1 C.w1.length c1) := (cell_blk q3.out 5).trans rfl
  have ql := blk_lt q3.out
  have sc0 : w3.cell? ⟨w.heap.size + 1, 0, none⟩ = some (.int .i64 S.part) := (cell_blk s3.out 0).trans rfl
  have sc1 : w3.cell? ⟨w.heap.size + 1, 1, none⟩ = some (.bool true) := (cell_blk s3.out 1).trans rfl
  have sc2 : w3.cell? ⟨w.heap.size + 1, 2, none⟩ = some (.slice ma S.made.length mc) := (cell_blk s3.out 2).trans rfl
  have sc3 : w3.cell? ⟨w.heap.size + 1, 3, none⟩ = some (.slice va S.valid.length vc) := (cell_blk s3.out 3).trans rfl
  have sl := blk_lt s3.out
  have rc0 : w3.cell? ⟨w.heap.size + 1 + 1, 0, none⟩ = some (.int .i64 7) := (cell_blk r3.out 0).trans rfl
  have rc1 : w3.cell? ⟨w.heap.size + 1 + 1, 1, none⟩ = some (.int .i64 R.port) := (cell_blk r3.out 1).trans rfl
  have rc2 : w3.cell? ⟨w.heap.size + 1 + 1, 2, none⟩ = some (.int .u64 R.addr) := (cell_blk r3.out 2).trans rfl
  have rc3 : w3.cell? ⟨w.heap.size + 1 + 1, 3, none⟩ = some (.slice da R.data.length dc) := (cell_blk r3.out 3).trans rfl
  have rl := blk_lt r3.out
  go_wp2_with fail
  refine (port_any _ C hsm R.port IRP.out _ (HC.out.below HB3.out)).mono ?_
  rw [HPV.out]
  rintro e w4 ⟨rfl, hb⟩
  have q4 : Kp (w4.heap[w.heap.size]? = some (.cells #[.slice pa C.parts.length pc, .slice (some ⟨g, o, none⟩) C.chans.length cc, .int .i64 C.l0, .slice a0 C.w0.length c0, .int .i64 C.l1, .slice a1 C.w1.length c1] 29 (0, 0))) := ⟨blk_below q3.out hb⟩
  have s4 : Kp (w4.heap[w.heap.size + 1]? = some (.cells #[.int .i64 S.part, .bool true, .slice ma S.made.length mc, .slice va S.valid.length vc] 40 (0, 0))) := ⟨blk_below s3.out hb⟩
  have r4 : Kp (w4.heap[w.heap.size + 1 + 1]? = some (.cells #[.int .i64 7, .int .i64 R.port, .int .u64 R.addr, .slice da R.data.length dc] 44 (0, 0))) := ⟨blk_below r3.out hb⟩
  have HB4 : Kp (Below w.heap.size w w4) := ⟨below_call HB3.out hb⟩
  clear qc0 qc1 qc2 qc3 qc4 qc5 ql sc0 sc1 sc2 sc3 sl rc0 rc1 rc2 rc3 rl q3 s3 r3 HB3 hb
  have qc0 : w4.cell? ⟨w.heap.size, 0, none⟩ = some (.slice pa C.parts.length pc) := (cell_blk q4.out 0).trans rfl
  have qc1 : w4.cell? ⟨w.heap.size, 1, none⟩ = some (.slice (some ⟨g, o, none⟩) C.chans.length cc) := (cell_blk q4.out 1).trans rfl
  have qc2 : w4.cell? ⟨w.heap.size, 2, none⟩ = some (.int .i64 C.l0) := (cell_blk q4.out 2).trans rfl
  have qc3 : w4.cell? ⟨w.heap.size, 3, none⟩ = some (.slice a0 C.w0.length c0) := (cell_blk q4.out 3).trans rfl
  have qc4 : w4.cell? ⟨w.heap.size, 4, none⟩ = some (.int .i64 C.l1) := (cell_blk q4.out 4).trans rfl
  have qc5 : w4.cell? ⟨w.heap.size, 5, none⟩ = some (.slice a1 C.w1.length c1) := (cell_blk q4.out 5).trans rfl
  have ql := blk_lt q4.out
  have sc0 : w4.cell? ⟨w.heap.size + 1, 0, none⟩ = some (.int .i64 S.part) := (cell_blk s4.out 0).trans rfl
  have sc1 : w4.cell? ⟨w.heap.size + 1, 1, none⟩ = some (.bool true) := (cell_blk s4.out 1).trans rfl
  have sc2 : w4.cell? ⟨w.heap.size + 1, 2, none⟩ = some (.slice ma S.made.length mc) := (cell_blk s4.out 2).trans rfl
  have sc3 : w4.cell? ⟨w.heap.size + 1, 3, none⟩ = some (.slice va S.valid.length vc) := (cell_blk s4.out 3).trans rfl
  have sl := blk_lt s4.out
  have rc0 : w4.cell? ⟨w.heap.size + 1 + 1, 0, none⟩ = some (.int .i64 7) := (cell_blk r4.out 0).trans rfl
  have rc1 : w4.cell? ⟨w.heap.size + 1 + 1, 1, none⟩ = some (.int .i64 R.port) := (cell_blk r4.out 1).trans rfl
  have rc2 : w4.cell? ⟨w.heap.size + 1 + 1, 2, none⟩ = some (.int .u64 R.addr) := (cell_blk r4.out 2).trans rfl
  have rc3 : w4.cell? ⟨w.heap.size + 1 + 1, 3, none⟩ = some (.slice da R.data.length dc) := (cell_blk r4.out 3).trans rfl
  have rl := blk_lt r4.out
  have e0 : w4.cell? ⟨g, o + k0 * 7, none⟩ = some (.int .i64 x.kind) := (HB4.out.cell (p := ⟨g, o + k0 * 7, none⟩) hg0).trans (HK.out 0 (by omega))
  have e1 : w4.cell? ⟨g, o + k0 * 7 + 1, none⟩ = some (.int .i64 x.frm) := (HB4.out.cell (p := ⟨g, o + k0 * 7 + 1, none⟩) hg0).trans (HK.out 1 (by omega))
  have e2 : w4.cell? ⟨g, o + k0 * 7 + 2, none⟩ = some (.int .i64 x.to) := (HB4.out.cell (p := ⟨g, o + k0 * 7 + 2, none⟩) hg0).trans (HK.out 2 (by omega))
  have e3 : w4.cell? ⟨g, o + k0 * 7 + 3, none⟩ = some (.int .i64 x.words) := (HB4.out.cell (p := ⟨g, o + k0 * 7 + 3, none⟩) hg0).trans (HK.out 3 (by omega))
  have e4 : w4.cell? ⟨g, o + k0 * 7 + 4, none⟩ = some (.int .i64 x.depth) := (HB4.out.cell (p := ⟨g, o + k0 * 7 + 4, none⟩) hg0).trans (HK.out 4 (by omega))
  have e5 : w4.cell? ⟨g, o + k0 * 7 + 5, none⟩ = some (.int .i64 x.period) := (HB4.out.cell (p := ⟨g, o + k0 * 7 + 5, none⟩) hg0).trans (HK.out 5 (by omega))
  have e6 : w4.cell? ⟨g, o + k0 * 7 + 6, none⟩ = some (.int .u32 x.boot) := (HB4.out.cell (p := ⟨g, o + k0 * 7 + 6, none⟩) hg0).trans (HK.out 6 (by omega))
  go_wp2
  go_ret
  exact ⟨rfl, (below_al HB4.out _)⟩

set_option maxRecDepth 100000 in
set_option maxHeartbeats 8000000 in
theorem signFits_3 (cv sv rv : Value) (C : Cfg) (S : Std) (R : Rqt) (hg : C.great = false) (hm : ¬ 60 < (S.made.length : Int)) (hd : ¬ 100 < (R.data.length : Int)) (v : Int) (hv : refV C S R = v) (hv0 : v = 0) (ho : R.op = 3) (hn : S.normal = true) (k0 : Nat) (hk0 : k0 < C.chans.length) (src : Bool) (hpv : portV C R.port = ⟨k0, S.part, src, true⟩) (x : Chn) (hx : C.chans[k0] = x) (hsr : src = true) (hk : (x.kind == 1) = true) (hl : (1 : Int) ≤ R.data.length) (hw : (R.data.length : Int) ≤ x.words) (w : World) (hN : NamesAt w) (hc : CfgAt w cv C) (hs : StdAt w sv S) (hr : RqtAt w rv R) : Calls Tryd.prog 5 #[cv, sv, rv] w fun e w' => e = .returned (.bool true) ∧ Below w.heap.size w w' := by
  have HN := Kp.mk hN
  clear hN
  have HG := Kp.mk hg
  have HM : Kp (S.made.length ≤ 100) := ⟨by omega⟩
  have HD : Kp (R.data.length ≤ 100) := ⟨by omega⟩
  have hsm := small_of_great hg
  have hmf : decide (60 < (S.made.length : Int)) = false := decide_eq_false hm
  clear hm
  have hdf : decide (100 < (R.data.length : Int)) = false := decide_eq_false hd
  clear hd
  have HV := Kp.mk hv
  subst hv0
  have HPV := Kp.mk hpv
  clear hpv
  subst hsr
  have hkb : (x.kind == 1) = true := hk
  clear hk
  clear hg hv
  have HC := Kp.mk hc
  have HS := Kp.mk hs
  have HR := Kp.mk hr
  obtain ⟨_, pa, pc, ca, cc, a0, c0, a1, c1, rfl, bp, bc, b0, b1, gp, gc, gw0, gw1⟩ := hc
  obtain ⟨_, ma, mc, va, vc, rfl, bm, bv, gm, gv⟩ := hs
  obtain ⟨ir, da, dc, rfl, bd, gd⟩ := hr
  clear gp gw0 gw1 gm gv gd bp b0 b1
  clear bc bm bv bd
  obtain ⟨g, o, rfl, hg0, hcc⟩ := gc.at (by omega)
  have HK : Kp (∀ j, j < 7 → w.cell? ⟨g, o + k0 * 7 + j, none⟩ = (chanC x)[j]?) := ⟨fun j hj => by
    have h1 := hcc (k0 * 7 + j) (by omega)
    rw [flat_at chanC 7 chanC_len C.chans k0 j hk0 hj, hx] at h1
    rw [Nat.add_assoc]
    exact h1⟩
  have hki : (k0 : Int) < (C.chans.length : Int) := by omega
  have hkn := nat_nn k0
  have IRP := Kp.mk ir.2.1
  clear hcc hx ir gc
  rw [hn] at HS ⊢
  clear hn
  rw [ho] at HR ⊢
  clear ho
  go_enter Tryd.func5, Tryd.ntmps5
  have HB0 : Kp (Below w.heap.size w w) := ⟨Below.refl _ _⟩
  go_wp2_with fail
  refine (wakes10_any _ (HN.out.below (below_al (below_al (below_al HB0.out _) _) _))).mono ?_
  rintro e w1 ⟨rfl, hb⟩
  have q1 : Kp (w1.heap[w.heap.size]? = some (.cells #[.slice pa C.parts.length pc, .slice (some ⟨g, o, none⟩) C.chans.length cc, .int .i64 C.l0, .slice a0 C.w0.length c0, .int .i64 C.l1, .slice a1 C.w1.length c1] 29 (0, 0))) := ⟨blk_below (blk_al (blk_al (blk_new _ _) _) _) hb⟩
  have s1 : Kp (w1.heap[w.heap.size + 1]? = some (.cells #[.int .i64 S.part, .bool true, .slice ma S.made.length mc, .slice va S.valid.length vc] 40 (0, 0))) := ⟨blk_below (blk_al (blk_at (w := (w.alloc (.cells #[.slice pa C.parts.length pc, .slice (some ⟨g, o, none⟩) C.chans.length cc, .int .i64 C.l0, .slice a0 C.w0.length c0, .int .i64 C.l1, .slice a1 C.w1.length c1] 29))) (by simp) _) _) hb⟩
  have r1 : Kp (w1.heap[w.heap.size + 1 + 1]? = some (.cells #[.int .i64 3, .int .i64 R.port, .int .u64 R.addr, .slice da R.data.length dc] 44 (0, 0))) := ⟨blk_below (blk_at (w := ((w.alloc (.cells #[.slice pa C.parts.length pc, .slice (some ⟨g, o, none⟩) C.chans.length cc, .int .i64 C.l0, .slice a0 C.w0.length c0, .int .i64 C.l1, .slice a1 C.w1.length c1] 29)).alloc (.cells #[.int .i64 S.part, .bool true, .slice ma S.made.length mc, .slice va S.valid.length vc] 40))) (by simp) _) hb⟩
  have HB1 : Kp (Below w.heap.size w w1) := ⟨below_call (below_al (below_al (below_al HB0.out _) _) _) hb⟩
  clear HB0 hb
  have qc0 : w1.cell? ⟨w.heap.size, 0, none⟩ = some (.slice pa C.parts.length pc) := (cell_blk q1.out 0).trans rfl
  have qc1 : w1.cell? ⟨w.heap.size, 1, none⟩ = some (.slice (some ⟨g, o, none⟩) C.chans.length cc) := (cell_blk q1.out 1).trans rfl
  have qc2 : w1.cell? ⟨w.heap.size, 2, none⟩ = some (.int .i64 C.l0) := (cell_blk q1.out 2).trans rfl
  have qc3 : w1.cell? ⟨w.heap.size, 3, none⟩ = some (.slice a0 C.w0.length c0) := (cell_blk q1.out 3).trans rfl
  have qc4 : w1.cell? ⟨w.heap.size, 4, none⟩ = some (.int .i64 C.l1) := (cell_blk q1.out 4).trans rfl
  have qc5 : w1.cell? ⟨w.heap.size, 5, none⟩ = some (.slice a1 C.w1.length c1) := (cell_blk q1.out 5).trans rfl
  have ql := blk_lt q1.out
  have sc0 : w1.cell? ⟨w.heap.size + 1, 0, none⟩ = some (.int .i64 S.part) := (cell_blk s1.out 0).trans rfl
  have sc1 : w1.cell? ⟨w.heap.size + 1, 1, none⟩ = some (.bool true) := (cell_blk s1.out 1).trans rfl
  have sc2 : w1.cell? ⟨w.heap.size + 1, 2, none⟩ = some (.slice ma S.made.length mc) := (cell_blk s1.out 2).trans rfl
  have sc3 : w1.cell? ⟨w.heap.size + 1, 3, none⟩ = some (.slice va S.valid.length vc) := (cell_blk s1.out 3).trans rfl
  have sl := blk_lt s1.out
  have rc0 : w1.cell? ⟨w.heap.size + 1 + 1, 0, none⟩ = some (.int .i64 3) := (cell_blk r1.out 0).trans rfl
  have rc1 : w1.cell? ⟨w.heap.size + 1 + 1, 1, none⟩ = some (.int .i64 R.port) := (cell_blk r1.out 1).trans rfl
  have rc2 : w1.cell? ⟨w.heap.size + 1 + 1, 2, none⟩ = some (.int .u64 R.addr) := (cell_blk r1.out 2).trans rfl
  have rc3 : w1.cell? ⟨w.heap.size + 1 + 1, 3, none⟩ = some (.slice da R.data.length dc) := (cell_blk r1.out 3).trans rfl
  have rl := blk_lt r1.out
  go_wp2_with fail
  refine (great_any _ C _ (HC.out.below HB1.out)).mono ?_
  rw [HG.out]
  rintro e w2 ⟨rfl, hb⟩
  have q2 : Kp (w2.heap[w.heap.size]? = some (.cells #[.slice pa C.parts.length pc, .slice (some ⟨g, o, none⟩) C.chans.length cc, .int .i64 C.l0, .slice a0 C.w0.length c0, .int .i64 C.l1, .slice a1 C.w1.length c1] 29 (0, 0))) := ⟨blk_below q1.out hb⟩
  have s2 : Kp (w2.heap[w.heap.size + 1]? = some (.cells #[.int .i64 S.part, .bool true, .slice ma S.made.length mc, .slice va S.valid.length vc] 40 (0, 0))) := ⟨blk_below s1.out hb⟩
  have r2 : Kp (w2.heap[w.heap.size + 1 + 1]? = some (.cells #[.int .i64 3, .int .i64 R.port, .int .u64 R.addr, .slice da R.data.length dc] 44 (0, 0))) := ⟨blk_below r1.out hb⟩
  have HB2 : Kp (Below w.heap.size w w2) := ⟨below_call HB1.out hb⟩
  clear qc0 qc1 qc2 qc3 qc4 qc5 ql sc0 sc1 sc2 sc3 sl rc0 rc1 rc2 rc3 rl q1 s1 r1 HB1 hb
  have qc0 : w2.cell? ⟨w.heap.size, 0, none⟩ = some (.slice pa C.parts.length pc) := (cell_blk q2.out 0).trans rfl
  have qc1 : w2.cell? ⟨w.heap.size, 1, none⟩ = some (.slice (some ⟨g, o, none⟩) C.chans.length cc) := (cell_blk q2.out 1).trans rfl
  have qc2 : w2.cell? ⟨w.heap.size, 2, none⟩ = some (.int .i64 C.l0) := (cell_blk q2.out 2).trans rfl
  have qc3 : w2.cell? ⟨w.heap.size, 3, none⟩ = some (.slice a0 C.w0.length c0) := (cell_blk q2.out 3).trans rfl
  have qc4 : w2.cell? ⟨w.heap.size, 4, none⟩ = some (.int .i64 C.l1) := (cell_blk q2.out 4).trans rfl
  have qc5 : w2.cell? ⟨w.heap.size, 5, none⟩ = some (.slice a1 C.w1.length c1) := (cell_blk q2.out 5).trans rfl
  have ql := blk_lt q2.out
  have sc0 : w2.cell? ⟨w.heap.size + 1, 0, none⟩ = some (.int .i64 S.part) := (cell_blk s2.out 0).trans rfl
  have sc1 : w2.cell? ⟨w.heap.size + 1, 1, none⟩ = some (.bool true) := (cell_blk s2.out 1).trans rfl
  have sc2 : w2.cell? ⟨w.heap.size + 1, 2, none⟩ = some (.slice ma S.made.length mc) := (cell_blk s2.out 2).trans rfl
  have sc3 : w2.cell? ⟨w.heap.size + 1, 3, none⟩ = some (.slice va S.valid.length vc) := (cell_blk s2.out 3).trans rfl
  have sl := blk_lt s2.out
  have rc0 : w2.cell? ⟨w.heap.size + 1 + 1, 0, none⟩ = some (.int .i64 3) := (cell_blk r2.out 0).trans rfl
  have rc1 : w2.cell? ⟨w.heap.size + 1 + 1, 1, none⟩ = some (.int .i64 R.port) := (cell_blk r2.out 1).trans rfl
  have rc2 : w2.cell? ⟨w.heap.size + 1 + 1, 2, none⟩ = some (.int .u64 R.addr) := (cell_blk r2.out 2).trans rfl
  have rc3 : w2.cell? ⟨w.heap.size + 1 + 1, 3, none⟩ = some (.slice da R.data.length dc) := (cell_blk r2.out 3).trans rfl
  have rl := blk_lt r2.out
  go_wp2_with fail
  refine (refused_any _ _ _ C S R hsm HM.out HD.out _ (HN.out.below HB2.out) (HC.out.below HB2.out) (HS.out.below HB2.out) (HR.out.below HB2.out)).mono ?_
  rw [HV.out]
  rintro e w3 ⟨rfl, hb⟩
  have q3 : Kp (w3.heap[w.heap.size]? = some (.cells #[.slice pa C.parts.length pc, .slice (some ⟨g, o, none⟩) C.chans.length cc, .int .i64 C.l0, .slice a0 C.w0.length c0, .int .i64 C.l1, .slice a1 C.w1.length c1] 29 (0, 0))) := ⟨blk_below q2.out hb⟩
  have s3 : Kp (w3.heap[w.heap.size + 1]? = some (.cells #[.int .i64 S.part, .bool true, .slice ma S.made.length mc, .slice va S.valid.length vc] 40 (0, 0))) := ⟨blk_below s2.out hb⟩
  have r3 : Kp (w3.heap[w.heap.size + 1 + 1]? = some (.cells #[.int .i64 3, .int .i64 R.port, .int .u64 R.addr, .slice da R.data.length dc] 44 (0, 0))) := ⟨blk_below r2.out hb⟩
  have HB3 : Kp (Below w.heap.size w w3) := ⟨below_call HB2.out hb⟩
  clear qc0 qc1 qc2 qc3 qc4 qc5 ql sc0 sc1 sc2 sc3 sl rc0 rc1 rc2 rc3 rl q2 s2 r2 HB2 hb
  have qc0 : w3.cell? ⟨w.heap.size, 0, none⟩ = some (.slice pa C.parts.length pc) := (cell_blk q3.out 0).trans rfl
  have qc1 : w3.cell? ⟨w.heap.size, 1, none⟩ = some (.slice (some ⟨g, o, none⟩) C.chans.length cc) := (cell_blk q3.out 1).trans rfl
  have qc2 : w3.cell? ⟨w.heap.size, 2, none⟩ = some (.int .i64 C.l0) := (cell_blk q3.out 2).trans rfl
  have qc3 : w3.cell? ⟨w.heap.size, 3, none⟩ = some (.slice a0 C.w0.length c0) := (cell_blk q3.out 3).trans rfl
  have qc4 : w3.cell? ⟨w.heap.size, 4, none⟩ = some (.int .i64 C.l1) := (cell_blk q3.out 4).trans rfl
  have qc5 : w3.cell? ⟨w.heap.size, 5, none⟩ = some (.slice a1 C.w1.length c1) := (cell_blk q3.out 5).trans rfl
  have ql := blk_lt q3.out
  have sc0 : w3.cell? ⟨w.heap.size + 1, 0, none⟩ = some (.int .i64 S.part) := (cell_blk s3.out 0).trans rfl
  have sc1 : w3.cell? ⟨w.heap.size + 1, 1, none⟩ = some (.bool true) := (cell_blk s3.out 1).trans rfl
  have sc2 : w3.cell? ⟨w.heap.size + 1, 2, none⟩ = some (.slice ma S.made.length mc) := (cell_blk s3.out 2).trans rfl
  have sc3 : w3.cell? ⟨w.heap.size + 1, 3, none⟩ = some (.slice va S.valid.length vc) := (cell_blk s3.out 3).trans rfl
  have sl := blk_lt s3.out
  have rc0 : w3.cell? ⟨w.heap.size + 1 + 1, 0, none⟩ = some (.int .i64 3) := (cell_blk r3.out 0).trans rfl
  have rc1 : w3.cell? ⟨w.heap.size + 1 + 1, 1, none⟩ = some (.int .i64 R.port) := (cell_blk r3.out 1).trans rfl
  have rc2 : w3.cell? ⟨w.heap.size + 1 + 1, 2, none⟩ = some (.int .u64 R.addr) := (cell_blk r3.out 2).trans rfl
  have rc3 : w3.cell? ⟨w.heap.size + 1 + 1, 3, none⟩ = some (.slice da R.data.length dc) := (cell_blk r3.out 3).trans rfl
  have rl := blk_lt r3.out
  go_wp2_with fail
  refine (port_any _ C hsm R.port IRP.out _ (HC.out.below HB3.out)).mono ?_
  rw [HPV.out]
  rintro e w4 ⟨rfl, hb⟩
  have q4 : Kp (w4.heap[w.heap.size]? = some (.cells #[.slice pa C.parts.length pc, .slice (some ⟨g, o, none⟩) C.chans.length cc, .int .i64 C.l0, .slice a0 C.w0.length c0, .int .i64 C.l1, .slice a1 C.w1.length c1] 29 (0, 0))) := ⟨blk_below q3.out hb⟩
  have s4 : Kp (w4.heap[w.heap.size + 1]? = some (.cells #[.int .i64 S.part, .bool true, .slice ma S.made.length mc, .slice va S.valid.length vc] 40 (0, 0))) := ⟨blk_below s3.out hb⟩
  have r4 : Kp (w4.heap[w.heap.size + 1 + 1]? = some (.cells #[.int .i64 3, .int .i64 R.port, .int .u64 R.addr, .slice da R.data.length dc] 44 (0, 0))) := ⟨blk_below r3.out hb⟩
  have HB4 : Kp (Below w.heap.size w w4) := ⟨below_call HB3.out hb⟩
  clear qc0 qc1 qc2 qc3 qc4 qc5 ql sc0 sc1 sc2 sc3 sl rc0 rc1 rc2 rc3 rl q3 s3 r3 HB3 hb
  have qc0 : w4.cell? ⟨w.heap.size, 0, none⟩ = some (.slice pa C.parts.length pc) := (cell_blk q4.out 0).trans rfl
  have qc1 : w4.cell? ⟨w.heap.size, 1, none⟩ = some (.slice (some ⟨g, o, none⟩) C.chans.length cc) := (cell_blk q4.out 1).trans rfl
  have qc2 : w4.cell? ⟨w.heap.size, 2, none⟩ = some (.int .i64 C.l0) := (cell_blk q4.out 2).trans rfl
  have qc3 : w4.cell? ⟨w.heap.size, 3, none⟩ = some (.slice a0 C.w0.length c0) := (cell_blk q4.out 3).trans rfl
  have qc4 : w4.cell? ⟨w.heap.size, 4, none⟩ = some (.int .i64 C.l1) := (cell_blk q4.out 4).trans rfl
  have qc5 : w4.cell? ⟨w.heap.size, 5, none⟩ = some (.slice a1 C.w1.length c1) := (cell_blk q4.out 5).trans rfl
  have ql := blk_lt q4.out
  have sc0 : w4.cell? ⟨w.heap.size + 1, 0, none⟩ = some (.int .i64 S.part) := (cell_blk s4.out 0).trans rfl
  have sc1 : w4.cell? ⟨w.heap.size + 1, 1, none⟩ = some (.bool true) := (cell_blk s4.out 1).trans rfl
  have sc2 : w4.cell? ⟨w.heap.size + 1, 2, none⟩ = some (.slice ma S.made.length mc) := (cell_blk s4.out 2).trans rfl
  have sc3 : w4.cell? ⟨w.heap.size + 1, 3, none⟩ = some (.slice va S.valid.length vc) := (cell_blk s4.out 3).trans rfl
  have sl := blk_lt s4.out
  have rc0 : w4.cell? ⟨w.heap.size + 1 + 1, 0, none⟩ = some (.int .i64 3) := (cell_blk r4.out 0).trans rfl
  have rc1 : w4.cell? ⟨w.heap.size + 1 + 1, 1, none⟩ = some (.int .i64 R.port) := (cell_blk r4.out 1).trans rfl
  have rc2 : w4.cell? ⟨w.heap.size + 1 + 1, 2, none⟩ = some (.int .u64 R.addr) := (cell_blk r4.out 2).trans rfl
  have rc3 : w4.cell? ⟨w.heap.size + 1 + 1, 3, none⟩ = some (.slice da R.data.length dc) := (cell_blk r4.out 3).trans rfl
  have rl := blk_lt r4.out
  have e0 : w4.cell? ⟨g, o + k0 * 7, none⟩ = some (.int .i64 x.kind) := (HB4.out.cell (p := ⟨g, o + k0 * 7, none⟩) hg0).trans (HK.out 0 (by omega))
  have e1 : w4.cell? ⟨g, o + k0 * 7 + 1, none⟩ = some (.int .i64 x.frm) := (HB4.out.cell (p := ⟨g, o + k0 * 7 + 1, none⟩) hg0).trans (HK.out 1 (by omega))
  have e2 : w4.cell? ⟨g, o + k0 * 7 + 2, none⟩ = some (.int .i64 x.to) := (HB4.out.cell (p := ⟨g, o + k0 * 7 + 2, none⟩) hg0).trans (HK.out 2 (by omega))
  have e3 : w4.cell? ⟨g, o + k0 * 7 + 3, none⟩ = some (.int .i64 x.words) := (HB4.out.cell (p := ⟨g, o + k0 * 7 + 3, none⟩) hg0).trans (HK.out 3 (by omega))
  have e4 : w4.cell? ⟨g, o + k0 * 7 + 4, none⟩ = some (.int .i64 x.depth) := (HB4.out.cell (p := ⟨g, o + k0 * 7 + 4, none⟩) hg0).trans (HK.out 4 (by omega))
  have e5 : w4.cell? ⟨g, o + k0 * 7 + 5, none⟩ = some (.int .i64 x.period) := (HB4.out.cell (p := ⟨g, o + k0 * 7 + 5, none⟩) hg0).trans (HK.out 5 (by omega))
  have e6 : w4.cell? ⟨g, o + k0 * 7 + 6, none⟩ = some (.int .u32 x.boot) := (HB4.out.cell (p := ⟨g, o + k0 * 7 + 6, none⟩) hg0).trans (HK.out 6 (by omega))
  go_wp2
  go_ret
  exact ⟨rfl, (below_al HB4.out _)⟩

set_option maxRecDepth 100000 in
set_option maxHeartbeats 8000000 in
theorem signFits_5 (cv sv rv : Value) (C : Cfg) (S : Std) (R : Rqt) (hg : C.great = false) (hm : ¬ 60 < (S.made.length : Int)) (hd : ¬ 100 < (R.data.length : Int)) (v : Int) (hv : refV C S R = v) (hv0 : v = 0) (ho : R.op = 5) (hn : S.normal = true) (k0 : Nat) (hk0 : k0 < C.chans.length) (src : Bool) (hpv : portV C R.port = ⟨k0, S.part, src, true⟩) (x : Chn) (hx : C.chans[k0] = x) (hsr : src = true) (hk : (x.kind == 1) = false) (hl : (1 : Int) ≤ R.data.length) (hw : (R.data.length : Int) ≤ x.words) (w : World) (hN : NamesAt w) (hc : CfgAt w cv C) (hs : StdAt w sv S) (hr : RqtAt w rv R) : Calls Tryd.prog 5 #[cv, sv, rv] w fun e w' => e = .returned (.bool true) ∧ Below w.heap.size w w' := by
  have HN := Kp.mk hN
  clear hN
  have HG := Kp.mk hg
  have HM : Kp (S.made.length ≤ 100) := ⟨by omega⟩
  have HD : Kp (R.data.length ≤ 100) := ⟨by omega⟩
  have hsm := small_of_great hg
  have hmf : decide (60 < (S.made.length : Int)) = false := decide_eq_false hm
  clear hm
  have hdf : decide (100 < (R.data.length : Int)) = false := decide_eq_false hd
  clear hd
  have HV := Kp.mk hv
  subst hv0
  have HPV := Kp.mk hpv
  clear hpv
  subst hsr
  have hkb : (x.kind == 1) = false := hk
  clear hk
  clear hg hv
  have HC := Kp.mk hc
  have HS := Kp.mk hs
  have HR := Kp.mk hr
  obtain ⟨_, pa, pc, ca, cc, a0, c0, a1, c1, rfl, bp, bc, b0, b1, gp, gc, gw0, gw1⟩ := hc
  obtain ⟨_, ma, mc, va, vc, rfl, bm, bv, gm, gv⟩ := hs
  obtain ⟨ir, da, dc, rfl, bd, gd⟩ := hr
  clear gp gw0 gw1 gm gv gd bp b0 b1
  clear bc bm bv bd
  obtain ⟨g, o, rfl, hg0, hcc⟩ := gc.at (by omega)
  have HK : Kp (∀ j, j < 7 → w.cell? ⟨g, o + k0 * 7 + j, none⟩ = (chanC x)[j]?) := ⟨fun j hj => by
    have h1 := hcc (k0 * 7 + j) (by omega)
    rw [flat_at chanC 7 chanC_len C.chans k0 j hk0 hj, hx] at h1
    rw [Nat.add_assoc]
    exact h1⟩
  have hki : (k0 : Int) < (C.chans.length : Int) := by omega
  have hkn := nat_nn k0
  have IRP := Kp.mk ir.2.1
  clear hcc hx ir gc
  rw [hn] at HS ⊢
  clear hn
  rw [ho] at HR ⊢
  clear ho
  go_enter Tryd.func5, Tryd.ntmps5
  have HB0 : Kp (Below w.heap.size w w) := ⟨Below.refl _ _⟩
  go_wp2_with fail
  refine (wakes10_any _ (HN.out.below (below_al (below_al (below_al HB0.out _) _) _))).mono ?_
  rintro e w1 ⟨rfl, hb⟩
  have q1 : Kp (w1.heap[w.heap.size]? = some (.cells #[.slice pa C.parts.length pc, .slice (some ⟨g, o, none⟩) C.chans.length cc, .int .i64 C.l0, .slice a0 C.w0.length c0, .int .i64 C.l1, .slice a1 C.w1.length c1] 29 (0, 0))) := ⟨blk_below (blk_al (blk_al (blk_new _ _) _) _) hb⟩
  have s1 : Kp (w1.heap[w.heap.size + 1]? = some (.cells #[.int .i64 S.part, .bool true, .slice ma S.made.length mc, .slice va S.valid.length vc] 40 (0, 0))) := ⟨blk_below (blk_al (blk_at (w := (w.alloc (.cells #[.slice pa C.parts.length pc, .slice (some ⟨g, o, none⟩) C.chans.length cc, .int .i64 C.l0, .slice a0 C.w0.length c0, .int .i64 C.l1, .slice a1 C.w1.length c1] 29))) (by simp) _) _) hb⟩
  have r1 : Kp (w1.heap[w.heap.size + 1 + 1]? = some (.cells #[.int .i64 5, .int .i64 R.port, .int .u64 R.addr, .slice da R.data.length dc] 44 (0, 0))) := ⟨blk_below (blk_at (w := ((w.alloc (.cells #[.slice pa C.parts.length pc, .slice (some ⟨g, o, none⟩) C.chans.length cc, .int .i64 C.l0, .slice a0 C.w0.length c0, .int .i64 C.l1, .slice a1 C.w1.length c1] 29)).alloc (.cells #[.int .i64 S.part, .bool true, .slice ma S.made.length mc, .slice va S.valid.length vc] 40))) (by simp) _) hb⟩
  have HB1 : Kp (Below w.heap.size w w1) := ⟨below_call (below_al (below_al (below_al HB0.out _) _) _) hb⟩
  clear HB0 hb
  have qc0 : w1.cell? ⟨w.heap.size, 0, none⟩ = some (.slice pa C.parts.length pc) := (cell_blk q1.out 0).trans rfl
  have qc1 : w1.cell? ⟨w.heap.size, 1, none⟩ = some (.slice (some ⟨g, o, none⟩) C.chans.length cc) := (cell_blk q1.out 1).trans rfl
  have qc2 : w1.cell? ⟨w.heap.size, 2, none⟩ = some (.int .i64 C.l0) := (cell_blk q1.out 2).trans rfl
  have qc3 : w1.cell? ⟨w.heap.size, 3, none⟩ = some (.slice a0 C.w0.length c0) := (cell_blk q1.out 3).trans rfl
  have qc4 : w1.cell? ⟨w.heap.size, 4, none⟩ = some (.int .i64 C.l1) := (cell_blk q1.out 4).trans rfl
  have qc5 : w1.cell? ⟨w.heap.size, 5, none⟩ = some (.slice a1 C.w1.length c1) := (cell_blk q1.out 5).trans rfl
  have ql := blk_lt q1.out
  have sc0 : w1.cell? ⟨w.heap.size + 1, 0, none⟩ = some (.int .i64 S.part) := (cell_blk s1.out 0).trans rfl
  have sc1 : w1.cell? ⟨w.heap.size + 1, 1, none⟩ = some (.bool true) := (cell_blk s1.out 1).trans rfl
  have sc2 : w1.cell? ⟨w.heap.size + 1, 2, none⟩ = some (.slice ma S.made.length mc) := (cell_blk s1.out 2).trans rfl
  have sc3 : w1.cell? ⟨w.heap.size + 1, 3, none⟩ = some (.slice va S.valid.length vc) := (cell_blk s1.out 3).trans rfl
  have sl := blk_lt s1.out
  have rc0 : w1.cell? ⟨w.heap.size + 1 + 1, 0, none⟩ = some (.int .i64 5) := (cell_blk r1.out 0).trans rfl
  have rc1 : w1.cell? ⟨w.heap.size + 1 + 1, 1, none⟩ = some (.int .i64 R.port) := (cell_blk r1.out 1).trans rfl
  have rc2 : w1.cell? ⟨w.heap.size + 1 + 1, 2, none⟩ = some (.int .u64 R.addr) := (cell_blk r1.out 2).trans rfl
  have rc3 : w1.cell? ⟨w.heap.size + 1 + 1, 3, none⟩ = some (.slice da R.data.length dc) := (cell_blk r1.out 3).trans rfl
  have rl := blk_lt r1.out
  go_wp2_with fail
  refine (great_any _ C _ (HC.out.below HB1.out)).mono ?_
  rw [HG.out]
  rintro e w2 ⟨rfl, hb⟩
  have q2 : Kp (w2.heap[w.heap.size]? = some (.cells #[.slice pa C.parts.length pc, .slice (some ⟨g, o, none⟩) C.chans.length cc, .int .i64 C.l0, .slice a0 C.w0.length c0, .int .i64 C.l1, .slice a1 C.w1.length c1] 29 (0, 0))) := ⟨blk_below q1.out hb⟩
  have s2 : Kp (w2.heap[w.heap.size + 1]? = some (.cells #[.int .i64 S.part, .bool true, .slice ma S.made.length mc, .slice va S.valid.length vc] 40 (0, 0))) := ⟨blk_below s1.out hb⟩
  have r2 : Kp (w2.heap[w.heap.size + 1 + 1]? = some (.cells #[.int .i64 5, .int .i64 R.port, .int .u64 R.addr, .slice da R.data.length dc] 44 (0, 0))) := ⟨blk_below r1.out hb⟩
  have HB2 : Kp (Below w.heap.size w w2) := ⟨below_call HB1.out hb⟩
  clear qc0 qc1 qc2 qc3 qc4 qc5 ql sc0 sc1 sc2 sc3 sl rc0 rc1 rc2 rc3 rl q1 s1 r1 HB1 hb
  have qc0 : w2.cell? ⟨w.heap.size, 0, none⟩ = some (.slice pa C.parts.length pc) := (cell_blk q2.out 0).trans rfl
  have qc1 : w2.cell? ⟨w.heap.size, 1, none⟩ = some (.slice (some ⟨g, o, none⟩) C.chans.length cc) := (cell_blk q2.out 1).trans rfl
  have qc2 : w2.cell? ⟨w.heap.size, 2, none⟩ = some (.int .i64 C.l0) := (cell_blk q2.out 2).trans rfl
  have qc3 : w2.cell? ⟨w.heap.size, 3, none⟩ = some (.slice a0 C.w0.length c0) := (cell_blk q2.out 3).trans rfl
  have qc4 : w2.cell? ⟨w.heap.size, 4, none⟩ = some (.int .i64 C.l1) := (cell_blk q2.out 4).trans rfl
  have qc5 : w2.cell? ⟨w.heap.size, 5, none⟩ = some (.slice a1 C.w1.length c1) := (cell_blk q2.out 5).trans rfl
  have ql := blk_lt q2.out
  have sc0 : w2.cell? ⟨w.heap.size + 1, 0, none⟩ = some (.int .i64 S.part) := (cell_blk s2.out 0).trans rfl
  have sc1 : w2.cell? ⟨w.heap.size + 1, 1, none⟩ = some (.bool true) := (cell_blk s2.out 1).trans rfl
  have sc2 : w2.cell? ⟨w.heap.size + 1, 2, none⟩ = some (.slice ma S.made.length mc) := (cell_blk s2.out 2).trans rfl
  have sc3 : w2.cell? ⟨w.heap.size + 1, 3, none⟩ = some (.slice va S.valid.length vc) := (cell_blk s2.out 3).trans rfl
  have sl := blk_lt s2.out
  have rc0 : w2.cell? ⟨w.heap.size + 1 + 1, 0, none⟩ = some (.int .i64 5) := (cell_blk r2.out 0).trans rfl
  have rc1 : w2.cell? ⟨w.heap.size + 1 + 1, 1, none⟩ = some (.int .i64 R.port) := (cell_blk r2.out 1).trans rfl
  have rc2 : w2.cell? ⟨w.heap.size + 1 + 1, 2, none⟩ = some (.int .u64 R.addr) := (cell_blk r2.out 2).trans rfl
  have rc3 : w2.cell? ⟨w.heap.size + 1 + 1, 3, none⟩ = some (.slice da R.data.length dc) := (cell_blk r2.out 3).trans rfl
  have rl := blk_lt r2.out
  go_wp2_with fail
  refine (refused_any _ _ _ C S R hsm HM.out HD.out _ (HN.out.below HB2.out) (HC.out.below HB2.out) (HS.out.below HB2.out) (HR.out.below HB2.out)).mono ?_
  rw [HV.out]
  rintro e w3 ⟨rfl, hb⟩
  have q3 : Kp (w3.heap[w.heap.size]? = some (.cells #[.slice pa C.parts.length pc, .slice (some ⟨g, o, none⟩) C.chans.length cc, .int .i64 C.l0, .slice a0 C.w0.length c0, .int .i64 C.l1, .slice a1 C.w1.length c1] 29 (0, 0))) := ⟨blk_below q2.out hb⟩
  have s3 : Kp (w3.heap[w.heap.size + 1]? = some (.cells #[.int .i64 S.part, .bool true, .slice ma S.made.length mc, .slice va S.valid.length vc] 40 (0, 0))) := ⟨blk_below s2.out hb⟩
  have r3 : Kp (w3.heap[w.heap.size + 1 + 1]? = some (.cells #[.int .i64 5, .int .i64 R.port, .int .u64 R.addr, .slice da R.data.length dc] 44 (0, 0))) := ⟨blk_below r2.out hb⟩
  have HB3 : Kp (Below w.heap.size w w3) := ⟨below_call HB2.out hb⟩
  clear qc0 qc1 qc2 qc3 qc4 qc5 ql sc0 sc1 sc2 sc3 sl rc0 rc1 rc2 rc3 rl q2 s2 r2 HB2 hb
  have qc0 : w3.cell? ⟨w.heap.size, 0, none⟩ = some (.slice pa C.parts.length pc) := (cell_blk q3.out 0).trans rfl
  have qc1 : w3.cell? ⟨w.heap.size, 1, none⟩ = some (.slice (some ⟨g, o, none⟩) C.chans.length cc) := (cell_blk q3.out 1).trans rfl
  have qc2 : w3.cell? ⟨w.heap.size, 2, none⟩ = some (.int .i64 C.l0) := (cell_blk q3.out 2).trans rfl
  have qc3 : w3.cell? ⟨w.heap.size, 3, none⟩ = some (.slice a0 C.w0.length c0) := (cell_blk q3.out 3).trans rfl
  have qc4 : w3.cell? ⟨w.heap.size, 4, none⟩ = some (.int .i64 C.l1) := (cell_blk q3.out 4).trans rfl
  have qc5 : w3.cell? ⟨w.heap.size, 5, none⟩ = some (.slice a1 C.w1.length c1) := (cell_blk q3.out 5).trans rfl
  have ql := blk_lt q3.out
  have sc0 : w3.cell? ⟨w.heap.size + 1, 0, none⟩ = some (.int .i64 S.part) := (cell_blk s3.out 0).trans rfl
  have sc1 : w3.cell? ⟨w.heap.size + 1, 1, none⟩ = some (.bool true) := (cell_blk s3.out 1).trans rfl
  have sc2 : w3.cell? ⟨w.heap.size + 1, 2, none⟩ = some (.slice ma S.made.length mc) := (cell_blk s3.out 2).trans rfl
  have sc3 : w3.cell? ⟨w.heap.size + 1, 3, none⟩ = some (.slice va S.valid.length vc) := (cell_blk s3.out 3).trans rfl
  have sl := blk_lt s3.out
  have rc0 : w3.cell? ⟨w.heap.size + 1 + 1, 0, none⟩ = some (.int .i64 5) := (cell_blk r3.out 0).trans rfl
  have rc1 : w3.cell? ⟨w.heap.size + 1 + 1, 1, none⟩ = some (.int .i64 R.port) := (cell_blk r3.out 1).trans rfl
  have rc2 : w3.cell? ⟨w.heap.size + 1 + 1, 2, none⟩ = some (.int .u64 R.addr) := (cell_blk r3.out 2).trans rfl
  have rc3 : w3.cell? ⟨w.heap.size + 1 + 1, 3, none⟩ = some (.slice da R.data.length dc) := (cell_blk r3.out 3).trans rfl
  have rl := blk_lt r3.out
  go_wp2_with fail
  refine (port_any _ C hsm R.port IRP.out _ (HC.out.below HB3.out)).mono ?_
  rw [HPV.out]
  rintro e w4 ⟨rfl, hb⟩
  have q4 : Kp (w4.heap[w.heap.size]? = some (.cells #[.slice pa C.parts.length pc, .slice (some ⟨g, o, none⟩) C.chans.length cc, .int .i64 C.l0, .slice a0 C.w0.length c0, .int .i64 C.l1, .slice a1 C.w1.length c1] 29 (0, 0))) := ⟨blk_below q3.out hb⟩
  have s4 : Kp (w4.heap[w.heap.size + 1]? = some (.cells #[.int .i64 S.part, .bool true, .slice ma S.made.length mc, .slice va S.valid.length vc] 40 (0, 0))) := ⟨blk_below s3.out hb⟩
  have r4 : Kp (w4.heap[w.heap.size + 1 + 1]? = some (.cells #[.int .i64 5, .int .i64 R.port, .int .u64 R.addr, .slice da R.data.length dc] 44 (0, 0))) := ⟨blk_below r3.out hb⟩
  have HB4 : Kp (Below w.heap.size w w4) := ⟨below_call HB3.out hb⟩
  clear qc0 qc1 qc2 qc3 qc4 qc5 ql sc0 sc1 sc2 sc3 sl rc0 rc1 rc2 rc3 rl q3 s3 r3 HB3 hb
  have qc0 : w4.cell? ⟨w.heap.size, 0, none⟩ = some (.slice pa C.parts.length pc) := (cell_blk q4.out 0).trans rfl
  have qc1 : w4.cell? ⟨w.heap.size, 1, none⟩ = some (.slice (some ⟨g, o, none⟩) C.chans.length cc) := (cell_blk q4.out 1).trans rfl
  have qc2 : w4.cell? ⟨w.heap.size, 2, none⟩ = some (.int .i64 C.l0) := (cell_blk q4.out 2).trans rfl
  have qc3 : w4.cell? ⟨w.heap.size, 3, none⟩ = some (.slice a0 C.w0.length c0) := (cell_blk q4.out 3).trans rfl
  have qc4 : w4.cell? ⟨w.heap.size, 4, none⟩ = some (.int .i64 C.l1) := (cell_blk q4.out 4).trans rfl
  have qc5 : w4.cell? ⟨w.heap.size, 5, none⟩ = some (.slice a1 C.w1.length c1) := (cell_blk q4.out 5).trans rfl
  have ql := blk_lt q4.out
  have sc0 : w4.cell? ⟨w.heap.size + 1, 0, none⟩ = some (.int .i64 S.part) := (cell_blk s4.out 0).trans rfl
  have sc1 : w4.cell? ⟨w.heap.size + 1, 1, none⟩ = some (.bool true) := (cell_blk s4.out 1).trans rfl
  have sc2 : w4.cell? ⟨w.heap.size + 1, 2, none⟩ = some (.slice ma S.made.length mc) := (cell_blk s4.out 2).trans rfl
  have sc3 : w4.cell? ⟨w.heap.size + 1, 3, none⟩ = some (.slice va S.valid.length vc) := (cell_blk s4.out 3).trans rfl
  have sl := blk_lt s4.out
  have rc0 : w4.cell? ⟨w.heap.size + 1 + 1, 0, none⟩ = some (.int .i64 5) := (cell_blk r4.out 0).trans rfl
  have rc1 : w4.cell? ⟨w.heap.size + 1 + 1, 1, none⟩ = some (.int .i64 R.port) := (cell_blk r4.out 1).trans rfl
  have rc2 : w4.cell? ⟨w.heap.size + 1 + 1, 2, none⟩ = some (.int .u64 R.addr) := (cell_blk r4.out 2).trans rfl
  have rc3 : w4.cell? ⟨w.heap.size + 1 + 1, 3, none⟩ = some (.slice da R.data.length dc) := (cell_blk r4.out 3).trans rfl
  have rl := blk_lt r4.out
  have e0 : w4.cell? ⟨g, o + k0 * 7, none⟩ = some (.int .i64 x.kind) := (HB4.out.cell (p := ⟨g, o + k0 * 7, none⟩) hg0).trans (HK.out 0 (by omega))
  have e1 : w4.cell? ⟨g, o + k0 * 7 + 1, none⟩ = some (.int .i64 x.frm) := (HB4.out.cell (p := ⟨g, o + k0 * 7 + 1, none⟩) hg0).trans (HK.out 1 (by omega))
  have e2 : w4.cell? ⟨g, o + k0 * 7 + 2, none⟩ = some (.int .i64 x.to) := (HB4.out.cell (p := ⟨g, o + k0 * 7 + 2, none⟩) hg0).trans (HK.out 2 (by omega))
  have e3 : w4.cell? ⟨g, o + k0 * 7 + 3, none⟩ = some (.int .i64 x.words) := (HB4.out.cell (p := ⟨g, o + k0 * 7 + 3, none⟩) hg0).trans (HK.out 3 (by omega))
  have e4 : w4.cell? ⟨g, o + k0 * 7 + 4, none⟩ = some (.int .i64 x.depth) := (HB4.out.cell (p := ⟨g, o + k0 * 7 + 4, none⟩) hg0).trans (HK.out 4 (by omega))
  have e5 : w4.cell? ⟨g, o + k0 * 7 + 5, none⟩ = some (.int .i64 x.period) := (HB4.out.cell (p := ⟨g, o + k0 * 7 + 5, none⟩) hg0).trans (HK.out 5 (by omega))
  have e6 : w4.cell? ⟨g, o + k0 * 7 + 6, none⟩ = some (.int .u32 x.boot) := (HB4.out.cell (p := ⟨g, o + k0 * 7 + 6, none⟩) hg0).trans (HK.out 6 (by omega))
  go_wp2
  go_ret
  exact ⟨rfl, (below_al HB4.out _)⟩

set_option maxRecDepth 100000 in
set_option maxHeartbeats 8000000 in
theorem signFits_4 (cv sv rv : Value) (C : Cfg) (S : Std) (R : Rqt) (hg : C.great = false) (hm : ¬ 60 < (S.made.length : Int)) (hd : ¬ 100 < (R.data.length : Int)) (v : Int) (hv : refV C S R = v) (hv0 : v = 0) (ho : R.op = 4) (hn : S.normal = true) (k0 : Nat) (hk0 : k0 < C.chans.length) (src : Bool) (hpv : portV C R.port = ⟨k0, S.part, src, true⟩) (x : Chn) (hx : C.chans[k0] = x) (hsr : src = false) (hk : (x.kind == 1) = true) (w : World) (hN : NamesAt w) (hc : CfgAt w cv C) (hs : StdAt w sv S) (hr : RqtAt w rv R) : Calls Tryd.prog 5 #[cv, sv, rv] w fun e w' => e = .returned (.bool true) ∧ Below w.heap.size w w' := by
  have HN := Kp.mk hN
  clear hN
  have HG := Kp.mk hg
  have HM : Kp (S.made.length ≤ 100) := ⟨by omega⟩
  have HD : Kp (R.data.length ≤ 100) := ⟨by omega⟩
  have hsm := small_of_great hg
  have hmf : decide (60 < (S.made.length : Int)) = false := decide_eq_false hm
  clear hm
  have hdf : decide (100 < (R.data.length : Int)) = false := decide_eq_false hd
  clear hd
  have HV := Kp.mk hv
  subst hv0
  have HPV := Kp.mk hpv
  clear hpv
  subst hsr
  have hkb : (x.kind == 1) = true := hk
  clear hk
  clear hg hv
  have HC := Kp.mk hc
  have HS := Kp.mk hs
  have HR := Kp.mk hr
  obtain ⟨_, pa, pc, ca, cc, a0, c0, a1, c1, rfl, bp, bc, b0, b1, gp, gc, gw0, gw1⟩ := hc
  obtain ⟨_, ma, mc, va, vc, rfl, bm, bv, gm, gv⟩ := hs
  obtain ⟨ir, da, dc, rfl, bd, gd⟩ := hr
  clear gp gw0 gw1 gm gv gd bp b0 b1
  clear bc bm bv bd
  obtain ⟨g, o, rfl, hg0, hcc⟩ := gc.at (by omega)
  have HK : Kp (∀ j, j < 7 → w.cell? ⟨g, o + k0 * 7 + j, none⟩ = (chanC x)[j]?) := ⟨fun j hj => by
    have h1 := hcc (k0 * 7 + j) (by omega)
    rw [flat_at chanC 7 chanC_len C.chans k0 j hk0 hj, hx] at h1
    rw [Nat.add_assoc]
    exact h1⟩
  have hki : (k0 : Int) < (C.chans.length : Int) := by omega
  have hkn := nat_nn k0
  have IRP := Kp.mk ir.2.1
  clear hcc hx ir gc
  rw [hn] at HS ⊢
  clear hn
  rw [ho] at HR ⊢
  clear ho
  go_enter Tryd.func5, Tryd.ntmps5
  have HB0 : Kp (Below w.heap.size w w) := ⟨Below.refl _ _⟩
  go_wp2_with fail
  refine (wakes10_any _ (HN.out.below (below_al (below_al (below_al HB0.out _) _) _))).mono ?_
  rintro e w1 ⟨rfl, hb⟩
  have q1 : Kp (w1.heap[w.heap.size]? = some (.cells #[.slice pa C.parts.length pc, .slice (some ⟨g, o, none⟩) C.chans.length cc, .int .i64 C.l0, .slice a0 C.w0.length c0, .int .i64 C.l1, .slice a1 C.w1.length c1] 29 (0, 0))) := ⟨blk_below (blk_al (blk_al (blk_new _ _) _) _) hb⟩
  have s1 : Kp (w1.heap[w.heap.size + 1]? = some (.cells #[.int .i64 S.part, .bool true, .slice ma S.made.length mc, .slice va S.valid.length vc] 40 (0, 0))) := ⟨blk_below (blk_al (blk_at (w := (w.alloc (.cells #[.slice pa C.parts.length pc, .slice (some ⟨g, o, none⟩) C.chans.length cc, .int .i64 C.l0, .slice a0 C.w0.length c0, .int .i64 C.l1, .slice a1 C.w1.length c1] 29))) (by simp) _) _) hb⟩
  have r1 : Kp (w1.heap[w.heap.size + 1 + 1]? = some (.cells #[.int .i64 4, .int .i64 R.port, .int .u64 R.addr, .slice da R.data.length dc] 44 (0, 0))) := ⟨blk_below (blk_at (w := ((w.alloc (.cells #[.slice pa C.parts.length pc, .slice (some ⟨g, o, none⟩) C.chans.length cc, .int .i64 C.l0, .slice a0 C.w0.length c0, .int .i64 C.l1, .slice a1 C.w1.length c1] 29)).alloc (.cells #[.int .i64 S.part, .bool true, .slice ma S.made.length mc, .slice va S.valid.length vc] 40))) (by simp) _) hb⟩
  have HB1 : Kp (Below w.heap.size w w1) := ⟨below_call (below_al (below_al (below_al HB0.out _) _) _) hb⟩
  clear HB0 hb
  have qc0 : w1.cell? ⟨w.heap.size, 0, none⟩ = some (.slice pa C.parts.length pc) := (cell_blk q1.out 0).trans rfl
  have qc1 : w1.cell? ⟨w.heap.size, 1, none⟩ = some (.slice (some ⟨g, o, none⟩) C.chans.length cc) := (cell_blk q1.out 1).trans rfl
  have qc2 : w1.cell? ⟨w.heap.size, 2, none⟩ = some (.int .i64 C.l0) := (cell_blk q1.out 2).trans rfl
  have qc3 : w1.cell? ⟨w.heap.size, 3, none⟩ = some (.slice a0 C.w0.length c0) := (cell_blk q1.out 3).trans rfl
  have qc4 : w1.cell? ⟨w.heap.size, 4, none⟩ = some (.int .i64 C.l1) := (cell_blk q1.out 4).trans rfl
  have qc5 : w1.cell? ⟨w.heap.size, 5, none⟩ = some (.slice a1 C.w1.length c1) := (cell_blk q1.out 5).trans rfl
  have ql := blk_lt q1.out
  have sc0 : w1.cell? ⟨w.heap.size + 1, 0, none⟩ = some (.int .i64 S.part) := (cell_blk s1.out 0).trans rfl
  have sc1 : w1.cell? ⟨w.heap.size + 1, 1, none⟩ = some (.bool true) := (cell_blk s1.out 1).trans rfl
  have sc2 : w1.cell? ⟨w.heap.size + 1, 2, none⟩ = some (.slice ma S.made.length mc) := (cell_blk s1.out 2).trans rfl
  have sc3 : w1.cell? ⟨w.heap.size + 1, 3, none⟩ = some (.slice va S.valid.length vc) := (cell_blk s1.out 3).trans rfl
  have sl := blk_lt s1.out
  have rc0 : w1.cell? ⟨w.heap.size + 1 + 1, 0, none⟩ = some (.int .i64 4) := (cell_blk r1.out 0).trans rfl
  have rc1 : w1.cell? ⟨w.heap.size + 1 + 1, 1, none⟩ = some (.int .i64 R.port) := (cell_blk r1.out 1).trans rfl
  have rc2 : w1.cell? ⟨w.heap.size + 1 + 1, 2, none⟩ = some (.int .u64 R.addr) := (cell_blk r1.out 2).trans rfl
  have rc3 : w1.cell? ⟨w.heap.size + 1 + 1, 3, none⟩ = some (.slice da R.data.length dc) := (cell_blk r1.out 3).trans rfl
  have rl := blk_lt r1.out
  go_wp2_with fail
  refine (great_any _ C _ (HC.out.below HB1.out)).mono ?_
  rw [HG.out]
  rintro e w2 ⟨rfl, hb⟩
  have q2 : Kp (w2.heap[w.heap.size]? = some (.cells #[.slice pa C.parts.length pc, .slice (some ⟨g, o, none⟩) C.chans.length cc, .int .i64 C.l0, .slice a0 C.w0.length c0, .int .i64 C.l1, .slice a1 C.w1.length c1] 29 (0, 0))) := ⟨blk_below q1.out hb⟩
  have s2 : Kp (w2.heap[w.heap.size + 1]? = some (.cells #[.int .i64 S.part, .bool true, .slice ma S.made.length mc, .slice va S.valid.length vc] 40 (0, 0))) := ⟨blk_below s1.out hb⟩
  have r2 : Kp (w2.heap[w.heap.size + 1 + 1]? = some (.cells #[.int .i64 4, .int .i64 R.port, .int .u64 R.addr, .slice da R.data.length dc] 44 (0, 0))) := ⟨blk_below r1.out hb⟩
  have HB2 : Kp (Below w.heap.size w w2) := ⟨below_call HB1.out hb⟩
  clear qc0 qc1 qc2 qc3 qc4 qc5 ql sc0 sc1 sc2 sc3 sl rc0 rc1 rc2 rc3 rl q1 s1 r1 HB1 hb
  have qc0 : w2.cell? ⟨w.heap.size, 0, none⟩ = some (.slice pa C.parts.length pc) := (cell_blk q2.out 0).trans rfl
  have qc1 : w2.cell? ⟨w.heap.size, 1, none⟩ = some (.slice (some ⟨g, o, none⟩) C.chans.length cc) := (cell_blk q2.out 1).trans rfl
  have qc2 : w2.cell? ⟨w.heap.size, 2, none⟩ = some (.int .i64 C.l0) := (cell_blk q2.out 2).trans rfl
  have qc3 : w2.cell? ⟨w.heap.size, 3, none⟩ = some (.slice a0 C.w0.length c0) := (cell_blk q2.out 3).trans rfl
  have qc4 : w2.cell? ⟨w.heap.size, 4, none⟩ = some (.int .i64 C.l1) := (cell_blk q2.out 4).trans rfl
  have qc5 : w2.cell? ⟨w.heap.size, 5, none⟩ = some (.slice a1 C.w1.length c1) := (cell_blk q2.out 5).trans rfl
  have ql := blk_lt q2.out
  have sc0 : w2.cell? ⟨w.heap.size + 1, 0, none⟩ = some (.int .i64 S.part) := (cell_blk s2.out 0).trans rfl
  have sc1 : w2.cell? ⟨w.heap.size + 1, 1, none⟩ = some (.bool true) := (cell_blk s2.out 1).trans rfl
  have sc2 : w2.cell? ⟨w.heap.size + 1, 2, none⟩ = some (.slice ma S.made.length mc) := (cell_blk s2.out 2).trans rfl
  have sc3 : w2.cell? ⟨w.heap.size + 1, 3, none⟩ = some (.slice va S.valid.length vc) := (cell_blk s2.out 3).trans rfl
  have sl := blk_lt s2.out
  have rc0 : w2.cell? ⟨w.heap.size + 1 + 1, 0, none⟩ = some (.int .i64 4) := (cell_blk r2.out 0).trans rfl
  have rc1 : w2.cell? ⟨w.heap.size + 1 + 1, 1, none⟩ = some (.int .i64 R.port) := (cell_blk r2.out 1).trans rfl
  have rc2 : w2.cell? ⟨w.heap.size + 1 + 1, 2, none⟩ = some (.int .u64 R.addr) := (cell_blk r2.out 2).trans rfl
  have rc3 : w2.cell? ⟨w.heap.size + 1 + 1, 3, none⟩ = some (.slice da R.data.length dc) := (cell_blk r2.out 3).trans rfl
  have rl := blk_lt r2.out
  go_wp2_with fail
  refine (refused_any _ _ _ C S R hsm HM.out HD.out _ (HN.out.below HB2.out) (HC.out.below HB2.out) (HS.out.below HB2.out) (HR.out.below HB2.out)).mono ?_
  rw [HV.out]
  rintro e w3 ⟨rfl, hb⟩
  have q3 : Kp (w3.heap[w.heap.size]? = some (.cells #[.slice pa C.parts.length pc, .slice (some ⟨g, o, none⟩) C.chans.length cc, .int .i64 C.l0, .slice a0 C.w0.length c0, .int .i64 C.l1, .slice a1 C.w1.length c1] 29 (0, 0))) := ⟨blk_below q2.out hb⟩
  have s3 : Kp (w3.heap[w.heap.size + 1]? = some (.cells #[.int .i64 S.part, .bool true, .slice ma S.made.length mc, .slice va S.valid.length vc] 40 (0, 0))) := ⟨blk_below s2.out hb⟩
  have r3 : Kp (w3.heap[w.heap.size + 1 + 1]? = some (.cells #[.int .i64 4, .int .i64 R.port, .int .u64 R.addr, .slice da R.data.length dc] 44 (0, 0))) := ⟨blk_below r2.out hb⟩
  have HB3 : Kp (Below w.heap.size w w3) := ⟨below_call HB2.out hb⟩
  clear qc0 qc1 qc2 qc3 qc4 qc5 ql sc0 sc1 sc2 sc3 sl rc0 rc1 rc2 rc3 rl q2 s2 r2 HB2 hb
  have qc0 : w3.cell? ⟨w.heap.size, 0, none⟩ = some (.slice pa C.parts.length pc) := (cell_blk q3.out 0).trans rfl
  have qc1 : w3.cell? ⟨w.heap.size, 1, none⟩ = some (.slice (some ⟨g, o, none⟩) C.chans.length cc) := (cell_blk q3.out 1).trans rfl
  have qc2 : w3.cell? ⟨w.heap.size, 2, none⟩ = some (.int .i64 C.l0) := (cell_blk q3.out 2).trans rfl
  have qc3 : w3.cell? ⟨w.heap.size, 3, none⟩ = some (.slice a0 C.w0.length c0) := (cell_blk q3.out 3).trans rfl
  have qc4 : w3.cell? ⟨w.heap.size, 4, none⟩ = some (.int .i64 C.l1) := (cell_blk q3.out 4).trans rfl
  have qc5 : w3.cell? ⟨w.heap.size, 5, none⟩ = some (.slice a1 C.w1.length c1) := (cell_blk q3.out 5).trans rfl
  have ql := blk_lt q3.out
  have sc0 : w3.cell? ⟨w.heap.size + 1, 0, none⟩ = some (.int .i64 S.part) := (cell_blk s3.out 0).trans rfl
  have sc1 : w3.cell? ⟨w.heap.size + 1, 1, none⟩ = some (.bool true) := (cell_blk s3.out 1).trans rfl
  have sc2 : w3.cell? ⟨w.heap.size + 1, 2, none⟩ = some (.slice ma S.made.length mc) := (cell_blk s3.out 2).trans rfl
  have sc3 : w3.cell? ⟨w.heap.size + 1, 3, none⟩ = some (.slice va S.valid.length vc) := (cell_blk s3.out 3).trans rfl
  have sl := blk_lt s3.out
  have rc0 : w3.cell? ⟨w.heap.size + 1 + 1, 0, none⟩ = some (.int .i64 4) := (cell_blk r3.out 0).trans rfl
  have rc1 : w3.cell? ⟨w.heap.size + 1 + 1, 1, none⟩ = some (.int .i64 R.port) := (cell_blk r3.out 1).trans rfl
  have rc2 : w3.cell? ⟨w.heap.size + 1 + 1, 2, none⟩ = some (.int .u64 R.addr) := (cell_blk r3.out 2).trans rfl
  have rc3 : w3.cell? ⟨w.heap.size + 1 + 1, 3, none⟩ = some (.slice da R.data.length dc) := (cell_blk r3.out 3).trans rfl
  have rl := blk_lt r3.out
  go_wp2_with fail
  refine (port_any _ C hsm R.port IRP.out _ (HC.out.below HB3.out)).mono ?_
  rw [HPV.out]
  rintro e w4 ⟨rfl, hb⟩
  have q4 : Kp (w4.heap[w.heap.size]? = some (.cells #[.slice pa C.parts.length pc, .slice (some ⟨g, o, none⟩) C.chans.length cc, .int .i64 C.l0, .slice a0 C.w0.length c0, .int .i64 C.l1, .slice a1 C.w1.length c1] 29 (0, 0))) := ⟨blk_below q3.out hb⟩
  have s4 : Kp (w4.heap[w.heap.size + 1]? = some (.cells #[.int .i64 S.part, .bool true, .slice ma S.made.length mc, .slice va S.valid.length vc] 40 (0, 0))) := ⟨blk_below s3.out hb⟩
  have r4 : Kp (w4.heap[w.heap.size + 1 + 1]? = some (.cells #[.int .i64 4, .int .i64 R.port, .int .u64 R.addr, .slice da R.data.length dc] 44 (0, 0))) := ⟨blk_below r3.out hb⟩
  have HB4 : Kp (Below w.heap.size w w4) := ⟨below_call HB3.out hb⟩
  clear qc0 qc1 qc2 qc3 qc4 qc5 ql sc0 sc1 sc2 sc3 sl rc0 rc1 rc2 rc3 rl q3 s3 r3 HB3 hb
  have qc0 : w4.cell? ⟨w.heap.size, 0, none⟩ = some (.slice pa C.parts.length pc) := (cell_blk q4.out 0).trans rfl
  have qc1 : w4.cell? ⟨w.heap.size, 1, none⟩ = some (.slice (some ⟨g, o, none⟩) C.chans.length cc) := (cell_blk q4.out 1).trans rfl
  have qc2 : w4.cell? ⟨w.heap.size, 2, none⟩ = some (.int .i64 C.l0) := (cell_blk q4.out 2).trans rfl
  have qc3 : w4.cell? ⟨w.heap.size, 3, none⟩ = some (.slice a0 C.w0.length c0) := (cell_blk q4.out 3).trans rfl
  have qc4 : w4.cell? ⟨w.heap.size, 4, none⟩ = some (.int .i64 C.l1) := (cell_blk q4.out 4).trans rfl
  have qc5 : w4.cell? ⟨w.heap.size, 5, none⟩ = some (.slice a1 C.w1.length c1) := (cell_blk q4.out 5).trans rfl
  have ql := blk_lt q4.out
  have sc0 : w4.cell? ⟨w.heap.size + 1, 0, none⟩ = some (.int .i64 S.part) := (cell_blk s4.out 0).trans rfl
  have sc1 : w4.cell? ⟨w.heap.size + 1, 1, none⟩ = some (.bool true) := (cell_blk s4.out 1).trans rfl
  have sc2 : w4.cell? ⟨w.heap.size + 1, 2, none⟩ = some (.slice ma S.made.length mc) := (cell_blk s4.out 2).trans rfl
  have sc3 : w4.cell? ⟨w.heap.size + 1, 3, none⟩ = some (.slice va S.valid.length vc) := (cell_blk s4.out 3).trans rfl
  have sl := blk_lt s4.out
  have rc0 : w4.cell? ⟨w.heap.size + 1 + 1, 0, none⟩ = some (.int .i64 4) := (cell_blk r4.out 0).trans rfl
  have rc1 : w4.cell? ⟨w.heap.size + 1 + 1, 1, none⟩ = some (.int .i64 R.port) := (cell_blk r4.out 1).trans rfl
  have rc2 : w4.cell? ⟨w.heap.size + 1 + 1, 2, none⟩ = some (.int .u64 R.addr) := (cell_blk r4.out 2).trans rfl
  have rc3 : w4.cell? ⟨w.heap.size + 1 + 1, 3, none⟩ = some (.slice da R.data.length dc) := (cell_blk r4.out 3).trans rfl
  have rl := blk_lt r4.out
  have e0 : w4.cell? ⟨g, o + k0 * 7, none⟩ = some (.int .i64 x.kind) := (HB4.out.cell (p := ⟨g, o + k0 * 7, none⟩) hg0).trans (HK.out 0 (by omega))
  have e1 : w4.cell? ⟨g, o + k0 * 7 + 1, none⟩ = some (.int .i64 x.frm) := (HB4.out.cell (p := ⟨g, o + k0 * 7 + 1, none⟩) hg0).trans (HK.out 1 (by omega))
  have e2 : w4.cell? ⟨g, o + k0 * 7 + 2, none⟩ = some (.int .i64 x.to) := (HB4.out.cell (p := ⟨g, o + k0 * 7 + 2, none⟩) hg0).trans (HK.out 2 (by omega))
  have e3 : w4.cell? ⟨g, o + k0 * 7 + 3, none⟩ = some (.int .i64 x.words) := (HB4.out.cell (p := ⟨g, o + k0 * 7 + 3, none⟩) hg0).trans (HK.out 3 (by omega))
  have e4 : w4.cell? ⟨g, o + k0 * 7 + 4, none⟩ = some (.int .i64 x.depth) := (HB4.out.cell (p := ⟨g, o + k0 * 7 + 4, none⟩) hg0).trans (HK.out 4 (by omega))
  have e5 : w4.cell? ⟨g, o + k0 * 7 + 5, none⟩ = some (.int .i64 x.period) := (HB4.out.cell (p := ⟨g, o + k0 * 7 + 5, none⟩) hg0).trans (HK.out 5 (by omega))
  have e6 : w4.cell? ⟨g, o + k0 * 7 + 6, none⟩ = some (.int .u32 x.boot) := (HB4.out.cell (p := ⟨g, o + k0 * 7 + 6, none⟩) hg0).trans (HK.out 6 (by omega))
  go_wp2
  go_ret
  exact ⟨rfl, (below_al HB4.out _)⟩

set_option maxRecDepth 100000 in
set_option maxHeartbeats 8000000 in
theorem signFits_6 (cv sv rv : Value) (C : Cfg) (S : Std) (R : Rqt) (hg : C.great = false) (hm : ¬ 60 < (S.made.length : Int)) (hd : ¬ 100 < (R.data.length : Int)) (v : Int) (hv : refV C S R = v) (hv0 : v = 0) (ho : R.op = 6) (hn : S.normal = true) (k0 : Nat) (hk0 : k0 < C.chans.length) (src : Bool) (hpv : portV C R.port = ⟨k0, S.part, src, true⟩) (x : Chn) (hx : C.chans[k0] = x) (hsr : src = false) (hk : (x.kind == 1) = false) (w : World) (hN : NamesAt w) (hc : CfgAt w cv C) (hs : StdAt w sv S) (hr : RqtAt w rv R) : Calls Tryd.prog 5 #[cv, sv, rv] w fun e w' => e = .returned (.bool true) ∧ Below w.heap.size w w' := by
  have HN := Kp.mk hN
  clear hN
  have HG := Kp.mk hg
  have HM : Kp (S.made.length ≤ 100) := ⟨by omega⟩
  have HD : Kp (R.data.length ≤ 100) := ⟨by omega⟩
  have hsm := small_of_great hg
  have hmf : decide (60 < (S.made.length : Int)) = false := decide_eq_false hm
  clear hm
  have hdf : decide (100 < (R.data.length : Int)) = false := decide_eq_false hd
  clear hd
  have HV := Kp.mk hv
  subst hv0
  have HPV := Kp.mk hpv
  clear hpv
  subst hsr
  have hkb : (x.kind == 1) = false := hk
  clear hk
  clear hg hv
  have HC := Kp.mk hc
  have HS := Kp.mk hs
  have HR := Kp.mk hr
  obtain ⟨_, pa, pc, ca, cc, a0, c0, a1, c1, rfl, bp, bc, b0, b1, gp, gc, gw0, gw1⟩ := hc
  obtain ⟨_, ma, mc, va, vc, rfl, bm, bv, gm, gv⟩ := hs
  obtain ⟨ir, da, dc, rfl, bd, gd⟩ := hr
  clear gp gw0 gw1 gm gv gd bp b0 b1
  clear bc bm bv bd
  obtain ⟨g, o, rfl, hg0, hcc⟩ := gc.at (by omega)
  have HK : Kp (∀ j, j < 7 → w.cell? ⟨g, o + k0 * 7 + j, none⟩ = (chanC x)[j]?) := ⟨fun j hj => by
    have h1 := hcc (k0 * 7 + j) (by omega)
    rw [flat_at chanC 7 chanC_len C.chans k0 j hk0 hj, hx] at h1
    rw [Nat.add_assoc]
    exact h1⟩
  have hki : (k0 : Int) < (C.chans.length : Int) := by omega
  have hkn := nat_nn k0
  have IRP := Kp.mk ir.2.1
  clear hcc hx ir gc
  rw [hn] at HS ⊢
  clear hn
  rw [ho] at HR ⊢
  clear ho
  go_enter Tryd.func5, Tryd.ntmps5
  have HB0 : Kp (Below w.heap.size w w) := ⟨Below.refl _ _⟩
  go_wp2_with fail
  refine (wakes10_any _ (HN.out.below (below_al (below_al (below_al HB0.out _) _) _))).mono ?_
  rintro e w1 ⟨rfl, hb⟩
  have q1 : Kp (w1.heap[w.heap.size]? = some (.cells #[.slice pa C.parts.length pc, .slice (some ⟨g, o, none⟩) C.chans.length cc, .int .i64 C.l0, .slice a0 C.w0.length c0, .int .i64 C.l1, .slice a1 C.w1.length c1] 29 (0, 0))) := ⟨blk_below (blk_al (blk_al (blk_new _ _) _) _) hb⟩
  have s1 : Kp (w1.heap[w.heap.size + 1]? = some (.cells #[.int .i64 S.part, .bool true, .slice ma S.made.length mc, .slice va S.valid.length vc] 40 (0, 0))) := ⟨blk_below (blk_al (blk_at (w := (w.alloc (.cells #[.slice pa C.parts.length pc, .slice (some ⟨g, o, none⟩) C.chans.length cc, .int .i64 C.l0, .slice a0 C.w0.length c0, .int .i64 C.l1, .slice a1 C.w1.length c1] 29))) (by simp) _) _) hb⟩
  have r1 : Kp (w1.heap[w.heap.size + 1 + 1]? = some (.cells #[.int .i64 6, .int .i64 R.port, .int .u64 R.addr, .slice da R.data.length dc] 44 (0, 0))) := ⟨blk_below (blk_at (w := ((w.alloc (.cells #[.slice pa C.parts.length pc, .slice (some ⟨g, o, none⟩) C.chans.length cc, .int .i64 C.l0, .slice a0 C.w0.length c0, .int .i64 C.l1, .slice a1 C.w1.length c1] 29)).alloc (.cells #[.int .i64 S.part, .bool true, .slice ma S.made.length mc, .slice va S.valid.length vc] 40))) (by simp) _) hb⟩
  have HB1 : Kp (Below w.heap.size w w1) := ⟨below_call (below_al (below_al (below_al HB0.out _) _) _) hb⟩
  clear HB0 hb
  have qc0 : w1.cell? ⟨w.heap.size, 0, none⟩ = some (.slice pa C.parts.length pc) := (cell_blk q1.out 0).trans rfl
  have qc1 : w1.cell? ⟨w.heap.size, 1, none⟩ = some (.slice (some ⟨g, o, none⟩) C.chans.length cc) := (cell_blk q1.out 1).trans rfl
  have qc2 : w1.cell? ⟨w.heap.size, 2, none⟩ = some (.int .i64 C.l0) := (cell_blk q1.out 2).trans rfl
  have qc3 : w1.cell? ⟨w.heap.size, 3, none⟩ = some (.slice a0 C.w0.length c0) := (cell_blk q1.out 3).trans rfl
  have qc4 : w1.cell? ⟨w.heap.size, 4, none⟩ = some (.int .i64 C.l1) := (cell_blk q1.out 4).trans rfl
  have qc5 : w1.cell? ⟨w.heap.size, 5, none⟩ = some (.slice a1 C.w1.length c1) := (cell_blk q1.out 5).trans rfl
  have ql := blk_lt q1.out
  have sc0 : w1.cell? ⟨w.heap.size + 1, 0, none⟩ = some (.int .i64 S.part) := (cell_blk s1.out 0).trans rfl
  have sc1 : w1.cell? ⟨w.heap.size + 1, 1, none⟩ = some (.bool true) := (cell_blk s1.out 1).trans rfl
  have sc2 : w1.cell? ⟨w.heap.size + 1, 2, none⟩ = some (.slice ma S.made.length mc) := (cell_blk s1.out 2).trans rfl
  have sc3 : w1.cell? ⟨w.heap.size + 1, 3, none⟩ = some (.slice va S.valid.length vc) := (cell_blk s1.out 3).trans rfl
  have sl := blk_lt s1.out
  have rc0 : w1.cell? ⟨w.heap.size + 1 + 1, 0, none⟩ = some (.int .i64 6) := (cell_blk r1.out 0).trans rfl
  have rc1 : w1.cell? ⟨w.heap.size + 1 + 1, 1, none⟩ = some (.int .i64 R.port) := (cell_blk r1.out 1).trans rfl
  have rc2 : w1.cell? ⟨w.heap.size + 1 + 1, 2, none⟩ = some (.int .u64 R.addr) := (cell_blk r1.out 2).trans rfl
  have rc3 : w1.cell? ⟨w.heap.size + 1 + 1, 3, none⟩ = some (.slice da R.data.length dc) := (cell_blk r1.out 3).trans rfl
  have rl := blk_lt r1.out
  go_wp2_with fail
  refine (great_any _ C _ (HC.out.below HB1.out)).mono ?_
  rw [HG.out]
  rintro e w2 ⟨rfl, hb⟩
  have q2 : Kp (w2.heap[w.heap.size]? = some (.cells #[.slice pa C.parts.length pc, .slice (some ⟨g, o, none⟩) C.chans.length cc, .int .i64 C.l0, .slice a0 C.w0.length c0, .int .i64 C.l1, .slice a1 C.w1.length c1] 29 (0, 0))) := ⟨blk_below q1.out hb⟩
  have s2 : Kp (w2.heap[w.heap.size + 1]? = some (.cells #[.int .i64 S.part, .bool true, .slice ma S.made.length mc, .slice va S.valid.length vc] 40 (0, 0))) := ⟨blk_below s1.out hb⟩
  have r2 : Kp (w2.heap[w.heap.size + 1 + 1]? = some (.cells #[.int .i64 6, .int .i64 R.port, .int .u64 R.addr, .slice da R.data.length dc] 44 (0, 0))) := ⟨blk_below r1.out hb⟩
  have HB2 : Kp (Below w.heap.size w w2) := ⟨below_call HB1.out hb⟩
  clear qc0 qc1 qc2 qc3 qc4 qc5 ql sc0 sc1 sc2 sc3 sl rc0 rc1 rc2 rc3 rl q1 s1 r1 HB1 hb
  have qc0 : w2.cell? ⟨w.heap.size, 0, none⟩ = some (.slice pa C.parts.length pc) := (cell_blk q2.out 0).trans rfl
  have qc1 : w2.cell? ⟨w.heap.size, 1, none⟩ = some (.slice (some ⟨g, o, none⟩) C.chans.length cc) := (cell_blk q2.out 1).trans rfl
  have qc2 : w2.cell? ⟨w.heap.size, 2, none⟩ = some (.int .i64 C.l0) := (cell_blk q2.out 2).trans rfl
  have qc3 : w2.cell? ⟨w.heap.size, 3, none⟩ = some (.slice a0 C.w0.length c0) := (cell_blk q2.out 3).trans rfl
  have qc4 : w2.cell? ⟨w.heap.size, 4, none⟩ = some (.int .i64 C.l1) := (cell_blk q2.out 4).trans rfl
  have qc5 : w2.cell? ⟨w.heap.size, 5, none⟩ = some (.slice a1 C.w1.length c1) := (cell_blk q2.out 5).trans rfl
  have ql := blk_lt q2.out
  have sc0 : w2.cell? ⟨w.heap.size + 1, 0, none⟩ = some (.int .i64 S.part) := (cell_blk s2.out 0).trans rfl
  have sc1 : w2.cell? ⟨w.heap.size + 1, 1, none⟩ = some (.bool true) := (cell_blk s2.out 1).trans rfl
  have sc2 : w2.cell? ⟨w.heap.size + 1, 2, none⟩ = some (.slice ma S.made.length mc) := (cell_blk s2.out 2).trans rfl
  have sc3 : w2.cell? ⟨w.heap.size + 1, 3, none⟩ = some (.slice va S.valid.length vc) := (cell_blk s2.out 3).trans rfl
  have sl := blk_lt s2.out
  have rc0 : w2.cell? ⟨w.heap.size + 1 + 1, 0, none⟩ = some (.int .i64 6) := (cell_blk r2.out 0).trans rfl
  have rc1 : w2.cell? ⟨w.heap.size + 1 + 1, 1, none⟩ = some (.int .i64 R.port) := (cell_blk r2.out 1).trans rfl
  have rc2 : w2.cell? ⟨w.heap.size + 1 + 1, 2, none⟩ = some (.int .u64 R.addr) := (cell_blk r2.out 2).trans rfl
  have rc3 : w2.cell? ⟨w.heap.size + 1 + 1, 3, none⟩ = some (.slice da R.data.length dc) := (cell_blk r2.out 3).trans rfl
  have rl := blk_lt r2.out
  go_wp2_with fail
  refine (refused_any _ _ _ C S R hsm HM.out HD.out _ (HN.out.below HB2.out) (HC.out.below HB2.out) (HS.out.below HB2.out) (HR.out.below HB2.out)).mono ?_
  rw [HV.out]
  rintro e w3 ⟨rfl, hb⟩
  have q3 : Kp (w3.heap[w.heap.size]? = some (.cells #[.slice pa C.parts.length pc, .slice (some ⟨g, o, none⟩) C.chans.length cc, .int .i64 C.l0, .slice a0 C.w0.length c0, .int .i64 C.l1, .slice a1 C.w1.length c1] 29 (0, 0))) := ⟨blk_below q2.out hb⟩
  have s3 : Kp (w3.heap[w.heap.size + 1]? = some (.cells #[.int .i64 S.part, .bool true, .slice ma S.made.length mc, .slice va S.valid.length vc] 40 (0, 0))) := ⟨blk_below s2.out hb⟩
  have r3 : Kp (w3.heap[w.heap.size + 1 + 1]? = some (.cells #[.int .i64 6, .int .i64 R.port, .int .u64 R.addr, .slice da R.data.length dc] 44 (0, 0))) := ⟨blk_below r2.out hb⟩
  have HB3 : Kp (Below w.heap.size w w3) := ⟨below_call HB2.out hb⟩
  clear qc0 qc1 qc2 qc3 qc4 qc5 ql sc0 sc1 sc2 sc3 sl rc0 rc1 rc2 rc3 rl q2 s2 r2 HB2 hb
  have qc0 : w3.cell? ⟨w.heap.size, 0, none⟩ = some (.slice pa C.parts.length pc) := (cell_blk q3.out 0).trans rfl
  have qc1 : w3.cell? ⟨w.heap.size, 1, none⟩ = some (.slice (some ⟨g, o, none⟩) C.chans.length cc) := (cell_blk q3.out 1).trans rfl
  have qc2 : w3.cell? ⟨w.heap.size, 2, none⟩ = some (.int .i64 C.l0) := (cell_blk q3.out 2).trans rfl
  have qc3 : w3.cell? ⟨w.heap.size, 3, none⟩ = some (.slice a0 C.w0.length c0) := (cell_blk q3.out 3).trans rfl
  have qc4 : w3.cell? ⟨w.heap.size, 4, none⟩ = some (.int .i64 C.l1) := (cell_blk q3.out 4).trans rfl
  have qc5 : w3.cell? ⟨w.heap.size, 5, none⟩ = some (.slice a1 C.w1.length c1) := (cell_blk q3.out 5).trans rfl
  have ql := blk_lt q3.out
  have sc0 : w3.cell? ⟨w.heap.size + 1, 0, none⟩ = some (.int .i64 S.part) := (cell_blk s3.out 0).trans rfl
  have sc1 : w3.cell? ⟨w.heap.size + 1, 1, none⟩ = some (.bool true) := (cell_blk s3.out 1).trans rfl
  have sc2 : w3.cell? ⟨w.heap.size + 1, 2, none⟩ = some (.slice ma S.made.length mc) := (cell_blk s3.out 2).trans rfl
  have sc3 : w3.cell? ⟨w.heap.size + 1, 3, none⟩ = some (.slice va S.valid.length vc) := (cell_blk s3.out 3).trans rfl
  have sl := blk_lt s3.out
  have rc0 : w3.cell? ⟨w.heap.size + 1 + 1, 0, none⟩ = some (.int .i64 6) := (cell_blk r3.out 0).trans rfl
  have rc1 : w3.cell? ⟨w.heap.size + 1 + 1, 1, none⟩ = some (.int .i64 R.port) := (cell_blk r3.out 1).trans rfl
  have rc2 : w3.cell? ⟨w.heap.size + 1 + 1, 2, none⟩ = some (.int .u64 R.addr) := (cell_blk r3.out 2).trans rfl
  have rc3 : w3.cell? ⟨w.heap.size + 1 + 1, 3, none⟩ = some (.slice da R.data.length dc) := (cell_blk r3.out 3).trans rfl
  have rl := blk_lt r3.out
  go_wp2_with fail
  refine (port_any _ C hsm R.port IRP.out _ (HC.out.below HB3.out)).mono ?_
  rw [HPV.out]
  rintro e w4 ⟨rfl, hb⟩
  have q4 : Kp (w4.heap[w.heap.size]? = some (.cells #[.slice pa C.parts.length pc, .slice (some ⟨g, o, none⟩) C.chans.length cc, .int .i64 C.l0, .slice a0 C.w0.length c0, .int .i64 C.l1, .slice a1 C.w1.length c1] 29 (0, 0))) := ⟨blk_below q3.out hb⟩
  have s4 : Kp (w4.heap[w.heap.size + 1]? = some (.cells #[.int .i64 S.part, .bool true, .slice ma S.made.length mc, .slice va S.valid.length vc] 40 (0, 0))) := ⟨blk_below s3.out hb⟩
  have r4 : Kp (w4.heap[w.heap.size + 1 + 1]? = some (.cells #[.int .i64 6, .int .i64 R.port, .int .u64 R.addr, .slice da R.data.length dc] 44 (0, 0))) := ⟨blk_below r3.out hb⟩
  have HB4 : Kp (Below w.heap.size w w4) := ⟨below_call HB3.out hb⟩
  clear qc0 qc1 qc2 qc3 qc4 qc5 ql sc0 sc1 sc2 sc3 sl rc0 rc1 rc2 rc3 rl q3 s3 r3 HB3 hb
  have qc0 : w4.cell? ⟨w.heap.size, 0, none⟩ = some (.slice pa C.parts.length pc) := (cell_blk q4.out 0).trans rfl
  have qc1 : w4.cell? ⟨w.heap.size, 1, none⟩ = some (.slice (some ⟨g, o, none⟩) C.chans.length cc) := (cell_blk q4.out 1).trans rfl
  have qc2 : w4.cell? ⟨w.heap.size, 2, none⟩ = some (.int .i64 C.l0) := (cell_blk q4.out 2).trans rfl
  have qc3 : w4.cell? ⟨w.heap.size, 3, none⟩ = some (.slice a0 C.w0.length c0) := (cell_blk q4.out 3).trans rfl
  have qc4 : w4.cell? ⟨w.heap.size, 4, none⟩ = some (.int .i64 C.l1) := (cell_blk q4.out 4).trans rfl
  have qc5 : w4.cell? ⟨w.heap.size, 5, none⟩ = some (.slice a1 C.w1.length c1) := (cell_blk q4.out 5).trans rfl
  have ql := blk_lt q4.out
  have sc0 : w4.cell? ⟨w.heap.size + 1, 0, none⟩ = some (.int .i64 S.part) := (cell_blk s4.out 0).trans rfl
  have sc1 : w4.cell? ⟨w.heap.size + 1, 1, none⟩ = some (.bool true) := (cell_blk s4.out 1).trans rfl
  have sc2 : w4.cell? ⟨w.heap.size + 1, 2, none⟩ = some (.slice ma S.made.length mc) := (cell_blk s4.out 2).trans rfl
  have sc3 : w4.cell? ⟨w.heap.size + 1, 3, none⟩ = some (.slice va S.valid.length vc) := (cell_blk s4.out 3).trans rfl
  have sl := blk_lt s4.out
  have rc0 : w4.cell? ⟨w.heap.size + 1 + 1, 0, none⟩ = some (.int .i64 6) := (cell_blk r4.out 0).trans rfl
  have rc1 : w4.cell? ⟨w.heap.size + 1 + 1, 1, none⟩ = some (.int .i64 R.port) := (cell_blk r4.out 1).trans rfl
  have rc2 : w4.cell? ⟨w.heap.size + 1 + 1, 2, none⟩ = some (.int .u64 R.addr) := (cell_blk r4.out 2).trans rfl
  have rc3 : w4.cell? ⟨w.heap.size + 1 + 1, 3, none⟩ = some (.slice da R.data.length dc) := (cell_blk r4.out 3).trans rfl
  have rl := blk_lt r4.out
  have e0 : w4.cell? ⟨g, o + k0 * 7, none⟩ = some (.int .i64 x.kind) := (HB4.out.cell (p := ⟨g, o + k0 * 7, none⟩) hg0).trans (HK.out 0 (by omega))
  have e1 : w4.cell? ⟨g, o + k0 * 7 + 1, none⟩ = some (.int .i64 x.frm) := (HB4.out.cell (p := ⟨g, o + k0 * 7 + 1, none⟩) hg0).trans (HK.out 1 (by omega))
  have e2 : w4.cell? ⟨g, o + k0 * 7 + 2, none⟩ = some (.int .i64 x.to) := (HB4.out.cell (p := ⟨g, o + k0 * 7 + 2, none⟩) hg0).trans (HK.out 2 (by omega))
  have e3 : w4.cell? ⟨g, o + k0 * 7 + 3, none⟩ = some (.int .i64 x.words) := (HB4.out.cell (p := ⟨g, o + k0 * 7 + 3, none⟩) hg0).trans (HK.out 3 (by omega))
  have e4 : w4.cell? ⟨g, o + k0 * 7 + 4, none⟩ = some (.int .i64 x.depth) := (HB4.out.cell (p := ⟨g, o + k0 * 7 + 4, none⟩) hg0).trans (HK.out 4 (by omega))
  have e5 : w4.cell? ⟨g, o + k0 * 7 + 5, none⟩ = some (.int .i64 x.period) := (HB4.out.cell (p := ⟨g, o + k0 * 7 + 5, none⟩) hg0).trans (HK.out 5 (by omega))
  have e6 : w4.cell? ⟨g, o + k0 * 7 + 6, none⟩ = some (.int .u32 x.boot) := (HB4.out.cell (p := ⟨g, o + k0 * 7 + 6, none⟩) hg0).trans (HK.out 6 (by omega))
  go_wp2
  go_ret
  exact ⟨rfl, (below_al HB4.out _)⟩

theorem signFits_any' (v0 v1 v2 : Value) (w : World) (hN : NamesAt w) (h0 : RdV w cfgSh v0) (h1 : RdV w stdSh v1) (h2 : RdV w rqtSh v2) : Calls Tryd.prog 5 #[v0, v1, v2] w fun e w' => e = .returned (.bool true) ∧ Below w.heap.size w w' := by
  obtain ⟨C, hC⟩ := cfgAt_of h0
  obtain ⟨S, hS⟩ := stdAt_of h1
  obtain ⟨R, hR⟩ := rqtAt_of h2
  cases hg : C.great with
  | true => exact signFits_great v0 v1 v2 C S R hg w hN hC hS hR
  | false =>
    by_cases hm : 60 < (S.made.length : Int)
    · exact signFits_made v0 v1 v2 C S R hg hm w hN hC hS hR
    · by_cases hd : 100 < (R.data.length : Int)
      · exact signFits_data v0 v1 v2 C S R hg hm hd w hN hC hS hR
      · by_cases hv0 : refV C S R = 0
        · obtain ⟨⟨ha, hp0, hp1⟩, h19, hdoc⟩ := fit_in C S R hv0
          have h9 : R.op = 1 ∨ R.op = 2 ∨ R.op = 3 ∨ R.op = 4 ∨ R.op = 5 ∨ R.op = 6 ∨ R.op = 7 ∨ R.op = 8 ∨ R.op = 9 := by omega
          rcases h9 with ho | ho | ho | ho | ho | ho | ho | ho | ho
          · have hf := fit1 _ ho hdoc
            rw [Bool.and_eq_true_iff, Bool.not_eq_true'] at hf
            obtain ⟨k0, hk0, src, x, hpv, hx, _⟩ := own_is C S R hf.1
            exact signFits_1 v0 v1 v2 C S R hg hm hd _ rfl hv0 ho hf.2 k0 hk0 src hpv x hx w hN hC hS hR
          · have hf := fit2 _ ho hdoc
            rw [Bool.not_eq_true'] at hf
            exact signFits_2 v0 v1 v2 C S R hg hm hd _ rfl hv0 ho hf w hN hC hS hR
          · have hf := fit3 _ ho hdoc
            simp only [Bool.and_eq_true_iff, Bool.not_eq_true'] at hf
            obtain ⟨⟨⟨⟨⟨f1, f2⟩, f3⟩, f4⟩, f5⟩, f6⟩ := hf
            obtain ⟨k0, hk0, src, x, hpv, hx, hs, hk1, hk2, hlw⟩ := own_is C S R f1
            have f5' : (R.data.length == 0) = false := f5
            rw [beq_eq_false_iff_ne] at f5'
            exact signFits_3 v0 v1 v2 C S R hg hm hd _ rfl hv0 ho f2 k0 hk0 src hpv x hx (hs.symm.trans f4) (hk1.symm.trans f3) (by omega) (by have h := hlw.symm.trans f6; rw [decide_eq_false_iff_not] at h; omega) w hN hC hS hR
          · have hf := fit4 _ ho hdoc
            simp only [Bool.and_eq_true_iff, Bool.not_eq_true'] at hf
            obtain ⟨⟨⟨f1, f2⟩, f3⟩, f4⟩ := hf
            obtain ⟨k0, hk0, src, x, hpv, hx, hs, hk1, hk2, hlw⟩ := own_is C S R f1
            exact signFits_4 v0 v1 v2 C S R hg hm hd _ rfl hv0 ho f2 k0 hk0 src hpv x hx (hs.symm.trans f4) (hk1.symm.trans f3) w hN hC hS hR
          · have hf := fit5 _ ho hdoc
            simp only [Bool.and_eq_true_iff, Bool.not_eq_true'] at hf
            obtain ⟨⟨⟨⟨⟨f1, f2⟩, f3⟩, f4⟩, f5⟩, f6⟩ := hf
            obtain ⟨k0, hk0, src, x, hpv, hx, hs, hk1, hk2, hlw⟩ := own_is C S R f1
            have f5' : (R.data.length == 0) = false := f5
            rw [beq_eq_false_iff_ne] at f5'
            have hk := hk2.symm.trans f3
            rw [beq_iff_eq] at hk
            exact signFits_5 v0 v1 v2 C S R hg hm hd _ rfl hv0 ho f2 k0 hk0 src hpv x hx (hs.symm.trans f4) (by rw [beq_eq_false_iff_ne]; omega) (by omega) (by have h := hlw.symm.trans f6; rw [decide_eq_false_iff_not] at h; omega) w hN hC hS hR
          · have hf := fit6 _ ho hdoc
            simp only [Bool.and_eq_true_iff, Bool.not_eq_true'] at hf
            obtain ⟨⟨⟨f1, f2⟩, f3⟩, f4⟩ := hf
            obtain ⟨k0, hk0, src, x, hpv, hx, hs, hk1, hk2, hlw⟩ := own_is C S R f1
            have hk := hk2.symm.trans f3
            rw [beq_iff_eq] at hk
            exact signFits_6 v0 v1 v2 C S R hg hm hd _ rfl hv0 ho f2 k0 hk0 src hpv x hx (hs.symm.trans f4) (by rw [beq_eq_false_iff_ne]; omega) w hN hC hS hR
          · have hf := fit7 _ ho hdoc
            rw [Bool.and_eq_true_iff] at hf
            obtain ⟨k0, hk0, src, x, hpv, hx, _⟩ := own_is C S R hf.1
            exact signFits_7 v0 v1 v2 C S R hg hm hd _ rfl hv0 ho hf.2 k0 hk0 src hpv x hx w hN hC hS hR
          · exact signFits_8 v0 v1 v2 C S R hg hm hd _ rfl hv0 ho (fit8 _ ho hdoc) ha hp0 hp1 w hN hC hS hR
          · exact signFits_9 v0 v1 v2 C S R hg hm hd _ rfl hv0 ho (fit9 _ ho hdoc) ha hp0 hp1 w hN hC hS hR
        · exact signFits_no v0 v1 v2 C S R hg hm hd _ rfl hv0 w hN hC hS hR
end
section
open Go.RowKit
set_option linter.unusedSimpArgs false
set_option linter.unusedVariables false
open Go.ChangeShapes Go.WideShapes Go.ChangeAt
theorem tabName : Tryd.prog.globalNamed "porthole/sign.names" = some 0 := by kernel_rfl
theorem tabType : (Tryd.prog.globals[0]?).map (·.type) = some 89 := by kernel_rfl
theorem door_met (os : Os) (args : Array Value) : laidMetH Tryd.prog [("porthole/sign.names", Rows.laid_porthole_sign_names)] ((World.doorLaid Tryd.prog 400 os).forCall (fun _ _ => 0) ⟨#[], args, []⟩).memory :=
  laidMetH_of_parts3 (fuel := 8) (laidMet_of_run' 8 (by kernel_rfl) (by kernel_rfl)) (by kernel_rfl) (by kernel_rfl)
theorem laid_list : (Rows.laid_porthole_sign_names : DataW Unit) = .agg (nameL.map fun s => .lit (.string s.data.toList)) := rfl
theorem of_laid {W : World} (h : laidMetH Tryd.prog [("porthole/sign.names", Rows.laid_porthole_sign_names)] W) : NamesAt W ∧ 0 < W.heap.size := by
  rw [MakeChecks.laidMetH_plain _ _ _ (by kernel_rfl)] at h
  obtain ⟨ps, ⟨g0, t0, cs0, f0, p0, q0, hg0, ht0, hv0, hd0, _, _⟩, _, _⟩ := h
  obtain rfl := Option.some.inj (tabName.symm.trans hg0)
  obtain rfl := Option.some.inj (tabType.symm.trans ht0)
  obtain ⟨xs, m, rfl, hx, hlen, hn, hel⟩ := DataW.trod_array Tryd.underlying89 hd0
  simp only [Prod.mk.injEq] at hx
  have hx1 := hx.1
  rw [laid_list] at hx1
  simp only [DataW.agg.injEq] at hx1
  have c5 : Tryd.prog.cellsOf 9 = 1 := by kernel_rfl
  have hT : NamesAt W := fun j hj => by
    have hjl : j < nameL.length := hj
    have h1 := hel j hj
    rw [c5, Nat.mul_one, List.getElem?_eq_getElem (by omega)] at h1
    obtain ⟨k, e1, e2, _⟩ := DataW.trod_string Tryd.underlying9 h1
    have h2 : (xs.map (·.1))[j]? = some (.lit (.string k.data.toList)) := by rw [List.getElem?_map, List.getElem?_eq_getElem (by omega), Option.map_some, e2]
    rw [← hx1, List.getElem?_map, List.getElem?_eq_getElem hjl, Option.map_some] at h2
    have hk : nameL[j] = k := by
      simp only [Option.some.injEq, DataW.lit.injEq, Lit.string.injEq] at h2
      exact ByteArray.ext (Array.toList_inj.1 h2)
    rw [World.var?_cell hg0 hv0 j]
    have h3 : (cs0.toList.drop j)[0]? = some (.string k) := by
      have h4 : ((cs0.toList.drop j).take 1)[0]? = some (.string k) := by rw [e1]; rfl
      rwa [List.getElem?_take_of_lt (by omega)] at h4
    rw [List.getElem?_drop, Nat.add_zero, Array.getElem?_toList] at h3
    rw [h3, ← hk, List.getD_eq_getElem?_getD, List.getElem?_eq_getElem hjl]
    rfl
  exact ⟨hT, hT.lt⟩
end
open Go.ChangeShapes Go.WideShapes Go.ChangeAt Go.RowKit
set_option linter.unusedVariables false
namespace rowSignFits
set_option maxRecDepth 100000 in
theorem lifted (os : Os) (started : os.Started) (H : Type) (enc : TypeId × Value → H) :
    ReturnsInHanded {} Tryd.checked os 5 .any (fun w args => (Rows.signFitsSpec.pre enc Tryd.prog Tryd.f5 [] false w args ∧ laidMetH Tryd.prog [("porthole/sign.names", Rows.laid_porthole_sign_names)] w) ∧ sizedMet enc Tryd.prog Tryd.f5 (OpenSpec.ofChange Rows.signFitsSpec) false w args) (Rows.signFitsSpec.post enc Tryd.prog Tryd.f5 false true false false) := by
  refine returnsInHanded_of_change_and (C := Tryd.checked) (X := fun w _ => laidMetH Tryd.prog [("porthole/sign.names", Rows.laid_porthole_sign_names)] w) (fun _ _ _ hh h => h.of_heap hh) ownKnobs started (by kernel_rfl) Tryd.func5
    (ChangeSpec.witness_shaped (enc := enc) (C := Tryd.checked) (os := os) (X := fun w _ => laidMetH Tryd.prog [("porthole/sign.names", Rows.laid_porthole_sign_names)] w) false (World.doorLaid Tryd.prog 400 os) #[.agg #[.slice none 0 0, .slice none 0 0, .int .i64 0, .slice none 0 0, .int .i64 0, .slice none 0 0], .agg #[.int .i64 0, .bool false, .slice none 0 0, .slice none 0 0], .agg #[.int .i64 0, .int .i64 0, .int .u64 0, .slice none 0 0]] 8 rfl (World.shaped_of_RefB (by kernel_rfl) (by kernel_rfl)) (by kernel_rfl) (by kernel_rfl) (by kernel_rfl) (door_met os _)) ?_
  intro W base args ds gs before hval0 hW _ _ hL _
  have hval : ∀ (j : Nat) t v, Tryd.f5.params[j]? = some t → args[j]? = some v → Value.okWide Tryd.prog W .any base t v := hval0
  have hW' := hW
  obtain ⟨p, q, hA0, hV, rfl, hfz, hnd⟩ := hW
  have hA : DataW.TrodAll enc Tryd.prog W 0 (fun _ => true) true Tryd.f5.params.toList args.toList ds p := hA0
  rw [Tryd.params5] at hA hval
  obtain ⟨v0, vs0, d0, ds0, p0, q0, hargs, rfl, rfl, h0, r0⟩ := trodAll_cons hA
  obtain ⟨v1, vs1, d1, ds1, p1, q1, rfl, rfl, rfl, h1, r1⟩ := trodAll_cons r0
  obtain ⟨v2, vs2, d2, ds2, p2, q2, rfl, rfl, rfl, h2, r2⟩ := trodAll_cons r1
  obtain ⟨rfl, rfl, rfl⟩ := trodAll_nil r2
  obtain rfl : args = #[v0, v1, v2] := by cases args; simp_all
  obtain ⟨rfl, rfl⟩ := trodVars_none hV
  have o0 : RdV W cfgSh v0 := rdv_of cfgSh (by kernel_rfl) (hval 0 _ v0 rfl rfl) h0
  have o1 : RdV W stdSh v1 := rdv_of stdSh (by kernel_rfl) (hval 1 _ v1 rfl rfl) h1
  have o2 : RdV W rqtSh v2 := rdv_of rqtSh (by kernel_rfl) (hval 2 _ v2 rfl rfl) h2
  obtain ⟨hT, hz⟩ := of_laid hL
  refine (signFits_any' v0 v1 v2 W hT o0 o1 o2).mono fun e W' ⟨he, bel⟩ => ?_
  subst he
  exact ⟨_, rfl, _, _, _, [], _, [], hW', trodAll_mk1 (shut_bool Tryd.underlying4 _), trodAll_below laidOut bel _ _ _ _ (by kernel_rfl) hA0, rfl, bel.frame _, fun h => by cases h⟩
theorem over : Rows.SignFitsSaid :=
  OpenClaim.holds_of_wide 5 Tryd.f5 rfl rfl rfl rfl rfl rfl rfl ⟨rfl, rfl, rfl, rfl, rfl⟩ rfl rfl rfl rfl rfl (by kernel_rfl) Tryd.func5 (by kernel_rfl)
    (of_decide_eq_true (by kernel_rfl)) (by unfold Func.isWrapper; first | (rw [if_pos (by decide +kernel)]; kernel_rfl) | (rw [if_neg (by decide +kernel)]; exact ⟨rfl, rfl⟩))
    (fun os started H enc _ => lifted os started H enc)
end rowSignFits
theorem signFits_holds : Rows.SignFitsCardSaid :=
  Claim7.holds_tied_plain_at .later [] [.widerDeep] true (true, "a87c25ccaa4d923873e455214e60bf82942d6d017a968f3c3447d32210825f47") false
    rowSignFits.over (fun _ h => by cases h) (by kernel_rfl) (fun _ h => by cases h) signFits_row_tie rfl ⟨rfl, rfl⟩ (by kernel_rfl) rfl
    (fun f fn hf hfn => by
      obtain rfl : f = 5 := Option.some.inj ((show Tryd.prog.funcNamed "porthole/portholelaw10.SignFits" = some 5 by kernel_rfl).symm.trans hf) |>.symm
      obtain rfl : fn = Tryd.f5 := (Option.some.inj (Tryd.func5.symm.trans hfn)).symm
      exact ⟨by kernel_rfl, fun j t ht => by
        rw [Tryd.params5] at ht
        have hm : t ∈ [29, 40, 44] := by simpa using Array.mem_of_getElem? ht
        have hall : ([29, 40, 44].all fun u => !Tryd.prog.wantsStandIn u) = true := by kernel_rfl
        exact (show Tryd.prog.wantsStandIn t = false by simpa using List.all_eq_true.1 hall t hm)⟩)
    (by kernel_rfl)
#print axioms signFits_holds
end Go.Proofs.YtdajadfgiifioaaDoor

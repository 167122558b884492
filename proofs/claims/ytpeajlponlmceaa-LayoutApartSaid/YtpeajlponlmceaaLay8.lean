/- The layout's laws: the example; == between two spans. -/
import Derived.Test.YtpeajlponlmceaaRLay3
import Derived.Laws.StructEq
namespace Go.Proofs.Ytpeajlponlmceaa
open Go.RowKit
set_option linter.unusedSimpArgs false
set_option linter.unusedVariables false

theorem eqIn_span (a b c d : Int) (w : World) : (Op.equalIn 10000 49 (.agg #[.int .i64 a, .int .i64 b]) (.agg #[.int .i64 c, .int .i64 d])).run Try.prog w = .ok (a == c && b == d) w := by
  have u3 := Try.underlying3
  have a3 := Try.isAgg3
  have z3 := Try.sizeOf3
  have hS : Try.prog.underlying 49 = some (.struct (Try.prog.fieldsOf 49)) := by kernel_rfl
  rw [show (10000 : Nat) = 9999 + 1 from rfl, run_equalIn_agg w 9999 49 _ _ hS (by kernel_rfl)]
  simp only [Program.fieldsOf, Try.underlying49]
  go_simp
  by_cases h1 : a = c <;> by_cases h2 : b = d <;> simp [h1, h2]
theorem eq_span (a b c d : Int) (w : World) : (binOp .eql 49 (.agg #[.int .i64 a, .int .i64 b]) (.agg #[.int .i64 c, .int .i64 d])).run Try.prog w = .ok (.bool (a == c && b == d)) w := by
  rw [run_eql_struct, eqIn_span]; rfl
theorem neq_span (a b c d : Int) (w : World) : (binOp .neq 49 (.agg #[.int .i64 a, .int .i64 b]) (.agg #[.int .i64 c, .int .i64 d])).run Try.prog w = .ok (.bool (!(a == c && b == d))) w := by
  rw [run_neq_struct, eqIn_span]; rfl
theorem row_blk {w : World} {b : Nat} {cs : Array Value} {ty : TypeId} {fz : Nat × Nat} {k n : Nat} {xs : List Value} (h : w.heap[b]? = some (.cells cs ty fz)) (hx : cs.toList = xs) (hl : xs.length = n * k) (hn : n ≤ 100) : RowAt w k (.slice (some ⟨b, 0, none⟩) n n) n xs :=
  ⟨hl, .inr ⟨b, 0, n, rfl, Nat.le_refl _, by unfold maxLen; omega, blk_lt h, fun i hi => by rw [Nat.zero_add, cell_blk h i, ← hx, Array.getElem?_toList]⟩⟩

def exC : Cfg := ⟨[(0, 4), (1, 0)], [⟨2, 0, 1, 3, 2, 0, 0⟩], 1, [⟨0, 0, 1⟩], 1, [⟨1, 0, 1⟩]⟩
theorem exC_ok : Cfg.ok exC := ⟨fun p hp => by simp only [exC, List.mem_cons, List.not_mem_nil, or_false] at hp; rcases hp with rfl | rfl <;> exact ⟨rfl, rfl⟩, fun x hx => by simp only [exC, List.mem_cons, List.not_mem_nil, or_false] at hx; subst hx; exact ⟨rfl, rfl, rfl, rfl, rfl, rfl, rfl⟩, rfl, rfl, fun x hx => by simp only [exC, List.mem_cons, List.not_mem_nil, or_false] at hx; subst hx; exact ⟨rfl, rfl, rfl⟩, fun x hx => by simp only [exC, List.mem_cons, List.not_mem_nil, or_false] at hx; subst hx; exact ⟨rfl, rfl, rfl⟩⟩
set_option maxRecDepth 100000 in
set_option maxHeartbeats 4000000 in
theorem example8_any (w : World) : Calls Try.prog 50 #[] w fun e w' => ∃ cs : Array Value, e = .returned (.agg cs) ∧ CfgAt w' (.agg cs) exC ∧ Below w.heap.size w w' := by
  go_enter Try.func50, Try.ntmps50
  go_wp2
  refine bodyPost_ret (v := .agg #[.slice (some ⟨w.heap.size + 1, 0, none⟩) 2 2, .slice (some ⟨w.heap.size + 1 + 1, 0, none⟩) 1 1, .int .i64 1, .slice (some ⟨w.heap.size + 1 + 1 + 1 + 1, 0, none⟩) 1 1, .int .i64 1, .slice (some ⟨w.heap.size + 1 + 1 + 1 + 1 + 1, 0, none⟩) 1 1]) (results_cell_row rfl _ _ _ _ _ _ _ rfl (blk_al (blk_al (blk_al (blk_al (blk_al (blk_new _ _) _) _) _) _) _) Try.underlying29 rfl (by kernel_rfl)) rfl ⟨_, rfl, ⟨exC_ok, _, 2, _, 1, _, 1, _, 1, rfl, ?_, ?_, ?_, ?_, ?_, ?_, ?_, ?_⟩, (by repeat (first | exact Below.refl _ _ | apply below_al))⟩
  · exact ⟨Nat.le_refl _, by unfold maxLen; omega⟩
  · exact ⟨Nat.le_refl _, by unfold maxLen; omega⟩
  · exact ⟨Nat.le_refl _, by unfold maxLen; omega⟩
  · exact ⟨Nat.le_refl _, by unfold maxLen; omega⟩
  · exact row_blk (blk_al (blk_al (blk_al (blk_al (blk_at (w := (w.alloc (.cells #[.slice (some ⟨w.heap.size + 1, 0, none⟩) 2 2, .slice (some ⟨w.heap.size + 1 + 1, 0, none⟩) 1 1, .int .i64 1, .slice (some ⟨w.heap.size + 1 + 1 + 1 + 1, 0, none⟩) 1 1, .int .i64 1, .slice (some ⟨w.heap.size + 1 + 1 + 1 + 1 + 1, 0, none⟩) 1 1] 29))) (by simp) _) _) _) _) _) rfl rfl (by decide)
  · exact row_blk (blk_al (blk_al (blk_al (blk_at (w := ((w.alloc (.cells #[.slice (some ⟨w.heap.size + 1, 0, none⟩) 2 2, .slice (some ⟨w.heap.size + 1 + 1, 0, none⟩) 1 1, .int .i64 1, .slice (some ⟨w.heap.size + 1 + 1 + 1 + 1, 0, none⟩) 1 1, .int .i64 1, .slice (some ⟨w.heap.size + 1 + 1 + 1 + 1 + 1, 0, none⟩) 1 1] 29)).alloc (.cells #[.int .i64 0, .int .i64 4, .int .i64 1, .int .i64 0] 33))) (by simp) _) _) _) _) rfl rfl (by decide)
  · exact row_blk (blk_al (blk_at (w := ((((w.alloc (.cells #[.slice (some ⟨w.heap.size + 1, 0, none⟩) 2 2, .slice (some ⟨w.heap.size + 1 + 1, 0, none⟩) 1 1, .int .i64 1, .slice (some ⟨w.heap.size + 1 + 1 + 1 + 1, 0, none⟩) 1 1, .int .i64 1, .slice (some ⟨w.heap.size + 1 + 1 + 1 + 1 + 1, 0, none⟩) 1 1] 29)).alloc (.cells #[.int .i64 0, .int .i64 4, .int .i64 1, .int .i64 0] 33)).alloc (.cells #[.int .i64 2, .int .i64 0, .int .i64 1, .int .i64 3, .int .i64 2, .int .i64 0, .int .u32 0] 40)).alloc (.cells #[.slice (some ⟨w.heap.size + 1, 0, none⟩) 2 2, .slice (some ⟨w.heap.size + 1 + 1, 0, none⟩) 1 1, .int .i64 1, .slice (some ⟨w.heap.size + 1 + 1 + 1 + 1, 0, none⟩) 1 1, .int .i64 1, .slice (some ⟨w.heap.size + 1 + 1 + 1 + 1 + 1, 0, none⟩) 1 1] 29))) (by simp) _) _) rfl rfl (by decide)
  · exact row_blk (blk_at (w := (((((w.alloc (.cells #[.slice (some ⟨w.heap.size + 1, 0, none⟩) 2 2, .slice (some ⟨w.heap.size + 1 + 1, 0, none⟩) 1 1, .int .i64 1, .slice (some ⟨w.heap.size + 1 + 1 + 1 + 1, 0, none⟩) 1 1, .int .i64 1, .slice (some ⟨w.heap.size + 1 + 1 + 1 + 1 + 1, 0, none⟩) 1 1] 29)).alloc (.cells #[.int .i64 0, .int .i64 4, .int .i64 1, .int .i64 0] 33)).alloc (.cells #[.int .i64 2, .int .i64 0, .int .i64 1, .int .i64 3, .int .i64 2, .int .i64 0, .int .u32 0] 40)).alloc (.cells #[.slice (some ⟨w.heap.size + 1, 0, none⟩) 2 2, .slice (some ⟨w.heap.size + 1 + 1, 0, none⟩) 1 1, .int .i64 1, .slice (some ⟨w.heap.size + 1 + 1 + 1 + 1, 0, none⟩) 1 1, .int .i64 1, .slice (some ⟨w.heap.size + 1 + 1 + 1 + 1 + 1, 0, none⟩) 1 1] 29)).alloc (.cells #[.int .i64 0, .int .i64 0, .int .i64 1] 46))) (by simp) _) rfl rfl (by decide)

theorem I64.ok {n : Int} (h : I64 n) : I64 n := h
theorem exC_acc : accB exC = true := by decide
theorem exC_small : exC.small := ⟨by decide, by decide, by decide, by decide⟩
theorem exC_src : (srcB exC 0).1 = 4 ∧ (srcB exC 0).2 = 9 := by rw [srcB, if_pos ⟨exC_acc, by decide, by decide⟩]; exact ⟨rfl, rfl⟩
theorem exC_dst : (dstB exC 0).1 = 13 ∧ (dstB exC 0).2 = 1 := by rw [dstB, if_pos ⟨exC_acc, by decide, by decide⟩]; exact ⟨rfl, rfl⟩
theorem exC_cell : (cellB exC 0 1).1 = 9 ∧ (cellB exC 0 1).2 = 4 := by rw [cellB, if_pos ⟨exC_acc, by decide, by decide, by decide, by decide, by decide⟩]; exact ⟨rfl, rfl⟩
theorem CfgAt.cells {w : World} {cs : Array Value} {C : Cfg} (h : CfgAt w (.agg cs) C) : ∃ v0 v1 v2 v3 v4 v5 : Value, cs = #[v0, v1, v2, v3, v4, v5] ∧ (∃ a n c, v0 = .slice a n c) ∧ (∃ a n c, v1 = .slice a n c) ∧ (∃ n, v2 = .int .i64 n) ∧ (∃ a n c, v3 = .slice a n c) ∧ (∃ n, v4 = .int .i64 n) ∧ ∃ a n c, v5 = .slice a n c := by
  obtain ⟨ho, pa, pc, ca, cc, a0, c0, a1, c1, hv, _⟩ := h
  simp only [Value.agg.injEq] at hv
  exact ⟨_, _, _, _, _, _, hv, ⟨_, _, _, rfl⟩, ⟨_, _, _, rfl⟩, ⟨_, rfl⟩, ⟨_, _, _, rfl⟩, ⟨_, rfl⟩, ⟨_, _, _, rfl⟩⟩
set_option maxRecDepth 100000 in
set_option maxHeartbeats 4000000 in
theorem wakes8_any (w : World) : Calls Try.prog 22 #[] w fun e w' => e = .returned (.bool true) ∧ Below w.heap.size w w' := by
  have eqs := eq_span
  go_enter Try.func22, Try.ntmps22
  have HB0 : Kp (Below w.heap.size w w) := ⟨Below.refl _ _⟩
  go_wp2_with fail
  refine (example8_any _).mono ?_
  rintro e w1 ⟨cs, rfl, hC, hb⟩
  have HB1 : Kp (Below w.heap.size w w1) := ⟨below_call HB0.out hb⟩
  have E1 : Kp (CfgAt w1 (.agg cs) exC) := ⟨hC⟩
  clear HB0 hb
  clear hC
  obtain ⟨v0, v1, v2, v3, v4, v5, rfl, ⟨p1, p2, p3, rfl⟩, ⟨p4, p5, p6, rfl⟩, ⟨p7, rfl⟩, ⟨p8, p9, pA, rfl⟩, ⟨pB, rfl⟩, ⟨pC, pD, pE, rfl⟩⟩ := CfgAt.cells E1.out
  go_wp2_with fail
  refine (source_any _ exC exC_small 0 _ (E1.out.below (below_al (Below.refl _ _) _))).mono ?_
  rw [exC_src.1, exC_src.2]
  rintro e w2 ⟨rfl, hb⟩
  have q2 : Kp (w2.heap[w1.heap.size]? = some (.cells #[.slice p1 p2 p3, .slice p4 p5 p6, .int .i64 p7, .slice p8 p9 pA, .int .i64 pB, .slice pC pD pE] 29 (0, 0))) := ⟨blk_below (blk_new _ _) hb⟩
  have HB2 : Kp (Below w.heap.size w w2) := ⟨below_call (below_al HB1.out _) hb⟩
  have E2 : Kp (CfgAt w2 (.agg #[.slice p1 p2 p3, .slice p4 p5 p6, .int .i64 p7, .slice p8 p9 pA, .int .i64 pB, .slice pC pD pE]) exC) := ⟨(E1.out.below (below_al (Below.refl _ _) _)).below hb⟩
  clear HB1 E1 hb
  have qc0 : w2.cell? ⟨w1.heap.size, 0, none⟩ = some (.slice p1 p2 p3) := (cell_blk q2.out 0).trans rfl
  have qc1 : w2.cell? ⟨w1.heap.size, 1, none⟩ = some (.slice p4 p5 p6) := (cell_blk q2.out 1).trans rfl
  have qc2 : w2.cell? ⟨w1.heap.size, 2, none⟩ = some (.int .i64 p7) := (cell_blk q2.out 2).trans rfl
  have qc3 : w2.cell? ⟨w1.heap.size, 3, none⟩ = some (.slice p8 p9 pA) := (cell_blk q2.out 3).trans rfl
  have qc4 : w2.cell? ⟨w1.heap.size, 4, none⟩ = some (.int .i64 pB) := (cell_blk q2.out 4).trans rfl
  have qc5 : w2.cell? ⟨w1.heap.size, 5, none⟩ = some (.slice pC pD pE) := (cell_blk q2.out 5).trans rfl
  have ql := blk_lt q2.out
  go_wp2_with fail
  refine (cell_any _ exC exC_small 0 1 _ E2.out).mono ?_
  rw [exC_cell.1, exC_cell.2]
  rintro e w3 ⟨rfl, hb⟩
  have q3 : Kp (w3.heap[w1.heap.size]? = some (.cells #[.slice p1 p2 p3, .slice p4 p5 p6, .int .i64 p7, .slice p8 p9 pA, .int .i64 pB, .slice pC pD pE] 29 (0, 0))) := ⟨blk_below q2.out hb⟩
  have HB3 : Kp (Below w.heap.size w w3) := ⟨below_call HB2.out hb⟩
  have E3 : Kp (CfgAt w3 (.agg #[.slice p1 p2 p3, .slice p4 p5 p6, .int .i64 p7, .slice p8 p9 pA, .int .i64 pB, .slice pC pD pE]) exC) := ⟨E2.out.below hb⟩
  clear qc0 qc1 qc2 qc3 qc4 qc5 ql q2 HB2 E2 hb
  have qc0 : w3.cell? ⟨w1.heap.size, 0, none⟩ = some (.slice p1 p2 p3) := (cell_blk q3.out 0).trans rfl
  have qc1 : w3.cell? ⟨w1.heap.size, 1, none⟩ = some (.slice p4 p5 p6) := (cell_blk q3.out 1).trans rfl
  have qc2 : w3.cell? ⟨w1.heap.size, 2, none⟩ = some (.int .i64 p7) := (cell_blk q3.out 2).trans rfl
  have qc3 : w3.cell? ⟨w1.heap.size, 3, none⟩ = some (.slice p8 p9 pA) := (cell_blk q3.out 3).trans rfl
  have qc4 : w3.cell? ⟨w1.heap.size, 4, none⟩ = some (.int .i64 pB) := (cell_blk q3.out 4).trans rfl
  have qc5 : w3.cell? ⟨w1.heap.size, 5, none⟩ = some (.slice pC pD pE) := (cell_blk q3.out 5).trans rfl
  have ql := blk_lt q3.out
  go_wp2_with fail
  refine (dest_any _ exC exC_small 0 _ E3.out).mono ?_
  rw [exC_dst.1, exC_dst.2]
  rintro e w4 ⟨rfl, hb⟩
  have q4 : Kp (w4.heap[w1.heap.size]? = some (.cells #[.slice p1 p2 p3, .slice p4 p5 p6, .int .i64 p7, .slice p8 p9 pA, .int .i64 pB, .slice pC pD pE] 29 (0, 0))) := ⟨blk_below q3.out hb⟩
  have HB4 : Kp (Below w.heap.size w w4) := ⟨below_call HB3.out hb⟩
  have E4 : Kp (CfgAt w4 (.agg #[.slice p1 p2 p3, .slice p4 p5 p6, .int .i64 p7, .slice p8 p9 pA, .int .i64 pB, .slice pC pD pE]) exC) := ⟨E3.out.below hb⟩
  clear qc0 qc1 qc2 qc3 qc4 qc5 ql q3 HB3 E3 hb
  have qc0 : w4.cell? ⟨w1.heap.size, 0, none⟩ = some (.slice p1 p2 p3) := (cell_blk q4.out 0).trans rfl
  have qc1 : w4.cell? ⟨w1.heap.size, 1, none⟩ = some (.slice p4 p5 p6) := (cell_blk q4.out 1).trans rfl
  have qc2 : w4.cell? ⟨w1.heap.size, 2, none⟩ = some (.int .i64 p7) := (cell_blk q4.out 2).trans rfl
  have qc3 : w4.cell? ⟨w1.heap.size, 3, none⟩ = some (.slice p8 p9 pA) := (cell_blk q4.out 3).trans rfl
  have qc4 : w4.cell? ⟨w1.heap.size, 4, none⟩ = some (.int .i64 pB) := (cell_blk q4.out 4).trans rfl
  have qc5 : w4.cell? ⟨w1.heap.size, 5, none⟩ = some (.slice pC pD pE) := (cell_blk q4.out 5).trans rfl
  have ql := blk_lt q4.out
  go_wp2
  go_ret
  exact ⟨rfl, HB4.out⟩
end Go.Proofs.Ytpeajlponlmceaa

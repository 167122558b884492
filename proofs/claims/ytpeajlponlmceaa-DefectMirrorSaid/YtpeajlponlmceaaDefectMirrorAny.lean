/- The law DefectMirror, of any argument. -/
import Derived.Test.YtpeajlponlmceaaDefectMirror
namespace Go.Proofs.Ytpeajlponlmceaa
open Go.RowKit
set_option linter.unusedSimpArgs false
set_option linter.unusedVariables false

set_option maxRecDepth 100000 in
set_option maxHeartbeats 1000000 in
theorem defectMirror_great (cv : Value) (C : Cfg) (hg : C.great = true) (w : World) (h : CfgAt w cv C) : Calls Try.prog 3 #[cv] w fun e w' => e = .returned (.bool true) ∧ Below w.heap.size w w' := by
  have HC := Kp.mk h
  obtain ⟨ho, pa, pc, ca, cc, a0, c0, a1, c1, rfl, bp, bc, b0, b1, hp, hc, hw0, hw1⟩ := h
  go_enter Try.func3, Try.ntmps3
  go_wp2_with fail
  refine (wakes7_any _).mono ?_
  rintro e w1 ⟨rfl, hb1⟩
  have K0 : w1.heap[w.heap.size]? = some (.cells #[.slice pa C.parts.length pc, .slice ca C.chans.length cc, .int .i64 C.l0, .slice a0 C.w0.length c0, .int .i64 C.l1, .slice a1 C.w1.length c1] 29 (0, 0)) := blk_below (blk_new w _) hb1
  have HB1 : Kp (Below w.heap.size w w1) := ⟨below_call (by repeat (first | exact Below.refl _ _ | apply below_al)) hb1⟩
  have HK1 := Kp.mk K0
  have q0 : w1.cell? ⟨w.heap.size, 0, none⟩ = some (.slice pa C.parts.length pc) := (cell_blk K0 0).trans rfl
  have q1 : w1.cell? ⟨w.heap.size, 1, none⟩ = some (.slice ca C.chans.length cc) := (cell_blk K0 1).trans rfl
  have q2 : w1.cell? ⟨w.heap.size, 2, none⟩ = some (.int .i64 C.l0) := (cell_blk K0 2).trans rfl
  have q3 : w1.cell? ⟨w.heap.size, 3, none⟩ = some (.slice a0 C.w0.length c0) := (cell_blk K0 3).trans rfl
  have q4 : w1.cell? ⟨w.heap.size, 4, none⟩ = some (.int .i64 C.l1) := (cell_blk K0 4).trans rfl
  have q5 : w1.cell? ⟨w.heap.size, 5, none⟩ = some (.slice a1 C.w1.length c1) := (cell_blk K0 5).trans rfl
  have l0 := blk_lt K0
  clear hb1 K0 hp hc hw0 hw1 ho
  go_wp2_with fail
  refine (great_any _ C _ (HC.out.below HB1.out)).mono ?_
  rw [hg]
  rintro e w2 ⟨rfl, hb2⟩
  go_wp2
  go_ret
  exact ⟨rfl, below_call HB1.out hb2⟩
theorem defectMirror_any (v0 : Value) (w : World) (h0 : RdV w cfgSh v0) : Calls Try.prog 3 #[v0] w fun e w' => e = .returned (.bool true) ∧ Below w.heap.size w w' := by
  obtain ⟨C, hC⟩ := cfgAt_of h0
  cases hg : C.great with
  | true => exact defectMirror_great v0 C hg w hC
  | false => exact defectMirror_core v0 C hg w hC
end Go.Proofs.Ytpeajlponlmceaa

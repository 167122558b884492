/- The law DefectTurns, of any argument. -/
import Derived.Test.YtpeajlponlmceaaDefectTurns
namespace Go.Proofs.Ytpeajlponlmceaa
open Go.RowKit
set_option linter.unusedSimpArgs false
set_option linter.unusedVariables false

set_option maxRecDepth 100000 in
set_option maxHeartbeats 1000000 in
theorem defectTurns_no (cv : Value) (C : Cfg) (n : Int) (hno : C.great = true ∨ C.great = false ∧ C.chans.length = 0) (w : World) (h : CfgAt w cv C) : Calls Try.prog 5 #[cv, .int .u8 n] w fun e w' => e = .returned (.bool true) ∧ Below w.heap.size w w' := by
  have HC := Kp.mk h
  obtain ⟨ho, pa, pc, ca, cc, a0, c0, a1, c1, rfl, bp, bc, b0, b1, hp, hc, hw0, hw1⟩ := h
  go_enter Try.func5, Try.ntmps5
  go_wp2_with fail
  refine (wakes7_any _).mono ?_
  rintro e w1 ⟨rfl, hb1⟩
  have K0 : w1.heap[w.heap.size]? = some (.cells #[.slice pa C.parts.length pc, .slice ca C.chans.length cc, .int .i64 C.l0, .slice a0 C.w0.length c0, .int .i64 C.l1, .slice a1 C.w1.length c1] 29 (0, 0)) := blk_below (blk_new w _) hb1
  have HB1 : Kp (Below w.heap.size w w1) := ⟨below_call (by repeat (first | exact Below.refl _ _ | apply below_al)) hb1⟩
  have HK1 := Kp.mk K0
  have q0 : w1.cell? ⟨w.heap.size, 0, none⟩ = some (.slice pa C.parts.length pc) := (cell_blk K0 0).trans rfl
  have q1 : w1.cell? ⟨w.heap.size, 1, none⟩ = some (.slice ca C.chans.length cc) := (cell_blk K0 1).trans rfl
  have q2 : w1.cell? ⟨w.heap.size, 2, none⟩ = some (.int .i64 C.l0) := (cell_blk K0 2).trans rfl
  have q3 : w1.cell? ⟨w.heap.size, 3, none⟩ = some (.slice a0 C.w0.length c0) := (cell_blk K0 3).trans rfl
  have q4 : w1.cell? ⟨w.heap.size, 4, none⟩ = some (.int .i64 C.l1) := (cell_blk K0 4).trans rfl
  have q5 : w1.cell? ⟨w.heap.size, 5, none⟩ = some (.slice a1 C.w1.length c1) := (cell_blk K0 5).trans rfl
  have l0 := blk_lt K0
  clear hb1 K0 hp hc hw0 hw1 ho
  go_wp2_with fail
  refine (great_any _ C _ (HC.out.below HB1.out)).mono ?_
  rcases hno with hg | ⟨hg, hl⟩
  · rw [hg]
    rintro e w2 ⟨rfl, hb2⟩
    go_wp2
    go_ret
    exact ⟨rfl, below_call HB1.out hb2⟩
  · have hl2 : ((C.chans.length : Int) == 0) = true := by rw [hl]; rfl
    have hl3 : C.chans = [] := List.length_eq_zero_iff.1 hl
    rw [hg]
    rintro e w2 ⟨rfl, hb2⟩
    have HB := Kp.mk (below_call HB1.out hb2)
    have HK := Kp.mk (blk_below HK1.out hb2)
    have q0 : w2.cell? ⟨w.heap.size, 0, none⟩ = some (.slice pa C.parts.length pc) := (cell_blk HK.out 0).trans rfl
    have q1 : w2.cell? ⟨w.heap.size, 1, none⟩ = some (.slice ca C.chans.length cc) := (cell_blk HK.out 1).trans rfl
    have q2 : w2.cell? ⟨w.heap.size, 2, none⟩ = some (.int .i64 C.l0) := (cell_blk HK.out 2).trans rfl
    have q3 : w2.cell? ⟨w.heap.size, 3, none⟩ = some (.slice a0 C.w0.length c0) := (cell_blk HK.out 3).trans rfl
    have q4 : w2.cell? ⟨w.heap.size, 4, none⟩ = some (.int .i64 C.l1) := (cell_blk HK.out 4).trans rfl
    have q5 : w2.cell? ⟨w.heap.size, 5, none⟩ = some (.slice a1 C.w1.length c1) := (cell_blk HK.out 5).trans rfl
    have l1 := blk_lt HK.out
    clear hb2 hl
    go_wp2
    go_ret
    exact ⟨by first | rfl | (simp [*]; done), HB.out⟩
theorem defectTurns_any (v0 v1 : Value) (w : World) (h0 : RdV w cfgSh v0) (h1 : RdV w (.int .u8) v1) : Calls Try.prog 5 #[v0, v1] w fun e w' => e = .returned (.bool true) ∧ Below w.heap.size w w' := by
  obtain ⟨C, hC⟩ := cfgAt_of h0
  obtain ⟨n, rfl, hn⟩ := h1
  cases hg : C.great with
  | true => exact defectTurns_no v0 C n (.inl hg) w hC
  | false =>
    by_cases hl : C.chans.length = 0
    · exact defectTurns_no v0 C n (.inr ⟨hg, hl⟩) w hC
    · have hb := bounds_u8 hn
      obtain ⟨k, rfl⟩ : ∃ k : Nat, n = (k : Int) := ⟨n.toNat, by omega⟩
      exact defectTurns_core v0 C hg k (by omega) (by omega) w hC
end Go.Proofs.Ytpeajlponlmceaa

/- Contracts of the reference of defects: Holds, of channels and windows. -/
import Derived.Test.YtmidcnfmphlneaaRef7a
import Derived.Test.YtmidcnfmphlneaaRef7a9
import Derived.Test.YtmidcnfmphlneaaRef7a10
import Derived.Test.YtmidcnfmphlneaaRef7b
import Derived.Test.YtmidcnfmphlneaaRef7b15
import Derived.Test.YtmidcnfmphlneaaRef7b16
import Derived.Test.YtmidcnfmphlneaaRef7b17
namespace Go.Proofs.Ytmidcnfmphlneaa
open Go.RowKit
set_option linter.unusedSimpArgs false
set_option linter.unusedVariables false

set_option maxRecDepth 100000 in
set_option maxHeartbeats 4000000 in
theorem refHolds1 (cv : Value) (C : Cfg) (hsm : C.small) (w : World) (h : CfgAt w cv C) : Calls Try.prog 33 #[cv, .int .i64 1] w fun e w' => e = .returned (.bool (ruleB 1 C)) ∧ Below w.heap.size w w' := by
  have HC := Kp.mk h
  obtain ⟨ho, pa, pc, ca, cc, a0, c0, a1, c1, rfl, bp, bc, b0, b1, hp, hc, hw0, hw1⟩ := h
  by_cases h1 : C.parts.length < 1
  · have HV : Kp (ruleB 1 C = true) := ⟨by rw [ruleB, inB_false (by omega)]; rfl⟩
    go_enter Try.func33, Try.ntmps33
    go_wp2
    go_ret
    exact ⟨ret_bool (by have h := HV.out; first | exact h.symm | (rw [h]; simp; omega)), (by repeat (first | exact Below.refl _ _ | apply below_al))⟩
  · have h1' : decide ((C.parts.length : Int) < 1) = false := decide_eq_false (by omega)
    by_cases h2 : 6 < C.parts.length
    · have HV : Kp (ruleB 1 C = true) := ⟨by rw [ruleB, inB_false (by omega)]; rfl⟩
      go_enter Try.func33, Try.ntmps33
      go_wp2
      go_ret
      exact ⟨ret_bool (by have h := HV.out; first | exact h.symm | (rw [h]; simp; omega)), (by repeat (first | exact Below.refl _ _ | apply below_al))⟩
    · have h2' : decide (6 < (C.parts.length : Int)) = false := decide_eq_false (by omega)
      have HV : Kp (ruleB 1 C = false) := ⟨by rw [ruleB, inB_true (by omega)]; rfl⟩
      go_enter Try.func33, Try.ntmps33
      go_wp2
      go_ret
      exact ⟨ret_bool (by have h := HV.out; first | exact h.symm | (rw [h]; simp; omega)), (by repeat (first | exact Below.refl _ _ | apply below_al))⟩

set_option maxRecDepth 100000 in
set_option maxHeartbeats 4000000 in
theorem refHolds4 (cv : Value) (C : Cfg) (hsm : C.small) (w : World) (h : CfgAt w cv C) : Calls Try.prog 33 #[cv, .int .i64 4] w fun e w' => e = .returned (.bool (ruleB 4 C)) ∧ Below w.heap.size w w' := by
  have HC := Kp.mk h
  obtain ⟨ho, pa, pc, ca, cc, a0, c0, a1, c1, rfl, bp, bc, b0, b1, hp, hc, hw0, hw1⟩ := h
  go_enter Try.func33, Try.ntmps33
  go_wp2
  go_ret
  exact ⟨ret_bool (by rw [ruleB, decide_eq_decide]; omega), (by repeat (first | exact Below.refl _ _ | apply below_al))⟩

set_option maxRecDepth 100000 in
set_option maxHeartbeats 4000000 in
theorem refHolds5 (cv : Value) (C : Cfg) (hsm : C.small) (w : World) (h : CfgAt w cv C) : Calls Try.prog 33 #[cv, .int .i64 5] w fun e w' => e = .returned (.bool (ruleB 5 C)) ∧ Below w.heap.size w w' := by
  have HC := Kp.mk h
  obtain ⟨ho, pa, pc, ca, cc, a0, c0, a1, c1, rfl, bp, bc, b0, b1, hp, hc, hw0, hw1⟩ := h
  go_enter Try.func33, Try.ntmps33
  go_wp2_with fail
  refine (chans5_any _ C hsm _ (HC.out.below (by repeat (first | exact Below.refl _ _ | apply below_al)))).mono ?_
  rintro e w1 ⟨rfl, hb1⟩
  go_wp2
  go_ret
  exact ⟨rfl, below_call (by repeat (first | exact Below.refl _ _ | apply below_al)) hb1⟩

set_option maxRecDepth 100000 in
set_option maxHeartbeats 4000000 in
theorem refHolds6 (cv : Value) (C : Cfg) (hsm : C.small) (w : World) (h : CfgAt w cv C) : Calls Try.prog 33 #[cv, .int .i64 6] w fun e w' => e = .returned (.bool (ruleB 6 C)) ∧ Below w.heap.size w w' := by
  have HC := Kp.mk h
  obtain ⟨ho, pa, pc, ca, cc, a0, c0, a1, c1, rfl, bp, bc, b0, b1, hp, hc, hw0, hw1⟩ := h
  go_enter Try.func33, Try.ntmps33
  go_wp2_with fail
  refine (chans6_any _ C hsm _ (HC.out.below (by repeat (first | exact Below.refl _ _ | apply below_al)))).mono ?_
  rintro e w1 ⟨rfl, hb1⟩
  go_wp2
  go_ret
  exact ⟨rfl, below_call (by repeat (first | exact Below.refl _ _ | apply below_al)) hb1⟩

set_option maxRecDepth 100000 in
set_option maxHeartbeats 4000000 in
theorem refHolds7 (cv : Value) (C : Cfg) (hsm : C.small) (w : World) (h : CfgAt w cv C) : Calls Try.prog 33 #[cv, .int .i64 7] w fun e w' => e = .returned (.bool (ruleB 7 C)) ∧ Below w.heap.size w w' := by
  have HC := Kp.mk h
  obtain ⟨ho, pa, pc, ca, cc, a0, c0, a1, c1, rfl, bp, bc, b0, b1, hp, hc, hw0, hw1⟩ := h
  go_enter Try.func33, Try.ntmps33
  go_wp2_with fail
  refine (chans7_any _ C hsm _ (HC.out.below (by repeat (first | exact Below.refl _ _ | apply below_al)))).mono ?_
  rintro e w1 ⟨rfl, hb1⟩
  go_wp2
  go_ret
  exact ⟨rfl, below_call (by repeat (first | exact Below.refl _ _ | apply below_al)) hb1⟩

set_option maxRecDepth 100000 in
set_option maxHeartbeats 4000000 in
theorem refHolds8 (cv : Value) (C : Cfg) (hsm : C.small) (w : World) (h : CfgAt w cv C) : Calls Try.prog 33 #[cv, .int .i64 8] w fun e w' => e = .returned (.bool (ruleB 8 C)) ∧ Below w.heap.size w w' := by
  have HC := Kp.mk h
  obtain ⟨ho, pa, pc, ca, cc, a0, c0, a1, c1, rfl, bp, bc, b0, b1, hp, hc, hw0, hw1⟩ := h
  go_enter Try.func33, Try.ntmps33
  go_wp2_with fail
  refine (chans8_any _ C hsm _ (HC.out.below (by repeat (first | exact Below.refl _ _ | apply below_al)))).mono ?_
  rintro e w1 ⟨rfl, hb1⟩
  go_wp2
  go_ret
  exact ⟨rfl, below_call (by repeat (first | exact Below.refl _ _ | apply below_al)) hb1⟩

set_option maxRecDepth 100000 in
set_option maxHeartbeats 4000000 in
theorem refHolds9 (cv : Value) (C : Cfg) (hsm : C.small) (w : World) (h : CfgAt w cv C) : Calls Try.prog 33 #[cv, .int .i64 9] w fun e w' => e = .returned (.bool (ruleB 9 C)) ∧ Below w.heap.size w w' := by
  have HC := Kp.mk h
  obtain ⟨ho, pa, pc, ca, cc, a0, c0, a1, c1, rfl, bp, bc, b0, b1, hp, hc, hw0, hw1⟩ := h
  go_enter Try.func33, Try.ntmps33
  go_wp2_with fail
  refine (chans9_any _ C hsm _ (HC.out.below (by repeat (first | exact Below.refl _ _ | apply below_al)))).mono ?_
  rintro e w1 ⟨rfl, hb1⟩
  go_wp2
  go_ret
  exact ⟨rfl, below_call (by repeat (first | exact Below.refl _ _ | apply below_al)) hb1⟩

set_option maxRecDepth 100000 in
set_option maxHeartbeats 4000000 in
theorem refHolds10 (cv : Value) (C : Cfg) (hsm : C.small) (w : World) (h : CfgAt w cv C) : Calls Try.prog 33 #[cv, .int .i64 10] w fun e w' => e = .returned (.bool (ruleB 10 C)) ∧ Below w.heap.size w w' := by
  have HC := Kp.mk h
  obtain ⟨ho, pa, pc, ca, cc, a0, c0, a1, c1, rfl, bp, bc, b0, b1, hp, hc, hw0, hw1⟩ := h
  go_enter Try.func33, Try.ntmps33
  go_wp2_with fail
  refine (chans10_any _ C hsm _ (HC.out.below (by repeat (first | exact Below.refl _ _ | apply below_al)))).mono ?_
  rintro e w1 ⟨rfl, hb1⟩
  go_wp2
  go_ret
  exact ⟨rfl, below_call (by repeat (first | exact Below.refl _ _ | apply below_al)) hb1⟩

set_option maxRecDepth 100000 in
set_option maxHeartbeats 4000000 in
theorem refHolds11 (cv : Value) (C : Cfg) (hsm : C.small) (w : World) (h : CfgAt w cv C) : Calls Try.prog 33 #[cv, .int .i64 11] w fun e w' => e = .returned (.bool (ruleB 11 C)) ∧ Below w.heap.size w w' := by
  have HC := Kp.mk h
  obtain ⟨ho, pa, pc, ca, cc, a0, c0, a1, c1, rfl, bp, bc, b0, b1, hp, hc, hw0, hw1⟩ := h
  go_enter Try.func33, Try.ntmps33
  go_wp2_with fail
  refine (chans11_any _ C hsm _ (HC.out.below (by repeat (first | exact Below.refl _ _ | apply below_al)))).mono ?_
  rintro e w1 ⟨rfl, hb1⟩
  go_wp2
  go_ret
  exact ⟨rfl, below_call (by repeat (first | exact Below.refl _ _ | apply below_al)) hb1⟩

set_option maxRecDepth 100000 in
set_option maxHeartbeats 4000000 in
theorem refHolds12 (cv : Value) (C : Cfg) (hsm : C.small) (w : World) (h : CfgAt w cv C) : Calls Try.prog 33 #[cv, .int .i64 12] w fun e w' => e = .returned (.bool (ruleB 12 C)) ∧ Below w.heap.size w w' := by
  have HC := Kp.mk h
  obtain ⟨ho, pa, pc, ca, cc, a0, c0, a1, c1, rfl, bp, bc, b0, b1, hp, hc, hw0, hw1⟩ := h
  obtain ⟨d0, hd0⟩ : ∃ d, (!inB C.l0 1 64) = d := ⟨_, rfl⟩
  have HV : Kp (ruleB 12 C = (d0 || !inB C.l1 1 64)) := ⟨by rw [ruleB, hd0]⟩
  go_enter Try.func33, Try.ntmps33
  go_wp2_with fail
  refine (windows120_any _ C hsm _ (HC.out.below (by repeat (first | exact Below.refl _ _ | apply below_al)))).mono ?_
  rw [hd0]
  rintro e w1 ⟨rfl, hb1⟩
  have HB1 : Kp (Below w.heap.size w w1) := ⟨below_call (by repeat (first | exact Below.refl _ _ | apply below_al)) hb1⟩
  have K0 : w1.heap[w.heap.size]? = some (.cells #[.slice pa C.parts.length pc, .slice ca C.chans.length cc, .int .i64 C.l0, .slice a0 C.w0.length c0, .int .i64 C.l1, .slice a1 C.w1.length c1] 31 (0, 0)) := blk_below (blk_new w _) hb1
  have e0 : w1.cell? ⟨w.heap.size, 0, none⟩ = some (.slice pa C.parts.length pc) := (cell_blk K0 0).trans rfl
  have e1 : w1.cell? ⟨w.heap.size, 1, none⟩ = some (.slice ca C.chans.length cc) := (cell_blk K0 1).trans rfl
  have e2 : w1.cell? ⟨w.heap.size, 2, none⟩ = some (.int .i64 C.l0) := (cell_blk K0 2).trans rfl
  have e3 : w1.cell? ⟨w.heap.size, 3, none⟩ = some (.slice a0 C.w0.length c0) := (cell_blk K0 3).trans rfl
  have e4 : w1.cell? ⟨w.heap.size, 4, none⟩ = some (.int .i64 C.l1) := (cell_blk K0 4).trans rfl
  have e5 : w1.cell? ⟨w.heap.size, 5, none⟩ = some (.slice a1 C.w1.length c1) := (cell_blk K0 5).trans rfl
  have l0 := blk_lt K0
  clear hb1 K0 hd0
  cases d0 with
  | true =>
    go_wp2
    go_ret
    exact ⟨ret_bool HV.out.symm, HB1.out⟩
  | false =>
    go_wp2_with fail
    refine (windows121_any _ C hsm _ (HC.out.below HB1.out)).mono ?_
    rintro e w2 ⟨rfl, hb2⟩
    go_wp2
    go_ret
    exact ⟨ret_bool (by rw [HV.out, Bool.false_or]), below_call HB1.out hb2⟩

set_option maxRecDepth 100000 in
set_option maxHeartbeats 4000000 in
theorem refHolds13 (cv : Value) (C : Cfg) (hsm : C.small) (w : World) (h : CfgAt w cv C) : Calls Try.prog 33 #[cv, .int .i64 13] w fun e w' => e = .returned (.bool (ruleB 13 C)) ∧ Below w.heap.size w w' := by
  have HC := Kp.mk h
  obtain ⟨ho, pa, pc, ca, cc, a0, c0, a1, c1, rfl, bp, bc, b0, b1, hp, hc, hw0, hw1⟩ := h
  obtain ⟨d0, hd0⟩ : ∃ d, (decide (16 < C.w0.length)) = d := ⟨_, rfl⟩
  have HV : Kp (ruleB 13 C = (d0 || decide (16 < C.w1.length))) := ⟨by rw [ruleB, hd0]⟩
  go_enter Try.func33, Try.ntmps33
  go_wp2_with fail
  refine (windows130_any _ C hsm _ (HC.out.below (by repeat (first | exact Below.refl _ _ | apply below_al)))).mono ?_
  rw [hd0]
  rintro e w1 ⟨rfl, hb1⟩
  have HB1 : Kp (Below w.heap.size w w1) := ⟨below_call (by repeat (first | exact Below.refl _ _ | apply below_al)) hb1⟩
  have K0 : w1.heap[w.heap.size]? = some (.cells #[.slice pa C.parts.length pc, .slice ca C.chans.length cc, .int .i64 C.l0, .slice a0 C.w0.length c0, .int .i64 C.l1, .slice a1 C.w1.length c1] 31 (0, 0)) := blk_below (blk_new w _) hb1
  have e0 : w1.cell? ⟨w.heap.size, 0, none⟩ = some (.slice pa C.parts.length pc) := (cell_blk K0 0).trans rfl
  have e1 : w1.cell? ⟨w.heap.size, 1, none⟩ = some (.slice ca C.chans.length cc) := (cell_blk K0 1).trans rfl
  have e2 : w1.cell? ⟨w.heap.size, 2, none⟩ = some (.int .i64 C.l0) := (cell_blk K0 2).trans rfl
  have e3 : w1.cell? ⟨w.heap.size, 3, none⟩ = some (.slice a0 C.w0.length c0) := (cell_blk K0 3).trans rfl
  have e4 : w1.cell? ⟨w.heap.size, 4, none⟩ = some (.int .i64 C.l1) := (cell_blk K0 4).trans rfl
  have e5 : w1.cell? ⟨w.heap.size, 5, none⟩ = some (.slice a1 C.w1.length c1) := (cell_blk K0 5).trans rfl
  have l0 := blk_lt K0
  clear hb1 K0 hd0
  cases d0 with
  | true =>
    go_wp2
    go_ret
    exact ⟨ret_bool HV.out.symm, HB1.out⟩
  | false =>
    go_wp2_with fail
    refine (windows131_any _ C hsm _ (HC.out.below HB1.out)).mono ?_
    rintro e w2 ⟨rfl, hb2⟩
    go_wp2
    go_ret
    exact ⟨ret_bool (by rw [HV.out, Bool.false_or]), below_call HB1.out hb2⟩

set_option maxRecDepth 100000 in
set_option maxHeartbeats 4000000 in
theorem refHolds14 (cv : Value) (C : Cfg) (hsm : C.small) (w : World) (h : CfgAt w cv C) : Calls Try.prog 33 #[cv, .int .i64 14] w fun e w' => e = .returned (.bool (ruleB 14 C)) ∧ Below w.heap.size w w' := by
  have HC := Kp.mk h
  obtain ⟨ho, pa, pc, ca, cc, a0, c0, a1, c1, rfl, bp, bc, b0, b1, hp, hc, hw0, hw1⟩ := h
  obtain ⟨d0, hd0⟩ : ∃ d, (C.w0.any (foreignB C false)) = d := ⟨_, rfl⟩
  have HV : Kp (ruleB 14 C = (d0 || C.w1.any (foreignB C true))) := ⟨by rw [ruleB, hd0]⟩
  go_enter Try.func33, Try.ntmps33
  go_wp2_with fail
  refine (windows140_any _ C hsm _ (HC.out.below (by repeat (first | exact Below.refl _ _ | apply below_al)))).mono ?_
  rw [hd0]
  rintro e w1 ⟨rfl, hb1⟩
  have HB1 : Kp (Below w.heap.size w w1) := ⟨below_call (by repeat (first | exact Below.refl _ _ | apply below_al)) hb1⟩
  have K0 : w1.heap[w.heap.size]? = some (.cells #[.slice pa C.parts.length pc, .slice ca C.chans.length cc, .int .i64 C.l0, .slice a0 C.w0.length c0, .int .i64 C.l1, .slice a1 C.w1.length c1] 31 (0, 0)) := blk_below (blk_new w _) hb1
  have e0 : w1.cell? ⟨w.heap.size, 0, none⟩ = some (.slice pa C.parts.length pc) := (cell_blk K0 0).trans rfl
  have e1 : w1.cell? ⟨w.heap.size, 1, none⟩ = some (.slice ca C.chans.length cc) := (cell_blk K0 1).trans rfl
  have e2 : w1.cell? ⟨w.heap.size, 2, none⟩ = some (.int .i64 C.l0) := (cell_blk K0 2).trans rfl
  have e3 : w1.cell? ⟨w.heap.size, 3, none⟩ = some (.slice a0 C.w0.length c0) := (cell_blk K0 3).trans rfl
  have e4 : w1.cell? ⟨w.heap.size, 4, none⟩ = some (.int .i64 C.l1) := (cell_blk K0 4).trans rfl
  have e5 : w1.cell? ⟨w.heap.size, 5, none⟩ = some (.slice a1 C.w1.length c1) := (cell_blk K0 5).trans rfl
  have l0 := blk_lt K0
  clear hb1 K0 hd0
  cases d0 with
  | true =>
    go_wp2
    go_ret
    exact ⟨ret_bool HV.out.symm, HB1.out⟩
  | false =>
    go_wp2_with fail
    refine (windows141_any _ C hsm _ (HC.out.below HB1.out)).mono ?_
    rintro e w2 ⟨rfl, hb2⟩
    go_wp2
    go_ret
    exact ⟨ret_bool (by rw [HV.out, Bool.false_or]), below_call HB1.out hb2⟩

set_option maxRecDepth 100000 in
set_option maxHeartbeats 4000000 in
theorem refHolds15 (cv : Value) (C : Cfg) (hsm : C.small) (w : World) (h : CfgAt w cv C) : Calls Try.prog 33 #[cv, .int .i64 15] w fun e w' => e = .returned (.bool (ruleB 15 C)) ∧ Below w.heap.size w w' := by
  have HC := Kp.mk h
  obtain ⟨ho, pa, pc, ca, cc, a0, c0, a1, c1, rfl, bp, bc, b0, b1, hp, hc, hw0, hw1⟩ := h
  obtain ⟨d0, hd0⟩ : ∃ d, (C.w0.any (outsideB C false)) = d := ⟨_, rfl⟩
  have HV : Kp (ruleB 15 C = (d0 || C.w1.any (outsideB C true))) := ⟨by rw [ruleB, hd0]⟩
  go_enter Try.func33, Try.ntmps33
  go_wp2_with fail
  refine (windows150_any _ C hsm _ (HC.out.below (by repeat (first | exact Below.refl _ _ | apply below_al)))).mono ?_
  rw [hd0]
  rintro e w1 ⟨rfl, hb1⟩
  have HB1 : Kp (Below w.heap.size w w1) := ⟨below_call (by repeat (first | exact Below.refl _ _ | apply below_al)) hb1⟩
  have K0 : w1.heap[w.heap.size]? = some (.cells #[.slice pa C.parts.length pc, .slice ca C.chans.length cc, .int .i64 C.l0, .slice a0 C.w0.length c0, .int .i64 C.l1, .slice a1 C.w1.length c1] 31 (0, 0)) := blk_below (blk_new w _) hb1
  have e0 : w1.cell? ⟨w.heap.size, 0, none⟩ = some (.slice pa C.parts.length pc) := (cell_blk K0 0).trans rfl
  have e1 : w1.cell? ⟨w.heap.size, 1, none⟩ = some (.slice ca C.chans.length cc) := (cell_blk K0 1).trans rfl
  have e2 : w1.cell? ⟨w.heap.size, 2, none⟩ = some (.int .i64 C.l0) := (cell_blk K0 2).trans rfl
  have e3 : w1.cell? ⟨w.heap.size, 3, none⟩ = some (.slice a0 C.w0.length c0) := (cell_blk K0 3).trans rfl
  have e4 : w1.cell? ⟨w.heap.size, 4, none⟩ = some (.int .i64 C.l1) := (cell_blk K0 4).trans rfl
  have e5 : w1.cell? ⟨w.heap.size, 5, none⟩ = some (.slice a1 C.w1.length c1) := (cell_blk K0 5).trans rfl
  have l0 := blk_lt K0
  clear hb1 K0 hd0
  cases d0 with
  | true =>
    go_wp2
    go_ret
    exact ⟨ret_bool HV.out.symm, HB1.out⟩
  | false =>
    go_wp2_with fail
    refine (windows151_any _ C hsm _ (HC.out.below HB1.out)).mono ?_
    rintro e w2 ⟨rfl, hb2⟩
    go_wp2
    go_ret
    exact ⟨ret_bool (by rw [HV.out, Bool.false_or]), below_call HB1.out hb2⟩

set_option maxRecDepth 100000 in
set_option maxHeartbeats 4000000 in
theorem refHolds16 (cv : Value) (C : Cfg) (hsm : C.small) (w : World) (h : CfgAt w cv C) : Calls Try.prog 33 #[cv, .int .i64 16] w fun e w' => e = .returned (.bool (ruleB 16 C)) ∧ Below w.heap.size w w' := by
  have HC := Kp.mk h
  obtain ⟨ho, pa, pc, ca, cc, a0, c0, a1, c1, rfl, bp, bc, b0, b1, hp, hc, hw0, hw1⟩ := h
  obtain ⟨d0, hd0⟩ : ∃ d, (crossB C.w0) = d := ⟨_, rfl⟩
  have HV : Kp (ruleB 16 C = (d0 || crossB C.w1)) := ⟨by rw [ruleB, hd0]⟩
  go_enter Try.func33, Try.ntmps33
  go_wp2_with fail
  refine (windows160_any _ C hsm _ (HC.out.below (by repeat (first | exact Below.refl _ _ | apply below_al)))).mono ?_
  rw [hd0]
  rintro e w1 ⟨rfl, hb1⟩
  have HB1 : Kp (Below w.heap.size w w1) := ⟨below_call (by repeat (first | exact Below.refl _ _ | apply below_al)) hb1⟩
  have K0 : w1.heap[w.heap.size]? = some (.cells #[.slice pa C.parts.length pc, .slice ca C.chans.length cc, .int .i64 C.l0, .slice a0 C.w0.length c0, .int .i64 C.l1, .slice a1 C.w1.length c1] 31 (0, 0)) := blk_below (blk_new w _) hb1
  have e0 : w1.cell? ⟨w.heap.size, 0, none⟩ = some (.slice pa C.parts.length pc) := (cell_blk K0 0).trans rfl
  have e1 : w1.cell? ⟨w.heap.size, 1, none⟩ = some (.slice ca C.chans.length cc) := (cell_blk K0 1).trans rfl
  have e2 : w1.cell? ⟨w.heap.size, 2, none⟩ = some (.int .i64 C.l0) := (cell_blk K0 2).trans rfl
  have e3 : w1.cell? ⟨w.heap.size, 3, none⟩ = some (.slice a0 C.w0.length c0) := (cell_blk K0 3).trans rfl
  have e4 : w1.cell? ⟨w.heap.size, 4, none⟩ = some (.int .i64 C.l1) := (cell_blk K0 4).trans rfl
  have e5 : w1.cell? ⟨w.heap.size, 5, none⟩ = some (.slice a1 C.w1.length c1) := (cell_blk K0 5).trans rfl
  have l0 := blk_lt K0
  clear hb1 K0 hd0
  cases d0 with
  | true =>
    go_wp2
    go_ret
    exact ⟨ret_bool HV.out.symm, HB1.out⟩
  | false =>
    go_wp2_with fail
    refine (windows161_any _ C hsm _ (HC.out.below HB1.out)).mono ?_
    rintro e w2 ⟨rfl, hb2⟩
    go_wp2
    go_ret
    exact ⟨ret_bool (by rw [HV.out, Bool.false_or]), below_call HB1.out hb2⟩
end Go.Proofs.Ytmidcnfmphlneaa

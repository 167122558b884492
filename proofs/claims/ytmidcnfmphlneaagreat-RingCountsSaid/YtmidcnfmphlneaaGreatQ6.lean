/- Contracts of the reference of defects: windows (16, the second frame).; Contracts of the reference of defects: Holds, of channels and windows.; Contracts of the reference of defects: has a partition a window.; Contracts of the reference of defects: Holds, of partitions.; The contracts of the reference's Holds, All and Accepts, of defects. -/
import Derived.Test.YtmidcnfmphlneaaGreatQ5
import Derived.Deep.RegionWith
import Derived.Test.YtmidcnfmphlneaaGreatQ4
namespace Go.Proofs.YtmidcnfmphlneaaGreat
section
open Go.RowKit
set_option linter.unusedSimpArgs false
set_option linter.unusedVariables false

set_option maxRecDepth 100000 in
set_option maxHeartbeats 4000000 in
theorem windows161_any (cv : Value) (C : Cfg) (hsm : C.small) (w : World) (h : CfgAt w cv C) : Calls Tryz.prog 94 #[cv, .int .i64 1, .int .i64 16] w fun e w' => e = .returned (.bool (crossB C.w1)) ∧ Below w.heap.size w w' := by
  have HC := Kp.mk h
  obtain ⟨ho, pa, pc, ca, cc, a0, c0, a1, c1, rfl, bp, bc, b0, b1, hp, hc, hw0, hw1⟩ := h
  have HW := Kp.mk hw1
  have HPT := Kp.mk hp
  have hs3 := hsm.2.2.2
  have hlen : I64 C.l1 := by first | exact ho.2.2.1 | exact ho.2.2.2.1
  clear hp hc hw0 hw1 ho
  go_enter Tryz.func94, Tryz.ntmps94
  go_wp2_with fail
  go_loopw [8] (fun i wr => ∃ k : Nat, k ≤ C.w1.length ∧ i = .int .i64 k ∧ Kp (Below w.heap.size w wr) ∧ Kp (wr.heap[w.heap.size]? = some (.cells #[.slice pa C.parts.length pc, .slice ca C.chans.length cc, .int .i64 C.l0, .slice a0 C.w0.length c0, .int .i64 C.l1, .slice a1 C.w1.length c1] 31 (0, 0))) ∧ Kp (crossK C.w1 k = false)) (fun i wr => C.w1.length - (intOf i).toNat)
  case atStart => exact ⟨0, Nat.zero_le _, rfl, ⟨below_al (Below.refl _ _) _⟩, ⟨blk_new w _⟩, ⟨rfl⟩⟩
  case round =>
    obtain ⟨k, hk, rfl, HB, HK, HN⟩ := hrel
    have q0 : wr.cell? ⟨w.heap.size, 0, none⟩ = some (.slice pa C.parts.length pc) := (cell_blk HK.out 0).trans rfl
    have q1 : wr.cell? ⟨w.heap.size, 1, none⟩ = some (.slice ca C.chans.length cc) := (cell_blk HK.out 1).trans rfl
    have q2 : wr.cell? ⟨w.heap.size, 2, none⟩ = some (.int .i64 C.l0) := (cell_blk HK.out 2).trans rfl
    have q3 : wr.cell? ⟨w.heap.size, 3, none⟩ = some (.slice a0 C.w0.length c0) := (cell_blk HK.out 3).trans rfl
    have q4 : wr.cell? ⟨w.heap.size, 4, none⟩ = some (.int .i64 C.l1) := (cell_blk HK.out 4).trans rfl
    have q5 : wr.cell? ⟨w.heap.size, 5, none⟩ = some (.slice a1 C.w1.length c1) := (cell_blk HK.out 5).trans rfl
    have l0 := blk_lt HK.out
    by_cases hlt : k < C.w1.length
    · obtain ⟨g, o, ha, hg, hcc⟩ := HW.out.at (by omega)
      obtain ⟨x, hx⟩ : ∃ x, C.w1[k] = x := ⟨_, rfl⟩
      have hcu : ∀ j, j < 3 → wr.cell? ⟨g, o + k * 3 + j, none⟩ = (winC x)[j]? := fun j hj => by
        have h1 := hcc (k * 3 + j) (by omega)
        rw [flat_at winC 3 winC_len C.w1 k j hlt hj, hx] at h1
        rw [Nat.add_assoc]
        exact (HB.out.cell (p := ⟨g, o + (k * 3 + j), none⟩) hg).trans h1
      have e0 : wr.cell? ⟨g, o + k * 3, none⟩ = some (.int .i64 x.part) := hcu 0 (by omega)
      have e1 : wr.cell? ⟨g, o + k * 3 + 1, none⟩ = some (.int .i64 x.start) := hcu 1 (by omega)
      have e2 : wr.cell? ⟨g, o + k * 3 + 2, none⟩ = some (.int .i64 x.len) := hcu 2 (by omega)
      have hgw : g < wr.heap.size := Nat.lt_of_lt_of_le hg HB.out.size
      have hm0 : crossK C.w1 (k + 1) = (crossK C.w1 k || (decide (0 < k) && pairB (C.w1.getD (k - 1) default) x)) := by
        rw [crossK_succ, List.getD_eq_getElem?_getD (i := k), List.getElem?_eq_getElem hlt, Option.getD_some, hx]
      by_cases hk0 : k = 0
      · have HN2 : Kp (crossK C.w1 (k + 1) = false) := ⟨by rw [hm0, HN.out, decide_eq_false (by omega)]; rfl⟩
        have z1 : decide (0 < (k : Int)) = false := decide_eq_false (by omega)
        have z2 : decide (0 < k) = false := decide_eq_false (by omega)
        have z3 : ¬ (0 : Int) < (k : Int) := by omega
        have z4 : ¬ 0 < k := by omega
        subst ha
        clear hcu hcc hx hm0 hk0
        go_wp2_with fail
        go_quiet (fail)
        go_wp2_with fail
        go_quiet (fail)
        go_wp2
        go_roundw
        case rel => exact ⟨k + 1, by omega, by go_num, ⟨(by repeat (first | exact HB.out | apply below_drN | apply below_al))⟩, ⟨blk_al HK.out _⟩, HN2⟩
        case measure => simp [intOf]; omega
      · obtain ⟨m, hm⟩ : ∃ m, k = m + 1 := ⟨k - 1, by omega⟩
        have hml : m < C.w1.length := by omega
        obtain ⟨u, hu⟩ : ∃ u, C.w1[m] = u := ⟨_, rfl⟩
        have hcv : ∀ j, j < 3 → wr.cell? ⟨g, o + m * 3 + j, none⟩ = (winC u)[j]? := fun j hj => by
          have h1 := hcc (m * 3 + j) (by omega)
          rw [flat_at winC 3 winC_len C.w1 m j hml hj, hu] at h1
          rw [Nat.add_assoc]
          exact (HB.out.cell (p := ⟨g, o + (m * 3 + j), none⟩) hg).trans h1
        have u0 : wr.cell? ⟨g, o + m * 3, none⟩ = some (.int .i64 u.part) := hcv 0 (by omega)
        have u1 : wr.cell? ⟨g, o + m * 3 + 1, none⟩ = some (.int .i64 u.start) := hcv 1 (by omega)
        have u2 : wr.cell? ⟨g, o + m * 3 + 2, none⟩ = some (.int .i64 u.len) := hcv 2 (by omega)
        have HS : Kp (crossK C.w1 (k + 1) = pairB u x) := ⟨by
          have h1 : k - 1 = m := by omega
          rw [hm0, HN.out, decide_eq_true (by omega), h1, List.getD_eq_getElem?_getD, List.getElem?_eq_getElem hml, Option.getD_some, hu]; rfl⟩
        have HY : Kp (pairB u x = true → crossB C.w1 = true) := ⟨fun h => crossK_mono (k := k + 1) (by rw [HS.out, h]) _ (by omega)⟩
        have HN1 : Kp (pairB u x = false → crossK C.w1 (k + 1) = false) := ⟨fun h => by rw [HS.out, h]⟩
        have s2 : IntKind.i64.wrap ((k : Int) - 1) = (m : Int) := by rw [show (k : Int) - 1 = (m : Int) by omega]; exact IntWalk.i64_in _ (by omega)
        have s4 : (0 : Int) ≤ (m : Int) := by omega
        have s5 : (m : Int) < (C.w1.length : Int) := by omega
        have s6 : (0 : Int) < (k : Int) := by omega
        have z1 : decide (0 < (k : Int)) = true := decide_eq_true s6
        have z4 : 0 < k := by omega
        have z2 : decide (0 < k) = true := decide_eq_true z4
        subst ha
        clear hcu hcc hx hcv hu hm hm0 hk0 HS HN
        cases h1 : wordB x.start with
        | false =>
          have HN2 := Kp.mk (HN1.out (by rw [pairB, h1]; simp))
          go_wp2_with fail
          go_quiet (fail)
          go_wp2_with fail
          go_quiet ((first | (go_at_call_of 104 (x.start); exact quiet_joined (word07_same x.start false h1 _))))
          go_wp2
          go_roundw
          case rel => exact ⟨k + 1, by omega, by go_num, ⟨(by repeat (first | exact HB.out | apply below_drN | apply below_al))⟩, ⟨blk_al HK.out _⟩, HN2⟩
          case measure => simp [intOf]; omega
        | true =>
          cases h2 : wordB u.start with
          | false =>
            have HN2 := Kp.mk (HN1.out (by rw [pairB, h2]; simp))
            go_wp2_with fail
            go_quiet (fail)
            go_wp2_with fail
            go_quiet ((first | (go_at_call_of 104 (x.start); exact quiet_joined (word07_same x.start true h1 _)) | (go_at_call_of 104 (u.start); exact quiet_joined (word07_same u.start false h2 _))))
            go_wp2
            go_roundw
            case rel => exact ⟨k + 1, by omega, by go_num, ⟨(by repeat (first | exact HB.out | apply below_drN | apply below_al))⟩, ⟨blk_al HK.out _⟩, HN2⟩
            case measure => simp [intOf]; omega
          | true =>
            cases h3 : wordB u.len with
            | false =>
              have HN2 := Kp.mk (HN1.out (by rw [pairB, h3]; simp))
              go_wp2_with fail
              go_quiet (fail)
              go_wp2_with fail
              go_quiet ((first | (go_at_call_of 104 (x.start); exact quiet_joined (word07_same x.start true h1 _)) | (go_at_call_of 104 (u.start); exact quiet_joined (word07_same u.start true h2 _)) | (go_at_call_of 104 (u.len); exact quiet_joined (word07_same u.len false h3 _))))
              go_wp2
              go_roundw
              case rel => exact ⟨k + 1, by omega, by go_num, ⟨(by repeat (first | exact HB.out | apply below_drN | apply below_al))⟩, ⟨blk_al HK.out _⟩, HN2⟩
              case measure => simp [intOf]; omega
            | true =>
              have r1 := inB_iff.1 h2
              have r2 := inB_iff.1 h3
              have t1 : IntKind.i64.wrap (u.start + u.len) = u.start + u.len := IntWalk.i64_in _ (by omega)
              clear r1 r2
              by_cases hz : x.start < u.start + u.len
              · have HT := Kp.mk (HY.out (by rw [pairB, h1, h2, h3, decide_eq_true hz]; rfl))
                go_wp2_with fail
                go_quiet (fail)
                go_wp2_with fail
                go_quiet ((first | (go_at_call_of 104 (x.start); exact quiet_joined (word07_same x.start true h1 _)) | (go_at_call_of 104 (u.start); exact quiet_joined (word07_same u.start true h2 _)) | (go_at_call_of 104 (u.len); exact quiet_joined (word07_same u.len true h3 _))))
                go_wp2
                go_ret
                exact ⟨ret_bool HT.out.symm, (by repeat (first | exact HB.out | apply below_drN | apply below_al))⟩
              · have hz' : decide (x.start < u.start + u.len) = false := decide_eq_false hz
                have HN2 := Kp.mk (HN1.out (by rw [pairB, hz']; simp))
                go_wp2_with fail
                go_quiet (fail)
                go_wp2_with fail
                go_quiet ((first | (go_at_call_of 104 (x.start); exact quiet_joined (word07_same x.start true h1 _)) | (go_at_call_of 104 (u.start); exact quiet_joined (word07_same u.start true h2 _)) | (go_at_call_of 104 (u.len); exact quiet_joined (word07_same u.len true h3 _))))
                go_wp2
                go_roundw
                case rel => exact ⟨k + 1, by omega, by go_num, ⟨(by repeat (first | exact HB.out | apply below_drN | apply below_al))⟩, ⟨blk_al HK.out _⟩, HN2⟩
                case measure => simp [intOf]; omega
    · obtain rfl : k = C.w1.length := by omega
      have HF : Kp (crossB C.w1 = false) := HN
      go_wp2
      go_ret
      exact ⟨ret_bool HF.out.symm, HB.out⟩
end
section
open Go.RowKit
set_option linter.unusedSimpArgs false
set_option linter.unusedVariables false

set_option maxRecDepth 100000 in
set_option maxHeartbeats 4000000 in
theorem refHolds1 (cv : Value) (C : Cfg) (hsm : C.small) (w : World) (h : CfgAt w cv C) : Calls Tryz.prog 80 #[cv, .int .i64 1] w fun e w' => e = .returned (.bool (ruleB 1 C)) ∧ Below w.heap.size w w' := by
  have HC := Kp.mk h
  obtain ⟨ho, pa, pc, ca, cc, a0, c0, a1, c1, rfl, bp, bc, b0, b1, hp, hc, hw0, hw1⟩ := h
  by_cases h1 : C.parts.length < 1
  · have HV : Kp (ruleB 1 C = true) := ⟨by rw [ruleB, inB_false (by omega)]; rfl⟩
    go_enter Tryz.func80, Tryz.ntmps80
    go_wp2
    go_ret
    exact ⟨ret_bool (by have h := HV.out; first | exact h.symm | (rw [h]; simp; omega)), (by repeat (first | exact Below.refl _ _ | apply below_al))⟩
  · have h1' : decide ((C.parts.length : Int) < 1) = false := decide_eq_false (by omega)
    by_cases h2 : 6 < C.parts.length
    · have HV : Kp (ruleB 1 C = true) := ⟨by rw [ruleB, inB_false (by omega)]; rfl⟩
      go_enter Tryz.func80, Tryz.ntmps80
      go_wp2
      go_ret
      exact ⟨ret_bool (by have h := HV.out; first | exact h.symm | (rw [h]; simp; omega)), (by repeat (first | exact Below.refl _ _ | apply below_al))⟩
    · have h2' : decide (6 < (C.parts.length : Int)) = false := decide_eq_false (by omega)
      have HV : Kp (ruleB 1 C = false) := ⟨by rw [ruleB, inB_true (by omega)]; rfl⟩
      go_enter Tryz.func80, Tryz.ntmps80
      go_wp2
      go_ret
      exact ⟨ret_bool (by have h := HV.out; first | exact h.symm | (rw [h]; simp; omega)), (by repeat (first | exact Below.refl _ _ | apply below_al))⟩

set_option maxRecDepth 100000 in
set_option maxHeartbeats 4000000 in
theorem refHolds4 (cv : Value) (C : Cfg) (hsm : C.small) (w : World) (h : CfgAt w cv C) : Calls Tryz.prog 80 #[cv, .int .i64 4] w fun e w' => e = .returned (.bool (ruleB 4 C)) ∧ Below w.heap.size w w' := by
  have HC := Kp.mk h
  obtain ⟨ho, pa, pc, ca, cc, a0, c0, a1, c1, rfl, bp, bc, b0, b1, hp, hc, hw0, hw1⟩ := h
  go_enter Tryz.func80, Tryz.ntmps80
  go_wp2
  go_ret
  exact ⟨ret_bool (by rw [ruleB, decide_eq_decide]; omega), (by repeat (first | exact Below.refl _ _ | apply below_al))⟩

set_option maxRecDepth 100000 in
set_option maxHeartbeats 4000000 in
theorem refHolds5 (cv : Value) (C : Cfg) (hsm : C.small) (w : World) (h : CfgAt w cv C) : Calls Tryz.prog 80 #[cv, .int .i64 5] w fun e w' => e = .returned (.bool (ruleB 5 C)) ∧ Below w.heap.size w w' := by
  have HC := Kp.mk h
  obtain ⟨ho, pa, pc, ca, cc, a0, c0, a1, c1, rfl, bp, bc, b0, b1, hp, hc, hw0, hw1⟩ := h
  go_enter Tryz.func80, Tryz.ntmps80
  go_wp2_with fail
  refine (chans5_any _ C hsm _ (HC.out.below (by repeat (first | exact Below.refl _ _ | apply below_al)))).mono ?_
  rintro e w1 ⟨rfl, hb1⟩
  go_wp2
  go_ret
  exact ⟨rfl, below_call (by repeat (first | exact Below.refl _ _ | apply below_al)) hb1⟩

set_option maxRecDepth 100000 in
set_option maxHeartbeats 4000000 in
theorem refHolds6 (cv : Value) (C : Cfg) (hsm : C.small) (w : World) (h : CfgAt w cv C) : Calls Tryz.prog 80 #[cv, .int .i64 6] w fun e w' => e = .returned (.bool (ruleB 6 C)) ∧ Below w.heap.size w w' := by
  have HC := Kp.mk h
  obtain ⟨ho, pa, pc, ca, cc, a0, c0, a1, c1, rfl, bp, bc, b0, b1, hp, hc, hw0, hw1⟩ := h
  go_enter Tryz.func80, Tryz.ntmps80
  go_wp2_with fail
  refine (chans6_any _ C hsm _ (HC.out.below (by repeat (first | exact Below.refl _ _ | apply below_al)))).mono ?_
  rintro e w1 ⟨rfl, hb1⟩
  go_wp2
  go_ret
  exact ⟨rfl, below_call (by repeat (first | exact Below.refl _ _ | apply below_al)) hb1⟩

set_option maxRecDepth 100000 in
set_option maxHeartbeats 4000000 in
theorem refHolds7 (cv : Value) (C : Cfg) (hsm : C.small) (w : World) (h : CfgAt w cv C) : Calls Tryz.prog 80 #[cv, .int .i64 7] w fun e w' => e = .returned (.bool (ruleB 7 C)) ∧ Below w.heap.size w w' := by
  have HC := Kp.mk h
  obtain ⟨ho, pa, pc, ca, cc, a0, c0, a1, c1, rfl, bp, bc, b0, b1, hp, hc, hw0, hw1⟩ := h
  go_enter Tryz.func80, Tryz.ntmps80
  go_wp2_with fail
  refine (chans7_any _ C hsm _ (HC.out.below (by repeat (first | exact Below.refl _ _ | apply below_al)))).mono ?_
  rintro e w1 ⟨rfl, hb1⟩
  go_wp2
  go_ret
  exact ⟨rfl, below_call (by repeat (first | exact Below.refl _ _ | apply below_al)) hb1⟩

set_option maxRecDepth 100000 in
set_option maxHeartbeats 4000000 in
theorem refHolds8 (cv : Value) (C : Cfg) (hsm : C.small) (w : World) (h : CfgAt w cv C) : Calls Tryz.prog 80 #[cv, .int .i64 8] w fun e w' => e = .returned (.bool (ruleB 8 C)) ∧ Below w.heap.size w w' := by
  have HC := Kp.mk h
  obtain ⟨ho, pa, pc, ca, cc, a0, c0, a1, c1, rfl, bp, bc, b0, b1, hp, hc, hw0, hw1⟩ := h
  go_enter Tryz.func80, Tryz.ntmps80
  go_wp2_with fail
  refine (chans8_any _ C hsm _ (HC.out.below (by repeat (first | exact Below.refl _ _ | apply below_al)))).mono ?_
  rintro e w1 ⟨rfl, hb1⟩
  go_wp2
  go_ret
  exact ⟨rfl, below_call (by repeat (first | exact Below.refl _ _ | apply below_al)) hb1⟩

set_option maxRecDepth 100000 in
set_option maxHeartbeats 4000000 in
theorem refHolds9 (cv : Value) (C : Cfg) (hsm : C.small) (w : World) (h : CfgAt w cv C) : Calls Tryz.prog 80 #[cv, .int .i64 9] w fun e w' => e = .returned (.bool (ruleB 9 C)) ∧ Below w.heap.size w w' := by
  have HC := Kp.mk h
  obtain ⟨ho, pa, pc, ca, cc, a0, c0, a1, c1, rfl, bp, bc, b0, b1, hp, hc, hw0, hw1⟩ := h
  go_enter Tryz.func80, Tryz.ntmps80
  go_wp2_with fail
  refine (chans9_any _ C hsm _ (HC.out.below (by repeat (first | exact Below.refl _ _ | apply below_al)))).mono ?_
  rintro e w1 ⟨rfl, hb1⟩
  go_wp2
  go_ret
  exact ⟨rfl, below_call (by repeat (first | exact Below.refl _ _ | apply below_al)) hb1⟩

set_option maxRecDepth 100000 in
set_option maxHeartbeats 4000000 in
theorem refHolds10 (cv : Value) (C : Cfg) (hsm : C.small) (w : World) (h : CfgAt w cv C) : Calls Tryz.prog 80 #[cv, .int .i64 10] w fun e w' => e = .returned (.bool (ruleB 10 C)) ∧ Below w.heap.size w w' := by
  have HC := Kp.mk h
  obtain ⟨ho, pa, pc, ca, cc, a0, c0, a1, c1, rfl, bp, bc, b0, b1, hp, hc, hw0, hw1⟩ := h
  go_enter Tryz.func80, Tryz.ntmps80
  go_wp2_with fail
  refine (chans10_any _ C hsm _ (HC.out.below (by repeat (first | exact Below.refl _ _ | apply below_al)))).mono ?_
  rintro e w1 ⟨rfl, hb1⟩
  go_wp2
  go_ret
  exact ⟨rfl, below_call (by repeat (first | exact Below.refl _ _ | apply below_al)) hb1⟩

set_option maxRecDepth 100000 in
set_option maxHeartbeats 4000000 in
theorem refHolds11 (cv : Value) (C : Cfg) (hsm : C.small) (w : World) (h : CfgAt w cv C) : Calls Tryz.prog 80 #[cv, .int .i64 11] w fun e w' => e = .returned (.bool (ruleB 11 C)) ∧ Below w.heap.size w w' := by
  have HC := Kp.mk h
  obtain ⟨ho, pa, pc, ca, cc, a0, c0, a1, c1, rfl, bp, bc, b0, b1, hp, hc, hw0, hw1⟩ := h
  go_enter Tryz.func80, Tryz.ntmps80
  go_wp2_with fail
  refine (chans11_any _ C hsm _ (HC.out.below (by repeat (first | exact Below.refl _ _ | apply below_al)))).mono ?_
  rintro e w1 ⟨rfl, hb1⟩
  go_wp2
  go_ret
  exact ⟨rfl, below_call (by repeat (first | exact Below.refl _ _ | apply below_al)) hb1⟩

set_option maxRecDepth 100000 in
set_option maxHeartbeats 4000000 in
theorem refHolds12 (cv : Value) (C : Cfg) (hsm : C.small) (w : World) (h : CfgAt w cv C) : Calls Tryz.prog 80 #[cv, .int .i64 12] w fun e w' => e = .returned (.bool (ruleB 12 C)) ∧ Below w.heap.size w w' := by
  have HC := Kp.mk h
  obtain ⟨ho, pa, pc, ca, cc, a0, c0, a1, c1, rfl, bp, bc, b0, b1, hp, hc, hw0, hw1⟩ := h
  obtain ⟨d0, hd0⟩ : ∃ d, (!inB C.l0 1 64) = d := ⟨_, rfl⟩
  have HV : Kp (ruleB 12 C = (d0 || !inB C.l1 1 64)) := ⟨by rw [ruleB, hd0]⟩
  go_enter Tryz.func80, Tryz.ntmps80
  go_wp2_with fail
  refine (windows120_any _ C hsm _ (HC.out.below (by repeat (first | exact Below.refl _ _ | apply below_al)))).mono ?_
  rw [hd0]
  rintro e w1 ⟨rfl, hb1⟩
  have HB1 : Kp (Below w.heap.size w w1) := ⟨below_call (by repeat (first | exact Below.refl _ _ | apply below_al)) hb1⟩
  have K0 : w1.heap[w.heap.size]? = some (.cells #[.slice pa C.parts.length pc, .slice ca C.chans.length cc, .int .i64 C.l0, .slice a0 C.w0.length c0, .int .i64 C.l1, .slice a1 C.w1.length c1] 31 (0, 0)) := blk_below (blk_new w _) hb1
  have e0 : w1.cell? ⟨w.heap.size, 0, none⟩ = some (.slice pa C.parts.length pc) := (cell_blk K0 0).trans rfl
  have e1 : w1.cell? ⟨w.heap.size, 1, none⟩ = some (.slice ca C.chans.length cc) := (cell_blk K0 1).trans rfl
  have e2 : w1.cell? ⟨w.heap.size, 2, none⟩ = some (.int .i64 C.l0) := (cell_blk K0 2).trans rfl
  have e3 : w1.cell? ⟨w.heap.size, 3, none⟩ = some (.slice a0 C.w0.length c0) := (cell_blk K0 3).trans rfl
  have e4 : w1.cell? ⟨w.heap.size, 4, none⟩ = some (.int .i64 C.l1) := (cell_blk K0 4).trans rfl
  have e5 : w1.cell? ⟨w.heap.size, 5, none⟩ = some (.slice a1 C.w1.length c1) := (cell_blk K0 5).trans rfl
  have l0 := blk_lt K0
  clear hb1 K0 hd0
  cases d0 with
  | true =>
    go_wp2
    go_ret
    exact ⟨ret_bool HV.out.symm, HB1.out⟩
  | false =>
    go_wp2_with fail
    refine (windows121_any _ C hsm _ (HC.out.below HB1.out)).mono ?_
    rintro e w2 ⟨rfl, hb2⟩
    go_wp2
    go_ret
    exact ⟨ret_bool (by rw [HV.out, Bool.false_or]), below_call HB1.out hb2⟩

set_option maxRecDepth 100000 in
set_option maxHeartbeats 4000000 in
theorem refHolds13 (cv : Value) (C : Cfg) (hsm : C.small) (w : World) (h : CfgAt w cv C) : Calls Tryz.prog 80 #[cv, .int .i64 13] w fun e w' => e = .returned (.bool (ruleB 13 C)) ∧ Below w.heap.size w w' := by
  have HC := Kp.mk h
  obtain ⟨ho, pa, pc, ca, cc, a0, c0, a1, c1, rfl, bp, bc, b0, b1, hp, hc, hw0, hw1⟩ := h
  obtain ⟨d0, hd0⟩ : ∃ d, (decide (16 < C.w0.length)) = d := ⟨_, rfl⟩
  have HV : Kp (ruleB 13 C = (d0 || decide (16 < C.w1.length))) := ⟨by rw [ruleB, hd0]⟩
  go_enter Tryz.func80, Tryz.ntmps80
  go_wp2_with fail
  refine (windows130_any _ C hsm _ (HC.out.below (by repeat (first | exact Below.refl _ _ | apply below_al)))).mono ?_
  rw [hd0]
  rintro e w1 ⟨rfl, hb1⟩
  have HB1 : Kp (Below w.heap.size w w1) := ⟨below_call (by repeat (first | exact Below.refl _ _ | apply below_al)) hb1⟩
  have K0 : w1.heap[w.heap.size]? = some (.cells #[.slice pa C.parts.length pc, .slice ca C.chans.length cc, .int .i64 C.l0, .slice a0 C.w0.length c0, .int .i64 C.l1, .slice a1 C.w1.length c1] 31 (0, 0)) := blk_below (blk_new w _) hb1
  have e0 : w1.cell? ⟨w.heap.size, 0, none⟩ = some (.slice pa C.parts.length pc) := (cell_blk K0 0).trans rfl
  have e1 : w1.cell? ⟨w.heap.size, 1, none⟩ = some (.slice ca C.chans.length cc) := (cell_blk K0 1).trans rfl
  have e2 : w1.cell? ⟨w.heap.size, 2, none⟩ = some (.int .i64 C.l0) := (cell_blk K0 2).trans rfl
  have e3 : w1.cell? ⟨w.heap.size, 3, none⟩ = some (.slice a0 C.w0.length c0) := (cell_blk K0 3).trans rfl
  have e4 : w1.cell? ⟨w.heap.size, 4, none⟩ = some (.int .i64 C.l1) := (cell_blk K0 4).trans rfl
  have e5 : w1.cell? ⟨w.heap.size, 5, none⟩ = some (.slice a1 C.w1.length c1) := (cell_blk K0 5).trans rfl
  have l0 := blk_lt K0
  clear hb1 K0 hd0
  cases d0 with
  | true =>
    go_wp2
    go_ret
    exact ⟨ret_bool HV.out.symm, HB1.out⟩
  | false =>
    go_wp2_with fail
    refine (windows131_any _ C hsm _ (HC.out.below HB1.out)).mono ?_
    rintro e w2 ⟨rfl, hb2⟩
    go_wp2
    go_ret
    exact ⟨ret_bool (by rw [HV.out, Bool.false_or]), below_call HB1.out hb2⟩

set_option maxRecDepth 100000 in
set_option maxHeartbeats 4000000 in
theorem refHolds14 (cv : Value) (C : Cfg) (hsm : C.small) (w : World) (h : CfgAt w cv C) : Calls Tryz.prog 80 #[cv, .int .i64 14] w fun e w' => e = .returned (.bool (ruleB 14 C)) ∧ Below w.heap.size w w' := by
  have HC := Kp.mk h
  obtain ⟨ho, pa, pc, ca, cc, a0, c0, a1, c1, rfl, bp, bc, b0, b1, hp, hc, hw0, hw1⟩ := h
  obtain ⟨d0, hd0⟩ : ∃ d, (C.w0.any (foreignB C false)) = d := ⟨_, rfl⟩
  have HV : Kp (ruleB 14 C = (d0 || C.w1.any (foreignB C true))) := ⟨by rw [ruleB, hd0]⟩
  go_enter Tryz.func80, Tryz.ntmps80
  go_wp2_with fail
  refine (windows140_any _ C hsm _ (HC.out.below (by repeat (first | exact Below.refl _ _ | apply below_al)))).mono ?_
  rw [hd0]
  rintro e w1 ⟨rfl, hb1⟩
  have HB1 : Kp (Below w.heap.size w w1) := ⟨below_call (by repeat (first | exact Below.refl _ _ | apply below_al)) hb1⟩
  have K0 : w1.heap[w.heap.size]? = some (.cells #[.slice pa C.parts.length pc, .slice ca C.chans.length cc, .int .i64 C.l0, .slice a0 C.w0.length c0, .int .i64 C.l1, .slice a1 C.w1.length c1] 31 (0, 0)) := blk_below (blk_new w _) hb1
  have e0 : w1.cell? ⟨w.heap.size, 0, none⟩ = some (.slice pa C.parts.length pc) := (cell_blk K0 0).trans rfl
  have e1 : w1.cell? ⟨w.heap.size, 1, none⟩ = some (.slice ca C.chans.length cc) := (cell_blk K0 1).trans rfl
  have e2 : w1.cell? ⟨w.heap.size, 2, none⟩ = some (.int .i64 C.l0) := (cell_blk K0 2).trans rfl
  have e3 : w1.cell? ⟨w.heap.size, 3, none⟩ = some (.slice a0 C.w0.length c0) := (cell_blk K0 3).trans rfl
  have e4 : w1.cell? ⟨w.heap.size, 4, none⟩ = some (.int .i64 C.l1) := (cell_blk K0 4).trans rfl
  have e5 : w1.cell? ⟨w.heap.size, 5, none⟩ = some (.slice a1 C.w1.length c1) := (cell_blk K0 5).trans rfl
  have l0 := blk_lt K0
  clear hb1 K0 hd0
  cases d0 with
  | true =>
    go_wp2
    go_ret
    exact ⟨ret_bool HV.out.symm, HB1.out⟩
  | false =>
    go_wp2_with fail
    refine (windows141_any _ C hsm _ (HC.out.below HB1.out)).mono ?_
    rintro e w2 ⟨rfl, hb2⟩
    go_wp2
    go_ret
    exact ⟨ret_bool (by rw [HV.out, Bool.false_or]), below_call HB1.out hb2⟩

set_option maxRecDepth 100000 in
set_option maxHeartbeats 4000000 in
theorem refHolds15 (cv : Value) (C : Cfg) (hsm : C.small) (w : World) (h : CfgAt w cv C) : Calls Tryz.prog 80 #[cv, .int .i64 15] w fun e w' => e = .returned (.bool (ruleB 15 C)) ∧ Below w.heap.size w w' := by
  have HC := Kp.mk h
  obtain ⟨ho, pa, pc, ca, cc, a0, c0, a1, c1, rfl, bp, bc, b0, b1, hp, hc, hw0, hw1⟩ := h
  obtain ⟨d0, hd0⟩ : ∃ d, (C.w0.any (outsideB C false)) = d := ⟨_, rfl⟩
  have HV : Kp (ruleB 15 C = (d0 || C.w1.any (outsideB C true))) := ⟨by rw [ruleB, hd0]⟩
  go_enter Tryz.func80, Tryz.ntmps80
  go_wp2_with fail
  refine (windows150_any _ C hsm _ (HC.out.below (by repeat (first | exact Below.refl _ _ | apply below_al)))).mono ?_
  rw [hd0]
  rintro e w1 ⟨rfl, hb1⟩
  have HB1 : Kp (Below w.heap.size w w1) := ⟨below_call (by repeat (first | exact Below.refl _ _ | apply below_al)) hb1⟩
  have K0 : w1.heap[w.heap.size]? = some (.cells #[.slice pa C.parts.length pc, .slice ca C.chans.length cc, .int .i64 C.l0, .slice a0 C.w0.length c0, .int .i64 C.l1, .slice a1 C.w1.length c1] 31 (0, 0)) := blk_below (blk_new w _) hb1
  have e0 : w1.cell? ⟨w.heap.size, 0, none⟩ = some (.slice pa C.parts.length pc) := (cell_blk K0 0).trans rfl
  have e1 : w1.cell? ⟨w.heap.size, 1, none⟩ = some (.slice ca C.chans.length cc) := (cell_blk K0 1).trans rfl
  have e2 : w1.cell? ⟨w.heap.size, 2, none⟩ = some (.int .i64 C.l0) := (cell_blk K0 2).trans rfl
  have e3 : w1.cell? ⟨w.heap.size, 3, none⟩ = some (.slice a0 C.w0.length c0) := (cell_blk K0 3).trans rfl
  have e4 : w1.cell? ⟨w.heap.size, 4, none⟩ = some (.int .i64 C.l1) := (cell_blk K0 4).trans rfl
  have e5 : w1.cell? ⟨w.heap.size, 5, none⟩ = some (.slice a1 C.w1.length c1) := (cell_blk K0 5).trans rfl
  have l0 := blk_lt K0
  clear hb1 K0 hd0
  cases d0 with
  | true =>
    go_wp2
    go_ret
    exact ⟨ret_bool HV.out.symm, HB1.out⟩
  | false =>
    go_wp2_with fail
    refine (windows151_any _ C hsm _ (HC.out.below HB1.out)).mono ?_
    rintro e w2 ⟨rfl, hb2⟩
    go_wp2
    go_ret
    exact ⟨ret_bool (by rw [HV.out, Bool.false_or]), below_call HB1.out hb2⟩

set_option maxRecDepth 100000 in
set_option maxHeartbeats 4000000 in
theorem refHolds16 (cv : Value) (C : Cfg) (hsm : C.small) (w : World) (h : CfgAt w cv C) : Calls Tryz.prog 80 #[cv, .int .i64 16] w fun e w' => e = .returned (.bool (ruleB 16 C)) ∧ Below w.heap.size w w' := by
  have HC := Kp.mk h
  obtain ⟨ho, pa, pc, ca, cc, a0, c0, a1, c1, rfl, bp, bc, b0, b1, hp, hc, hw0, hw1⟩ := h
  obtain ⟨d0, hd0⟩ : ∃ d, (crossB C.w0) = d := ⟨_, rfl⟩
  have HV : Kp (ruleB 16 C = (d0 || crossB C.w1)) := ⟨by rw [ruleB, hd0]⟩
  go_enter Tryz.func80, Tryz.ntmps80
  go_wp2_with fail
  refine (windows160_any _ C hsm _ (HC.out.below (by repeat (first | exact Below.refl _ _ | apply below_al)))).mono ?_
  rw [hd0]
  rintro e w1 ⟨rfl, hb1⟩
  have HB1 : Kp (Below w.heap.size w w1) := ⟨below_call (by repeat (first | exact Below.refl _ _ | apply below_al)) hb1⟩
  have K0 : w1.heap[w.heap.size]? = some (.cells #[.slice pa C.parts.length pc, .slice ca C.chans.length cc, .int .i64 C.l0, .slice a0 C.w0.length c0, .int .i64 C.l1, .slice a1 C.w1.length c1] 31 (0, 0)) := blk_below (blk_new w _) hb1
  have e0 : w1.cell? ⟨w.heap.size, 0, none⟩ = some (.slice pa C.parts.length pc) := (cell_blk K0 0).trans rfl
  have e1 : w1.cell? ⟨w.heap.size, 1, none⟩ = some (.slice ca C.chans.length cc) := (cell_blk K0 1).trans rfl
  have e2 : w1.cell? ⟨w.heap.size, 2, none⟩ = some (.int .i64 C.l0) := (cell_blk K0 2).trans rfl
  have e3 : w1.cell? ⟨w.heap.size, 3, none⟩ = some (.slice a0 C.w0.length c0) := (cell_blk K0 3).trans rfl
  have e4 : w1.cell? ⟨w.heap.size, 4, none⟩ = some (.int .i64 C.l1) := (cell_blk K0 4).trans rfl
  have e5 : w1.cell? ⟨w.heap.size, 5, none⟩ = some (.slice a1 C.w1.length c1) := (cell_blk K0 5).trans rfl
  have l0 := blk_lt K0
  clear hb1 K0 hd0
  cases d0 with
  | true =>
    go_wp2
    go_ret
    exact ⟨ret_bool HV.out.symm, HB1.out⟩
  | false =>
    go_wp2_with fail
    refine (windows161_any _ C hsm _ (HC.out.below HB1.out)).mono ?_
    rintro e w2 ⟨rfl, hb2⟩
    go_wp2
    go_ret
    exact ⟨ret_bool (by rw [HV.out, Bool.false_or]), below_call HB1.out hb2⟩
end
section
open Go.RowKit
set_option linter.unusedSimpArgs false
set_option linter.unusedVariables false

set_option maxRecDepth 100000 in
set_option maxHeartbeats 4000000 in
theorem window07_0 (cv : Value) (C : Cfg) (hsm : C.small) (i : Nat) (hi : i < C.parts.length) (hcore : C.parts[i].1 = 0) (w : World) (h : CfgAt w cv C) : Calls Tryz.prog 92 #[cv, .int .i64 i] w fun e w' => e = .returned (.bool (C.w0.any fun y => y.part == (i : Int))) ∧ Below w.heap.size w w' := by
  obtain ⟨ho, pa, pc, ca, cc, a0, c0, a1, c1, rfl, bp, bc, b0, b1, hp, hc, hw0, hw1⟩ := h
  have HP := Kp.mk hp
  have HW := Kp.mk hw0
  have hs3 := hsm.2.2.1
  clear hp hc hw0 hw1 ho
  obtain ⟨g2, o2, hpa, hg2, hcc2⟩ := HP.out.at (by omega)
  have hcj := hcc2 (i * 2 + 0) (by omega)
  rw [flat_at partC 2 partC_len C.parts i 0 hi (by omega)] at hcj
  have hci : w.cell? ⟨g2, o2 + i * 2, none⟩ = some (.int .i64 0) := by
    have h1 : w.cell? ⟨g2, o2 + i * 2, none⟩ = some (.int .i64 C.parts[i].1) := hcj
    rw [h1, hcore]
  have i0 : (0 : Int) ≤ (i : Int) := by omega
  have i1 : (i : Int) < (C.parts.length : Int) := by omega
  obtain ⟨p, hpp⟩ : ∃ p : Win → Bool, p = fun y => y.part == (i : Int) := ⟨_, rfl⟩
  have HPP := Kp.mk hpp
  rw [← hpp]
  subst hpa
  clear hcj hcc2 hcore hpp
  go_enter Tryz.func92, Tryz.ntmps92
  go_wp2_with fail
  go_loopw [6] (fun j wr => ∃ k : Nat, k ≤ C.w0.length ∧ j = .int .i64 k ∧ Kp (Below w.heap.size w wr) ∧ Kp ((C.w0.take k).any p = false)) (fun j wr => C.w0.length - (intOf j).toNat)
  case atStart => exact ⟨0, Nat.zero_le _, rfl, ⟨below_al (Below.refl _ _) _⟩, ⟨rfl⟩⟩
  case round =>
    obtain ⟨k, hk, rfl, HB, HN⟩ := hrel
    by_cases hlt : k < C.w0.length
    · obtain ⟨g, o, ha, hg, hcc⟩ := HW.out.at (by omega)
      obtain ⟨x, hx⟩ : ∃ x, C.w0[k] = x := ⟨_, rfl⟩
      have hcu : ∀ j, j < 3 → wr.cell? ⟨g, o + k * 3 + j, none⟩ = (winC x)[j]? := fun j hj => by
        have h1 := hcc (k * 3 + j) (by omega)
        rw [flat_at winC 3 winC_len C.w0 k j hlt hj, hx] at h1
        rw [Nat.add_assoc]
        exact (HB.out.cell (p := ⟨g, o + (k * 3 + j), none⟩) hg).trans h1
      have e0 : wr.cell? ⟨g, o + k * 3, none⟩ = some (.int .i64 x.part) := hcu 0 (by omega)
      have HA : Kp ((C.w0.take (k + 1)).any p = ((C.w0.take k).any p || p x)) := ⟨by rw [List.take_succ_eq_append_getElem hlt, List.any_append, hx]; simp⟩
      have HX : Kp (x ∈ C.w0) := ⟨hx ▸ List.getElem_mem hlt⟩
      have HY : Kp (p x = true → C.w0.any p = true) := ⟨fun h => List.any_eq_true.2 ⟨x, HX.out, h⟩⟩
      have HN1 : Kp (p x = false → (C.w0.take (k + 1)).any p = false) := ⟨fun h => by rw [HA.out, HN.out, h]; rfl⟩
      obtain ⟨d, hd⟩ : ∃ d, (x.part == (i : Int)) = d := ⟨_, rfl⟩
      have HPX : Kp (p x = d) := ⟨by rw [HPP.out, ← hd]⟩
      subst ha
      clear hcu hcc hx HA HN HX
      cases d with
      | true =>
        have HT := Kp.mk (HY.out HPX.out)
        go_wp2
        go_ret
        exact ⟨ret_bool HT.out.symm, HB.out⟩
      | false =>
        have HN2 := Kp.mk (HN1.out HPX.out)
        go_wp2
        go_roundw
        case rel => exact ⟨k + 1, by omega, by go_num, HB, HN2⟩
        case measure => simp [intOf]; omega
    · obtain rfl : k = C.w0.length := by omega
      have h1 := HN.out
      rw [List.take_length] at h1
      have HF := Kp.mk h1
      clear h1
      go_wp2
      go_ret
      exact ⟨ret_bool HF.out.symm, HB.out⟩

set_option maxRecDepth 100000 in
set_option maxHeartbeats 4000000 in
theorem window07_1 (cv : Value) (C : Cfg) (hsm : C.small) (i : Nat) (hi : i < C.parts.length) (hcore : C.parts[i].1 = 1) (w : World) (h : CfgAt w cv C) : Calls Tryz.prog 92 #[cv, .int .i64 i] w fun e w' => e = .returned (.bool (C.w1.any fun y => y.part == (i : Int))) ∧ Below w.heap.size w w' := by
  obtain ⟨ho, pa, pc, ca, cc, a0, c0, a1, c1, rfl, bp, bc, b0, b1, hp, hc, hw0, hw1⟩ := h
  have HP := Kp.mk hp
  have HW := Kp.mk hw1
  have hs3 := hsm.2.2.2
  clear hp hc hw0 hw1 ho
  obtain ⟨g2, o2, hpa, hg2, hcc2⟩ := HP.out.at (by omega)
  have hcj := hcc2 (i * 2 + 0) (by omega)
  rw [flat_at partC 2 partC_len C.parts i 0 hi (by omega)] at hcj
  have hci : w.cell? ⟨g2, o2 + i * 2, none⟩ = some (.int .i64 1) := by
    have h1 : w.cell? ⟨g2, o2 + i * 2, none⟩ = some (.int .i64 C.parts[i].1) := hcj
    rw [h1, hcore]
  have i0 : (0 : Int) ≤ (i : Int) := by omega
  have i1 : (i : Int) < (C.parts.length : Int) := by omega
  obtain ⟨p, hpp⟩ : ∃ p : Win → Bool, p = fun y => y.part == (i : Int) := ⟨_, rfl⟩
  have HPP := Kp.mk hpp
  rw [← hpp]
  subst hpa
  clear hcj hcc2 hcore hpp
  go_enter Tryz.func92, Tryz.ntmps92
  go_wp2_with fail
  go_loopw [6] (fun j wr => ∃ k : Nat, k ≤ C.w1.length ∧ j = .int .i64 k ∧ Kp (Below w.heap.size w wr) ∧ Kp ((C.w1.take k).any p = false)) (fun j wr => C.w1.length - (intOf j).toNat)
  case atStart => exact ⟨0, Nat.zero_le _, rfl, ⟨below_al (Below.refl _ _) _⟩, ⟨rfl⟩⟩
  case round =>
    obtain ⟨k, hk, rfl, HB, HN⟩ := hrel
    by_cases hlt : k < C.w1.length
    · obtain ⟨g, o, ha, hg, hcc⟩ := HW.out.at (by omega)
      obtain ⟨x, hx⟩ : ∃ x, C.w1[k] = x := ⟨_, rfl⟩
      have hcu : ∀ j, j < 3 → wr.cell? ⟨g, o + k * 3 + j, none⟩ = (winC x)[j]? := fun j hj => by
        have h1 := hcc (k * 3 + j) (by omega)
        rw [flat_at winC 3 winC_len C.w1 k j hlt hj, hx] at h1
        rw [Nat.add_assoc]
        exact (HB.out.cell (p := ⟨g, o + (k * 3 + j), none⟩) hg).trans h1
      have e0 : wr.cell? ⟨g, o + k * 3, none⟩ = some (.int .i64 x.part) := hcu 0 (by omega)
      have HA : Kp ((C.w1.take (k + 1)).any p = ((C.w1.take k).any p || p x)) := ⟨by rw [List.take_succ_eq_append_getElem hlt, List.any_append, hx]; simp⟩
      have HX : Kp (x ∈ C.w1) := ⟨hx ▸ List.getElem_mem hlt⟩
      have HY : Kp (p x = true → C.w1.any p = true) := ⟨fun h => List.any_eq_true.2 ⟨x, HX.out, h⟩⟩
      have HN1 : Kp (p x = false → (C.w1.take (k + 1)).any p = false) := ⟨fun h => by rw [HA.out, HN.out, h]; rfl⟩
      obtain ⟨d, hd⟩ : ∃ d, (x.part == (i : Int)) = d := ⟨_, rfl⟩
      have HPX : Kp (p x = d) := ⟨by rw [HPP.out, ← hd]⟩
      subst ha
      clear hcu hcc hx HA HN HX
      cases d with
      | true =>
        have HT := Kp.mk (HY.out HPX.out)
        go_wp2
        go_ret
        exact ⟨ret_bool HT.out.symm, HB.out⟩
      | false =>
        have HN2 := Kp.mk (HN1.out HPX.out)
        go_wp2
        go_roundw
        case rel => exact ⟨k + 1, by omega, by go_num, HB, HN2⟩
        case measure => simp [intOf]; omega
    · obtain rfl : k = C.w1.length := by omega
      have h1 := HN.out
      rw [List.take_length] at h1
      have HF := Kp.mk h1
      clear h1
      go_wp2
      go_ret
      exact ⟨ret_bool HF.out.symm, HB.out⟩

set_option maxHeartbeats 1000000 in
theorem window07_no (cv : Value) (C : Cfg) (i : Nat) (hi : i < C.parts.length) (h0 : C.parts[i].1 ≠ 0) (h1 : C.parts[i].1 ≠ 1) (w : World) (h : CfgAt w cv C) : Calls Tryz.prog 92 #[cv, .int .i64 i] w fun e w' => e = .returned (.bool false) ∧ Below w.heap.size w w' := by
  obtain ⟨ho, pa, pc, ca, cc, a0, c0, a1, c1, rfl, bp, bc, b0, b1, hp, hc, hw0, hw1⟩ := h
  have HP := Kp.mk hp
  clear hp hc hw0 hw1 ho
  obtain ⟨g2, o2, hpa, hg2, hcc2⟩ := HP.out.at (by omega)
  have hcj := hcc2 (i * 2 + 0) (by omega)
  rw [flat_at partC 2 partC_len C.parts i 0 hi (by omega)] at hcj
  obtain ⟨q, hq⟩ : ∃ q, C.parts[i].1 = q := ⟨_, rfl⟩
  have hci : w.cell? ⟨g2, o2 + i * 2, none⟩ = some (.int .i64 q) := by
    have h1 : w.cell? ⟨g2, o2 + i * 2, none⟩ = some (.int .i64 C.parts[i].1) := hcj
    rw [h1, hq]
  rw [hq] at h0 h1
  have i0 : (0 : Int) ≤ (i : Int) := by omega
  have i1 : (i : Int) < (C.parts.length : Int) := by omega
  have b0' : (q != 0) = true := by simpa using h0
  have b1' : (q != 1) = true := by simpa using h1
  subst hpa
  clear hcj hcc2 hq
  go_enter Tryz.func92, Tryz.ntmps92
  go_wp2
  go_ret
  exact ⟨rfl, (by repeat (first | exact Below.refl _ _ | apply below_al))⟩
theorem window07_any (cv : Value) (C : Cfg) (hsm : C.small) (i : Nat) (hi : i < C.parts.length) (b : Bool) (hb : idleB C i = b) (w : World) (h : CfgAt w cv C) : Calls Tryz.prog 92 #[cv, .int .i64 i] w fun e w' => e = .returned (.bool (!b)) ∧ Below w.heap.size w w' := by
  have hid : idleB C i = (!inB C.parts[i].1 0 1 || !((C.winI C.parts[i].1).any fun x => x.part == (i : Int))) := by
    rw [idleB, List.getD_eq_getElem?_getD, List.getElem?_eq_getElem hi, Option.getD_some]
  by_cases h0 : C.parts[i].1 = 0
  · refine (window07_0 cv C hsm i hi h0 w h).mono ?_
    rintro e w1 ⟨rfl, hb1⟩
    refine ⟨ret_bool ?_, hb1⟩
    rw [← hb, hid, h0, inB_true (by omega), Bool.not_or, Bool.not_not, Bool.not_not, Bool.true_and]
    rfl
  · by_cases h1 : C.parts[i].1 = 1
    · refine (window07_1 cv C hsm i hi h1 w h).mono ?_
      rintro e w1 ⟨rfl, hb1⟩
      refine ⟨ret_bool ?_, hb1⟩
      rw [← hb, hid, h1, inB_true (by omega), Bool.not_or, Bool.not_not, Bool.not_not, Bool.true_and]
      rfl
    · refine (window07_no cv C i hi h0 h1 w h).mono ?_
      rintro e w1 ⟨rfl, hb1⟩
      refine ⟨ret_bool ?_, hb1⟩
      rw [← hb, hid, inB_false (by omega)]
      rfl
end
section
open Go.RowKit
set_option linter.unusedSimpArgs false
set_option linter.unusedVariables false

set_option maxRecDepth 100000 in
set_option maxHeartbeats 4000000 in
theorem refHolds2 (cv : Value) (C : Cfg) (hsm : C.small) (w : World) (h : CfgAt w cv C) : Calls Tryz.prog 80 #[cv, .int .i64 2] w fun e w' => e = .returned (.bool (ruleB 2 C)) ∧ Below w.heap.size w w' := by
  have HC := Kp.mk h
  obtain ⟨ho, pa, pc, ca, cc, a0, c0, a1, c1, rfl, bp, bc, b0, b1, hp, hc, hw0, hw1⟩ := h
  have HP := Kp.mk hp
  have hs1 := hsm.1
  clear hp hc hw0 hw1 ho
  go_enter Tryz.func80, Tryz.ntmps80
  go_wp2_with fail
  go_loopw [5] (fun i wr => ∃ k : Nat, k ≤ C.parts.length ∧ i = .int .i64 k ∧ Kp (Below w.heap.size w wr) ∧ Kp (wr.heap[w.heap.size]? = some (.cells #[.slice pa C.parts.length pc, .slice ca C.chans.length cc, .int .i64 C.l0, .slice a0 C.w0.length c0, .int .i64 C.l1, .slice a1 C.w1.length c1] 31 (0, 0))) ∧ Kp ((C.parts.take k).any (fun x => !inB x.1 0 1) = false)) (fun i wr => C.parts.length - (intOf i).toNat)
  case atStart => exact ⟨0, Nat.zero_le _, rfl, ⟨below_al (Below.refl _ _) _⟩, ⟨blk_new w _⟩, ⟨rfl⟩⟩
  case round =>
    obtain ⟨k, hk, rfl, HB, HK, HN⟩ := hrel
    have q0 : wr.cell? ⟨w.heap.size, 0, none⟩ = some (.slice pa C.parts.length pc) := (cell_blk HK.out 0).trans rfl
    have q1 : wr.cell? ⟨w.heap.size, 1, none⟩ = some (.slice ca C.chans.length cc) := (cell_blk HK.out 1).trans rfl
    have q2 : wr.cell? ⟨w.heap.size, 2, none⟩ = some (.int .i64 C.l0) := (cell_blk HK.out 2).trans rfl
    have q3 : wr.cell? ⟨w.heap.size, 3, none⟩ = some (.slice a0 C.w0.length c0) := (cell_blk HK.out 3).trans rfl
    have q4 : wr.cell? ⟨w.heap.size, 4, none⟩ = some (.int .i64 C.l1) := (cell_blk HK.out 4).trans rfl
    have q5 : wr.cell? ⟨w.heap.size, 5, none⟩ = some (.slice a1 C.w1.length c1) := (cell_blk HK.out 5).trans rfl
    have l0 := blk_lt HK.out
    by_cases hlt : k < C.parts.length
    · obtain ⟨g, o, ha, hg, hcc⟩ := HP.out.at (by omega)
      obtain ⟨x, hx⟩ : ∃ x, C.parts[k] = x := ⟨_, rfl⟩
      have hcu : ∀ j, j < 2 → wr.cell? ⟨g, o + k * 2 + j, none⟩ = (partC x)[j]? := fun j hj => by
        have h1 := hcc (k * 2 + j) (by omega)
        rw [flat_at partC 2 partC_len C.parts k j hlt hj, hx] at h1
        rw [Nat.add_assoc]
        exact (HB.out.cell (p := ⟨g, o + (k * 2 + j), none⟩) hg).trans h1
      have e0 : wr.cell? ⟨g, o + k * 2, none⟩ = some (.int .i64 x.1) := hcu 0 (by omega)
      have e1 : wr.cell? ⟨g, o + k * 2 + 1, none⟩ = some (.int .i64 x.2) := hcu 1 (by omega)
      obtain ⟨p1, p2⟩ := x
      dsimp only at e0 e1
      have HY : Kp ((!inB p1 0 1) = true → ruleB 2 C = true) := ⟨fun h => List.any_eq_true.2 ⟨(p1, p2), hx ▸ List.getElem_mem hlt, h⟩⟩
      have HN1 : Kp ((!inB p1 0 1) = false → (C.parts.take (k + 1)).any (fun x => !inB x.1 0 1) = false) := ⟨fun h => by rw [List.take_succ_eq_append_getElem hlt, List.any_append, HN.out, hx]; simp only [List.any_cons, List.any_nil, h]; rfl⟩
      subst ha
      clear hcu hcc hx HN
      by_cases h0 : p1 = 0
      · subst h0
        have HN2 := Kp.mk (HN1.out (by rw [inB_true (by omega)]; rfl))
        go_wp2
        go_roundw
        case rel => exact ⟨k + 1, by omega, by go_num, ⟨below_al HB.out _⟩, ⟨blk_al HK.out _⟩, HN2⟩
        case measure => simp [intOf]; omega
      · have h0' : (p1 != 0) = true := by simpa using h0
        by_cases h1 : p1 = 1
        · subst h1
          have HN2 := Kp.mk (HN1.out (by rw [inB_true (by omega)]; rfl))
          go_wp2
          go_roundw
          case rel => exact ⟨k + 1, by omega, by go_num, ⟨below_al HB.out _⟩, ⟨blk_al HK.out _⟩, HN2⟩
          case measure => simp [intOf]; omega
        · have h1' : (p1 != 1) = true := by simpa using h1
          have HT := Kp.mk (HY.out (by rw [inB_false (by omega)]; rfl))
          go_wp2
          go_ret
          exact ⟨ret_bool HT.out.symm, below_al HB.out _⟩
    · obtain rfl : k = C.parts.length := by omega
      have h1 := HN.out
      rw [List.take_length] at h1
      have HF : Kp (ruleB 2 C = false) := ⟨h1⟩
      clear h1
      go_wp2
      go_ret
      exact ⟨ret_bool HF.out.symm, HB.out⟩

set_option maxRecDepth 100000 in
set_option maxHeartbeats 4000000 in
theorem refHolds3 (cv : Value) (C : Cfg) (hsm : C.small) (w : World) (h : CfgAt w cv C) : Calls Tryz.prog 80 #[cv, .int .i64 3] w fun e w' => e = .returned (.bool (ruleB 3 C)) ∧ Below w.heap.size w w' := by
  have HC := Kp.mk h
  obtain ⟨ho, pa, pc, ca, cc, a0, c0, a1, c1, rfl, bp, bc, b0, b1, hp, hc, hw0, hw1⟩ := h
  have HP := Kp.mk hp
  have hs1 := hsm.1
  clear hp hc hw0 hw1 ho
  go_enter Tryz.func80, Tryz.ntmps80
  go_wp2_with fail
  go_loopw [5] (fun i wr => ∃ k : Nat, k ≤ C.parts.length ∧ i = .int .i64 k ∧ Kp (Below w.heap.size w wr) ∧ Kp (wr.heap[w.heap.size]? = some (.cells #[.slice pa C.parts.length pc, .slice ca C.chans.length cc, .int .i64 C.l0, .slice a0 C.w0.length c0, .int .i64 C.l1, .slice a1 C.w1.length c1] 31 (0, 0))) ∧ Kp ((C.parts.take k).any (fun x => !inB x.2 0 64) = false)) (fun i wr => C.parts.length - (intOf i).toNat)
  case atStart => exact ⟨0, Nat.zero_le _, rfl, ⟨below_al (Below.refl _ _) _⟩, ⟨blk_new w _⟩, ⟨rfl⟩⟩
  case round =>
    obtain ⟨k, hk, rfl, HB, HK, HN⟩ := hrel
    have q0 : wr.cell? ⟨w.heap.size, 0, none⟩ = some (.slice pa C.parts.length pc) := (cell_blk HK.out 0).trans rfl
    have q1 : wr.cell? ⟨w.heap.size, 1, none⟩ = some (.slice ca C.chans.length cc) := (cell_blk HK.out 1).trans rfl
    have q2 : wr.cell? ⟨w.heap.size, 2, none⟩ = some (.int .i64 C.l0) := (cell_blk HK.out 2).trans rfl
    have q3 : wr.cell? ⟨w.heap.size, 3, none⟩ = some (.slice a0 C.w0.length c0) := (cell_blk HK.out 3).trans rfl
    have q4 : wr.cell? ⟨w.heap.size, 4, none⟩ = some (.int .i64 C.l1) := (cell_blk HK.out 4).trans rfl
    have q5 : wr.cell? ⟨w.heap.size, 5, none⟩ = some (.slice a1 C.w1.length c1) := (cell_blk HK.out 5).trans rfl
    have l0 := blk_lt HK.out
    by_cases hlt : k < C.parts.length
    · obtain ⟨g, o, ha, hg, hcc⟩ := HP.out.at (by omega)
      obtain ⟨x, hx⟩ : ∃ x, C.parts[k] = x := ⟨_, rfl⟩
      have hcu : ∀ j, j < 2 → wr.cell? ⟨g, o + k * 2 + j, none⟩ = (partC x)[j]? := fun j hj => by
        have h1 := hcc (k * 2 + j) (by omega)
        rw [flat_at partC 2 partC_len C.parts k j hlt hj, hx] at h1
        rw [Nat.add_assoc]
        exact (HB.out.cell (p := ⟨g, o + (k * 2 + j), none⟩) hg).trans h1
      have e0 : wr.cell? ⟨g, o + k * 2, none⟩ = some (.int .i64 x.1) := hcu 0 (by omega)
      have e1 : wr.cell? ⟨g, o + k * 2 + 1, none⟩ = some (.int .i64 x.2) := hcu 1 (by omega)
      obtain ⟨p1, p2⟩ := x
      dsimp only at e0 e1
      have HY : Kp ((!inB p2 0 64) = true → ruleB 3 C = true) := ⟨fun h => List.any_eq_true.2 ⟨(p1, p2), hx ▸ List.getElem_mem hlt, h⟩⟩
      have HN1 : Kp ((!inB p2 0 64) = false → (C.parts.take (k + 1)).any (fun x => !inB x.2 0 64) = false) := ⟨fun h => by rw [List.take_succ_eq_append_getElem hlt, List.any_append, HN.out, hx]; simp only [List.any_cons, List.any_nil, h]; rfl⟩
      subst ha
      clear hcu hcc hx HN
      by_cases h0 : p2 < 0
      · have HT := Kp.mk (HY.out (by rw [inB_false (by omega)]; rfl))
        go_wp2
        go_ret
        exact ⟨ret_bool HT.out.symm, below_al HB.out _⟩
      · have h0' : decide (p2 < 0) = false := decide_eq_false h0
        by_cases h1 : 64 < p2
        · have HT := Kp.mk (HY.out (by rw [inB_false (by omega)]; rfl))
          go_wp2
          go_ret
          exact ⟨ret_bool HT.out.symm, below_al HB.out _⟩
        · have h1' : decide (64 < p2) = false := decide_eq_false h1
          have HN2 := Kp.mk (HN1.out (by rw [inB_true (by omega)]; rfl))
          go_wp2
          go_roundw
          case rel => exact ⟨k + 1, by omega, by go_num, ⟨below_al HB.out _⟩, ⟨blk_al HK.out _⟩, HN2⟩
          case measure => simp [intOf]; omega
    · obtain rfl : k = C.parts.length := by omega
      have h1 := HN.out
      rw [List.take_length] at h1
      have HF : Kp (ruleB 3 C = false) := ⟨h1⟩
      clear h1
      go_wp2
      go_ret
      exact ⟨ret_bool HF.out.symm, HB.out⟩

set_option maxRecDepth 100000 in
set_option maxHeartbeats 4000000 in
theorem refHolds17 (cv : Value) (C : Cfg) (hsm : C.small) (w : World) (h : CfgAt w cv C) : Calls Tryz.prog 80 #[cv, .int .i64 17] w fun e w' => e = .returned (.bool (ruleB 17 C)) ∧ Below w.heap.size w w' := by
  have HC := Kp.mk h
  obtain ⟨ho, pa, pc, ca, cc, a0, c0, a1, c1, rfl, bp, bc, b0, b1, hp, hc, hw0, hw1⟩ := h
  have HP := Kp.mk hp
  have hs1 := hsm.1
  clear hp hc hw0 hw1 ho
  go_enter Tryz.func80, Tryz.ntmps80
  go_wp2_with fail
  go_loopw [5] (fun i wr => ∃ k : Nat, k ≤ C.parts.length ∧ i = .int .i64 k ∧ Kp (Below w.heap.size w wr) ∧ Kp (wr.heap[w.heap.size]? = some (.cells #[.slice pa C.parts.length pc, .slice ca C.chans.length cc, .int .i64 C.l0, .slice a0 C.w0.length c0, .int .i64 C.l1, .slice a1 C.w1.length c1] 31 (0, 0))) ∧ Kp (idleK C k = false)) (fun i wr => C.parts.length - (intOf i).toNat)
  case atStart => exact ⟨0, Nat.zero_le _, rfl, ⟨below_al (Below.refl _ _) _⟩, ⟨blk_new w _⟩, ⟨rfl⟩⟩
  case round =>
    obtain ⟨k, hk, rfl, HB, HK, HN⟩ := hrel
    have q0 : wr.cell? ⟨w.heap.size, 0, none⟩ = some (.slice pa C.parts.length pc) := (cell_blk HK.out 0).trans rfl
    have q1 : wr.cell? ⟨w.heap.size, 1, none⟩ = some (.slice ca C.chans.length cc) := (cell_blk HK.out 1).trans rfl
    have q2 : wr.cell? ⟨w.heap.size, 2, none⟩ = some (.int .i64 C.l0) := (cell_blk HK.out 2).trans rfl
    have q3 : wr.cell? ⟨w.heap.size, 3, none⟩ = some (.slice a0 C.w0.length c0) := (cell_blk HK.out 3).trans rfl
    have q4 : wr.cell? ⟨w.heap.size, 4, none⟩ = some (.int .i64 C.l1) := (cell_blk HK.out 4).trans rfl
    have q5 : wr.cell? ⟨w.heap.size, 5, none⟩ = some (.slice a1 C.w1.length c1) := (cell_blk HK.out 5).trans rfl
    have l0 := blk_lt HK.out
    by_cases hlt : k < C.parts.length
    · obtain ⟨g, o, ha, hg, hcc⟩ := HP.out.at (by omega)
      obtain ⟨x, hx⟩ : ∃ x, C.parts[k] = x := ⟨_, rfl⟩
      have hcu : ∀ j, j < 2 → wr.cell? ⟨g, o + k * 2 + j, none⟩ = (partC x)[j]? := fun j hj => by
        have h1 := hcc (k * 2 + j) (by omega)
        rw [flat_at partC 2 partC_len C.parts k j hlt hj, hx] at h1
        rw [Nat.add_assoc]
        exact (HB.out.cell (p := ⟨g, o + (k * 2 + j), none⟩) hg).trans h1
      have e0 : wr.cell? ⟨g, o + k * 2, none⟩ = some (.int .i64 x.1) := hcu 0 (by omega)
      have e1 : wr.cell? ⟨g, o + k * 2 + 1, none⟩ = some (.int .i64 x.2) := hcu 1 (by omega)
      obtain ⟨p1, p2⟩ := x
      dsimp only at e0 e1
      have HS := Kp.mk (idleK_succ C k)
      obtain ⟨d, hd⟩ : ∃ d, idleB C k = d := ⟨_, rfl⟩
      have HD := Kp.mk hd
      subst ha
      clear hcu hcc hx hd
      go_wp2_with fail
      refine (window07_any _ C hsm k hlt d HD.out _ (HC.out.below (below_al HB.out _))).mono ?_
      rintro e w1 ⟨rfl, hb1⟩
      have HB1 : Kp (Below w.heap.size w w1) := ⟨below_call (below_al HB.out _) hb1⟩
      have HK1 := Kp.mk (blk_below (blk_al HK.out _) hb1)
      clear hb1
      cases d with
      | true =>
        have HT : Kp (ruleB 17 C = true) := ⟨idleK_mono (k := k + 1) (by rw [HS.out, HD.out]; simp) _ (by omega)⟩
        go_wp2
        go_ret
        exact ⟨ret_bool HT.out.symm, HB1.out⟩
      | false =>
        have HN2 : Kp (idleK C (k + 1) = false) := ⟨by rw [HS.out, HN.out, HD.out]; rfl⟩
        go_wp2
        go_roundw
        case rel => exact ⟨k + 1, by omega, by go_num, HB1, HK1, HN2⟩
        case measure => simp [intOf]; omega
    · obtain rfl : k = C.parts.length := by omega
      have HF : Kp (ruleB 17 C = false) := HN
      go_wp2
      go_ret
      exact ⟨ret_bool HF.out.symm, HB.out⟩
end
section
open Go.RowKit
set_option linter.unusedSimpArgs false
set_option linter.unusedVariables false

theorem refHolds_in (cv : Value) (C : Cfg) (hsm : C.small) (w : World) (h : CfgAt w cv C) (j : Nat) (hj : j < 17) : Calls Tryz.prog 80 #[cv, .int .i64 ((j + 1 : Nat) : Int)] w fun e w' => e = .returned (.bool (ruleB (j + 1) C)) ∧ Below w.heap.size w w' :=
  match j, hj with
  | 0, _ => refHolds1 cv C hsm w h
  | 1, _ => refHolds2 cv C hsm w h
  | 2, _ => refHolds3 cv C hsm w h
  | 3, _ => refHolds4 cv C hsm w h
  | 4, _ => refHolds5 cv C hsm w h
  | 5, _ => refHolds6 cv C hsm w h
  | 6, _ => refHolds7 cv C hsm w h
  | 7, _ => refHolds8 cv C hsm w h
  | 8, _ => refHolds9 cv C hsm w h
  | 9, _ => refHolds10 cv C hsm w h
  | 10, _ => refHolds11 cv C hsm w h
  | 11, _ => refHolds12 cv C hsm w h
  | 12, _ => refHolds13 cv C hsm w h
  | 13, _ => refHolds14 cv C hsm w h
  | 14, _ => refHolds15 cv C hsm w h
  | 15, _ => refHolds16 cv C hsm w h
  | 16, _ => refHolds17 cv C hsm w h
  | j + 17, hj => absurd hj (by omega)
set_option maxHeartbeats 1000000 in
theorem refHolds_out (cv : Value) (C : Cfg) (k : Int) (hk : k < 1 ∨ 17 < k) (w : World) (h : CfgAt w cv C) : Calls Tryz.prog 80 #[cv, .int .i64 k] w fun e w' => e = .returned (.bool false) ∧ Below w.heap.size w w' := by
  obtain ⟨ho, pa, pc, ca, cc, a0, c0, a1, c1, rfl, bp, bc, b0, b1, hp, hc, hw0, hw1⟩ := h
  clear hp hc hw0 hw1 ho
  have k1 : (k == 1) = false := by rw [beq_eq_false_iff_ne]; omega
  have k2 : (k == 2) = false := by rw [beq_eq_false_iff_ne]; omega
  have k3 : (k == 3) = false := by rw [beq_eq_false_iff_ne]; omega
  have k4 : (k == 4) = false := by rw [beq_eq_false_iff_ne]; omega
  have k17 : (k == 17) = false := by rw [beq_eq_false_iff_ne]; omega
  have n1 : ¬ k = 1 := by omega
  have n2 : ¬ k = 2 := by omega
  have n3 : ¬ k = 3 := by omega
  have n4 : ¬ k = 4 := by omega
  have n17 : ¬ k = 17 := by omega
  by_cases h5 : 5 ≤ k
  · have h11 : ¬ k ≤ 11 := by omega
    have h12 : 12 ≤ k := by omega
    have h16 : ¬ k ≤ 16 := by omega
    have d5 : decide (5 ≤ k) = true := decide_eq_true h5
    have d11 : decide (k ≤ 11) = false := decide_eq_false h11
    have d12 : decide (12 ≤ k) = true := decide_eq_true h12
    have d16 : decide (k ≤ 16) = false := decide_eq_false h16
    go_enter Tryz.func80, Tryz.ntmps80
    go_wp2
    go_ret
    exact ⟨rfl, (by repeat (first | exact Below.refl _ _ | apply below_al))⟩
  · have h12 : ¬ 12 ≤ k := by omega
    have d5 : decide (5 ≤ k) = false := decide_eq_false h5
    have d12 : decide (12 ≤ k) = false := decide_eq_false h12
    go_enter Tryz.func80, Tryz.ntmps80
    go_wp2
    go_ret
    exact ⟨rfl, (by repeat (first | exact Below.refl _ _ | apply below_al))⟩
theorem refHolds_any (cv : Value) (C : Cfg) (hsm : C.small) (k : Int) (b : Bool) (hb : holdsB C k = b) (w : World) (h : CfgAt w cv C) : Calls Tryz.prog 80 #[cv, .int .i64 k] w fun e w' => e = .returned (.bool b) ∧ Below w.heap.size w w' := by
  subst hb
  cases hk : inB k 1 17 with
  | true =>
    have hin := inB_iff.1 hk
    obtain ⟨j, rfl⟩ : ∃ j : Nat, k = ((j + 1 : Nat) : Int) := ⟨(k - 1).toNat, by omega⟩
    have hv : holdsB C ((j + 1 : Nat) : Int) = ruleB (j + 1) C := by rw [holdsB, hk]; rfl
    rw [hv]
    exact refHolds_in cv C hsm w h j (by omega)
  | false =>
    have hout := inB_niff.1 hk
    have hv : holdsB C k = false := by rw [holdsB, hk]; rfl
    rw [hv]
    exact refHolds_out cv C k (by omega) w h

set_option maxRecDepth 100000 in
set_option maxHeartbeats 2000000 in
theorem refDefs_any (cv : Value) (C : Cfg) (hsm : C.small) (w : World) (h : CfgAt w cv C) :
    Calls Tryz.prog 49 #[cv] w fun e w' => ∃ a c, e = .returned (.slice a (defsB C).length c) ∧ Kp (w'.ownsRow w.heap.size 3 1 (.slice a (defsB C).length c) (defsB C).length (i64s (defsB C))) ∧ Below w.heap.size w w' := by
  have HC := Kp.mk h
  obtain ⟨ho, pa, pc, ca, cc, a0, c0, a1, c1, rfl, bp, bc, b0, b1, hp, hc, hw0, hw1⟩ := h
  obtain ⟨i0, hi, hz0, hz1, hz2⟩ := info_parts Tryz.infoInt
  have HA : Kp (defsB C = defsK C 17) := ⟨rfl⟩
  clear hp hc hw0 hw1 ho
  go_enter Tryz.func49, Tryz.ntmps49
  go_wp2_with fail
  go_loopw [3, 4] (fun vo i wr => ∃ (k : Nat) (q : List Int), k ≤ 17 ∧ i = .int .i64 ((k : Int) + 1) ∧ Kp (Below w.heap.size w wr) ∧ Kp (wr.heap[w.heap.size]? = some (.cells #[.slice pa C.parts.length pc, .slice ca C.chans.length cc, .int .i64 C.l0, .slice a0 C.w0.length c0, .int .i64 C.l1, .slice a1 C.w1.length c1] 31 (0, 0))) ∧ Kp (defsK C k = q) ∧ Kp (wr.ownsRow (w.heap.size + 1) 3 1 vo q.length (i64s q))) (fun vo i wr => 18 - (intOf i).toNat)
  case atStart => exact ⟨0, [], Nat.zero_le _, rfl, ⟨below_al (Below.refl _ _) _⟩, ⟨blk_new w _⟩, ⟨rfl⟩, ⟨World.ownsRow_nil _ _ _ _⟩⟩
  case round =>
    obtain ⟨k, q, hk, rfl, HB, HK, HQ, HO⟩ := hrel
    obtain ⟨av, cv', rfl, hv1, hv2⟩ := (RowAt.of_own HO.out).shape
    have e0 : wr.cell? ⟨w.heap.size, 0, none⟩ = some (.slice pa C.parts.length pc) := (cell_blk HK.out 0).trans rfl
    have e1 : wr.cell? ⟨w.heap.size, 1, none⟩ = some (.slice ca C.chans.length cc) := (cell_blk HK.out 1).trans rfl
    have e2 : wr.cell? ⟨w.heap.size, 2, none⟩ = some (.int .i64 C.l0) := (cell_blk HK.out 2).trans rfl
    have e3 : wr.cell? ⟨w.heap.size, 3, none⟩ = some (.slice a0 C.w0.length c0) := (cell_blk HK.out 3).trans rfl
    have e4 : wr.cell? ⟨w.heap.size, 4, none⟩ = some (.int .i64 C.l1) := (cell_blk HK.out 4).trans rfl
    have e5 : wr.cell? ⟨w.heap.size, 5, none⟩ = some (.slice a1 C.w1.length c1) := (cell_blk HK.out 5).trans rfl
    have l0 := blk_lt HK.out
    have hql : q.length ≤ k := by rw [← HQ.out]; exact defsK_le C k
    by_cases hlt : k < 17
    · have h17 : (k : Int) + 1 ≤ 17 := by omega
      have s1 : IntKind.i64.wrap ((k : Int) + 1 + 1) = (k : Int) + 1 + 1 := IntWalk.i64_in _ (by omega)
      obtain ⟨d, hd⟩ : ∃ d, ruleB (k + 1) C = d := ⟨_, rfl⟩
      have HN : Kp (defsK C (k + 1) = if d = true then q ++ [(k : Int) + 1] else q) := ⟨by rw [defsK_succ, hd, HQ.out]⟩
      have HH : Kp (holdsB C ((k : Int) + 1) = d) := ⟨by
        rw [holdsB, inB_true (by omega), Bool.true_and, ← hd]; rfl⟩
      clear hd
      go_wp2_with fail
      refine (refHolds_any _ C hsm _ d HH.out _ (HC.out.below HB.out)).mono ?_
      rintro e w1 ⟨rfl, hb1⟩
      have HB1 := Kp.mk (below_call HB.out hb1)
      have HK1 := Kp.mk (blk_below HK.out hb1)
      have HO1 := Kp.mk (own_below HO.out hb1)
      have hw1 := HB1.out.size
      have hl1 := blk_lt HK1.out
      clear hb1
      cases d with
      | false =>
        have HN2 : Kp (defsK C (k + 1) = q) := ⟨by rw [HN.out, if_neg (by simp)]⟩
        go_wp2
        go_roundw
        case rel => exact ⟨k + 1, q, by omega, by go_num, HB1, HK1, HN2, HO1⟩
        case measure => simp [intOf]; omega
      | true =>
        have HN2 : Kp (defsK C (k + 1) = q ++ [(k : Int) + 1]) := ⟨by rw [HN.out, if_pos rfl]⟩
        go_wp2_with (at_builtin; refine wpList_append_own _ rfl _ _ 107 rfl (w.heap.size + 1) 3 i0 (.int .i64 0) 1 8 Tryz.underlying107 hi hz0 hz1 hz2 rfl (by decide) _ _ _ rfl (HO1.out.alloc _) ⟨w1.heap.size, 0, none⟩ 1 1 [.int .i64 ((k : Int) + 1)] rfl rfl (cell_one_new _ _ _) (by simp [Value.oneCell']) (by unfold maxLen; omega) (by omega) (by simp; omega) ?_; intro v' w9 hown' hgrow _)
        have e9 := blk_grown (blk_al HK1.out _) (b := w.heap.size) (by omega) (HO1.out.alloc _) hgrow
        go_roundw
        case rel => exact ⟨k + 1, q ++ [(k : Int) + 1], by omega, by go_num, ⟨below_own2 (below_al HB1.out _) (by simp; omega) (by omega) (HO1.out.alloc _) hgrow⟩, ⟨e9⟩, HN2, ⟨by
          rw [List.length_append, i64s, List.map_append]
          exact hown'⟩⟩
        case measure => simp [intOf]; omega
    · obtain rfl : k = 17 := by omega
      have h17 : ¬ ((17 : Nat) : Int) + 1 ≤ 17 := by omega
      go_wp2
      go_ret
      rw [HA.out, HQ.out]
      exact ⟨_, _, rfl, ⟨own_base HO.out (by omega)⟩, HB.out⟩
def accB (C : Cfg) : Bool := (defsB C).isEmpty
theorem accB_first (C : Cfg) : (firstB C == 0) = accB C := by
  rw [firstB, accB]
  cases h : defsB C with
  | nil => rfl
  | cons x l =>
    have hx : x ∈ defsB C := by rw [h]; simp
    have h1 : 1 ≤ x := by
      simp only [defsB, defsK, List.mem_map] at hx
      obtain ⟨i, _, rfl⟩ := hx
      omega
    simp only [List.headD_cons, List.isEmpty_cons]
    rw [beq_eq_false_iff_ne]
    omega
set_option maxHeartbeats 400000 in
theorem refAccepts_any (cv : Value) (C : Cfg) (hsm : C.small) (w : World) (h : CfgAt w cv C) : Calls Tryz.prog 20 #[cv] w fun e w' => e = .returned (.bool (accB C)) ∧ Below w.heap.size w w' := by
  have HC := Kp.mk h
  obtain ⟨ho, pa, pc, ca, cc, a0, c0, a1, c1, rfl, bp, bc, b0, b1, hp, hc, hw0, hw1⟩ := h
  obtain ⟨l, hl⟩ : ∃ l, defsB C = l := ⟨_, rfl⟩
  have HL := Kp.mk hl
  have HA : Kp (accB C = (l.length == 0)) := ⟨by rw [accB, hl]; cases l <;> rfl⟩
  clear hl
  go_enter Tryz.func20, Tryz.ntmps20
  go_wp2_with fail
  refine (refDefs_any _ C hsm _ (HC.out.below (by repeat (first | exact Below.refl _ _ | apply below_al)))).mono ?_
  rw [HL.out]
  rintro e w1 ⟨a, c, rfl, ho1, hb1⟩
  go_wp2
  go_ret
  exact ⟨ret_bool (by rw [HA.out]; cases l <;> first | rfl | (simp; omega)), below_call (by repeat (first | exact Below.refl _ _ | apply below_al)) hb1⟩
end
end Go.Proofs.YtmidcnfmphlneaaGreat

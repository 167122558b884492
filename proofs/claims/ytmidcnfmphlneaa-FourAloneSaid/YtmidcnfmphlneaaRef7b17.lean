/- Contracts of the reference of defects: windows (16, the second frame). -/
import Derived.Test.YtmidcnfmphlneaaRef7b
import Derived.Deep.RegionWith
namespace Go.Proofs.Ytmidcnfmphlneaa
open Go.RowKit
set_option linter.unusedSimpArgs false
set_option linter.unusedVariables false

set_option maxRecDepth 100000 in
set_option maxHeartbeats 4000000 in
theorem windows161_any (cv : Value) (C : Cfg) (hsm : C.small) (w : World) (h : CfgAt w cv C) : Calls Try.prog 44 #[cv, .int .i64 1, .int .i64 16] w fun e w' => e = .returned (.bool (crossB C.w1)) ∧ Below w.heap.size w w' := by
  have HC := Kp.mk h
  obtain ⟨ho, pa, pc, ca, cc, a0, c0, a1, c1, rfl, bp, bc, b0, b1, hp, hc, hw0, hw1⟩ := h
  have HW := Kp.mk hw1
  have HPT := Kp.mk hp
  have hs3 := hsm.2.2.2
  have hlen : I64 C.l1 := by first | exact ho.2.2.1 | exact ho.2.2.2.1
  clear hp hc hw0 hw1 ho
  go_enter Try.func44, Try.ntmps44
  go_wp2_with fail
  go_loopw [8] (fun i wr => ∃ k : Nat, k ≤ C.w1.length ∧ i = .int .i64 k ∧ Kp (Below w.heap.size w wr) ∧ Kp (wr.heap[w.heap.size]? = some (.cells #[.slice pa C.parts.length pc, .slice ca C.chans.length cc, .int .i64 C.l0, .slice a0 C.w0.length c0, .int .i64 C.l1, .slice a1 C.w1.length c1] 31 (0, 0))) ∧ Kp (crossK C.w1 k = false)) (fun i wr => C.w1.length - (intOf i).toNat)
  case atStart => exact ⟨0, Nat.zero_le _, rfl, ⟨below_al (Below.refl _ _) _⟩, ⟨blk_new w _⟩, ⟨rfl⟩⟩
  case round =>
    obtain ⟨k, hk, rfl, HB, HK, HN⟩ := hrel
    have q0 : wr.cell? ⟨w.heap.size, 0, none⟩ = some (.slice pa C.parts.length pc) := (cell_blk HK.out 0).trans rfl
    have q1 : wr.cell? ⟨w.heap.size, 1, none⟩ = some (.slice ca C.chans.length cc) := (cell_blk HK.out 1).trans rfl
    have q2 : wr.cell? ⟨w.heap.size, 2, none⟩ = some (.int .i64 C.l0) := (cell_blk HK.out 2).trans rfl
    have q3 : wr.cell? ⟨w.heap.size, 3, none⟩ = some (.slice a0 C.w0.length c0) := (cell_blk HK.out 3).trans rfl
    have q4 : wr.cell? ⟨w.heap.size, 4, none⟩ = some (.int .i64 C.l1) := (cell_blk HK.out 4).trans rfl
    have q5 : wr.cell? ⟨w.heap.size, 5, none⟩ = some (.slice a1 C.w1.length c1) := (cell_blk HK.out 5).trans rfl
    have l0 := blk_lt HK.out
    by_cases hlt : k < C.w1.length
    · obtain ⟨g, o, ha, hg, hcc⟩ := HW.out.at (by omega)
      obtain ⟨x, hx⟩ : ∃ x, C.w1[k] = x := ⟨_, rfl⟩
      have hcu : ∀ j, j < 3 → wr.cell? ⟨g, o + k * 3 + j, none⟩ = (winC x)[j]? := fun j hj => by
        have h1 := hcc (k * 3 + j) (by omega)
        rw [flat_at winC 3 winC_len C.w1 k j hlt hj, hx] at h1
        rw [Nat.add_assoc]
        exact (HB.out.cell (p := ⟨g, o + (k * 3 + j), none⟩) hg).trans h1
      have e0 : wr.cell? ⟨g, o + k * 3, none⟩ = some (.int .i64 x.part) := hcu 0 (by omega)
      have e1 : wr.cell? ⟨g, o + k * 3 + 1, none⟩ = some (.int .i64 x.start) := hcu 1 (by omega)
      have e2 : wr.cell? ⟨g, o + k * 3 + 2, none⟩ = some (.int .i64 x.len) := hcu 2 (by omega)
      have hgw : g < wr.heap.size := Nat.lt_of_lt_of_le hg HB.out.size
      have hm0 : crossK C.w1 (k + 1) = (crossK C.w1 k || (decide (0 < k) && pairB (C.w1.getD (k - 1) default) x)) := by
        rw [crossK_succ, List.getD_eq_getElem?_getD (i := k), List.getElem?_eq_getElem hlt, Option.getD_some, hx]
      by_cases hk0 : k = 0
      · have HN2 : Kp (crossK C.w1 (k + 1) = false) := ⟨by rw [hm0, HN.out, decide_eq_false (by omega)]; rfl⟩
        have z1 : decide (0 < (k : Int)) = false := decide_eq_false (by omega)
        have z2 : decide (0 < k) = false := decide_eq_false (by omega)
        have z3 : ¬ (0 : Int) < (k : Int) := by omega
        have z4 : ¬ 0 < k := by omega
        subst ha
        clear hcu hcc hx hm0 hk0
        go_wp2_with fail
        go_quiet (fail)
        go_wp2_with fail
        go_quiet (fail)
        go_wp2
        go_roundw
        case rel => exact ⟨k + 1, by omega, by go_num, ⟨(by repeat (first | exact HB.out | apply below_drN | apply below_al))⟩, ⟨blk_al HK.out _⟩, HN2⟩
        case measure => simp [intOf]; omega
      · obtain ⟨m, hm⟩ : ∃ m, k = m + 1 := ⟨k - 1, by omega⟩
        have hml : m < C.w1.length := by omega
        obtain ⟨u, hu⟩ : ∃ u, C.w1[m] = u := ⟨_, rfl⟩
        have hcv : ∀ j, j < 3 → wr.cell? ⟨g, o + m * 3 + j, none⟩ = (winC u)[j]? := fun j hj => by
          have h1 := hcc (m * 3 + j) (by omega)
          rw [flat_at winC 3 winC_len C.w1 m j hml hj, hu] at h1
          rw [Nat.add_assoc]
          exact (HB.out.cell (p := ⟨g, o + (m * 3 + j), none⟩) hg).trans h1
        have u0 : wr.cell? ⟨g, o + m * 3, none⟩ = some (.int .i64 u.part) := hcv 0 (by omega)
        have u1 : wr.cell? ⟨g, o + m * 3 + 1, none⟩ = some (.int .i64 u.start) := hcv 1 (by omega)
        have u2 : wr.cell? ⟨g, o + m * 3 + 2, none⟩ = some (.int .i64 u.len) := hcv 2 (by omega)
        have HS : Kp (crossK C.w1 (k + 1) = pairB u x) := ⟨by
          have h1 : k - 1 = m := by omega
          rw [hm0, HN.out, decide_eq_true (by omega), h1, List.getD_eq_getElem?_getD, List.getElem?_eq_getElem hml, Option.getD_some, hu]; rfl⟩
        have HY : Kp (pairB u x = true → crossB C.w1 = true) := ⟨fun h => crossK_mono (k := k + 1) (by rw [HS.out, h]) _ (by omega)⟩
        have HN1 : Kp (pairB u x = false → crossK C.w1 (k + 1) = false) := ⟨fun h => by rw [HS.out, h]⟩
        have s2 : IntKind.i64.wrap ((k : Int) - 1) = (m : Int) := by rw [show (k : Int) - 1 = (m : Int) by omega]; exact IntWalk.i64_in _ (by omega)
        have s4 : (0 : Int) ≤ (m : Int) := by omega
        have s5 : (m : Int) < (C.w1.length : Int) := by omega
        have s6 : (0 : Int) < (k : Int) := by omega
        have z1 : decide (0 < (k : Int)) = true := decide_eq_true s6
        have z4 : 0 < k := by omega
        have z2 : decide (0 < k) = true := decide_eq_true z4
        subst ha
        clear hcu hcc hx hcv hu hm hm0 hk0 HS HN
        cases h1 : wordB x.start with
        | false =>
          have HN2 := Kp.mk (HN1.out (by rw [pairB, h1]; simp))
          go_wp2_with fail
          go_quiet (fail)
          go_wp2_with fail
          go_quiet ((first | (go_at_call_of 54 (x.start); exact quiet_joined (word07_same x.start false h1 _))))
          go_wp2
          go_roundw
          case rel => exact ⟨k + 1, by omega, by go_num, ⟨(by repeat (first | exact HB.out | apply below_drN | apply below_al))⟩, ⟨blk_al HK.out _⟩, HN2⟩
          case measure => simp [intOf]; omega
        | true =>
          cases h2 : wordB u.start with
          | false =>
            have HN2 := Kp.mk (HN1.out (by rw [pairB, h2]; simp))
            go_wp2_with fail
            go_quiet (fail)
            go_wp2_with fail
            go_quiet ((first | (go_at_call_of 54 (x.start); exact quiet_joined (word07_same x.start true h1 _)) | (go_at_call_of 54 (u.start); exact quiet_joined (word07_same u.start false h2 _))))
            go_wp2
            go_roundw
            case rel => exact ⟨k + 1, by omega, by go_num, ⟨(by repeat (first | exact HB.out | apply below_drN | apply below_al))⟩, ⟨blk_al HK.out _⟩, HN2⟩
            case measure => simp [intOf]; omega
          | true =>
            cases h3 : wordB u.len with
            | false =>
              have HN2 := Kp.mk (HN1.out (by rw [pairB, h3]; simp))
              go_wp2_with fail
              go_quiet (fail)
              go_wp2_with fail
              go_quiet ((first | (go_at_call_of 54 (x.start); exact quiet_joined (word07_same x.start true h1 _)) | (go_at_call_of 54 (u.start); exact quiet_joined (word07_same u.start true h2 _)) | (go_at_call_of 54 (u.len); exact quiet_joined (word07_same u.len false h3 _))))
              go_wp2
              go_roundw
              case rel => exact ⟨k + 1, by omega, by go_num, ⟨(by repeat (first | exact HB.out | apply below_drN | apply below_al))⟩, ⟨blk_al HK.out _⟩, HN2⟩
              case measure => simp [intOf]; omega
            | true =>
              have r1 := inB_iff.1 h2
              have r2 := inB_iff.1 h3
              have t1 : IntKind.i64.wrap (u.start + u.len) = u.start + u.len := IntWalk.i64_in _ (by omega)
              clear r1 r2
              by_cases hz : x.start < u.start + u.len
              · have HT := Kp.mk (HY.out (by rw [pairB, h1, h2, h3, decide_eq_true hz]; rfl))
                go_wp2_with fail
                go_quiet (fail)
                go_wp2_with fail
                go_quiet ((first | (go_at_call_of 54 (x.start); exact quiet_joined (word07_same x.start true h1 _)) | (go_at_call_of 54 (u.start); exact quiet_joined (word07_same u.start true h2 _)) | (go_at_call_of 54 (u.len); exact quiet_joined (word07_same u.len true h3 _))))
                go_wp2
                go_ret
                exact ⟨ret_bool HT.out.symm, (by repeat (first | exact HB.out | apply below_drN | apply below_al))⟩
              · have hz' : decide (x.start < u.start + u.len) = false := decide_eq_false hz
                have HN2 := Kp.mk (HN1.out (by rw [pairB, hz']; simp))
                go_wp2_with fail
                go_quiet (fail)
                go_wp2_with fail
                go_quiet ((first | (go_at_call_of 54 (x.start); exact quiet_joined (word07_same x.start true h1 _)) | (go_at_call_of 54 (u.start); exact quiet_joined (word07_same u.start true h2 _)) | (go_at_call_of 54 (u.len); exact quiet_joined (word07_same u.len true h3 _))))
                go_wp2
                go_roundw
                case rel => exact ⟨k + 1, by omega, by go_num, ⟨(by repeat (first | exact HB.out | apply below_drN | apply below_al))⟩, ⟨blk_al HK.out _⟩, HN2⟩
                case measure => simp [intOf]; omega
    · obtain rfl : k = C.w1.length := by omega
      have HF : Kp (crossB C.w1 = false) := HN
      go_wp2
      go_ret
      exact ⟨ret_bool HF.out.symm, HB.out⟩
end Go.Proofs.Ytmidcnfmphlneaa

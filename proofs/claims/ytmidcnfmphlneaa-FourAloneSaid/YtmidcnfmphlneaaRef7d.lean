/- Contracts of the reference of defects: Holds, of partitions. -/
import Derived.Test.YtmidcnfmphlneaaRef7w
namespace Go.Proofs.Ytmidcnfmphlneaa
open Go.RowKit
set_option linter.unusedSimpArgs false
set_option linter.unusedVariables false

set_option maxRecDepth 100000 in
set_option maxHeartbeats 4000000 in
theorem refHolds2 (cv : Value) (C : Cfg) (hsm : C.small) (w : World) (h : CfgAt w cv C) : Calls Try.prog 33 #[cv, .int .i64 2] w fun e w' => e = .returned (.bool (ruleB 2 C)) ∧ Below w.heap.size w w' := by
  have HC := Kp.mk h
  obtain ⟨ho, pa, pc, ca, cc, a0, c0, a1, c1, rfl, bp, bc, b0, b1, hp, hc, hw0, hw1⟩ := h
  have HP := Kp.mk hp
  have hs1 := hsm.1
  clear hp hc hw0 hw1 ho
  go_enter Try.func33, Try.ntmps33
  go_wp2_with fail
  go_loopw [5] (fun i wr => ∃ k : Nat, k ≤ C.parts.length ∧ i = .int .i64 k ∧ Kp (Below w.heap.size w wr) ∧ Kp (wr.heap[w.heap.size]? = some (.cells #[.slice pa C.parts.length pc, .slice ca C.chans.length cc, .int .i64 C.l0, .slice a0 C.w0.length c0, .int .i64 C.l1, .slice a1 C.w1.length c1] 31 (0, 0))) ∧ Kp ((C.parts.take k).any (fun x => !inB x.1 0 1) = false)) (fun i wr => C.parts.length - (intOf i).toNat)
  case atStart => exact ⟨0, Nat.zero_le _, rfl, ⟨below_al (Below.refl _ _) _⟩, ⟨blk_new w _⟩, ⟨rfl⟩⟩
  case round =>
    obtain ⟨k, hk, rfl, HB, HK, HN⟩ := hrel
    have q0 : wr.cell? ⟨w.heap.size, 0, none⟩ = some (.slice pa C.parts.length pc) := (cell_blk HK.out 0).trans rfl
    have q1 : wr.cell? ⟨w.heap.size, 1, none⟩ = some (.slice ca C.chans.length cc) := (cell_blk HK.out 1).trans rfl
    have q2 : wr.cell? ⟨w.heap.size, 2, none⟩ = some (.int .i64 C.l0) := (cell_blk HK.out 2).trans rfl
    have q3 : wr.cell? ⟨w.heap.size, 3, none⟩ = some (.slice a0 C.w0.length c0) := (cell_blk HK.out 3).trans rfl
    have q4 : wr.cell? ⟨w.heap.size, 4, none⟩ = some (.int .i64 C.l1) := (cell_blk HK.out 4).trans rfl
    have q5 : wr.cell? ⟨w.heap.size, 5, none⟩ = some (.slice a1 C.w1.length c1) := (cell_blk HK.out 5).trans rfl
    have l0 := blk_lt HK.out
    by_cases hlt : k < C.parts.length
    · obtain ⟨g, o, ha, hg, hcc⟩ := HP.out.at (by omega)
      obtain ⟨x, hx⟩ : ∃ x, C.parts[k] = x := ⟨_, rfl⟩
      have hcu : ∀ j, j < 2 → wr.cell? ⟨g, o + k * 2 + j, none⟩ = (partC x)[j]? := fun j hj => by
        have h1 := hcc (k * 2 + j) (by omega)
        rw [flat_at partC 2 partC_len C.parts k j hlt hj, hx] at h1
        rw [Nat.add_assoc]
        exact (HB.out.cell (p := ⟨g, o + (k * 2 + j), none⟩) hg).trans h1
      have e0 : wr.cell? ⟨g, o + k * 2, none⟩ = some (.int .i64 x.1) := hcu 0 (by omega)
      have e1 : wr.cell? ⟨g, o + k * 2 + 1, none⟩ = some (.int .i64 x.2) := hcu 1 (by omega)
      obtain ⟨p1, p2⟩ := x
      dsimp only at e0 e1
      have HY : Kp ((!inB p1 0 1) = true → ruleB 2 C = true) := ⟨fun h => List.any_eq_true.2 ⟨(p1, p2), hx ▸ List.getElem_mem hlt, h⟩⟩
      have HN1 : Kp ((!inB p1 0 1) = false → (C.parts.take (k + 1)).any (fun x => !inB x.1 0 1) = false) := ⟨fun h => by rw [List.take_succ_eq_append_getElem hlt, List.any_append, HN.out, hx]; simp only [List.any_cons, List.any_nil, h]; rfl⟩
      subst ha
      clear hcu hcc hx HN
      by_cases h0 : p1 = 0
      · subst h0
        have HN2 := Kp.mk (HN1.out (by rw [inB_true (by omega)]; rfl))
        go_wp2
        go_roundw
        case rel => exact ⟨k + 1, by omega, by go_num, ⟨below_al HB.out _⟩, ⟨blk_al HK.out _⟩, HN2⟩
        case measure => simp [intOf]; omega
      · have h0' : (p1 != 0) = true := by simpa using h0
        by_cases h1 : p1 = 1
        · subst h1
          have HN2 := Kp.mk (HN1.out (by rw [inB_true (by omega)]; rfl))
          go_wp2
          go_roundw
          case rel => exact ⟨k + 1, by omega, by go_num, ⟨below_al HB.out _⟩, ⟨blk_al HK.out _⟩, HN2⟩
          case measure => simp [intOf]; omega
        · have h1' : (p1 != 1) = true := by simpa using h1
          have HT := Kp.mk (HY.out (by rw [inB_false (by omega)]; rfl))
          go_wp2
          go_ret
          exact ⟨ret_bool HT.out.symm, below_al HB.out _⟩
    · obtain rfl : k = C.parts.length := by omega
      have h1 := HN.out
      rw [List.take_length] at h1
      have HF : Kp (ruleB 2 C = false) := ⟨h1⟩
      clear h1
      go_wp2
      go_ret
      exact ⟨ret_bool HF.out.symm, HB.out⟩

set_option maxRecDepth 100000 in
set_option maxHeartbeats 4000000 in
theorem refHolds3 (cv : Value) (C : Cfg) (hsm : C.small) (w : World) (h : CfgAt w cv C) : Calls Try.prog 33 #[cv, .int .i64 3] w fun e w' => e = .returned (.bool (ruleB 3 C)) ∧ Below w.heap.size w w' := by
  have HC := Kp.mk h
  obtain ⟨ho, pa, pc, ca, cc, a0, c0, a1, c1, rfl, bp, bc, b0, b1, hp, hc, hw0, hw1⟩ := h
  have HP := Kp.mk hp
  have hs1 := hsm.1
  clear hp hc hw0 hw1 ho
  go_enter Try.func33, Try.ntmps33
  go_wp2_with fail
  go_loopw [5] (fun i wr => ∃ k : Nat, k ≤ C.parts.length ∧ i = .int .i64 k ∧ Kp (Below w.heap.size w wr) ∧ Kp (wr.heap[w.heap.size]? = some (.cells #[.slice pa C.parts.length pc, .slice ca C.chans.length cc, .int .i64 C.l0, .slice a0 C.w0.length c0, .int .i64 C.l1, .slice a1 C.w1.length c1] 31 (0, 0))) ∧ Kp ((C.parts.take k).any (fun x => !inB x.2 0 64) = false)) (fun i wr => C.parts.length - (intOf i).toNat)
  case atStart => exact ⟨0, Nat.zero_le _, rfl, ⟨below_al (Below.refl _ _) _⟩, ⟨blk_new w _⟩, ⟨rfl⟩⟩
  case round =>
    obtain ⟨k, hk, rfl, HB, HK, HN⟩ := hrel
    have q0 : wr.cell? ⟨w.heap.size, 0, none⟩ = some (.slice pa C.parts.length pc) := (cell_blk HK.out 0).trans rfl
    have q1 : wr.cell? ⟨w.heap.size, 1, none⟩ = some (.slice ca C.chans.length cc) := (cell_blk HK.out 1).trans rfl
    have q2 : wr.cell? ⟨w.heap.size, 2, none⟩ = some (.int .i64 C.l0) := (cell_blk HK.out 2).trans rfl
    have q3 : wr.cell? ⟨w.heap.size, 3, none⟩ = some (.slice a0 C.w0.length c0) := (cell_blk HK.out 3).trans rfl
    have q4 : wr.cell? ⟨w.heap.size, 4, none⟩ = some (.int .i64 C.l1) := (cell_blk HK.out 4).trans rfl
    have q5 : wr.cell? ⟨w.heap.size, 5, none⟩ = some (.slice a1 C.w1.length c1) := (cell_blk HK.out 5).trans rfl
    have l0 := blk_lt HK.out
    by_cases hlt : k < C.parts.length
    · obtain ⟨g, o, ha, hg, hcc⟩ := HP.out.at (by omega)
      obtain ⟨x, hx⟩ : ∃ x, C.parts[k] = x := ⟨_, rfl⟩
      have hcu : ∀ j, j < 2 → wr.cell? ⟨g, o + k * 2 + j, none⟩ = (partC x)[j]? := fun j hj => by
        have h1 := hcc (k * 2 + j) (by omega)
        rw [flat_at partC 2 partC_len C.parts k j hlt hj, hx] at h1
        rw [Nat.add_assoc]
        exact (HB.out.cell (p := ⟨g, o + (k * 2 + j), none⟩) hg).trans h1
      have e0 : wr.cell? ⟨g, o + k * 2, none⟩ = some (.int .i64 x.1) := hcu 0 (by omega)
      have e1 : wr.cell? ⟨g, o + k * 2 + 1, none⟩ = some (.int .i64 x.2) := hcu 1 (by omega)
      obtain ⟨p1, p2⟩ := x
      dsimp only at e0 e1
      have HY : Kp ((!inB p2 0 64) = true → ruleB 3 C = true) := ⟨fun h => List.any_eq_true.2 ⟨(p1, p2), hx ▸ List.getElem_mem hlt, h⟩⟩
      have HN1 : Kp ((!inB p2 0 64) = false → (C.parts.take (k + 1)).any (fun x => !inB x.2 0 64) = false) := ⟨fun h => by rw [List.take_succ_eq_append_getElem hlt, List.any_append, HN.out, hx]; simp only [List.any_cons, List.any_nil, h]; rfl⟩
      subst ha
      clear hcu hcc hx HN
      by_cases h0 : p2 < 0
      · have HT := Kp.mk (HY.out (by rw [inB_false (by omega)]; rfl))
        go_wp2
        go_ret
        exact ⟨ret_bool HT.out.symm, below_al HB.out _⟩
      · have h0' : decide (p2 < 0) = false := decide_eq_false h0
        by_cases h1 : 64 < p2
        · have HT := Kp.mk (HY.out (by rw [inB_false (by omega)]; rfl))
          go_wp2
          go_ret
          exact ⟨ret_bool HT.out.symm, below_al HB.out _⟩
        · have h1' : decide (64 < p2) = false := decide_eq_false h1
          have HN2 := Kp.mk (HN1.out (by rw [inB_true (by omega)]; rfl))
          go_wp2
          go_roundw
          case rel => exact ⟨k + 1, by omega, by go_num, ⟨below_al HB.out _⟩, ⟨blk_al HK.out _⟩, HN2⟩
          case measure => simp [intOf]; omega
    · obtain rfl : k = C.parts.length := by omega
      have h1 := HN.out
      rw [List.take_length] at h1
      have HF : Kp (ruleB 3 C = false) := ⟨h1⟩
      clear h1
      go_wp2
      go_ret
      exact ⟨ret_bool HF.out.symm, HB.out⟩

set_option maxRecDepth 100000 in
set_option maxHeartbeats 4000000 in
theorem refHolds17 (cv : Value) (C : Cfg) (hsm : C.small) (w : World) (h : CfgAt w cv C) : Calls Try.prog 33 #[cv, .int .i64 17] w fun e w' => e = .returned (.bool (ruleB 17 C)) ∧ Below w.heap.size w w' := by
  have HC := Kp.mk h
  obtain ⟨ho, pa, pc, ca, cc, a0, c0, a1, c1, rfl, bp, bc, b0, b1, hp, hc, hw0, hw1⟩ := h
  have HP := Kp.mk hp
  have hs1 := hsm.1
  clear hp hc hw0 hw1 ho
  go_enter Try.func33, Try.ntmps33
  go_wp2_with fail
  go_loopw [5] (fun i wr => ∃ k : Nat, k ≤ C.parts.length ∧ i = .int .i64 k ∧ Kp (Below w.heap.size w wr) ∧ Kp (wr.heap[w.heap.size]? = some (.cells #[.slice pa C.parts.length pc, .slice ca C.chans.length cc, .int .i64 C.l0, .slice a0 C.w0.length c0, .int .i64 C.l1, .slice a1 C.w1.length c1] 31 (0, 0))) ∧ Kp (idleK C k = false)) (fun i wr => C.parts.length - (intOf i).toNat)
  case atStart => exact ⟨0, Nat.zero_le _, rfl, ⟨below_al (Below.refl _ _) _⟩, ⟨blk_new w _⟩, ⟨rfl⟩⟩
  case round =>
    obtain ⟨k, hk, rfl, HB, HK, HN⟩ := hrel
    have q0 : wr.cell? ⟨w.heap.size, 0, none⟩ = some (.slice pa C.parts.length pc) := (cell_blk HK.out 0).trans rfl
    have q1 : wr.cell? ⟨w.heap.size, 1, none⟩ = some (.slice ca C.chans.length cc) := (cell_blk HK.out 1).trans rfl
    have q2 : wr.cell? ⟨w.heap.size, 2, none⟩ = some (.int .i64 C.l0) := (cell_blk HK.out 2).trans rfl
    have q3 : wr.cell? ⟨w.heap.size, 3, none⟩ = some (.slice a0 C.w0.length c0) := (cell_blk HK.out 3).trans rfl
    have q4 : wr.cell? ⟨w.heap.size, 4, none⟩ = some (.int .i64 C.l1) := (cell_blk HK.out 4).trans rfl
    have q5 : wr.cell? ⟨w.heap.size, 5, none⟩ = some (.slice a1 C.w1.length c1) := (cell_blk HK.out 5).trans rfl
    have l0 := blk_lt HK.out
    by_cases hlt : k < C.parts.length
    · obtain ⟨g, o, ha, hg, hcc⟩ := HP.out.at (by omega)
      obtain ⟨x, hx⟩ : ∃ x, C.parts[k] = x := ⟨_, rfl⟩
      have hcu : ∀ j, j < 2 → wr.cell? ⟨g, o + k * 2 + j, none⟩ = (partC x)[j]? := fun j hj => by
        have h1 := hcc (k * 2 + j) (by omega)
        rw [flat_at partC 2 partC_len C.parts k j hlt hj, hx] at h1
        rw [Nat.add_assoc]
        exact (HB.out.cell (p := ⟨g, o + (k * 2 + j), none⟩) hg).trans h1
      have e0 : wr.cell? ⟨g, o + k * 2, none⟩ = some (.int .i64 x.1) := hcu 0 (by omega)
      have e1 : wr.cell? ⟨g, o + k * 2 + 1, none⟩ = some (.int .i64 x.2) := hcu 1 (by omega)
      obtain ⟨p1, p2⟩ := x
      dsimp only at e0 e1
      have HS := Kp.mk (idleK_succ C k)
      obtain ⟨d, hd⟩ : ∃ d, idleB C k = d := ⟨_, rfl⟩
      have HD := Kp.mk hd
      subst ha
      clear hcu hcc hx hd
      go_wp2_with fail
      refine (window07_any _ C hsm k hlt d HD.out _ (HC.out.below (below_al HB.out _))).mono ?_
      rintro e w1 ⟨rfl, hb1⟩
      have HB1 : Kp (Below w.heap.size w w1) := ⟨below_call (below_al HB.out _) hb1⟩
      have HK1 := Kp.mk (blk_below (blk_al HK.out _) hb1)
      clear hb1
      cases d with
      | true =>
        have HT : Kp (ruleB 17 C = true) := ⟨idleK_mono (k := k + 1) (by rw [HS.out, HD.out]; simp) _ (by omega)⟩
        go_wp2
        go_ret
        exact ⟨ret_bool HT.out.symm, HB1.out⟩
      | false =>
        have HN2 : Kp (idleK C (k + 1) = false) := ⟨by rw [HS.out, HN.out, HD.out]; rfl⟩
        go_wp2
        go_roundw
        case rel => exact ⟨k + 1, by omega, by go_num, HB1, HK1, HN2⟩
        case measure => simp [intOf]; omega
    · obtain rfl : k = C.parts.length := by omega
      have HF : Kp (ruleB 17 C = false) := HN
      go_wp2
      go_ret
      exact ⟨ret_bool HF.out.symm, HB.out⟩
end Go.Proofs.Ytmidcnfmphlneaa

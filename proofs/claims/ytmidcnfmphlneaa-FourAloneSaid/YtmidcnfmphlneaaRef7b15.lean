/- Contracts of the reference of defects: windows (15). -/
import Derived.Test.YtmidcnfmphlneaaRef7a
import Derived.Deep.RegionWith
namespace Go.Proofs.Ytmidcnfmphlneaa
open Go.RowKit
set_option linter.unusedSimpArgs false
set_option linter.unusedVariables false

set_option maxRecDepth 100000 in
set_option maxHeartbeats 4000000 in
theorem windows150_any (cv : Value) (C : Cfg) (hsm : C.small) (w : World) (h : CfgAt w cv C) : Calls Try.prog 44 #[cv, .int .i64 0, .int .i64 15] w fun e w' => e = .returned (.bool (C.w0.any (outsideB C false))) ∧ Below w.heap.size w w' := by
  have HC := Kp.mk h
  obtain ⟨ho, pa, pc, ca, cc, a0, c0, a1, c1, rfl, bp, bc, b0, b1, hp, hc, hw0, hw1⟩ := h
  have HW := Kp.mk hw0
  have HPT := Kp.mk hp
  have hs3 := hsm.2.2.1
  have hlen : I64 C.l0 := by first | exact ho.2.2.1 | exact ho.2.2.2.1
  clear hp hc hw0 hw1 ho
  obtain ⟨p, hpp⟩ : ∃ p : Win → Bool, p = outsideB C false := ⟨_, rfl⟩
  have HPP := Kp.mk hpp
  rw [← hpp]
  clear hpp
  go_enter Try.func44, Try.ntmps44
  go_wp2_with fail
  go_loopw [8] (fun i wr => ∃ k : Nat, k ≤ C.w0.length ∧ i = .int .i64 k ∧ Kp (Below w.heap.size w wr) ∧ Kp (wr.heap[w.heap.size]? = some (.cells #[.slice pa C.parts.length pc, .slice ca C.chans.length cc, .int .i64 C.l0, .slice a0 C.w0.length c0, .int .i64 C.l1, .slice a1 C.w1.length c1] 31 (0, 0))) ∧ Kp ((C.w0.take k).any p = false)) (fun i wr => C.w0.length - (intOf i).toNat)
  case atStart => exact ⟨0, Nat.zero_le _, rfl, ⟨below_al (Below.refl _ _) _⟩, ⟨blk_new w _⟩, ⟨rfl⟩⟩
  case round =>
    obtain ⟨k, hk, rfl, HB, HK, HN⟩ := hrel
    have q0 : wr.cell? ⟨w.heap.size, 0, none⟩ = some (.slice pa C.parts.length pc) := (cell_blk HK.out 0).trans rfl
    have q1 : wr.cell? ⟨w.heap.size, 1, none⟩ = some (.slice ca C.chans.length cc) := (cell_blk HK.out 1).trans rfl
    have q2 : wr.cell? ⟨w.heap.size, 2, none⟩ = some (.int .i64 C.l0) := (cell_blk HK.out 2).trans rfl
    have q3 : wr.cell? ⟨w.heap.size, 3, none⟩ = some (.slice a0 C.w0.length c0) := (cell_blk HK.out 3).trans rfl
    have q4 : wr.cell? ⟨w.heap.size, 4, none⟩ = some (.int .i64 C.l1) := (cell_blk HK.out 4).trans rfl
    have q5 : wr.cell? ⟨w.heap.size, 5, none⟩ = some (.slice a1 C.w1.length c1) := (cell_blk HK.out 5).trans rfl
    have l0 := blk_lt HK.out
    by_cases hlt : k < C.w0.length
    · obtain ⟨g, o, ha, hg, hcc⟩ := HW.out.at (by omega)
      obtain ⟨x, hx⟩ : ∃ x, C.w0[k] = x := ⟨_, rfl⟩
      have hcu : ∀ j, j < 3 → wr.cell? ⟨g, o + k * 3 + j, none⟩ = (winC x)[j]? := fun j hj => by
        have h1 := hcc (k * 3 + j) (by omega)
        rw [flat_at winC 3 winC_len C.w0 k j hlt hj, hx] at h1
        rw [Nat.add_assoc]
        exact (HB.out.cell (p := ⟨g, o + (k * 3 + j), none⟩) hg).trans h1
      have e0 : wr.cell? ⟨g, o + k * 3, none⟩ = some (.int .i64 x.part) := hcu 0 (by omega)
      have e1 : wr.cell? ⟨g, o + k * 3 + 1, none⟩ = some (.int .i64 x.start) := hcu 1 (by omega)
      have e2 : wr.cell? ⟨g, o + k * 3 + 2, none⟩ = some (.int .i64 x.len) := hcu 2 (by omega)
      have hgw : g < wr.heap.size := Nat.lt_of_lt_of_le hg HB.out.size
      have HA : Kp ((C.w0.take (k + 1)).any p = ((C.w0.take k).any p || p x)) := ⟨by rw [List.take_succ_eq_append_getElem hlt, List.any_append, hx]; simp⟩
      have HX : Kp (x ∈ C.w0) := ⟨hx ▸ List.getElem_mem hlt⟩
      have HY : Kp (p x = true → C.w0.any p = true) := ⟨fun h => List.any_eq_true.2 ⟨x, HX.out, h⟩⟩
      have HN1 : Kp (p x = false → (C.w0.take (k + 1)).any p = false) := ⟨fun h => by rw [HA.out, HN.out, h]; rfl⟩
      have HPX : Kp (p x = outsideB C false x) := ⟨by rw [HPP.out]⟩
      subst ha
      clear hcu hcc hx HA HN HX
      obtain ⟨pt, st, ln⟩ := x
      dsimp only at e0 e1 e2 HPX
      have hle := hlen.le
      have HP2 : Kp (p ⟨pt, st, ln⟩ = (decide (st < 0) || decide (ln < 1) || (decide (C.l0 < st) || decide (C.l0 - st < ln)))) := HPX
      clear HPX
      by_cases h1 : st < 0
      · have HT := Kp.mk (HY.out (by rw [HP2.out, decide_eq_true h1]; rfl))
        go_wp2_with fail
        go_quiet (fail)
        go_wp2
        go_ret
        exact ⟨ret_bool HT.out.symm, below_drN (below_al HB.out _)⟩
      · have h1' : decide (st < 0) = false := decide_eq_false h1
        by_cases h2 : ln < 1
        · have HT := Kp.mk (HY.out (by rw [HP2.out, h1', decide_eq_true h2]; rfl))
          go_wp2_with fail
          go_quiet (fail)
          go_wp2
          go_ret
          exact ⟨ret_bool HT.out.symm, below_drN (below_al HB.out _)⟩
        · have h2' : decide (ln < 1) = false := decide_eq_false h2
          by_cases h3 : C.l0 < st
          · have HT := Kp.mk (HY.out (by rw [HP2.out, h1', h2', decide_eq_true h3]; rfl))
            go_wp2_with fail
            go_quiet (fail)
            go_wp2
            go_ret
            exact ⟨ret_bool HT.out.symm, below_drN (below_al HB.out _)⟩
          · have h3' : decide (C.l0 < st) = false := decide_eq_false h3
            have s1 : IntKind.i64.wrap (C.l0 - st) = C.l0 - st := IntWalk.i64_in _ (by omega)
            by_cases h4 : C.l0 - st < ln
            · have HT := Kp.mk (HY.out (by rw [HP2.out, h1', h2', h3', decide_eq_true h4]; rfl))
              go_wp2_with fail
              go_quiet (fail)
              go_wp2
              go_ret
              exact ⟨ret_bool HT.out.symm, below_drN (below_al HB.out _)⟩
            · have h4' : decide (C.l0 - st < ln) = false := decide_eq_false h4
              have HN2 := Kp.mk (HN1.out (by rw [HP2.out, h1', h2', h3', h4']; rfl))
              go_wp2_with fail
              go_quiet (fail)
              go_wp2_with fail
              go_quiet (fail)
              go_wp2
              go_roundw
              case rel => exact ⟨k + 1, by omega, by go_num, ⟨(by repeat (first | exact HB.out | apply below_drN | apply below_al))⟩, ⟨blk_al HK.out _⟩, HN2⟩
              case measure => simp [intOf]; omega
    · obtain rfl : k = C.w0.length := by omega
      have h1 := HN.out
      rw [List.take_length] at h1
      have HF := Kp.mk h1
      clear h1
      go_wp2
      go_ret
      exact ⟨ret_bool HF.out.symm, HB.out⟩

set_option maxRecDepth 100000 in
set_option maxHeartbeats 4000000 in
theorem windows151_any (cv : Value) (C : Cfg) (hsm : C.small) (w : World) (h : CfgAt w cv C) : Calls Try.prog 44 #[cv, .int .i64 1, .int .i64 15] w fun e w' => e = .returned (.bool (C.w1.any (outsideB C true))) ∧ Below w.heap.size w w' := by
  have HC := Kp.mk h
  obtain ⟨ho, pa, pc, ca, cc, a0, c0, a1, c1, rfl, bp, bc, b0, b1, hp, hc, hw0, hw1⟩ := h
  have HW := Kp.mk hw1
  have HPT := Kp.mk hp
  have hs3 := hsm.2.2.2
  have hlen : I64 C.l1 := by first | exact ho.2.2.1 | exact ho.2.2.2.1
  clear hp hc hw0 hw1 ho
  obtain ⟨p, hpp⟩ : ∃ p : Win → Bool, p = outsideB C true := ⟨_, rfl⟩
  have HPP := Kp.mk hpp
  rw [← hpp]
  clear hpp
  go_enter Try.func44, Try.ntmps44
  go_wp2_with fail
  go_loopw [8] (fun i wr => ∃ k : Nat, k ≤ C.w1.length ∧ i = .int .i64 k ∧ Kp (Below w.heap.size w wr) ∧ Kp (wr.heap[w.heap.size]? = some (.cells #[.slice pa C.parts.length pc, .slice ca C.chans.length cc, .int .i64 C.l0, .slice a0 C.w0.length c0, .int .i64 C.l1, .slice a1 C.w1.length c1] 31 (0, 0))) ∧ Kp ((C.w1.take k).any p = false)) (fun i wr => C.w1.length - (intOf i).toNat)
  case atStart => exact ⟨0, Nat.zero_le _, rfl, ⟨below_al (Below.refl _ _) _⟩, ⟨blk_new w _⟩, ⟨rfl⟩⟩
  case round =>
    obtain ⟨k, hk, rfl, HB, HK, HN⟩ := hrel
    have q0 : wr.cell? ⟨w.heap.size, 0, none⟩ = some (.slice pa C.parts.length pc) := (cell_blk HK.out 0).trans rfl
    have q1 : wr.cell? ⟨w.heap.size, 1, none⟩ = some (.slice ca C.chans.length cc) := (cell_blk HK.out 1).trans rfl
    have q2 : wr.cell? ⟨w.heap.size, 2, none⟩ = some (.int .i64 C.l0) := (cell_blk HK.out 2).trans rfl
    have q3 : wr.cell? ⟨w.heap.size, 3, none⟩ = some (.slice a0 C.w0.length c0) := (cell_blk HK.out 3).trans rfl
    have q4 : wr.cell? ⟨w.heap.size, 4, none⟩ = some (.int .i64 C.l1) := (cell_blk HK.out 4).trans rfl
    have q5 : wr.cell? ⟨w.heap.size, 5, none⟩ = some (.slice a1 C.w1.length c1) := (cell_blk HK.out 5).trans rfl
    have l0 := blk_lt HK.out
    by_cases hlt : k < C.w1.length
    · obtain ⟨g, o, ha, hg, hcc⟩ := HW.out.at (by omega)
      obtain ⟨x, hx⟩ : ∃ x, C.w1[k] = x := ⟨_, rfl⟩
      have hcu : ∀ j, j < 3 → wr.cell? ⟨g, o + k * 3 + j, none⟩ = (winC x)[j]? := fun j hj => by
        have h1 := hcc (k * 3 + j) (by omega)
        rw [flat_at winC 3 winC_len C.w1 k j hlt hj, hx] at h1
        rw [Nat.add_assoc]
        exact (HB.out.cell (p := ⟨g, o + (k * 3 + j), none⟩) hg).trans h1
      have e0 : wr.cell? ⟨g, o + k * 3, none⟩ = some (.int .i64 x.part) := hcu 0 (by omega)
      have e1 : wr.cell? ⟨g, o + k * 3 + 1, none⟩ = some (.int .i64 x.start) := hcu 1 (by omega)
      have e2 : wr.cell? ⟨g, o + k * 3 + 2, none⟩ = some (.int .i64 x.len) := hcu 2 (by omega)
      have hgw : g < wr.heap.size := Nat.lt_of_lt_of_le hg HB.out.size
      have HA : Kp ((C.w1.take (k + 1)).any p = ((C.w1.take k).any p || p x)) := ⟨by rw [List.take_succ_eq_append_getElem hlt, List.any_append, hx]; simp⟩
      have HX : Kp (x ∈ C.w1) := ⟨hx ▸ List.getElem_mem hlt⟩
      have HY : Kp (p x = true → C.w1.any p = true) := ⟨fun h => List.any_eq_true.2 ⟨x, HX.out, h⟩⟩
      have HN1 : Kp (p x = false → (C.w1.take (k + 1)).any p = false) := ⟨fun h => by rw [HA.out, HN.out, h]; rfl⟩
      have HPX : Kp (p x = outsideB C true x) := ⟨by rw [HPP.out]⟩
      subst ha
      clear hcu hcc hx HA HN HX
      obtain ⟨pt, st, ln⟩ := x
      dsimp only at e0 e1 e2 HPX
      have hle := hlen.le
      have HP2 : Kp (p ⟨pt, st, ln⟩ = (decide (st < 0) || decide (ln < 1) || (decide (C.l1 < st) || decide (C.l1 - st < ln)))) := HPX
      clear HPX
      by_cases h1 : st < 0
      · have HT := Kp.mk (HY.out (by rw [HP2.out, decide_eq_true h1]; rfl))
        go_wp2_with fail
        go_quiet (fail)
        go_wp2
        go_ret
        exact ⟨ret_bool HT.out.symm, below_drN (below_al HB.out _)⟩
      · have h1' : decide (st < 0) = false := decide_eq_false h1
        by_cases h2 : ln < 1
        · have HT := Kp.mk (HY.out (by rw [HP2.out, h1', decide_eq_true h2]; rfl))
          go_wp2_with fail
          go_quiet (fail)
          go_wp2
          go_ret
          exact ⟨ret_bool HT.out.symm, below_drN (below_al HB.out _)⟩
        · have h2' : decide (ln < 1) = false := decide_eq_false h2
          by_cases h3 : C.l1 < st
          · have HT := Kp.mk (HY.out (by rw [HP2.out, h1', h2', decide_eq_true h3]; rfl))
            go_wp2_with fail
            go_quiet (fail)
            go_wp2
            go_ret
            exact ⟨ret_bool HT.out.symm, below_drN (below_al HB.out _)⟩
          · have h3' : decide (C.l1 < st) = false := decide_eq_false h3
            have s1 : IntKind.i64.wrap (C.l1 - st) = C.l1 - st := IntWalk.i64_in _ (by omega)
            by_cases h4 : C.l1 - st < ln
            · have HT := Kp.mk (HY.out (by rw [HP2.out, h1', h2', h3', decide_eq_true h4]; rfl))
              go_wp2_with fail
              go_quiet (fail)
              go_wp2
              go_ret
              exact ⟨ret_bool HT.out.symm, below_drN (below_al HB.out _)⟩
            · have h4' : decide (C.l1 - st < ln) = false := decide_eq_false h4
              have HN2 := Kp.mk (HN1.out (by rw [HP2.out, h1', h2', h3', h4']; rfl))
              go_wp2_with fail
              go_quiet (fail)
              go_wp2_with fail
              go_quiet (fail)
              go_wp2
              go_roundw
              case rel => exact ⟨k + 1, by omega, by go_num, ⟨(by repeat (first | exact HB.out | apply below_drN | apply below_al))⟩, ⟨blk_al HK.out _⟩, HN2⟩
              case measure => simp [intOf]; omega
    · obtain rfl : k = C.w1.length := by omega
      have h1 := HN.out
      rw [List.take_length] at h1
      have HF := Kp.mk h1
      clear h1
      go_wp2
      go_ret
      exact ⟨ret_bool HF.out.symm, HB.out⟩
end Go.Proofs.Ytmidcnfmphlneaa

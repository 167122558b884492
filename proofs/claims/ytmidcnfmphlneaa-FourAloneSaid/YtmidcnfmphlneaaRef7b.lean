/- Contracts of the reference of defects: windows (12, 13, 14). -/
import Derived.Test.YtmidcnfmphlneaaRef7a
import Derived.Deep.RegionWith
namespace Go.Proofs.Ytmidcnfmphlneaa
open Go.RowKit
set_option linter.unusedSimpArgs false
set_option linter.unusedVariables false

theorem quiet_joined {P : Program} {f : FuncId} {args : Array Value} {w : World} {m n : Nat} {v : Value} (h : Calls P f args (w.drewN (m + n)) fun e w' => e = .returned v ∧ w' = w.drewN (m + n)) :
    Calls P f args (w.drewN (m + n)) fun e w'' => e = .returned v ∧ ∃ k, w'' = w.drewN (m + k) := h.mono fun _ _ ⟨he, hm⟩ => ⟨he, n, hm⟩
set_option maxHeartbeats 400000 in
theorem word07_same (n : Int) (b : Bool) (hb : wordB n = b) (w : World) : Calls Try.prog 54 #[.int .i64 n] w fun e w' => e = .returned (.bool b) ∧ w' = w := by
  subst hb
  by_cases h1 : 0 ≤ n
  · by_cases h2 : n ≤ 4294967295
    · go_enter Try.func54, Try.ntmps54
      go_wp2
      go_ret
      exact ⟨ret_bool (inB_true ⟨h1, h2⟩).symm, rfl⟩
    · have h3 : decide (n ≤ 4294967295) = false := decide_eq_false h2
      go_enter Try.func54, Try.ntmps54
      go_wp2
      go_ret
      exact ⟨ret_bool (inB_false (by omega)).symm, rfl⟩
  · have h3 : decide (0 ≤ n) = false := decide_eq_false h1
    go_enter Try.func54, Try.ntmps54
    go_wp2
    go_ret
    exact ⟨ret_bool (inB_false (by omega)).symm, rfl⟩

set_option maxRecDepth 100000 in
set_option maxHeartbeats 4000000 in
theorem windows120_any (cv : Value) (C : Cfg) (hsm : C.small) (w : World) (h : CfgAt w cv C) : Calls Try.prog 44 #[cv, .int .i64 0, .int .i64 12] w fun e w' => e = .returned (.bool (!inB C.l0 1 64)) ∧ Below w.heap.size w w' := by
  have HC := Kp.mk h
  obtain ⟨ho, pa, pc, ca, cc, a0, c0, a1, c1, rfl, bp, bc, b0, b1, hp, hc, hw0, hw1⟩ := h
  have HW := Kp.mk hw0
  have HPT := Kp.mk hp
  have hs3 := hsm.2.2.1
  have hlen : I64 C.l0 := by first | exact ho.2.2.1 | exact ho.2.2.2.1
  clear hp hc hw0 hw1 ho
  by_cases h1 : C.l0 < 1
  · have HV : Kp (inB C.l0 1 64 = false) := ⟨inB_false (by omega)⟩
    go_enter Try.func44, Try.ntmps44
    go_wp2
    go_ret
    exact ⟨ret_bool (by rw [HV.out]; rfl), (by repeat (first | exact Below.refl _ _ | apply below_al))⟩
  · have h1' : decide (C.l0 < 1) = false := decide_eq_false h1
    by_cases h2 : 64 < C.l0
    · have HV : Kp (inB C.l0 1 64 = false) := ⟨inB_false (by omega)⟩
      go_enter Try.func44, Try.ntmps44
      go_wp2
      go_ret
      exact ⟨ret_bool (by rw [HV.out]; rfl), (by repeat (first | exact Below.refl _ _ | apply below_al))⟩
    · have h2' : decide (64 < C.l0) = false := decide_eq_false h2
      have HV : Kp (inB C.l0 1 64 = true) := ⟨inB_true (by omega)⟩
      go_enter Try.func44, Try.ntmps44
      go_wp2
      go_ret
      exact ⟨ret_bool (by rw [HV.out]; rfl), (by repeat (first | exact Below.refl _ _ | apply below_al))⟩

set_option maxRecDepth 100000 in
set_option maxHeartbeats 4000000 in
theorem windows121_any (cv : Value) (C : Cfg) (hsm : C.small) (w : World) (h : CfgAt w cv C) : Calls Try.prog 44 #[cv, .int .i64 1, .int .i64 12] w fun e w' => e = .returned (.bool (!inB C.l1 1 64)) ∧ Below w.heap.size w w' := by
  have HC := Kp.mk h
  obtain ⟨ho, pa, pc, ca, cc, a0, c0, a1, c1, rfl, bp, bc, b0, b1, hp, hc, hw0, hw1⟩ := h
  have HW := Kp.mk hw1
  have HPT := Kp.mk hp
  have hs3 := hsm.2.2.2
  have hlen : I64 C.l1 := by first | exact ho.2.2.1 | exact ho.2.2.2.1
  clear hp hc hw0 hw1 ho
  by_cases h1 : C.l1 < 1
  · have HV : Kp (inB C.l1 1 64 = false) := ⟨inB_false (by omega)⟩
    go_enter Try.func44, Try.ntmps44
    go_wp2
    go_ret
    exact ⟨ret_bool (by rw [HV.out]; rfl), (by repeat (first | exact Below.refl _ _ | apply below_al))⟩
  · have h1' : decide (C.l1 < 1) = false := decide_eq_false h1
    by_cases h2 : 64 < C.l1
    · have HV : Kp (inB C.l1 1 64 = false) := ⟨inB_false (by omega)⟩
      go_enter Try.func44, Try.ntmps44
      go_wp2
      go_ret
      exact ⟨ret_bool (by rw [HV.out]; rfl), (by repeat (first | exact Below.refl _ _ | apply below_al))⟩
    · have h2' : decide (64 < C.l1) = false := decide_eq_false h2
      have HV : Kp (inB C.l1 1 64 = true) := ⟨inB_true (by omega)⟩
      go_enter Try.func44, Try.ntmps44
      go_wp2
      go_ret
      exact ⟨ret_bool (by rw [HV.out]; rfl), (by repeat (first | exact Below.refl _ _ | apply below_al))⟩

set_option maxRecDepth 100000 in
set_option maxHeartbeats 4000000 in
theorem windows130_any (cv : Value) (C : Cfg) (hsm : C.small) (w : World) (h : CfgAt w cv C) : Calls Try.prog 44 #[cv, .int .i64 0, .int .i64 13] w fun e w' => e = .returned (.bool (decide (16 < C.w0.length))) ∧ Below w.heap.size w w' := by
  have HC := Kp.mk h
  obtain ⟨ho, pa, pc, ca, cc, a0, c0, a1, c1, rfl, bp, bc, b0, b1, hp, hc, hw0, hw1⟩ := h
  have HW := Kp.mk hw0
  have HPT := Kp.mk hp
  have hs3 := hsm.2.2.1
  have hlen : I64 C.l0 := by first | exact ho.2.2.1 | exact ho.2.2.2.1
  clear hp hc hw0 hw1 ho
  go_enter Try.func44, Try.ntmps44
  go_wp2
  go_ret
  exact ⟨ret_bool (by rw [decide_eq_decide]; omega), (by repeat (first | exact Below.refl _ _ | apply below_al))⟩

set_option maxRecDepth 100000 in
set_option maxHeartbeats 4000000 in
theorem windows131_any (cv : Value) (C : Cfg) (hsm : C.small) (w : World) (h : CfgAt w cv C) : Calls Try.prog 44 #[cv, .int .i64 1, .int .i64 13] w fun e w' => e = .returned (.bool (decide (16 < C.w1.length))) ∧ Below w.heap.size w w' := by
  have HC := Kp.mk h
  obtain ⟨ho, pa, pc, ca, cc, a0, c0, a1, c1, rfl, bp, bc, b0, b1, hp, hc, hw0, hw1⟩ := h
  have HW := Kp.mk hw1
  have HPT := Kp.mk hp
  have hs3 := hsm.2.2.2
  have hlen : I64 C.l1 := by first | exact ho.2.2.1 | exact ho.2.2.2.1
  clear hp hc hw0 hw1 ho
  go_enter Try.func44, Try.ntmps44
  go_wp2
  go_ret
  exact ⟨ret_bool (by rw [decide_eq_decide]; omega), (by repeat (first | exact Below.refl _ _ | apply below_al))⟩

set_option maxRecDepth 100000 in
set_option maxHeartbeats 4000000 in
theorem windows140_any (cv : Value) (C : Cfg) (hsm : C.small) (w : World) (h : CfgAt w cv C) : Calls Try.prog 44 #[cv, .int .i64 0, .int .i64 14] w fun e w' => e = .returned (.bool (C.w0.any (foreignB C false))) ∧ Below w.heap.size w w' := by
  have HC := Kp.mk h
  obtain ⟨ho, pa, pc, ca, cc, a0, c0, a1, c1, rfl, bp, bc, b0, b1, hp, hc, hw0, hw1⟩ := h
  have HW := Kp.mk hw0
  have HPT := Kp.mk hp
  have hs3 := hsm.2.2.1
  have hlen : I64 C.l0 := by first | exact ho.2.2.1 | exact ho.2.2.2.1
  clear hp hc hw0 hw1 ho
  obtain ⟨p, hpp⟩ : ∃ p : Win → Bool, p = foreignB C false := ⟨_, rfl⟩
  have HPP := Kp.mk hpp
  rw [← hpp]
  clear hpp
  go_enter Try.func44, Try.ntmps44
  go_wp2_with fail
  go_loopw [8] (fun i wr => ∃ k : Nat, k ≤ C.w0.length ∧ i = .int .i64 k ∧ Kp (Below w.heap.size w wr) ∧ Kp (wr.heap[w.heap.size]? = some (.cells #[.slice pa C.parts.length pc, .slice ca C.chans.length cc, .int .i64 C.l0, .slice a0 C.w0.length c0, .int .i64 C.l1, .slice a1 C.w1.length c1] 31 (0, 0))) ∧ Kp ((C.w0.take k).any p = false)) (fun i wr => C.w0.length - (intOf i).toNat)
  case atStart => exact ⟨0, Nat.zero_le _, rfl, ⟨below_al (Below.refl _ _) _⟩, ⟨blk_new w _⟩, ⟨rfl⟩⟩
  case round =>
    obtain ⟨k, hk, rfl, HB, HK, HN⟩ := hrel
    have q0 : wr.cell? ⟨w.heap.size, 0, none⟩ = some (.slice pa C.parts.length pc) := (cell_blk HK.out 0).trans rfl
    have q1 : wr.cell? ⟨w.heap.size, 1, none⟩ = some (.slice ca C.chans.length cc) := (cell_blk HK.out 1).trans rfl
    have q2 : wr.cell? ⟨w.heap.size, 2, none⟩ = some (.int .i64 C.l0) := (cell_blk HK.out 2).trans rfl
    have q3 : wr.cell? ⟨w.heap.size, 3, none⟩ = some (.slice a0 C.w0.length c0) := (cell_blk HK.out 3).trans rfl
    have q4 : wr.cell? ⟨w.heap.size, 4, none⟩ = some (.int .i64 C.l1) := (cell_blk HK.out 4).trans rfl
    have q5 : wr.cell? ⟨w.heap.size, 5, none⟩ = some (.slice a1 C.w1.length c1) := (cell_blk HK.out 5).trans rfl
    have l0 := blk_lt HK.out
    by_cases hlt : k < C.w0.length
    · obtain ⟨g, o, ha, hg, hcc⟩ := HW.out.at (by omega)
      obtain ⟨x, hx⟩ : ∃ x, C.w0[k] = x := ⟨_, rfl⟩
      have hcu : ∀ j, j < 3 → wr.cell? ⟨g, o + k * 3 + j, none⟩ = (winC x)[j]? := fun j hj => by
        have h1 := hcc (k * 3 + j) (by omega)
        rw [flat_at winC 3 winC_len C.w0 k j hlt hj, hx] at h1
        rw [Nat.add_assoc]
        exact (HB.out.cell (p := ⟨g, o + (k * 3 + j), none⟩) hg).trans h1
      have e0 : wr.cell? ⟨g, o + k * 3, none⟩ = some (.int .i64 x.part) := hcu 0 (by omega)
      have e1 : wr.cell? ⟨g, o + k * 3 + 1, none⟩ = some (.int .i64 x.start) := hcu 1 (by omega)
      have e2 : wr.cell? ⟨g, o + k * 3 + 2, none⟩ = some (.int .i64 x.len) := hcu 2 (by omega)
      have hgw : g < wr.heap.size := Nat.lt_of_lt_of_le hg HB.out.size
      have HA : Kp ((C.w0.take (k + 1)).any p = ((C.w0.take k).any p || p x)) := ⟨by rw [List.take_succ_eq_append_getElem hlt, List.any_append, hx]; simp⟩
      have HX : Kp (x ∈ C.w0) := ⟨hx ▸ List.getElem_mem hlt⟩
      have HY : Kp (p x = true → C.w0.any p = true) := ⟨fun h => List.any_eq_true.2 ⟨x, HX.out, h⟩⟩
      have HN1 : Kp (p x = false → (C.w0.take (k + 1)).any p = false) := ⟨fun h => by rw [HA.out, HN.out, h]; rfl⟩
      have HPX : Kp (p x = foreignB C false x) := ⟨by rw [HPP.out]⟩
      subst ha
      clear hcu hcc hx HA HN HX
      obtain ⟨pt, st, ln⟩ := x
      dsimp only at e0 e1 e2 HPX
      cases hs : strangeB C pt with
      | true =>
        have HT := Kp.mk (HY.out (by rw [HPX.out, foreignB, hs]; rfl))
        have HS := Kp.mk hs
        clear hs
        go_wp2_with fail
        refine (part07_any _ C pt true HS.out _ (HC.out.below (below_al HB.out _))).mono ?_
        rintro e w1 ⟨rfl, hb1⟩
        have HB1 : Kp (Below w.heap.size w w1) := ⟨below_call (below_al HB.out _) hb1⟩
        clear hb1
        go_wp2
        go_ret
        exact ⟨ret_bool HT.out.symm, HB1.out⟩
      | false =>
        have hin : ∃ j : Nat, pt = (j : Int) ∧ j < C.parts.length := by
          simp only [strangeB, Bool.not_eq_false', inB_iff] at hs
          exact ⟨pt.toNat, by omega, by omega⟩
        obtain ⟨j, rfl, hj⟩ := hin
        obtain ⟨y, hy⟩ : ∃ y, C.parts[j] = y := ⟨_, rfl⟩
        have HV : Kp (p ⟨(j : Int), st, ln⟩ = (y.1 != 0)) := ⟨by rw [HPX.out, foreignB, hs]; simp [hj, hy, cI]⟩
        obtain ⟨g2, o2, hpa, hg2, hcc2⟩ := HPT.out.at (by omega)
        have hcj := hcc2 (j * 2 + 0) (by omega)
        rw [flat_at partC 2 partC_len C.parts j 0 hj (by omega), hy] at hcj
        have hcj2 := hcc2 (j * 2 + 1) (by omega)
        rw [flat_at partC 2 partC_len C.parts j 1 hj (by omega), hy] at hcj2
        have HCJ : Kp (w.cell? ⟨g2, o2 + j * 2, none⟩ = some (.int .i64 y.1)) := ⟨hcj⟩
        have HCJ2 : Kp (w.cell? ⟨g2, o2 + j * 2 + 1, none⟩ = some (.int .i64 y.2)) := ⟨hcj2⟩
        have HS := Kp.mk hs
        have hj0 : (0 : Int) ≤ (j : Int) := by omega
        have hj1 : (j : Int) < (C.parts.length : Int) := by omega
        subst hpa
        obtain ⟨y1, y2⟩ := y
        dsimp only at HV HCJ HCJ2
        clear hcj hcj2 hcc2 hs hy HPX
        go_wp2_with fail
        refine (part07_any _ C (j : Int) false HS.out _ (HC.out.below (below_al HB.out _))).mono ?_
        rintro e w1 ⟨rfl, hb1⟩
        have HB1 : Kp (Below w.heap.size w w1) := ⟨below_call (below_al HB.out _) hb1⟩
        have K0 : w1.heap[w.heap.size]? = some (.cells #[.slice (some ⟨g2, o2, none⟩) C.parts.length pc, .slice ca C.chans.length cc, .int .i64 C.l0, .slice (some ⟨g, o, none⟩) C.w0.length c0, .int .i64 C.l1, .slice a1 C.w1.length c1] 31 (0, 0)) := blk_below (blk_al HK.out _) hb1
        have K1 : w1.heap[wr.heap.size]? = some (.cells #[.int .i64 (j : Int), .int .i64 st, .int .i64 ln] 65 (0, 0)) := blk_below (blk_new wr _) hb1
        have HK1 := Kp.mk K0
        have r0 : w1.cell? ⟨w.heap.size, 0, none⟩ = some (.slice (some ⟨g2, o2, none⟩) C.parts.length pc) := (cell_blk K0 0).trans rfl
        have r1 : w1.cell? ⟨wr.heap.size, 0, none⟩ = some (.int .i64 (j : Int)) := (cell_blk K1 0).trans rfl
        have r2 : w1.cell? ⟨g2, o2 + j * 2, none⟩ = some (.int .i64 y1) := (HB1.out.cell (p := ⟨g2, _, none⟩) hg2).trans HCJ.out
        have l1 := blk_lt K0
        have l2 := blk_lt K1
        clear hb1 K0 K1
        by_cases hz : y1 = 0
        · have hz1 : (y1 != 0) = false := by simpa using hz
          have HN2 := Kp.mk (HN1.out (by rw [HV.out, hz1]))
          clear hz HV
          go_wp2_with fail
          go_quiet (fail)
          go_wp2_with fail
          go_quiet (fail)
          go_wp2
          go_roundw
          case rel => exact ⟨k + 1, by omega, by go_num, ⟨(by repeat (first | exact HB1.out | apply below_drN | apply below_al))⟩, HK1, HN2⟩
          case measure => simp [intOf]; omega
        · have hz1 : (y1 != 0) = true := by simpa using hz
          have HT := Kp.mk (HY.out (by rw [HV.out, hz1]))
          clear hz HV
          go_wp2
          go_ret
          exact ⟨ret_bool HT.out.symm, HB1.out⟩
    · obtain rfl : k = C.w0.length := by omega
      have h1 := HN.out
      rw [List.take_length] at h1
      have HF := Kp.mk h1
      clear h1
      go_wp2
      go_ret
      exact ⟨ret_bool HF.out.symm, HB.out⟩

set_option maxRecDepth 100000 in
set_option maxHeartbeats 4000000 in
theorem windows141_any (cv : Value) (C : Cfg) (hsm : C.small) (w : World) (h : CfgAt w cv C) : Calls Try.prog 44 #[cv, .int .i64 1, .int .i64 14] w fun e w' => e = .returned (.bool (C.w1.any (foreignB C true))) ∧ Below w.heap.size w w' := by
  have HC := Kp.mk h
  obtain ⟨ho, pa, pc, ca, cc, a0, c0, a1, c1, rfl, bp, bc, b0, b1, hp, hc, hw0, hw1⟩ := h
  have HW := Kp.mk hw1
  have HPT := Kp.mk hp
  have hs3 := hsm.2.2.2
  have hlen : I64 C.l1 := by first | exact ho.2.2.1 | exact ho.2.2.2.1
  clear hp hc hw0 hw1 ho
  obtain ⟨p, hpp⟩ : ∃ p : Win → Bool, p = foreignB C true := ⟨_, rfl⟩
  have HPP := Kp.mk hpp
  rw [← hpp]
  clear hpp
  go_enter Try.func44, Try.ntmps44
  go_wp2_with fail
  go_loopw [8] (fun i wr => ∃ k : Nat, k ≤ C.w1.length ∧ i = .int .i64 k ∧ Kp (Below w.heap.size w wr) ∧ Kp (wr.heap[w.heap.size]? = some (.cells #[.slice pa C.parts.length pc, .slice ca C.chans.length cc, .int .i64 C.l0, .slice a0 C.w0.length c0, .int .i64 C.l1, .slice a1 C.w1.length c1] 31 (0, 0))) ∧ Kp ((C.w1.take k).any p = false)) (fun i wr => C.w1.length - (intOf i).toNat)
  case atStart => exact ⟨0, Nat.zero_le _, rfl, ⟨below_al (Below.refl _ _) _⟩, ⟨blk_new w _⟩, ⟨rfl⟩⟩
  case round =>
    obtain ⟨k, hk, rfl, HB, HK, HN⟩ := hrel
    have q0 : wr.cell? ⟨w.heap.size, 0, none⟩ = some (.slice pa C.parts.length pc) := (cell_blk HK.out 0).trans rfl
    have q1 : wr.cell? ⟨w.heap.size, 1, none⟩ = some (.slice ca C.chans.length cc) := (cell_blk HK.out 1).trans rfl
    have q2 : wr.cell? ⟨w.heap.size, 2, none⟩ = some (.int .i64 C.l0) := (cell_blk HK.out 2).trans rfl
    have q3 : wr.cell? ⟨w.heap.size, 3, none⟩ = some (.slice a0 C.w0.length c0) := (cell_blk HK.out 3).trans rfl
    have q4 : wr.cell? ⟨w.heap.size, 4, none⟩ = some (.int .i64 C.l1) := (cell_blk HK.out 4).trans rfl
    have q5 : wr.cell? ⟨w.heap.size, 5, none⟩ = some (.slice a1 C.w1.length c1) := (cell_blk HK.out 5).trans rfl
    have l0 := blk_lt HK.out
    by_cases hlt : k < C.w1.length
    · obtain ⟨g, o, ha, hg, hcc⟩ := HW.out.at (by omega)
      obtain ⟨x, hx⟩ : ∃ x, C.w1[k] = x := ⟨_, rfl⟩
      have hcu : ∀ j, j < 3 → wr.cell? ⟨g, o + k * 3 + j, none⟩ = (winC x)[j]? := fun j hj => by
        have h1 := hcc (k * 3 + j) (by omega)
        rw [flat_at winC 3 winC_len C.w1 k j hlt hj, hx] at h1
        rw [Nat.add_assoc]
        exact (HB.out.cell (p := ⟨g, o + (k * 3 + j), none⟩) hg).trans h1
      have e0 : wr.cell? ⟨g, o + k * 3, none⟩ = some (.int .i64 x.part) := hcu 0 (by omega)
      have e1 : wr.cell? ⟨g, o + k * 3 + 1, none⟩ = some (.int .i64 x.start) := hcu 1 (by omega)
      have e2 : wr.cell? ⟨g, o + k * 3 + 2, none⟩ = some (.int .i64 x.len) := hcu 2 (by omega)
      have hgw : g < wr.heap.size := Nat.lt_of_lt_of_le hg HB.out.size
      have HA : Kp ((C.w1.take (k + 1)).any p = ((C.w1.take k).any p || p x)) := ⟨by rw [List.take_succ_eq_append_getElem hlt, List.any_append, hx]; simp⟩
      have HX : Kp (x ∈ C.w1) := ⟨hx ▸ List.getElem_mem hlt⟩
      have HY : Kp (p x = true → C.w1.any p = true) := ⟨fun h => List.any_eq_true.2 ⟨x, HX.out, h⟩⟩
      have HN1 : Kp (p x = false → (C.w1.take (k + 1)).any p = false) := ⟨fun h => by rw [HA.out, HN.out, h]; rfl⟩
      have HPX : Kp (p x = foreignB C true x) := ⟨by rw [HPP.out]⟩
      subst ha
      clear hcu hcc hx HA HN HX
      obtain ⟨pt, st, ln⟩ := x
      dsimp only at e0 e1 e2 HPX
      cases hs : strangeB C pt with
      | true =>
        have HT := Kp.mk (HY.out (by rw [HPX.out, foreignB, hs]; rfl))
        have HS := Kp.mk hs
        clear hs
        go_wp2_with fail
        refine (part07_any _ C pt true HS.out _ (HC.out.below (below_al HB.out _))).mono ?_
        rintro e w1 ⟨rfl, hb1⟩
        have HB1 : Kp (Below w.heap.size w w1) := ⟨below_call (below_al HB.out _) hb1⟩
        clear hb1
        go_wp2
        go_ret
        exact ⟨ret_bool HT.out.symm, HB1.out⟩
      | false =>
        have hin : ∃ j : Nat, pt = (j : Int) ∧ j < C.parts.length := by
          simp only [strangeB, Bool.not_eq_false', inB_iff] at hs
          exact ⟨pt.toNat, by omega, by omega⟩
        obtain ⟨j, rfl, hj⟩ := hin
        obtain ⟨y, hy⟩ : ∃ y, C.parts[j] = y := ⟨_, rfl⟩
        have HV : Kp (p ⟨(j : Int), st, ln⟩ = (y.1 != 1)) := ⟨by rw [HPX.out, foreignB, hs]; simp [hj, hy, cI]⟩
        obtain ⟨g2, o2, hpa, hg2, hcc2⟩ := HPT.out.at (by omega)
        have hcj := hcc2 (j * 2 + 0) (by omega)
        rw [flat_at partC 2 partC_len C.parts j 0 hj (by omega), hy] at hcj
        have hcj2 := hcc2 (j * 2 + 1) (by omega)
        rw [flat_at partC 2 partC_len C.parts j 1 hj (by omega), hy] at hcj2
        have HCJ : Kp (w.cell? ⟨g2, o2 + j * 2, none⟩ = some (.int .i64 y.1)) := ⟨hcj⟩
        have HCJ2 : Kp (w.cell? ⟨g2, o2 + j * 2 + 1, none⟩ = some (.int .i64 y.2)) := ⟨hcj2⟩
        have HS := Kp.mk hs
        have hj0 : (0 : Int) ≤ (j : Int) := by omega
        have hj1 : (j : Int) < (C.parts.length : Int) := by omega
        subst hpa
        obtain ⟨y1, y2⟩ := y
        dsimp only at HV HCJ HCJ2
        clear hcj hcj2 hcc2 hs hy HPX
        go_wp2_with fail
        refine (part07_any _ C (j : Int) false HS.out _ (HC.out.below (below_al HB.out _))).mono ?_
        rintro e w1 ⟨rfl, hb1⟩
        have HB1 : Kp (Below w.heap.size w w1) := ⟨below_call (below_al HB.out _) hb1⟩
        have K0 : w1.heap[w.heap.size]? = some (.cells #[.slice (some ⟨g2, o2, none⟩) C.parts.length pc, .slice ca C.chans.length cc, .int .i64 C.l0, .slice a0 C.w0.length c0, .int .i64 C.l1, .slice (some ⟨g, o, none⟩) C.w1.length c1] 31 (0, 0)) := blk_below (blk_al HK.out _) hb1
        have K1 : w1.heap[wr.heap.size]? = some (.cells #[.int .i64 (j : Int), .int .i64 st, .int .i64 ln] 65 (0, 0)) := blk_below (blk_new wr _) hb1
        have HK1 := Kp.mk K0
        have r0 : w1.cell? ⟨w.heap.size, 0, none⟩ = some (.slice (some ⟨g2, o2, none⟩) C.parts.length pc) := (cell_blk K0 0).trans rfl
        have r1 : w1.cell? ⟨wr.heap.size, 0, none⟩ = some (.int .i64 (j : Int)) := (cell_blk K1 0).trans rfl
        have r2 : w1.cell? ⟨g2, o2 + j * 2, none⟩ = some (.int .i64 y1) := (HB1.out.cell (p := ⟨g2, _, none⟩) hg2).trans HCJ.out
        have l1 := blk_lt K0
        have l2 := blk_lt K1
        clear hb1 K0 K1
        by_cases hz : y1 = 1
        · have hz1 : (y1 != 1) = false := by simpa using hz
          have HN2 := Kp.mk (HN1.out (by rw [HV.out, hz1]))
          clear hz HV
          go_wp2_with fail
          go_quiet (fail)
          go_wp2_with fail
          go_quiet (fail)
          go_wp2
          go_roundw
          case rel => exact ⟨k + 1, by omega, by go_num, ⟨(by repeat (first | exact HB1.out | apply below_drN | apply below_al))⟩, HK1, HN2⟩
          case measure => simp [intOf]; omega
        · have hz1 : (y1 != 1) = true := by simpa using hz
          have HT := Kp.mk (HY.out (by rw [HV.out, hz1]))
          clear hz HV
          go_wp2
          go_ret
          exact ⟨ret_bool HT.out.symm, HB1.out⟩
    · obtain rfl : k = C.w1.length := by omega
      have h1 := HN.out
      rw [List.take_length] at h1
      have HF := Kp.mk h1
      clear h1
      go_wp2
      go_ret
      exact ⟨ret_bool HF.out.symm, HB.out⟩
end Go.Proofs.Ytmidcnfmphlneaa

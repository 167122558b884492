/- Contracts of package layout: a cell. -/
import Derived.Test.YtpeajlponlmceaaLay6
namespace Go.Proofs.Ytpeajlponlmceaa
open Go.RowKit
set_option linter.unusedSimpArgs false
set_option linter.unusedVariables false

set_option maxRecDepth 100000 in
set_option maxHeartbeats 4000000 in
theorem cell_k (cv : Value) (C : Cfg) (hsm : C.small) (k i : Int) (hk : ¬ (0 ≤ k ∧ k < C.chans.length)) (w : World) (h : CfgAt w cv C) : Calls Try.prog 25 #[cv, .int .i64 k, .int .i64 i] w fun e w' => e = .returned (.agg #[.int .i64 (cellB C k i).1, .int .i64 (cellB C k i).2]) ∧ Below w.heap.size w w' := by
  have HC := Kp.mk h
  have HZ := Kp.mk (cellB_no C k i fun h => hk ⟨h.2.1, h.2.2.1⟩)
  obtain ⟨ho, pa, pc, ca, cc, a0, c0, a1, c1, rfl, bp, bc, b0, b1, hp, hc, hw0, hw1⟩ := h
  clear ho hp hc hw0 hw1
  by_cases h0 : k < 0
  · go_enter Try.func25, Try.ntmps25
    have HB0 : Kp (Below w.heap.size w w) := ⟨Below.refl _ _⟩
    go_wp2
    exact bodyPost_ret (v := .agg #[.int .i64 0, .int .i64 0]) (results_cell_row rfl _ _ _ _ _ _ _ rfl (blk_at (w := (w.alloc (.cells #[.slice pa C.parts.length pc, .slice ca C.chans.length cc, .int .i64 C.l0, .slice a0 C.w0.length c0, .int .i64 C.l1, .slice a1 C.w1.length c1] 29))) (by simp) _) Try.underlying49 rfl (by kernel_rfl)) rfl ⟨zero_out HZ.out, (below_al (below_al HB0.out _) _)⟩
  · have h1 : decide (k < 0) = false := decide_eq_false h0
    have h2 : (C.chans.length : Int) ≤ k := by omega
    clear hk
    go_enter Try.func25, Try.ntmps25
    have HB0 : Kp (Below w.heap.size w w) := ⟨Below.refl _ _⟩
    go_wp2
    exact bodyPost_ret (v := .agg #[.int .i64 0, .int .i64 0]) (results_cell_row rfl _ _ _ _ _ _ _ rfl (blk_at (w := (w.alloc (.cells #[.slice pa C.parts.length pc, .slice ca C.chans.length cc, .int .i64 C.l0, .slice a0 C.w0.length c0, .int .i64 C.l1, .slice a1 C.w1.length c1] 29))) (by simp) _) Try.underlying49 rfl (by kernel_rfl)) rfl ⟨zero_out HZ.out, (below_al (below_al HB0.out _) _)⟩

set_option maxRecDepth 100000 in
set_option maxHeartbeats 4000000 in
theorem cell_neg (cv : Value) (C : Cfg) (hsm : C.small) (k : Nat) (hk : k < C.chans.length) (i : Int) (hb : i < 0) (w : World) (h : CfgAt w cv C) : Calls Try.prog 25 #[cv, .int .i64 k, .int .i64 i] w fun e w' => e = .returned (.agg #[.int .i64 (cellB C k i).1, .int .i64 (cellB C k i).2]) ∧ Below w.heap.size w w' := by
  have HC := Kp.mk h
  have HZ := Kp.mk (cellB_no C k i fun h => by omega)
  have h1 : decide ((k : Int) < 0) = false := decide_eq_false (by omega)
  have h2 : decide ((C.chans.length : Int) ≤ (k : Int)) = false := decide_eq_false (by omega)
  have h3 : decide (C.chans.length ≤ k) = false := decide_eq_false (by omega)
  obtain ⟨ho, pa, pc, ca, cc, a0, c0, a1, c1, rfl, bp, bc, b0, b1, hp, hc, hw0, hw1⟩ := h
  clear ho hp hc hw0 hw1
  go_enter Try.func25, Try.ntmps25
  have HB0 : Kp (Below w.heap.size w w) := ⟨Below.refl _ _⟩
  go_wp2
  exact bodyPost_ret (v := .agg #[.int .i64 0, .int .i64 0]) (results_cell_row rfl _ _ _ _ _ _ _ rfl (blk_at (w := (w.alloc (.cells #[.slice pa C.parts.length pc, .slice ca C.chans.length cc, .int .i64 C.l0, .slice a0 C.w0.length c0, .int .i64 C.l1, .slice a1 C.w1.length c1] 29))) (by simp) _) Try.underlying49 rfl (by kernel_rfl)) rfl ⟨zero_out HZ.out, (below_al (below_al HB0.out _) _)⟩

set_option maxRecDepth 100000 in
set_option maxHeartbeats 4000000 in
theorem cell_big (cv : Value) (C : Cfg) (hsm : C.small) (k : Nat) (hk : k < C.chans.length) (i : Int) (hb : 0 ≤ i) (hd : (C.chans.getD k default).depth ≤ i) (w : World) (h : CfgAt w cv C) : Calls Try.prog 25 #[cv, .int .i64 k, .int .i64 i] w fun e w' => e = .returned (.agg #[.int .i64 (cellB C k i).1, .int .i64 (cellB C k i).2]) ∧ Below w.heap.size w w' := by
  have HC := Kp.mk h
  have HZ := Kp.mk (cellB_no C k i fun h => by have := h.2.2.2.2.2; rw [Int.toNat_natCast] at this; omega)
  have h1 : decide ((k : Int) < 0) = false := decide_eq_false (by omega)
  have h2 : decide ((C.chans.length : Int) ≤ (k : Int)) = false := decide_eq_false (by omega)
  have h3 : decide (C.chans.length ≤ k) = false := decide_eq_false (by omega)
  have h4 : decide (i < 0) = false := decide_eq_false (by omega)
  obtain ⟨ho, pa, pc, ca, cc, a0, c0, a1, c1, rfl, bp, bc, b0, b1, hp, hc, hw0, hw1⟩ := h
  obtain ⟨g, o, rfl, hg, hcc⟩ := hc.at (by omega)
  obtain ⟨x, hx⟩ : ∃ x, C.chans[k] = x := ⟨_, rfl⟩
  have HXG : Kp (C.chans.getD k default = x) := ⟨by rw [getD_at _ _ _ (by omega), hx]⟩
  have hcu : ∀ j, j < 7 → w.cell? ⟨g, o + k * 7 + j, none⟩ = (chanC x)[j]? := fun j hj => by
    have h1 := hcc (k * 7 + j) (by omega)
    rw [flat_at chanC 7 chanC_len C.chans k j (by omega) hj, hx] at h1
    rw [Nat.add_assoc]
    exact h1
  have HCU := Kp.mk hcu
  have hk0 : (0 : Int) ≤ (k : Int) := by omega
  have hk1 : (k : Int) < (C.chans.length : Int) := by omega
  clear hcu hcc
  have HXD : Kp ((C.chans.getD k default).depth = x.depth) := ⟨by rw [HXG.out]⟩
  rw [HXG.out] at hd
  clear hx
  clear ho hp hc hw0 hw1
  go_enter Try.func25, Try.ntmps25
  have x4 : w.cell? ⟨g, o + k * 7 + 4, none⟩ = some (.int .i64 x.depth) := ((Below.refl w.heap.size w).cell (p := ⟨g, o + k * 7 + 4, none⟩) hg).trans (HCU.out 4 (by omega))
  have hgw : g < w.heap.size := Nat.lt_of_lt_of_le hg (Below.refl w.heap.size w).size
  have HB0 : Kp (Below w.heap.size w w) := ⟨Below.refl _ _⟩
  go_wp2
  exact bodyPost_ret (v := .agg #[.int .i64 0, .int .i64 0]) (results_cell_row rfl _ _ _ _ _ _ _ rfl (blk_at (w := (w.alloc (.cells #[.slice pa C.parts.length pc, .slice (some ⟨g, o, none⟩) C.chans.length cc, .int .i64 C.l0, .slice a0 C.w0.length c0, .int .i64 C.l1, .slice a1 C.w1.length c1] 29))) (by simp) _) Try.underlying49 rfl (by kernel_rfl)) rfl ⟨zero_out HZ.out, (below_al (below_al HB0.out _) _)⟩

set_option maxRecDepth 100000 in
set_option maxHeartbeats 4000000 in
theorem cell_yes (cv : Value) (C : Cfg) (hsm : C.small) (ha : accB C = true) (k : Nat) (hk : k < C.chans.length) (hkd : (C.chans.getD k default).kind = 2) (i : Int) (hb : 0 ≤ i) (hd : i < (C.chans.getD k default).depth) (w : World) (h : CfgAt w cv C) : Calls Try.prog 25 #[cv, .int .i64 k, .int .i64 i] w fun e w' => e = .returned (.agg #[.int .i64 (cellB C k i).1, .int .i64 (cellB C k i).2]) ∧ Below w.heap.size w w' := by
  have HC := Kp.mk h
  have HS := Kp.mk (cellB_yes C k i ⟨ha, hk, hkd, hb, hd⟩)
  have hcs := chn_small ha (List.getElem_mem hk)
  have h1 : decide ((k : Int) < 0) = false := decide_eq_false (by omega)
  have h2 : decide ((C.chans.length : Int) ≤ (k : Int)) = false := decide_eq_false (by omega)
  have h3 : decide (C.chans.length ≤ k) = false := decide_eq_false (by omega)
  have h4 : decide (i < 0) = false := decide_eq_false (by omega)
  obtain ⟨ho, pa, pc, ca, cc, a0, c0, a1, c1, rfl, bp, bc, b0, b1, hp, hc, hw0, hw1⟩ := h
  obtain ⟨g, o, rfl, hg, hcc⟩ := hc.at (by omega)
  obtain ⟨x, hx⟩ : ∃ x, C.chans[k] = x := ⟨_, rfl⟩
  have HXG : Kp (C.chans.getD k default = x) := ⟨by rw [getD_at _ _ _ (by omega), hx]⟩
  have hcu : ∀ j, j < 7 → w.cell? ⟨g, o + k * 7 + j, none⟩ = (chanC x)[j]? := fun j hj => by
    have h1 := hcc (k * 7 + j) (by omega)
    rw [flat_at chanC 7 chanC_len C.chans k j (by omega) hj, hx] at h1
    rw [Nat.add_assoc]
    exact h1
  have HCU := Kp.mk hcu
  have hk0 : (0 : Int) ≤ (k : Int) := by omega
  have hk1 : (k : Int) < (C.chans.length : Int) := by omega
  clear hcu hcc
  rw [hx] at hcs
  rw [HXG.out] at hd
  have HS2 : Kp (cellB C k i = (befC C k + (1 + i * (1 + x.words)), 1 + x.words)) := ⟨by rw [HS.out, HXG.out]⟩
  have h5 : decide (x.depth ≤ i) = false := decide_eq_false (by omega)
  have s1 : IntKind.i64.wrap (1 + x.words) = 1 + x.words := IntWalk.i64_in _ (by omega)
  obtain ⟨m, hm⟩ : ∃ m, i * (1 + x.words) = m := ⟨_, rfl⟩
  have hm1 : 0 ≤ m := hm ▸ Int.mul_nonneg hb (by omega)
  have hm2 : m ≤ 8 * 17 := hm ▸ Int.mul_le_mul (by omega) (by omega) (by omega) (by omega)
  have s2 : IntKind.i64.wrap (i * (1 + x.words)) = m := by rw [hm]; exact IntWalk.i64_in _ (by omega)
  have s3 : IntKind.i64.wrap (1 + m) = 1 + m := IntWalk.i64_in _ (by omega)
  have HS3 : Kp (cellB C k i = (befC C k + (1 + m), 1 + x.words)) := ⟨by rw [HS2.out, hm]⟩
  clear hx hm
  clear ho hp hc hw0 hw1
  go_enter Try.func25, Try.ntmps25
  have x3 : w.cell? ⟨g, o + k * 7 + 3, none⟩ = some (.int .i64 x.words) := ((Below.refl w.heap.size w).cell (p := ⟨g, o + k * 7 + 3, none⟩) hg).trans (HCU.out 3 (by omega))
  have x4 : w.cell? ⟨g, o + k * 7 + 4, none⟩ = some (.int .i64 x.depth) := ((Below.refl w.heap.size w).cell (p := ⟨g, o + k * 7 + 4, none⟩) hg).trans (HCU.out 4 (by omega))
  have hgw : g < w.heap.size := Nat.lt_of_lt_of_le hg (Below.refl w.heap.size w).size
  have HB0 : Kp (Below w.heap.size w w) := ⟨Below.refl _ _⟩
  go_wp2_with fail
  refine (within_yes _ C hsm ha k hk 2 (1 + m) _ hkd (by omega) _ (HC.out.below (below_al (below_al HB0.out _) _))).mono ?_
  rintro e w1 ⟨rfl, hb⟩
  have q1 : Kp (w1.heap[w.heap.size]? = some (.cells #[.slice pa C.parts.length pc, .slice (some ⟨g, o, none⟩) C.chans.length cc, .int .i64 C.l0, .slice a0 C.w0.length c0, .int .i64 C.l1, .slice a1 C.w1.length c1] 29 (0, 0))) := ⟨blk_below (blk_al (blk_new _ _) _) hb⟩
  have r1 : Kp (w1.heap[w.heap.size + 1]? = some (.cells #[.int .i64 0, .int .i64 0] 49 (0, 0))) := ⟨blk_below (blk_at (w := (w.alloc (.cells #[.slice pa C.parts.length pc, .slice (some ⟨g, o, none⟩) C.chans.length cc, .int .i64 C.l0, .slice a0 C.w0.length c0, .int .i64 C.l1, .slice a1 C.w1.length c1] 29))) (by simp) _) hb⟩
  have HB1 : Kp (Below w.heap.size w w1) := ⟨below_call (below_al (below_al HB0.out _) _) hb⟩
  clear HB0 hb
  have qc0 : w1.cell? ⟨w.heap.size, 0, none⟩ = some (.slice pa C.parts.length pc) := (cell_blk q1.out 0).trans rfl
  have qc1 : w1.cell? ⟨w.heap.size, 1, none⟩ = some (.slice (some ⟨g, o, none⟩) C.chans.length cc) := (cell_blk q1.out 1).trans rfl
  have qc2 : w1.cell? ⟨w.heap.size, 2, none⟩ = some (.int .i64 C.l0) := (cell_blk q1.out 2).trans rfl
  have qc3 : w1.cell? ⟨w.heap.size, 3, none⟩ = some (.slice a0 C.w0.length c0) := (cell_blk q1.out 3).trans rfl
  have qc4 : w1.cell? ⟨w.heap.size, 4, none⟩ = some (.int .i64 C.l1) := (cell_blk q1.out 4).trans rfl
  have qc5 : w1.cell? ⟨w.heap.size, 5, none⟩ = some (.slice a1 C.w1.length c1) := (cell_blk q1.out 5).trans rfl
  have ql := blk_lt q1.out
  have rc0 : w1.cell? ⟨w.heap.size + 1, 0, none⟩ = some (.int .i64 0) := (cell_blk r1.out 0).trans rfl
  have rc1 : w1.cell? ⟨w.heap.size + 1, 1, none⟩ = some (.int .i64 0) := (cell_blk r1.out 1).trans rfl
  have rl := blk_lt r1.out
  have rf0 : w1.frozen? ⟨w.heap.size + 1, 0, none⟩ = false := frozen_blk r1.out 0
  have rf1 : w1.frozen? ⟨w.heap.size + 1, 1, none⟩ = false := frozen_blk r1.out 1
  go_wp2
  exact bodyPost_ret (v := .agg #[.int .i64 (befC C k + (1 + m)), .int .i64 (1 + x.words)]) (results_cell_row rfl _ _ _ _ _ _ _ rfl ((blk_set (blk_set r1.out 0 _) 1 _).trans rfl) Try.underlying49 rfl (by kernel_rfl)) rfl ⟨(by rw [HS3.out]), (Below.setCell (Below.setCell HB1.out (p := ⟨w.heap.size + 1, 0, none⟩) (by show w.heap.size ≤ w.heap.size + 1; omega) _) (p := ⟨w.heap.size + 1, 1, none⟩) (by show w.heap.size ≤ w.heap.size + 1; omega) _)⟩

set_option maxRecDepth 100000 in
set_option maxHeartbeats 4000000 in
theorem cell_no (cv : Value) (C : Cfg) (hsm : C.small) (k : Nat) (hk : k < C.chans.length) (i : Int) (hb : 0 ≤ i) (hd : i < (C.chans.getD k default).depth) (hno : accB C = false ∨ accB C = true ∧ (C.chans.getD k default).kind ≠ 2) (w : World) (h : CfgAt w cv C) : Calls Try.prog 25 #[cv, .int .i64 k, .int .i64 i] w fun e w' => e = .returned (.agg #[.int .i64 (cellB C k i).1, .int .i64 (cellB C k i).2]) ∧ Below w.heap.size w w' := by
  have HC := Kp.mk h
  have HZ := Kp.mk (cellB_no C k i fun h => by rcases hno with h1 | ⟨_, h1⟩; (rw [h1] at h; cases h.1); exact h1 (by simpa using h.2.2.2.1))
  have h1 : decide ((k : Int) < 0) = false := decide_eq_false (by omega)
  have h2 : decide ((C.chans.length : Int) ≤ (k : Int)) = false := decide_eq_false (by omega)
  have h3 : decide (C.chans.length ≤ k) = false := decide_eq_false (by omega)
  have h4 : decide (i < 0) = false := decide_eq_false (by omega)
  obtain ⟨ho, pa, pc, ca, cc, a0, c0, a1, c1, rfl, bp, bc, b0, b1, hp, hc, hw0, hw1⟩ := h
  obtain ⟨g, o, rfl, hg, hcc⟩ := hc.at (by omega)
  obtain ⟨x, hx⟩ : ∃ x, C.chans[k] = x := ⟨_, rfl⟩
  have HXG : Kp (C.chans.getD k default = x) := ⟨by rw [getD_at _ _ _ (by omega), hx]⟩
  have hcu : ∀ j, j < 7 → w.cell? ⟨g, o + k * 7 + j, none⟩ = (chanC x)[j]? := fun j hj => by
    have h1 := hcc (k * 7 + j) (by omega)
    rw [flat_at chanC 7 chanC_len C.chans k j (by omega) hj, hx] at h1
    rw [Nat.add_assoc]
    exact h1
  have HCU := Kp.mk hcu
  have hk0 : (0 : Int) ≤ (k : Int) := by omega
  have hk1 : (k : Int) < (C.chans.length : Int) := by omega
  clear hcu hcc
  rw [HXG.out] at hd
  have h5 : decide (x.depth ≤ i) = false := decide_eq_false (by omega)
  clear hx
  clear ho hp hc hw0 hw1
  go_enter Try.func25, Try.ntmps25
  have x3 : w.cell? ⟨g, o + k * 7 + 3, none⟩ = some (.int .i64 x.words) := ((Below.refl w.heap.size w).cell (p := ⟨g, o + k * 7 + 3, none⟩) hg).trans (HCU.out 3 (by omega))
  have x4 : w.cell? ⟨g, o + k * 7 + 4, none⟩ = some (.int .i64 x.depth) := ((Below.refl w.heap.size w).cell (p := ⟨g, o + k * 7 + 4, none⟩) hg).trans (HCU.out 4 (by omega))
  have hgw : g < w.heap.size := Nat.lt_of_lt_of_le hg (Below.refl w.heap.size w).size
  have HB0 : Kp (Below w.heap.size w w) := ⟨Below.refl _ _⟩
  go_wp2_with fail
  have HW : ∀ kd fr sz : Int, kd = 2 → ∀ w1, CfgAt w1 (.agg #[.slice pa C.parts.length pc, .slice (some ⟨g, o, none⟩) C.chans.length cc, .int .i64 C.l0, .slice a0 C.w0.length c0, .int .i64 C.l1, .slice a1 C.w1.length c1]) C → Calls Try.prog 51 #[.agg #[.slice pa C.parts.length pc, .slice (some ⟨g, o, none⟩) C.chans.length cc, .int .i64 C.l0, .slice a0 C.w0.length c0, .int .i64 C.l1, .slice a1 C.w1.length c1], .int .i64 k, .int .i64 kd, .int .i64 fr, .int .i64 sz] w1 fun e w' => e = .returned (.agg #[.int .i64 0, .int .i64 0]) ∧ Below w1.heap.size w1 w' := fun kd fr sz hkd w1 hc1 => by
    rcases hno with h1 | ⟨h0, h1⟩
    · exact within_no _ C hsm h1 k kd fr sz w1 hc1
    · exact within_kind _ C hsm h0 k hk kd fr sz (hkd ▸ h1) w1 hc1
  have HW' := Kp.mk HW
  clear HW
  refine (HW'.out 2 _ _ rfl _ (HC.out.below (below_al (below_al HB0.out _) _))).mono ?_
  rintro e w1 ⟨rfl, hb⟩
  have q1 : Kp (w1.heap[w.heap.size]? = some (.cells #[.slice pa C.parts.length pc, .slice (some ⟨g, o, none⟩) C.chans.length cc, .int .i64 C.l0, .slice a0 C.w0.length c0, .int .i64 C.l1, .slice a1 C.w1.length c1] 29 (0, 0))) := ⟨blk_below (blk_al (blk_new _ _) _) hb⟩
  have r1 : Kp (w1.heap[w.heap.size + 1]? = some (.cells #[.int .i64 0, .int .i64 0] 49 (0, 0))) := ⟨blk_below (blk_at (w := (w.alloc (.cells #[.slice pa C.parts.length pc, .slice (some ⟨g, o, none⟩) C.chans.length cc, .int .i64 C.l0, .slice a0 C.w0.length c0, .int .i64 C.l1, .slice a1 C.w1.length c1] 29))) (by simp) _) hb⟩
  have HB1 : Kp (Below w.heap.size w w1) := ⟨below_call (below_al (below_al HB0.out _) _) hb⟩
  clear HB0 hb
  have qc0 : w1.cell? ⟨w.heap.size, 0, none⟩ = some (.slice pa C.parts.length pc) := (cell_blk q1.out 0).trans rfl
  have qc1 : w1.cell? ⟨w.heap.size, 1, none⟩ = some (.slice (some ⟨g, o, none⟩) C.chans.length cc) := (cell_blk q1.out 1).trans rfl
  have qc2 : w1.cell? ⟨w.heap.size, 2, none⟩ = some (.int .i64 C.l0) := (cell_blk q1.out 2).trans rfl
  have qc3 : w1.cell? ⟨w.heap.size, 3, none⟩ = some (.slice a0 C.w0.length c0) := (cell_blk q1.out 3).trans rfl
  have qc4 : w1.cell? ⟨w.heap.size, 4, none⟩ = some (.int .i64 C.l1) := (cell_blk q1.out 4).trans rfl
  have qc5 : w1.cell? ⟨w.heap.size, 5, none⟩ = some (.slice a1 C.w1.length c1) := (cell_blk q1.out 5).trans rfl
  have ql := blk_lt q1.out
  have rc0 : w1.cell? ⟨w.heap.size + 1, 0, none⟩ = some (.int .i64 0) := (cell_blk r1.out 0).trans rfl
  have rc1 : w1.cell? ⟨w.heap.size + 1, 1, none⟩ = some (.int .i64 0) := (cell_blk r1.out 1).trans rfl
  have rl := blk_lt r1.out
  have rf0 : w1.frozen? ⟨w.heap.size + 1, 0, none⟩ = false := frozen_blk r1.out 0
  have rf1 : w1.frozen? ⟨w.heap.size + 1, 1, none⟩ = false := frozen_blk r1.out 1
  go_wp2
  exact bodyPost_ret (v := .agg #[.int .i64 0, .int .i64 0]) (results_cell_row rfl _ _ _ _ _ _ _ rfl ((blk_set (blk_set r1.out 0 _) 1 _).trans rfl) Try.underlying49 rfl (by kernel_rfl)) rfl ⟨zero_out HZ.out, (Below.setCell (Below.setCell HB1.out (p := ⟨w.heap.size + 1, 0, none⟩) (by show w.heap.size ≤ w.heap.size + 1; omega) _) (p := ⟨w.heap.size + 1, 1, none⟩) (by show w.heap.size ≤ w.heap.size + 1; omega) _)⟩

theorem cell_any (cv : Value) (C : Cfg) (hsm : C.small) (k i : Int) (w : World) (h : CfgAt w cv C) : Calls Try.prog 25 #[cv, .int .i64 k, .int .i64 i] w fun e w' => e = .returned (.agg #[.int .i64 (cellB C k i).1, .int .i64 (cellB C k i).2]) ∧ Below w.heap.size w w' := by
  by_cases hk : 0 ≤ k ∧ k < C.chans.length
  · obtain ⟨j, rfl⟩ := Int.eq_ofNat_of_zero_le hk.1
    have hj : j < C.chans.length := by omega
    by_cases hi : i < 0
    · exact cell_neg cv C hsm j hj i hi w h
    · by_cases hd : i < (C.chans.getD j default).depth
      · by_cases hno : accB C = true ∧ (C.chans.getD j default).kind = 2
        · exact cell_yes cv C hsm hno.1 j hj hno.2 i (by omega) hd w h
        · have hno' : accB C = false ∨ accB C = true ∧ (C.chans.getD j default).kind ≠ 2 := by
            cases ha : accB C with
            | false => exact .inl rfl
            | true => exact .inr ⟨rfl, fun hh => hno ⟨ha, hh⟩⟩
          exact cell_no cv C hsm j hj i (by omega) hd hno' w h
      · exact cell_big cv C hsm j hj i (by omega) (by omega) w h
  · exact cell_k cv C hsm k i hk w h
end Go.Proofs.Ytpeajlponlmceaa

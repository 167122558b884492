/- Contracts of the layout's reference: buffers and cells. -/
import Derived.Test.YtpeajlponlmceaaRLay2
namespace Go.Proofs.Ytpeajlponlmceaa
open Go.RowKit
set_option linter.unusedSimpArgs false
set_option linter.unusedVariables false

set_option maxRecDepth 100000 in
set_option maxHeartbeats 4000000 in
theorem rbuffer_out (cv : Value) (C : Cfg) (hsm : C.small) (k p i : Int) (hch : chanB C k = false) (w : World) (h : CfgAt w cv C) : Calls Try.prog 24 #[cv, .int .i64 k, .int .i64 p, .int .i64 i] w fun e w' => e = .returned (.agg #[.int .i64 (bufB C k p i).1, .int .i64 (bufB C k p i).2]) ∧ Below w.heap.size w w' := by
  have HC := Kp.mk h
  have HZ := Kp.mk (bufB_no C k p i fun h => chanB_no hch ⟨h.1, h.2.1, h.2.2.1⟩)
  have HCB := Kp.mk hch
  clear hch
  obtain ⟨ho, pa, pc, ca, cc, a0, c0, a1, c1, rfl, bp, bc, b0, b1, hp, hc, hw0, hw1⟩ := h
  clear ho hp hc hw0 hw1
  go_enter Try.func24, Try.ntmps24
  have HB0 : Kp (Below w.heap.size w w) := ⟨Below.refl _ _⟩
  go_wp2_with fail
  refine (rchannel_any _ C hsm k _ (HC.out.below (below_al (below_al HB0.out _) _))).mono ?_
  rw [HCB.out]
  rintro e w1 ⟨rfl, hb⟩
  have q1 : Kp (w1.heap[w.heap.size]? = some (.cells #[.slice pa C.parts.length pc, .slice ca C.chans.length cc, .int .i64 C.l0, .slice a0 C.w0.length c0, .int .i64 C.l1, .slice a1 C.w1.length c1] 29 (0, 0))) := ⟨blk_below (blk_al (blk_new _ _) _) hb⟩
  have r1 : Kp (w1.heap[w.heap.size + 1]? = some (.cells #[.int .i64 0, .int .i64 0] 49 (0, 0))) := ⟨blk_below (blk_at (w := (w.alloc (.cells #[.slice pa C.parts.length pc, .slice ca C.chans.length cc, .int .i64 C.l0, .slice a0 C.w0.length c0, .int .i64 C.l1, .slice a1 C.w1.length c1] 29))) (by simp) _) hb⟩
  have HB1 : Kp (Below w.heap.size w w1) := ⟨below_call (below_al (below_al HB0.out _) _) hb⟩
  clear HB0 hb
  have qc0 : w1.cell? ⟨w.heap.size, 0, none⟩ = some (.slice pa C.parts.length pc) := (cell_blk q1.out 0).trans rfl
  have qc1 : w1.cell? ⟨w.heap.size, 1, none⟩ = some (.slice ca C.chans.length cc) := (cell_blk q1.out 1).trans rfl
  have qc2 : w1.cell? ⟨w.heap.size, 2, none⟩ = some (.int .i64 C.l0) := (cell_blk q1.out 2).trans rfl
  have qc3 : w1.cell? ⟨w.heap.size, 3, none⟩ = some (.slice a0 C.w0.length c0) := (cell_blk q1.out 3).trans rfl
  have qc4 : w1.cell? ⟨w.heap.size, 4, none⟩ = some (.int .i64 C.l1) := (cell_blk q1.out 4).trans rfl
  have qc5 : w1.cell? ⟨w.heap.size, 5, none⟩ = some (.slice a1 C.w1.length c1) := (cell_blk q1.out 5).trans rfl
  have ql := blk_lt q1.out
  have rc0 : w1.cell? ⟨w.heap.size + 1, 0, none⟩ = some (.int .i64 0) := (cell_blk r1.out 0).trans rfl
  have rc1 : w1.cell? ⟨w.heap.size + 1, 1, none⟩ = some (.int .i64 0) := (cell_blk r1.out 1).trans rfl
  have rl := blk_lt r1.out
  have rf0 : w1.frozen? ⟨w.heap.size + 1, 0, none⟩ = false := frozen_blk r1.out 0
  have rf1 : w1.frozen? ⟨w.heap.size + 1, 1, none⟩ = false := frozen_blk r1.out 1
  go_wp2
  exact bodyPost_ret (v := .agg #[.int .i64 0, .int .i64 0]) (results_cell_row rfl _ _ _ _ _ _ _ rfl ((blk_set (blk_set r1.out 0 _) 1 _).trans rfl) Try.underlying49 rfl (by kernel_rfl)) rfl ⟨zero_out HZ.out, (Below.setCell (Below.setCell HB1.out (p := ⟨w.heap.size + 1, 0, none⟩) (by show w.heap.size ≤ w.heap.size + 1; omega) _) (p := ⟨w.heap.size + 1, 1, none⟩) (by show w.heap.size ≤ w.heap.size + 1; omega) _)⟩

set_option maxRecDepth 100000 in
set_option maxHeartbeats 4000000 in
theorem rbuffer_kind (cv : Value) (C : Cfg) (hsm : C.small) (ha : accB C = true) (k : Nat) (hk : k < C.chans.length) (p i : Int) (hkd : (C.chans.getD k default).kind ≠ 1) (w : World) (h : CfgAt w cv C) : Calls Try.prog 24 #[cv, .int .i64 k, .int .i64 p, .int .i64 i] w fun e w' => e = .returned (.agg #[.int .i64 (bufB C k p i).1, .int .i64 (bufB C k p i).2]) ∧ Below w.heap.size w w' := by
  have HC := Kp.mk h
  have HZ := Kp.mk (bufB_no C k p i fun h => hkd (by simpa using h.2.2.2.1))
  have HCB : Kp (chanB C k = true) := ⟨by rw [chanB, decide_eq_true ⟨by omega, by omega⟩, ha]; rfl⟩
  obtain ⟨ho, pa, pc, ca, cc, a0, c0, a1, c1, rfl, bp, bc, b0, b1, hp, hc, hw0, hw1⟩ := h
  obtain ⟨g, o, rfl, hg, hcc⟩ := hc.at (by omega)
  obtain ⟨x, hx⟩ : ∃ x, C.chans[k] = x := ⟨_, rfl⟩
  have HXG : Kp (C.chans.getD k default = x) := ⟨by rw [getD_at _ _ _ (by omega), hx]⟩
  have hcu : ∀ j, j < 7 → w.cell? ⟨g, o + k * 7 + j, none⟩ = (chanC x)[j]? := fun j hj => by
    have h1 := hcc (k * 7 + j) (by omega)
    rw [flat_at chanC 7 chanC_len C.chans k j (by omega) hj, hx] at h1
    rw [Nat.add_assoc]
    exact h1
  have HCU := Kp.mk hcu
  have hk0 : (0 : Int) ≤ (k : Int) := by omega
  have hk1 : (k : Int) < (C.chans.length : Int) := by omega
  clear hcu hcc
  have hx1 : (x.kind == 1) = false := by rw [HXG.out] at hkd; simpa using hkd
  have hx2 : (x.kind != 1) = true := by rw [HXG.out] at hkd; simpa using hkd
  clear hx
  clear ho hp hc hw0 hw1
  go_enter Try.func24, Try.ntmps24
  have HB0 : Kp (Below w.heap.size w w) := ⟨Below.refl _ _⟩
  go_wp2_with fail
  refine (rchannel_any _ C hsm k _ (HC.out.below (below_al (below_al HB0.out _) _))).mono ?_
  rw [HCB.out]
  rintro e w1 ⟨rfl, hb⟩
  have q1 : Kp (w1.heap[w.heap.size]? = some (.cells #[.slice pa C.parts.length pc, .slice (some ⟨g, o, none⟩) C.chans.length cc, .int .i64 C.l0, .slice a0 C.w0.length c0, .int .i64 C.l1, .slice a1 C.w1.length c1] 29 (0, 0))) := ⟨blk_below (blk_al (blk_new _ _) _) hb⟩
  have r1 : Kp (w1.heap[w.heap.size + 1]? = some (.cells #[.int .i64 0, .int .i64 0] 49 (0, 0))) := ⟨blk_below (blk_at (w := (w.alloc (.cells #[.slice pa C.parts.length pc, .slice (some ⟨g, o, none⟩) C.chans.length cc, .int .i64 C.l0, .slice a0 C.w0.length c0, .int .i64 C.l1, .slice a1 C.w1.length c1] 29))) (by simp) _) hb⟩
  have HB1 : Kp (Below w.heap.size w w1) := ⟨below_call (below_al (below_al HB0.out _) _) hb⟩
  clear HB0 hb
  have qc0 : w1.cell? ⟨w.heap.size, 0, none⟩ = some (.slice pa C.parts.length pc) := (cell_blk q1.out 0).trans rfl
  have qc1 : w1.cell? ⟨w.heap.size, 1, none⟩ = some (.slice (some ⟨g, o, none⟩) C.chans.length cc) := (cell_blk q1.out 1).trans rfl
  have qc2 : w1.cell? ⟨w.heap.size, 2, none⟩ = some (.int .i64 C.l0) := (cell_blk q1.out 2).trans rfl
  have qc3 : w1.cell? ⟨w.heap.size, 3, none⟩ = some (.slice a0 C.w0.length c0) := (cell_blk q1.out 3).trans rfl
  have qc4 : w1.cell? ⟨w.heap.size, 4, none⟩ = some (.int .i64 C.l1) := (cell_blk q1.out 4).trans rfl
  have qc5 : w1.cell? ⟨w.heap.size, 5, none⟩ = some (.slice a1 C.w1.length c1) := (cell_blk q1.out 5).trans rfl
  have ql := blk_lt q1.out
  have rc0 : w1.cell? ⟨w.heap.size + 1, 0, none⟩ = some (.int .i64 0) := (cell_blk r1.out 0).trans rfl
  have rc1 : w1.cell? ⟨w.heap.size + 1, 1, none⟩ = some (.int .i64 0) := (cell_blk r1.out 1).trans rfl
  have rl := blk_lt r1.out
  have x0 : w1.cell? ⟨g, o + k * 7, none⟩ = some (.int .i64 x.kind) := (HB1.out.cell (p := ⟨g, o + k * 7, none⟩) hg).trans (HCU.out 0 (by omega))
  have hgw : g < w1.heap.size := Nat.lt_of_lt_of_le hg HB1.out.size
  have rf0 : w1.frozen? ⟨w.heap.size + 1, 0, none⟩ = false := frozen_blk r1.out 0
  have rf1 : w1.frozen? ⟨w.heap.size + 1, 1, none⟩ = false := frozen_blk r1.out 1
  go_wp2
  exact bodyPost_ret (v := .agg #[.int .i64 0, .int .i64 0]) (results_cell_row rfl _ _ _ _ _ _ _ rfl ((blk_set (blk_set r1.out 0 _) 1 _).trans rfl) Try.underlying49 rfl (by kernel_rfl)) rfl ⟨zero_out HZ.out, (Below.setCell (Below.setCell HB1.out (p := ⟨w.heap.size + 1, 0, none⟩) (by show w.heap.size ≤ w.heap.size + 1; omega) _) (p := ⟨w.heap.size + 1, 1, none⟩) (by show w.heap.size ≤ w.heap.size + 1; omega) _)⟩

set_option maxRecDepth 100000 in
set_option maxHeartbeats 4000000 in
theorem rbuffer_p0 (cv : Value) (C : Cfg) (hsm : C.small) (ha : accB C = true) (k : Nat) (hk : k < C.chans.length) (p i : Int) (hkd : (C.chans.getD k default).kind = 1) (hp : p < 0) (w : World) (h : CfgAt w cv C) : Calls Try.prog 24 #[cv, .int .i64 k, .int .i64 p, .int .i64 i] w fun e w' => e = .returned (.agg #[.int .i64 (bufB C k p i).1, .int .i64 (bufB C k p i).2]) ∧ Below w.heap.size w w' := by
  have HC := Kp.mk h
  have HZ := Kp.mk (bufB_no C k p i fun h => by omega)
  have HCB : Kp (chanB C k = true) := ⟨by rw [chanB, decide_eq_true ⟨by omega, by omega⟩, ha]; rfl⟩
  obtain ⟨ho, pa, pc, ca, cc, a0, c0, a1, c1, rfl, bp, bc, b0, b1, hp, hc, hw0, hw1⟩ := h
  obtain ⟨g, o, rfl, hg, hcc⟩ := hc.at (by omega)
  obtain ⟨x, hx⟩ : ∃ x, C.chans[k] = x := ⟨_, rfl⟩
  have HXG : Kp (C.chans.getD k default = x) := ⟨by rw [getD_at _ _ _ (by omega), hx]⟩
  have hcu : ∀ j, j < 7 → w.cell? ⟨g, o + k * 7 + j, none⟩ = (chanC x)[j]? := fun j hj => by
    have h1 := hcc (k * 7 + j) (by omega)
    rw [flat_at chanC 7 chanC_len C.chans k j (by omega) hj, hx] at h1
    rw [Nat.add_assoc]
    exact h1
  have HCU := Kp.mk hcu
  have hk0 : (0 : Int) ≤ (k : Int) := by omega
  have hk1 : (k : Int) < (C.chans.length : Int) := by omega
  clear hcu hcc
  have HXK : Kp (x.kind = 1) := ⟨by rw [← hkd, HXG.out]⟩
  clear hx
  clear ho hp hc hw0 hw1
  go_enter Try.func24, Try.ntmps24
  have HB0 : Kp (Below w.heap.size w w) := ⟨Below.refl _ _⟩
  go_wp2_with fail
  refine (rchannel_any _ C hsm k _ (HC.out.below (below_al (below_al HB0.out _) _))).mono ?_
  rw [HCB.out]
  rintro e w1 ⟨rfl, hb⟩
  have q1 : Kp (w1.heap[w.heap.size]? = some (.cells #[.slice pa C.parts.length pc, .slice (some ⟨g, o, none⟩) C.chans.length cc, .int .i64 C.l0, .slice a0 C.w0.length c0, .int .i64 C.l1, .slice a1 C.w1.length c1] 29 (0, 0))) := ⟨blk_below (blk_al (blk_new _ _) _) hb⟩
  have r1 : Kp (w1.heap[w.heap.size + 1]? = some (.cells #[.int .i64 0, .int .i64 0] 49 (0, 0))) := ⟨blk_below (blk_at (w := (w.alloc (.cells #[.slice pa C.parts.length pc, .slice (some ⟨g, o, none⟩) C.chans.length cc, .int .i64 C.l0, .slice a0 C.w0.length c0, .int .i64 C.l1, .slice a1 C.w1.length c1] 29))) (by simp) _) hb⟩
  have HB1 : Kp (Below w.heap.size w w1) := ⟨below_call (below_al (below_al HB0.out _) _) hb⟩
  clear HB0 hb
  have qc0 : w1.cell? ⟨w.heap.size, 0, none⟩ = some (.slice pa C.parts.length pc) := (cell_blk q1.out 0).trans rfl
  have qc1 : w1.cell? ⟨w.heap.size, 1, none⟩ = some (.slice (some ⟨g, o, none⟩) C.chans.length cc) := (cell_blk q1.out 1).trans rfl
  have qc2 : w1.cell? ⟨w.heap.size, 2, none⟩ = some (.int .i64 C.l0) := (cell_blk q1.out 2).trans rfl
  have qc3 : w1.cell? ⟨w.heap.size, 3, none⟩ = some (.slice a0 C.w0.length c0) := (cell_blk q1.out 3).trans rfl
  have qc4 : w1.cell? ⟨w.heap.size, 4, none⟩ = some (.int .i64 C.l1) := (cell_blk q1.out 4).trans rfl
  have qc5 : w1.cell? ⟨w.heap.size, 5, none⟩ = some (.slice a1 C.w1.length c1) := (cell_blk q1.out 5).trans rfl
  have ql := blk_lt q1.out
  have rc0 : w1.cell? ⟨w.heap.size + 1, 0, none⟩ = some (.int .i64 0) := (cell_blk r1.out 0).trans rfl
  have rc1 : w1.cell? ⟨w.heap.size + 1, 1, none⟩ = some (.int .i64 0) := (cell_blk r1.out 1).trans rfl
  have rl := blk_lt r1.out
  have x0 : w1.cell? ⟨g, o + k * 7, none⟩ = some (.int .i64 x.kind) := (HB1.out.cell (p := ⟨g, o + k * 7, none⟩) hg).trans (HCU.out 0 (by omega))
  have hgw : g < w1.heap.size := Nat.lt_of_lt_of_le hg HB1.out.size
  rw [HXK.out] at x0
  have rf0 : w1.frozen? ⟨w.heap.size + 1, 0, none⟩ = false := frozen_blk r1.out 0
  have rf1 : w1.frozen? ⟨w.heap.size + 1, 1, none⟩ = false := frozen_blk r1.out 1
  go_wp2
  exact bodyPost_ret (v := .agg #[.int .i64 0, .int .i64 0]) (results_cell_row rfl _ _ _ _ _ _ _ rfl ((blk_set (blk_set r1.out 0 _) 1 _).trans rfl) Try.underlying49 rfl (by kernel_rfl)) rfl ⟨zero_out HZ.out, (Below.setCell (Below.setCell HB1.out (p := ⟨w.heap.size + 1, 0, none⟩) (by show w.heap.size ≤ w.heap.size + 1; omega) _) (p := ⟨w.heap.size + 1, 1, none⟩) (by show w.heap.size ≤ w.heap.size + 1; omega) _)⟩

set_option maxRecDepth 100000 in
set_option maxHeartbeats 4000000 in
theorem rbuffer_p1 (cv : Value) (C : Cfg) (hsm : C.small) (ha : accB C = true) (k : Nat) (hk : k < C.chans.length) (p i : Int) (hkd : (C.chans.getD k default).kind = 1) (hp : 1 < p) (w : World) (h : CfgAt w cv C) : Calls Try.prog 24 #[cv, .int .i64 k, .int .i64 p, .int .i64 i] w fun e w' => e = .returned (.agg #[.int .i64 (bufB C k p i).1, .int .i64 (bufB C k p i).2]) ∧ Below w.heap.size w w' := by
  have HC := Kp.mk h
  have HZ := Kp.mk (bufB_no C k p i fun h => by omega)
  have HCB : Kp (chanB C k = true) := ⟨by rw [chanB, decide_eq_true ⟨by omega, by omega⟩, ha]; rfl⟩
  have f1 : decide (p < 0) = false := decide_eq_false (by omega)
  obtain ⟨ho, pa, pc, ca, cc, a0, c0, a1, c1, rfl, bp, bc, b0, b1, hp, hc, hw0, hw1⟩ := h
  obtain ⟨g, o, rfl, hg, hcc⟩ := hc.at (by omega)
  obtain ⟨x, hx⟩ : ∃ x, C.chans[k] = x := ⟨_, rfl⟩
  have HXG : Kp (C.chans.getD k default = x) := ⟨by rw [getD_at _ _ _ (by omega), hx]⟩
  have hcu : ∀ j, j < 7 → w.cell? ⟨g, o + k * 7 + j, none⟩ = (chanC x)[j]? := fun j hj => by
    have h1 := hcc (k * 7 + j) (by omega)
    rw [flat_at chanC 7 chanC_len C.chans k j (by omega) hj, hx] at h1
    rw [Nat.add_assoc]
    exact h1
  have HCU := Kp.mk hcu
  have hk0 : (0 : Int) ≤ (k : Int) := by omega
  have hk1 : (k : Int) < (C.chans.length : Int) := by omega
  clear hcu hcc
  have HXK : Kp (x.kind = 1) := ⟨by rw [← hkd, HXG.out]⟩
  clear hx
  clear ho hp hc hw0 hw1
  go_enter Try.func24, Try.ntmps24
  have HB0 : Kp (Below w.heap.size w w) := ⟨Below.refl _ _⟩
  go_wp2_with fail
  refine (rchannel_any _ C hsm k _ (HC.out.below (below_al (below_al HB0.out _) _))).mono ?_
  rw [HCB.out]
  rintro e w1 ⟨rfl, hb⟩
  have q1 : Kp (w1.heap[w.heap.size]? = some (.cells #[.slice pa C.parts.length pc, .slice (some ⟨g, o, none⟩) C.chans.length cc, .int .i64 C.l0, .slice a0 C.w0.length c0, .int .i64 C.l1, .slice a1 C.w1.length c1] 29 (0, 0))) := ⟨blk_below (blk_al (blk_new _ _) _) hb⟩
  have r1 : Kp (w1.heap[w.heap.size + 1]? = some (.cells #[.int .i64 0, .int .i64 0] 49 (0, 0))) := ⟨blk_below (blk_at (w := (w.alloc (.cells #[.slice pa C.parts.length pc, .slice (some ⟨g, o, none⟩) C.chans.length cc, .int .i64 C.l0, .slice a0 C.w0.length c0, .int .i64 C.l1, .slice a1 C.w1.length c1] 29))) (by simp) _) hb⟩
  have HB1 : Kp (Below w.heap.size w w1) := ⟨below_call (below_al (below_al HB0.out _) _) hb⟩
  clear HB0 hb
  have qc0 : w1.cell? ⟨w.heap.size, 0, none⟩ = some (.slice pa C.parts.length pc) := (cell_blk q1.out 0).trans rfl
  have qc1 : w1.cell? ⟨w.heap.size, 1, none⟩ = some (.slice (some ⟨g, o, none⟩) C.chans.length cc) := (cell_blk q1.out 1).trans rfl
  have qc2 : w1.cell? ⟨w.heap.size, 2, none⟩ = some (.int .i64 C.l0) := (cell_blk q1.out 2).trans rfl
  have qc3 : w1.cell? ⟨w.heap.size, 3, none⟩ = some (.slice a0 C.w0.length c0) := (cell_blk q1.out 3).trans rfl
  have qc4 : w1.cell? ⟨w.heap.size, 4, none⟩ = some (.int .i64 C.l1) := (cell_blk q1.out 4).trans rfl
  have qc5 : w1.cell? ⟨w.heap.size, 5, none⟩ = some (.slice a1 C.w1.length c1) := (cell_blk q1.out 5).trans rfl
  have ql := blk_lt q1.out
  have rc0 : w1.cell? ⟨w.heap.size + 1, 0, none⟩ = some (.int .i64 0) := (cell_blk r1.out 0).trans rfl
  have rc1 : w1.cell? ⟨w.heap.size + 1, 1, none⟩ = some (.int .i64 0) := (cell_blk r1.out 1).trans rfl
  have rl := blk_lt r1.out
  have x0 : w1.cell? ⟨g, o + k * 7, none⟩ = some (.int .i64 x.kind) := (HB1.out.cell (p := ⟨g, o + k * 7, none⟩) hg).trans (HCU.out 0 (by omega))
  have hgw : g < w1.heap.size := Nat.lt_of_lt_of_le hg HB1.out.size
  rw [HXK.out] at x0
  have rf0 : w1.frozen? ⟨w.heap.size + 1, 0, none⟩ = false := frozen_blk r1.out 0
  have rf1 : w1.frozen? ⟨w.heap.size + 1, 1, none⟩ = false := frozen_blk r1.out 1
  go_wp2
  exact bodyPost_ret (v := .agg #[.int .i64 0, .int .i64 0]) (results_cell_row rfl _ _ _ _ _ _ _ rfl ((blk_set (blk_set r1.out 0 _) 1 _).trans rfl) Try.underlying49 rfl (by kernel_rfl)) rfl ⟨zero_out HZ.out, (Below.setCell (Below.setCell HB1.out (p := ⟨w.heap.size + 1, 0, none⟩) (by show w.heap.size ≤ w.heap.size + 1; omega) _) (p := ⟨w.heap.size + 1, 1, none⟩) (by show w.heap.size ≤ w.heap.size + 1; omega) _)⟩

set_option maxRecDepth 100000 in
set_option maxHeartbeats 4000000 in
theorem rbuffer_i0 (cv : Value) (C : Cfg) (hsm : C.small) (ha : accB C = true) (k : Nat) (hk : k < C.chans.length) (p i : Int) (hkd : (C.chans.getD k default).kind = 1) (hp : p = 0 ∨ p = 1) (hi : i < 0) (w : World) (h : CfgAt w cv C) : Calls Try.prog 24 #[cv, .int .i64 k, .int .i64 p, .int .i64 i] w fun e w' => e = .returned (.agg #[.int .i64 (bufB C k p i).1, .int .i64 (bufB C k p i).2]) ∧ Below w.heap.size w w' := by
  have HC := Kp.mk h
  have HZ := Kp.mk (bufB_no C k p i fun h => by omega)
  have HCB : Kp (chanB C k = true) := ⟨by rw [chanB, decide_eq_true ⟨by omega, by omega⟩, ha]; rfl⟩
  have f1 : decide (p < 0) = false := decide_eq_false (by omega)
  have f2 : decide (1 < p) = false := decide_eq_false (by omega)
  obtain ⟨ho, pa, pc, ca, cc, a0, c0, a1, c1, rfl, bp, bc, b0, b1, hp, hc, hw0, hw1⟩ := h
  obtain ⟨g, o, rfl, hg, hcc⟩ := hc.at (by omega)
  obtain ⟨x, hx⟩ : ∃ x, C.chans[k] = x := ⟨_, rfl⟩
  have HXG : Kp (C.chans.getD k default = x) := ⟨by rw [getD_at _ _ _ (by omega), hx]⟩
  have hcu : ∀ j, j < 7 → w.cell? ⟨g, o + k * 7 + j, none⟩ = (chanC x)[j]? := fun j hj => by
    have h1 := hcc (k * 7 + j) (by omega)
    rw [flat_at chanC 7 chanC_len C.chans k j (by omega) hj, hx] at h1
    rw [Nat.add_assoc]
    exact h1
  have HCU := Kp.mk hcu
  have hk0 : (0 : Int) ≤ (k : Int) := by omega
  have hk1 : (k : Int) < (C.chans.length : Int) := by omega
  clear hcu hcc
  have HXK : Kp (x.kind = 1) := ⟨by rw [← hkd, HXG.out]⟩
  clear hx
  clear ho hp hc hw0 hw1
  go_enter Try.func24, Try.ntmps24
  have HB0 : Kp (Below w.heap.size w w) := ⟨Below.refl _ _⟩
  go_wp2_with fail
  refine (rchannel_any _ C hsm k _ (HC.out.below (below_al (below_al HB0.out _) _))).mono ?_
  rw [HCB.out]
  rintro e w1 ⟨rfl, hb⟩
  have q1 : Kp (w1.heap[w.heap.size]? = some (.cells #[.slice pa C.parts.length pc, .slice (some ⟨g, o, none⟩) C.chans.length cc, .int .i64 C.l0, .slice a0 C.w0.length c0, .int .i64 C.l1, .slice a1 C.w1.length c1] 29 (0, 0))) := ⟨blk_below (blk_al (blk_new _ _) _) hb⟩
  have r1 : Kp (w1.heap[w.heap.size + 1]? = some (.cells #[.int .i64 0, .int .i64 0] 49 (0, 0))) := ⟨blk_below (blk_at (w := (w.alloc (.cells #[.slice pa C.parts.length pc, .slice (some ⟨g, o, none⟩) C.chans.length cc, .int .i64 C.l0, .slice a0 C.w0.length c0, .int .i64 C.l1, .slice a1 C.w1.length c1] 29))) (by simp) _) hb⟩
  have HB1 : Kp (Below w.heap.size w w1) := ⟨below_call (below_al (below_al HB0.out _) _) hb⟩
  clear HB0 hb
  have qc0 : w1.cell? ⟨w.heap.size, 0, none⟩ = some (.slice pa C.parts.length pc) := (cell_blk q1.out 0).trans rfl
  have qc1 : w1.cell? ⟨w.heap.size, 1, none⟩ = some (.slice (some ⟨g, o, none⟩) C.chans.length cc) := (cell_blk q1.out 1).trans rfl
  have qc2 : w1.cell? ⟨w.heap.size, 2, none⟩ = some (.int .i64 C.l0) := (cell_blk q1.out 2).trans rfl
  have qc3 : w1.cell? ⟨w.heap.size, 3, none⟩ = some (.slice a0 C.w0.length c0) := (cell_blk q1.out 3).trans rfl
  have qc4 : w1.cell? ⟨w.heap.size, 4, none⟩ = some (.int .i64 C.l1) := (cell_blk q1.out 4).trans rfl
  have qc5 : w1.cell? ⟨w.heap.size, 5, none⟩ = some (.slice a1 C.w1.length c1) := (cell_blk q1.out 5).trans rfl
  have ql := blk_lt q1.out
  have rc0 : w1.cell? ⟨w.heap.size + 1, 0, none⟩ = some (.int .i64 0) := (cell_blk r1.out 0).trans rfl
  have rc1 : w1.cell? ⟨w.heap.size + 1, 1, none⟩ = some (.int .i64 0) := (cell_blk r1.out 1).trans rfl
  have rl := blk_lt r1.out
  have x0 : w1.cell? ⟨g, o + k * 7, none⟩ = some (.int .i64 x.kind) := (HB1.out.cell (p := ⟨g, o + k * 7, none⟩) hg).trans (HCU.out 0 (by omega))
  have hgw : g < w1.heap.size := Nat.lt_of_lt_of_le hg HB1.out.size
  rw [HXK.out] at x0
  have rf0 : w1.frozen? ⟨w.heap.size + 1, 0, none⟩ = false := frozen_blk r1.out 0
  have rf1 : w1.frozen? ⟨w.heap.size + 1, 1, none⟩ = false := frozen_blk r1.out 1
  go_wp2
  exact bodyPost_ret (v := .agg #[.int .i64 0, .int .i64 0]) (results_cell_row rfl _ _ _ _ _ _ _ rfl ((blk_set (blk_set r1.out 0 _) 1 _).trans rfl) Try.underlying49 rfl (by kernel_rfl)) rfl ⟨zero_out HZ.out, (Below.setCell (Below.setCell HB1.out (p := ⟨w.heap.size + 1, 0, none⟩) (by show w.heap.size ≤ w.heap.size + 1; omega) _) (p := ⟨w.heap.size + 1, 1, none⟩) (by show w.heap.size ≤ w.heap.size + 1; omega) _)⟩

set_option maxRecDepth 100000 in
set_option maxHeartbeats 4000000 in
theorem rbuffer_i1 (cv : Value) (C : Cfg) (hsm : C.small) (ha : accB C = true) (k : Nat) (hk : k < C.chans.length) (p i : Int) (hkd : (C.chans.getD k default).kind = 1) (hp : p = 0 ∨ p = 1) (hi : 1 < i) (w : World) (h : CfgAt w cv C) : Calls Try.prog 24 #[cv, .int .i64 k, .int .i64 p, .int .i64 i] w fun e w' => e = .returned (.agg #[.int .i64 (bufB C k p i).1, .int .i64 (bufB C k p i).2]) ∧ Below w.heap.size w w' := by
  have HC := Kp.mk h
  have HZ := Kp.mk (bufB_no C k p i fun h => by omega)
  have HCB : Kp (chanB C k = true) := ⟨by rw [chanB, decide_eq_true ⟨by omega, by omega⟩, ha]; rfl⟩
  have f1 : decide (p < 0) = false := decide_eq_false (by omega)
  have f2 : decide (1 < p) = false := decide_eq_false (by omega)
  have f3 : decide (i < 0) = false := decide_eq_false (by omega)
  obtain ⟨ho, pa, pc, ca, cc, a0, c0, a1, c1, rfl, bp, bc, b0, b1, hp, hc, hw0, hw1⟩ := h
  obtain ⟨g, o, rfl, hg, hcc⟩ := hc.at (by omega)
  obtain ⟨x, hx⟩ : ∃ x, C.chans[k] = x := ⟨_, rfl⟩
  have HXG : Kp (C.chans.getD k default = x) := ⟨by rw [getD_at _ _ _ (by omega), hx]⟩
  have hcu : ∀ j, j < 7 → w.cell? ⟨g, o + k * 7 + j, none⟩ = (chanC x)[j]? := fun j hj => by
    have h1 := hcc (k * 7 + j) (by omega)
    rw [flat_at chanC 7 chanC_len C.chans k j (by omega) hj, hx] at h1
    rw [Nat.add_assoc]
    exact h1
  have HCU := Kp.mk hcu
  have hk0 : (0 : Int) ≤ (k : Int) := by omega
  have hk1 : (k : Int) < (C.chans.length : Int) := by omega
  clear hcu hcc
  have HXK : Kp (x.kind = 1) := ⟨by rw [← hkd, HXG.out]⟩
  clear hx
  clear ho hp hc hw0 hw1
  go_enter Try.func24, Try.ntmps24
  have HB0 : Kp (Below w.heap.size w w) := ⟨Below.refl _ _⟩
  go_wp2_with fail
  refine (rchannel_any _ C hsm k _ (HC.out.below (below_al (below_al HB0.out _) _))).mono ?_
  rw [HCB.out]
  rintro e w1 ⟨rfl, hb⟩
  have q1 : Kp (w1.heap[w.heap.size]? = some (.cells #[.slice pa C.parts.length pc, .slice (some ⟨g, o, none⟩) C.chans.length cc, .int .i64 C.l0, .slice a0 C.w0.length c0, .int .i64 C.l1, .slice a1 C.w1.length c1] 29 (0, 0))) := ⟨blk_below (blk_al (blk_new _ _) _) hb⟩
  have r1 : Kp (w1.heap[w.heap.size + 1]? = some (.cells #[.int .i64 0, .int .i64 0] 49 (0, 0))) := ⟨blk_below (blk_at (w := (w.alloc (.cells #[.slice pa C.parts.length pc, .slice (some ⟨g, o, none⟩) C.chans.length cc, .int .i64 C.l0, .slice a0 C.w0.length c0, .int .i64 C.l1, .slice a1 C.w1.length c1] 29))) (by simp) _) hb⟩
  have HB1 : Kp (Below w.heap.size w w1) := ⟨below_call (below_al (below_al HB0.out _) _) hb⟩
  clear HB0 hb
  have qc0 : w1.cell? ⟨w.heap.size, 0, none⟩ = some (.slice pa C.parts.length pc) := (cell_blk q1.out 0).trans rfl
  have qc1 : w1.cell? ⟨w.heap.size, 1, none⟩ = some (.slice (some ⟨g, o, none⟩) C.chans.length cc) := (cell_blk q1.out 1).trans rfl
  have qc2 : w1.cell? ⟨w.heap.size, 2, none⟩ = some (.int .i64 C.l0) := (cell_blk q1.out 2).trans rfl
  have qc3 : w1.cell? ⟨w.heap.size, 3, none⟩ = some (.slice a0 C.w0.length c0) := (cell_blk q1.out 3).trans rfl
  have qc4 : w1.cell? ⟨w.heap.size, 4, none⟩ = some (.int .i64 C.l1) := (cell_blk q1.out 4).trans rfl
  have qc5 : w1.cell? ⟨w.heap.size, 5, none⟩ = some (.slice a1 C.w1.length c1) := (cell_blk q1.out 5).trans rfl
  have ql := blk_lt q1.out
  have rc0 : w1.cell? ⟨w.heap.size + 1, 0, none⟩ = some (.int .i64 0) := (cell_blk r1.out 0).trans rfl
  have rc1 : w1.cell? ⟨w.heap.size + 1, 1, none⟩ = some (.int .i64 0) := (cell_blk r1.out 1).trans rfl
  have rl := blk_lt r1.out
  have x0 : w1.cell? ⟨g, o + k * 7, none⟩ = some (.int .i64 x.kind) := (HB1.out.cell (p := ⟨g, o + k * 7, none⟩) hg).trans (HCU.out 0 (by omega))
  have hgw : g < w1.heap.size := Nat.lt_of_lt_of_le hg HB1.out.size
  rw [HXK.out] at x0
  have rf0 : w1.frozen? ⟨w.heap.size + 1, 0, none⟩ = false := frozen_blk r1.out 0
  have rf1 : w1.frozen? ⟨w.heap.size + 1, 1, none⟩ = false := frozen_blk r1.out 1
  go_wp2
  exact bodyPost_ret (v := .agg #[.int .i64 0, .int .i64 0]) (results_cell_row rfl _ _ _ _ _ _ _ rfl ((blk_set (blk_set r1.out 0 _) 1 _).trans rfl) Try.underlying49 rfl (by kernel_rfl)) rfl ⟨zero_out HZ.out, (Below.setCell (Below.setCell HB1.out (p := ⟨w.heap.size + 1, 0, none⟩) (by show w.heap.size ≤ w.heap.size + 1; omega) _) (p := ⟨w.heap.size + 1, 1, none⟩) (by show w.heap.size ≤ w.heap.size + 1; omega) _)⟩

set_option maxRecDepth 100000 in
set_option maxHeartbeats 4000000 in
theorem rbuffer_yes00 (cv : Value) (C : Cfg) (hsm : C.small) (ha : accB C = true) (k : Nat) (hk : k < C.chans.length) (hkd : (C.chans.getD k default).kind = 1)  (w : World) (h : CfgAt w cv C) : Calls Try.prog 24 #[cv, .int .i64 k, .int .i64 0, .int .i64 0] w fun e w' => e = .returned (.agg #[.int .i64 (bufB C k 0 0).1, .int .i64 (bufB C k 0 0).2]) ∧ Below w.heap.size w w' := by
  have HC := Kp.mk h
  have HS := Kp.mk (bufB_yes C k 0 0 ⟨ha, hk, hkd, by omega, by omega⟩)
  have hcs := chn_small ha (List.getElem_mem hk)
  have hbs := befC_small ha k
  have HCB : Kp (chanB C k = true) := ⟨by rw [chanB, decide_eq_true ⟨by omega, by omega⟩, ha]; rfl⟩
  obtain ⟨ho, pa, pc, ca, cc, a0, c0, a1, c1, rfl, bp, bc, b0, b1, hp, hc, hw0, hw1⟩ := h
  obtain ⟨g, o, rfl, hg, hcc⟩ := hc.at (by omega)
  obtain ⟨x, hx⟩ : ∃ x, C.chans[k] = x := ⟨_, rfl⟩
  have HXG : Kp (C.chans.getD k default = x) := ⟨by rw [getD_at _ _ _ (by omega), hx]⟩
  have hcu : ∀ j, j < 7 → w.cell? ⟨g, o + k * 7 + j, none⟩ = (chanC x)[j]? := fun j hj => by
    have h1 := hcc (k * 7 + j) (by omega)
    rw [flat_at chanC 7 chanC_len C.chans k j (by omega) hj, hx] at h1
    rw [Nat.add_assoc]
    exact h1
  have HCU := Kp.mk hcu
  have hk0 : (0 : Int) ≤ (k : Int) := by omega
  have hk1 : (k : Int) < (C.chans.length : Int) := by omega
  clear hcu hcc
  have HXK : Kp (x.kind = 1) := ⟨by rw [← hkd, HXG.out]⟩
  rw [hx] at hcs
  obtain ⟨bf, hbf⟩ : ∃ bf, befC C k = bf := ⟨_, rfl⟩
  have HBF := Kp.mk hbf
  rw [hbf] at hbs
  have HS2 : Kp ((bufB C k 0 0).1 = bf + (3 + 0 * (2 + x.words)) ∧ (bufB C k 0 0).2 = 2 + x.words) := ⟨by rw [HS.out, HXG.out, hbf]; exact ⟨rfl, rfl⟩⟩
  clear hx hbf
  clear ho hp hc hw0 hw1
  go_enter Try.func24, Try.ntmps24
  have HB0 : Kp (Below w.heap.size w w) := ⟨Below.refl _ _⟩
  go_wp2_with fail
  refine (rchannel_any _ C hsm k _ (HC.out.below (below_al (below_al HB0.out _) _))).mono ?_
  rw [HCB.out]
  rintro e w1 ⟨rfl, hb⟩
  have q1 : Kp (w1.heap[w.heap.size]? = some (.cells #[.slice pa C.parts.length pc, .slice (some ⟨g, o, none⟩) C.chans.length cc, .int .i64 C.l0, .slice a0 C.w0.length c0, .int .i64 C.l1, .slice a1 C.w1.length c1] 29 (0, 0))) := ⟨blk_below (blk_al (blk_new _ _) _) hb⟩
  have r1 : Kp (w1.heap[w.heap.size + 1]? = some (.cells #[.int .i64 0, .int .i64 0] 49 (0, 0))) := ⟨blk_below (blk_at (w := (w.alloc (.cells #[.slice pa C.parts.length pc, .slice (some ⟨g, o, none⟩) C.chans.length cc, .int .i64 C.l0, .slice a0 C.w0.length c0, .int .i64 C.l1, .slice a1 C.w1.length c1] 29))) (by simp) _) hb⟩
  have HB1 : Kp (Below w.heap.size w w1) := ⟨below_call (below_al (below_al HB0.out _) _) hb⟩
  clear HB0 hb
  have qc0 : w1.cell? ⟨w.heap.size, 0, none⟩ = some (.slice pa C.parts.length pc) := (cell_blk q1.out 0).trans rfl
  have qc1 : w1.cell? ⟨w.heap.size, 1, none⟩ = some (.slice (some ⟨g, o, none⟩) C.chans.length cc) := (cell_blk q1.out 1).trans rfl
  have qc2 : w1.cell? ⟨w.heap.size, 2, none⟩ = some (.int .i64 C.l0) := (cell_blk q1.out 2).trans rfl
  have qc3 : w1.cell? ⟨w.heap.size, 3, none⟩ = some (.slice a0 C.w0.length c0) := (cell_blk q1.out 3).trans rfl
  have qc4 : w1.cell? ⟨w.heap.size, 4, none⟩ = some (.int .i64 C.l1) := (cell_blk q1.out 4).trans rfl
  have qc5 : w1.cell? ⟨w.heap.size, 5, none⟩ = some (.slice a1 C.w1.length c1) := (cell_blk q1.out 5).trans rfl
  have ql := blk_lt q1.out
  have rc0 : w1.cell? ⟨w.heap.size + 1, 0, none⟩ = some (.int .i64 0) := (cell_blk r1.out 0).trans rfl
  have rc1 : w1.cell? ⟨w.heap.size + 1, 1, none⟩ = some (.int .i64 0) := (cell_blk r1.out 1).trans rfl
  have rl := blk_lt r1.out
  have x0 : w1.cell? ⟨g, o + k * 7, none⟩ = some (.int .i64 x.kind) := (HB1.out.cell (p := ⟨g, o + k * 7, none⟩) hg).trans (HCU.out 0 (by omega))
  have x3 : w1.cell? ⟨g, o + k * 7 + 3, none⟩ = some (.int .i64 x.words) := (HB1.out.cell (p := ⟨g, o + k * 7 + 3, none⟩) hg).trans (HCU.out 3 (by omega))
  have hgw : g < w1.heap.size := Nat.lt_of_lt_of_le hg HB1.out.size
  rw [HXK.out] at x0
  go_wp2_with fail
  refine (rbefore_any _ C hsm ha k (by omega) _ (HC.out.below HB1.out)).mono ?_
  rw [HBF.out]
  rintro e w2 ⟨rfl, hb⟩
  have q2 : Kp (w2.heap[w.heap.size]? = some (.cells #[.slice pa C.parts.length pc, .slice (some ⟨g, o, none⟩) C.chans.length cc, .int .i64 C.l0, .slice a0 C.w0.length c0, .int .i64 C.l1, .slice a1 C.w1.length c1] 29 (0, 0))) := ⟨blk_below q1.out hb⟩
  have r2 : Kp (w2.heap[w.heap.size + 1]? = some (.cells #[.int .i64 0, .int .i64 0] 49 (0, 0))) := ⟨blk_below r1.out hb⟩
  have HB2 : Kp (Below w.heap.size w w2) := ⟨below_call HB1.out hb⟩
  clear qc0 qc1 qc2 qc3 qc4 qc5 ql rc0 rc1 rl q1 r1 HB1 hb
  have qc0 : w2.cell? ⟨w.heap.size, 0, none⟩ = some (.slice pa C.parts.length pc) := (cell_blk q2.out 0).trans rfl
  have qc1 : w2.cell? ⟨w.heap.size, 1, none⟩ = some (.slice (some ⟨g, o, none⟩) C.chans.length cc) := (cell_blk q2.out 1).trans rfl
  have qc2 : w2.cell? ⟨w.heap.size, 2, none⟩ = some (.int .i64 C.l0) := (cell_blk q2.out 2).trans rfl
  have qc3 : w2.cell? ⟨w.heap.size, 3, none⟩ = some (.slice a0 C.w0.length c0) := (cell_blk q2.out 3).trans rfl
  have qc4 : w2.cell? ⟨w.heap.size, 4, none⟩ = some (.int .i64 C.l1) := (cell_blk q2.out 4).trans rfl
  have qc5 : w2.cell? ⟨w.heap.size, 5, none⟩ = some (.slice a1 C.w1.length c1) := (cell_blk q2.out 5).trans rfl
  have ql := blk_lt q2.out
  have rc0 : w2.cell? ⟨w.heap.size + 1, 0, none⟩ = some (.int .i64 0) := (cell_blk r2.out 0).trans rfl
  have rc1 : w2.cell? ⟨w.heap.size + 1, 1, none⟩ = some (.int .i64 0) := (cell_blk r2.out 1).trans rfl
  have rl := blk_lt r2.out
  have rf0 : w2.frozen? ⟨w.heap.size + 1, 0, none⟩ = false := frozen_blk r2.out 0
  have rf1 : w2.frozen? ⟨w.heap.size + 1, 1, none⟩ = false := frozen_blk r2.out 1
  go_wp2
  exact bodyPost_ret (v := .agg #[_, _]) (results_cell_row rfl _ _ _ _ _ _ _ rfl ((blk_set (blk_set r2.out 0 _) 1 _).trans rfl) Try.underlying49 rfl (by kernel_rfl)) rfl ⟨ret_span (by rw [HS2.out.1]; omega) (by rw [HS2.out.2]; omega), (Below.setCell (Below.setCell HB2.out (p := ⟨w.heap.size + 1, 0, none⟩) (by show w.heap.size ≤ w.heap.size + 1; omega) _) (p := ⟨w.heap.size + 1, 1, none⟩) (by show w.heap.size ≤ w.heap.size + 1; omega) _)⟩

set_option maxRecDepth 100000 in
set_option maxHeartbeats 4000000 in
theorem rbuffer_yes01 (cv : Value) (C : Cfg) (hsm : C.small) (ha : accB C = true) (k : Nat) (hk : k < C.chans.length) (hkd : (C.chans.getD k default).kind = 1)  (w : World) (h : CfgAt w cv C) : Calls Try.prog 24 #[cv, .int .i64 k, .int .i64 0, .int .i64 1] w fun e w' => e = .returned (.agg #[.int .i64 (bufB C k 0 1).1, .int .i64 (bufB C k 0 1).2]) ∧ Below w.heap.size w w' := by
  have HC := Kp.mk h
  have HS := Kp.mk (bufB_yes C k 0 1 ⟨ha, hk, hkd, by omega, by omega⟩)
  have hcs := chn_small ha (List.getElem_mem hk)
  have hbs := befC_small ha k
  have HCB : Kp (chanB C k = true) := ⟨by rw [chanB, decide_eq_true ⟨by omega, by omega⟩, ha]; rfl⟩
  obtain ⟨ho, pa, pc, ca, cc, a0, c0, a1, c1, rfl, bp, bc, b0, b1, hp, hc, hw0, hw1⟩ := h
  obtain ⟨g, o, rfl, hg, hcc⟩ := hc.at (by omega)
  obtain ⟨x, hx⟩ : ∃ x, C.chans[k] = x := ⟨_, rfl⟩
  have HXG : Kp (C.chans.getD k default = x) := ⟨by rw [getD_at _ _ _ (by omega), hx]⟩
  have hcu : ∀ j, j < 7 → w.cell? ⟨g, o + k * 7 + j, none⟩ = (chanC x)[j]? := fun j hj => by
    have h1 := hcc (k * 7 + j) (by omega)
    rw [flat_at chanC 7 chanC_len C.chans k j (by omega) hj, hx] at h1
    rw [Nat.add_assoc]
    exact h1
  have HCU := Kp.mk hcu
  have hk0 : (0 : Int) ≤ (k : Int) := by omega
  have hk1 : (k : Int) < (C.chans.length : Int) := by omega
  clear hcu hcc
  have HXK : Kp (x.kind = 1) := ⟨by rw [← hkd, HXG.out]⟩
  rw [hx] at hcs
  obtain ⟨bf, hbf⟩ : ∃ bf, befC C k = bf := ⟨_, rfl⟩
  have HBF := Kp.mk hbf
  rw [hbf] at hbs
  have HS2 : Kp ((bufB C k 0 1).1 = bf + (3 + 1 * (2 + x.words)) ∧ (bufB C k 0 1).2 = 2 + x.words) := ⟨by rw [HS.out, HXG.out, hbf]; exact ⟨rfl, rfl⟩⟩
  clear hx hbf
  clear ho hp hc hw0 hw1
  go_enter Try.func24, Try.ntmps24
  have HB0 : Kp (Below w.heap.size w w) := ⟨Below.refl _ _⟩
  go_wp2_with fail
  refine (rchannel_any _ C hsm k _ (HC.out.below (below_al (below_al HB0.out _) _))).mono ?_
  rw [HCB.out]
  rintro e w1 ⟨rfl, hb⟩
  have q1 : Kp (w1.heap[w.heap.size]? = some (.cells #[.slice pa C.parts.length pc, .slice (some ⟨g, o, none⟩) C.chans.length cc, .int .i64 C.l0, .slice a0 C.w0.length c0, .int .i64 C.l1, .slice a1 C.w1.length c1] 29 (0, 0))) := ⟨blk_below (blk_al (blk_new _ _) _) hb⟩
  have r1 : Kp (w1.heap[w.heap.size + 1]? = some (.cells #[.int .i64 0, .int .i64 0] 49 (0, 0))) := ⟨blk_below (blk_at (w := (w.alloc (.cells #[.slice pa C.parts.length pc, .slice (some ⟨g, o, none⟩) C.chans.length cc, .int .i64 C.l0, .slice a0 C.w0.length c0, .int .i64 C.l1, .slice a1 C.w1.length c1] 29))) (by simp) _) hb⟩
  have HB1 : Kp (Below w.heap.size w w1) := ⟨below_call (below_al (below_al HB0.out _) _) hb⟩
  clear HB0 hb
  have qc0 : w1.cell? ⟨w.heap.size, 0, none⟩ = some (.slice pa C.parts.length pc) := (cell_blk q1.out 0).trans rfl
  have qc1 : w1.cell? ⟨w.heap.size, 1, none⟩ = some (.slice (some ⟨g, o, none⟩) C.chans.length cc) := (cell_blk q1.out 1).trans rfl
  have qc2 : w1.cell? ⟨w.heap.size, 2, none⟩ = some (.int .i64 C.l0) := (cell_blk q1.out 2).trans rfl
  have qc3 : w1.cell? ⟨w.heap.size, 3, none⟩ = some (.slice a0 C.w0.length c0) := (cell_blk q1.out 3).trans rfl
  have qc4 : w1.cell? ⟨w.heap.size, 4, none⟩ = some (.int .i64 C.l1) := (cell_blk q1.out 4).trans rfl
  have qc5 : w1.cell? ⟨w.heap.size, 5, none⟩ = some (.slice a1 C.w1.length c1) := (cell_blk q1.out 5).trans rfl
  have ql := blk_lt q1.out
  have rc0 : w1.cell? ⟨w.heap.size + 1, 0, none⟩ = some (.int .i64 0) := (cell_blk r1.out 0).trans rfl
  have rc1 : w1.cell? ⟨w.heap.size + 1, 1, none⟩ = some (.int .i64 0) := (cell_blk r1.out 1).trans rfl
  have rl := blk_lt r1.out
  have x0 : w1.cell? ⟨g, o + k * 7, none⟩ = some (.int .i64 x.kind) := (HB1.out.cell (p := ⟨g, o + k * 7, none⟩) hg).trans (HCU.out 0 (by omega))
  have x3 : w1.cell? ⟨g, o + k * 7 + 3, none⟩ = some (.int .i64 x.words) := (HB1.out.cell (p := ⟨g, o + k * 7 + 3, none⟩) hg).trans (HCU.out 3 (by omega))
  have hgw : g < w1.heap.size := Nat.lt_of_lt_of_le hg HB1.out.size
  rw [HXK.out] at x0
  go_wp2_with fail
  refine (rbefore_any _ C hsm ha k (by omega) _ (HC.out.below HB1.out)).mono ?_
  rw [HBF.out]
  rintro e w2 ⟨rfl, hb⟩
  have q2 : Kp (w2.heap[w.heap.size]? = some (.cells #[.slice pa C.parts.length pc, .slice (some ⟨g, o, none⟩) C.chans.length cc, .int .i64 C.l0, .slice a0 C.w0.length c0, .int .i64 C.l1, .slice a1 C.w1.length c1] 29 (0, 0))) := ⟨blk_below q1.out hb⟩
  have r2 : Kp (w2.heap[w.heap.size + 1]? = some (.cells #[.int .i64 0, .int .i64 0] 49 (0, 0))) := ⟨blk_below r1.out hb⟩
  have HB2 : Kp (Below w.heap.size w w2) := ⟨below_call HB1.out hb⟩
  clear qc0 qc1 qc2 qc3 qc4 qc5 ql rc0 rc1 rl q1 r1 HB1 hb
  have qc0 : w2.cell? ⟨w.heap.size, 0, none⟩ = some (.slice pa C.parts.length pc) := (cell_blk q2.out 0).trans rfl
  have qc1 : w2.cell? ⟨w.heap.size, 1, none⟩ = some (.slice (some ⟨g, o, none⟩) C.chans.length cc) := (cell_blk q2.out 1).trans rfl
  have qc2 : w2.cell? ⟨w.heap.size, 2, none⟩ = some (.int .i64 C.l0) := (cell_blk q2.out 2).trans rfl
  have qc3 : w2.cell? ⟨w.heap.size, 3, none⟩ = some (.slice a0 C.w0.length c0) := (cell_blk q2.out 3).trans rfl
  have qc4 : w2.cell? ⟨w.heap.size, 4, none⟩ = some (.int .i64 C.l1) := (cell_blk q2.out 4).trans rfl
  have qc5 : w2.cell? ⟨w.heap.size, 5, none⟩ = some (.slice a1 C.w1.length c1) := (cell_blk q2.out 5).trans rfl
  have ql := blk_lt q2.out
  have rc0 : w2.cell? ⟨w.heap.size + 1, 0, none⟩ = some (.int .i64 0) := (cell_blk r2.out 0).trans rfl
  have rc1 : w2.cell? ⟨w.heap.size + 1, 1, none⟩ = some (.int .i64 0) := (cell_blk r2.out 1).trans rfl
  have rl := blk_lt r2.out
  have rf0 : w2.frozen? ⟨w.heap.size + 1, 0, none⟩ = false := frozen_blk r2.out 0
  have rf1 : w2.frozen? ⟨w.heap.size + 1, 1, none⟩ = false := frozen_blk r2.out 1
  go_wp2
  exact bodyPost_ret (v := .agg #[_, _]) (results_cell_row rfl _ _ _ _ _ _ _ rfl ((blk_set (blk_set r2.out 0 _) 1 _).trans rfl) Try.underlying49 rfl (by kernel_rfl)) rfl ⟨ret_span (by rw [HS2.out.1]; omega) (by rw [HS2.out.2]; omega), (Below.setCell (Below.setCell HB2.out (p := ⟨w.heap.size + 1, 0, none⟩) (by show w.heap.size ≤ w.heap.size + 1; omega) _) (p := ⟨w.heap.size + 1, 1, none⟩) (by show w.heap.size ≤ w.heap.size + 1; omega) _)⟩

set_option maxRecDepth 100000 in
set_option maxHeartbeats 4000000 in
theorem rbuffer_yes10 (cv : Value) (C : Cfg) (hsm : C.small) (ha : accB C = true) (k : Nat) (hk : k < C.chans.length) (hkd : (C.chans.getD k default).kind = 1)  (w : World) (h : CfgAt w cv C) : Calls Try.prog 24 #[cv, .int .i64 k, .int .i64 1, .int .i64 0] w fun e w' => e = .returned (.agg #[.int .i64 (bufB C k 1 0).1, .int .i64 (bufB C k 1 0).2]) ∧ Below w.heap.size w w' := by
  have HC := Kp.mk h
  have HS := Kp.mk (bufB_yes C k 1 0 ⟨ha, hk, hkd, by omega, by omega⟩)
  have hcs := chn_small ha (List.getElem_mem hk)
  have hbs := befC_small ha k
  have HCB : Kp (chanB C k = true) := ⟨by rw [chanB, decide_eq_true ⟨by omega, by omega⟩, ha]; rfl⟩
  obtain ⟨ho, pa, pc, ca, cc, a0, c0, a1, c1, rfl, bp, bc, b0, b1, hp, hc, hw0, hw1⟩ := h
  obtain ⟨g, o, rfl, hg, hcc⟩ := hc.at (by omega)
  obtain ⟨x, hx⟩ : ∃ x, C.chans[k] = x := ⟨_, rfl⟩
  have HXG : Kp (C.chans.getD k default = x) := ⟨by rw [getD_at _ _ _ (by omega), hx]⟩
  have hcu : ∀ j, j < 7 → w.cell? ⟨g, o + k * 7 + j, none⟩ = (chanC x)[j]? := fun j hj => by
    have h1 := hcc (k * 7 + j) (by omega)
    rw [flat_at chanC 7 chanC_len C.chans k j (by omega) hj, hx] at h1
    rw [Nat.add_assoc]
    exact h1
  have HCU := Kp.mk hcu
  have hk0 : (0 : Int) ≤ (k : Int) := by omega
  have hk1 : (k : Int) < (C.chans.length : Int) := by omega
  clear hcu hcc
  have HXK : Kp (x.kind = 1) := ⟨by rw [← hkd, HXG.out]⟩
  rw [hx] at hcs
  obtain ⟨bf, hbf⟩ : ∃ bf, befC C k = bf := ⟨_, rfl⟩
  have HBF := Kp.mk hbf
  rw [hbf] at hbs
  have HS2 : Kp ((bufB C k 1 0).1 = bf + (3 + 2 * (2 + x.words)) ∧ (bufB C k 1 0).2 = 2 + x.words) := ⟨by rw [HS.out, HXG.out, hbf]; exact ⟨rfl, rfl⟩⟩
  clear hx hbf
  clear ho hp hc hw0 hw1
  go_enter Try.func24, Try.ntmps24
  have HB0 : Kp (Below w.heap.size w w) := ⟨Below.refl _ _⟩
  go_wp2_with fail
  refine (rchannel_any _ C hsm k _ (HC.out.below (below_al (below_al HB0.out _) _))).mono ?_
  rw [HCB.out]
  rintro e w1 ⟨rfl, hb⟩
  have q1 : Kp (w1.heap[w.heap.size]? = some (.cells #[.slice pa C.parts.length pc, .slice (some ⟨g, o, none⟩) C.chans.length cc, .int .i64 C.l0, .slice a0 C.w0.length c0, .int .i64 C.l1, .slice a1 C.w1.length c1] 29 (0, 0))) := ⟨blk_below (blk_al (blk_new _ _) _) hb⟩
  have r1 : Kp (w1.heap[w.heap.size + 1]? = some (.cells #[.int .i64 0, .int .i64 0] 49 (0, 0))) := ⟨blk_below (blk_at (w := (w.alloc (.cells #[.slice pa C.parts.length pc, .slice (some ⟨g, o, none⟩) C.chans.length cc, .int .i64 C.l0, .slice a0 C.w0.length c0, .int .i64 C.l1, .slice a1 C.w1.length c1] 29))) (by simp) _) hb⟩
  have HB1 : Kp (Below w.heap.size w w1) := ⟨below_call (below_al (below_al HB0.out _) _) hb⟩
  clear HB0 hb
  have qc0 : w1.cell? ⟨w.heap.size, 0, none⟩ = some (.slice pa C.parts.length pc) := (cell_blk q1.out 0).trans rfl
  have qc1 : w1.cell? ⟨w.heap.size, 1, none⟩ = some (.slice (some ⟨g, o, none⟩) C.chans.length cc) := (cell_blk q1.out 1).trans rfl
  have qc2 : w1.cell? ⟨w.heap.size, 2, none⟩ = some (.int .i64 C.l0) := (cell_blk q1.out 2).trans rfl
  have qc3 : w1.cell? ⟨w.heap.size, 3, none⟩ = some (.slice a0 C.w0.length c0) := (cell_blk q1.out 3).trans rfl
  have qc4 : w1.cell? ⟨w.heap.size, 4, none⟩ = some (.int .i64 C.l1) := (cell_blk q1.out 4).trans rfl
  have qc5 : w1.cell? ⟨w.heap.size, 5, none⟩ = some (.slice a1 C.w1.length c1) := (cell_blk q1.out 5).trans rfl
  have ql := blk_lt q1.out
  have rc0 : w1.cell? ⟨w.heap.size + 1, 0, none⟩ = some (.int .i64 0) := (cell_blk r1.out 0).trans rfl
  have rc1 : w1.cell? ⟨w.heap.size + 1, 1, none⟩ = some (.int .i64 0) := (cell_blk r1.out 1).trans rfl
  have rl := blk_lt r1.out
  have x0 : w1.cell? ⟨g, o + k * 7, none⟩ = some (.int .i64 x.kind) := (HB1.out.cell (p := ⟨g, o + k * 7, none⟩) hg).trans (HCU.out 0 (by omega))
  have x3 : w1.cell? ⟨g, o + k * 7 + 3, none⟩ = some (.int .i64 x.words) := (HB1.out.cell (p := ⟨g, o + k * 7 + 3, none⟩) hg).trans (HCU.out 3 (by omega))
  have hgw : g < w1.heap.size := Nat.lt_of_lt_of_le hg HB1.out.size
  rw [HXK.out] at x0
  go_wp2_with fail
  refine (rbefore_any _ C hsm ha k (by omega) _ (HC.out.below HB1.out)).mono ?_
  rw [HBF.out]
  rintro e w2 ⟨rfl, hb⟩
  have q2 : Kp (w2.heap[w.heap.size]? = some (.cells #[.slice pa C.parts.length pc, .slice (some ⟨g, o, none⟩) C.chans.length cc, .int .i64 C.l0, .slice a0 C.w0.length c0, .int .i64 C.l1, .slice a1 C.w1.length c1] 29 (0, 0))) := ⟨blk_below q1.out hb⟩
  have r2 : Kp (w2.heap[w.heap.size + 1]? = some (.cells #[.int .i64 0, .int .i64 0] 49 (0, 0))) := ⟨blk_below r1.out hb⟩
  have HB2 : Kp (Below w.heap.size w w2) := ⟨below_call HB1.out hb⟩
  clear qc0 qc1 qc2 qc3 qc4 qc5 ql rc0 rc1 rl q1 r1 HB1 hb
  have qc0 : w2.cell? ⟨w.heap.size, 0, none⟩ = some (.slice pa C.parts.length pc) := (cell_blk q2.out 0).trans rfl
  have qc1 : w2.cell? ⟨w.heap.size, 1, none⟩ = some (.slice (some ⟨g, o, none⟩) C.chans.length cc) := (cell_blk q2.out 1).trans rfl
  have qc2 : w2.cell? ⟨w.heap.size, 2, none⟩ = some (.int .i64 C.l0) := (cell_blk q2.out 2).trans rfl
  have qc3 : w2.cell? ⟨w.heap.size, 3, none⟩ = some (.slice a0 C.w0.length c0) := (cell_blk q2.out 3).trans rfl
  have qc4 : w2.cell? ⟨w.heap.size, 4, none⟩ = some (.int .i64 C.l1) := (cell_blk q2.out 4).trans rfl
  have qc5 : w2.cell? ⟨w.heap.size, 5, none⟩ = some (.slice a1 C.w1.length c1) := (cell_blk q2.out 5).trans rfl
  have ql := blk_lt q2.out
  have rc0 : w2.cell? ⟨w.heap.size + 1, 0, none⟩ = some (.int .i64 0) := (cell_blk r2.out 0).trans rfl
  have rc1 : w2.cell? ⟨w.heap.size + 1, 1, none⟩ = some (.int .i64 0) := (cell_blk r2.out 1).trans rfl
  have rl := blk_lt r2.out
  have rf0 : w2.frozen? ⟨w.heap.size + 1, 0, none⟩ = false := frozen_blk r2.out 0
  have rf1 : w2.frozen? ⟨w.heap.size + 1, 1, none⟩ = false := frozen_blk r2.out 1
  go_wp2
  exact bodyPost_ret (v := .agg #[_, _]) (results_cell_row rfl _ _ _ _ _ _ _ rfl ((blk_set (blk_set r2.out 0 _) 1 _).trans rfl) Try.underlying49 rfl (by kernel_rfl)) rfl ⟨ret_span (by rw [HS2.out.1]; omega) (by rw [HS2.out.2]; omega), (Below.setCell (Below.setCell HB2.out (p := ⟨w.heap.size + 1, 0, none⟩) (by show w.heap.size ≤ w.heap.size + 1; omega) _) (p := ⟨w.heap.size + 1, 1, none⟩) (by show w.heap.size ≤ w.heap.size + 1; omega) _)⟩

set_option maxRecDepth 100000 in
set_option maxHeartbeats 4000000 in
theorem rbuffer_yes11 (cv : Value) (C : Cfg) (hsm : C.small) (ha : accB C = true) (k : Nat) (hk : k < C.chans.length) (hkd : (C.chans.getD k default).kind = 1)  (w : World) (h : CfgAt w cv C) : Calls Try.prog 24 #[cv, .int .i64 k, .int .i64 1, .int .i64 1] w fun e w' => e = .returned (.agg #[.int .i64 (bufB C k 1 1).1, .int .i64 (bufB C k 1 1).2]) ∧ Below w.heap.size w w' := by
  have HC := Kp.mk h
  have HS := Kp.mk (bufB_yes C k 1 1 ⟨ha, hk, hkd, by omega, by omega⟩)
  have hcs := chn_small ha (List.getElem_mem hk)
  have hbs := befC_small ha k
  have HCB : Kp (chanB C k = true) := ⟨by rw [chanB, decide_eq_true ⟨by omega, by omega⟩, ha]; rfl⟩
  obtain ⟨ho, pa, pc, ca, cc, a0, c0, a1, c1, rfl, bp, bc, b0, b1, hp, hc, hw0, hw1⟩ := h
  obtain ⟨g, o, rfl, hg, hcc⟩ := hc.at (by omega)
  obtain ⟨x, hx⟩ : ∃ x, C.chans[k] = x := ⟨_, rfl⟩
  have HXG : Kp (C.chans.getD k default = x) := ⟨by rw [getD_at _ _ _ (by omega), hx]⟩
  have hcu : ∀ j, j < 7 → w.cell? ⟨g, o + k * 7 + j, none⟩ = (chanC x)[j]? := fun j hj => by
    have h1 := hcc (k * 7 + j) (by omega)
    rw [flat_at chanC 7 chanC_len C.chans k j (by omega) hj, hx] at h1
    rw [Nat.add_assoc]
    exact h1
  have HCU := Kp.mk hcu
  have hk0 : (0 : Int) ≤ (k : Int) := by omega
  have hk1 : (k : Int) < (C.chans.length : Int) := by omega
  clear hcu hcc
  have HXK : Kp (x.kind = 1) := ⟨by rw [← hkd, HXG.out]⟩
  rw [hx] at hcs
  obtain ⟨bf, hbf⟩ : ∃ bf, befC C k = bf := ⟨_, rfl⟩
  have HBF := Kp.mk hbf
  rw [hbf] at hbs
  have HS2 : Kp ((bufB C k 1 1).1 = bf + (3 + 3 * (2 + x.words)) ∧ (bufB C k 1 1).2 = 2 + x.words) := ⟨by rw [HS.out, HXG.out, hbf]; exact ⟨rfl, rfl⟩⟩
  clear hx hbf
  clear ho hp hc hw0 hw1
  go_enter Try.func24, Try.ntmps24
  have HB0 : Kp (Below w.heap.size w w) := ⟨Below.refl _ _⟩
  go_wp2_with fail
  refine (rchannel_any _ C hsm k _ (HC.out.below (below_al (below_al HB0.out _) _))).mono ?_
  rw [HCB.out]
  rintro e w1 ⟨rfl, hb⟩
  have q1 : Kp (w1.heap[w.heap.size]? = some (.cells #[.slice pa C.parts.length pc, .slice (some ⟨g, o, none⟩) C.chans.length cc, .int .i64 C.l0, .slice a0 C.w0.length c0, .int .i64 C.l1, .slice a1 C.w1.length c1] 29 (0, 0))) := ⟨blk_below (blk_al (blk_new _ _) _) hb⟩
  have r1 : Kp (w1.heap[w.heap.size + 1]? = some (.cells #[.int .i64 0, .int .i64 0] 49 (0, 0))) := ⟨blk_below (blk_at (w := (w.alloc (.cells #[.slice pa C.parts.length pc, .slice (some ⟨g, o, none⟩) C.chans.length cc, .int .i64 C.l0, .slice a0 C.w0.length c0, .int .i64 C.l1, .slice a1 C.w1.length c1] 29))) (by simp) _) hb⟩
  have HB1 : Kp (Below w.heap.size w w1) := ⟨below_call (below_al (below_al HB0.out _) _) hb⟩
  clear HB0 hb
  have qc0 : w1.cell? ⟨w.heap.size, 0, none⟩ = some (.slice pa C.parts.length pc) := (cell_blk q1.out 0).trans rfl
  have qc1 : w1.cell? ⟨w.heap.size, 1, none⟩ = some (.slice (some ⟨g, o, none⟩) C.chans.length cc) := (cell_blk q1.out 1).trans rfl
  have qc2 : w1.cell? ⟨w.heap.size, 2, none⟩ = some (.int .i64 C.l0) := (cell_blk q1.out 2).trans rfl
  have qc3 : w1.cell? ⟨w.heap.size, 3, none⟩ = some (.slice a0 C.w0.length c0) := (cell_blk q1.out 3).trans rfl
  have qc4 : w1.cell? ⟨w.heap.size, 4, none⟩ = some (.int .i64 C.l1) := (cell_blk q1.out 4).trans rfl
  have qc5 : w1.cell? ⟨w.heap.size, 5, none⟩ = some (.slice a1 C.w1.length c1) := (cell_blk q1.out 5).trans rfl
  have ql := blk_lt q1.out
  have rc0 : w1.cell? ⟨w.heap.size + 1, 0, none⟩ = some (.int .i64 0) := (cell_blk r1.out 0).trans rfl
  have rc1 : w1.cell? ⟨w.heap.size + 1, 1, none⟩ = some (.int .i64 0) := (cell_blk r1.out 1).trans rfl
  have rl := blk_lt r1.out
  have x0 : w1.cell? ⟨g, o + k * 7, none⟩ = some (.int .i64 x.kind) := (HB1.out.cell (p := ⟨g, o + k * 7, none⟩) hg).trans (HCU.out 0 (by omega))
  have x3 : w1.cell? ⟨g, o + k * 7 + 3, none⟩ = some (.int .i64 x.words) := (HB1.out.cell (p := ⟨g, o + k * 7 + 3, none⟩) hg).trans (HCU.out 3 (by omega))
  have hgw : g < w1.heap.size := Nat.lt_of_lt_of_le hg HB1.out.size
  rw [HXK.out] at x0
  go_wp2_with fail
  refine (rbefore_any _ C hsm ha k (by omega) _ (HC.out.below HB1.out)).mono ?_
  rw [HBF.out]
  rintro e w2 ⟨rfl, hb⟩
  have q2 : Kp (w2.heap[w.heap.size]? = some (.cells #[.slice pa C.parts.length pc, .slice (some ⟨g, o, none⟩) C.chans.length cc, .int .i64 C.l0, .slice a0 C.w0.length c0, .int .i64 C.l1, .slice a1 C.w1.length c1] 29 (0, 0))) := ⟨blk_below q1.out hb⟩
  have r2 : Kp (w2.heap[w.heap.size + 1]? = some (.cells #[.int .i64 0, .int .i64 0] 49 (0, 0))) := ⟨blk_below r1.out hb⟩
  have HB2 : Kp (Below w.heap.size w w2) := ⟨below_call HB1.out hb⟩
  clear qc0 qc1 qc2 qc3 qc4 qc5 ql rc0 rc1 rl q1 r1 HB1 hb
  have qc0 : w2.cell? ⟨w.heap.size, 0, none⟩ = some (.slice pa C.parts.length pc) := (cell_blk q2.out 0).trans rfl
  have qc1 : w2.cell? ⟨w.heap.size, 1, none⟩ = some (.slice (some ⟨g, o, none⟩) C.chans.length cc) := (cell_blk q2.out 1).trans rfl
  have qc2 : w2.cell? ⟨w.heap.size, 2, none⟩ = some (.int .i64 C.l0) := (cell_blk q2.out 2).trans rfl
  have qc3 : w2.cell? ⟨w.heap.size, 3, none⟩ = some (.slice a0 C.w0.length c0) := (cell_blk q2.out 3).trans rfl
  have qc4 : w2.cell? ⟨w.heap.size, 4, none⟩ = some (.int .i64 C.l1) := (cell_blk q2.out 4).trans rfl
  have qc5 : w2.cell? ⟨w.heap.size, 5, none⟩ = some (.slice a1 C.w1.length c1) := (cell_blk q2.out 5).trans rfl
  have ql := blk_lt q2.out
  have rc0 : w2.cell? ⟨w.heap.size + 1, 0, none⟩ = some (.int .i64 0) := (cell_blk r2.out 0).trans rfl
  have rc1 : w2.cell? ⟨w.heap.size + 1, 1, none⟩ = some (.int .i64 0) := (cell_blk r2.out 1).trans rfl
  have rl := blk_lt r2.out
  have rf0 : w2.frozen? ⟨w.heap.size + 1, 0, none⟩ = false := frozen_blk r2.out 0
  have rf1 : w2.frozen? ⟨w.heap.size + 1, 1, none⟩ = false := frozen_blk r2.out 1
  go_wp2
  exact bodyPost_ret (v := .agg #[_, _]) (results_cell_row rfl _ _ _ _ _ _ _ rfl ((blk_set (blk_set r2.out 0 _) 1 _).trans rfl) Try.underlying49 rfl (by kernel_rfl)) rfl ⟨ret_span (by rw [HS2.out.1]; omega) (by rw [HS2.out.2]; omega), (Below.setCell (Below.setCell HB2.out (p := ⟨w.heap.size + 1, 0, none⟩) (by show w.heap.size ≤ w.heap.size + 1; omega) _) (p := ⟨w.heap.size + 1, 1, none⟩) (by show w.heap.size ≤ w.heap.size + 1; omega) _)⟩

theorem rbuffer_any (cv : Value) (C : Cfg) (hsm : C.small) (k p i : Int) (w : World) (h : CfgAt w cv C) : Calls Try.prog 24 #[cv, .int .i64 k, .int .i64 p, .int .i64 i] w fun e w' => e = .returned (.agg #[.int .i64 (bufB C k p i).1, .int .i64 (bufB C k p i).2]) ∧ Below w.heap.size w w' := by
  cases hch : chanB C k with
  | false => exact rbuffer_out cv C hsm k p i hch w h
  | true =>
    obtain ⟨ha, h0, h1⟩ := chanB_yes hch
    obtain ⟨j, rfl⟩ := Int.eq_ofNat_of_zero_le h0
    have hj : j < C.chans.length := by omega
    by_cases hkd : (C.chans.getD j default).kind = 1
    · by_cases hp0 : p < 0
      · exact rbuffer_p0 cv C hsm ha j hj p i hkd hp0 w h
      · by_cases hp1 : 1 < p
        · exact rbuffer_p1 cv C hsm ha j hj p i hkd hp1 w h
        · have hp : p = 0 ∨ p = 1 := by omega
          by_cases hi0 : i < 0
          · exact rbuffer_i0 cv C hsm ha j hj p i hkd hp hi0 w h
          · by_cases hi1 : 1 < i
            · exact rbuffer_i1 cv C hsm ha j hj p i hkd hp hi1 w h
            · have hi : i = 0 ∨ i = 1 := by omega
              rcases hp with rfl | rfl <;> rcases hi with rfl | rfl
              · exact rbuffer_yes00 cv C hsm ha j hj hkd w h
              · exact rbuffer_yes01 cv C hsm ha j hj hkd w h
              · exact rbuffer_yes10 cv C hsm ha j hj hkd w h
              · exact rbuffer_yes11 cv C hsm ha j hj hkd w h
    · exact rbuffer_kind cv C hsm ha j hj p i hkd w h

set_option maxRecDepth 100000 in
set_option maxHeartbeats 4000000 in
theorem rcell_out (cv : Value) (C : Cfg) (hsm : C.small) (k i : Int) (hch : chanB C k = false) (w : World) (h : CfgAt w cv C) : Calls Try.prog 26 #[cv, .int .i64 k, .int .i64 i] w fun e w' => e = .returned (.agg #[.int .i64 (cellB C k i).1, .int .i64 (cellB C k i).2]) ∧ Below w.heap.size w w' := by
  have HC := Kp.mk h
  have HZ := Kp.mk (cellB_no C k i fun h => chanB_no hch ⟨h.1, h.2.1, h.2.2.1⟩)
  have HCB := Kp.mk hch
  clear hch
  obtain ⟨ho, pa, pc, ca, cc, a0, c0, a1, c1, rfl, bp, bc, b0, b1, hp, hc, hw0, hw1⟩ := h
  clear ho hp hc hw0 hw1
  go_enter Try.func26, Try.ntmps26
  have HB0 : Kp (Below w.heap.size w w) := ⟨Below.refl _ _⟩
  go_wp2_with fail
  refine (rchannel_any _ C hsm k _ (HC.out.below (below_al (below_al HB0.out _) _))).mono ?_
  rw [HCB.out]
  rintro e w1 ⟨rfl, hb⟩
  have q1 : Kp (w1.heap[w.heap.size]? = some (.cells #[.slice pa C.parts.length pc, .slice ca C.chans.length cc, .int .i64 C.l0, .slice a0 C.w0.length c0, .int .i64 C.l1, .slice a1 C.w1.length c1] 29 (0, 0))) := ⟨blk_below (blk_al (blk_new _ _) _) hb⟩
  have r1 : Kp (w1.heap[w.heap.size + 1]? = some (.cells #[.int .i64 0, .int .i64 0] 49 (0, 0))) := ⟨blk_below (blk_at (w := (w.alloc (.cells #[.slice pa C.parts.length pc, .slice ca C.chans.length cc, .int .i64 C.l0, .slice a0 C.w0.length c0, .int .i64 C.l1, .slice a1 C.w1.length c1] 29))) (by simp) _) hb⟩
  have HB1 : Kp (Below w.heap.size w w1) := ⟨below_call (below_al (below_al HB0.out _) _) hb⟩
  clear HB0 hb
  have qc0 : w1.cell? ⟨w.heap.size, 0, none⟩ = some (.slice pa C.parts.length pc) := (cell_blk q1.out 0).trans rfl
  have qc1 : w1.cell? ⟨w.heap.size, 1, none⟩ = some (.slice ca C.chans.length cc) := (cell_blk q1.out 1).trans rfl
  have qc2 : w1.cell? ⟨w.heap.size, 2, none⟩ = some (.int .i64 C.l0) := (cell_blk q1.out 2).trans rfl
  have qc3 : w1.cell? ⟨w.heap.size, 3, none⟩ = some (.slice a0 C.w0.length c0) := (cell_blk q1.out 3).trans rfl
  have qc4 : w1.cell? ⟨w.heap.size, 4, none⟩ = some (.int .i64 C.l1) := (cell_blk q1.out 4).trans rfl
  have qc5 : w1.cell? ⟨w.heap.size, 5, none⟩ = some (.slice a1 C.w1.length c1) := (cell_blk q1.out 5).trans rfl
  have ql := blk_lt q1.out
  have rc0 : w1.cell? ⟨w.heap.size + 1, 0, none⟩ = some (.int .i64 0) := (cell_blk r1.out 0).trans rfl
  have rc1 : w1.cell? ⟨w.heap.size + 1, 1, none⟩ = some (.int .i64 0) := (cell_blk r1.out 1).trans rfl
  have rl := blk_lt r1.out
  have rf0 : w1.frozen? ⟨w.heap.size + 1, 0, none⟩ = false := frozen_blk r1.out 0
  have rf1 : w1.frozen? ⟨w.heap.size + 1, 1, none⟩ = false := frozen_blk r1.out 1
  go_wp2
  exact bodyPost_ret (v := .agg #[.int .i64 0, .int .i64 0]) (results_cell_row rfl _ _ _ _ _ _ _ rfl ((blk_set (blk_set r1.out 0 _) 1 _).trans rfl) Try.underlying49 rfl (by kernel_rfl)) rfl ⟨zero_out HZ.out, (Below.setCell (Below.setCell HB1.out (p := ⟨w.heap.size + 1, 0, none⟩) (by show w.heap.size ≤ w.heap.size + 1; omega) _) (p := ⟨w.heap.size + 1, 1, none⟩) (by show w.heap.size ≤ w.heap.size + 1; omega) _)⟩

set_option maxRecDepth 100000 in
set_option maxHeartbeats 4000000 in
theorem rcell_kind (cv : Value) (C : Cfg) (hsm : C.small) (ha : accB C = true) (k : Nat) (hk : k < C.chans.length) (i : Int) (hkd : (C.chans.getD k default).kind ≠ 2) (w : World) (h : CfgAt w cv C) : Calls Try.prog 26 #[cv, .int .i64 k, .int .i64 i] w fun e w' => e = .returned (.agg #[.int .i64 (cellB C k i).1, .int .i64 (cellB C k i).2]) ∧ Below w.heap.size w w' := by
  have HC := Kp.mk h
  have HZ := Kp.mk (cellB_no C k i fun h => hkd (by simpa using h.2.2.2.1))
  have HCB : Kp (chanB C k = true) := ⟨by rw [chanB, decide_eq_true ⟨by omega, by omega⟩, ha]; rfl⟩
  obtain ⟨ho, pa, pc, ca, cc, a0, c0, a1, c1, rfl, bp, bc, b0, b1, hp, hc, hw0, hw1⟩ := h
  obtain ⟨g, o, rfl, hg, hcc⟩ := hc.at (by omega)
  obtain ⟨x, hx⟩ : ∃ x, C.chans[k] = x := ⟨_, rfl⟩
  have HXG : Kp (C.chans.getD k default = x) := ⟨by rw [getD_at _ _ _ (by omega), hx]⟩
  have hcu : ∀ j, j < 7 → w.cell? ⟨g, o + k * 7 + j, none⟩ = (chanC x)[j]? := fun j hj => by
    have h1 := hcc (k * 7 + j) (by omega)
    rw [flat_at chanC 7 chanC_len C.chans k j (by omega) hj, hx] at h1
    rw [Nat.add_assoc]
    exact h1
  have HCU := Kp.mk hcu
  have hk0 : (0 : Int) ≤ (k : Int) := by omega
  have hk1 : (k : Int) < (C.chans.length : Int) := by omega
  clear hcu hcc
  have hx1 : (x.kind == 2) = false := by rw [HXG.out] at hkd; simpa using hkd
  have hx2 : (x.kind != 2) = true := by rw [HXG.out] at hkd; simpa using hkd
  clear hx
  clear ho hp hc hw0 hw1
  go_enter Try.func26, Try.ntmps26
  have HB0 : Kp (Below w.heap.size w w) := ⟨Below.refl _ _⟩
  go_wp2_with fail
  refine (rchannel_any _ C hsm k _ (HC.out.below (below_al (below_al HB0.out _) _))).mono ?_
  rw [HCB.out]
  rintro e w1 ⟨rfl, hb⟩
  have q1 : Kp (w1.heap[w.heap.size]? = some (.cells #[.slice pa C.parts.length pc, .slice (some ⟨g, o, none⟩) C.chans.length cc, .int .i64 C.l0, .slice a0 C.w0.length c0, .int .i64 C.l1, .slice a1 C.w1.length c1] 29 (0, 0))) := ⟨blk_below (blk_al (blk_new _ _) _) hb⟩
  have r1 : Kp (w1.heap[w.heap.size + 1]? = some (.cells #[.int .i64 0, .int .i64 0] 49 (0, 0))) := ⟨blk_below (blk_at (w := (w.alloc (.cells #[.slice pa C.parts.length pc, .slice (some ⟨g, o, none⟩) C.chans.length cc, .int .i64 C.l0, .slice a0 C.w0.length c0, .int .i64 C.l1, .slice a1 C.w1.length c1] 29))) (by simp) _) hb⟩
  have HB1 : Kp (Below w.heap.size w w1) := ⟨below_call (below_al (below_al HB0.out _) _) hb⟩
  clear HB0 hb
  have qc0 : w1.cell? ⟨w.heap.size, 0, none⟩ = some (.slice pa C.parts.length pc) := (cell_blk q1.out 0).trans rfl
  have qc1 : w1.cell? ⟨w.heap.size, 1, none⟩ = some (.slice (some ⟨g, o, none⟩) C.chans.length cc) := (cell_blk q1.out 1).trans rfl
  have qc2 : w1.cell? ⟨w.heap.size, 2, none⟩ = some (.int .i64 C.l0) := (cell_blk q1.out 2).trans rfl
  have qc3 : w1.cell? ⟨w.heap.size, 3, none⟩ = some (.slice a0 C.w0.length c0) := (cell_blk q1.out 3).trans rfl
  have qc4 : w1.cell? ⟨w.heap.size, 4, none⟩ = some (.int .i64 C.l1) := (cell_blk q1.out 4).trans rfl
  have qc5 : w1.cell? ⟨w.heap.size, 5, none⟩ = some (.slice a1 C.w1.length c1) := (cell_blk q1.out 5).trans rfl
  have ql := blk_lt q1.out
  have rc0 : w1.cell? ⟨w.heap.size + 1, 0, none⟩ = some (.int .i64 0) := (cell_blk r1.out 0).trans rfl
  have rc1 : w1.cell? ⟨w.heap.size + 1, 1, none⟩ = some (.int .i64 0) := (cell_blk r1.out 1).trans rfl
  have rl := blk_lt r1.out
  have x0 : w1.cell? ⟨g, o + k * 7, none⟩ = some (.int .i64 x.kind) := (HB1.out.cell (p := ⟨g, o + k * 7, none⟩) hg).trans (HCU.out 0 (by omega))
  have x4 : w1.cell? ⟨g, o + k * 7 + 4, none⟩ = some (.int .i64 x.depth) := (HB1.out.cell (p := ⟨g, o + k * 7 + 4, none⟩) hg).trans (HCU.out 4 (by omega))
  have hgw : g < w1.heap.size := Nat.lt_of_lt_of_le hg HB1.out.size
  have rf0 : w1.frozen? ⟨w.heap.size + 1, 0, none⟩ = false := frozen_blk r1.out 0
  have rf1 : w1.frozen? ⟨w.heap.size + 1, 1, none⟩ = false := frozen_blk r1.out 1
  go_wp2
  exact bodyPost_ret (v := .agg #[.int .i64 0, .int .i64 0]) (results_cell_row rfl _ _ _ _ _ _ _ rfl ((blk_set (blk_set r1.out 0 _) 1 _).trans rfl) Try.underlying49 rfl (by kernel_rfl)) rfl ⟨zero_out HZ.out, (Below.setCell (Below.setCell HB1.out (p := ⟨w.heap.size + 1, 0, none⟩) (by show w.heap.size ≤ w.heap.size + 1; omega) _) (p := ⟨w.heap.size + 1, 1, none⟩) (by show w.heap.size ≤ w.heap.size + 1; omega) _)⟩

set_option maxRecDepth 100000 in
set_option maxHeartbeats 4000000 in
theorem rcell_neg (cv : Value) (C : Cfg) (hsm : C.small) (ha : accB C = true) (k : Nat) (hk : k < C.chans.length) (i : Int) (hkd : (C.chans.getD k default).kind = 2) (hi : i < 0) (w : World) (h : CfgAt w cv C) : Calls Try.prog 26 #[cv, .int .i64 k, .int .i64 i] w fun e w' => e = .returned (.agg #[.int .i64 (cellB C k i).1, .int .i64 (cellB C k i).2]) ∧ Below w.heap.size w w' := by
  have HC := Kp.mk h
  have HZ := Kp.mk (cellB_no C k i fun h => by omega)
  have HCB : Kp (chanB C k = true) := ⟨by rw [chanB, decide_eq_true ⟨by omega, by omega⟩, ha]; rfl⟩
  obtain ⟨ho, pa, pc, ca, cc, a0, c0, a1, c1, rfl, bp, bc, b0, b1, hp, hc, hw0, hw1⟩ := h
  obtain ⟨g, o, rfl, hg, hcc⟩ := hc.at (by omega)
  obtain ⟨x, hx⟩ : ∃ x, C.chans[k] = x := ⟨_, rfl⟩
  have HXG : Kp (C.chans.getD k default = x) := ⟨by rw [getD_at _ _ _ (by omega), hx]⟩
  have hcu : ∀ j, j < 7 → w.cell? ⟨g, o + k * 7 + j, none⟩ = (chanC x)[j]? := fun j hj => by
    have h1 := hcc (k * 7 + j) (by omega)
    rw [flat_at chanC 7 chanC_len C.chans k j (by omega) hj, hx] at h1
    rw [Nat.add_assoc]
    exact h1
  have HCU := Kp.mk hcu
  have hk0 : (0 : Int) ≤ (k : Int) := by omega
  have hk1 : (k : Int) < (C.chans.length : Int) := by omega
  clear hcu hcc
  have HXK : Kp (x.kind = 2) := ⟨by rw [← hkd, HXG.out]⟩
  clear hx
  clear ho hp hc hw0 hw1
  go_enter Try.func26, Try.ntmps26
  have HB0 : Kp (Below w.heap.size w w) := ⟨Below.refl _ _⟩
  go_wp2_with fail
  refine (rchannel_any _ C hsm k _ (HC.out.below (below_al (below_al HB0.out _) _))).mono ?_
  rw [HCB.out]
  rintro e w1 ⟨rfl, hb⟩
  have q1 : Kp (w1.heap[w.heap.size]? = some (.cells #[.slice pa C.parts.length pc, .slice (some ⟨g, o, none⟩) C.chans.length cc, .int .i64 C.l0, .slice a0 C.w0.length c0, .int .i64 C.l1, .slice a1 C.w1.length c1] 29 (0, 0))) := ⟨blk_below (blk_al (blk_new _ _) _) hb⟩
  have r1 : Kp (w1.heap[w.heap.size + 1]? = some (.cells #[.int .i64 0, .int .i64 0] 49 (0, 0))) := ⟨blk_below (blk_at (w := (w.alloc (.cells #[.slice pa C.parts.length pc, .slice (some ⟨g, o, none⟩) C.chans.length cc, .int .i64 C.l0, .slice a0 C.w0.length c0, .int .i64 C.l1, .slice a1 C.w1.length c1] 29))) (by simp) _) hb⟩
  have HB1 : Kp (Below w.heap.size w w1) := ⟨below_call (below_al (below_al HB0.out _) _) hb⟩
  clear HB0 hb
  have qc0 : w1.cell? ⟨w.heap.size, 0, none⟩ = some (.slice pa C.parts.length pc) := (cell_blk q1.out 0).trans rfl
  have qc1 : w1.cell? ⟨w.heap.size, 1, none⟩ = some (.slice (some ⟨g, o, none⟩) C.chans.length cc) := (cell_blk q1.out 1).trans rfl
  have qc2 : w1.cell? ⟨w.heap.size, 2, none⟩ = some (.int .i64 C.l0) := (cell_blk q1.out 2).trans rfl
  have qc3 : w1.cell? ⟨w.heap.size, 3, none⟩ = some (.slice a0 C.w0.length c0) := (cell_blk q1.out 3).trans rfl
  have qc4 : w1.cell? ⟨w.heap.size, 4, none⟩ = some (.int .i64 C.l1) := (cell_blk q1.out 4).trans rfl
  have qc5 : w1.cell? ⟨w.heap.size, 5, none⟩ = some (.slice a1 C.w1.length c1) := (cell_blk q1.out 5).trans rfl
  have ql := blk_lt q1.out
  have rc0 : w1.cell? ⟨w.heap.size + 1, 0, none⟩ = some (.int .i64 0) := (cell_blk r1.out 0).trans rfl
  have rc1 : w1.cell? ⟨w.heap.size + 1, 1, none⟩ = some (.int .i64 0) := (cell_blk r1.out 1).trans rfl
  have rl := blk_lt r1.out
  have x0 : w1.cell? ⟨g, o + k * 7, none⟩ = some (.int .i64 x.kind) := (HB1.out.cell (p := ⟨g, o + k * 7, none⟩) hg).trans (HCU.out 0 (by omega))
  have x4 : w1.cell? ⟨g, o + k * 7 + 4, none⟩ = some (.int .i64 x.depth) := (HB1.out.cell (p := ⟨g, o + k * 7 + 4, none⟩) hg).trans (HCU.out 4 (by omega))
  have hgw : g < w1.heap.size := Nat.lt_of_lt_of_le hg HB1.out.size
  rw [HXK.out] at x0
  have rf0 : w1.frozen? ⟨w.heap.size + 1, 0, none⟩ = false := frozen_blk r1.out 0
  have rf1 : w1.frozen? ⟨w.heap.size + 1, 1, none⟩ = false := frozen_blk r1.out 1
  go_wp2
  exact bodyPost_ret (v := .agg #[.int .i64 0, .int .i64 0]) (results_cell_row rfl _ _ _ _ _ _ _ rfl ((blk_set (blk_set r1.out 0 _) 1 _).trans rfl) Try.underlying49 rfl (by kernel_rfl)) rfl ⟨zero_out HZ.out, (Below.setCell (Below.setCell HB1.out (p := ⟨w.heap.size + 1, 0, none⟩) (by show w.heap.size ≤ w.heap.size + 1; omega) _) (p := ⟨w.heap.size + 1, 1, none⟩) (by show w.heap.size ≤ w.heap.size + 1; omega) _)⟩

set_option maxRecDepth 100000 in
set_option maxHeartbeats 4000000 in
theorem rcell_big (cv : Value) (C : Cfg) (hsm : C.small) (ha : accB C = true) (k : Nat) (hk : k < C.chans.length) (i : Int) (hkd : (C.chans.getD k default).kind = 2) (hi : 0 ≤ i) (hd : (C.chans.getD k default).depth ≤ i) (w : World) (h : CfgAt w cv C) : Calls Try.prog 26 #[cv, .int .i64 k, .int .i64 i] w fun e w' => e = .returned (.agg #[.int .i64 (cellB C k i).1, .int .i64 (cellB C k i).2]) ∧ Below w.heap.size w w' := by
  have HC := Kp.mk h
  have HZ := Kp.mk (cellB_no C k i fun h => by have := h.2.2.2.2.2; rw [Int.toNat_natCast] at this; omega)
  have HCB : Kp (chanB C k = true) := ⟨by rw [chanB, decide_eq_true ⟨by omega, by omega⟩, ha]; rfl⟩
  have f1 : decide (i < 0) = false := decide_eq_false (by omega)
  obtain ⟨ho, pa, pc, ca, cc, a0, c0, a1, c1, rfl, bp, bc, b0, b1, hp, hc, hw0, hw1⟩ := h
  obtain ⟨g, o, rfl, hg, hcc⟩ := hc.at (by omega)
  obtain ⟨x, hx⟩ : ∃ x, C.chans[k] = x := ⟨_, rfl⟩
  have HXG : Kp (C.chans.getD k default = x) := ⟨by rw [getD_at _ _ _ (by omega), hx]⟩
  have hcu : ∀ j, j < 7 → w.cell? ⟨g, o + k * 7 + j, none⟩ = (chanC x)[j]? := fun j hj => by
    have h1 := hcc (k * 7 + j) (by omega)
    rw [flat_at chanC 7 chanC_len C.chans k j (by omega) hj, hx] at h1
    rw [Nat.add_assoc]
    exact h1
  have HCU := Kp.mk hcu
  have hk0 : (0 : Int) ≤ (k : Int) := by omega
  have hk1 : (k : Int) < (C.chans.length : Int) := by omega
  clear hcu hcc
  have HXK : Kp (x.kind = 2) := ⟨by rw [← hkd, HXG.out]⟩
  rw [HXG.out] at hd
  clear hx
  clear ho hp hc hw0 hw1
  go_enter Try.func26, Try.ntmps26
  have HB0 : Kp (Below w.heap.size w w) := ⟨Below.refl _ _⟩
  go_wp2_with fail
  refine (rchannel_any _ C hsm k _ (HC.out.below (below_al (below_al HB0.out _) _))).mono ?_
  rw [HCB.out]
  rintro e w1 ⟨rfl, hb⟩
  have q1 : Kp (w1.heap[w.heap.size]? = some (.cells #[.slice pa C.parts.length pc, .slice (some ⟨g, o, none⟩) C.chans.length cc, .int .i64 C.l0, .slice a0 C.w0.length c0, .int .i64 C.l1, .slice a1 C.w1.length c1] 29 (0, 0))) := ⟨blk_below (blk_al (blk_new _ _) _) hb⟩
  have r1 : Kp (w1.heap[w.heap.size + 1]? = some (.cells #[.int .i64 0, .int .i64 0] 49 (0, 0))) := ⟨blk_below (blk_at (w := (w.alloc (.cells #[.slice pa C.parts.length pc, .slice (some ⟨g, o, none⟩) C.chans.length cc, .int .i64 C.l0, .slice a0 C.w0.length c0, .int .i64 C.l1, .slice a1 C.w1.length c1] 29))) (by simp) _) hb⟩
  have HB1 : Kp (Below w.heap.size w w1) := ⟨below_call (below_al (below_al HB0.out _) _) hb⟩
  clear HB0 hb
  have qc0 : w1.cell? ⟨w.heap.size, 0, none⟩ = some (.slice pa C.parts.length pc) := (cell_blk q1.out 0).trans rfl
  have qc1 : w1.cell? ⟨w.heap.size, 1, none⟩ = some (.slice (some ⟨g, o, none⟩) C.chans.length cc) := (cell_blk q1.out 1).trans rfl
  have qc2 : w1.cell? ⟨w.heap.size, 2, none⟩ = some (.int .i64 C.l0) := (cell_blk q1.out 2).trans rfl
  have qc3 : w1.cell? ⟨w.heap.size, 3, none⟩ = some (.slice a0 C.w0.length c0) := (cell_blk q1.out 3).trans rfl
  have qc4 : w1.cell? ⟨w.heap.size, 4, none⟩ = some (.int .i64 C.l1) := (cell_blk q1.out 4).trans rfl
  have qc5 : w1.cell? ⟨w.heap.size, 5, none⟩ = some (.slice a1 C.w1.length c1) := (cell_blk q1.out 5).trans rfl
  have ql := blk_lt q1.out
  have rc0 : w1.cell? ⟨w.heap.size + 1, 0, none⟩ = some (.int .i64 0) := (cell_blk r1.out 0).trans rfl
  have rc1 : w1.cell? ⟨w.heap.size + 1, 1, none⟩ = some (.int .i64 0) := (cell_blk r1.out 1).trans rfl
  have rl := blk_lt r1.out
  have x0 : w1.cell? ⟨g, o + k * 7, none⟩ = some (.int .i64 x.kind) := (HB1.out.cell (p := ⟨g, o + k * 7, none⟩) hg).trans (HCU.out 0 (by omega))
  have x4 : w1.cell? ⟨g, o + k * 7 + 4, none⟩ = some (.int .i64 x.depth) := (HB1.out.cell (p := ⟨g, o + k * 7 + 4, none⟩) hg).trans (HCU.out 4 (by omega))
  have hgw : g < w1.heap.size := Nat.lt_of_lt_of_le hg HB1.out.size
  rw [HXK.out] at x0
  have rf0 : w1.frozen? ⟨w.heap.size + 1, 0, none⟩ = false := frozen_blk r1.out 0
  have rf1 : w1.frozen? ⟨w.heap.size + 1, 1, none⟩ = false := frozen_blk r1.out 1
  go_wp2
  exact bodyPost_ret (v := .agg #[.int .i64 0, .int .i64 0]) (results_cell_row rfl _ _ _ _ _ _ _ rfl ((blk_set (blk_set r1.out 0 _) 1 _).trans rfl) Try.underlying49 rfl (by kernel_rfl)) rfl ⟨zero_out HZ.out, (Below.setCell (Below.setCell HB1.out (p := ⟨w.heap.size + 1, 0, none⟩) (by show w.heap.size ≤ w.heap.size + 1; omega) _) (p := ⟨w.heap.size + 1, 1, none⟩) (by show w.heap.size ≤ w.heap.size + 1; omega) _)⟩

set_option maxRecDepth 100000 in
set_option maxHeartbeats 4000000 in
theorem rcell_yes (cv : Value) (C : Cfg) (hsm : C.small) (ha : accB C = true) (k : Nat) (hk : k < C.chans.length) (hkd : (C.chans.getD k default).kind = 2)  (i : Int) (hi : 0 ≤ i) (hd : i < (C.chans.getD k default).depth) (w : World) (h : CfgAt w cv C) : Calls Try.prog 26 #[cv, .int .i64 k, .int .i64 i] w fun e w' => e = .returned (.agg #[.int .i64 (cellB C k i).1, .int .i64 (cellB C k i).2]) ∧ Below w.heap.size w w' := by
  have HC := Kp.mk h
  have HS := Kp.mk (cellB_yes C k i ⟨ha, hk, hkd, hi, hd⟩)
  have hcs := chn_small ha (List.getElem_mem hk)
  have hbs := befC_small ha k
  have HCB : Kp (chanB C k = true) := ⟨by rw [chanB, decide_eq_true ⟨by omega, by omega⟩, ha]; rfl⟩
  have f1 : decide (i < 0) = false := decide_eq_false (by omega)
  obtain ⟨ho, pa, pc, ca, cc, a0, c0, a1, c1, rfl, bp, bc, b0, b1, hp, hc, hw0, hw1⟩ := h
  obtain ⟨g, o, rfl, hg, hcc⟩ := hc.at (by omega)
  obtain ⟨x, hx⟩ : ∃ x, C.chans[k] = x := ⟨_, rfl⟩
  have HXG : Kp (C.chans.getD k default = x) := ⟨by rw [getD_at _ _ _ (by omega), hx]⟩
  have hcu : ∀ j, j < 7 → w.cell? ⟨g, o + k * 7 + j, none⟩ = (chanC x)[j]? := fun j hj => by
    have h1 := hcc (k * 7 + j) (by omega)
    rw [flat_at chanC 7 chanC_len C.chans k j (by omega) hj, hx] at h1
    rw [Nat.add_assoc]
    exact h1
  have HCU := Kp.mk hcu
  have hk0 : (0 : Int) ≤ (k : Int) := by omega
  have hk1 : (k : Int) < (C.chans.length : Int) := by omega
  clear hcu hcc
  have HXK : Kp (x.kind = 2) := ⟨by rw [← hkd, HXG.out]⟩
  rw [hx] at hcs
  rw [HXG.out] at hd
  have f2 : decide (x.depth ≤ i) = false := decide_eq_false (by omega)
  obtain ⟨bf, hbf⟩ : ∃ bf, befC C k = bf := ⟨_, rfl⟩
  have HBF := Kp.mk hbf
  rw [hbf] at hbs
  obtain ⟨m, hm⟩ : ∃ m, i * (x.words + 1) = m := ⟨_, rfl⟩
  have hm1 : 0 ≤ m := hm ▸ Int.mul_nonneg hi (by omega)
  have hm2 : m ≤ 8 * 17 := hm ▸ Int.mul_le_mul (by omega) (by omega) (by omega) (by omega)
  have s2 : IntKind.i64.wrap (i * (x.words + 1)) = m := by rw [hm]; exact IntWalk.i64_in _ (by omega)
  have HS2 : Kp ((cellB C k i).1 = bf + (1 + m) ∧ (cellB C k i).2 = 1 + x.words) := ⟨by rw [HS.out, HXG.out, hbf, ← hm, Int.add_comm x.words 1]; exact ⟨rfl, rfl⟩⟩
  clear hx hbf hm
  clear ho hp hc hw0 hw1
  go_enter Try.func26, Try.ntmps26
  have HB0 : Kp (Below w.heap.size w w) := ⟨Below.refl _ _⟩
  go_wp2_with fail
  refine (rchannel_any _ C hsm k _ (HC.out.below (below_al (below_al HB0.out _) _))).mono ?_
  rw [HCB.out]
  rintro e w1 ⟨rfl, hb⟩
  have q1 : Kp (w1.heap[w.heap.size]? = some (.cells #[.slice pa C.parts.length pc, .slice (some ⟨g, o, none⟩) C.chans.length cc, .int .i64 C.l0, .slice a0 C.w0.length c0, .int .i64 C.l1, .slice a1 C.w1.length c1] 29 (0, 0))) := ⟨blk_below (blk_al (blk_new _ _) _) hb⟩
  have r1 : Kp (w1.heap[w.heap.size + 1]? = some (.cells #[.int .i64 0, .int .i64 0] 49 (0, 0))) := ⟨blk_below (blk_at (w := (w.alloc (.cells #[.slice pa C.parts.length pc, .slice (some ⟨g, o, none⟩) C.chans.length cc, .int .i64 C.l0, .slice a0 C.w0.length c0, .int .i64 C.l1, .slice a1 C.w1.length c1] 29))) (by simp) _) hb⟩
  have HB1 : Kp (Below w.heap.size w w1) := ⟨below_call (below_al (below_al HB0.out _) _) hb⟩
  clear HB0 hb
  have qc0 : w1.cell? ⟨w.heap.size, 0, none⟩ = some (.slice pa C.parts.length pc) := (cell_blk q1.out 0).trans rfl
  have qc1 : w1.cell? ⟨w.heap.size, 1, none⟩ = some (.slice (some ⟨g, o, none⟩) C.chans.length cc) := (cell_blk q1.out 1).trans rfl
  have qc2 : w1.cell? ⟨w.heap.size, 2, none⟩ = some (.int .i64 C.l0) := (cell_blk q1.out 2).trans rfl
  have qc3 : w1.cell? ⟨w.heap.size, 3, none⟩ = some (.slice a0 C.w0.length c0) := (cell_blk q1.out 3).trans rfl
  have qc4 : w1.cell? ⟨w.heap.size, 4, none⟩ = some (.int .i64 C.l1) := (cell_blk q1.out 4).trans rfl
  have qc5 : w1.cell? ⟨w.heap.size, 5, none⟩ = some (.slice a1 C.w1.length c1) := (cell_blk q1.out 5).trans rfl
  have ql := blk_lt q1.out
  have rc0 : w1.cell? ⟨w.heap.size + 1, 0, none⟩ = some (.int .i64 0) := (cell_blk r1.out 0).trans rfl
  have rc1 : w1.cell? ⟨w.heap.size + 1, 1, none⟩ = some (.int .i64 0) := (cell_blk r1.out 1).trans rfl
  have rl := blk_lt r1.out
  have x0 : w1.cell? ⟨g, o + k * 7, none⟩ = some (.int .i64 x.kind) := (HB1.out.cell (p := ⟨g, o + k * 7, none⟩) hg).trans (HCU.out 0 (by omega))
  have x3 : w1.cell? ⟨g, o + k * 7 + 3, none⟩ = some (.int .i64 x.words) := (HB1.out.cell (p := ⟨g, o + k * 7 + 3, none⟩) hg).trans (HCU.out 3 (by omega))
  have x4 : w1.cell? ⟨g, o + k * 7 + 4, none⟩ = some (.int .i64 x.depth) := (HB1.out.cell (p := ⟨g, o + k * 7 + 4, none⟩) hg).trans (HCU.out 4 (by omega))
  have hgw : g < w1.heap.size := Nat.lt_of_lt_of_le hg HB1.out.size
  rw [HXK.out] at x0
  go_wp2_with fail
  refine (rbefore_any _ C hsm ha k (by omega) _ (HC.out.below HB1.out)).mono ?_
  rw [HBF.out]
  rintro e w2 ⟨rfl, hb⟩
  have q2 : Kp (w2.heap[w.heap.size]? = some (.cells #[.slice pa C.parts.length pc, .slice (some ⟨g, o, none⟩) C.chans.length cc, .int .i64 C.l0, .slice a0 C.w0.length c0, .int .i64 C.l1, .slice a1 C.w1.length c1] 29 (0, 0))) := ⟨blk_below q1.out hb⟩
  have r2 : Kp (w2.heap[w.heap.size + 1]? = some (.cells #[.int .i64 0, .int .i64 0] 49 (0, 0))) := ⟨blk_below r1.out hb⟩
  have HB2 : Kp (Below w.heap.size w w2) := ⟨below_call HB1.out hb⟩
  clear qc0 qc1 qc2 qc3 qc4 qc5 ql rc0 rc1 rl q1 r1 HB1 hb
  have qc0 : w2.cell? ⟨w.heap.size, 0, none⟩ = some (.slice pa C.parts.length pc) := (cell_blk q2.out 0).trans rfl
  have qc1 : w2.cell? ⟨w.heap.size, 1, none⟩ = some (.slice (some ⟨g, o, none⟩) C.chans.length cc) := (cell_blk q2.out 1).trans rfl
  have qc2 : w2.cell? ⟨w.heap.size, 2, none⟩ = some (.int .i64 C.l0) := (cell_blk q2.out 2).trans rfl
  have qc3 : w2.cell? ⟨w.heap.size, 3, none⟩ = some (.slice a0 C.w0.length c0) := (cell_blk q2.out 3).trans rfl
  have qc4 : w2.cell? ⟨w.heap.size, 4, none⟩ = some (.int .i64 C.l1) := (cell_blk q2.out 4).trans rfl
  have qc5 : w2.cell? ⟨w.heap.size, 5, none⟩ = some (.slice a1 C.w1.length c1) := (cell_blk q2.out 5).trans rfl
  have ql := blk_lt q2.out
  have rc0 : w2.cell? ⟨w.heap.size + 1, 0, none⟩ = some (.int .i64 0) := (cell_blk r2.out 0).trans rfl
  have rc1 : w2.cell? ⟨w.heap.size + 1, 1, none⟩ = some (.int .i64 0) := (cell_blk r2.out 1).trans rfl
  have rl := blk_lt r2.out
  have rf0 : w2.frozen? ⟨w.heap.size + 1, 0, none⟩ = false := frozen_blk r2.out 0
  have rf1 : w2.frozen? ⟨w.heap.size + 1, 1, none⟩ = false := frozen_blk r2.out 1
  go_wp2
  exact bodyPost_ret (v := .agg #[_, _]) (results_cell_row rfl _ _ _ _ _ _ _ rfl ((blk_set (blk_set r2.out 0 _) 1 _).trans rfl) Try.underlying49 rfl (by kernel_rfl)) rfl ⟨ret_span (by rw [HS2.out.1]; omega) (by rw [HS2.out.2]; omega), (Below.setCell (Below.setCell HB2.out (p := ⟨w.heap.size + 1, 0, none⟩) (by show w.heap.size ≤ w.heap.size + 1; omega) _) (p := ⟨w.heap.size + 1, 1, none⟩) (by show w.heap.size ≤ w.heap.size + 1; omega) _)⟩

theorem rcell_any (cv : Value) (C : Cfg) (hsm : C.small) (k i : Int) (w : World) (h : CfgAt w cv C) : Calls Try.prog 26 #[cv, .int .i64 k, .int .i64 i] w fun e w' => e = .returned (.agg #[.int .i64 (cellB C k i).1, .int .i64 (cellB C k i).2]) ∧ Below w.heap.size w w' := by
  cases hch : chanB C k with
  | false => exact rcell_out cv C hsm k i hch w h
  | true =>
    obtain ⟨ha, h0, h1⟩ := chanB_yes hch
    obtain ⟨j, rfl⟩ := Int.eq_ofNat_of_zero_le h0
    have hj : j < C.chans.length := by omega
    by_cases hkd : (C.chans.getD j default).kind = 2
    · by_cases hi0 : i < 0
      · exact rcell_neg cv C hsm ha j hj i hkd hi0 w h
      · by_cases hd : i < (C.chans.getD j default).depth
        · exact rcell_yes cv C hsm ha j hj hkd i (by omega) hd w h
        · exact rcell_big cv C hsm ha j hj i hkd (by omega) (by omega) w h
    · exact rcell_kind cv C hsm ha j hj i hkd w h
end Go.Proofs.Ytpeajlponlmceaa

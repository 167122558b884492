/- Contracts: the port of a channel, by the reference; was a port made, by the reference. -/
import Derived.Test.YtdajadfgiifioaaDoorSgn2
namespace Go.Proofs.YtdajadfgiifioaaDoor
open Go.RowKit
set_option linter.unusedSimpArgs false
set_option linter.unusedVariables false

theorem mul2_wrap (n : Nat) (h : n ≤ 200) : wrap64 (2 * (n : Int)) = 2 * (n : Int) := by unfold wrap64; omega
theorem contains_snoc (l : List Int) (k : Nat) (hlt : k < l.length) (p : Int) : (l.take (k + 1)).contains p = ((l.take k).contains p || p == l[k]) := by
  rw [List.take_succ_eq_append_getElem hlt, Bool.eq_iff_iff, Bool.or_eq_true, beq_iff_eq]
  simp only [List.contains_iff_mem, List.mem_append, List.mem_singleton]

set_option maxRecDepth 100000 in
set_option maxHeartbeats 4000000 in
theorem rport_neg (cv : Value) (C : Cfg) (hsm : C.small) (p : Int) (hp0 : p < 0) (w : World) (h : CfgAt w cv C) : Calls Tryd.prog 13 #[cv, .int .i64 p] w fun e w' => e = .returned (.agg #[.int .i64 (portV C (p)).chan, .int .i64 (portV C (p)).part, .bool (portV C (p)).source, .bool (portV C (p)).is]) ∧ Below w.heap.size w w' := by
  have HC := Kp.mk h
  have HV := Kp.mk (portV_no C p (by simp [portB]; omega))
  obtain ⟨ho, pa, pc, ca, cc, a0, c0, a1, c1, rfl, bp, bc, b0, b1, hp, hc, hw0, hw1⟩ := h
  clear hp hw0 hw1
  have hs2 := hsm.2.1
  clear hc
  have hmw := mul2_wrap C.chans.length hs2
  go_enter Tryd.func13, Tryd.ntmps13
  have HB0 : Kp (Below w.heap.size w w) := ⟨Below.refl _ _⟩
  go_wp2
  exact bodyPost_ret (v := .agg #[.int .i64 0, .int .i64 0, .bool false, .bool false]) (results_cell_row rfl _ _ _ _ _ _ _ rfl (blk_at (w := (w.alloc (.cells #[.slice pa C.parts.length pc, .slice ca C.chans.length cc, .int .i64 C.l0, .slice a0 C.w0.length c0, .int .i64 C.l1, .slice a1 C.w1.length c1] 29))) (by simp) _) Tryd.underlying35 rfl (by kernel_rfl)) rfl ⟨(by rw [HV.out]), (below_al (below_al HB0.out _) _)⟩

set_option maxRecDepth 100000 in
set_option maxHeartbeats 4000000 in
theorem rport_big (cv : Value) (C : Cfg) (hsm : C.small) (p : Nat) (hp2 : 2 * C.chans.length ≤ p) (w : World) (h : CfgAt w cv C) : Calls Tryd.prog 13 #[cv, .int .i64 (p : Int)] w fun e w' => e = .returned (.agg #[.int .i64 (portV C ((p : Int))).chan, .int .i64 (portV C ((p : Int))).part, .bool (portV C ((p : Int))).source, .bool (portV C ((p : Int))).is]) ∧ Below w.heap.size w w' := by
  have HC := Kp.mk h
  have HV := Kp.mk (portV_no C p (by simp [portB]; omega))
  obtain ⟨ho, pa, pc, ca, cc, a0, c0, a1, c1, rfl, bp, bc, b0, b1, hp, hc, hw0, hw1⟩ := h
  clear hp hw0 hw1
  have hs2 := hsm.2.1
  clear hc
  have hmw := mul2_wrap C.chans.length hs2
  have hge : 2 * (C.chans.length : Int) ≤ (p : Int) := by omega
  have hp0 := nat_nn p
  clear hp2
  go_enter Tryd.func13, Tryd.ntmps13
  have HB0 : Kp (Below w.heap.size w w) := ⟨Below.refl _ _⟩
  go_wp2
  exact bodyPost_ret (v := .agg #[.int .i64 0, .int .i64 0, .bool false, .bool false]) (results_cell_row rfl _ _ _ _ _ _ _ rfl (blk_at (w := (w.alloc (.cells #[.slice pa C.parts.length pc, .slice ca C.chans.length cc, .int .i64 C.l0, .slice a0 C.w0.length c0, .int .i64 C.l1, .slice a1 C.w1.length c1] 29))) (by simp) _) Tryd.underlying35 rfl (by kernel_rfl)) rfl ⟨(by rw [HV.out]), (below_al (below_al HB0.out _) _)⟩

set_option maxRecDepth 100000 in
set_option maxHeartbeats 4000000 in
theorem rport_not (cv : Value) (C : Cfg) (hsm : C.small) (p : Nat) (hp2 : p < 2 * C.chans.length) (ha : accB C = false) (w : World) (h : CfgAt w cv C) : Calls Tryd.prog 13 #[cv, .int .i64 (p : Int)] w fun e w' => e = .returned (.agg #[.int .i64 (portV C ((p : Int))).chan, .int .i64 (portV C ((p : Int))).part, .bool (portV C ((p : Int))).source, .bool (portV C ((p : Int))).is]) ∧ Below w.heap.size w w' := by
  have HC := Kp.mk h
  have HV := Kp.mk (portV_no C p (by simp [portB, ha]))
  have HA := Kp.mk ha
  obtain ⟨ho, pa, pc, ca, cc, a0, c0, a1, c1, rfl, bp, bc, b0, b1, hp, hc, hw0, hw1⟩ := h
  clear hp hw0 hw1
  have hs2 := hsm.2.1
  clear hc ha
  have hmw := mul2_wrap C.chans.length hs2
  have hlt0 : (p : Int) < 2 * (C.chans.length : Int) := by omega
  have hp0 := nat_nn p
  clear hp2
  go_enter Tryd.func13, Tryd.ntmps13
  have HB0 : Kp (Below w.heap.size w w) := ⟨Below.refl _ _⟩
  go_wp2_with fail
  refine (refAccepts_any _ C hsm _ (HC.out.below (below_al (below_al HB0.out _) _))).mono ?_
  rw [HA.out]
  rintro e w1 ⟨rfl, hb⟩
  have q1 : Kp (w1.heap[w.heap.size]? = some (.cells #[.slice pa C.parts.length pc, .slice ca C.chans.length cc, .int .i64 C.l0, .slice a0 C.w0.length c0, .int .i64 C.l1, .slice a1 C.w1.length c1] 29 (0, 0))) := ⟨blk_below (blk_al (blk_new _ _) _) hb⟩
  have r1 : Kp (w1.heap[w.heap.size + 1]? = some (.cells #[.int .i64 0, .int .i64 0, .bool false, .bool false] 35 (0, 0))) := ⟨blk_below (blk_at (w := (w.alloc (.cells #[.slice pa C.parts.length pc, .slice ca C.chans.length cc, .int .i64 C.l0, .slice a0 C.w0.length c0, .int .i64 C.l1, .slice a1 C.w1.length c1] 29))) (by simp) _) hb⟩
  have HB1 : Kp (Below w.heap.size w w1) := ⟨below_call (below_al (below_al HB0.out _) _) hb⟩
  clear HB0 hb
  have qc0 : w1.cell? ⟨w.heap.size, 0, none⟩ = some (.slice pa C.parts.length pc) := (cell_blk q1.out 0).trans rfl
  have qc1 : w1.cell? ⟨w.heap.size, 1, none⟩ = some (.slice ca C.chans.length cc) := (cell_blk q1.out 1).trans rfl
  have qc2 : w1.cell? ⟨w.heap.size, 2, none⟩ = some (.int .i64 C.l0) := (cell_blk q1.out 2).trans rfl
  have qc3 : w1.cell? ⟨w.heap.size, 3, none⟩ = some (.slice a0 C.w0.length c0) := (cell_blk q1.out 3).trans rfl
  have qc4 : w1.cell? ⟨w.heap.size, 4, none⟩ = some (.int .i64 C.l1) := (cell_blk q1.out 4).trans rfl
  have qc5 : w1.cell? ⟨w.heap.size, 5, none⟩ = some (.slice a1 C.w1.length c1) := (cell_blk q1.out 5).trans rfl
  have ql := blk_lt q1.out
  have rc0 : w1.cell? ⟨w.heap.size + 1, 0, none⟩ = some (.int .i64 0) := (cell_blk r1.out 0).trans rfl
  have rc1 : w1.cell? ⟨w.heap.size + 1, 1, none⟩ = some (.int .i64 0) := (cell_blk r1.out 1).trans rfl
  have rc2 : w1.cell? ⟨w.heap.size + 1, 2, none⟩ = some (.bool false) := (cell_blk r1.out 2).trans rfl
  have rc3 : w1.cell? ⟨w.heap.size + 1, 3, none⟩ = some (.bool false) := (cell_blk r1.out 3).trans rfl
  have rl := blk_lt r1.out
  have rf0 : w1.frozen? ⟨w.heap.size + 1, 0, none⟩ = false := frozen_blk r1.out 0
  have rf1 : w1.frozen? ⟨w.heap.size + 1, 1, none⟩ = false := frozen_blk r1.out 1
  have rf2 : w1.frozen? ⟨w.heap.size + 1, 2, none⟩ = false := frozen_blk r1.out 2
  have rf3 : w1.frozen? ⟨w.heap.size + 1, 3, none⟩ = false := frozen_blk r1.out 3
  go_wp2
  exact bodyPost_ret (v := .agg #[.int .i64 0, .int .i64 0, .bool false, .bool false]) (results_cell_row rfl _ _ _ _ _ _ _ rfl ((blk_set (blk_set (blk_set (blk_set r1.out 0 _) 1 _) 2 _) 3 _).trans rfl) Tryd.underlying35 rfl (by kernel_rfl)) rfl ⟨(by rw [HV.out]), (Below.setCell (Below.setCell (Below.setCell (Below.setCell HB1.out (p := ⟨w.heap.size + 1, 0, none⟩) (by show w.heap.size ≤ w.heap.size + 1; omega) _) (p := ⟨w.heap.size + 1, 1, none⟩) (by show w.heap.size ≤ w.heap.size + 1; omega) _) (p := ⟨w.heap.size + 1, 2, none⟩) (by show w.heap.size ≤ w.heap.size + 1; omega) _) (p := ⟨w.heap.size + 1, 3, none⟩) (by show w.heap.size ≤ w.heap.size + 1; omega) _)⟩

set_option maxRecDepth 100000 in
set_option maxHeartbeats 4000000 in
theorem rport_even (cv : Value) (C : Cfg) (hsm : C.small) (k : Nat) (hk : k < C.chans.length) (ha : accB C = true) (w : World) (h : CfgAt w cv C) : Calls Tryd.prog 13 #[cv, .int .i64 ((2 * k : Nat) : Int)] w fun e w' => e = .returned (.agg #[.int .i64 (portV C (((2 * k : Nat) : Int))).chan, .int .i64 (portV C (((2 * k : Nat) : Int))).part, .bool (portV C (((2 * k : Nat) : Int))).source, .bool (portV C (((2 * k : Nat) : Int))).is]) ∧ Below w.heap.size w w' := by
  have HC := Kp.mk h
  have HV := Kp.mk (portV_even C k ha hk)
  have HA := Kp.mk ha
  obtain ⟨ho, pa, pc, ca, cc, a0, c0, a1, c1, rfl, bp, bc, b0, b1, hp, hc, hw0, hw1⟩ := h
  clear hp hw0 hw1
  have hs2 := hsm.2.1
  have HH := Kp.mk hc
  clear hc ha
  obtain ⟨p, hpp⟩ : ∃ p : Nat, 2 * k = p := ⟨_, rfl⟩
  have hq : Int.tdiv (p : Int) 2 = (k : Int) := by rw [Int.tdiv_eq_ediv_of_nonneg (by omega)]; omega
  have hm : Int.tmod (p : Int) 2 = 0 := by rw [Int.tmod_eq_emod_of_nonneg (by omega)]; omega
  have hp2 : p < 2 * C.chans.length := by omega
  rw [hpp] at HV ⊢
  have hmw := mul2_wrap C.chans.length hs2
  have hlt0 : (p : Int) < 2 * (C.chans.length : Int) := by omega
  have hp0 := nat_nn p
  have hlt : (k : Int) < (C.chans.length : Int) := by omega
  have hk0 := nat_nn k
  clear hpp hp2
  obtain ⟨g, o, rfl, hg, hcc⟩ := HH.out.at (by omega)
  obtain ⟨x, hx⟩ : ∃ x, C.chans[k] = x := ⟨_, rfl⟩
  have HK : Kp (∀ j, j < 7 → w.cell? ⟨g, o + k * 7 + j, none⟩ = (chanC x)[j]?) := ⟨fun j hj => by
    have h1 := hcc (k * 7 + j) (by omega)
    rw [flat_at chanC 7 chanC_len C.chans k j hk hj, hx] at h1
    rw [Nat.add_assoc]
    exact h1⟩
  rw [hx] at HV
  clear hcc hx
  go_enter Tryd.func13, Tryd.ntmps13
  have HB0 : Kp (Below w.heap.size w w) := ⟨Below.refl _ _⟩
  go_wp2_with fail
  refine (refAccepts_any _ C hsm _ (HC.out.below (below_al (below_al HB0.out _) _))).mono ?_
  rw [HA.out]
  rintro e w1 ⟨rfl, hb⟩
  have q1 : Kp (w1.heap[w.heap.size]? = some (.cells #[.slice pa C.parts.length pc, .slice (some ⟨g, o, none⟩) C.chans.length cc, .int .i64 C.l0, .slice a0 C.w0.length c0, .int .i64 C.l1, .slice a1 C.w1.length c1] 29 (0, 0))) := ⟨blk_below (blk_al (blk_new _ _) _) hb⟩
  have r1 : Kp (w1.heap[w.heap.size + 1]? = some (.cells #[.int .i64 0, .int .i64 0, .bool false, .bool false] 35 (0, 0))) := ⟨blk_below (blk_at (w := (w.alloc (.cells #[.slice pa C.parts.length pc, .slice (some ⟨g, o, none⟩) C.chans.length cc, .int .i64 C.l0, .slice a0 C.w0.length c0, .int .i64 C.l1, .slice a1 C.w1.length c1] 29))) (by simp) _) hb⟩
  have HB1 : Kp (Below w.heap.size w w1) := ⟨below_call (below_al (below_al HB0.out _) _) hb⟩
  clear HB0 hb
  have qc0 : w1.cell? ⟨w.heap.size, 0, none⟩ = some (.slice pa C.parts.length pc) := (cell_blk q1.out 0).trans rfl
  have qc1 : w1.cell? ⟨w.heap.size, 1, none⟩ = some (.slice (some ⟨g, o, none⟩) C.chans.length cc) := (cell_blk q1.out 1).trans rfl
  have qc2 : w1.cell? ⟨w.heap.size, 2, none⟩ = some (.int .i64 C.l0) := (cell_blk q1.out 2).trans rfl
  have qc3 : w1.cell? ⟨w.heap.size, 3, none⟩ = some (.slice a0 C.w0.length c0) := (cell_blk q1.out 3).trans rfl
  have qc4 : w1.cell? ⟨w.heap.size, 4, none⟩ = some (.int .i64 C.l1) := (cell_blk q1.out 4).trans rfl
  have qc5 : w1.cell? ⟨w.heap.size, 5, none⟩ = some (.slice a1 C.w1.length c1) := (cell_blk q1.out 5).trans rfl
  have ql := blk_lt q1.out
  have rc0 : w1.cell? ⟨w.heap.size + 1, 0, none⟩ = some (.int .i64 0) := (cell_blk r1.out 0).trans rfl
  have rc1 : w1.cell? ⟨w.heap.size + 1, 1, none⟩ = some (.int .i64 0) := (cell_blk r1.out 1).trans rfl
  have rc2 : w1.cell? ⟨w.heap.size + 1, 2, none⟩ = some (.bool false) := (cell_blk r1.out 2).trans rfl
  have rc3 : w1.cell? ⟨w.heap.size + 1, 3, none⟩ = some (.bool false) := (cell_blk r1.out 3).trans rfl
  have rl := blk_lt r1.out
  have e0 : w1.cell? ⟨g, o + k * 7, none⟩ = some (.int .i64 x.kind) := (HB1.out.cell (p := ⟨g, o + k * 7, none⟩) hg).trans (HK.out 0 (by omega))
  have e1 : w1.cell? ⟨g, o + k * 7 + 1, none⟩ = some (.int .i64 x.frm) := (HB1.out.cell (p := ⟨g, o + k * 7 + 1, none⟩) hg).trans (HK.out 1 (by omega))
  have e2 : w1.cell? ⟨g, o + k * 7 + 2, none⟩ = some (.int .i64 x.to) := (HB1.out.cell (p := ⟨g, o + k * 7 + 2, none⟩) hg).trans (HK.out 2 (by omega))
  have e3 : w1.cell? ⟨g, o + k * 7 + 3, none⟩ = some (.int .i64 x.words) := (HB1.out.cell (p := ⟨g, o + k * 7 + 3, none⟩) hg).trans (HK.out 3 (by omega))
  have e4 : w1.cell? ⟨g, o + k * 7 + 4, none⟩ = some (.int .i64 x.depth) := (HB1.out.cell (p := ⟨g, o + k * 7 + 4, none⟩) hg).trans (HK.out 4 (by omega))
  have e5 : w1.cell? ⟨g, o + k * 7 + 5, none⟩ = some (.int .i64 x.period) := (HB1.out.cell (p := ⟨g, o + k * 7 + 5, none⟩) hg).trans (HK.out 5 (by omega))
  have e6 : w1.cell? ⟨g, o + k * 7 + 6, none⟩ = some (.int .u32 x.boot) := (HB1.out.cell (p := ⟨g, o + k * 7 + 6, none⟩) hg).trans (HK.out 6 (by omega))
  have rf0 : w1.frozen? ⟨w.heap.size + 1, 0, none⟩ = false := frozen_blk r1.out 0
  have rf1 : w1.frozen? ⟨w.heap.size + 1, 1, none⟩ = false := frozen_blk r1.out 1
  have rf2 : w1.frozen? ⟨w.heap.size + 1, 2, none⟩ = false := frozen_blk r1.out 2
  have rf3 : w1.frozen? ⟨w.heap.size + 1, 3, none⟩ = false := frozen_blk r1.out 3
  go_wp2
  exact bodyPost_ret (v := .agg #[.int .i64 (k : Int), .int .i64 x.frm, .bool true, .bool true]) (results_cell_row rfl _ _ _ _ _ _ _ rfl ((blk_set (blk_set (blk_set (blk_set r1.out 0 _) 1 _) 2 _) 3 _).trans rfl) Tryd.underlying35 rfl (by kernel_rfl)) rfl ⟨(by rw [HV.out]), (Below.setCell (Below.setCell (Below.setCell (Below.setCell HB1.out (p := ⟨w.heap.size + 1, 0, none⟩) (by show w.heap.size ≤ w.heap.size + 1; omega) _) (p := ⟨w.heap.size + 1, 1, none⟩) (by show w.heap.size ≤ w.heap.size + 1; omega) _) (p := ⟨w.heap.size + 1, 2, none⟩) (by show w.heap.size ≤ w.heap.size + 1; omega) _) (p := ⟨w.heap.size + 1, 3, none⟩) (by show w.heap.size ≤ w.heap.size + 1; omega) _)⟩

set_option maxRecDepth 100000 in
set_option maxHeartbeats 4000000 in
theorem rport_odd (cv : Value) (C : Cfg) (hsm : C.small) (k : Nat) (hk : k < C.chans.length) (ha : accB C = true) (w : World) (h : CfgAt w cv C) : Calls Tryd.prog 13 #[cv, .int .i64 ((2 * k + 1 : Nat) : Int)] w fun e w' => e = .returned (.agg #[.int .i64 (portV C (((2 * k + 1 : Nat) : Int))).chan, .int .i64 (portV C (((2 * k + 1 : Nat) : Int))).part, .bool (portV C (((2 * k + 1 : Nat) : Int))).source, .bool (portV C (((2 * k + 1 : Nat) : Int))).is]) ∧ Below w.heap.size w w' := by
  have HC := Kp.mk h
  have HV := Kp.mk (portV_odd C k ha hk)
  have HA := Kp.mk ha
  obtain ⟨ho, pa, pc, ca, cc, a0, c0, a1, c1, rfl, bp, bc, b0, b1, hp, hc, hw0, hw1⟩ := h
  clear hp hw0 hw1
  have hs2 := hsm.2.1
  have HH := Kp.mk hc
  clear hc ha
  obtain ⟨p, hpp⟩ : ∃ p : Nat, 2 * k + 1 = p := ⟨_, rfl⟩
  have hq : Int.tdiv (p : Int) 2 = (k : Int) := by rw [Int.tdiv_eq_ediv_of_nonneg (by omega)]; omega
  have hm : Int.tmod (p : Int) 2 = 1 := by rw [Int.tmod_eq_emod_of_nonneg (by omega)]; omega
  have hp2 : p < 2 * C.chans.length := by omega
  rw [hpp] at HV ⊢
  have hmw := mul2_wrap C.chans.length hs2
  have hlt0 : (p : Int) < 2 * (C.chans.length : Int) := by omega
  have hp0 := nat_nn p
  have hlt : (k : Int) < (C.chans.length : Int) := by omega
  have hk0 := nat_nn k
  clear hpp hp2
  obtain ⟨g, o, rfl, hg, hcc⟩ := HH.out.at (by omega)
  obtain ⟨x, hx⟩ : ∃ x, C.chans[k] = x := ⟨_, rfl⟩
  have HK : Kp (∀ j, j < 7 → w.cell? ⟨g, o + k * 7 + j, none⟩ = (chanC x)[j]?) := ⟨fun j hj => by
    have h1 := hcc (k * 7 + j) (by omega)
    rw [flat_at chanC 7 chanC_len C.chans k j hk hj, hx] at h1
    rw [Nat.add_assoc]
    exact h1⟩
  rw [hx] at HV
  clear hcc hx
  go_enter Tryd.func13, Tryd.ntmps13
  have HB0 : Kp (Below w.heap.size w w) := ⟨Below.refl _ _⟩
  go_wp2_with fail
  refine (refAccepts_any _ C hsm _ (HC.out.below (below_al (below_al HB0.out _) _))).mono ?_
  rw [HA.out]
  rintro e w1 ⟨rfl, hb⟩
  have q1 : Kp (w1.heap[w.heap.size]? = some (.cells #[.slice pa C.parts.length pc, .slice (some ⟨g, o, none⟩) C.chans.length cc, .int .i64 C.l0, .slice a0 C.w0.length c0, .int .i64 C.l1, .slice a1 C.w1.length c1] 29 (0, 0))) := ⟨blk_below (blk_al (blk_new _ _) _) hb⟩
  have r1 : Kp (w1.heap[w.heap.size + 1]? = some (.cells #[.int .i64 0, .int .i64 0, .bool false, .bool false] 35 (0, 0))) := ⟨blk_below (blk_at (w := (w.alloc (.cells #[.slice pa C.parts.length pc, .slice (some ⟨g, o, none⟩) C.chans.length cc, .int .i64 C.l0, .slice a0 C.w0.length c0, .int .i64 C.l1, .slice a1 C.w1.length c1] 29))) (by simp) _) hb⟩
  have HB1 : Kp (Below w.heap.size w w1) := ⟨below_call (below_al (below_al HB0.out _) _) hb⟩
  clear HB0 hb
  have qc0 : w1.cell? ⟨w.heap.size, 0, none⟩ = some (.slice pa C.parts.length pc) := (cell_blk q1.out 0).trans rfl
  have qc1 : w1.cell? ⟨w.heap.size, 1, none⟩ = some (.slice (some ⟨g, o, none⟩) C.chans.length cc) := (cell_blk q1.out 1).trans rfl
  have qc2 : w1.cell? ⟨w.heap.size, 2, none⟩ = some (.int .i64 C.l0) := (cell_blk q1.out 2).trans rfl
  have qc3 : w1.cell? ⟨w.heap.size, 3, none⟩ = some (.slice a0 C.w0.length c0) := (cell_blk q1.out 3).trans rfl
  have qc4 : w1.cell? ⟨w.heap.size, 4, none⟩ = some (.int .i64 C.l1) := (cell_blk q1.out 4).trans rfl
  have qc5 : w1.cell? ⟨w.heap.size, 5, none⟩ = some (.slice a1 C.w1.length c1) := (cell_blk q1.out 5).trans rfl
  have ql := blk_lt q1.out
  have rc0 : w1.cell? ⟨w.heap.size + 1, 0, none⟩ = some (.int .i64 0) := (cell_blk r1.out 0).trans rfl
  have rc1 : w1.cell? ⟨w.heap.size + 1, 1, none⟩ = some (.int .i64 0) := (cell_blk r1.out 1).trans rfl
  have rc2 : w1.cell? ⟨w.heap.size + 1, 2, none⟩ = some (.bool false) := (cell_blk r1.out 2).trans rfl
  have rc3 : w1.cell? ⟨w.heap.size + 1, 3, none⟩ = some (.bool false) := (cell_blk r1.out 3).trans rfl
  have rl := blk_lt r1.out
  have e0 : w1.cell? ⟨g, o + k * 7, none⟩ = some (.int .i64 x.kind) := (HB1.out.cell (p := ⟨g, o + k * 7, none⟩) hg).trans (HK.out 0 (by omega))
  have e1 : w1.cell? ⟨g, o + k * 7 + 1, none⟩ = some (.int .i64 x.frm) := (HB1.out.cell (p := ⟨g, o + k * 7 + 1, none⟩) hg).trans (HK.out 1 (by omega))
  have e2 : w1.cell? ⟨g, o + k * 7 + 2, none⟩ = some (.int .i64 x.to) := (HB1.out.cell (p := ⟨g, o + k * 7 + 2, none⟩) hg).trans (HK.out 2 (by omega))
  have e3 : w1.cell? ⟨g, o + k * 7 + 3, none⟩ = some (.int .i64 x.words) := (HB1.out.cell (p := ⟨g, o + k * 7 + 3, none⟩) hg).trans (HK.out 3 (by omega))
  have e4 : w1.cell? ⟨g, o + k * 7 + 4, none⟩ = some (.int .i64 x.depth) := (HB1.out.cell (p := ⟨g, o + k * 7 + 4, none⟩) hg).trans (HK.out 4 (by omega))
  have e5 : w1.cell? ⟨g, o + k * 7 + 5, none⟩ = some (.int .i64 x.period) := (HB1.out.cell (p := ⟨g, o + k * 7 + 5, none⟩) hg).trans (HK.out 5 (by omega))
  have e6 : w1.cell? ⟨g, o + k * 7 + 6, none⟩ = some (.int .u32 x.boot) := (HB1.out.cell (p := ⟨g, o + k * 7 + 6, none⟩) hg).trans (HK.out 6 (by omega))
  have rf0 : w1.frozen? ⟨w.heap.size + 1, 0, none⟩ = false := frozen_blk r1.out 0
  have rf1 : w1.frozen? ⟨w.heap.size + 1, 1, none⟩ = false := frozen_blk r1.out 1
  have rf2 : w1.frozen? ⟨w.heap.size + 1, 2, none⟩ = false := frozen_blk r1.out 2
  have rf3 : w1.frozen? ⟨w.heap.size + 1, 3, none⟩ = false := frozen_blk r1.out 3
  go_wp2
  exact bodyPost_ret (v := .agg #[.int .i64 (k : Int), .int .i64 x.to, .bool false, .bool true]) (results_cell_row rfl _ _ _ _ _ _ _ rfl ((blk_set (blk_set (blk_set (blk_set r1.out 0 _) 1 _) 2 _) 3 _).trans rfl) Tryd.underlying35 rfl (by kernel_rfl)) rfl ⟨(by rw [HV.out]), (Below.setCell (Below.setCell (Below.setCell (Below.setCell HB1.out (p := ⟨w.heap.size + 1, 0, none⟩) (by show w.heap.size ≤ w.heap.size + 1; omega) _) (p := ⟨w.heap.size + 1, 1, none⟩) (by show w.heap.size ≤ w.heap.size + 1; omega) _) (p := ⟨w.heap.size + 1, 2, none⟩) (by show w.heap.size ≤ w.heap.size + 1; omega) _) (p := ⟨w.heap.size + 1, 3, none⟩) (by show w.heap.size ≤ w.heap.size + 1; omega) _)⟩

theorem rport_any (cv : Value) (C : Cfg) (hsm : C.small) (p : Int) (w : World) (h : CfgAt w cv C) : Calls Tryd.prog 13 #[cv, .int .i64 p] w fun e w' => e = .returned (.agg #[.int .i64 (portV C (p)).chan, .int .i64 (portV C (p)).part, .bool (portV C (p)).source, .bool (portV C (p)).is]) ∧ Below w.heap.size w w' := by
  by_cases h0 : p < 0
  · exact rport_neg cv C hsm p h0 w h
  · obtain ⟨p, rfl⟩ := Int.eq_ofNat_of_zero_le (show 0 ≤ p by omega)
    by_cases h1 : 2 * C.chans.length ≤ p
    · exact rport_big cv C hsm p h1 w h
    · cases ha : accB C with
      | false => exact rport_not cv C hsm p (by omega) ha w h
      | true =>
        obtain ⟨k, rfl | rfl⟩ : ∃ k, p = 2 * k ∨ p = 2 * k + 1 := ⟨p / 2, by omega⟩
        · exact rport_even cv C hsm k (by omega) ha w h
        · exact rport_odd cv C hsm k (by omega) ha w h

/-- Was a port made? -/
theorem rmade_any (sv : Value) (S : Std) (p : Int) (hm : S.made.length ≤ 100) (w : World) (h : StdAt w sv S) : Calls Tryd.prog 32 #[sv, .int .i64 p] w fun e w' => e = .returned (.bool (S.made.contains p)) ∧ Below w.heap.size w w' := by
  obtain ⟨ho, ma, mc, va, vc, rfl, b1, b2, h1, h2⟩ := h
  have H1 := Kp.mk h1
  obtain ⟨l, hl⟩ : ∃ l, S.made = l := ⟨_, rfl⟩
  rw [hl] at H1 hm ⊢
  clear h1 h2 hl
  go_enter Tryd.func32, Tryd.ntmps32
  go_wp2_with fail
  go_loopw [5] (fun i wr => ∃ k : Nat, k ≤ l.length ∧ i = .int .i64 k ∧ Kp (Below w.heap.size w wr) ∧ Kp (wr.heap[w.heap.size]? = some (.cells #[.int .i64 S.part, .bool S.normal, .slice ma l.length mc, .slice va S.valid.length vc] 40 (0, 0))) ∧ Kp ((l.take k).contains p = false)) (fun i wr => l.length - (intOf i).toNat)
  case atStart => exact ⟨0, Nat.zero_le _, rfl, ⟨below_al (Below.refl _ _) _⟩, ⟨blk_new _ _⟩, ⟨rfl⟩⟩
  case round =>
    obtain ⟨k, hk, rfl, HB, HQ, HN⟩ := hrel
    have q0 : wr.cell? ⟨w.heap.size, 2, none⟩ = some (.slice ma l.length mc) := (cell_blk HQ.out 2).trans rfl
    have ql := blk_lt HQ.out
    by_cases hlt : k < l.length
    · obtain ⟨g, o, rfl, hg, hc⟩ := H1.out.at (by omega)
      have e0 : wr.cell? ⟨g, o + k, none⟩ = some (.int .i64 l[k]) := (HB.out.cell (p := ⟨g, o + k, none⟩) hg).trans ((hc k (by omega)).trans (by simp [hlt]))
      have HT : Kp ((l.take (k + 1)).contains p = ((l.take k).contains p || p == l[k])) := ⟨contains_snoc l k hlt p⟩
      have HM : Kp (l[k] ∈ l) := ⟨List.getElem_mem hlt⟩
      clear hc
      obtain ⟨y, hy⟩ : ∃ y, l[k] = y := ⟨_, rfl⟩
      rw [hy] at e0 HT HM
      clear hy
      by_cases hq : y = p
      · have HV : Kp (l.contains p = true) := ⟨by rw [← hq]; simpa using HM.out⟩
        have hqb : (y == p) = true := by simpa using hq
        clear hq
        go_wp2
        go_ret
        exact ⟨by rw [HV.out]; rfl, HB.out⟩
      · have hqb : (y == p) = false := by simpa using hq
        have HN1 : Kp ((l.take (k + 1)).contains p = false) := ⟨by rw [HT.out, HN.out]; simp; exact fun h => hq h.symm⟩
        clear hq
        go_wp2
        go_roundw
        case rel => exact ⟨k + 1, by omega, by go_num, HB, HQ, HN1⟩
        case measure => simp [intOf]; omega
    · obtain rfl : k = l.length := by omega
      have HV : Kp (l.contains p = false) := ⟨by have h := HN.out; rwa [List.take_length] at h⟩
      go_wp2
      go_ret
      exact ⟨by rw [HV.out]; rfl, HB.out⟩
end Go.Proofs.YtdajadfgiifioaaDoor

/- Contracts: the port of a channel, by the program and by the reference. -/
import Derived.Test.YtdajadfgiifioaaDoorSgn1
namespace Go.Proofs.YtdajadfgiifioaaDoor
open Go.RowKit
set_option linter.unusedSimpArgs false
set_option linter.unusedVariables false

theorem portV_no (C : Cfg) (p : Int) (h : portB C p = false) : portV C p = ⟨0, 0, false, false⟩ := by rw [portV, if_neg (by simp [h])]
theorem portV_even (C : Cfg) (k : Nat) (ha : accB C = true) (hk : k < C.chans.length) : portV C ((2 * k : Nat) : Int) = ⟨k, C.chans[k].frm, true, true⟩ := by
  have h1 : portB C ((2 * k : Nat) : Int) = true := by simp [portB, ha]; omega
  rw [portV, if_pos h1, if_pos (by omega), show ((2 * k : Nat) : Int) / 2 = (k : Int) by omega, chnAt, Int.toNat_natCast, List.getD_eq_getElem?_getD, List.getElem?_eq_getElem hk]
  rfl
theorem portV_odd (C : Cfg) (k : Nat) (ha : accB C = true) (hk : k < C.chans.length) : portV C ((2 * k + 1 : Nat) : Int) = ⟨k, C.chans[k].to, false, true⟩ := by
  have h1 : portB C ((2 * k + 1 : Nat) : Int) = true := by simp [portB, ha]; omega
  rw [portV, if_pos h1, if_neg (by omega), show ((2 * k + 1 : Nat) : Int) / 2 = (k : Int) by omega, chnAt, Int.toNat_natCast, List.getD_eq_getElem?_getD, List.getElem?_eq_getElem hk]
  rfl
theorem tdiv_half (p : Nat) : Int.tdiv (p : Int) 2 = ((p / 2 : Nat) : Int) := by rw [Int.tdiv_eq_ediv_of_nonneg (by omega)]; omega
theorem half_ge (p q n : Nat) (h : p / 2 = q) (hp : 2 * n ≤ p) : (n : Int) ≤ q ∧ n ≤ q := by omega
theorem half_lt (p q n : Nat) (h : p / 2 = q) (hp : p < 2 * n) : (q : Int) < (n : Int) ∧ q < n := by omega
theorem half_wrap (p q : Nat) (h : p / 2 = q) (ip : I64 p) : wrap64 (q : Int) = (q : Int) := by
  have := ip.le
  unfold wrap64
  omega
theorem nat_nn (p : Nat) : (0 : Int) ≤ (p : Int) := by omega

set_option maxRecDepth 100000 in
set_option maxHeartbeats 4000000 in
theorem port_neg (cv : Value) (C : Cfg) (hsm : C.small) (p : Int) (hp0 : p < 0) (w : World) (h : CfgAt w cv C) : Calls Tryd.prog 12 #[cv, .int .i64 p] w fun e w' => e = .returned (.tuple #[.int .i64 (portV C (p)).chan, .int .i64 (portV C (p)).part, .bool (portV C (p)).source, .bool (portV C (p)).is]) ∧ Below w.heap.size w w' := by
  have HC := Kp.mk h
  have HV := Kp.mk (portV_no C p (by simp [portB]; omega))
  obtain ⟨ho, pa, pc, ca, cc, a0, c0, a1, c1, rfl, bp, bc, b0, b1, hp, hc, hw0, hw1⟩ := h
  clear hp hw0 hw1
  have hs2 := hsm.2.1
  clear hc
  go_enter Tryd.func12, Tryd.ntmps12
  go_wp2
  (try simp only [Exit.inBlock, Exit.then])
  refine bodyPost_ret (results_tmp4 rfl _ _ _) rfl ?_
  exact ⟨by rw [HV.out]; rfl, (by repeat (first | exact Below.refl _ _ | apply below_al))⟩

set_option maxRecDepth 100000 in
set_option maxHeartbeats 4000000 in
theorem port_big (cv : Value) (C : Cfg) (hsm : C.small) (p : Nat) (ip : I64 p) (hp2 : 2 * C.chans.length ≤ p) (w : World) (h : CfgAt w cv C) : Calls Tryd.prog 12 #[cv, .int .i64 (p : Int)] w fun e w' => e = .returned (.tuple #[.int .i64 (portV C ((p : Int))).chan, .int .i64 (portV C ((p : Int))).part, .bool (portV C ((p : Int))).source, .bool (portV C ((p : Int))).is]) ∧ Below w.heap.size w w' := by
  have HC := Kp.mk h
  have HV := Kp.mk (portV_no C p (by simp [portB]; omega))
  obtain ⟨ho, pa, pc, ca, cc, a0, c0, a1, c1, rfl, bp, bc, b0, b1, hp, hc, hw0, hw1⟩ := h
  clear hp hw0 hw1
  have hs2 := hsm.2.1
  clear hc
  have hq := tdiv_half p
  obtain ⟨q, hqq⟩ : ∃ q, p / 2 = q := ⟨_, rfl⟩
  rw [hqq] at hq
  have hge := (half_ge p q _ hqq hp2).1
  have hwr := half_wrap p q hqq ip
  have hge2 := (half_ge p q _ hqq hp2).2
  have hp0 := nat_nn p
  clear hqq hp2 hs2 ip
  go_enter Tryd.func12, Tryd.ntmps12
  go_wp2
  (try simp only [Exit.inBlock, Exit.then])
  refine bodyPost_ret (results_tmp4 rfl _ _ _) rfl ?_
  exact ⟨by rw [HV.out]; rfl, (by repeat (first | exact Below.refl _ _ | apply below_al))⟩

set_option maxRecDepth 100000 in
set_option maxHeartbeats 4000000 in
theorem port_not (cv : Value) (C : Cfg) (hsm : C.small) (p : Nat) (hp2 : p < 2 * C.chans.length) (ha : accB C = false) (w : World) (h : CfgAt w cv C) : Calls Tryd.prog 12 #[cv, .int .i64 (p : Int)] w fun e w' => e = .returned (.tuple #[.int .i64 (portV C ((p : Int))).chan, .int .i64 (portV C ((p : Int))).part, .bool (portV C ((p : Int))).source, .bool (portV C ((p : Int))).is]) ∧ Below w.heap.size w w' := by
  have HC := Kp.mk h
  have HV := Kp.mk (portV_no C p (by simp [portB, ha]))
  have HA : Kp ((firstB C == 0) = false) := ⟨(accB_first C).trans ha⟩
  obtain ⟨ho, pa, pc, ca, cc, a0, c0, a1, c1, rfl, bp, bc, b0, b1, hp, hc, hw0, hw1⟩ := h
  clear hp hw0 hw1
  have hs2 := hsm.2.1
  clear hc ha
  have hq := tdiv_half p
  obtain ⟨q, hqq⟩ : ∃ q, p / 2 = q := ⟨_, rfl⟩
  rw [hqq] at hq
  have hlt := (half_lt p q _ hqq hp2).1
  have hlt2 := (half_lt p q _ hqq hp2).2
  have hq0 := nat_nn q
  have hp0 := nat_nn p
  clear hqq hp2
  go_enter Tryd.func12, Tryd.ntmps12
  have HB0 : Kp (Below w.heap.size w w) := ⟨Below.refl _ _⟩
  go_wp2_with fail
  refine (accepts_any _ C hsm _ (HC.out.below (below_al HB0.out _))).mono ?_
  rw [HA.out]
  rintro e w1 ⟨rfl, hb⟩
  have q1 : Kp (w1.heap[w.heap.size]? = some (.cells #[.slice pa C.parts.length pc, .slice ca C.chans.length cc, .int .i64 C.l0, .slice a0 C.w0.length c0, .int .i64 C.l1, .slice a1 C.w1.length c1] 29 (0, 0))) := ⟨blk_below (blk_new _ _) hb⟩
  have HB1 : Kp (Below w.heap.size w w1) := ⟨below_call (below_al HB0.out _) hb⟩
  clear HB0 hb
  have qc0 : w1.cell? ⟨w.heap.size, 0, none⟩ = some (.slice pa C.parts.length pc) := (cell_blk q1.out 0).trans rfl
  have qc1 : w1.cell? ⟨w.heap.size, 1, none⟩ = some (.slice ca C.chans.length cc) := (cell_blk q1.out 1).trans rfl
  have qc2 : w1.cell? ⟨w.heap.size, 2, none⟩ = some (.int .i64 C.l0) := (cell_blk q1.out 2).trans rfl
  have qc3 : w1.cell? ⟨w.heap.size, 3, none⟩ = some (.slice a0 C.w0.length c0) := (cell_blk q1.out 3).trans rfl
  have qc4 : w1.cell? ⟨w.heap.size, 4, none⟩ = some (.int .i64 C.l1) := (cell_blk q1.out 4).trans rfl
  have qc5 : w1.cell? ⟨w.heap.size, 5, none⟩ = some (.slice a1 C.w1.length c1) := (cell_blk q1.out 5).trans rfl
  have ql := blk_lt q1.out
  go_wp2
  (try simp only [Exit.inBlock, Exit.then])
  refine bodyPost_ret (results_tmp4 rfl _ _ _) rfl ?_
  exact ⟨by rw [HV.out]; rfl, HB1.out⟩

set_option maxRecDepth 100000 in
set_option maxHeartbeats 4000000 in
theorem port_even (cv : Value) (C : Cfg) (hsm : C.small) (k : Nat) (hk : k < C.chans.length) (ha : accB C = true) (w : World) (h : CfgAt w cv C) : Calls Tryd.prog 12 #[cv, .int .i64 ((2 * k : Nat) : Int)] w fun e w' => e = .returned (.tuple #[.int .i64 (portV C (((2 * k : Nat) : Int))).chan, .int .i64 (portV C (((2 * k : Nat) : Int))).part, .bool (portV C (((2 * k : Nat) : Int))).source, .bool (portV C (((2 * k : Nat) : Int))).is]) ∧ Below w.heap.size w w' := by
  have HC := Kp.mk h
  have HV := Kp.mk (portV_even C k ha hk)
  have HA : Kp ((firstB C == 0) = true) := ⟨(accB_first C).trans ha⟩
  obtain ⟨ho, pa, pc, ca, cc, a0, c0, a1, c1, rfl, bp, bc, b0, b1, hp, hc, hw0, hw1⟩ := h
  clear hp hw0 hw1
  have hs2 := hsm.2.1
  have HH := Kp.mk hc
  clear hc ha
  obtain ⟨p, hpp⟩ : ∃ p : Nat, 2 * k = p := ⟨_, rfl⟩
  have hq : Int.tdiv (p : Int) 2 = (k : Int) := by rw [Int.tdiv_eq_ediv_of_nonneg (by omega)]; omega
  have hm : Int.tmod (p : Int) 2 = 0 := by rw [Int.tmod_eq_emod_of_nonneg (by omega)]; omega
  rw [hpp] at HV ⊢
  have hlt : (k : Int) < (C.chans.length : Int) := by omega
  have hk0 : (0 : Int) ≤ (k : Int) := by omega
  have hp0 : (0 : Int) ≤ (p : Int) := by omega
  clear hpp
  obtain ⟨g, o, rfl, hg, hcc⟩ := HH.out.at (by omega)
  obtain ⟨x, hx⟩ : ∃ x, C.chans[k] = x := ⟨_, rfl⟩
  have HK : Kp (∀ j, j < 7 → w.cell? ⟨g, o + k * 7 + j, none⟩ = (chanC x)[j]?) := ⟨fun j hj => by
    have h1 := hcc (k * 7 + j) (by omega)
    rw [flat_at chanC 7 chanC_len C.chans k j hk hj, hx] at h1
    rw [Nat.add_assoc]
    exact h1⟩
  rw [hx] at HV
  clear hcc hx
  go_enter Tryd.func12, Tryd.ntmps12
  have HB0 : Kp (Below w.heap.size w w) := ⟨Below.refl _ _⟩
  go_wp2_with fail
  refine (accepts_any _ C hsm _ (HC.out.below (below_al HB0.out _))).mono ?_
  rw [HA.out]
  rintro e w1 ⟨rfl, hb⟩
  have q1 : Kp (w1.heap[w.heap.size]? = some (.cells #[.slice pa C.parts.length pc, .slice (some ⟨g, o, none⟩) C.chans.length cc, .int .i64 C.l0, .slice a0 C.w0.length c0, .int .i64 C.l1, .slice a1 C.w1.length c1] 29 (0, 0))) := ⟨blk_below (blk_new _ _) hb⟩
  have HB1 : Kp (Below w.heap.size w w1) := ⟨below_call (below_al HB0.out _) hb⟩
  clear HB0 hb
  have qc0 : w1.cell? ⟨w.heap.size, 0, none⟩ = some (.slice pa C.parts.length pc) := (cell_blk q1.out 0).trans rfl
  have qc1 : w1.cell? ⟨w.heap.size, 1, none⟩ = some (.slice (some ⟨g, o, none⟩) C.chans.length cc) := (cell_blk q1.out 1).trans rfl
  have qc2 : w1.cell? ⟨w.heap.size, 2, none⟩ = some (.int .i64 C.l0) := (cell_blk q1.out 2).trans rfl
  have qc3 : w1.cell? ⟨w.heap.size, 3, none⟩ = some (.slice a0 C.w0.length c0) := (cell_blk q1.out 3).trans rfl
  have qc4 : w1.cell? ⟨w.heap.size, 4, none⟩ = some (.int .i64 C.l1) := (cell_blk q1.out 4).trans rfl
  have qc5 : w1.cell? ⟨w.heap.size, 5, none⟩ = some (.slice a1 C.w1.length c1) := (cell_blk q1.out 5).trans rfl
  have ql := blk_lt q1.out
  have e0 : w1.cell? ⟨g, o + k * 7, none⟩ = some (.int .i64 x.kind) := (HB1.out.cell (p := ⟨g, o + k * 7, none⟩) hg).trans (HK.out 0 (by omega))
  have e1 : w1.cell? ⟨g, o + k * 7 + 1, none⟩ = some (.int .i64 x.frm) := (HB1.out.cell (p := ⟨g, o + k * 7 + 1, none⟩) hg).trans (HK.out 1 (by omega))
  have e2 : w1.cell? ⟨g, o + k * 7 + 2, none⟩ = some (.int .i64 x.to) := (HB1.out.cell (p := ⟨g, o + k * 7 + 2, none⟩) hg).trans (HK.out 2 (by omega))
  have e3 : w1.cell? ⟨g, o + k * 7 + 3, none⟩ = some (.int .i64 x.words) := (HB1.out.cell (p := ⟨g, o + k * 7 + 3, none⟩) hg).trans (HK.out 3 (by omega))
  have e4 : w1.cell? ⟨g, o + k * 7 + 4, none⟩ = some (.int .i64 x.depth) := (HB1.out.cell (p := ⟨g, o + k * 7 + 4, none⟩) hg).trans (HK.out 4 (by omega))
  have e5 : w1.cell? ⟨g, o + k * 7 + 5, none⟩ = some (.int .i64 x.period) := (HB1.out.cell (p := ⟨g, o + k * 7 + 5, none⟩) hg).trans (HK.out 5 (by omega))
  have e6 : w1.cell? ⟨g, o + k * 7 + 6, none⟩ = some (.int .u32 x.boot) := (HB1.out.cell (p := ⟨g, o + k * 7 + 6, none⟩) hg).trans (HK.out 6 (by omega))
  go_wp2_with fail
  go_quiet (fail)
  go_wp2
  (try simp only [Exit.inBlock, Exit.then])
  refine bodyPost_ret (results_tmp4 rfl _ _ _) rfl ?_
  exact ⟨by rw [HV.out]; rfl, by first | exact below_drN (below_al HB1.out _) | exact below_al (below_drN HB1.out) _⟩

set_option maxRecDepth 100000 in
set_option maxHeartbeats 4000000 in
theorem port_odd (cv : Value) (C : Cfg) (hsm : C.small) (k : Nat) (hk : k < C.chans.length) (ha : accB C = true) (w : World) (h : CfgAt w cv C) : Calls Tryd.prog 12 #[cv, .int .i64 ((2 * k + 1 : Nat) : Int)] w fun e w' => e = .returned (.tuple #[.int .i64 (portV C (((2 * k + 1 : Nat) : Int))).chan, .int .i64 (portV C (((2 * k + 1 : Nat) : Int))).part, .bool (portV C (((2 * k + 1 : Nat) : Int))).source, .bool (portV C (((2 * k + 1 : Nat) : Int))).is]) ∧ Below w.heap.size w w' := by
  have HC := Kp.mk h
  have HV := Kp.mk (portV_odd C k ha hk)
  have HA : Kp ((firstB C == 0) = true) := ⟨(accB_first C).trans ha⟩
  obtain ⟨ho, pa, pc, ca, cc, a0, c0, a1, c1, rfl, bp, bc, b0, b1, hp, hc, hw0, hw1⟩ := h
  clear hp hw0 hw1
  have hs2 := hsm.2.1
  have HH := Kp.mk hc
  clear hc ha
  obtain ⟨p, hpp⟩ : ∃ p : Nat, 2 * k + 1 = p := ⟨_, rfl⟩
  have hq : Int.tdiv (p : Int) 2 = (k : Int) := by rw [Int.tdiv_eq_ediv_of_nonneg (by omega)]; omega
  have hm : Int.tmod (p : Int) 2 = 1 := by rw [Int.tmod_eq_emod_of_nonneg (by omega)]; omega
  rw [hpp] at HV ⊢
  have hlt : (k : Int) < (C.chans.length : Int) := by omega
  have hk0 : (0 : Int) ≤ (k : Int) := by omega
  have hp0 : (0 : Int) ≤ (p : Int) := by omega
  clear hpp
  obtain ⟨g, o, rfl, hg, hcc⟩ := HH.out.at (by omega)
  obtain ⟨x, hx⟩ : ∃ x, C.chans[k] = x := ⟨_, rfl⟩
  have HK : Kp (∀ j, j < 7 → w.cell? ⟨g, o + k * 7 + j, none⟩ = (chanC x)[j]?) := ⟨fun j hj => by
    have h1 := hcc (k * 7 + j) (by omega)
    rw [flat_at chanC 7 chanC_len C.chans k j hk hj, hx] at h1
    rw [Nat.add_assoc]
    exact h1⟩
  rw [hx] at HV
  clear hcc hx
  go_enter Tryd.func12, Tryd.ntmps12
  have HB0 : Kp (Below w.heap.size w w) := ⟨Below.refl _ _⟩
  go_wp2_with fail
  refine (accepts_any _ C hsm _ (HC.out.below (below_al HB0.out _))).mono ?_
  rw [HA.out]
  rintro e w1 ⟨rfl, hb⟩
  have q1 : Kp (w1.heap[w.heap.size]? = some (.cells #[.slice pa C.parts.length pc, .slice (some ⟨g, o, none⟩) C.chans.length cc, .int .i64 C.l0, .slice a0 C.w0.length c0, .int .i64 C.l1, .slice a1 C.w1.length c1] 29 (0, 0))) := ⟨blk_below (blk_new _ _) hb⟩
  have HB1 : Kp (Below w.heap.size w w1) := ⟨below_call (below_al HB0.out _) hb⟩
  clear HB0 hb
  have qc0 : w1.cell? ⟨w.heap.size, 0, none⟩ = some (.slice pa C.parts.length pc) := (cell_blk q1.out 0).trans rfl
  have qc1 : w1.cell? ⟨w.heap.size, 1, none⟩ = some (.slice (some ⟨g, o, none⟩) C.chans.length cc) := (cell_blk q1.out 1).trans rfl
  have qc2 : w1.cell? ⟨w.heap.size, 2, none⟩ = some (.int .i64 C.l0) := (cell_blk q1.out 2).trans rfl
  have qc3 : w1.cell? ⟨w.heap.size, 3, none⟩ = some (.slice a0 C.w0.length c0) := (cell_blk q1.out 3).trans rfl
  have qc4 : w1.cell? ⟨w.heap.size, 4, none⟩ = some (.int .i64 C.l1) := (cell_blk q1.out 4).trans rfl
  have qc5 : w1.cell? ⟨w.heap.size, 5, none⟩ = some (.slice a1 C.w1.length c1) := (cell_blk q1.out 5).trans rfl
  have ql := blk_lt q1.out
  have e0 : w1.cell? ⟨g, o + k * 7, none⟩ = some (.int .i64 x.kind) := (HB1.out.cell (p := ⟨g, o + k * 7, none⟩) hg).trans (HK.out 0 (by omega))
  have e1 : w1.cell? ⟨g, o + k * 7 + 1, none⟩ = some (.int .i64 x.frm) := (HB1.out.cell (p := ⟨g, o + k * 7 + 1, none⟩) hg).trans (HK.out 1 (by omega))
  have e2 : w1.cell? ⟨g, o + k * 7 + 2, none⟩ = some (.int .i64 x.to) := (HB1.out.cell (p := ⟨g, o + k * 7 + 2, none⟩) hg).trans (HK.out 2 (by omega))
  have e3 : w1.cell? ⟨g, o + k * 7 + 3, none⟩ = some (.int .i64 x.words) := (HB1.out.cell (p := ⟨g, o + k * 7 + 3, none⟩) hg).trans (HK.out 3 (by omega))
  have e4 : w1.cell? ⟨g, o + k * 7 + 4, none⟩ = some (.int .i64 x.depth) := (HB1.out.cell (p := ⟨g, o + k * 7 + 4, none⟩) hg).trans (HK.out 4 (by omega))
  have e5 : w1.cell? ⟨g, o + k * 7 + 5, none⟩ = some (.int .i64 x.period) := (HB1.out.cell (p := ⟨g, o + k * 7 + 5, none⟩) hg).trans (HK.out 5 (by omega))
  have e6 : w1.cell? ⟨g, o + k * 7 + 6, none⟩ = some (.int .u32 x.boot) := (HB1.out.cell (p := ⟨g, o + k * 7 + 6, none⟩) hg).trans (HK.out 6 (by omega))
  go_wp2_with fail
  go_quiet (fail)
  go_wp2
  (try simp only [Exit.inBlock, Exit.then])
  refine bodyPost_ret (results_tmp4 rfl _ _ _) rfl ?_
  exact ⟨by rw [HV.out]; rfl, by first | exact below_drN (below_al HB1.out _) | exact below_al (below_drN HB1.out) _⟩

theorem port_any (cv : Value) (C : Cfg) (hsm : C.small) (p : Int) (ip : I64 p) (w : World) (h : CfgAt w cv C) : Calls Tryd.prog 12 #[cv, .int .i64 p] w fun e w' => e = .returned (.tuple #[.int .i64 (portV C (p)).chan, .int .i64 (portV C (p)).part, .bool (portV C (p)).source, .bool (portV C (p)).is]) ∧ Below w.heap.size w w' := by
  by_cases h0 : p < 0
  · exact port_neg cv C hsm p h0 w h
  · obtain ⟨p, rfl⟩ := Int.eq_ofNat_of_zero_le (show 0 ≤ p by omega)
    by_cases h1 : 2 * C.chans.length ≤ p
    · exact port_big cv C hsm p ip h1 w h
    · cases ha : accB C with
      | false => exact port_not cv C hsm p (by omega) ha w h
      | true =>
        obtain ⟨k, rfl | rfl⟩ : ∃ k, p = 2 * k ∨ p = 2 * k + 1 := ⟨p / 2, by omega⟩
        · exact port_even cv C hsm k (by omega) ha w h
        · exact port_odd cv C hsm k (by omega) ha w h
end Go.Proofs.YtdajadfgiifioaaDoor

/- Contracts of the layout's reference: spans. -/
import Derived.Test.YtmidcnfmphlneaaGreatQ19
namespace Go.Proofs.YtmidcnfmphlneaaGreat
open Go.RowKit
set_option linter.unusedSimpArgs false
set_option linter.unusedVariables false
set_option maxRecDepth 100000 in
set_option maxHeartbeats 4000000 in
theorem rprivate_no (cv : Value) (C : Cfg) (hsm : C.small) (ha : accB C = false) (k : Int) (w : World) (h : CfgAt w cv C) : Calls Tryz.prog 46 #[cv, .int .i64 k] w fun e w' => e = .returned (.agg #[.int .i64 (privB C k).1, .int .i64 (privB C k).2]) ∧ Below w.heap.size w w' := by
  have HC := Kp.mk h
  have HZ := Kp.mk (privB_no C k fun h => by rw [ha] at h; cases h.1)
  obtain ⟨ho, pa, pc, ca, cc, a0, c0, a1, c1, rfl, bp, bc, b0, b1, hp, hc, hw0, hw1⟩ := h
  clear ho hp hc hw0 hw1
  go_enter Tryz.func46, Tryz.ntmps46
  have HB0 : Kp (Below w.heap.size w w) := ⟨Below.refl _ _⟩
  go_wp2_with fail
  refine (refAccepts_any _ C hsm _ (HC.out.below (below_al (below_al HB0.out _) _))).mono ?_
  rw [ha]
  rintro e w1 ⟨rfl, hb⟩
  have q1 : Kp (w1.heap[w.heap.size]? = some (.cells #[.slice pa C.parts.length pc, .slice ca C.chans.length cc, .int .i64 C.l0, .slice a0 C.w0.length c0, .int .i64 C.l1, .slice a1 C.w1.length c1] 31 (0, 0))) := ⟨blk_below (blk_al (blk_new _ _) _) hb⟩
  have r1 : Kp (w1.heap[w.heap.size + 1]? = some (.cells #[.int .i64 0, .int .i64 0] 105 (0, 0))) := ⟨blk_below (blk_at (w := (w.alloc (.cells #[.slice pa C.parts.length pc, .slice ca C.chans.length cc, .int .i64 C.l0, .slice a0 C.w0.length c0, .int .i64 C.l1, .slice a1 C.w1.length c1] 31))) (by simp) _) hb⟩
  have HB1 : Kp (Below w.heap.size w w1) := ⟨below_call (below_al (below_al HB0.out _) _) hb⟩
  clear HB0 hb
  have qc0 := cbk q1.out 0 (.slice pa C.parts.length pc) rfl
  have qc1 := cbk q1.out 1 (.slice ca C.chans.length cc) rfl
  have qc2 := cbk q1.out 2 (.int .i64 C.l0) rfl
  have qc3 := cbk q1.out 3 (.slice a0 C.w0.length c0) rfl
  have qc4 := cbk q1.out 4 (.int .i64 C.l1) rfl
  have qc5 := cbk q1.out 5 (.slice a1 C.w1.length c1) rfl
  have ql := blk_lt q1.out
  have rc0 := cbk r1.out 0 (.int .i64 0) rfl
  have rc1 := cbk r1.out 1 (.int .i64 0) rfl
  have rl := blk_lt r1.out
  have rf0 := frozen_blk r1.out 0
  have rf1 := frozen_blk r1.out 1
  go_wp2
  exact bodyPost_ret (v := .agg #[.int .i64 0, .int .i64 0]) (results_cell_row rfl _ _ _ _ _ _ _ rfl ((blk_set (blk_set r1.out 0 _) 1 _).trans rfl) Tryz.underlying105 rfl (by kernel_rfl)) rfl ⟨zero_out HZ.out, (Below.setCell (Below.setCell HB1.out (p := ⟨w.heap.size + 1, 0, none⟩) (by show w.heap.size ≤ w.heap.size + 1; omega) _) (p := ⟨w.heap.size + 1, 1, none⟩) (by show w.heap.size ≤ w.heap.size + 1; omega) _)⟩
set_option maxRecDepth 100000 in
set_option maxHeartbeats 4000000 in
theorem rprivate_neg (cv : Value) (C : Cfg) (hsm : C.small) (ha : accB C = true) (k : Int) (hk : k < 0) (w : World) (h : CfgAt w cv C) : Calls Tryz.prog 46 #[cv, .int .i64 k] w fun e w' => e = .returned (.agg #[.int .i64 (privB C k).1, .int .i64 (privB C k).2]) ∧ Below w.heap.size w w' := by
  have HC := Kp.mk h
  have HZ := Kp.mk (privB_no C k fun h => by omega)
  obtain ⟨ho, pa, pc, ca, cc, a0, c0, a1, c1, rfl, bp, bc, b0, b1, hp, hc, hw0, hw1⟩ := h
  clear ho hp hc hw0 hw1
  go_enter Tryz.func46, Tryz.ntmps46
  have HB0 : Kp (Below w.heap.size w w) := ⟨Below.refl _ _⟩
  go_wp2_with fail
  refine (refAccepts_any _ C hsm _ (HC.out.below (below_al (below_al HB0.out _) _))).mono ?_
  rw [ha]
  rintro e w1 ⟨rfl, hb⟩
  have q1 : Kp (w1.heap[w.heap.size]? = some (.cells #[.slice pa C.parts.length pc, .slice ca C.chans.length cc, .int .i64 C.l0, .slice a0 C.w0.length c0, .int .i64 C.l1, .slice a1 C.w1.length c1] 31 (0, 0))) := ⟨blk_below (blk_al (blk_new _ _) _) hb⟩
  have r1 : Kp (w1.heap[w.heap.size + 1]? = some (.cells #[.int .i64 0, .int .i64 0] 105 (0, 0))) := ⟨blk_below (blk_at (w := (w.alloc (.cells #[.slice pa C.parts.length pc, .slice ca C.chans.length cc, .int .i64 C.l0, .slice a0 C.w0.length c0, .int .i64 C.l1, .slice a1 C.w1.length c1] 31))) (by simp) _) hb⟩
  have HB1 : Kp (Below w.heap.size w w1) := ⟨below_call (below_al (below_al HB0.out _) _) hb⟩
  clear HB0 hb
  have qc0 := cbk q1.out 0 (.slice pa C.parts.length pc) rfl
  have qc1 := cbk q1.out 1 (.slice ca C.chans.length cc) rfl
  have qc2 := cbk q1.out 2 (.int .i64 C.l0) rfl
  have qc3 := cbk q1.out 3 (.slice a0 C.w0.length c0) rfl
  have qc4 := cbk q1.out 4 (.int .i64 C.l1) rfl
  have qc5 := cbk q1.out 5 (.slice a1 C.w1.length c1) rfl
  have ql := blk_lt q1.out
  have rc0 := cbk r1.out 0 (.int .i64 0) rfl
  have rc1 := cbk r1.out 1 (.int .i64 0) rfl
  have rl := blk_lt r1.out
  have rf0 := frozen_blk r1.out 0
  have rf1 := frozen_blk r1.out 1
  go_wp2
  exact bodyPost_ret (v := .agg #[.int .i64 0, .int .i64 0]) (results_cell_row rfl _ _ _ _ _ _ _ rfl ((blk_set (blk_set r1.out 0 _) 1 _).trans rfl) Tryz.underlying105 rfl (by kernel_rfl)) rfl ⟨zero_out HZ.out, (Below.setCell (Below.setCell HB1.out (p := ⟨w.heap.size + 1, 0, none⟩) (by show w.heap.size ≤ w.heap.size + 1; omega) _) (p := ⟨w.heap.size + 1, 1, none⟩) (by show w.heap.size ≤ w.heap.size + 1; omega) _)⟩
set_option maxRecDepth 100000 in
set_option maxHeartbeats 4000000 in
theorem rprivate_big (cv : Value) (C : Cfg) (hsm : C.small) (ha : accB C = true) (k : Int) (h0 : 0 ≤ k) (hk : (C.parts.length : Int) ≤ k) (w : World) (h : CfgAt w cv C) : Calls Tryz.prog 46 #[cv, .int .i64 k] w fun e w' => e = .returned (.agg #[.int .i64 (privB C k).1, .int .i64 (privB C k).2]) ∧ Below w.heap.size w w' := by
  have HC := Kp.mk h
  have HZ := Kp.mk (privB_no C k fun h => by omega)
  have h1 : decide (k < 0) = false := decide_eq_false (by omega)
  obtain ⟨ho, pa, pc, ca, cc, a0, c0, a1, c1, rfl, bp, bc, b0, b1, hp, hc, hw0, hw1⟩ := h
  clear ho hp hc hw0 hw1
  go_enter Tryz.func46, Tryz.ntmps46
  have HB0 : Kp (Below w.heap.size w w) := ⟨Below.refl _ _⟩
  go_wp2_with fail
  refine (refAccepts_any _ C hsm _ (HC.out.below (below_al (below_al HB0.out _) _))).mono ?_
  rw [ha]
  rintro e w1 ⟨rfl, hb⟩
  have q1 : Kp (w1.heap[w.heap.size]? = some (.cells #[.slice pa C.parts.length pc, .slice ca C.chans.length cc, .int .i64 C.l0, .slice a0 C.w0.length c0, .int .i64 C.l1, .slice a1 C.w1.length c1] 31 (0, 0))) := ⟨blk_below (blk_al (blk_new _ _) _) hb⟩
  have r1 : Kp (w1.heap[w.heap.size + 1]? = some (.cells #[.int .i64 0, .int .i64 0] 105 (0, 0))) := ⟨blk_below (blk_at (w := (w.alloc (.cells #[.slice pa C.parts.length pc, .slice ca C.chans.length cc, .int .i64 C.l0, .slice a0 C.w0.length c0, .int .i64 C.l1, .slice a1 C.w1.length c1] 31))) (by simp) _) hb⟩
  have HB1 : Kp (Below w.heap.size w w1) := ⟨below_call (below_al (below_al HB0.out _) _) hb⟩
  clear HB0 hb
  have qc0 := cbk q1.out 0 (.slice pa C.parts.length pc) rfl
  have qc1 := cbk q1.out 1 (.slice ca C.chans.length cc) rfl
  have qc2 := cbk q1.out 2 (.int .i64 C.l0) rfl
  have qc3 := cbk q1.out 3 (.slice a0 C.w0.length c0) rfl
  have qc4 := cbk q1.out 4 (.int .i64 C.l1) rfl
  have qc5 := cbk q1.out 5 (.slice a1 C.w1.length c1) rfl
  have ql := blk_lt q1.out
  have rc0 := cbk r1.out 0 (.int .i64 0) rfl
  have rc1 := cbk r1.out 1 (.int .i64 0) rfl
  have rl := blk_lt r1.out
  have rf0 := frozen_blk r1.out 0
  have rf1 := frozen_blk r1.out 1
  go_wp2
  exact bodyPost_ret (v := .agg #[.int .i64 0, .int .i64 0]) (results_cell_row rfl _ _ _ _ _ _ _ rfl ((blk_set (blk_set r1.out 0 _) 1 _).trans rfl) Tryz.underlying105 rfl (by kernel_rfl)) rfl ⟨zero_out HZ.out, (Below.setCell (Below.setCell HB1.out (p := ⟨w.heap.size + 1, 0, none⟩) (by show w.heap.size ≤ w.heap.size + 1; omega) _) (p := ⟨w.heap.size + 1, 1, none⟩) (by show w.heap.size ≤ w.heap.size + 1; omega) _)⟩
set_option maxRecDepth 100000 in
set_option maxHeartbeats 4000000 in
theorem rprivate_yes (cv : Value) (C : Cfg) (hsm : C.small) (ha : accB C = true) (k : Nat) (hk : k < C.parts.length) (w : World) (h : CfgAt w cv C) : Calls Tryz.prog 46 #[cv, .int .i64 k] w fun e w' => e = .returned (.agg #[.int .i64 (privB C k).1, .int .i64 (privB C k).2]) ∧ Below w.heap.size w w' := by
  have HC := Kp.mk h
  have HS : Kp (privB C k = (privS C k, C.parts[k].2)) := ⟨by rw [privB, if_pos ⟨ha, by omega, by omega⟩, Int.toNat_natCast, getD_at _ _ _ hk]⟩
  have h1 : decide ((k : Int) < 0) = false := decide_eq_false (by omega)
  have h2 : decide ((C.parts.length : Int) ≤ (k : Int)) = false := decide_eq_false (by omega)
  have h3 : decide (C.parts.length ≤ k) = false := decide_eq_false (by omega)
  have hs1 := hsm.1
  obtain ⟨ho, pa, pc, ca, cc, a0, c0, a1, c1, rfl, bp, bc, b0, b1, hp, hc, hw0, hw1⟩ := h
  have HP := Kp.mk hp
  clear ho hp hc hw0 hw1
  go_enter Tryz.func46, Tryz.ntmps46
  have HB0 : Kp (Below w.heap.size w w) := ⟨Below.refl _ _⟩
  go_wp2_with fail
  refine (refAccepts_any _ C hsm _ (HC.out.below (below_al (below_al HB0.out _) _))).mono ?_
  rw [ha]
  rintro e w1 ⟨rfl, hb⟩
  have q1 : Kp (w1.heap[w.heap.size]? = some (.cells #[.slice pa C.parts.length pc, .slice ca C.chans.length cc, .int .i64 C.l0, .slice a0 C.w0.length c0, .int .i64 C.l1, .slice a1 C.w1.length c1] 31 (0, 0))) := ⟨blk_below (blk_al (blk_new _ _) _) hb⟩
  have r1 : Kp (w1.heap[w.heap.size + 1]? = some (.cells #[.int .i64 0, .int .i64 0] 105 (0, 0))) := ⟨blk_below (blk_at (w := (w.alloc (.cells #[.slice pa C.parts.length pc, .slice ca C.chans.length cc, .int .i64 C.l0, .slice a0 C.w0.length c0, .int .i64 C.l1, .slice a1 C.w1.length c1] 31))) (by simp) _) hb⟩
  have HB1 : Kp (Below w.heap.size w w1) := ⟨below_call (below_al (below_al HB0.out _) _) hb⟩
  clear HB0 hb
  have qc0 := cbk q1.out 0 (.slice pa C.parts.length pc) rfl
  have qc1 := cbk q1.out 1 (.slice ca C.chans.length cc) rfl
  have qc2 := cbk q1.out 2 (.int .i64 C.l0) rfl
  have qc3 := cbk q1.out 3 (.slice a0 C.w0.length c0) rfl
  have qc4 := cbk q1.out 4 (.int .i64 C.l1) rfl
  have qc5 := cbk q1.out 5 (.slice a1 C.w1.length c1) rfl
  have ql := blk_lt q1.out
  have rc0 := cbk r1.out 0 (.int .i64 0) rfl
  have rc1 := cbk r1.out 1 (.int .i64 0) rfl
  have rl := blk_lt r1.out
  go_wp2_with fail
  clear qc0 qc1 qc2 qc3 qc4 qc5 ql rc0 rc1 rl
  go_loopw [5, 6] (fun n i wr => ∃ j : Nat, j ≤ k ∧ i = .int .i64 j ∧ n = .int .i64 (privS C j) ∧ Kp (Below w.heap.size w wr) ∧ Kp (wr.heap[w.heap.size]? = some (.cells #[.slice pa C.parts.length pc, .slice ca C.chans.length cc, .int .i64 C.l0, .slice a0 C.w0.length c0, .int .i64 C.l1, .slice a1 C.w1.length c1] 31 (0, 0))) ∧ Kp (wr.heap[w.heap.size + 1]? = some (.cells #[.int .i64 0, .int .i64 0] 105 (0, 0)))) (fun n i wr => k - (intOf i).toNat)
  case atStart => exact ⟨0, Nat.zero_le _, rfl, rfl, HB1, q1, r1⟩
  case round =>
    obtain ⟨j, hj, rfl, rfl, HB, HK, HR⟩ := hrel
    have q0 := cbk HK.out 0 (.slice pa C.parts.length pc) rfl
    have q1 := cbk HK.out 1 (.slice ca C.chans.length cc) rfl
    have lq := blk_lt HK.out
    by_cases hlt : j < k
    · have HNS := Kp.mk (privS_succ C j (by omega))
      have hps := privS_small ha j
      have hps2 := part_small ha j (by omega)
      obtain ⟨g, o, ha', hg, hcc⟩ := HP.out.at (by omega)
      obtain ⟨x, hx⟩ : ∃ x, C.parts[j] = x := ⟨_, rfl⟩
      have e1 : wr.cell? ⟨g, o + j * 2 + 1, none⟩ = some (.int .i64 x.2) := by
        have h1 := hcc (j * 2 + 1) (by omega)
        rw [flat_at partC 2 partC_len C.parts j 1 (by omega) (by omega), hx] at h1
        exact (HB.out.cell (p := ⟨g, o + (j * 2 + 1), none⟩) hg).trans h1
      subst ha'
      rw [hx] at HNS hps2
      obtain ⟨ps, hps'⟩ : ∃ ps, privS C j = ps := ⟨_, rfl⟩
      rw [hps'] at hps ⊢
      have HPS := Kp.mk hps'
      have hgr : g < wr.heap.size := Nat.lt_of_lt_of_le hg HB.out.size
      have hj0 : (0 : Int) ≤ (j : Int) := by omega
      have hj1 : (j : Int) < (C.parts.length : Int) := by omega
      clear hcc hx hps'
      go_wp2
      go_roundw
      case rel => exact ⟨j + 1, by omega, by go_num, by rw [HNS.out, HPS.out], HB, HK, HR⟩
      case measure => simp [intOf]; omega
    · obtain rfl : j = k := by omega
      obtain ⟨g, o, ha', hg, hcc⟩ := HP.out.at (by omega)
      obtain ⟨x, hx⟩ : ∃ x, C.parts[j] = x := ⟨_, rfl⟩
      have e1 : wr.cell? ⟨g, o + j * 2 + 1, none⟩ = some (.int .i64 x.2) := by
        have h1 := hcc (j * 2 + 1) (by omega)
        rw [flat_at partC 2 partC_len C.parts j 1 (by omega) (by omega), hx] at h1
        exact (HB.out.cell (p := ⟨g, o + (j * 2 + 1), none⟩) hg).trans h1
      subst ha'
      have HSX : Kp (privB C j = (privS C j, x.2)) := ⟨by rw [HS.out, hx]⟩
      have z0 := frozen_blk HR.out 0
      have z1 := frozen_blk HR.out 1
      have r0 := cbk HR.out 0 (.int .i64 0) rfl
      have r1 := cbk HR.out 1 (.int .i64 0) rfl
      have lr := blk_lt HR.out
      have hj0 : (0 : Int) ≤ (j : Int) := by omega
      have hj1 : (j : Int) < (C.parts.length : Int) := by omega
      clear hcc hx
      go_wp2
      exact bodyPost_ret (v := .agg #[.int .i64 (privS C j), .int .i64 x.2]) (results_cell_row rfl _ _ _ _ _ _ _ rfl ((blk_set (blk_set HR.out 0 _) 1 _).trans rfl) Tryz.underlying105 rfl (by kernel_rfl)) rfl ⟨by rw [HSX.out], (HB.out.setCell (p := ⟨w.heap.size + 1, 0, none⟩) (by show w.heap.size ≤ w.heap.size + 1; omega) _).setCell (p := ⟨w.heap.size + 1, 1, none⟩) (by show w.heap.size ≤ w.heap.size + 1; omega) _⟩
theorem rprivate_any (cv : Value) (C : Cfg) (hsm : C.small) (k : Int) (w : World) (h : CfgAt w cv C) : Calls Tryz.prog 46 #[cv, .int .i64 k] w fun e w' => e = .returned (.agg #[.int .i64 (privB C k).1, .int .i64 (privB C k).2]) ∧ Below w.heap.size w w' := by
  cases ha : accB C with
  | true =>
    by_cases h0 : k < 0
    · exact rprivate_neg cv C hsm ha k h0 w h
    · obtain ⟨j, rfl⟩ := Int.eq_ofNat_of_zero_le (by omega : 0 ≤ k)
      by_cases hj : j < C.parts.length
      · exact rprivate_yes cv C hsm ha j hj w h
      · exact rprivate_big cv C hsm ha j (by omega) (by omega) w h
  | false => exact rprivate_no cv C hsm ha k w h
set_option maxRecDepth 100000 in
set_option maxHeartbeats 4000000 in
theorem rsource0_no (cv : Value) (C : Cfg) (hsm : C.small) (k : Int) (hch : chanB C k = false) (w : World) (h : CfgAt w cv C) : Calls Tryz.prog 47 #[cv, .int .i64 k] w fun e w' => e = .returned (.agg #[.int .i64 (srcB C k).1, .int .i64 (srcB C k).2]) ∧ Below w.heap.size w w' := by
  have HC := Kp.mk h
  have HZ := Kp.mk (srcB_no C k (chanB_no hch))
  have HCH := Kp.mk hch
  clear hch
  obtain ⟨ho, pa, pc, ca, cc, a0, c0, a1, c1, rfl, bp, bc, b0, b1, hp, hc, hw0, hw1⟩ := h
  clear ho hp hc hw0 hw1
  go_enter Tryz.func47, Tryz.ntmps47
  have HB0 : Kp (Below w.heap.size w w) := ⟨Below.refl _ _⟩
  go_wp2_with fail
  refine (rchannel_any _ C hsm k _ (HC.out.below (below_al (below_al HB0.out _) _))).mono ?_
  rw [HCH.out]
  rintro e w1 ⟨rfl, hb⟩
  have q1 : Kp (w1.heap[w.heap.size]? = some (.cells #[.slice pa C.parts.length pc, .slice ca C.chans.length cc, .int .i64 C.l0, .slice a0 C.w0.length c0, .int .i64 C.l1, .slice a1 C.w1.length c1] 31 (0, 0))) := ⟨blk_below (blk_al (blk_new _ _) _) hb⟩
  have r1 : Kp (w1.heap[w.heap.size + 1]? = some (.cells #[.int .i64 0, .int .i64 0] 105 (0, 0))) := ⟨blk_below (blk_at (w := (w.alloc (.cells #[.slice pa C.parts.length pc, .slice ca C.chans.length cc, .int .i64 C.l0, .slice a0 C.w0.length c0, .int .i64 C.l1, .slice a1 C.w1.length c1] 31))) (by simp) _) hb⟩
  have HB1 : Kp (Below w.heap.size w w1) := ⟨below_call (below_al (below_al HB0.out _) _) hb⟩
  clear HB0 hb
  have qc0 := cbk q1.out 0 (.slice pa C.parts.length pc) rfl
  have qc1 := cbk q1.out 1 (.slice ca C.chans.length cc) rfl
  have qc2 := cbk q1.out 2 (.int .i64 C.l0) rfl
  have qc3 := cbk q1.out 3 (.slice a0 C.w0.length c0) rfl
  have qc4 := cbk q1.out 4 (.int .i64 C.l1) rfl
  have qc5 := cbk q1.out 5 (.slice a1 C.w1.length c1) rfl
  have ql := blk_lt q1.out
  have rc0 := cbk r1.out 0 (.int .i64 0) rfl
  have rc1 := cbk r1.out 1 (.int .i64 0) rfl
  have rl := blk_lt r1.out
  have rf0 := frozen_blk r1.out 0
  have rf1 := frozen_blk r1.out 1
  go_wp2
  exact bodyPost_ret (v := .agg #[.int .i64 0, .int .i64 0]) (results_cell_row rfl _ _ _ _ _ _ _ rfl ((blk_set (blk_set r1.out 0 _) 1 _).trans rfl) Tryz.underlying105 rfl (by kernel_rfl)) rfl ⟨zero_out HZ.out, (Below.setCell (Below.setCell HB1.out (p := ⟨w.heap.size + 1, 0, none⟩) (by show w.heap.size ≤ w.heap.size + 1; omega) _) (p := ⟨w.heap.size + 1, 1, none⟩) (by show w.heap.size ≤ w.heap.size + 1; omega) _)⟩
set_option maxRecDepth 100000 in
set_option maxHeartbeats 4000000 in
theorem rsource0_yes (cv : Value) (C : Cfg) (hsm : C.small) (ha : accB C = true) (k : Nat) (hk : k < C.chans.length) (w : World) (h : CfgAt w cv C) : Calls Tryz.prog 47 #[cv, .int .i64 k] w fun e w' => e = .returned (.agg #[.int .i64 (srcB C k).1, .int .i64 (srcB C k).2]) ∧ Below w.heap.size w w' := by
  have HC := Kp.mk h
  have HCB : Kp (chanB C k = true) := ⟨by rw [chanB, decide_eq_true ⟨by omega, by omega⟩, ha]; rfl⟩
  have HS : Kp (srcB C k = (befC C k, sizedC (C.chans.getD k default))) := ⟨by rw [srcB, if_pos ⟨ha, by omega, by omega⟩, Int.toNat_natCast]⟩
  have hbs := befC_small ha k
  have hcs := chn_small ha (List.getElem_mem hk)
  obtain ⟨ho, pa, pc, ca, cc, a0, c0, a1, c1, rfl, bp, bc, b0, b1, hp, hc, hw0, hw1⟩ := h
  obtain ⟨g, o, rfl, hg, hcc⟩ := hc.at (by omega)
  obtain ⟨x, hx⟩ : ∃ x, C.chans[k] = x := ⟨_, rfl⟩
  have HXG : Kp (C.chans.getD k default = x) := ⟨by rw [getD_at _ _ _ (by omega), hx]⟩
  have hcu : ∀ j, j < 7 → w.cell? ⟨g, o + k * 7 + j, none⟩ = (chanC x)[j]? := fun j hj => by
    have h1 := hcc (k * 7 + j) (by omega)
    rw [flat_at chanC 7 chanC_len C.chans k j (by omega) hj, hx] at h1
    rw [Nat.add_assoc]
    exact h1
  have HCU := Kp.mk hcu
  have hk0 : (0 : Int) ≤ (k : Int) := by omega
  have hk1 : (k : Int) < (C.chans.length : Int) := by omega
  clear hcu hcc
  rw [hx] at hcs
  have HS2 : Kp (srcB C k = (befC C k, sizedC x)) := ⟨by rw [HS.out, HXG.out]⟩
  obtain ⟨bf, hbf⟩ : ∃ bf, befC C k = bf := ⟨_, rfl⟩
  obtain ⟨sx, hsx⟩ : ∃ sx, sizedC x = sx := ⟨_, rfl⟩
  have HBF := Kp.mk hbf
  have HSX := Kp.mk hsx
  rw [hbf] at hbs
  rw [hsx] at hcs
  have s1 : IntKind.i64.wrap (bf + sx) = bf + sx := IntWalk.i64_in _ (by omega)
  clear hx hbf hsx
  clear ho hp hc hw0 hw1
  go_enter Tryz.func47, Tryz.ntmps47
  have HB0 : Kp (Below w.heap.size w w) := ⟨Below.refl _ _⟩
  go_wp2_with fail
  refine (rchannel_any _ C hsm k _ (HC.out.below (below_al (below_al HB0.out _) _))).mono ?_
  rw [HCB.out]
  rintro e w1 ⟨rfl, hb⟩
  have q1 : Kp (w1.heap[w.heap.size]? = some (.cells #[.slice pa C.parts.length pc, .slice (some ⟨g, o, none⟩) C.chans.length cc, .int .i64 C.l0, .slice a0 C.w0.length c0, .int .i64 C.l1, .slice a1 C.w1.length c1] 31 (0, 0))) := ⟨blk_below (blk_al (blk_new _ _) _) hb⟩
  have r1 : Kp (w1.heap[w.heap.size + 1]? = some (.cells #[.int .i64 0, .int .i64 0] 105 (0, 0))) := ⟨blk_below (blk_at (w := (w.alloc (.cells #[.slice pa C.parts.length pc, .slice (some ⟨g, o, none⟩) C.chans.length cc, .int .i64 C.l0, .slice a0 C.w0.length c0, .int .i64 C.l1, .slice a1 C.w1.length c1] 31))) (by simp) _) hb⟩
  have HB1 : Kp (Below w.heap.size w w1) := ⟨below_call (below_al (below_al HB0.out _) _) hb⟩
  clear HB0 hb
  have qc0 := cbk q1.out 0 (.slice pa C.parts.length pc) rfl
  have qc1 := cbk q1.out 1 (.slice (some ⟨g, o, none⟩) C.chans.length cc) rfl
  have qc2 := cbk q1.out 2 (.int .i64 C.l0) rfl
  have qc3 := cbk q1.out 3 (.slice a0 C.w0.length c0) rfl
  have qc4 := cbk q1.out 4 (.int .i64 C.l1) rfl
  have qc5 := cbk q1.out 5 (.slice a1 C.w1.length c1) rfl
  have ql := blk_lt q1.out
  have rc0 := cbk r1.out 0 (.int .i64 0) rfl
  have rc1 := cbk r1.out 1 (.int .i64 0) rfl
  have rl := blk_lt r1.out
  have x0 : w1.cell? ⟨g, o + k * 7, none⟩ = some (.int .i64 x.kind) := (HB1.out.cell (p := ⟨g, o + k * 7, none⟩) hg).trans (HCU.out 0 (by omega))
  have x1 : w1.cell? ⟨g, o + k * 7 + 1, none⟩ = some (.int .i64 x.frm) := (HB1.out.cell (p := ⟨g, o + k * 7 + 1, none⟩) hg).trans (HCU.out 1 (by omega))
  have x2 : w1.cell? ⟨g, o + k * 7 + 2, none⟩ = some (.int .i64 x.to) := (HB1.out.cell (p := ⟨g, o + k * 7 + 2, none⟩) hg).trans (HCU.out 2 (by omega))
  have x3 : w1.cell? ⟨g, o + k * 7 + 3, none⟩ = some (.int .i64 x.words) := (HB1.out.cell (p := ⟨g, o + k * 7 + 3, none⟩) hg).trans (HCU.out 3 (by omega))
  have x4 : w1.cell? ⟨g, o + k * 7 + 4, none⟩ = some (.int .i64 x.depth) := (HB1.out.cell (p := ⟨g, o + k * 7 + 4, none⟩) hg).trans (HCU.out 4 (by omega))
  have x5 : w1.cell? ⟨g, o + k * 7 + 5, none⟩ = some (.int .i64 x.period) := (HB1.out.cell (p := ⟨g, o + k * 7 + 5, none⟩) hg).trans (HCU.out 5 (by omega))
  have x6 : w1.cell? ⟨g, o + k * 7 + 6, none⟩ = some (.int .u32 x.boot) := (HB1.out.cell (p := ⟨g, o + k * 7 + 6, none⟩) hg).trans (HCU.out 6 (by omega))
  have hgw : g < w1.heap.size := Nat.lt_of_lt_of_le hg HB1.out.size
  have nq : ¬ w.heap.size = w.heap.size + 1 := by omega
  have ng : ¬ g = w.heap.size + 1 := by omega
  go_wp2_with fail
  refine held_start_gen (S := (fun w' : World => ButB (w1.heap.size) [(w.heap.size + 1)] w1 w' ∧ ∀ bb o, bb < w1.heap.size → bb ≠ (w.heap.size + 1) → w'.cell? ⟨bb, o, none⟩ = w1.cell? ⟨bb, o, none⟩)) (by kernel_rfl) (fun wz : World => Kp (wz.heap[w.heap.size + 1]? = some (.cells #[.int .i64 0, .int .i64 0] 105 (0, 0))) ∧ Kp (Below w.heap.size w wz) ∧ w1.heap.size ≤ wz.heap.size) ⟨⟨blk_dr r1.out⟩, ⟨below_dr HB1.out⟩, Nat.le_refl _⟩ (sx_of1 (ButB.dr (ButB.refl _ (by omega)))) (fun wd0 hRn hHeld => ?_)
  clear r1 HB1
  obtain ⟨r1, HB1, hsz⟩ := hRn
  refine wtk 0 ?_ rfl (.inl ⟨by rfl, ?_⟩) ?_
  rotate_left 1
  · (intro w hSw; go_simp; try with_reducible rfl)
  try simp only [Act.put, ls0, ls1, ls2]
  refine wtk 1 ?_ rfl (.inl ⟨by rfl, ?_⟩) ?_
  rotate_left 1
  · (intro w hSw; go_simp; try with_reducible rfl)
  try simp only [Act.put, ls0, ls1, ls2]
  refine wtk 3 ?_ rfl (.inl ⟨by rfl, ?_⟩) ?_
  rotate_left 1
  · (intro w hSw; go_simp; try with_reducible rfl)
  try simp only [Act.put, ls0, ls1, ls2]
  refine wtk 4 ?_ rfl (.inl ⟨by rfl, ?_⟩) ?_
  rotate_left 1
  · (intro w hSw; go_simp; try with_reducible rfl)
  try simp only [Act.put, ls0, ls1, ls2]
  refine wtk 5 ?_ rfl (.inl ⟨by rfl, ?_⟩) ?_
  rotate_left 1
  · (intro w hSw; go_simp; try with_reducible rfl)
  try simp only [Act.put, ls0, ls1, ls2]
  refine wtk 6 ?_ rfl (.inl ⟨by rfl, ?_⟩) ?_
  rotate_left 1
  · (intro w hSw; go_simp; try with_reducible rfl)
  try simp only [Act.put, ls0, ls1, ls2]
  refine wtk 7 ?_ rfl (.inl ⟨by rfl, ?_⟩) ?_
  rotate_left 1
  · (intro w hSw; go_simp; try with_reducible rfl)
  try simp only [Act.put, ls0, ls1, ls2]
  refine wrd [2] ?_
  refine (arc rfl (fun K hK => ?_) arn)
  go_simp
  go_at_call 43
  refine (rbefore_any _ C hsm ha k (by omega) _ (HC.out.below HB1.out)).mono ?_
  rw [HBF.out]
  rintro e w9 ⟨rfl, hb⟩
  try go_wp2_with fail
  refine out_gen hK _ _ (fun wz : World => Kp (wz.heap[w.heap.size + 1]? = some (.cells #[.int .i64 0, .int .i64 0] 105 (0, 0))) ∧ Kp (Below w.heap.size w wz) ∧ wd0.heap.size ≤ wz.heap.size) ⟨⟨blk_below r1.out hb⟩, ⟨below_call HB1.out hb⟩, hb.size⟩ (sx_of1 (ButB.call (And.left hHeld) hb)) (fun wd1 hRn hHn => ?_)
  clear hK K hHeld r1 HB1 hb
  obtain ⟨r1, HB1, hsz1⟩ := hRn
  have hHeld := hHn
  clear hHn
  try simp only [Act.put, ls0, ls1, ls2]
  refine wrd [8] ?_
  refine (arc rfl (fun K hK => ?_) arn)
  go_simp
  go_at_call 77
  refine (rsource_any x (by omega) (by omega) (by omega) (by omega) _).mono ?_
  rw [HSX.out]
  rintro e w9 ⟨rfl, hb⟩
  try go_wp2_with fail
  refine out_gen hK _ _ (fun wz : World => Kp (wz.heap[w.heap.size + 1]? = some (.cells #[.int .i64 0, .int .i64 0] 105 (0, 0))) ∧ Kp (Below w.heap.size w wz) ∧ wd1.heap.size ≤ wz.heap.size) ⟨⟨blk_below r1.out hb⟩, ⟨below_call HB1.out hb⟩, hb.size⟩ (sx_of1 (ButB.call (And.left hHeld) hb)) (fun wd2 hRn hHn => ?_)
  clear hK K hHeld r1 HB1 hb
  obtain ⟨r1, HB1, hsz2⟩ := hRn
  have hHeld := hHn
  clear hHn
  try simp only [Act.put, ls0, ls1, ls2]
  refine wtk 9 ?_ rfl (.inl ⟨by rfl, ?_⟩) ?_
  rotate_left 1
  · (intro w hSw; go_simp; try with_reducible rfl)
  try simp only [Act.put, ls0, ls1, ls2]
  refine wrd [10] ?_
  refine (arc rfl (fun K hK => ?_) arn)
  have sd0 := cbk r1.out 0 (.int .i64 0) rfl
  have sf0 := frozen_blk r1.out 0
  have sd1 := cbk r1.out 1 (.int .i64 0) rfl
  have sf1 := frozen_blk r1.out 1
  have sl := blk_lt r1.out
  go_simp
  try go_wp2_with fail
  refine out_gen hK _ _ (fun wz : World => Kp (wz.heap[w.heap.size + 1]? = some (.cells #[.int .i64 bf, .int .i64 sx] 105 (0, 0))) ∧ Kp (Below w.heap.size w wz) ∧ wd2.heap.size ≤ wz.heap.size) ⟨⟨(blk_set (blk_set r1.out 0 _) 1 _).trans rfl⟩, ⟨((HB1.out.setCell (p := ⟨w.heap.size + 1, 0, none⟩) (by show w.heap.size ≤ w.heap.size + 1; omega) _).setCell (p := ⟨w.heap.size + 1, 1, none⟩) (by show w.heap.size ≤ w.heap.size + 1; omega) _)⟩, (by simp [World.setCell])⟩ (sx_of1 ((ButB.set (ButB.set (And.left hHeld) (p := ⟨w.heap.size + 1, 0, none⟩) (by first | (left; simp; done) | (right; show _ ≤ w.heap.size + 1; omega)) _) (p := ⟨w.heap.size + 1, 1, none⟩) (by first | (left; simp; done) | (right; show _ ≤ w.heap.size + 1; omega)) _))) (fun wd3 hRn hHn => ?_)
  clear hK K hHeld r1 HB1 sd0 sf0 sd1 sf1 sl
  obtain ⟨r1, HB1, hsz3⟩ := hRn
  have hHeld := hHn
  clear hHn
  try simp only [Act.put, ls0, ls1, ls2]
  refine wpAnyH_done (by kernel_rfl) ?_ _
  go_wp2
  exact bodyPost_ret (v := .agg #[.int .i64 bf, .int .i64 sx]) (results_cell_row rfl _ _ _ _ _ _ _ rfl r1.out Tryz.underlying105 rfl (by kernel_rfl)) rfl ⟨by rw [HS2.out, HBF.out, HSX.out], HB1.out⟩
theorem rsource0_any (cv : Value) (C : Cfg) (hsm : C.small) (k : Int) (w : World) (h : CfgAt w cv C) : Calls Tryz.prog 47 #[cv, .int .i64 k] w fun e w' => e = .returned (.agg #[.int .i64 (srcB C k).1, .int .i64 (srcB C k).2]) ∧ Below w.heap.size w w' := by
  cases hch : chanB C k with
  | false => exact rsource0_no cv C hsm k hch w h
  | true =>
    obtain ⟨ha, h0, h1⟩ := chanB_yes hch
    obtain ⟨j, rfl⟩ := Int.eq_ofNat_of_zero_le h0
    exact rsource0_yes cv C hsm ha j (by omega) w h
set_option maxRecDepth 100000 in
set_option maxHeartbeats 4000000 in
theorem rdest_no (cv : Value) (C : Cfg) (hsm : C.small) (k : Int) (hch : chanB C k = false) (w : World) (h : CfgAt w cv C) : Calls Tryz.prog 48 #[cv, .int .i64 k] w fun e w' => e = .returned (.agg #[.int .i64 (dstB C k).1, .int .i64 (dstB C k).2]) ∧ Below w.heap.size w w' := by
  have HC := Kp.mk h
  have HZ := Kp.mk (dstB_no C k (chanB_no hch))
  have HCH := Kp.mk hch
  clear hch
  obtain ⟨ho, pa, pc, ca, cc, a0, c0, a1, c1, rfl, bp, bc, b0, b1, hp, hc, hw0, hw1⟩ := h
  clear ho hp hc hw0 hw1
  go_enter Tryz.func48, Tryz.ntmps48
  have HB0 : Kp (Below w.heap.size w w) := ⟨Below.refl _ _⟩
  go_wp2_with fail
  refine (rchannel_any _ C hsm k _ (HC.out.below (below_al (below_al HB0.out _) _))).mono ?_
  rw [HCH.out]
  rintro e w1 ⟨rfl, hb⟩
  have q1 : Kp (w1.heap[w.heap.size]? = some (.cells #[.slice pa C.parts.length pc, .slice ca C.chans.length cc, .int .i64 C.l0, .slice a0 C.w0.length c0, .int .i64 C.l1, .slice a1 C.w1.length c1] 31 (0, 0))) := ⟨blk_below (blk_al (blk_new _ _) _) hb⟩
  have r1 : Kp (w1.heap[w.heap.size + 1]? = some (.cells #[.int .i64 0, .int .i64 0] 105 (0, 0))) := ⟨blk_below (blk_at (w := (w.alloc (.cells #[.slice pa C.parts.length pc, .slice ca C.chans.length cc, .int .i64 C.l0, .slice a0 C.w0.length c0, .int .i64 C.l1, .slice a1 C.w1.length c1] 31))) (by simp) _) hb⟩
  have HB1 : Kp (Below w.heap.size w w1) := ⟨below_call (below_al (below_al HB0.out _) _) hb⟩
  clear HB0 hb
  have qc0 := cbk q1.out 0 (.slice pa C.parts.length pc) rfl
  have qc1 := cbk q1.out 1 (.slice ca C.chans.length cc) rfl
  have qc2 := cbk q1.out 2 (.int .i64 C.l0) rfl
  have qc3 := cbk q1.out 3 (.slice a0 C.w0.length c0) rfl
  have qc4 := cbk q1.out 4 (.int .i64 C.l1) rfl
  have qc5 := cbk q1.out 5 (.slice a1 C.w1.length c1) rfl
  have ql := blk_lt q1.out
  have rc0 := cbk r1.out 0 (.int .i64 0) rfl
  have rc1 := cbk r1.out 1 (.int .i64 0) rfl
  have rl := blk_lt r1.out
  have rf0 := frozen_blk r1.out 0
  have rf1 := frozen_blk r1.out 1
  go_wp2
  exact bodyPost_ret (v := .agg #[.int .i64 0, .int .i64 0]) (results_cell_row rfl _ _ _ _ _ _ _ rfl ((blk_set (blk_set r1.out 0 _) 1 _).trans rfl) Tryz.underlying105 rfl (by kernel_rfl)) rfl ⟨zero_out HZ.out, (Below.setCell (Below.setCell HB1.out (p := ⟨w.heap.size + 1, 0, none⟩) (by show w.heap.size ≤ w.heap.size + 1; omega) _) (p := ⟨w.heap.size + 1, 1, none⟩) (by show w.heap.size ≤ w.heap.size + 1; omega) _)⟩
set_option maxRecDepth 100000 in
set_option maxHeartbeats 4000000 in
theorem rdest_yes (cv : Value) (C : Cfg) (hsm : C.small) (ha : accB C = true) (k : Nat) (hk : k < C.chans.length) (w : World) (h : CfgAt w cv C) : Calls Tryz.prog 48 #[cv, .int .i64 k] w fun e w' => e = .returned (.agg #[.int .i64 (dstB C k).1, .int .i64 (dstB C k).2]) ∧ Below w.heap.size w w' := by
  have HC := Kp.mk h
  have HCB : Kp (chanB C k = true) := ⟨by rw [chanB, decide_eq_true ⟨by omega, by omega⟩, ha]; rfl⟩
  have HS : Kp (dstB C k = (befC C k + sizedC (C.chans.getD k default), 1)) := ⟨by rw [dstB, if_pos ⟨ha, by omega, by omega⟩, Int.toNat_natCast]⟩
  have hbs := befC_small ha k
  have hcs := chn_small ha (List.getElem_mem hk)
  obtain ⟨ho, pa, pc, ca, cc, a0, c0, a1, c1, rfl, bp, bc, b0, b1, hp, hc, hw0, hw1⟩ := h
  obtain ⟨g, o, rfl, hg, hcc⟩ := hc.at (by omega)
  obtain ⟨x, hx⟩ : ∃ x, C.chans[k] = x := ⟨_, rfl⟩
  have HXG : Kp (C.chans.getD k default = x) := ⟨by rw [getD_at _ _ _ (by omega), hx]⟩
  have hcu : ∀ j, j < 7 → w.cell? ⟨g, o + k * 7 + j, none⟩ = (chanC x)[j]? := fun j hj => by
    have h1 := hcc (k * 7 + j) (by omega)
    rw [flat_at chanC 7 chanC_len C.chans k j (by omega) hj, hx] at h1
    rw [Nat.add_assoc]
    exact h1
  have HCU := Kp.mk hcu
  have hk0 : (0 : Int) ≤ (k : Int) := by omega
  have hk1 : (k : Int) < (C.chans.length : Int) := by omega
  clear hcu hcc
  rw [hx] at hcs
  have HS2 : Kp (dstB C k = (befC C k + sizedC x, 1)) := ⟨by rw [HS.out, HXG.out]⟩
  obtain ⟨bf, hbf⟩ : ∃ bf, befC C k = bf := ⟨_, rfl⟩
  obtain ⟨sx, hsx⟩ : ∃ sx, sizedC x = sx := ⟨_, rfl⟩
  have HBF := Kp.mk hbf
  have HSX := Kp.mk hsx
  rw [hbf] at hbs
  rw [hsx] at hcs
  have s1 : IntKind.i64.wrap (bf + sx) = bf + sx := IntWalk.i64_in _ (by omega)
  clear hx hbf hsx
  clear ho hp hc hw0 hw1
  go_enter Tryz.func48, Tryz.ntmps48
  have HB0 : Kp (Below w.heap.size w w) := ⟨Below.refl _ _⟩
  go_wp2_with fail
  refine (rchannel_any _ C hsm k _ (HC.out.below (below_al (below_al HB0.out _) _))).mono ?_
  rw [HCB.out]
  rintro e w1 ⟨rfl, hb⟩
  have q1 : Kp (w1.heap[w.heap.size]? = some (.cells #[.slice pa C.parts.length pc, .slice (some ⟨g, o, none⟩) C.chans.length cc, .int .i64 C.l0, .slice a0 C.w0.length c0, .int .i64 C.l1, .slice a1 C.w1.length c1] 31 (0, 0))) := ⟨blk_below (blk_al (blk_new _ _) _) hb⟩
  have r1 : Kp (w1.heap[w.heap.size + 1]? = some (.cells #[.int .i64 0, .int .i64 0] 105 (0, 0))) := ⟨blk_below (blk_at (w := (w.alloc (.cells #[.slice pa C.parts.length pc, .slice (some ⟨g, o, none⟩) C.chans.length cc, .int .i64 C.l0, .slice a0 C.w0.length c0, .int .i64 C.l1, .slice a1 C.w1.length c1] 31))) (by simp) _) hb⟩
  have HB1 : Kp (Below w.heap.size w w1) := ⟨below_call (below_al (below_al HB0.out _) _) hb⟩
  clear HB0 hb
  have qc0 := cbk q1.out 0 (.slice pa C.parts.length pc) rfl
  have qc1 := cbk q1.out 1 (.slice (some ⟨g, o, none⟩) C.chans.length cc) rfl
  have qc2 := cbk q1.out 2 (.int .i64 C.l0) rfl
  have qc3 := cbk q1.out 3 (.slice a0 C.w0.length c0) rfl
  have qc4 := cbk q1.out 4 (.int .i64 C.l1) rfl
  have qc5 := cbk q1.out 5 (.slice a1 C.w1.length c1) rfl
  have ql := blk_lt q1.out
  have rc0 := cbk r1.out 0 (.int .i64 0) rfl
  have rc1 := cbk r1.out 1 (.int .i64 0) rfl
  have rl := blk_lt r1.out
  have x0 : w1.cell? ⟨g, o + k * 7, none⟩ = some (.int .i64 x.kind) := (HB1.out.cell (p := ⟨g, o + k * 7, none⟩) hg).trans (HCU.out 0 (by omega))
  have x1 : w1.cell? ⟨g, o + k * 7 + 1, none⟩ = some (.int .i64 x.frm) := (HB1.out.cell (p := ⟨g, o + k * 7 + 1, none⟩) hg).trans (HCU.out 1 (by omega))
  have x2 : w1.cell? ⟨g, o + k * 7 + 2, none⟩ = some (.int .i64 x.to) := (HB1.out.cell (p := ⟨g, o + k * 7 + 2, none⟩) hg).trans (HCU.out 2 (by omega))
  have x3 : w1.cell? ⟨g, o + k * 7 + 3, none⟩ = some (.int .i64 x.words) := (HB1.out.cell (p := ⟨g, o + k * 7 + 3, none⟩) hg).trans (HCU.out 3 (by omega))
  have x4 : w1.cell? ⟨g, o + k * 7 + 4, none⟩ = some (.int .i64 x.depth) := (HB1.out.cell (p := ⟨g, o + k * 7 + 4, none⟩) hg).trans (HCU.out 4 (by omega))
  have x5 : w1.cell? ⟨g, o + k * 7 + 5, none⟩ = some (.int .i64 x.period) := (HB1.out.cell (p := ⟨g, o + k * 7 + 5, none⟩) hg).trans (HCU.out 5 (by omega))
  have x6 : w1.cell? ⟨g, o + k * 7 + 6, none⟩ = some (.int .u32 x.boot) := (HB1.out.cell (p := ⟨g, o + k * 7 + 6, none⟩) hg).trans (HCU.out 6 (by omega))
  have hgw : g < w1.heap.size := Nat.lt_of_lt_of_le hg HB1.out.size
  have nq : ¬ w.heap.size = w.heap.size + 1 := by omega
  have ng : ¬ g = w.heap.size + 1 := by omega
  go_wp2_with fail
  refine held_start_gen (S := (fun w' : World => ButB (w1.heap.size) [(w.heap.size + 1)] w1 w' ∧ ∀ bb o, bb < w1.heap.size → bb ≠ (w.heap.size + 1) → w'.cell? ⟨bb, o, none⟩ = w1.cell? ⟨bb, o, none⟩)) (by kernel_rfl) (fun wz : World => Kp (wz.heap[w.heap.size + 1]? = some (.cells #[.int .i64 0, .int .i64 0] 105 (0, 0))) ∧ Kp (Below w.heap.size w wz) ∧ w1.heap.size ≤ wz.heap.size) ⟨⟨blk_dr r1.out⟩, ⟨below_dr HB1.out⟩, Nat.le_refl _⟩ (sx_of1 (ButB.dr (ButB.refl _ (by omega)))) (fun wd0 hRn hHeld => ?_)
  clear r1 HB1
  obtain ⟨r1, HB1, hsz⟩ := hRn
  refine wtk 0 ?_ rfl (.inl ⟨by rfl, ?_⟩) ?_
  rotate_left 1
  · (intro w hSw; go_simp; try with_reducible rfl)
  try simp only [Act.put, ls0, ls1, ls2]
  refine wtk 1 ?_ rfl (.inl ⟨by rfl, ?_⟩) ?_
  rotate_left 1
  · (intro w hSw; go_simp; try with_reducible rfl)
  try simp only [Act.put, ls0, ls1, ls2]
  refine wtk 3 ?_ rfl (.inl ⟨by rfl, ?_⟩) ?_
  rotate_left 1
  · (intro w hSw; go_simp; try with_reducible rfl)
  try simp only [Act.put, ls0, ls1, ls2]
  refine wtk 4 ?_ rfl (.inl ⟨by rfl, ?_⟩) ?_
  rotate_left 1
  · (intro w hSw; go_simp; try with_reducible rfl)
  try simp only [Act.put, ls0, ls1, ls2]
  refine wtk 5 ?_ rfl (.inl ⟨by rfl, ?_⟩) ?_
  rotate_left 1
  · (intro w hSw; go_simp; try with_reducible rfl)
  try simp only [Act.put, ls0, ls1, ls2]
  refine wtk 6 ?_ rfl (.inl ⟨by rfl, ?_⟩) ?_
  rotate_left 1
  · (intro w hSw; go_simp; try with_reducible rfl)
  try simp only [Act.put, ls0, ls1, ls2]
  refine wtk 7 ?_ rfl (.inl ⟨by rfl, ?_⟩) ?_
  rotate_left 1
  · (intro w hSw; go_simp; try with_reducible rfl)
  try simp only [Act.put, ls0, ls1, ls2]
  refine wrd [2] ?_
  refine (arc rfl (fun K hK => ?_) arn)
  go_simp
  go_at_call 43
  refine (rbefore_any _ C hsm ha k (by omega) _ (HC.out.below HB1.out)).mono ?_
  rw [HBF.out]
  rintro e w9 ⟨rfl, hb⟩
  try go_wp2_with fail
  refine out_gen hK _ _ (fun wz : World => Kp (wz.heap[w.heap.size + 1]? = some (.cells #[.int .i64 0, .int .i64 0] 105 (0, 0))) ∧ Kp (Below w.heap.size w wz) ∧ wd0.heap.size ≤ wz.heap.size) ⟨⟨blk_below r1.out hb⟩, ⟨below_call HB1.out hb⟩, hb.size⟩ (sx_of1 (ButB.call (And.left hHeld) hb)) (fun wd1 hRn hHn => ?_)
  clear hK K hHeld r1 HB1 hb
  obtain ⟨r1, HB1, hsz1⟩ := hRn
  have hHeld := hHn
  clear hHn
  try simp only [Act.put, ls0, ls1, ls2]
  refine wrd [8] ?_
  refine (arc rfl (fun K hK => ?_) arn)
  go_simp
  go_at_call 77
  refine (rsource_any x (by omega) (by omega) (by omega) (by omega) _).mono ?_
  rw [HSX.out]
  rintro e w9 ⟨rfl, hb⟩
  try go_wp2_with fail
  refine out_gen hK _ _ (fun wz : World => Kp (wz.heap[w.heap.size + 1]? = some (.cells #[.int .i64 0, .int .i64 0] 105 (0, 0))) ∧ Kp (Below w.heap.size w wz) ∧ wd1.heap.size ≤ wz.heap.size) ⟨⟨blk_below r1.out hb⟩, ⟨below_call HB1.out hb⟩, hb.size⟩ (sx_of1 (ButB.call (And.left hHeld) hb)) (fun wd2 hRn hHn => ?_)
  clear hK K hHeld r1 HB1 hb
  obtain ⟨r1, HB1, hsz2⟩ := hRn
  have hHeld := hHn
  clear hHn
  try simp only [Act.put, ls0, ls1, ls2]
  refine wtk 9 ?_ rfl (.inl ⟨by rfl, ?_⟩) ?_
  rotate_left 1
  · (intro w hSw; go_simp; try with_reducible rfl)
  try simp only [Act.put, ls0, ls1, ls2]
  refine wtk 10 ?_ rfl (.inl ⟨by rfl, ?_⟩) ?_
  rotate_left 1
  · (intro w hSw; go_simp; try with_reducible rfl)
  try simp only [Act.put, ls0, ls1, ls2]
  refine wrd [11] ?_
  refine (arc rfl (fun K hK => ?_) arn)
  have sd0 := cbk r1.out 0 (.int .i64 0) rfl
  have sf0 := frozen_blk r1.out 0
  have sd1 := cbk r1.out 1 (.int .i64 0) rfl
  have sf1 := frozen_blk r1.out 1
  have sl := blk_lt r1.out
  go_simp
  try go_wp2_with fail
  refine out_gen hK _ _ (fun wz : World => Kp (wz.heap[w.heap.size + 1]? = some (.cells #[.int .i64 (bf + sx), .int .i64 1] 105 (0, 0))) ∧ Kp (Below w.heap.size w wz) ∧ wd2.heap.size ≤ wz.heap.size) ⟨⟨(blk_set (blk_set r1.out 0 _) 1 _).trans rfl⟩, ⟨((HB1.out.setCell (p := ⟨w.heap.size + 1, 0, none⟩) (by show w.heap.size ≤ w.heap.size + 1; omega) _).setCell (p := ⟨w.heap.size + 1, 1, none⟩) (by show w.heap.size ≤ w.heap.size + 1; omega) _)⟩, (by simp [World.setCell])⟩ (sx_of1 ((ButB.set (ButB.set (And.left hHeld) (p := ⟨w.heap.size + 1, 0, none⟩) (by first | (left; simp; done) | (right; show _ ≤ w.heap.size + 1; omega)) _) (p := ⟨w.heap.size + 1, 1, none⟩) (by first | (left; simp; done) | (right; show _ ≤ w.heap.size + 1; omega)) _))) (fun wd3 hRn hHn => ?_)
  clear hK K hHeld r1 HB1 sd0 sf0 sd1 sf1 sl
  obtain ⟨r1, HB1, hsz3⟩ := hRn
  have hHeld := hHn
  clear hHn
  try simp only [Act.put, ls0, ls1, ls2]
  refine wpAnyH_done (by kernel_rfl) ?_ _
  go_wp2
  exact bodyPost_ret (v := .agg #[.int .i64 (bf + sx), .int .i64 1]) (results_cell_row rfl _ _ _ _ _ _ _ rfl r1.out Tryz.underlying105 rfl (by kernel_rfl)) rfl ⟨by rw [HS2.out, HBF.out, HSX.out], HB1.out⟩
theorem rdest_any (cv : Value) (C : Cfg) (hsm : C.small) (k : Int) (w : World) (h : CfgAt w cv C) : Calls Tryz.prog 48 #[cv, .int .i64 k] w fun e w' => e = .returned (.agg #[.int .i64 (dstB C k).1, .int .i64 (dstB C k).2]) ∧ Below w.heap.size w w' := by
  cases hch : chanB C k with
  | false => exact rdest_no cv C hsm k hch w h
  | true =>
    obtain ⟨ha, h0, h1⟩ := chanB_yes hch
    obtain ⟨j, rfl⟩ := Int.eq_ofNat_of_zero_le h0
    exact rdest_yes cv C hsm ha j (by omega) w h
end Go.Proofs.YtmidcnfmphlneaaGreat

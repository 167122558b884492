/- Contracts of package layout: Size, Private, Source, Dest. -/
import Derived.Test.YtmidcnfmphlneaaGreatQ9
namespace Go.Proofs.YtmidcnfmphlneaaGreat
open Go.RowKit
set_option linter.unusedSimpArgs false
set_option linter.unusedVariables false
theorem pickL_at (L : List (Int × Int)) (p n k : Nat) (hk : k < n) (s : Int × Int) (h : L[p + k * 2]? = some s) : (pickL L p n)[0 + k]? = some s := by
  rw [Nat.zero_add, pickL, List.getElem?_map, List.getElem?_range hk]
  simp [List.getD_eq_getElem?_getD, h]
theorem srcB_yes (C : Cfg) (h : accB C = true) (k : Nat) (hk : k < C.chans.length) : (pickL (planL C) (C.parts.length + 0) C.chans.length)[0 + k]? = some (srcB C k) :=
  pickL_at _ _ _ _ hk _ (by rw [Nat.add_zero, planL_src C h k hk, srcB, if_pos ⟨h, by omega, by omega⟩, Int.toNat_natCast, getD_at _ _ _ hk])
theorem dstB_yes (C : Cfg) (h : accB C = true) (k : Nat) (hk : k < C.chans.length) : (pickL (planL C) (C.parts.length + 1) C.chans.length)[0 + k]? = some (dstB C k) :=
  pickL_at _ _ _ _ hk _ (by rw [show C.parts.length + 1 + k * 2 = C.parts.length + k * 2 + 1 by omega, planL_dst C h k hk, dstB, if_pos ⟨h, by omega, by omega⟩, Int.toNat_natCast, getD_at _ _ _ hk])
theorem srcB_no (C : Cfg) (p : Int) (h : ¬ (accB C = true ∧ 0 ≤ p ∧ p < C.chans.length)) : srcB C p = (0, 0) := if_neg h
theorem dstB_no (C : Cfg) (p : Int) (h : ¬ (accB C = true ∧ 0 ≤ p ∧ p < C.chans.length)) : dstB C p = (0, 0) := if_neg h
theorem no_row (w : World) (s : Nat) : RowAt w 2 (.slice none 0 0) 0 [] := ⟨rfl, .inl ⟨⟨none, 0, rfl, Nat.zero_le _⟩, rfl⟩⟩
theorem zero_out {s : Int × Int} (h : s = (0, 0)) : (Ending.returned (.agg #[.int .i64 0, .int .i64 0])) = .returned (.agg #[.int .i64 s.1, .int .i64 s.2]) := by rw [h]
set_option maxRecDepth 100000 in
set_option maxHeartbeats 4000000 in
theorem source_yes (cv : Value) (C : Cfg) (hsm : C.small) (ha : accB C = true) (k : Nat) (hk : k < C.chans.length) (w : World) (h : CfgAt w cv C) : Calls Tryz.prog 81 #[cv, .int .i64 k] w fun e w' => e = .returned (.agg #[.int .i64 (srcB C k).1, .int .i64 (srcB C k).2]) ∧ Below w.heap.size w w' := by
  have HC := Kp.mk h
  have HS := Kp.mk (srcB_yes C ha k hk)
  have hnp := (acc_of ha).np
  have hnc := (acc_of ha).nc
  have HPL := Kp.mk (planL_len C ha)
  obtain ⟨ho, pa, pc, ca, cc, a0, c0, a1, c1, rfl, bp, bc, b0, b1, hp, hc, hw0, hw1⟩ := h
  clear ho hp hc hw0 hw1
  go_enter Tryz.func81, Tryz.ntmps81
  have HB0 : Kp (Below w.heap.size w w) := ⟨Below.refl _ _⟩
  go_wp2_with fail
  refine (of_yes _ C hsm ha _ (HC.out.below (below_al (below_al HB0.out _) _))).mono ?_
  rintro e w1 ⟨⟨v, rfl, hO⟩, hb⟩
  have q1 : Kp (w1.heap[w.heap.size]? = some (.cells #[.slice pa C.parts.length pc, .slice ca C.chans.length cc, .int .i64 C.l0, .slice a0 C.w0.length c0, .int .i64 C.l1, .slice a1 C.w1.length c1] 31 (0, 0))) := ⟨blk_below (blk_al (blk_new _ _) _) hb⟩
  have r1 : Kp (w1.heap[w.heap.size + 1]? = some (.cells #[.int .i64 0, .int .i64 0] 105 (0, 0))) := ⟨blk_below (blk_at (w := (w.alloc (.cells #[.slice pa C.parts.length pc, .slice ca C.chans.length cc, .int .i64 C.l0, .slice a0 C.w0.length c0, .int .i64 C.l1, .slice a1 C.w1.length c1] 31))) (by simp) _) hb⟩
  have HB1 : Kp (Below w.heap.size w w1) := ⟨below_call (below_al (below_al HB0.out _) _) hb⟩
  have O1 : Kp (RowAt w1 2 v (planL C).length ((planL C).flatMap spanC)) := ⟨RowAt.of_own hO⟩
  clear HB0 hb
  have qc0 := cbk q1.out 0 (.slice pa C.parts.length pc) rfl
  have qc1 := cbk q1.out 1 (.slice ca C.chans.length cc) rfl
  have qc2 := cbk q1.out 2 (.int .i64 C.l0) rfl
  have qc3 := cbk q1.out 3 (.slice a0 C.w0.length c0) rfl
  have qc4 := cbk q1.out 4 (.int .i64 C.l1) rfl
  have qc5 := cbk q1.out 5 (.slice a1 C.w1.length c1) rfl
  have ql := blk_lt q1.out
  have rc0 := cbk r1.out 0 (.int .i64 0) rfl
  have rc1 := cbk r1.out 1 (.int .i64 0) rfl
  have rl := blk_lt r1.out
  obtain ⟨va, vc, rfl, hva1, hva2⟩ := O1.out.shape
  clear hO
  go_wp2_with fail
  refine (chans_any C.parts.length C.chans.length 0 (planE C) _ (planL C) (by omega) (by omega) (by omega) HPL.out _ O1.out).mono ?_
  rintro e w2 ⟨v2, rfl, hO, hb⟩
  have q2 : Kp (w2.heap[w.heap.size]? = some (.cells #[.slice pa C.parts.length pc, .slice ca C.chans.length cc, .int .i64 C.l0, .slice a0 C.w0.length c0, .int .i64 C.l1, .slice a1 C.w1.length c1] 31 (0, 0))) := ⟨blk_below q1.out hb⟩
  have r2 : Kp (w2.heap[w.heap.size + 1]? = some (.cells #[.int .i64 0, .int .i64 0] 105 (0, 0))) := ⟨blk_below r1.out hb⟩
  have HB2 : Kp (Below w.heap.size w w2) := ⟨below_call HB1.out hb⟩
  have N2 : Kp (RowAt w2 2 v2 C.chans.length ((pickL (planL C) (C.parts.length + 0) C.chans.length).flatMap spanC)) := ⟨RowAt.of_own hO⟩
  clear qc0 qc1 qc2 qc3 qc4 qc5 ql rc0 rc1 rl q1 r1 HB1 O1 hb
  have qc0 := cbk q2.out 0 (.slice pa C.parts.length pc) rfl
  have qc1 := cbk q2.out 1 (.slice ca C.chans.length cc) rfl
  have qc2 := cbk q2.out 2 (.int .i64 C.l0) rfl
  have qc3 := cbk q2.out 3 (.slice a0 C.w0.length c0) rfl
  have qc4 := cbk q2.out 4 (.int .i64 C.l1) rfl
  have qc5 := cbk q2.out 5 (.slice a1 C.w1.length c1) rfl
  have ql := blk_lt q2.out
  have rc0 := cbk r2.out 0 (.int .i64 0) rfl
  have rc1 := cbk r2.out 1 (.int .i64 0) rfl
  have rl := blk_lt r2.out
  obtain ⟨v3, c3, rfl, hv31, hv32⟩ := N2.out.shape
  clear hO
  go_wp2_with fail
  refine (at_yes 0 0 _ (pickL (planL C) (C.parts.length + 0) C.chans.length) 0 k (C.chans.length : Int) (by omega) (by omega) (by rw [pickL_len]; omega) (by rw [pickL_len]; omega) _ HS.out _ (by rw [pickL_len]; exact (N2.out.below (below_al (Below.refl _ _) _)))).mono ?_
  rintro e w3 ⟨rfl, hb⟩
  have p3 : Kp (w3.heap[w2.heap.size]? = some (.cells #[.int .i64 0, .slice v3 C.chans.length c3, .int .i64 0] 157 (0, 0))) := ⟨blk_below (blk_new _ _) hb⟩
  have q3 : Kp (w3.heap[w.heap.size]? = some (.cells #[.slice pa C.parts.length pc, .slice ca C.chans.length cc, .int .i64 C.l0, .slice a0 C.w0.length c0, .int .i64 C.l1, .slice a1 C.w1.length c1] 31 (0, 0))) := ⟨blk_below (blk_al q2.out _) hb⟩
  have r3 : Kp (w3.heap[w.heap.size + 1]? = some (.cells #[.int .i64 0, .int .i64 0] 105 (0, 0))) := ⟨blk_below (blk_al r2.out _) hb⟩
  have HB3 : Kp (Below w.heap.size w w3) := ⟨below_call (below_al HB2.out _) hb⟩
  clear qc0 qc1 qc2 qc3 qc4 qc5 ql rc0 rc1 rl q2 r2 HB2 N2 hb
  have pc0 := cbk p3.out 0 (.int .i64 0) rfl
  have pc1 := cbk p3.out 1 (.slice v3 C.chans.length c3) rfl
  have pc2 := cbk p3.out 2 (.int .i64 0) rfl
  have pl := blk_lt p3.out
  have qc0 := cbk q3.out 0 (.slice pa C.parts.length pc) rfl
  have qc1 := cbk q3.out 1 (.slice ca C.chans.length cc) rfl
  have qc2 := cbk q3.out 2 (.int .i64 C.l0) rfl
  have qc3 := cbk q3.out 3 (.slice a0 C.w0.length c0) rfl
  have qc4 := cbk q3.out 4 (.int .i64 C.l1) rfl
  have qc5 := cbk q3.out 5 (.slice a1 C.w1.length c1) rfl
  have ql := blk_lt q3.out
  have rc0 := cbk r3.out 0 (.int .i64 0) rfl
  have rc1 := cbk r3.out 1 (.int .i64 0) rfl
  have rl := blk_lt r3.out
  have rf0 := frozen_blk r3.out 0
  have rf1 := frozen_blk r3.out 1
  go_wp2
  exact bodyPost_ret (v := .agg #[.int .i64 (srcB C k).1, .int .i64 (srcB C k).2]) (results_cell_row rfl _ _ _ _ _ _ _ rfl ((blk_set (blk_set r3.out 0 _) 1 _).trans rfl) Tryz.underlying105 rfl (by kernel_rfl)) rfl ⟨rfl, (Below.setCell (Below.setCell HB3.out (p := ⟨w.heap.size + 1, 0, none⟩) (by show w.heap.size ≤ w.heap.size + 1; omega) _) (p := ⟨w.heap.size + 1, 1, none⟩) (by show w.heap.size ≤ w.heap.size + 1; omega) _)⟩
set_option maxRecDepth 100000 in
set_option maxHeartbeats 4000000 in
theorem source_out (cv : Value) (C : Cfg) (hsm : C.small) (ha : accB C = true) (k : Int) (hk : ¬ (0 ≤ k ∧ k < C.chans.length)) (w : World) (h : CfgAt w cv C) : Calls Tryz.prog 81 #[cv, .int .i64 k] w fun e w' => e = .returned (.agg #[.int .i64 (srcB C k).1, .int .i64 (srcB C k).2]) ∧ Below w.heap.size w w' := by
  have HC := Kp.mk h
  have HZ := Kp.mk (srcB_no C k fun h => hk h.2)
  have hnp := (acc_of ha).np
  have hnc := (acc_of ha).nc
  have HPL := Kp.mk (planL_len C ha)
  have HKK := Kp.mk hk
  clear hk
  obtain ⟨ho, pa, pc, ca, cc, a0, c0, a1, c1, rfl, bp, bc, b0, b1, hp, hc, hw0, hw1⟩ := h
  clear ho hp hc hw0 hw1
  go_enter Tryz.func81, Tryz.ntmps81
  have HB0 : Kp (Below w.heap.size w w) := ⟨Below.refl _ _⟩
  go_wp2_with fail
  refine (of_yes _ C hsm ha _ (HC.out.below (below_al (below_al HB0.out _) _))).mono ?_
  rintro e w1 ⟨⟨v, rfl, hO⟩, hb⟩
  have q1 : Kp (w1.heap[w.heap.size]? = some (.cells #[.slice pa C.parts.length pc, .slice ca C.chans.length cc, .int .i64 C.l0, .slice a0 C.w0.length c0, .int .i64 C.l1, .slice a1 C.w1.length c1] 31 (0, 0))) := ⟨blk_below (blk_al (blk_new _ _) _) hb⟩
  have r1 : Kp (w1.heap[w.heap.size + 1]? = some (.cells #[.int .i64 0, .int .i64 0] 105 (0, 0))) := ⟨blk_below (blk_at (w := (w.alloc (.cells #[.slice pa C.parts.length pc, .slice ca C.chans.length cc, .int .i64 C.l0, .slice a0 C.w0.length c0, .int .i64 C.l1, .slice a1 C.w1.length c1] 31))) (by simp) _) hb⟩
  have HB1 : Kp (Below w.heap.size w w1) := ⟨below_call (below_al (below_al HB0.out _) _) hb⟩
  have O1 : Kp (RowAt w1 2 v (planL C).length ((planL C).flatMap spanC)) := ⟨RowAt.of_own hO⟩
  clear HB0 hb
  have qc0 := cbk q1.out 0 (.slice pa C.parts.length pc) rfl
  have qc1 := cbk q1.out 1 (.slice ca C.chans.length cc) rfl
  have qc2 := cbk q1.out 2 (.int .i64 C.l0) rfl
  have qc3 := cbk q1.out 3 (.slice a0 C.w0.length c0) rfl
  have qc4 := cbk q1.out 4 (.int .i64 C.l1) rfl
  have qc5 := cbk q1.out 5 (.slice a1 C.w1.length c1) rfl
  have ql := blk_lt q1.out
  have rc0 := cbk r1.out 0 (.int .i64 0) rfl
  have rc1 := cbk r1.out 1 (.int .i64 0) rfl
  have rl := blk_lt r1.out
  obtain ⟨va, vc, rfl, hva1, hva2⟩ := O1.out.shape
  clear hO
  go_wp2_with fail
  refine (chans_any C.parts.length C.chans.length 0 (planE C) _ (planL C) (by omega) (by omega) (by omega) HPL.out _ O1.out).mono ?_
  rintro e w2 ⟨v2, rfl, hO, hb⟩
  have q2 : Kp (w2.heap[w.heap.size]? = some (.cells #[.slice pa C.parts.length pc, .slice ca C.chans.length cc, .int .i64 C.l0, .slice a0 C.w0.length c0, .int .i64 C.l1, .slice a1 C.w1.length c1] 31 (0, 0))) := ⟨blk_below q1.out hb⟩
  have r2 : Kp (w2.heap[w.heap.size + 1]? = some (.cells #[.int .i64 0, .int .i64 0] 105 (0, 0))) := ⟨blk_below r1.out hb⟩
  have HB2 : Kp (Below w.heap.size w w2) := ⟨below_call HB1.out hb⟩
  have N2 : Kp (RowAt w2 2 v2 C.chans.length ((pickL (planL C) (C.parts.length + 0) C.chans.length).flatMap spanC)) := ⟨RowAt.of_own hO⟩
  clear qc0 qc1 qc2 qc3 qc4 qc5 ql rc0 rc1 rl q1 r1 HB1 O1 hb
  have qc0 := cbk q2.out 0 (.slice pa C.parts.length pc) rfl
  have qc1 := cbk q2.out 1 (.slice ca C.chans.length cc) rfl
  have qc2 := cbk q2.out 2 (.int .i64 C.l0) rfl
  have qc3 := cbk q2.out 3 (.slice a0 C.w0.length c0) rfl
  have qc4 := cbk q2.out 4 (.int .i64 C.l1) rfl
  have qc5 := cbk q2.out 5 (.slice a1 C.w1.length c1) rfl
  have ql := blk_lt q2.out
  have rc0 := cbk r2.out 0 (.int .i64 0) rfl
  have rc1 := cbk r2.out 1 (.int .i64 0) rfl
  have rl := blk_lt r2.out
  obtain ⟨v3, c3, rfl, hv31, hv32⟩ := N2.out.shape
  clear hO
  go_wp2_with fail
  refine (at_no _ _ _ _ k (C.chans.length : Int) HKK.out _).mono ?_
  rintro e w3 ⟨rfl, hb⟩
  have p3 : Kp (w3.heap[w2.heap.size]? = some (.cells #[.int .i64 0, .slice v3 C.chans.length c3, .int .i64 0] 157 (0, 0))) := ⟨blk_below (blk_new _ _) hb⟩
  have q3 : Kp (w3.heap[w.heap.size]? = some (.cells #[.slice pa C.parts.length pc, .slice ca C.chans.length cc, .int .i64 C.l0, .slice a0 C.w0.length c0, .int .i64 C.l1, .slice a1 C.w1.length c1] 31 (0, 0))) := ⟨blk_below (blk_al q2.out _) hb⟩
  have r3 : Kp (w3.heap[w.heap.size + 1]? = some (.cells #[.int .i64 0, .int .i64 0] 105 (0, 0))) := ⟨blk_below (blk_al r2.out _) hb⟩
  have HB3 : Kp (Below w.heap.size w w3) := ⟨below_call (below_al HB2.out _) hb⟩
  clear qc0 qc1 qc2 qc3 qc4 qc5 ql rc0 rc1 rl q2 r2 HB2 N2 hb
  have pc0 := cbk p3.out 0 (.int .i64 0) rfl
  have pc1 := cbk p3.out 1 (.slice v3 C.chans.length c3) rfl
  have pc2 := cbk p3.out 2 (.int .i64 0) rfl
  have pl := blk_lt p3.out
  have qc0 := cbk q3.out 0 (.slice pa C.parts.length pc) rfl
  have qc1 := cbk q3.out 1 (.slice ca C.chans.length cc) rfl
  have qc2 := cbk q3.out 2 (.int .i64 C.l0) rfl
  have qc3 := cbk q3.out 3 (.slice a0 C.w0.length c0) rfl
  have qc4 := cbk q3.out 4 (.int .i64 C.l1) rfl
  have qc5 := cbk q3.out 5 (.slice a1 C.w1.length c1) rfl
  have ql := blk_lt q3.out
  have rc0 := cbk r3.out 0 (.int .i64 0) rfl
  have rc1 := cbk r3.out 1 (.int .i64 0) rfl
  have rl := blk_lt r3.out
  have rf0 := frozen_blk r3.out 0
  have rf1 := frozen_blk r3.out 1
  go_wp2
  exact bodyPost_ret (v := .agg #[.int .i64 0, .int .i64 0]) (results_cell_row rfl _ _ _ _ _ _ _ rfl ((blk_set (blk_set r3.out 0 _) 1 _).trans rfl) Tryz.underlying105 rfl (by kernel_rfl)) rfl ⟨zero_out HZ.out, (Below.setCell (Below.setCell HB3.out (p := ⟨w.heap.size + 1, 0, none⟩) (by show w.heap.size ≤ w.heap.size + 1; omega) _) (p := ⟨w.heap.size + 1, 1, none⟩) (by show w.heap.size ≤ w.heap.size + 1; omega) _)⟩
set_option maxRecDepth 100000 in
set_option maxHeartbeats 4000000 in
theorem source_no (cv : Value) (C : Cfg) (hsm : C.small) (ha : accB C = false) (k : Int) (w : World) (h : CfgAt w cv C) : Calls Tryz.prog 81 #[cv, .int .i64 k] w fun e w' => e = .returned (.agg #[.int .i64 (srcB C k).1, .int .i64 (srcB C k).2]) ∧ Below w.heap.size w w' := by
  have HC := Kp.mk h
  have HZ := Kp.mk (srcB_no C k fun h => by rw [ha] at h; cases h.1)
  obtain ⟨ho, pa, pc, ca, cc, a0, c0, a1, c1, rfl, bp, bc, b0, b1, hp, hc, hw0, hw1⟩ := h
  clear ho hp hc hw0 hw1
  go_enter Tryz.func81, Tryz.ntmps81
  have HB0 : Kp (Below w.heap.size w w) := ⟨Below.refl _ _⟩
  go_wp2_with fail
  refine (of_no _ C hsm ha _ (HC.out.below (below_al (below_al HB0.out _) _))).mono ?_
  rintro e w1 ⟨rfl, hb⟩
  have q1 : Kp (w1.heap[w.heap.size]? = some (.cells #[.slice pa C.parts.length pc, .slice ca C.chans.length cc, .int .i64 C.l0, .slice a0 C.w0.length c0, .int .i64 C.l1, .slice a1 C.w1.length c1] 31 (0, 0))) := ⟨blk_below (blk_al (blk_new _ _) _) hb⟩
  have r1 : Kp (w1.heap[w.heap.size + 1]? = some (.cells #[.int .i64 0, .int .i64 0] 105 (0, 0))) := ⟨blk_below (blk_at (w := (w.alloc (.cells #[.slice pa C.parts.length pc, .slice ca C.chans.length cc, .int .i64 C.l0, .slice a0 C.w0.length c0, .int .i64 C.l1, .slice a1 C.w1.length c1] 31))) (by simp) _) hb⟩
  have HB1 : Kp (Below w.heap.size w w1) := ⟨below_call (below_al (below_al HB0.out _) _) hb⟩
  clear HB0 hb
  have qc0 := cbk q1.out 0 (.slice pa C.parts.length pc) rfl
  have qc1 := cbk q1.out 1 (.slice ca C.chans.length cc) rfl
  have qc2 := cbk q1.out 2 (.int .i64 C.l0) rfl
  have qc3 := cbk q1.out 3 (.slice a0 C.w0.length c0) rfl
  have qc4 := cbk q1.out 4 (.int .i64 C.l1) rfl
  have qc5 := cbk q1.out 5 (.slice a1 C.w1.length c1) rfl
  have ql := blk_lt q1.out
  have rc0 := cbk r1.out 0 (.int .i64 0) rfl
  have rc1 := cbk r1.out 1 (.int .i64 0) rfl
  have rl := blk_lt r1.out
  go_wp2_with fail
  refine (chans_any 0 0 0 0 (.slice none 0 0) [] (by omega) (by omega) (by omega) rfl _ (no_row _ 0)).mono ?_
  rintro e w2 ⟨v2, rfl, hO, hb⟩
  have q2 : Kp (w2.heap[w.heap.size]? = some (.cells #[.slice pa C.parts.length pc, .slice ca C.chans.length cc, .int .i64 C.l0, .slice a0 C.w0.length c0, .int .i64 C.l1, .slice a1 C.w1.length c1] 31 (0, 0))) := ⟨blk_below q1.out hb⟩
  have r2 : Kp (w2.heap[w.heap.size + 1]? = some (.cells #[.int .i64 0, .int .i64 0] 105 (0, 0))) := ⟨blk_below r1.out hb⟩
  have HB2 : Kp (Below w.heap.size w w2) := ⟨below_call HB1.out hb⟩
  have N2 : Kp (RowAt w2 2 v2 0 ((pickL [] (0 + 0) 0).flatMap spanC)) := ⟨RowAt.of_own hO⟩
  clear qc0 qc1 qc2 qc3 qc4 qc5 ql rc0 rc1 rl q1 r1 HB1 hb
  have qc0 := cbk q2.out 0 (.slice pa C.parts.length pc) rfl
  have qc1 := cbk q2.out 1 (.slice ca C.chans.length cc) rfl
  have qc2 := cbk q2.out 2 (.int .i64 C.l0) rfl
  have qc3 := cbk q2.out 3 (.slice a0 C.w0.length c0) rfl
  have qc4 := cbk q2.out 4 (.int .i64 C.l1) rfl
  have qc5 := cbk q2.out 5 (.slice a1 C.w1.length c1) rfl
  have ql := blk_lt q2.out
  have rc0 := cbk r2.out 0 (.int .i64 0) rfl
  have rc1 := cbk r2.out 1 (.int .i64 0) rfl
  have rl := blk_lt r2.out
  obtain ⟨v3, c3, rfl, hv31, hv32⟩ := N2.out.shape
  clear hO
  go_wp2_with fail
  refine (at_no _ _ _ _ k 0 (by omega) _).mono ?_
  rintro e w3 ⟨rfl, hb⟩
  have p3 : Kp (w3.heap[w2.heap.size]? = some (.cells #[.int .i64 0, .slice v3 0 c3, .int .i64 0] 157 (0, 0))) := ⟨blk_below (blk_new _ _) hb⟩
  have q3 : Kp (w3.heap[w.heap.size]? = some (.cells #[.slice pa C.parts.length pc, .slice ca C.chans.length cc, .int .i64 C.l0, .slice a0 C.w0.length c0, .int .i64 C.l1, .slice a1 C.w1.length c1] 31 (0, 0))) := ⟨blk_below (blk_al q2.out _) hb⟩
  have r3 : Kp (w3.heap[w.heap.size + 1]? = some (.cells #[.int .i64 0, .int .i64 0] 105 (0, 0))) := ⟨blk_below (blk_al r2.out _) hb⟩
  have HB3 : Kp (Below w.heap.size w w3) := ⟨below_call (below_al HB2.out _) hb⟩
  clear qc0 qc1 qc2 qc3 qc4 qc5 ql rc0 rc1 rl q2 r2 HB2 N2 hb
  have pc0 := cbk p3.out 0 (.int .i64 0) rfl
  have pc1 := cbk p3.out 1 (.slice v3 0 c3) rfl
  have pc2 := cbk p3.out 2 (.int .i64 0) rfl
  have pl := blk_lt p3.out
  have qc0 := cbk q3.out 0 (.slice pa C.parts.length pc) rfl
  have qc1 := cbk q3.out 1 (.slice ca C.chans.length cc) rfl
  have qc2 := cbk q3.out 2 (.int .i64 C.l0) rfl
  have qc3 := cbk q3.out 3 (.slice a0 C.w0.length c0) rfl
  have qc4 := cbk q3.out 4 (.int .i64 C.l1) rfl
  have qc5 := cbk q3.out 5 (.slice a1 C.w1.length c1) rfl
  have ql := blk_lt q3.out
  have rc0 := cbk r3.out 0 (.int .i64 0) rfl
  have rc1 := cbk r3.out 1 (.int .i64 0) rfl
  have rl := blk_lt r3.out
  have rf0 := frozen_blk r3.out 0
  have rf1 := frozen_blk r3.out 1
  go_wp2
  exact bodyPost_ret (v := .agg #[.int .i64 0, .int .i64 0]) (results_cell_row rfl _ _ _ _ _ _ _ rfl ((blk_set (blk_set r3.out 0 _) 1 _).trans rfl) Tryz.underlying105 rfl (by kernel_rfl)) rfl ⟨zero_out HZ.out, (Below.setCell (Below.setCell HB3.out (p := ⟨w.heap.size + 1, 0, none⟩) (by show w.heap.size ≤ w.heap.size + 1; omega) _) (p := ⟨w.heap.size + 1, 1, none⟩) (by show w.heap.size ≤ w.heap.size + 1; omega) _)⟩
theorem source_any (cv : Value) (C : Cfg) (hsm : C.small) (k : Int) (w : World) (h : CfgAt w cv C) : Calls Tryz.prog 81 #[cv, .int .i64 k] w fun e w' => e = .returned (.agg #[.int .i64 (srcB C k).1, .int .i64 (srcB C k).2]) ∧ Below w.heap.size w w' := by
  cases ha : accB C with
  | true =>
    by_cases hk : 0 ≤ k ∧ k < C.chans.length
    · obtain ⟨j, rfl⟩ := Int.eq_ofNat_of_zero_le hk.1
      exact source_yes cv C hsm ha j (by omega) w h
    · exact source_out cv C hsm ha k hk w h
  | false => exact source_no cv C hsm ha k w h
set_option maxRecDepth 100000 in
set_option maxHeartbeats 4000000 in
theorem dest_yes (cv : Value) (C : Cfg) (hsm : C.small) (ha : accB C = true) (k : Nat) (hk : k < C.chans.length) (w : World) (h : CfgAt w cv C) : Calls Tryz.prog 82 #[cv, .int .i64 k] w fun e w' => e = .returned (.agg #[.int .i64 (dstB C k).1, .int .i64 (dstB C k).2]) ∧ Below w.heap.size w w' := by
  have HC := Kp.mk h
  have HS := Kp.mk (dstB_yes C ha k hk)
  have hnp := (acc_of ha).np
  have hnc := (acc_of ha).nc
  have HPL := Kp.mk (planL_len C ha)
  obtain ⟨ho, pa, pc, ca, cc, a0, c0, a1, c1, rfl, bp, bc, b0, b1, hp, hc, hw0, hw1⟩ := h
  clear ho hp hc hw0 hw1
  go_enter Tryz.func82, Tryz.ntmps82
  have HB0 : Kp (Below w.heap.size w w) := ⟨Below.refl _ _⟩
  go_wp2_with fail
  refine (of_yes _ C hsm ha _ (HC.out.below (below_al (below_al HB0.out _) _))).mono ?_
  rintro e w1 ⟨⟨v, rfl, hO⟩, hb⟩
  have q1 : Kp (w1.heap[w.heap.size]? = some (.cells #[.slice pa C.parts.length pc, .slice ca C.chans.length cc, .int .i64 C.l0, .slice a0 C.w0.length c0, .int .i64 C.l1, .slice a1 C.w1.length c1] 31 (0, 0))) := ⟨blk_below (blk_al (blk_new _ _) _) hb⟩
  have r1 : Kp (w1.heap[w.heap.size + 1]? = some (.cells #[.int .i64 0, .int .i64 0] 105 (0, 0))) := ⟨blk_below (blk_at (w := (w.alloc (.cells #[.slice pa C.parts.length pc, .slice ca C.chans.length cc, .int .i64 C.l0, .slice a0 C.w0.length c0, .int .i64 C.l1, .slice a1 C.w1.length c1] 31))) (by simp) _) hb⟩
  have HB1 : Kp (Below w.heap.size w w1) := ⟨below_call (below_al (below_al HB0.out _) _) hb⟩
  have O1 : Kp (RowAt w1 2 v (planL C).length ((planL C).flatMap spanC)) := ⟨RowAt.of_own hO⟩
  clear HB0 hb
  have qc0 := cbk q1.out 0 (.slice pa C.parts.length pc) rfl
  have qc1 := cbk q1.out 1 (.slice ca C.chans.length cc) rfl
  have qc2 := cbk q1.out 2 (.int .i64 C.l0) rfl
  have qc3 := cbk q1.out 3 (.slice a0 C.w0.length c0) rfl
  have qc4 := cbk q1.out 4 (.int .i64 C.l1) rfl
  have qc5 := cbk q1.out 5 (.slice a1 C.w1.length c1) rfl
  have ql := blk_lt q1.out
  have rc0 := cbk r1.out 0 (.int .i64 0) rfl
  have rc1 := cbk r1.out 1 (.int .i64 0) rfl
  have rl := blk_lt r1.out
  obtain ⟨va, vc, rfl, hva1, hva2⟩ := O1.out.shape
  clear hO
  go_wp2_with fail
  refine (chans_any C.parts.length C.chans.length 1 (planE C) _ (planL C) (by omega) (by omega) (by omega) HPL.out _ O1.out).mono ?_
  rintro e w2 ⟨v2, rfl, hO, hb⟩
  have q2 : Kp (w2.heap[w.heap.size]? = some (.cells #[.slice pa C.parts.length pc, .slice ca C.chans.length cc, .int .i64 C.l0, .slice a0 C.w0.length c0, .int .i64 C.l1, .slice a1 C.w1.length c1] 31 (0, 0))) := ⟨blk_below q1.out hb⟩
  have r2 : Kp (w2.heap[w.heap.size + 1]? = some (.cells #[.int .i64 0, .int .i64 0] 105 (0, 0))) := ⟨blk_below r1.out hb⟩
  have HB2 : Kp (Below w.heap.size w w2) := ⟨below_call HB1.out hb⟩
  have N2 : Kp (RowAt w2 2 v2 C.chans.length ((pickL (planL C) (C.parts.length + 1) C.chans.length).flatMap spanC)) := ⟨RowAt.of_own hO⟩
  clear qc0 qc1 qc2 qc3 qc4 qc5 ql rc0 rc1 rl q1 r1 HB1 O1 hb
  have qc0 := cbk q2.out 0 (.slice pa C.parts.length pc) rfl
  have qc1 := cbk q2.out 1 (.slice ca C.chans.length cc) rfl
  have qc2 := cbk q2.out 2 (.int .i64 C.l0) rfl
  have qc3 := cbk q2.out 3 (.slice a0 C.w0.length c0) rfl
  have qc4 := cbk q2.out 4 (.int .i64 C.l1) rfl
  have qc5 := cbk q2.out 5 (.slice a1 C.w1.length c1) rfl
  have ql := blk_lt q2.out
  have rc0 := cbk r2.out 0 (.int .i64 0) rfl
  have rc1 := cbk r2.out 1 (.int .i64 0) rfl
  have rl := blk_lt r2.out
  obtain ⟨v3, c3, rfl, hv31, hv32⟩ := N2.out.shape
  clear hO
  go_wp2_with fail
  refine (at_yes 0 0 _ (pickL (planL C) (C.parts.length + 1) C.chans.length) 0 k (C.chans.length : Int) (by omega) (by omega) (by rw [pickL_len]; omega) (by rw [pickL_len]; omega) _ HS.out _ (by rw [pickL_len]; exact (N2.out.below (below_al (Below.refl _ _) _)))).mono ?_
  rintro e w3 ⟨rfl, hb⟩
  have p3 : Kp (w3.heap[w2.heap.size]? = some (.cells #[.int .i64 0, .slice v3 C.chans.length c3, .int .i64 0] 157 (0, 0))) := ⟨blk_below (blk_new _ _) hb⟩
  have q3 : Kp (w3.heap[w.heap.size]? = some (.cells #[.slice pa C.parts.length pc, .slice ca C.chans.length cc, .int .i64 C.l0, .slice a0 C.w0.length c0, .int .i64 C.l1, .slice a1 C.w1.length c1] 31 (0, 0))) := ⟨blk_below (blk_al q2.out _) hb⟩
  have r3 : Kp (w3.heap[w.heap.size + 1]? = some (.cells #[.int .i64 0, .int .i64 0] 105 (0, 0))) := ⟨blk_below (blk_al r2.out _) hb⟩
  have HB3 : Kp (Below w.heap.size w w3) := ⟨below_call (below_al HB2.out _) hb⟩
  clear qc0 qc1 qc2 qc3 qc4 qc5 ql rc0 rc1 rl q2 r2 HB2 N2 hb
  have pc0 := cbk p3.out 0 (.int .i64 0) rfl
  have pc1 := cbk p3.out 1 (.slice v3 C.chans.length c3) rfl
  have pc2 := cbk p3.out 2 (.int .i64 0) rfl
  have pl := blk_lt p3.out
  have qc0 := cbk q3.out 0 (.slice pa C.parts.length pc) rfl
  have qc1 := cbk q3.out 1 (.slice ca C.chans.length cc) rfl
  have qc2 := cbk q3.out 2 (.int .i64 C.l0) rfl
  have qc3 := cbk q3.out 3 (.slice a0 C.w0.length c0) rfl
  have qc4 := cbk q3.out 4 (.int .i64 C.l1) rfl
  have qc5 := cbk q3.out 5 (.slice a1 C.w1.length c1) rfl
  have ql := blk_lt q3.out
  have rc0 := cbk r3.out 0 (.int .i64 0) rfl
  have rc1 := cbk r3.out 1 (.int .i64 0) rfl
  have rl := blk_lt r3.out
  have rf0 := frozen_blk r3.out 0
  have rf1 := frozen_blk r3.out 1
  go_wp2
  exact bodyPost_ret (v := .agg #[.int .i64 (dstB C k).1, .int .i64 (dstB C k).2]) (results_cell_row rfl _ _ _ _ _ _ _ rfl ((blk_set (blk_set r3.out 0 _) 1 _).trans rfl) Tryz.underlying105 rfl (by kernel_rfl)) rfl ⟨rfl, (Below.setCell (Below.setCell HB3.out (p := ⟨w.heap.size + 1, 0, none⟩) (by show w.heap.size ≤ w.heap.size + 1; omega) _) (p := ⟨w.heap.size + 1, 1, none⟩) (by show w.heap.size ≤ w.heap.size + 1; omega) _)⟩
set_option maxRecDepth 100000 in
set_option maxHeartbeats 4000000 in
theorem dest_out (cv : Value) (C : Cfg) (hsm : C.small) (ha : accB C = true) (k : Int) (hk : ¬ (0 ≤ k ∧ k < C.chans.length)) (w : World) (h : CfgAt w cv C) : Calls Tryz.prog 82 #[cv, .int .i64 k] w fun e w' => e = .returned (.agg #[.int .i64 (dstB C k).1, .int .i64 (dstB C k).2]) ∧ Below w.heap.size w w' := by
  have HC := Kp.mk h
  have HZ := Kp.mk (dstB_no C k fun h => hk h.2)
  have hnp := (acc_of ha).np
  have hnc := (acc_of ha).nc
  have HPL := Kp.mk (planL_len C ha)
  have HKK := Kp.mk hk
  clear hk
  obtain ⟨ho, pa, pc, ca, cc, a0, c0, a1, c1, rfl, bp, bc, b0, b1, hp, hc, hw0, hw1⟩ := h
  clear ho hp hc hw0 hw1
  go_enter Tryz.func82, Tryz.ntmps82
  have HB0 : Kp (Below w.heap.size w w) := ⟨Below.refl _ _⟩
  go_wp2_with fail
  refine (of_yes _ C hsm ha _ (HC.out.below (below_al (below_al HB0.out _) _))).mono ?_
  rintro e w1 ⟨⟨v, rfl, hO⟩, hb⟩
  have q1 : Kp (w1.heap[w.heap.size]? = some (.cells #[.slice pa C.parts.length pc, .slice ca C.chans.length cc, .int .i64 C.l0, .slice a0 C.w0.length c0, .int .i64 C.l1, .slice a1 C.w1.length c1] 31 (0, 0))) := ⟨blk_below (blk_al (blk_new _ _) _) hb⟩
  have r1 : Kp (w1.heap[w.heap.size + 1]? = some (.cells #[.int .i64 0, .int .i64 0] 105 (0, 0))) := ⟨blk_below (blk_at (w := (w.alloc (.cells #[.slice pa C.parts.length pc, .slice ca C.chans.length cc, .int .i64 C.l0, .slice a0 C.w0.length c0, .int .i64 C.l1, .slice a1 C.w1.length c1] 31))) (by simp) _) hb⟩
  have HB1 : Kp (Below w.heap.size w w1) := ⟨below_call (below_al (below_al HB0.out _) _) hb⟩
  have O1 : Kp (RowAt w1 2 v (planL C).length ((planL C).flatMap spanC)) := ⟨RowAt.of_own hO⟩
  clear HB0 hb
  have qc0 := cbk q1.out 0 (.slice pa C.parts.length pc) rfl
  have qc1 := cbk q1.out 1 (.slice ca C.chans.length cc) rfl
  have qc2 := cbk q1.out 2 (.int .i64 C.l0) rfl
  have qc3 := cbk q1.out 3 (.slice a0 C.w0.length c0) rfl
  have qc4 := cbk q1.out 4 (.int .i64 C.l1) rfl
  have qc5 := cbk q1.out 5 (.slice a1 C.w1.length c1) rfl
  have ql := blk_lt q1.out
  have rc0 := cbk r1.out 0 (.int .i64 0) rfl
  have rc1 := cbk r1.out 1 (.int .i64 0) rfl
  have rl := blk_lt r1.out
  obtain ⟨va, vc, rfl, hva1, hva2⟩ := O1.out.shape
  clear hO
  go_wp2_with fail
  refine (chans_any C.parts.length C.chans.length 1 (planE C) _ (planL C) (by omega) (by omega) (by omega) HPL.out _ O1.out).mono ?_
  rintro e w2 ⟨v2, rfl, hO, hb⟩
  have q2 : Kp (w2.heap[w.heap.size]? = some (.cells #[.slice pa C.parts.length pc, .slice ca C.chans.length cc, .int .i64 C.l0, .slice a0 C.w0.length c0, .int .i64 C.l1, .slice a1 C.w1.length c1] 31 (0, 0))) := ⟨blk_below q1.out hb⟩
  have r2 : Kp (w2.heap[w.heap.size + 1]? = some (.cells #[.int .i64 0, .int .i64 0] 105 (0, 0))) := ⟨blk_below r1.out hb⟩
  have HB2 : Kp (Below w.heap.size w w2) := ⟨below_call HB1.out hb⟩
  have N2 : Kp (RowAt w2 2 v2 C.chans.length ((pickL (planL C) (C.parts.length + 1) C.chans.length).flatMap spanC)) := ⟨RowAt.of_own hO⟩
  clear qc0 qc1 qc2 qc3 qc4 qc5 ql rc0 rc1 rl q1 r1 HB1 O1 hb
  have qc0 := cbk q2.out 0 (.slice pa C.parts.length pc) rfl
  have qc1 := cbk q2.out 1 (.slice ca C.chans.length cc) rfl
  have qc2 := cbk q2.out 2 (.int .i64 C.l0) rfl
  have qc3 := cbk q2.out 3 (.slice a0 C.w0.length c0) rfl
  have qc4 := cbk q2.out 4 (.int .i64 C.l1) rfl
  have qc5 := cbk q2.out 5 (.slice a1 C.w1.length c1) rfl
  have ql := blk_lt q2.out
  have rc0 := cbk r2.out 0 (.int .i64 0) rfl
  have rc1 := cbk r2.out 1 (.int .i64 0) rfl
  have rl := blk_lt r2.out
  obtain ⟨v3, c3, rfl, hv31, hv32⟩ := N2.out.shape
  clear hO
  go_wp2_with fail
  refine (at_no _ _ _ _ k (C.chans.length : Int) HKK.out _).mono ?_
  rintro e w3 ⟨rfl, hb⟩
  have p3 : Kp (w3.heap[w2.heap.size]? = some (.cells #[.int .i64 0, .slice v3 C.chans.length c3, .int .i64 0] 157 (0, 0))) := ⟨blk_below (blk_new _ _) hb⟩
  have q3 : Kp (w3.heap[w.heap.size]? = some (.cells #[.slice pa C.parts.length pc, .slice ca C.chans.length cc, .int .i64 C.l0, .slice a0 C.w0.length c0, .int .i64 C.l1, .slice a1 C.w1.length c1] 31 (0, 0))) := ⟨blk_below (blk_al q2.out _) hb⟩
  have r3 : Kp (w3.heap[w.heap.size + 1]? = some (.cells #[.int .i64 0, .int .i64 0] 105 (0, 0))) := ⟨blk_below (blk_al r2.out _) hb⟩
  have HB3 : Kp (Below w.heap.size w w3) := ⟨below_call (below_al HB2.out _) hb⟩
  clear qc0 qc1 qc2 qc3 qc4 qc5 ql rc0 rc1 rl q2 r2 HB2 N2 hb
  have pc0 := cbk p3.out 0 (.int .i64 0) rfl
  have pc1 := cbk p3.out 1 (.slice v3 C.chans.length c3) rfl
  have pc2 := cbk p3.out 2 (.int .i64 0) rfl
  have pl := blk_lt p3.out
  have qc0 := cbk q3.out 0 (.slice pa C.parts.length pc) rfl
  have qc1 := cbk q3.out 1 (.slice ca C.chans.length cc) rfl
  have qc2 := cbk q3.out 2 (.int .i64 C.l0) rfl
  have qc3 := cbk q3.out 3 (.slice a0 C.w0.length c0) rfl
  have qc4 := cbk q3.out 4 (.int .i64 C.l1) rfl
  have qc5 := cbk q3.out 5 (.slice a1 C.w1.length c1) rfl
  have ql := blk_lt q3.out
  have rc0 := cbk r3.out 0 (.int .i64 0) rfl
  have rc1 := cbk r3.out 1 (.int .i64 0) rfl
  have rl := blk_lt r3.out
  have rf0 := frozen_blk r3.out 0
  have rf1 := frozen_blk r3.out 1
  go_wp2
  exact bodyPost_ret (v := .agg #[.int .i64 0, .int .i64 0]) (results_cell_row rfl _ _ _ _ _ _ _ rfl ((blk_set (blk_set r3.out 0 _) 1 _).trans rfl) Tryz.underlying105 rfl (by kernel_rfl)) rfl ⟨zero_out HZ.out, (Below.setCell (Below.setCell HB3.out (p := ⟨w.heap.size + 1, 0, none⟩) (by show w.heap.size ≤ w.heap.size + 1; omega) _) (p := ⟨w.heap.size + 1, 1, none⟩) (by show w.heap.size ≤ w.heap.size + 1; omega) _)⟩
set_option maxRecDepth 100000 in
set_option maxHeartbeats 4000000 in
theorem dest_no (cv : Value) (C : Cfg) (hsm : C.small) (ha : accB C = false) (k : Int) (w : World) (h : CfgAt w cv C) : Calls Tryz.prog 82 #[cv, .int .i64 k] w fun e w' => e = .returned (.agg #[.int .i64 (dstB C k).1, .int .i64 (dstB C k).2]) ∧ Below w.heap.size w w' := by
  have HC := Kp.mk h
  have HZ := Kp.mk (dstB_no C k fun h => by rw [ha] at h; cases h.1)
  obtain ⟨ho, pa, pc, ca, cc, a0, c0, a1, c1, rfl, bp, bc, b0, b1, hp, hc, hw0, hw1⟩ := h
  clear ho hp hc hw0 hw1
  go_enter Tryz.func82, Tryz.ntmps82
  have HB0 : Kp (Below w.heap.size w w) := ⟨Below.refl _ _⟩
  go_wp2_with fail
  refine (of_no _ C hsm ha _ (HC.out.below (below_al (below_al HB0.out _) _))).mono ?_
  rintro e w1 ⟨rfl, hb⟩
  have q1 : Kp (w1.heap[w.heap.size]? = some (.cells #[.slice pa C.parts.length pc, .slice ca C.chans.length cc, .int .i64 C.l0, .slice a0 C.w0.length c0, .int .i64 C.l1, .slice a1 C.w1.length c1] 31 (0, 0))) := ⟨blk_below (blk_al (blk_new _ _) _) hb⟩
  have r1 : Kp (w1.heap[w.heap.size + 1]? = some (.cells #[.int .i64 0, .int .i64 0] 105 (0, 0))) := ⟨blk_below (blk_at (w := (w.alloc (.cells #[.slice pa C.parts.length pc, .slice ca C.chans.length cc, .int .i64 C.l0, .slice a0 C.w0.length c0, .int .i64 C.l1, .slice a1 C.w1.length c1] 31))) (by simp) _) hb⟩
  have HB1 : Kp (Below w.heap.size w w1) := ⟨below_call (below_al (below_al HB0.out _) _) hb⟩
  clear HB0 hb
  have qc0 := cbk q1.out 0 (.slice pa C.parts.length pc) rfl
  have qc1 := cbk q1.out 1 (.slice ca C.chans.length cc) rfl
  have qc2 := cbk q1.out 2 (.int .i64 C.l0) rfl
  have qc3 := cbk q1.out 3 (.slice a0 C.w0.length c0) rfl
  have qc4 := cbk q1.out 4 (.int .i64 C.l1) rfl
  have qc5 := cbk q1.out 5 (.slice a1 C.w1.length c1) rfl
  have ql := blk_lt q1.out
  have rc0 := cbk r1.out 0 (.int .i64 0) rfl
  have rc1 := cbk r1.out 1 (.int .i64 0) rfl
  have rl := blk_lt r1.out
  go_wp2_with fail
  refine (chans_any 0 0 1 0 (.slice none 0 0) [] (by omega) (by omega) (by omega) rfl _ (no_row _ 0)).mono ?_
  rintro e w2 ⟨v2, rfl, hO, hb⟩
  have q2 : Kp (w2.heap[w.heap.size]? = some (.cells #[.slice pa C.parts.length pc, .slice ca C.chans.length cc, .int .i64 C.l0, .slice a0 C.w0.length c0, .int .i64 C.l1, .slice a1 C.w1.length c1] 31 (0, 0))) := ⟨blk_below q1.out hb⟩
  have r2 : Kp (w2.heap[w.heap.size + 1]? = some (.cells #[.int .i64 0, .int .i64 0] 105 (0, 0))) := ⟨blk_below r1.out hb⟩
  have HB2 : Kp (Below w.heap.size w w2) := ⟨below_call HB1.out hb⟩
  have N2 : Kp (RowAt w2 2 v2 0 ((pickL [] (0 + 1) 0).flatMap spanC)) := ⟨RowAt.of_own hO⟩
  clear qc0 qc1 qc2 qc3 qc4 qc5 ql rc0 rc1 rl q1 r1 HB1 hb
  have qc0 := cbk q2.out 0 (.slice pa C.parts.length pc) rfl
  have qc1 := cbk q2.out 1 (.slice ca C.chans.length cc) rfl
  have qc2 := cbk q2.out 2 (.int .i64 C.l0) rfl
  have qc3 := cbk q2.out 3 (.slice a0 C.w0.length c0) rfl
  have qc4 := cbk q2.out 4 (.int .i64 C.l1) rfl
  have qc5 := cbk q2.out 5 (.slice a1 C.w1.length c1) rfl
  have ql := blk_lt q2.out
  have rc0 := cbk r2.out 0 (.int .i64 0) rfl
  have rc1 := cbk r2.out 1 (.int .i64 0) rfl
  have rl := blk_lt r2.out
  obtain ⟨v3, c3, rfl, hv31, hv32⟩ := N2.out.shape
  clear hO
  go_wp2_with fail
  refine (at_no _ _ _ _ k 0 (by omega) _).mono ?_
  rintro e w3 ⟨rfl, hb⟩
  have p3 : Kp (w3.heap[w2.heap.size]? = some (.cells #[.int .i64 0, .slice v3 0 c3, .int .i64 0] 157 (0, 0))) := ⟨blk_below (blk_new _ _) hb⟩
  have q3 : Kp (w3.heap[w.heap.size]? = some (.cells #[.slice pa C.parts.length pc, .slice ca C.chans.length cc, .int .i64 C.l0, .slice a0 C.w0.length c0, .int .i64 C.l1, .slice a1 C.w1.length c1] 31 (0, 0))) := ⟨blk_below (blk_al q2.out _) hb⟩
  have r3 : Kp (w3.heap[w.heap.size + 1]? = some (.cells #[.int .i64 0, .int .i64 0] 105 (0, 0))) := ⟨blk_below (blk_al r2.out _) hb⟩
  have HB3 : Kp (Below w.heap.size w w3) := ⟨below_call (below_al HB2.out _) hb⟩
  clear qc0 qc1 qc2 qc3 qc4 qc5 ql rc0 rc1 rl q2 r2 HB2 N2 hb
  have pc0 := cbk p3.out 0 (.int .i64 0) rfl
  have pc1 := cbk p3.out 1 (.slice v3 0 c3) rfl
  have pc2 := cbk p3.out 2 (.int .i64 0) rfl
  have pl := blk_lt p3.out
  have qc0 := cbk q3.out 0 (.slice pa C.parts.length pc) rfl
  have qc1 := cbk q3.out 1 (.slice ca C.chans.length cc) rfl
  have qc2 := cbk q3.out 2 (.int .i64 C.l0) rfl
  have qc3 := cbk q3.out 3 (.slice a0 C.w0.length c0) rfl
  have qc4 := cbk q3.out 4 (.int .i64 C.l1) rfl
  have qc5 := cbk q3.out 5 (.slice a1 C.w1.length c1) rfl
  have ql := blk_lt q3.out
  have rc0 := cbk r3.out 0 (.int .i64 0) rfl
  have rc1 := cbk r3.out 1 (.int .i64 0) rfl
  have rl := blk_lt r3.out
  have rf0 := frozen_blk r3.out 0
  have rf1 := frozen_blk r3.out 1
  go_wp2
  exact bodyPost_ret (v := .agg #[.int .i64 0, .int .i64 0]) (results_cell_row rfl _ _ _ _ _ _ _ rfl ((blk_set (blk_set r3.out 0 _) 1 _).trans rfl) Tryz.underlying105 rfl (by kernel_rfl)) rfl ⟨zero_out HZ.out, (Below.setCell (Below.setCell HB3.out (p := ⟨w.heap.size + 1, 0, none⟩) (by show w.heap.size ≤ w.heap.size + 1; omega) _) (p := ⟨w.heap.size + 1, 1, none⟩) (by show w.heap.size ≤ w.heap.size + 1; omega) _)⟩
theorem dest_any (cv : Value) (C : Cfg) (hsm : C.small) (k : Int) (w : World) (h : CfgAt w cv C) : Calls Tryz.prog 82 #[cv, .int .i64 k] w fun e w' => e = .returned (.agg #[.int .i64 (dstB C k).1, .int .i64 (dstB C k).2]) ∧ Below w.heap.size w w' := by
  cases ha : accB C with
  | true =>
    by_cases hk : 0 ≤ k ∧ k < C.chans.length
    · obtain ⟨j, rfl⟩ := Int.eq_ofNat_of_zero_le hk.1
      exact dest_yes cv C hsm ha j (by omega) w h
    · exact dest_out cv C hsm ha k hk w h
  | false => exact dest_no cv C hsm ha k w h
end Go.Proofs.YtmidcnfmphlneaaGreat

/- Contracts of package layout: Size, Private, Source, Dest. -/
import Derived.Test.YtdajadfgiifioaaDoorLay3
namespace Go.Proofs.YtdajadfgiifioaaDoor
open Go.RowKit
set_option linter.unusedSimpArgs false
set_option linter.unusedVariables false

theorem pickL_at (L : List (Int × Int)) (p n k : Nat) (hk : k < n) (s : Int × Int) (h : L[p + k * 2]? = some s) : (pickL L p n)[0 + k]? = some s := by
  rw [Nat.zero_add, pickL, List.getElem?_map, List.getElem?_range hk]
  simp [List.getD_eq_getElem?_getD, h]
theorem privB_yes (C : Cfg) (h : accB C = true) (p : Nat) (hp : p < C.parts.length) : (planL C)[0 + p]? = some (privB C p) := by
  rw [Nat.zero_add, planL_priv C h p hp, privB, if_pos ⟨h, by omega, by omega⟩, Int.toNat_natCast, getD_at _ _ _ hp]
theorem srcB_yes (C : Cfg) (h : accB C = true) (k : Nat) (hk : k < C.chans.length) : (pickL (planL C) (C.parts.length + 0) C.chans.length)[0 + k]? = some (srcB C k) :=
  pickL_at _ _ _ _ hk _ (by rw [Nat.add_zero, planL_src C h k hk, srcB, if_pos ⟨h, by omega, by omega⟩, Int.toNat_natCast, getD_at _ _ _ hk])
theorem dstB_yes (C : Cfg) (h : accB C = true) (k : Nat) (hk : k < C.chans.length) : (pickL (planL C) (C.parts.length + 1) C.chans.length)[0 + k]? = some (dstB C k) :=
  pickL_at _ _ _ _ hk _ (by rw [show C.parts.length + 1 + k * 2 = C.parts.length + k * 2 + 1 by omega, planL_dst C h k hk, dstB, if_pos ⟨h, by omega, by omega⟩, Int.toNat_natCast, getD_at _ _ _ hk])
theorem privB_no (C : Cfg) (p : Int) (h : ¬ (accB C = true ∧ 0 ≤ p ∧ p < C.parts.length)) : privB C p = (0, 0) := if_neg h
theorem srcB_no (C : Cfg) (p : Int) (h : ¬ (accB C = true ∧ 0 ≤ p ∧ p < C.chans.length)) : srcB C p = (0, 0) := if_neg h
theorem dstB_no (C : Cfg) (p : Int) (h : ¬ (accB C = true ∧ 0 ≤ p ∧ p < C.chans.length)) : dstB C p = (0, 0) := if_neg h
theorem no_row (w : World) (s : Nat) : RowAt w 2 (.slice none 0 0) 0 [] := ⟨rfl, .inl ⟨⟨none, 0, rfl, Nat.zero_le _⟩, rfl⟩⟩
theorem zero_out {s : Int × Int} (h : s = (0, 0)) : (Ending.returned (.agg #[.int .i64 0, .int .i64 0])) = .returned (.agg #[.int .i64 s.1, .int .i64 s.2]) := by rw [h]
theorem plan_field2 (a e : Int) (va : Option Addr) (n vc : Nat) (w : World) : (Instr.field 145 (.agg #[.int .i64 a, .slice va n vc, .int .i64 e]) 2).run Tryd.prog w = .ok (.int .i64 e) w := by kernel_rfl
theorem plan_field1 (a e : Int) (va : Option Addr) (n vc : Nat) (w : World) : (Instr.field 145 (.agg #[.int .i64 a, .slice va n vc, .int .i64 e]) 1).run Tryd.prog w = .ok (.slice va n vc) w := by kernel_rfl

set_option maxRecDepth 100000 in
set_option maxHeartbeats 4000000 in
theorem private_yes (cv : Value) (C : Cfg) (hsm : C.small) (ha : accB C = true) (k : Nat) (hk : k < C.parts.length) (w : World) (h : CfgAt w cv C) : Calls Tryd.prog 75 #[cv, .int .i64 k] w fun e w' => e = .returned (.agg #[.int .i64 (privB C k).1, .int .i64 (privB C k).2]) ∧ Below w.heap.size w w' := by
  have HC := Kp.mk h
  have HS := Kp.mk (privB_yes C ha k hk)
  have hnp := (acc_of ha).np
  have hnc := (acc_of ha).nc
  have HPL := Kp.mk (planL_len C ha)
  obtain ⟨ho, pa, pc, ca, cc, a0, c0, a1, c1, rfl, bp, bc, b0, b1, hp, hc, hw0, hw1⟩ := h
  clear ho hp hc hw0 hw1
  go_enter Tryd.func75, Tryd.ntmps75
  have HB0 : Kp (Below w.heap.size w w) := ⟨Below.refl _ _⟩
  go_wp2_with fail
  refine (of_yes _ C hsm ha _ (HC.out.below (below_al (below_al HB0.out _) _))).mono ?_
  rintro e w1 ⟨⟨v, rfl, hO⟩, hb⟩
  have q1 : Kp (w1.heap[w.heap.size]? = some (.cells #[.slice pa C.parts.length pc, .slice ca C.chans.length cc, .int .i64 C.l0, .slice a0 C.w0.length c0, .int .i64 C.l1, .slice a1 C.w1.length c1] 29 (0, 0))) := ⟨blk_below (blk_al (blk_new _ _) _) hb⟩
  have r1 : Kp (w1.heap[w.heap.size + 1]? = some (.cells #[.int .i64 0, .int .i64 0] 85 (0, 0))) := ⟨blk_below (blk_at (w := (w.alloc (.cells #[.slice pa C.parts.length pc, .slice ca C.chans.length cc, .int .i64 C.l0, .slice a0 C.w0.length c0, .int .i64 C.l1, .slice a1 C.w1.length c1] 29))) (by simp) _) hb⟩
  have HB1 : Kp (Below w.heap.size w w1) := ⟨below_call (below_al (below_al HB0.out _) _) hb⟩
  have O1 : Kp (RowAt w1 2 v (planL C).length ((planL C).flatMap spanC)) := ⟨RowAt.of_own hO⟩
  clear HB0 hb
  have qc0 : w1.cell? ⟨w.heap.size, 0, none⟩ = some (.slice pa C.parts.length pc) := (cell_blk q1.out 0).trans rfl
  have qc1 : w1.cell? ⟨w.heap.size, 1, none⟩ = some (.slice ca C.chans.length cc) := (cell_blk q1.out 1).trans rfl
  have qc2 : w1.cell? ⟨w.heap.size, 2, none⟩ = some (.int .i64 C.l0) := (cell_blk q1.out 2).trans rfl
  have qc3 : w1.cell? ⟨w.heap.size, 3, none⟩ = some (.slice a0 C.w0.length c0) := (cell_blk q1.out 3).trans rfl
  have qc4 : w1.cell? ⟨w.heap.size, 4, none⟩ = some (.int .i64 C.l1) := (cell_blk q1.out 4).trans rfl
  have qc5 : w1.cell? ⟨w.heap.size, 5, none⟩ = some (.slice a1 C.w1.length c1) := (cell_blk q1.out 5).trans rfl
  have ql := blk_lt q1.out
  have rc0 : w1.cell? ⟨w.heap.size + 1, 0, none⟩ = some (.int .i64 0) := (cell_blk r1.out 0).trans rfl
  have rc1 : w1.cell? ⟨w.heap.size + 1, 1, none⟩ = some (.int .i64 0) := (cell_blk r1.out 1).trans rfl
  have rl := blk_lt r1.out
  obtain ⟨va, vc, rfl, hva1, hva2⟩ := O1.out.shape
  clear hO
  go_wp2_with fail
  refine (at_yes (C.parts.length : Int) (planE C) _ (planL C) 0 k (C.parts.length : Int) (by omega) (by omega) (by have := HPL.out; omega) (by have := HPL.out; omega) _ HS.out _ (O1.out.below (below_al (Below.refl _ _) _))).mono ?_
  rintro e w2 ⟨rfl, hb⟩
  have p2 : Kp (w2.heap[w1.heap.size]? = some (.cells #[.int .i64 C.parts.length, .slice va (planL C).length vc, .int .i64 (planE C)] 145 (0, 0))) := ⟨blk_below (blk_new _ _) hb⟩
  have q2 : Kp (w2.heap[w.heap.size]? = some (.cells #[.slice pa C.parts.length pc, .slice ca C.chans.length cc, .int .i64 C.l0, .slice a0 C.w0.length c0, .int .i64 C.l1, .slice a1 C.w1.length c1] 29 (0, 0))) := ⟨blk_below (blk_al q1.out _) hb⟩
  have r2 : Kp (w2.heap[w.heap.size + 1]? = some (.cells #[.int .i64 0, .int .i64 0] 85 (0, 0))) := ⟨blk_below (blk_al r1.out _) hb⟩
  have HB2 : Kp (Below w.heap.size w w2) := ⟨below_call (below_al HB1.out _) hb⟩
  clear qc0 qc1 qc2 qc3 qc4 qc5 ql rc0 rc1 rl q1 r1 HB1 O1 hb
  have pc0 : w2.cell? ⟨w1.heap.size, 0, none⟩ = some (.int .i64 C.parts.length) := (cell_blk p2.out 0).trans rfl
  have pc1 : w2.cell? ⟨w1.heap.size, 1, none⟩ = some (.slice va (planL C).length vc) := (cell_blk p2.out 1).trans rfl
  have pc2 : w2.cell? ⟨w1.heap.size, 2, none⟩ = some (.int .i64 (planE C)) := (cell_blk p2.out 2).trans rfl
  have pl := blk_lt p2.out
  have qc0 : w2.cell? ⟨w.heap.size, 0, none⟩ = some (.slice pa C.parts.length pc) := (cell_blk q2.out 0).trans rfl
  have qc1 : w2.cell? ⟨w.heap.size, 1, none⟩ = some (.slice ca C.chans.length cc) := (cell_blk q2.out 1).trans rfl
  have qc2 : w2.cell? ⟨w.heap.size, 2, none⟩ = some (.int .i64 C.l0) := (cell_blk q2.out 2).trans rfl
  have qc3 : w2.cell? ⟨w.heap.size, 3, none⟩ = some (.slice a0 C.w0.length c0) := (cell_blk q2.out 3).trans rfl
  have qc4 : w2.cell? ⟨w.heap.size, 4, none⟩ = some (.int .i64 C.l1) := (cell_blk q2.out 4).trans rfl
  have qc5 : w2.cell? ⟨w.heap.size, 5, none⟩ = some (.slice a1 C.w1.length c1) := (cell_blk q2.out 5).trans rfl
  have ql := blk_lt q2.out
  have rc0 : w2.cell? ⟨w.heap.size + 1, 0, none⟩ = some (.int .i64 0) := (cell_blk r2.out 0).trans rfl
  have rc1 : w2.cell? ⟨w.heap.size + 1, 1, none⟩ = some (.int .i64 0) := (cell_blk r2.out 1).trans rfl
  have rl := blk_lt r2.out
  have rf0 : w2.frozen? ⟨w.heap.size + 1, 0, none⟩ = false := frozen_blk r2.out 0
  have rf1 : w2.frozen? ⟨w.heap.size + 1, 1, none⟩ = false := frozen_blk r2.out 1
  go_wp2
  exact bodyPost_ret (v := .agg #[.int .i64 (privB C k).1, .int .i64 (privB C k).2]) (results_cell_row rfl _ _ _ _ _ _ _ rfl ((blk_set (blk_set r2.out 0 _) 1 _).trans rfl) Tryd.underlying85 rfl (by kernel_rfl)) rfl ⟨rfl, (Below.setCell (Below.setCell HB2.out (p := ⟨w.heap.size + 1, 0, none⟩) (by show w.heap.size ≤ w.heap.size + 1; omega) _) (p := ⟨w.heap.size + 1, 1, none⟩) (by show w.heap.size ≤ w.heap.size + 1; omega) _)⟩

set_option maxRecDepth 100000 in
set_option maxHeartbeats 4000000 in
theorem private_out (cv : Value) (C : Cfg) (hsm : C.small) (ha : accB C = true) (k : Int) (hk : ¬ (0 ≤ k ∧ k < C.parts.length)) (w : World) (h : CfgAt w cv C) : Calls Tryd.prog 75 #[cv, .int .i64 k] w fun e w' => e = .returned (.agg #[.int .i64 (privB C k).1, .int .i64 (privB C k).2]) ∧ Below w.heap.size w w' := by
  have HC := Kp.mk h
  have HZ := Kp.mk (privB_no C k fun h => hk h.2)
  have hnp := (acc_of ha).np
  have hnc := (acc_of ha).nc
  have HPL := Kp.mk (planL_len C ha)
  have HKK := Kp.mk hk
  clear hk
  obtain ⟨ho, pa, pc, ca, cc, a0, c0, a1, c1, rfl, bp, bc, b0, b1, hp, hc, hw0, hw1⟩ := h
  clear ho hp hc hw0 hw1
  go_enter Tryd.func75, Tryd.ntmps75
  have HB0 : Kp (Below w.heap.size w w) := ⟨Below.refl _ _⟩
  go_wp2_with fail
  refine (of_yes _ C hsm ha _ (HC.out.below (below_al (below_al HB0.out _) _))).mono ?_
  rintro e w1 ⟨⟨v, rfl, hO⟩, hb⟩
  have q1 : Kp (w1.heap[w.heap.size]? = some (.cells #[.slice pa C.parts.length pc, .slice ca C.chans.length cc, .int .i64 C.l0, .slice a0 C.w0.length c0, .int .i64 C.l1, .slice a1 C.w1.length c1] 29 (0, 0))) := ⟨blk_below (blk_al (blk_new _ _) _) hb⟩
  have r1 : Kp (w1.heap[w.heap.size + 1]? = some (.cells #[.int .i64 0, .int .i64 0] 85 (0, 0))) := ⟨blk_below (blk_at (w := (w.alloc (.cells #[.slice pa C.parts.length pc, .slice ca C.chans.length cc, .int .i64 C.l0, .slice a0 C.w0.length c0, .int .i64 C.l1, .slice a1 C.w1.length c1] 29))) (by simp) _) hb⟩
  have HB1 : Kp (Below w.heap.size w w1) := ⟨below_call (below_al (below_al HB0.out _) _) hb⟩
  have O1 : Kp (RowAt w1 2 v (planL C).length ((planL C).flatMap spanC)) := ⟨RowAt.of_own hO⟩
  clear HB0 hb
  have qc0 : w1.cell? ⟨w.heap.size, 0, none⟩ = some (.slice pa C.parts.length pc) := (cell_blk q1.out 0).trans rfl
  have qc1 : w1.cell? ⟨w.heap.size, 1, none⟩ = some (.slice ca C.chans.length cc) := (cell_blk q1.out 1).trans rfl
  have qc2 : w1.cell? ⟨w.heap.size, 2, none⟩ = some (.int .i64 C.l0) := (cell_blk q1.out 2).trans rfl
  have qc3 : w1.cell? ⟨w.heap.size, 3, none⟩ = some (.slice a0 C.w0.length c0) := (cell_blk q1.out 3).trans rfl
  have qc4 : w1.cell? ⟨w.heap.size, 4, none⟩ = some (.int .i64 C.l1) := (cell_blk q1.out 4).trans rfl
  have qc5 : w1.cell? ⟨w.heap.size, 5, none⟩ = some (.slice a1 C.w1.length c1) := (cell_blk q1.out 5).trans rfl
  have ql := blk_lt q1.out
  have rc0 : w1.cell? ⟨w.heap.size + 1, 0, none⟩ = some (.int .i64 0) := (cell_blk r1.out 0).trans rfl
  have rc1 : w1.cell? ⟨w.heap.size + 1, 1, none⟩ = some (.int .i64 0) := (cell_blk r1.out 1).trans rfl
  have rl := blk_lt r1.out
  obtain ⟨va, vc, rfl, hva1, hva2⟩ := O1.out.shape
  clear hO
  go_wp2_with fail
  refine (at_no _ _ _ _ k (C.parts.length : Int) HKK.out _).mono ?_
  rintro e w2 ⟨rfl, hb⟩
  have p2 : Kp (w2.heap[w1.heap.size]? = some (.cells #[.int .i64 C.parts.length, .slice va (planL C).length vc, .int .i64 (planE C)] 145 (0, 0))) := ⟨blk_below (blk_new _ _) hb⟩
  have q2 : Kp (w2.heap[w.heap.size]? = some (.cells #[.slice pa C.parts.length pc, .slice ca C.chans.length cc, .int .i64 C.l0, .slice a0 C.w0.length c0, .int .i64 C.l1, .slice a1 C.w1.length c1] 29 (0, 0))) := ⟨blk_below (blk_al q1.out _) hb⟩
  have r2 : Kp (w2.heap[w.heap.size + 1]? = some (.cells #[.int .i64 0, .int .i64 0] 85 (0, 0))) := ⟨blk_below (blk_al r1.out _) hb⟩
  have HB2 : Kp (Below w.heap.size w w2) := ⟨below_call (below_al HB1.out _) hb⟩
  clear qc0 qc1 qc2 qc3 qc4 qc5 ql rc0 rc1 rl q1 r1 HB1 O1 hb
  have pc0 : w2.cell? ⟨w1.heap.size, 0, none⟩ = some (.int .i64 C.parts.length) := (cell_blk p2.out 0).trans rfl
  have pc1 : w2.cell? ⟨w1.heap.size, 1, none⟩ = some (.slice va (planL C).length vc) := (cell_blk p2.out 1).trans rfl
  have pc2 : w2.cell? ⟨w1.heap.size, 2, none⟩ = some (.int .i64 (planE C)) := (cell_blk p2.out 2).trans rfl
  have pl := blk_lt p2.out
  have qc0 : w2.cell? ⟨w.heap.size, 0, none⟩ = some (.slice pa C.parts.length pc) := (cell_blk q2.out 0).trans rfl
  have qc1 : w2.cell? ⟨w.heap.size, 1, none⟩ = some (.slice ca C.chans.length cc) := (cell_blk q2.out 1).trans rfl
  have qc2 : w2.cell? ⟨w.heap.size, 2, none⟩ = some (.int .i64 C.l0) := (cell_blk q2.out 2).trans rfl
  have qc3 : w2.cell? ⟨w.heap.size, 3, none⟩ = some (.slice a0 C.w0.length c0) := (cell_blk q2.out 3).trans rfl
  have qc4 : w2.cell? ⟨w.heap.size, 4, none⟩ = some (.int .i64 C.l1) := (cell_blk q2.out 4).trans rfl
  have qc5 : w2.cell? ⟨w.heap.size, 5, none⟩ = some (.slice a1 C.w1.length c1) := (cell_blk q2.out 5).trans rfl
  have ql := blk_lt q2.out
  have rc0 : w2.cell? ⟨w.heap.size + 1, 0, none⟩ = some (.int .i64 0) := (cell_blk r2.out 0).trans rfl
  have rc1 : w2.cell? ⟨w.heap.size + 1, 1, none⟩ = some (.int .i64 0) := (cell_blk r2.out 1).trans rfl
  have rl := blk_lt r2.out
  have rf0 : w2.frozen? ⟨w.heap.size + 1, 0, none⟩ = false := frozen_blk r2.out 0
  have rf1 : w2.frozen? ⟨w.heap.size + 1, 1, none⟩ = false := frozen_blk r2.out 1
  go_wp2
  exact bodyPost_ret (v := .agg #[.int .i64 0, .int .i64 0]) (results_cell_row rfl _ _ _ _ _ _ _ rfl ((blk_set (blk_set r2.out 0 _) 1 _).trans rfl) Tryd.underlying85 rfl (by kernel_rfl)) rfl ⟨zero_out HZ.out, (Below.setCell (Below.setCell HB2.out (p := ⟨w.heap.size + 1, 0, none⟩) (by show w.heap.size ≤ w.heap.size + 1; omega) _) (p := ⟨w.heap.size + 1, 1, none⟩) (by show w.heap.size ≤ w.heap.size + 1; omega) _)⟩

set_option maxRecDepth 100000 in
set_option maxHeartbeats 4000000 in
theorem private_no (cv : Value) (C : Cfg) (hsm : C.small) (ha : accB C = false) (k : Int) (w : World) (h : CfgAt w cv C) : Calls Tryd.prog 75 #[cv, .int .i64 k] w fun e w' => e = .returned (.agg #[.int .i64 (privB C k).1, .int .i64 (privB C k).2]) ∧ Below w.heap.size w w' := by
  have HC := Kp.mk h
  have HZ := Kp.mk (privB_no C k fun h => by rw [ha] at h; cases h.1)
  obtain ⟨ho, pa, pc, ca, cc, a0, c0, a1, c1, rfl, bp, bc, b0, b1, hp, hc, hw0, hw1⟩ := h
  clear ho hp hc hw0 hw1
  go_enter Tryd.func75, Tryd.ntmps75
  have HB0 : Kp (Below w.heap.size w w) := ⟨Below.refl _ _⟩
  go_wp2_with fail
  refine (of_no _ C hsm ha _ (HC.out.below (below_al (below_al HB0.out _) _))).mono ?_
  rintro e w1 ⟨rfl, hb⟩
  have q1 : Kp (w1.heap[w.heap.size]? = some (.cells #[.slice pa C.parts.length pc, .slice ca C.chans.length cc, .int .i64 C.l0, .slice a0 C.w0.length c0, .int .i64 C.l1, .slice a1 C.w1.length c1] 29 (0, 0))) := ⟨blk_below (blk_al (blk_new _ _) _) hb⟩
  have r1 : Kp (w1.heap[w.heap.size + 1]? = some (.cells #[.int .i64 0, .int .i64 0] 85 (0, 0))) := ⟨blk_below (blk_at (w := (w.alloc (.cells #[.slice pa C.parts.length pc, .slice ca C.chans.length cc, .int .i64 C.l0, .slice a0 C.w0.length c0, .int .i64 C.l1, .slice a1 C.w1.length c1] 29))) (by simp) _) hb⟩
  have HB1 : Kp (Below w.heap.size w w1) := ⟨below_call (below_al (below_al HB0.out _) _) hb⟩
  clear HB0 hb
  have qc0 : w1.cell? ⟨w.heap.size, 0, none⟩ = some (.slice pa C.parts.length pc) := (cell_blk q1.out 0).trans rfl
  have qc1 : w1.cell? ⟨w.heap.size, 1, none⟩ = some (.slice ca C.chans.length cc) := (cell_blk q1.out 1).trans rfl
  have qc2 : w1.cell? ⟨w.heap.size, 2, none⟩ = some (.int .i64 C.l0) := (cell_blk q1.out 2).trans rfl
  have qc3 : w1.cell? ⟨w.heap.size, 3, none⟩ = some (.slice a0 C.w0.length c0) := (cell_blk q1.out 3).trans rfl
  have qc4 : w1.cell? ⟨w.heap.size, 4, none⟩ = some (.int .i64 C.l1) := (cell_blk q1.out 4).trans rfl
  have qc5 : w1.cell? ⟨w.heap.size, 5, none⟩ = some (.slice a1 C.w1.length c1) := (cell_blk q1.out 5).trans rfl
  have ql := blk_lt q1.out
  have rc0 : w1.cell? ⟨w.heap.size + 1, 0, none⟩ = some (.int .i64 0) := (cell_blk r1.out 0).trans rfl
  have rc1 : w1.cell? ⟨w.heap.size + 1, 1, none⟩ = some (.int .i64 0) := (cell_blk r1.out 1).trans rfl
  have rl := blk_lt r1.out
  go_wp2_with fail
  refine (at_no _ _ _ _ k 0 (by omega) _).mono ?_
  rintro e w2 ⟨rfl, hb⟩
  have p2 : Kp (w2.heap[w1.heap.size]? = some (.cells #[.int .i64 0, .slice none 0 0, .int .i64 0] 145 (0, 0))) := ⟨blk_below (blk_new _ _) hb⟩
  have q2 : Kp (w2.heap[w.heap.size]? = some (.cells #[.slice pa C.parts.length pc, .slice ca C.chans.length cc, .int .i64 C.l0, .slice a0 C.w0.length c0, .int .i64 C.l1, .slice a1 C.w1.length c1] 29 (0, 0))) := ⟨blk_below (blk_al q1.out _) hb⟩
  have r2 : Kp (w2.heap[w.heap.size + 1]? = some (.cells #[.int .i64 0, .int .i64 0] 85 (0, 0))) := ⟨blk_below (blk_al r1.out _) hb⟩
  have HB2 : Kp (Below w.heap.size w w2) := ⟨below_call (below_al HB1.out _) hb⟩
  clear qc0 qc1 qc2 qc3 qc4 qc5 ql rc0 rc1 rl q1 r1 HB1 hb
  have pc0 : w2.cell? ⟨w1.heap.size, 0, none⟩ = some (.int .i64 0) := (cell_blk p2.out 0).trans rfl
  have pc1 : w2.cell? ⟨w1.heap.size, 1, none⟩ = some (.slice none 0 0) := (cell_blk p2.out 1).trans rfl
  have pc2 : w2.cell? ⟨w1.heap.size, 2, none⟩ = some (.int .i64 0) := (cell_blk p2.out 2).trans rfl
  have pl := blk_lt p2.out
  have qc0 : w2.cell? ⟨w.heap.size, 0, none⟩ = some (.slice pa C.parts.length pc) := (cell_blk q2.out 0).trans rfl
  have qc1 : w2.cell? ⟨w.heap.size, 1, none⟩ = some (.slice ca C.chans.length cc) := (cell_blk q2.out 1).trans rfl
  have qc2 : w2.cell? ⟨w.heap.size, 2, none⟩ = some (.int .i64 C.l0) := (cell_blk q2.out 2).trans rfl
  have qc3 : w2.cell? ⟨w.heap.size, 3, none⟩ = some (.slice a0 C.w0.length c0) := (cell_blk q2.out 3).trans rfl
  have qc4 : w2.cell? ⟨w.heap.size, 4, none⟩ = some (.int .i64 C.l1) := (cell_blk q2.out 4).trans rfl
  have qc5 : w2.cell? ⟨w.heap.size, 5, none⟩ = some (.slice a1 C.w1.length c1) := (cell_blk q2.out 5).trans rfl
  have ql := blk_lt q2.out
  have rc0 : w2.cell? ⟨w.heap.size + 1, 0, none⟩ = some (.int .i64 0) := (cell_blk r2.out 0).trans rfl
  have rc1 : w2.cell? ⟨w.heap.size + 1, 1, none⟩ = some (.int .i64 0) := (cell_blk r2.out 1).trans rfl
  have rl := blk_lt r2.out
  have rf0 : w2.frozen? ⟨w.heap.size + 1, 0, none⟩ = false := frozen_blk r2.out 0
  have rf1 : w2.frozen? ⟨w.heap.size + 1, 1, none⟩ = false := frozen_blk r2.out 1
  go_wp2
  exact bodyPost_ret (v := .agg #[.int .i64 0, .int .i64 0]) (results_cell_row rfl _ _ _ _ _ _ _ rfl ((blk_set (blk_set r2.out 0 _) 1 _).trans rfl) Tryd.underlying85 rfl (by kernel_rfl)) rfl ⟨zero_out HZ.out, (Below.setCell (Below.setCell HB2.out (p := ⟨w.heap.size + 1, 0, none⟩) (by show w.heap.size ≤ w.heap.size + 1; omega) _) (p := ⟨w.heap.size + 1, 1, none⟩) (by show w.heap.size ≤ w.heap.size + 1; omega) _)⟩
theorem private_any (cv : Value) (C : Cfg) (hsm : C.small) (k : Int) (w : World) (h : CfgAt w cv C) : Calls Tryd.prog 75 #[cv, .int .i64 k] w fun e w' => e = .returned (.agg #[.int .i64 (privB C k).1, .int .i64 (privB C k).2]) ∧ Below w.heap.size w w' := by
  cases ha : accB C with
  | true =>
    by_cases hk : 0 ≤ k ∧ k < C.parts.length
    · obtain ⟨j, rfl⟩ := Int.eq_ofNat_of_zero_le hk.1
      exact private_yes cv C hsm ha j (by omega) w h
    · exact private_out cv C hsm ha k hk w h
  | false => exact private_no cv C hsm ha k w h

end Go.Proofs.YtdajadfgiifioaaDoor

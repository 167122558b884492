/- Contract of the reference's Refused. -/
import Derived.Test.YtdajadfgiifioaaDoorSgn7
namespace Go.Proofs.YtdajadfgiifioaaDoor
open Go.RowKit
set_option linter.unusedSimpArgs false
set_option linter.unusedVariables false

set_option maxRecDepth 100000 in
set_option maxHeartbeats 8000000 in
theorem rref_acc (cv sv rv : Value) (C : Cfg) (S : Std) (R : Rqt) (hsm : C.small) (hm : S.made.length ≤ 100) (hd : R.data.length ≤ 100) (ha : accB C = false) (w : World) (hc : CfgAt w cv C) (hs : StdAt w sv S) (hr : RqtAt w rv R) : Calls Tryd.prog 15 #[cv, sv, rv] w fun e w' => e = .returned (.int .i64 (4)) ∧ Below w.heap.size w w' := by
  have HA := Kp.mk ha
  clear ha
  have HC := Kp.mk hc
  have HS := Kp.mk hs
  have HR := Kp.mk hr
  obtain ⟨_, pa, pc, ca, cc, a0, c0, a1, c1, rfl, bp, bc, b0, b1, gp, gc, gw0, gw1⟩ := hc
  obtain ⟨_, ma, mc, va, vc, rfl, bm, bv, gm, gv⟩ := hs
  obtain ⟨ir, da, dc, rfl, bd, gd⟩ := hr
  clear gp gw0 gw1 gm gv gd bp b0 b1
  have HRO := Kp.mk ir
  clear ir gc
  go_enter Tryd.func15, Tryd.ntmps15
  have HB0 : Kp (Below w.heap.size w w) := ⟨Below.refl _ _⟩
  go_wp2_with fail
  refine (refAccepts_any _ C hsm _ (HC.out.below (below_al (below_al (below_al HB0.out _) _) _))).mono ?_
  rw [HA.out]
  rintro e w1 ⟨rfl, hb⟩
  have q1 : Kp (w1.heap[w.heap.size]? = some (.cells #[.slice pa C.parts.length pc, .slice ca C.chans.length cc, .int .i64 C.l0, .slice a0 C.w0.length c0, .int .i64 C.l1, .slice a1 C.w1.length c1] 29 (0, 0))) := ⟨blk_below (blk_al (blk_al (blk_new _ _) _) _) hb⟩
  have s1 : Kp (w1.heap[w.heap.size + 1]? = some (.cells #[.int .i64 S.part, .bool S.normal, .slice ma S.made.length mc, .slice va S.valid.length vc] 40 (0, 0))) := ⟨blk_below (blk_al (blk_at (w := (w.alloc (.cells #[.slice pa C.parts.length pc, .slice ca C.chans.length cc, .int .i64 C.l0, .slice a0 C.w0.length c0, .int .i64 C.l1, .slice a1 C.w1.length c1] 29))) (by simp) _) _) hb⟩
  have r1 : Kp (w1.heap[w.heap.size + 1 + 1]? = some (.cells #[.int .i64 R.op, .int .i64 R.port, .int .u64 R.addr, .slice da R.data.length dc] 44 (0, 0))) := ⟨blk_below (blk_at (w := ((w.alloc (.cells #[.slice pa C.parts.length pc, .slice ca C.chans.length cc, .int .i64 C.l0, .slice a0 C.w0.length c0, .int .i64 C.l1, .slice a1 C.w1.length c1] 29)).alloc (.cells #[.int .i64 S.part, .bool S.normal, .slice ma S.made.length mc, .slice va S.valid.length vc] 40))) (by simp) _) hb⟩
  have HB1 : Kp (Below w.heap.size w w1) := ⟨below_call (below_al (below_al (below_al HB0.out _) _) _) hb⟩
  clear HB0 hb
  have qc0 : w1.cell? ⟨w.heap.size, 0, none⟩ = some (.slice pa C.parts.length pc) := (cell_blk q1.out 0).trans rfl
  have qc1 : w1.cell? ⟨w.heap.size, 1, none⟩ = some (.slice ca C.chans.length cc) := (cell_blk q1.out 1).trans rfl
  have qc2 : w1.cell? ⟨w.heap.size, 2, none⟩ = some (.int .i64 C.l0) := (cell_blk q1.out 2).trans rfl
  have qc3 : w1.cell? ⟨w.heap.size, 3, none⟩ = some (.slice a0 C.w0.length c0) := (cell_blk q1.out 3).trans rfl
  have qc4 : w1.cell? ⟨w.heap.size, 4, none⟩ = some (.int .i64 C.l1) := (cell_blk q1.out 4).trans rfl
  have qc5 : w1.cell? ⟨w.heap.size, 5, none⟩ = some (.slice a1 C.w1.length c1) := (cell_blk q1.out 5).trans rfl
  have ql := blk_lt q1.out
  have sc0 : w1.cell? ⟨w.heap.size + 1, 0, none⟩ = some (.int .i64 S.part) := (cell_blk s1.out 0).trans rfl
  have sc1 : w1.cell? ⟨w.heap.size + 1, 1, none⟩ = some (.bool S.normal) := (cell_blk s1.out 1).trans rfl
  have sc2 : w1.cell? ⟨w.heap.size + 1, 2, none⟩ = some (.slice ma S.made.length mc) := (cell_blk s1.out 2).trans rfl
  have sc3 : w1.cell? ⟨w.heap.size + 1, 3, none⟩ = some (.slice va S.valid.length vc) := (cell_blk s1.out 3).trans rfl
  have sl := blk_lt s1.out
  have rc0 : w1.cell? ⟨w.heap.size + 1 + 1, 0, none⟩ = some (.int .i64 R.op) := (cell_blk r1.out 0).trans rfl
  have rc1 : w1.cell? ⟨w.heap.size + 1 + 1, 1, none⟩ = some (.int .i64 R.port) := (cell_blk r1.out 1).trans rfl
  have rc2 : w1.cell? ⟨w.heap.size + 1 + 1, 2, none⟩ = some (.int .u64 R.addr) := (cell_blk r1.out 2).trans rfl
  have rc3 : w1.cell? ⟨w.heap.size + 1 + 1, 3, none⟩ = some (.slice da R.data.length dc) := (cell_blk r1.out 3).trans rfl
  have rl := blk_lt r1.out
  go_wp2
  go_ret
  exact ⟨rfl, HB1.out⟩

set_option maxRecDepth 100000 in
set_option maxHeartbeats 8000000 in
theorem rref_neg (cv sv rv : Value) (C : Cfg) (S : Std) (R : Rqt) (hsm : C.small) (hm : S.made.length ≤ 100) (hd : R.data.length ≤ 100) (ha : accB C = true) (hp : S.part < 0) (w : World) (hc : CfgAt w cv C) (hs : StdAt w sv S) (hr : RqtAt w rv R) : Calls Tryd.prog 15 #[cv, sv, rv] w fun e w' => e = .returned (.int .i64 (4)) ∧ Below w.heap.size w w' := by
  have HA := Kp.mk ha
  clear ha
  have HC := Kp.mk hc
  have HS := Kp.mk hs
  have HR := Kp.mk hr
  obtain ⟨_, pa, pc, ca, cc, a0, c0, a1, c1, rfl, bp, bc, b0, b1, gp, gc, gw0, gw1⟩ := hc
  obtain ⟨_, ma, mc, va, vc, rfl, bm, bv, gm, gv⟩ := hs
  obtain ⟨ir, da, dc, rfl, bd, gd⟩ := hr
  clear gp gw0 gw1 gm gv gd bp b0 b1
  have HRO := Kp.mk ir
  clear ir gc
  go_enter Tryd.func15, Tryd.ntmps15
  have HB0 : Kp (Below w.heap.size w w) := ⟨Below.refl _ _⟩
  go_wp2_with fail
  refine (refAccepts_any _ C hsm _ (HC.out.below (below_al (below_al (below_al HB0.out _) _) _))).mono ?_
  rw [HA.out]
  rintro e w1 ⟨rfl, hb⟩
  have q1 : Kp (w1.heap[w.heap.size]? = some (.cells #[.slice pa C.parts.length pc, .slice ca C.chans.length cc, .int .i64 C.l0, .slice a0 C.w0.length c0, .int .i64 C.l1, .slice a1 C.w1.length c1] 29 (0, 0))) := ⟨blk_below (blk_al (blk_al (blk_new _ _) _) _) hb⟩
  have s1 : Kp (w1.heap[w.heap.size + 1]? = some (.cells #[.int .i64 S.part, .bool S.normal, .slice ma S.made.length mc, .slice va S.valid.length vc] 40 (0, 0))) := ⟨blk_below (blk_al (blk_at (w := (w.alloc (.cells #[.slice pa C.parts.length pc, .slice ca C.chans.length cc, .int .i64 C.l0, .slice a0 C.w0.length c0, .int .i64 C.l1, .slice a1 C.w1.length c1] 29))) (by simp) _) _) hb⟩
  have r1 : Kp (w1.heap[w.heap.size + 1 + 1]? = some (.cells #[.int .i64 R.op, .int .i64 R.port, .int .u64 R.addr, .slice da R.data.length dc] 44 (0, 0))) := ⟨blk_below (blk_at (w := ((w.alloc (.cells #[.slice pa C.parts.length pc, .slice ca C.chans.length cc, .int .i64 C.l0, .slice a0 C.w0.length c0, .int .i64 C.l1, .slice a1 C.w1.length c1] 29)).alloc (.cells #[.int .i64 S.part, .bool S.normal, .slice ma S.made.length mc, .slice va S.valid.length vc] 40))) (by simp) _) hb⟩
  have HB1 : Kp (Below w.heap.size w w1) := ⟨below_call (below_al (below_al (below_al HB0.out _) _) _) hb⟩
  clear HB0 hb
  have qc0 : w1.cell? ⟨w.heap.size, 0, none⟩ = some (.slice pa C.parts.length pc) := (cell_blk q1.out 0).trans rfl
  have qc1 : w1.cell? ⟨w.heap.size, 1, none⟩ = some (.slice ca C.chans.length cc) := (cell_blk q1.out 1).trans rfl
  have qc2 : w1.cell? ⟨w.heap.size, 2, none⟩ = some (.int .i64 C.l0) := (cell_blk q1.out 2).trans rfl
  have qc3 : w1.cell? ⟨w.heap.size, 3, none⟩ = some (.slice a0 C.w0.length c0) := (cell_blk q1.out 3).trans rfl
  have qc4 : w1.cell? ⟨w.heap.size, 4, none⟩ = some (.int .i64 C.l1) := (cell_blk q1.out 4).trans rfl
  have qc5 : w1.cell? ⟨w.heap.size, 5, none⟩ = some (.slice a1 C.w1.length c1) := (cell_blk q1.out 5).trans rfl
  have ql := blk_lt q1.out
  have sc0 : w1.cell? ⟨w.heap.size + 1, 0, none⟩ = some (.int .i64 S.part) := (cell_blk s1.out 0).trans rfl
  have sc1 : w1.cell? ⟨w.heap.size + 1, 1, none⟩ = some (.bool S.normal) := (cell_blk s1.out 1).trans rfl
  have sc2 : w1.cell? ⟨w.heap.size + 1, 2, none⟩ = some (.slice ma S.made.length mc) := (cell_blk s1.out 2).trans rfl
  have sc3 : w1.cell? ⟨w.heap.size + 1, 3, none⟩ = some (.slice va S.valid.length vc) := (cell_blk s1.out 3).trans rfl
  have sl := blk_lt s1.out
  have rc0 : w1.cell? ⟨w.heap.size + 1 + 1, 0, none⟩ = some (.int .i64 R.op) := (cell_blk r1.out 0).trans rfl
  have rc1 : w1.cell? ⟨w.heap.size + 1 + 1, 1, none⟩ = some (.int .i64 R.port) := (cell_blk r1.out 1).trans rfl
  have rc2 : w1.cell? ⟨w.heap.size + 1 + 1, 2, none⟩ = some (.int .u64 R.addr) := (cell_blk r1.out 2).trans rfl
  have rc3 : w1.cell? ⟨w.heap.size + 1 + 1, 3, none⟩ = some (.slice da R.data.length dc) := (cell_blk r1.out 3).trans rfl
  have rl := blk_lt r1.out
  go_wp2
  go_ret
  exact ⟨rfl, HB1.out⟩

set_option maxRecDepth 100000 in
set_option maxHeartbeats 8000000 in
theorem rref_big (cv sv rv : Value) (C : Cfg) (S : Std) (R : Rqt) (hsm : C.small) (hm : S.made.length ≤ 100) (hd : R.data.length ≤ 100) (ha : accB C = true) (hp0 : 0 ≤ S.part) (hp : (C.parts.length : Int) ≤ S.part) (w : World) (hc : CfgAt w cv C) (hs : StdAt w sv S) (hr : RqtAt w rv R) : Calls Tryd.prog 15 #[cv, sv, rv] w fun e w' => e = .returned (.int .i64 (4)) ∧ Below w.heap.size w w' := by
  have HA := Kp.mk ha
  clear ha
  have HC := Kp.mk hc
  have HS := Kp.mk hs
  have HR := Kp.mk hr
  obtain ⟨_, pa, pc, ca, cc, a0, c0, a1, c1, rfl, bp, bc, b0, b1, gp, gc, gw0, gw1⟩ := hc
  obtain ⟨_, ma, mc, va, vc, rfl, bm, bv, gm, gv⟩ := hs
  obtain ⟨ir, da, dc, rfl, bd, gd⟩ := hr
  clear gp gw0 gw1 gm gv gd bp b0 b1
  have HRO := Kp.mk ir
  clear ir gc
  go_enter Tryd.func15, Tryd.ntmps15
  have HB0 : Kp (Below w.heap.size w w) := ⟨Below.refl _ _⟩
  go_wp2_with fail
  refine (refAccepts_any _ C hsm _ (HC.out.below (below_al (below_al (below_al HB0.out _) _) _))).mono ?_
  rw [HA.out]
  rintro e w1 ⟨rfl, hb⟩
  have q1 : Kp (w1.heap[w.heap.size]? = some (.cells #[.slice pa C.parts.length pc, .slice ca C.chans.length cc, .int .i64 C.l0, .slice a0 C.w0.length c0, .int .i64 C.l1, .slice a1 C.w1.length c1] 29 (0, 0))) := ⟨blk_below (blk_al (blk_al (blk_new _ _) _) _) hb⟩
  have s1 : Kp (w1.heap[w.heap.size + 1]? = some (.cells #[.int .i64 S.part, .bool S.normal, .slice ma S.made.length mc, .slice va S.valid.length vc] 40 (0, 0))) := ⟨blk_below (blk_al (blk_at (w := (w.alloc (.cells #[.slice pa C.parts.length pc, .slice ca C.chans.length cc, .int .i64 C.l0, .slice a0 C.w0.length c0, .int .i64 C.l1, .slice a1 C.w1.length c1] 29))) (by simp) _) _) hb⟩
  have r1 : Kp (w1.heap[w.heap.size + 1 + 1]? = some (.cells #[.int .i64 R.op, .int .i64 R.port, .int .u64 R.addr, .slice da R.data.length dc] 44 (0, 0))) := ⟨blk_below (blk_at (w := ((w.alloc (.cells #[.slice pa C.parts.length pc, .slice ca C.chans.length cc, .int .i64 C.l0, .slice a0 C.w0.length c0, .int .i64 C.l1, .slice a1 C.w1.length c1] 29)).alloc (.cells #[.int .i64 S.part, .bool S.normal, .slice ma S.made.length mc, .slice va S.valid.length vc] 40))) (by simp) _) hb⟩
  have HB1 : Kp (Below w.heap.size w w1) := ⟨below_call (below_al (below_al (below_al HB0.out _) _) _) hb⟩
  clear HB0 hb
  have qc0 : w1.cell? ⟨w.heap.size, 0, none⟩ = some (.slice pa C.parts.length pc) := (cell_blk q1.out 0).trans rfl
  have qc1 : w1.cell? ⟨w.heap.size, 1, none⟩ = some (.slice ca C.chans.length cc) := (cell_blk q1.out 1).trans rfl
  have qc2 : w1.cell? ⟨w.heap.size, 2, none⟩ = some (.int .i64 C.l0) := (cell_blk q1.out 2).trans rfl
  have qc3 : w1.cell? ⟨w.heap.size, 3, none⟩ = some (.slice a0 C.w0.length c0) := (cell_blk q1.out 3).trans rfl
  have qc4 : w1.cell? ⟨w.heap.size, 4, none⟩ = some (.int .i64 C.l1) := (cell_blk q1.out 4).trans rfl
  have qc5 : w1.cell? ⟨w.heap.size, 5, none⟩ = some (.slice a1 C.w1.length c1) := (cell_blk q1.out 5).trans rfl
  have ql := blk_lt q1.out
  have sc0 : w1.cell? ⟨w.heap.size + 1, 0, none⟩ = some (.int .i64 S.part) := (cell_blk s1.out 0).trans rfl
  have sc1 : w1.cell? ⟨w.heap.size + 1, 1, none⟩ = some (.bool S.normal) := (cell_blk s1.out 1).trans rfl
  have sc2 : w1.cell? ⟨w.heap.size + 1, 2, none⟩ = some (.slice ma S.made.length mc) := (cell_blk s1.out 2).trans rfl
  have sc3 : w1.cell? ⟨w.heap.size + 1, 3, none⟩ = some (.slice va S.valid.length vc) := (cell_blk s1.out 3).trans rfl
  have sl := blk_lt s1.out
  have rc0 : w1.cell? ⟨w.heap.size + 1 + 1, 0, none⟩ = some (.int .i64 R.op) := (cell_blk r1.out 0).trans rfl
  have rc1 : w1.cell? ⟨w.heap.size + 1 + 1, 1, none⟩ = some (.int .i64 R.port) := (cell_blk r1.out 1).trans rfl
  have rc2 : w1.cell? ⟨w.heap.size + 1 + 1, 2, none⟩ = some (.int .u64 R.addr) := (cell_blk r1.out 2).trans rfl
  have rc3 : w1.cell? ⟨w.heap.size + 1 + 1, 3, none⟩ = some (.slice da R.data.length dc) := (cell_blk r1.out 3).trans rfl
  have rl := blk_lt r1.out
  go_wp2
  go_ret
  exact ⟨rfl, HB1.out⟩

set_option maxRecDepth 100000 in
set_option maxHeartbeats 8000000 in
theorem rref_none (cv sv rv : Value) (C : Cfg) (S : Std) (R : Rqt) (hsm : C.small) (hm : S.made.length ≤ 100) (hd : R.data.length ≤ 100) (ha : accB C = true) (hp0 : 0 ≤ S.part) (hp1 : S.part < (C.parts.length : Int)) (ho : ¬ (1 ≤ R.op ∧ R.op ≤ 9)) (w : World) (hc : CfgAt w cv C) (hs : StdAt w sv S) (hr : RqtAt w rv R) : Calls Tryd.prog 15 #[cv, sv, rv] w fun e w' => e = .returned (.int .i64 (3)) ∧ Below w.heap.size w w' := by
  have HA := Kp.mk ha
  clear ha
  have b1 : (R.op == 1) = false := by rw [beq_eq_false_iff_ne]; omega
  have b2 : (R.op == 2) = false := by rw [beq_eq_false_iff_ne]; omega
  have b3 : (R.op == 3) = false := by rw [beq_eq_false_iff_ne]; omega
  have b4 : (R.op == 4) = false := by rw [beq_eq_false_iff_ne]; omega
  have b5 : (R.op == 5) = false := by rw [beq_eq_false_iff_ne]; omega
  have b6 : (R.op == 6) = false := by rw [beq_eq_false_iff_ne]; omega
  have b7 : (R.op == 7) = false := by rw [beq_eq_false_iff_ne]; omega
  have b8 : (R.op == 8) = false := by rw [beq_eq_false_iff_ne]; omega
  have b9 : (R.op == 9) = false := by rw [beq_eq_false_iff_ne]; omega
  clear ho
  have HC := Kp.mk hc
  have HS := Kp.mk hs
  have HR := Kp.mk hr
  obtain ⟨_, pa, pc, ca, cc, a0, c0, a1, c1, rfl, bp, bc, b0, b1, gp, gc, gw0, gw1⟩ := hc
  obtain ⟨_, ma, mc, va, vc, rfl, bm, bv, gm, gv⟩ := hs
  obtain ⟨ir, da, dc, rfl, bd, gd⟩ := hr
  clear gp gw0 gw1 gm gv gd bp b0 b1
  have HRO := Kp.mk ir
  clear ir gc
  go_enter Tryd.func15, Tryd.ntmps15
  have HB0 : Kp (Below w.heap.size w w) := ⟨Below.refl _ _⟩
  go_wp2_with fail
  refine (refAccepts_any _ C hsm _ (HC.out.below (below_al (below_al (below_al HB0.out _) _) _))).mono ?_
  rw [HA.out]
  rintro e w1 ⟨rfl, hb⟩
  have q1 : Kp (w1.heap[w.heap.size]? = some (.cells #[.slice pa C.parts.length pc, .slice ca C.chans.length cc, .int .i64 C.l0, .slice a0 C.w0.length c0, .int .i64 C.l1, .slice a1 C.w1.length c1] 29 (0, 0))) := ⟨blk_below (blk_al (blk_al (blk_new _ _) _) _) hb⟩
  have s1 : Kp (w1.heap[w.heap.size + 1]? = some (.cells #[.int .i64 S.part, .bool S.normal, .slice ma S.made.length mc, .slice va S.valid.length vc] 40 (0, 0))) := ⟨blk_below (blk_al (blk_at (w := (w.alloc (.cells #[.slice pa C.parts.length pc, .slice ca C.chans.length cc, .int .i64 C.l0, .slice a0 C.w0.length c0, .int .i64 C.l1, .slice a1 C.w1.length c1] 29))) (by simp) _) _) hb⟩
  have r1 : Kp (w1.heap[w.heap.size + 1 + 1]? = some (.cells #[.int .i64 R.op, .int .i64 R.port, .int .u64 R.addr, .slice da R.data.length dc] 44 (0, 0))) := ⟨blk_below (blk_at (w := ((w.alloc (.cells #[.slice pa C.parts.length pc, .slice ca C.chans.length cc, .int .i64 C.l0, .slice a0 C.w0.length c0, .int .i64 C.l1, .slice a1 C.w1.length c1] 29)).alloc (.cells #[.int .i64 S.part, .bool S.normal, .slice ma S.made.length mc, .slice va S.valid.length vc] 40))) (by simp) _) hb⟩
  have HB1 : Kp (Below w.heap.size w w1) := ⟨below_call (below_al (below_al (below_al HB0.out _) _) _) hb⟩
  clear HB0 hb
  have qc0 : w1.cell? ⟨w.heap.size, 0, none⟩ = some (.slice pa C.parts.length pc) := (cell_blk q1.out 0).trans rfl
  have qc1 : w1.cell? ⟨w.heap.size, 1, none⟩ = some (.slice ca C.chans.length cc) := (cell_blk q1.out 1).trans rfl
  have qc2 : w1.cell? ⟨w.heap.size, 2, none⟩ = some (.int .i64 C.l0) := (cell_blk q1.out 2).trans rfl
  have qc3 : w1.cell? ⟨w.heap.size, 3, none⟩ = some (.slice a0 C.w0.length c0) := (cell_blk q1.out 3).trans rfl
  have qc4 : w1.cell? ⟨w.heap.size, 4, none⟩ = some (.int .i64 C.l1) := (cell_blk q1.out 4).trans rfl
  have qc5 : w1.cell? ⟨w.heap.size, 5, none⟩ = some (.slice a1 C.w1.length c1) := (cell_blk q1.out 5).trans rfl
  have ql := blk_lt q1.out
  have sc0 : w1.cell? ⟨w.heap.size + 1, 0, none⟩ = some (.int .i64 S.part) := (cell_blk s1.out 0).trans rfl
  have sc1 : w1.cell? ⟨w.heap.size + 1, 1, none⟩ = some (.bool S.normal) := (cell_blk s1.out 1).trans rfl
  have sc2 : w1.cell? ⟨w.heap.size + 1, 2, none⟩ = some (.slice ma S.made.length mc) := (cell_blk s1.out 2).trans rfl
  have sc3 : w1.cell? ⟨w.heap.size + 1, 3, none⟩ = some (.slice va S.valid.length vc) := (cell_blk s1.out 3).trans rfl
  have sl := blk_lt s1.out
  have rc0 : w1.cell? ⟨w.heap.size + 1 + 1, 0, none⟩ = some (.int .i64 R.op) := (cell_blk r1.out 0).trans rfl
  have rc1 : w1.cell? ⟨w.heap.size + 1 + 1, 1, none⟩ = some (.int .i64 R.port) := (cell_blk r1.out 1).trans rfl
  have rc2 : w1.cell? ⟨w.heap.size + 1 + 1, 2, none⟩ = some (.int .u64 R.addr) := (cell_blk r1.out 2).trans rfl
  have rc3 : w1.cell? ⟨w.heap.size + 1 + 1, 3, none⟩ = some (.slice da R.data.length dc) := (cell_blk r1.out 3).trans rfl
  have rl := blk_lt r1.out
  go_wp2
  go_ret
  exact ⟨rfl, HB1.out⟩

set_option maxRecDepth 100000 in
set_option maxHeartbeats 8000000 in
theorem rref_1nis (cv sv rv : Value) (C : Cfg) (S : Std) (R : Rqt) (hsm : C.small) (hm : S.made.length ≤ 100) (hd : R.data.length ≤ 100) (ha : accB C = true) (hp0 : 0 ≤ S.part) (hp1 : S.part < (C.parts.length : Int)) (hop : R.op = 1) (hi : (portV C R.port).is = false) (w : World) (hc : CfgAt w cv C) (hs : StdAt w sv S) (hr : RqtAt w rv R) : Calls Tryd.prog 15 #[cv, sv, rv] w fun e w' => e = .returned (.int .i64 (4)) ∧ Below w.heap.size w w' := by
  have HA := Kp.mk ha
  clear ha
  have HPV := Kp.mk (portV_nis C R.port hi)
  have HC := Kp.mk hc
  have HS := Kp.mk hs
  have HR := Kp.mk hr
  obtain ⟨_, pa, pc, ca, cc, a0, c0, a1, c1, rfl, bp, bc, b0, b1, gp, gc, gw0, gw1⟩ := hc
  obtain ⟨_, ma, mc, va, vc, rfl, bm, bv, gm, gv⟩ := hs
  obtain ⟨ir, da, dc, rfl, bd, gd⟩ := hr
  clear gp gw0 gw1 gm gv gd bp b0 b1
  have HRO := Kp.mk ir
  clear ir gc
  rw [hop] at HR ⊢
  clear hop
  go_enter Tryd.func15, Tryd.ntmps15
  have HB0 : Kp (Below w.heap.size w w) := ⟨Below.refl _ _⟩
  go_wp2_with fail
  refine (refAccepts_any _ C hsm _ (HC.out.below (below_al (below_al (below_al HB0.out _) _) _))).mono ?_
  rw [HA.out]
  rintro e w1 ⟨rfl, hb⟩
  have q1 : Kp (w1.heap[w.heap.size]? = some (.cells #[.slice pa C.parts.length pc, .slice ca C.chans.length cc, .int .i64 C.l0, .slice a0 C.w0.length c0, .int .i64 C.l1, .slice a1 C.w1.length c1] 29 (0, 0))) := ⟨blk_below (blk_al (blk_al (blk_new _ _) _) _) hb⟩
  have s1 : Kp (w1.heap[w.heap.size + 1]? = some (.cells #[.int .i64 S.part, .bool S.normal, .slice ma S.made.length mc, .slice va S.valid.length vc] 40 (0, 0))) := ⟨blk_below (blk_al (blk_at (w := (w.alloc (.cells #[.slice pa C.parts.length pc, .slice ca C.chans.length cc, .int .i64 C.l0, .slice a0 C.w0.length c0, .int .i64 C.l1, .slice a1 C.w1.length c1] 29))) (by simp) _) _) hb⟩
  have r1 : Kp (w1.heap[w.heap.size + 1 + 1]? = some (.cells #[.int .i64 1, .int .i64 R.port, .int .u64 R.addr, .slice da R.data.length dc] 44 (0, 0))) := ⟨blk_below (blk_at (w := ((w.alloc (.cells #[.slice pa C.parts.length pc, .slice ca C.chans.length cc, .int .i64 C.l0, .slice a0 C.w0.length c0, .int .i64 C.l1, .slice a1 C.w1.length c1] 29)).alloc (.cells #[.int .i64 S.part, .bool S.normal, .slice ma S.made.length mc, .slice va S.valid.length vc] 40))) (by simp) _) hb⟩
  have HB1 : Kp (Below w.heap.size w w1) := ⟨below_call (below_al (below_al (below_al HB0.out _) _) _) hb⟩
  clear HB0 hb
  have qc0 : w1.cell? ⟨w.heap.size, 0, none⟩ = some (.slice pa C.parts.length pc) := (cell_blk q1.out 0).trans rfl
  have qc1 : w1.cell? ⟨w.heap.size, 1, none⟩ = some (.slice ca C.chans.length cc) := (cell_blk q1.out 1).trans rfl
  have qc2 : w1.cell? ⟨w.heap.size, 2, none⟩ = some (.int .i64 C.l0) := (cell_blk q1.out 2).trans rfl
  have qc3 : w1.cell? ⟨w.heap.size, 3, none⟩ = some (.slice a0 C.w0.length c0) := (cell_blk q1.out 3).trans rfl
  have qc4 : w1.cell? ⟨w.heap.size, 4, none⟩ = some (.int .i64 C.l1) := (cell_blk q1.out 4).trans rfl
  have qc5 : w1.cell? ⟨w.heap.size, 5, none⟩ = some (.slice a1 C.w1.length c1) := (cell_blk q1.out 5).trans rfl
  have ql := blk_lt q1.out
  have sc0 : w1.cell? ⟨w.heap.size + 1, 0, none⟩ = some (.int .i64 S.part) := (cell_blk s1.out 0).trans rfl
  have sc1 : w1.cell? ⟨w.heap.size + 1, 1, none⟩ = some (.bool S.normal) := (cell_blk s1.out 1).trans rfl
  have sc2 : w1.cell? ⟨w.heap.size + 1, 2, none⟩ = some (.slice ma S.made.length mc) := (cell_blk s1.out 2).trans rfl
  have sc3 : w1.cell? ⟨w.heap.size + 1, 3, none⟩ = some (.slice va S.valid.length vc) := (cell_blk s1.out 3).trans rfl
  have sl := blk_lt s1.out
  have rc0 : w1.cell? ⟨w.heap.size + 1 + 1, 0, none⟩ = some (.int .i64 1) := (cell_blk r1.out 0).trans rfl
  have rc1 : w1.cell? ⟨w.heap.size + 1 + 1, 1, none⟩ = some (.int .i64 R.port) := (cell_blk r1.out 1).trans rfl
  have rc2 : w1.cell? ⟨w.heap.size + 1 + 1, 2, none⟩ = some (.int .u64 R.addr) := (cell_blk r1.out 2).trans rfl
  have rc3 : w1.cell? ⟨w.heap.size + 1 + 1, 3, none⟩ = some (.slice da R.data.length dc) := (cell_blk r1.out 3).trans rfl
  have rl := blk_lt r1.out
  go_wp2_with fail
  refine (rport_any _ C hsm R.port _ (HC.out.below HB1.out)).mono ?_
  rw [HPV.out]
  rintro e w2 ⟨rfl, hb⟩
  have q2 : Kp (w2.heap[w.heap.size]? = some (.cells #[.slice pa C.parts.length pc, .slice ca C.chans.length cc, .int .i64 C.l0, .slice a0 C.w0.length c0, .int .i64 C.l1, .slice a1 C.w1.length c1] 29 (0, 0))) := ⟨blk_below q1.out hb⟩
  have s2 : Kp (w2.heap[w.heap.size + 1]? = some (.cells #[.int .i64 S.part, .bool S.normal, .slice ma S.made.length mc, .slice va S.valid.length vc] 40 (0, 0))) := ⟨blk_below s1.out hb⟩
  have r2 : Kp (w2.heap[w.heap.size + 1 + 1]? = some (.cells #[.int .i64 1, .int .i64 R.port, .int .u64 R.addr, .slice da R.data.length dc] 44 (0, 0))) := ⟨blk_below r1.out hb⟩
  have HB2 : Kp (Below w.heap.size w w2) := ⟨below_call HB1.out hb⟩
  clear qc0 qc1 qc2 qc3 qc4 qc5 ql sc0 sc1 sc2 sc3 sl rc0 rc1 rc2 rc3 rl q1 s1 r1 HB1 hb
  have qc0 : w2.cell? ⟨w.heap.size, 0, none⟩ = some (.slice pa C.parts.length pc) := (cell_blk q2.out 0).trans rfl
  have qc1 : w2.cell? ⟨w.heap.size, 1, none⟩ = some (.slice ca C.chans.length cc) := (cell_blk q2.out 1).trans rfl
  have qc2 : w2.cell? ⟨w.heap.size, 2, none⟩ = some (.int .i64 C.l0) := (cell_blk q2.out 2).trans rfl
  have qc3 : w2.cell? ⟨w.heap.size, 3, none⟩ = some (.slice a0 C.w0.length c0) := (cell_blk q2.out 3).trans rfl
  have qc4 : w2.cell? ⟨w.heap.size, 4, none⟩ = some (.int .i64 C.l1) := (cell_blk q2.out 4).trans rfl
  have qc5 : w2.cell? ⟨w.heap.size, 5, none⟩ = some (.slice a1 C.w1.length c1) := (cell_blk q2.out 5).trans rfl
  have ql := blk_lt q2.out
  have sc0 : w2.cell? ⟨w.heap.size + 1, 0, none⟩ = some (.int .i64 S.part) := (cell_blk s2.out 0).trans rfl
  have sc1 : w2.cell? ⟨w.heap.size + 1, 1, none⟩ = some (.bool S.normal) := (cell_blk s2.out 1).trans rfl
  have sc2 : w2.cell? ⟨w.heap.size + 1, 2, none⟩ = some (.slice ma S.made.length mc) := (cell_blk s2.out 2).trans rfl
  have sc3 : w2.cell? ⟨w.heap.size + 1, 3, none⟩ = some (.slice va S.valid.length vc) := (cell_blk s2.out 3).trans rfl
  have sl := blk_lt s2.out
  have rc0 : w2.cell? ⟨w.heap.size + 1 + 1, 0, none⟩ = some (.int .i64 1) := (cell_blk r2.out 0).trans rfl
  have rc1 : w2.cell? ⟨w.heap.size + 1 + 1, 1, none⟩ = some (.int .i64 R.port) := (cell_blk r2.out 1).trans rfl
  have rc2 : w2.cell? ⟨w.heap.size + 1 + 1, 2, none⟩ = some (.int .u64 R.addr) := (cell_blk r2.out 2).trans rfl
  have rc3 : w2.cell? ⟨w.heap.size + 1 + 1, 3, none⟩ = some (.slice da R.data.length dc) := (cell_blk r2.out 3).trans rfl
  have rl := blk_lt r2.out
  go_wp2
  go_ret
  exact ⟨rfl, (below_al HB2.out _)⟩

set_option maxRecDepth 100000 in
set_option maxHeartbeats 8000000 in
theorem rref_1part (cv sv rv : Value) (C : Cfg) (S : Std) (R : Rqt) (hsm : C.small) (hm : S.made.length ≤ 100) (hd : R.data.length ≤ 100) (ha : accB C = true) (hp0 : 0 ≤ S.part) (hp1 : S.part < (C.parts.length : Int)) (hop : R.op = 1) (k0 : Nat) (hk0 : k0 < C.chans.length) (pp : Int) (src : Bool) (hpv : portV C R.port = ⟨k0, pp, src, true⟩) (hp : pp ≠ S.part) (w : World) (hc : CfgAt w cv C) (hs : StdAt w sv S) (hr : RqtAt w rv R) : Calls Tryd.prog 15 #[cv, sv, rv] w fun e w' => e = .returned (.int .i64 (4)) ∧ Below w.heap.size w w' := by
  have HA := Kp.mk ha
  clear ha
  have HPV := Kp.mk hpv
  have hne : (pp != S.part) = true := by simpa using hp
  clear hpv hp
  have HC := Kp.mk hc
  have HS := Kp.mk hs
  have HR := Kp.mk hr
  obtain ⟨_, pa, pc, ca, cc, a0, c0, a1, c1, rfl, bp, bc, b0, b1, gp, gc, gw0, gw1⟩ := hc
  obtain ⟨_, ma, mc, va, vc, rfl, bm, bv, gm, gv⟩ := hs
  obtain ⟨ir, da, dc, rfl, bd, gd⟩ := hr
  clear gp gw0 gw1 gm gv gd bp b0 b1
  have HRO := Kp.mk ir
  clear ir gc
  rw [hop] at HR ⊢
  clear hop
  go_enter Tryd.func15, Tryd.ntmps15
  have HB0 : Kp (Below w.heap.size w w) := ⟨Below.refl _ _⟩
  go_wp2_with fail
  refine (refAccepts_any _ C hsm _ (HC.out.below (below_al (below_al (below_al HB0.out _) _) _))).mono ?_
  rw [HA.out]
  rintro e w1 ⟨rfl, hb⟩
  have q1 : Kp (w1.heap[w.heap.size]? = some (.cells #[.slice pa C.parts.length pc, .slice ca C.chans.length cc, .int .i64 C.l0, .slice a0 C.w0.length c0, .int .i64 C.l1, .slice a1 C.w1.length c1] 29 (0, 0))) := ⟨blk_below (blk_al (blk_al (blk_new _ _) _) _) hb⟩
  have s1 : Kp (w1.heap[w.heap.size + 1]? = some (.cells #[.int .i64 S.part, .bool S.normal, .slice ma S.made.length mc, .slice va S.valid.length vc] 40 (0, 0))) := ⟨blk_below (blk_al (blk_at (w := (w.alloc (.cells #[.slice pa C.parts.length pc, .slice ca C.chans.length cc, .int .i64 C.l0, .slice a0 C.w0.length c0, .int .i64 C.l1, .slice a1 C.w1.length c1] 29))) (by simp) _) _) hb⟩
  have r1 : Kp (w1.heap[w.heap.size + 1 + 1]? = some (.cells #[.int .i64 1, .int .i64 R.port, .int .u64 R.addr, .slice da R.data.length dc] 44 (0, 0))) := ⟨blk_below (blk_at (w := ((w.alloc (.cells #[.slice pa C.parts.length pc, .slice ca C.chans.length cc, .int .i64 C.l0, .slice a0 C.w0.length c0, .int .i64 C.l1, .slice a1 C.w1.length c1] 29)).alloc (.cells #[.int .i64 S.part, .bool S.normal, .slice ma S.made.length mc, .slice va S.valid.length vc] 40))) (by simp) _) hb⟩
  have HB1 : Kp (Below w.heap.size w w1) := ⟨below_call (below_al (below_al (below_al HB0.out _) _) _) hb⟩
  clear HB0 hb
  have qc0 : w1.cell? ⟨w.heap.size, 0, none⟩ = some (.slice pa C.parts.length pc) := (cell_blk q1.out 0).trans rfl
  have qc1 : w1.cell? ⟨w.heap.size, 1, none⟩ = some (.slice ca C.chans.length cc) := (cell_blk q1.out 1).trans rfl
  have qc2 : w1.cell? ⟨w.heap.size, 2, none⟩ = some (.int .i64 C.l0) := (cell_blk q1.out 2).trans rfl
  have qc3 : w1.cell? ⟨w.heap.size, 3, none⟩ = some (.slice a0 C.w0.length c0) := (cell_blk q1.out 3).trans rfl
  have qc4 : w1.cell? ⟨w.heap.size, 4, none⟩ = some (.int .i64 C.l1) := (cell_blk q1.out 4).trans rfl
  have qc5 : w1.cell? ⟨w.heap.size, 5, none⟩ = some (.slice a1 C.w1.length c1) := (cell_blk q1.out 5).trans rfl
  have ql := blk_lt q1.out
  have sc0 : w1.cell? ⟨w.heap.size + 1, 0, none⟩ = some (.int .i64 S.part) := (cell_blk s1.out 0).trans rfl
  have sc1 : w1.cell? ⟨w.heap.size + 1, 1, none⟩ = some (.bool S.normal) := (cell_blk s1.out 1).trans rfl
  have sc2 : w1.cell? ⟨w.heap.size + 1, 2, none⟩ = some (.slice ma S.made.length mc) := (cell_blk s1.out 2).trans rfl
  have sc3 : w1.cell? ⟨w.heap.size + 1, 3, none⟩ = some (.slice va S.valid.length vc) := (cell_blk s1.out 3).trans rfl
  have sl := blk_lt s1.out
  have rc0 : w1.cell? ⟨w.heap.size + 1 + 1, 0, none⟩ = some (.int .i64 1) := (cell_blk r1.out 0).trans rfl
  have rc1 : w1.cell? ⟨w.heap.size + 1 + 1, 1, none⟩ = some (.int .i64 R.port) := (cell_blk r1.out 1).trans rfl
  have rc2 : w1.cell? ⟨w.heap.size + 1 + 1, 2, none⟩ = some (.int .u64 R.addr) := (cell_blk r1.out 2).trans rfl
  have rc3 : w1.cell? ⟨w.heap.size + 1 + 1, 3, none⟩ = some (.slice da R.data.length dc) := (cell_blk r1.out 3).trans rfl
  have rl := blk_lt r1.out
  go_wp2_with fail
  refine (rport_any _ C hsm R.port _ (HC.out.below HB1.out)).mono ?_
  rw [HPV.out]
  rintro e w2 ⟨rfl, hb⟩
  have q2 : Kp (w2.heap[w.heap.size]? = some (.cells #[.slice pa C.parts.length pc, .slice ca C.chans.length cc, .int .i64 C.l0, .slice a0 C.w0.length c0, .int .i64 C.l1, .slice a1 C.w1.length c1] 29 (0, 0))) := ⟨blk_below q1.out hb⟩
  have s2 : Kp (w2.heap[w.heap.size + 1]? = some (.cells #[.int .i64 S.part, .bool S.normal, .slice ma S.made.length mc, .slice va S.valid.length vc] 40 (0, 0))) := ⟨blk_below s1.out hb⟩
  have r2 : Kp (w2.heap[w.heap.size + 1 + 1]? = some (.cells #[.int .i64 1, .int .i64 R.port, .int .u64 R.addr, .slice da R.data.length dc] 44 (0, 0))) := ⟨blk_below r1.out hb⟩
  have HB2 : Kp (Below w.heap.size w w2) := ⟨below_call HB1.out hb⟩
  clear qc0 qc1 qc2 qc3 qc4 qc5 ql sc0 sc1 sc2 sc3 sl rc0 rc1 rc2 rc3 rl q1 s1 r1 HB1 hb
  have qc0 : w2.cell? ⟨w.heap.size, 0, none⟩ = some (.slice pa C.parts.length pc) := (cell_blk q2.out 0).trans rfl
  have qc1 : w2.cell? ⟨w.heap.size, 1, none⟩ = some (.slice ca C.chans.length cc) := (cell_blk q2.out 1).trans rfl
  have qc2 : w2.cell? ⟨w.heap.size, 2, none⟩ = some (.int .i64 C.l0) := (cell_blk q2.out 2).trans rfl
  have qc3 : w2.cell? ⟨w.heap.size, 3, none⟩ = some (.slice a0 C.w0.length c0) := (cell_blk q2.out 3).trans rfl
  have qc4 : w2.cell? ⟨w.heap.size, 4, none⟩ = some (.int .i64 C.l1) := (cell_blk q2.out 4).trans rfl
  have qc5 : w2.cell? ⟨w.heap.size, 5, none⟩ = some (.slice a1 C.w1.length c1) := (cell_blk q2.out 5).trans rfl
  have ql := blk_lt q2.out
  have sc0 : w2.cell? ⟨w.heap.size + 1, 0, none⟩ = some (.int .i64 S.part) := (cell_blk s2.out 0).trans rfl
  have sc1 : w2.cell? ⟨w.heap.size + 1, 1, none⟩ = some (.bool S.normal) := (cell_blk s2.out 1).trans rfl
  have sc2 : w2.cell? ⟨w.heap.size + 1, 2, none⟩ = some (.slice ma S.made.length mc) := (cell_blk s2.out 2).trans rfl
  have sc3 : w2.cell? ⟨w.heap.size + 1, 3, none⟩ = some (.slice va S.valid.length vc) := (cell_blk s2.out 3).trans rfl
  have sl := blk_lt s2.out
  have rc0 : w2.cell? ⟨w.heap.size + 1 + 1, 0, none⟩ = some (.int .i64 1) := (cell_blk r2.out 0).trans rfl
  have rc1 : w2.cell? ⟨w.heap.size + 1 + 1, 1, none⟩ = some (.int .i64 R.port) := (cell_blk r2.out 1).trans rfl
  have rc2 : w2.cell? ⟨w.heap.size + 1 + 1, 2, none⟩ = some (.int .u64 R.addr) := (cell_blk r2.out 2).trans rfl
  have rc3 : w2.cell? ⟨w.heap.size + 1 + 1, 3, none⟩ = some (.slice da R.data.length dc) := (cell_blk r2.out 3).trans rfl
  have rl := blk_lt r2.out
  go_wp2
  go_ret
  exact ⟨rfl, (below_al HB2.out _)⟩

set_option maxRecDepth 100000 in
set_option maxHeartbeats 8000000 in
theorem rref_1made (cv sv rv : Value) (C : Cfg) (S : Std) (R : Rqt) (hsm : C.small) (hm : S.made.length ≤ 100) (hd : R.data.length ≤ 100) (ha : accB C = true) (hp0 : 0 ≤ S.part) (hp1 : S.part < (C.parts.length : Int)) (hop : R.op = 1) (k0 : Nat) (hk0 : k0 < C.chans.length) (pp : Int) (src : Bool) (hpv : portV C R.port = ⟨k0, pp, src, true⟩) (hp : pp = S.part) (hmd : S.made.contains R.port = true) (w : World) (hc : CfgAt w cv C) (hs : StdAt w sv S) (hr : RqtAt w rv R) : Calls Tryd.prog 15 #[cv, sv, rv] w fun e w' => e = .returned (.int .i64 (1)) ∧ Below w.heap.size w w' := by
  have HA := Kp.mk ha
  clear ha
  have HPV := Kp.mk hpv
  have hne : (pp != S.part) = false := by simpa using hp
  have HMD := Kp.mk hmd
  clear hpv hp hmd
  have HC := Kp.mk hc
  have HS := Kp.mk hs
  have HR := Kp.mk hr
  obtain ⟨_, pa, pc, ca, cc, a0, c0, a1, c1, rfl, bp, bc, b0, b1, gp, gc, gw0, gw1⟩ := hc
  obtain ⟨_, ma, mc, va, vc, rfl, bm, bv, gm, gv⟩ := hs
  obtain ⟨ir, da, dc, rfl, bd, gd⟩ := hr
  clear gp gw0 gw1 gm gv gd bp b0 b1
  have HRO := Kp.mk ir
  clear ir gc
  rw [hop] at HR ⊢
  clear hop
  go_enter Tryd.func15, Tryd.ntmps15
  have HB0 : Kp (Below w.heap.size w w) := ⟨Below.refl _ _⟩
  go_wp2_with fail
  refine (refAccepts_any _ C hsm _ (HC.out.below (below_al (below_al (below_al HB0.out _) _) _))).mono ?_
  rw [HA.out]
  rintro e w1 ⟨rfl, hb⟩
  have q1 : Kp (w1.heap[w.heap.size]? = some (.cells #[.slice pa C.parts.length pc, .slice ca C.chans.length cc, .int .i64 C.l0, .slice a0 C.w0.length c0, .int .i64 C.l1, .slice a1 C.w1.length c1] 29 (0, 0))) := ⟨blk_below (blk_al (blk_al (blk_new _ _) _) _) hb⟩
  have s1 : Kp (w1.heap[w.heap.size + 1]? = some (.cells #[.int .i64 S.part, .bool S.normal, .slice ma S.made.length mc, .slice va S.valid.length vc] 40 (0, 0))) := ⟨blk_below (blk_al (blk_at (w := (w.alloc (.cells #[.slice pa C.parts.length pc, .slice ca C.chans.length cc, .int .i64 C.l0, .slice a0 C.w0.length c0, .int .i64 C.l1, .slice a1 C.w1.length c1] 29))) (by simp) _) _) hb⟩
  have r1 : Kp (w1.heap[w.heap.size + 1 + 1]? = some (.cells #[.int .i64 1, .int .i64 R.port, .int .u64 R.addr, .slice da R.data.length dc] 44 (0, 0))) := ⟨blk_below (blk_at (w := ((w.alloc (.cells #[.slice pa C.parts.length pc, .slice ca C.chans.length cc, .int .i64 C.l0, .slice a0 C.w0.length c0, .int .i64 C.l1, .slice a1 C.w1.length c1] 29)).alloc (.cells #[.int .i64 S.part, .bool S.normal, .slice ma S.made.length mc, .slice va S.valid.length vc] 40))) (by simp) _) hb⟩
  have HB1 : Kp (Below w.heap.size w w1) := ⟨below_call (below_al (below_al (below_al HB0.out _) _) _) hb⟩
  clear HB0 hb
  have qc0 : w1.cell? ⟨w.heap.size, 0, none⟩ = some (.slice pa C.parts.length pc) := (cell_blk q1.out 0).trans rfl
  have qc1 : w1.cell? ⟨w.heap.size, 1, none⟩ = some (.slice ca C.chans.length cc) := (cell_blk q1.out 1).trans rfl
  have qc2 : w1.cell? ⟨w.heap.size, 2, none⟩ = some (.int .i64 C.l0) := (cell_blk q1.out 2).trans rfl
  have qc3 : w1.cell? ⟨w.heap.size, 3, none⟩ = some (.slice a0 C.w0.length c0) := (cell_blk q1.out 3).trans rfl
  have qc4 : w1.cell? ⟨w.heap.size, 4, none⟩ = some (.int .i64 C.l1) := (cell_blk q1.out 4).trans rfl
  have qc5 : w1.cell? ⟨w.heap.size, 5, none⟩ = some (.slice a1 C.w1.length c1) := (cell_blk q1.out 5).trans rfl
  have ql := blk_lt q1.out
  have sc0 : w1.cell? ⟨w.heap.size + 1, 0, none⟩ = some (.int .i64 S.part) := (cell_blk s1.out 0).trans rfl
  have sc1 : w1.cell? ⟨w.heap.size + 1, 1, none⟩ = some (.bool S.normal) := (cell_blk s1.out 1).trans rfl
  have sc2 : w1.cell? ⟨w.heap.size + 1, 2, none⟩ = some (.slice ma S.made.length mc) := (cell_blk s1.out 2).trans rfl
  have sc3 : w1.cell? ⟨w.heap.size + 1, 3, none⟩ = some (.slice va S.valid.length vc) := (cell_blk s1.out 3).trans rfl
  have sl := blk_lt s1.out
  have rc0 : w1.cell? ⟨w.heap.size + 1 + 1, 0, none⟩ = some (.int .i64 1) := (cell_blk r1.out 0).trans rfl
  have rc1 : w1.cell? ⟨w.heap.size + 1 + 1, 1, none⟩ = some (.int .i64 R.port) := (cell_blk r1.out 1).trans rfl
  have rc2 : w1.cell? ⟨w.heap.size + 1 + 1, 2, none⟩ = some (.int .u64 R.addr) := (cell_blk r1.out 2).trans rfl
  have rc3 : w1.cell? ⟨w.heap.size + 1 + 1, 3, none⟩ = some (.slice da R.data.length dc) := (cell_blk r1.out 3).trans rfl
  have rl := blk_lt r1.out
  go_wp2_with fail
  refine (rport_any _ C hsm R.port _ (HC.out.below HB1.out)).mono ?_
  rw [HPV.out]
  rintro e w2 ⟨rfl, hb⟩
  have q2 : Kp (w2.heap[w.heap.size]? = some (.cells #[.slice pa C.parts.length pc, .slice ca C.chans.length cc, .int .i64 C.l0, .slice a0 C.w0.length c0, .int .i64 C.l1, .slice a1 C.w1.length c1] 29 (0, 0))) := ⟨blk_below q1.out hb⟩
  have s2 : Kp (w2.heap[w.heap.size + 1]? = some (.cells #[.int .i64 S.part, .bool S.normal, .slice ma S.made.length mc, .slice va S.valid.length vc] 40 (0, 0))) := ⟨blk_below s1.out hb⟩
  have r2 : Kp (w2.heap[w.heap.size + 1 + 1]? = some (.cells #[.int .i64 1, .int .i64 R.port, .int .u64 R.addr, .slice da R.data.length dc] 44 (0, 0))) := ⟨blk_below r1.out hb⟩
  have HB2 : Kp (Below w.heap.size w w2) := ⟨below_call HB1.out hb⟩
  clear qc0 qc1 qc2 qc3 qc4 qc5 ql sc0 sc1 sc2 sc3 sl rc0 rc1 rc2 rc3 rl q1 s1 r1 HB1 hb
  have qc0 : w2.cell? ⟨w.heap.size, 0, none⟩ = some (.slice pa C.parts.length pc) := (cell_blk q2.out 0).trans rfl
  have qc1 : w2.cell? ⟨w.heap.size, 1, none⟩ = some (.slice ca C.chans.length cc) := (cell_blk q2.out 1).trans rfl
  have qc2 : w2.cell? ⟨w.heap.size, 2, none⟩ = some (.int .i64 C.l0) := (cell_blk q2.out 2).trans rfl
  have qc3 : w2.cell? ⟨w.heap.size, 3, none⟩ = some (.slice a0 C.w0.length c0) := (cell_blk q2.out 3).trans rfl
  have qc4 : w2.cell? ⟨w.heap.size, 4, none⟩ = some (.int .i64 C.l1) := (cell_blk q2.out 4).trans rfl
  have qc5 : w2.cell? ⟨w.heap.size, 5, none⟩ = some (.slice a1 C.w1.length c1) := (cell_blk q2.out 5).trans rfl
  have ql := blk_lt q2.out
  have sc0 : w2.cell? ⟨w.heap.size + 1, 0, none⟩ = some (.int .i64 S.part) := (cell_blk s2.out 0).trans rfl
  have sc1 : w2.cell? ⟨w.heap.size + 1, 1, none⟩ = some (.bool S.normal) := (cell_blk s2.out 1).trans rfl
  have sc2 : w2.cell? ⟨w.heap.size + 1, 2, none⟩ = some (.slice ma S.made.length mc) := (cell_blk s2.out 2).trans rfl
  have sc3 : w2.cell? ⟨w.heap.size + 1, 3, none⟩ = some (.slice va S.valid.length vc) := (cell_blk s2.out 3).trans rfl
  have sl := blk_lt s2.out
  have rc0 : w2.cell? ⟨w.heap.size + 1 + 1, 0, none⟩ = some (.int .i64 1) := (cell_blk r2.out 0).trans rfl
  have rc1 : w2.cell? ⟨w.heap.size + 1 + 1, 1, none⟩ = some (.int .i64 R.port) := (cell_blk r2.out 1).trans rfl
  have rc2 : w2.cell? ⟨w.heap.size + 1 + 1, 2, none⟩ = some (.int .u64 R.addr) := (cell_blk r2.out 2).trans rfl
  have rc3 : w2.cell? ⟨w.heap.size + 1 + 1, 3, none⟩ = some (.slice da R.data.length dc) := (cell_blk r2.out 3).trans rfl
  have rl := blk_lt r2.out
  go_wp2_with fail
  refine (rmade_any _ S R.port hm _ (HS.out.below (below_al HB2.out _))).mono ?_
  rw [HMD.out]
  rintro e w3 ⟨rfl, hb⟩
  have x3 : Kp (w3.heap[w2.heap.size]? = some (.cells #[.int .i64 (k0 : Int), .int .i64 pp, .bool src, .bool true] 35 (0, 0))) := ⟨blk_below (blk_new _ _) hb⟩
  have q3 : Kp (w3.heap[w.heap.size]? = some (.cells #[.slice pa C.parts.length pc, .slice ca C.chans.length cc, .int .i64 C.l0, .slice a0 C.w0.length c0, .int .i64 C.l1, .slice a1 C.w1.length c1] 29 (0, 0))) := ⟨blk_below (blk_al q2.out _) hb⟩
  have s3 : Kp (w3.heap[w.heap.size + 1]? = some (.cells #[.int .i64 S.part, .bool S.normal, .slice ma S.made.length mc, .slice va S.valid.length vc] 40 (0, 0))) := ⟨blk_below (blk_al s2.out _) hb⟩
  have r3 : Kp (w3.heap[w.heap.size + 1 + 1]? = some (.cells #[.int .i64 1, .int .i64 R.port, .int .u64 R.addr, .slice da R.data.length dc] 44 (0, 0))) := ⟨blk_below (blk_al r2.out _) hb⟩
  have HB3 : Kp (Below w.heap.size w w3) := ⟨below_call (below_al HB2.out _) hb⟩
  clear qc0 qc1 qc2 qc3 qc4 qc5 ql sc0 sc1 sc2 sc3 sl rc0 rc1 rc2 rc3 rl q2 s2 r2 HB2 hb
  have xc0 : w3.cell? ⟨w2.heap.size, 0, none⟩ = some (.int .i64 (k0 : Int)) := (cell_blk x3.out 0).trans rfl
  have xc1 : w3.cell? ⟨w2.heap.size, 1, none⟩ = some (.int .i64 pp) := (cell_blk x3.out 1).trans rfl
  have xc2 : w3.cell? ⟨w2.heap.size, 2, none⟩ = some (.bool src) := (cell_blk x3.out 2).trans rfl
  have xc3 : w3.cell? ⟨w2.heap.size, 3, none⟩ = some (.bool true) := (cell_blk x3.out 3).trans rfl
  have xl := blk_lt x3.out
  have qc0 : w3.cell? ⟨w.heap.size, 0, none⟩ = some (.slice pa C.parts.length pc) := (cell_blk q3.out 0).trans rfl
  have qc1 : w3.cell? ⟨w.heap.size, 1, none⟩ = some (.slice ca C.chans.length cc) := (cell_blk q3.out 1).trans rfl
  have qc2 : w3.cell? ⟨w.heap.size, 2, none⟩ = some (.int .i64 C.l0) := (cell_blk q3.out 2).trans rfl
  have qc3 : w3.cell? ⟨w.heap.size, 3, none⟩ = some (.slice a0 C.w0.length c0) := (cell_blk q3.out 3).trans rfl
  have qc4 : w3.cell? ⟨w.heap.size, 4, none⟩ = some (.int .i64 C.l1) := (cell_blk q3.out 4).trans rfl
  have qc5 : w3.cell? ⟨w.heap.size, 5, none⟩ = some (.slice a1 C.w1.length c1) := (cell_blk q3.out 5).trans rfl
  have ql := blk_lt q3.out
  have sc0 : w3.cell? ⟨w.heap.size + 1, 0, none⟩ = some (.int .i64 S.part) := (cell_blk s3.out 0).trans rfl
  have sc1 : w3.cell? ⟨w.heap.size + 1, 1, none⟩ = some (.bool S.normal) := (cell_blk s3.out 1).trans rfl
  have sc2 : w3.cell? ⟨w.heap.size + 1, 2, none⟩ = some (.slice ma S.made.length mc) := (cell_blk s3.out 2).trans rfl
  have sc3 : w3.cell? ⟨w.heap.size + 1, 3, none⟩ = some (.slice va S.valid.length vc) := (cell_blk s3.out 3).trans rfl
  have sl := blk_lt s3.out
  have rc0 : w3.cell? ⟨w.heap.size + 1 + 1, 0, none⟩ = some (.int .i64 1) := (cell_blk r3.out 0).trans rfl
  have rc1 : w3.cell? ⟨w.heap.size + 1 + 1, 1, none⟩ = some (.int .i64 R.port) := (cell_blk r3.out 1).trans rfl
  have rc2 : w3.cell? ⟨w.heap.size + 1 + 1, 2, none⟩ = some (.int .u64 R.addr) := (cell_blk r3.out 2).trans rfl
  have rc3 : w3.cell? ⟨w.heap.size + 1 + 1, 3, none⟩ = some (.slice da R.data.length dc) := (cell_blk r3.out 3).trans rfl
  have rl := blk_lt r3.out
  go_wp2
  go_ret
  exact ⟨rfl, HB3.out⟩

set_option maxRecDepth 100000 in
set_option maxHeartbeats 8000000 in
theorem rref_1ntrue (cv sv rv : Value) (C : Cfg) (S : Std) (R : Rqt) (hsm : C.small) (hm : S.made.length ≤ 100) (hd : R.data.length ≤ 100) (ha : accB C = true) (hp0 : 0 ≤ S.part) (hp1 : S.part < (C.parts.length : Int)) (hop : R.op = 1) (k0 : Nat) (hk0 : k0 < C.chans.length) (pp : Int) (src : Bool) (hpv : portV C R.port = ⟨k0, pp, src, true⟩) (hp : pp = S.part) (hmd : S.made.contains R.port = false) (hn : S.normal = true) (w : World) (hc : CfgAt w cv C) (hs : StdAt w sv S) (hr : RqtAt w rv R) : Calls Tryd.prog 15 #[cv, sv, rv] w fun e w' => e = .returned (.int .i64 (5)) ∧ Below w.heap.size w w' := by
  have HA := Kp.mk ha
  clear ha
  have HPV := Kp.mk hpv
  have hne : (pp != S.part) = false := by simpa using hp
  have HMD := Kp.mk hmd
  clear hpv hp hmd
  have HC := Kp.mk hc
  have HS := Kp.mk hs
  have HR := Kp.mk hr
  obtain ⟨_, pa, pc, ca, cc, a0, c0, a1, c1, rfl, bp, bc, b0, b1, gp, gc, gw0, gw1⟩ := hc
  obtain ⟨_, ma, mc, va, vc, rfl, bm, bv, gm, gv⟩ := hs
  obtain ⟨ir, da, dc, rfl, bd, gd⟩ := hr
  clear gp gw0 gw1 gm gv gd bp b0 b1
  have HRO := Kp.mk ir
  clear ir gc
  rw [hn] at HS ⊢
  clear hn
  rw [hop] at HR ⊢
  clear hop
  go_enter Tryd.func15, Tryd.ntmps15
  have HB0 : Kp (Below w.heap.size w w) := ⟨Below.refl _ _⟩
  go_wp2_with fail
  refine (refAccepts_any _ C hsm _ (HC.out.below (below_al (below_al (below_al HB0.out _) _) _))).mono ?_
  rw [HA.out]
  rintro e w1 ⟨rfl, hb⟩
  have q1 : Kp (w1.heap[w.heap.size]? = some (.cells #[.slice pa C.parts.length pc, .slice ca C.chans.length cc, .int .i64 C.l0, .slice a0 C.w0.length c0, .int .i64 C.l1, .slice a1 C.w1.length c1] 29 (0, 0))) := ⟨blk_below (blk_al (blk_al (blk_new _ _) _) _) hb⟩
  have s1 : Kp (w1.heap[w.heap.size + 1]? = some (.cells #[.int .i64 S.part, .bool true, .slice ma S.made.length mc, .slice va S.valid.length vc] 40 (0, 0))) := ⟨blk_below (blk_al (blk_at (w := (w.alloc (.cells #[.slice pa C.parts.length pc, .slice ca C.chans.length cc, .int .i64 C.l0, .slice a0 C.w0.length c0, .int .i64 C.l1, .slice a1 C.w1.length c1] 29))) (by simp) _) _) hb⟩
  have r1 : Kp (w1.heap[w.heap.size + 1 + 1]? = some (.cells #[.int .i64 1, .int .i64 R.port, .int .u64 R.addr, .slice da R.data.length dc] 44 (0, 0))) := ⟨blk_below (blk_at (w := ((w.alloc (.cells #[.slice pa C.parts.length pc, .slice ca C.chans.length cc, .int .i64 C.l0, .slice a0 C.w0.length c0, .int .i64 C.l1, .slice a1 C.w1.length c1] 29)).alloc (.cells #[.int .i64 S.part, .bool true, .slice ma S.made.length mc, .slice va S.valid.length vc] 40))) (by simp) _) hb⟩
  have HB1 : Kp (Below w.heap.size w w1) := ⟨below_call (below_al (below_al (below_al HB0.out _) _) _) hb⟩
  clear HB0 hb
  have qc0 : w1.cell? ⟨w.heap.size, 0, none⟩ = some (.slice pa C.parts.length pc) := (cell_blk q1.out 0).trans rfl
  have qc1 : w1.cell? ⟨w.heap.size, 1, none⟩ = some (.slice ca C.chans.length cc) := (cell_blk q1.out 1).trans rfl
  have qc2 : w1.cell? ⟨w.heap.size, 2, none⟩ = some (.int .i64 C.l0) := (cell_blk q1.out 2).trans rfl
  have qc3 : w1.cell? ⟨w.heap.size, 3, none⟩ = some (.slice a0 C.w0.length c0) := (cell_blk q1.out 3).trans rfl
  have qc4 : w1.cell? ⟨w.heap.size, 4, none⟩ = some (.int .i64 C.l1) := (cell_blk q1.out 4).trans rfl
  have qc5 : w1.cell? ⟨w.heap.size, 5, none⟩ = some (.slice a1 C.w1.length c1) := (cell_blk q1.out 5).trans rfl
  have ql := blk_lt q1.out
  have sc0 : w1.cell? ⟨w.heap.size + 1, 0, none⟩ = some (.int .i64 S.part) := (cell_blk s1.out 0).trans rfl
  have sc1 : w1.cell? ⟨w.heap.size + 1, 1, none⟩ = some (.bool true) := (cell_blk s1.out 1).trans rfl
  have sc2 : w1.cell? ⟨w.heap.size + 1, 2, none⟩ = some (.slice ma S.made.length mc) := (cell_blk s1.out 2).trans rfl
  have sc3 : w1.cell? ⟨w.heap.size + 1, 3, none⟩ = some (.slice va S.valid.length vc) := (cell_blk s1.out 3).trans rfl
  have sl := blk_lt s1.out
  have rc0 : w1.cell? ⟨w.heap.size + 1 + 1, 0, none⟩ = some (.int .i64 1) := (cell_blk r1.out 0).trans rfl
  have rc1 : w1.cell? ⟨w.heap.size + 1 + 1, 1, none⟩ = some (.int .i64 R.port) := (cell_blk r1.out 1).trans rfl
  have rc2 : w1.cell? ⟨w.heap.size + 1 + 1, 2, none⟩ = some (.int .u64 R.addr) := (cell_blk r1.out 2).trans rfl
  have rc3 : w1.cell? ⟨w.heap.size + 1 + 1, 3, none⟩ = some (.slice da R.data.length dc) := (cell_blk r1.out 3).trans rfl
  have rl := blk_lt r1.out
  go_wp2_with fail
  refine (rport_any _ C hsm R.port _ (HC.out.below HB1.out)).mono ?_
  rw [HPV.out]
  rintro e w2 ⟨rfl, hb⟩
  have q2 : Kp (w2.heap[w.heap.size]? = some (.cells #[.slice pa C.parts.length pc, .slice ca C.chans.length cc, .int .i64 C.l0, .slice a0 C.w0.length c0, .int .i64 C.l1, .slice a1 C.w1.length c1] 29 (0, 0))) := ⟨blk_below q1.out hb⟩
  have s2 : Kp (w2.heap[w.heap.size + 1]? = some (.cells #[.int .i64 S.part, .bool true, .slice ma S.made.length mc, .slice va S.valid.length vc] 40 (0, 0))) := ⟨blk_below s1.out hb⟩
  have r2 : Kp (w2.heap[w.heap.size + 1 + 1]? = some (.cells #[.int .i64 1, .int .i64 R.port, .int .u64 R.addr, .slice da R.data.length dc] 44 (0, 0))) := ⟨blk_below r1.out hb⟩
  have HB2 : Kp (Below w.heap.size w w2) := ⟨below_call HB1.out hb⟩
  clear qc0 qc1 qc2 qc3 qc4 qc5 ql sc0 sc1 sc2 sc3 sl rc0 rc1 rc2 rc3 rl q1 s1 r1 HB1 hb
  have qc0 : w2.cell? ⟨w.heap.size, 0, none⟩ = some (.slice pa C.parts.length pc) := (cell_blk q2.out 0).trans rfl
  have qc1 : w2.cell? ⟨w.heap.size, 1, none⟩ = some (.slice ca C.chans.length cc) := (cell_blk q2.out 1).trans rfl
  have qc2 : w2.cell? ⟨w.heap.size, 2, none⟩ = some (.int .i64 C.l0) := (cell_blk q2.out 2).trans rfl
  have qc3 : w2.cell? ⟨w.heap.size, 3, none⟩ = some (.slice a0 C.w0.length c0) := (cell_blk q2.out 3).trans rfl
  have qc4 : w2.cell? ⟨w.heap.size, 4, none⟩ = some (.int .i64 C.l1) := (cell_blk q2.out 4).trans rfl
  have qc5 : w2.cell? ⟨w.heap.size, 5, none⟩ = some (.slice a1 C.w1.length c1) := (cell_blk q2.out 5).trans rfl
  have ql := blk_lt q2.out
  have sc0 : w2.cell? ⟨w.heap.size + 1, 0, none⟩ = some (.int .i64 S.part) := (cell_blk s2.out 0).trans rfl
  have sc1 : w2.cell? ⟨w.heap.size + 1, 1, none⟩ = some (.bool true) := (cell_blk s2.out 1).trans rfl
  have sc2 : w2.cell? ⟨w.heap.size + 1, 2, none⟩ = some (.slice ma S.made.length mc) := (cell_blk s2.out 2).trans rfl
  have sc3 : w2.cell? ⟨w.heap.size + 1, 3, none⟩ = some (.slice va S.valid.length vc) := (cell_blk s2.out 3).trans rfl
  have sl := blk_lt s2.out
  have rc0 : w2.cell? ⟨w.heap.size + 1 + 1, 0, none⟩ = some (.int .i64 1) := (cell_blk r2.out 0).trans rfl
  have rc1 : w2.cell? ⟨w.heap.size + 1 + 1, 1, none⟩ = some (.int .i64 R.port) := (cell_blk r2.out 1).trans rfl
  have rc2 : w2.cell? ⟨w.heap.size + 1 + 1, 2, none⟩ = some (.int .u64 R.addr) := (cell_blk r2.out 2).trans rfl
  have rc3 : w2.cell? ⟨w.heap.size + 1 + 1, 3, none⟩ = some (.slice da R.data.length dc) := (cell_blk r2.out 3).trans rfl
  have rl := blk_lt r2.out
  go_wp2_with fail
  refine (rmade_any _ S R.port hm _ (HS.out.below (below_al HB2.out _))).mono ?_
  rw [HMD.out]
  rintro e w3 ⟨rfl, hb⟩
  have x3 : Kp (w3.heap[w2.heap.size]? = some (.cells #[.int .i64 (k0 : Int), .int .i64 pp, .bool src, .bool true] 35 (0, 0))) := ⟨blk_below (blk_new _ _) hb⟩
  have q3 : Kp (w3.heap[w.heap.size]? = some (.cells #[.slice pa C.parts.length pc, .slice ca C.chans.length cc, .int .i64 C.l0, .slice a0 C.w0.length c0, .int .i64 C.l1, .slice a1 C.w1.length c1] 29 (0, 0))) := ⟨blk_below (blk_al q2.out _) hb⟩
  have s3 : Kp (w3.heap[w.heap.size + 1]? = some (.cells #[.int .i64 S.part, .bool true, .slice ma S.made.length mc, .slice va S.valid.length vc] 40 (0, 0))) := ⟨blk_below (blk_al s2.out _) hb⟩
  have r3 : Kp (w3.heap[w.heap.size + 1 + 1]? = some (.cells #[.int .i64 1, .int .i64 R.port, .int .u64 R.addr, .slice da R.data.length dc] 44 (0, 0))) := ⟨blk_below (blk_al r2.out _) hb⟩
  have HB3 : Kp (Below w.heap.size w w3) := ⟨below_call (below_al HB2.out _) hb⟩
  clear qc0 qc1 qc2 qc3 qc4 qc5 ql sc0 sc1 sc2 sc3 sl rc0 rc1 rc2 rc3 rl q2 s2 r2 HB2 hb
  have xc0 : w3.cell? ⟨w2.heap.size, 0, none⟩ = some (.int .i64 (k0 : Int)) := (cell_blk x3.out 0).trans rfl
  have xc1 : w3.cell? ⟨w2.heap.size, 1, none⟩ = some (.int .i64 pp) := (cell_blk x3.out 1).trans rfl
  have xc2 : w3.cell? ⟨w2.heap.size, 2, none⟩ = some (.bool src) := (cell_blk x3.out 2).trans rfl
  have xc3 : w3.cell? ⟨w2.heap.size, 3, none⟩ = some (.bool true) := (cell_blk x3.out 3).trans rfl
  have xl := blk_lt x3.out
  have qc0 : w3.cell? ⟨w.heap.size, 0, none⟩ = some (.slice pa C.parts.length pc) := (cell_blk q3.out 0).trans rfl
  have qc1 : w3.cell? ⟨w.heap.size, 1, none⟩ = some (.slice ca C.chans.length cc) := (cell_blk q3.out 1).trans rfl
  have qc2 : w3.cell? ⟨w.heap.size, 2, none⟩ = some (.int .i64 C.l0) := (cell_blk q3.out 2).trans rfl
  have qc3 : w3.cell? ⟨w.heap.size, 3, none⟩ = some (.slice a0 C.w0.length c0) := (cell_blk q3.out 3).trans rfl
  have qc4 : w3.cell? ⟨w.heap.size, 4, none⟩ = some (.int .i64 C.l1) := (cell_blk q3.out 4).trans rfl
  have qc5 : w3.cell? ⟨w.heap.size, 5, none⟩ = some (.slice a1 C.w1.length c1) := (cell_blk q3.out 5).trans rfl
  have ql := blk_lt q3.out
  have sc0 : w3.cell? ⟨w.heap.size + 1, 0, none⟩ = some (.int .i64 S.part) := (cell_blk s3.out 0).trans rfl
  have sc1 : w3.cell? ⟨w.heap.size + 1, 1, none⟩ = some (.bool true) := (cell_blk s3.out 1).trans rfl
  have sc2 : w3.cell? ⟨w.heap.size + 1, 2, none⟩ = some (.slice ma S.made.length mc) := (cell_blk s3.out 2).trans rfl
  have sc3 : w3.cell? ⟨w.heap.size + 1, 3, none⟩ = some (.slice va S.valid.length vc) := (cell_blk s3.out 3).trans rfl
  have sl := blk_lt s3.out
  have rc0 : w3.cell? ⟨w.heap.size + 1 + 1, 0, none⟩ = some (.int .i64 1) := (cell_blk r3.out 0).trans rfl
  have rc1 : w3.cell? ⟨w.heap.size + 1 + 1, 1, none⟩ = some (.int .i64 R.port) := (cell_blk r3.out 1).trans rfl
  have rc2 : w3.cell? ⟨w.heap.size + 1 + 1, 2, none⟩ = some (.int .u64 R.addr) := (cell_blk r3.out 2).trans rfl
  have rc3 : w3.cell? ⟨w.heap.size + 1 + 1, 3, none⟩ = some (.slice da R.data.length dc) := (cell_blk r3.out 3).trans rfl
  have rl := blk_lt r3.out
  go_wp2
  go_ret
  exact ⟨rfl, HB3.out⟩

set_option maxRecDepth 100000 in
set_option maxHeartbeats 8000000 in
theorem rref_2ntrue (cv sv rv : Value) (C : Cfg) (S : Std) (R : Rqt) (hsm : C.small) (hm : S.made.length ≤ 100) (hd : R.data.length ≤ 100) (ha : accB C = true) (hp0 : 0 ≤ S.part) (hp1 : S.part < (C.parts.length : Int)) (hop : R.op = 2) (hn : S.normal = true) (w : World) (hc : CfgAt w cv C) (hs : StdAt w sv S) (hr : RqtAt w rv R) : Calls Tryd.prog 15 #[cv, sv, rv] w fun e w' => e = .returned (.int .i64 (5)) ∧ Below w.heap.size w w' := by
  have HA := Kp.mk ha
  clear ha
  have HC := Kp.mk hc
  have HS := Kp.mk hs
  have HR := Kp.mk hr
  obtain ⟨_, pa, pc, ca, cc, a0, c0, a1, c1, rfl, bp, bc, b0, b1, gp, gc, gw0, gw1⟩ := hc
  obtain ⟨_, ma, mc, va, vc, rfl, bm, bv, gm, gv⟩ := hs
  obtain ⟨ir, da, dc, rfl, bd, gd⟩ := hr
  clear gp gw0 gw1 gm gv gd bp b0 b1
  have HRO := Kp.mk ir
  clear ir gc
  rw [hn] at HS ⊢
  clear hn
  rw [hop] at HR ⊢
  clear hop
  go_enter Tryd.func15, Tryd.ntmps15
  have HB0 : Kp (Below w.heap.size w w) := ⟨Below.refl _ _⟩
  go_wp2_with fail
  refine (refAccepts_any _ C hsm _ (HC.out.below (below_al (below_al (below_al HB0.out _) _) _))).mono ?_
  rw [HA.out]
  rintro e w1 ⟨rfl, hb⟩
  have q1 : Kp (w1.heap[w.heap.size]? = some (.cells #[.slice pa C.parts.length pc, .slice ca C.chans.length cc, .int .i64 C.l0, .slice a0 C.w0.length c0, .int .i64 C.l1, .slice a1 C.w1.length c1] 29 (0, 0))) := ⟨blk_below (blk_al (blk_al (blk_new _ _) _) _) hb⟩
  have s1 : Kp (w1.heap[w.heap.size + 1]? = some (.cells #[.int .i64 S.part, .bool true, .slice ma S.made.length mc, .slice va S.valid.length vc] 40 (0, 0))) := ⟨blk_below (blk_al (blk_at (w := (w.alloc (.cells #[.slice pa C.parts.length pc, .slice ca C.chans.length cc, .int .i64 C.l0, .slice a0 C.w0.length c0, .int .i64 C.l1, .slice a1 C.w1.length c1] 29))) (by simp) _) _) hb⟩
  have r1 : Kp (w1.heap[w.heap.size + 1 + 1]? = some (.cells #[.int .i64 2, .int .i64 R.port, .int .u64 R.addr, .slice da R.data.length dc] 44 (0, 0))) := ⟨blk_below (blk_at (w := ((w.alloc (.cells #[.slice pa C.parts.length pc, .slice ca C.chans.length cc, .int .i64 C.l0, .slice a0 C.w0.length c0, .int .i64 C.l1, .slice a1 C.w1.length c1] 29)).alloc (.cells #[.int .i64 S.part, .bool true, .slice ma S.made.length mc, .slice va S.valid.length vc] 40))) (by simp) _) hb⟩
  have HB1 : Kp (Below w.heap.size w w1) := ⟨below_call (below_al (below_al (below_al HB0.out _) _) _) hb⟩
  clear HB0 hb
  have qc0 : w1.cell? ⟨w.heap.size, 0, none⟩ = some (.slice pa C.parts.length pc) := (cell_blk q1.out 0).trans rfl
  have qc1 : w1.cell? ⟨w.heap.size, 1, none⟩ = some (.slice ca C.chans.length cc) := (cell_blk q1.out 1).trans rfl
  have qc2 : w1.cell? ⟨w.heap.size, 2, none⟩ = some (.int .i64 C.l0) := (cell_blk q1.out 2).trans rfl
  have qc3 : w1.cell? ⟨w.heap.size, 3, none⟩ = some (.slice a0 C.w0.length c0) := (cell_blk q1.out 3).trans rfl
  have qc4 : w1.cell? ⟨w.heap.size, 4, none⟩ = some (.int .i64 C.l1) := (cell_blk q1.out 4).trans rfl
  have qc5 : w1.cell? ⟨w.heap.size, 5, none⟩ = some (.slice a1 C.w1.length c1) := (cell_blk q1.out 5).trans rfl
  have ql := blk_lt q1.out
  have sc0 : w1.cell? ⟨w.heap.size + 1, 0, none⟩ = some (.int .i64 S.part) := (cell_blk s1.out 0).trans rfl
  have sc1 : w1.cell? ⟨w.heap.size + 1, 1, none⟩ = some (.bool true) := (cell_blk s1.out 1).trans rfl
  have sc2 : w1.cell? ⟨w.heap.size + 1, 2, none⟩ = some (.slice ma S.made.length mc) := (cell_blk s1.out 2).trans rfl
  have sc3 : w1.cell? ⟨w.heap.size + 1, 3, none⟩ = some (.slice va S.valid.length vc) := (cell_blk s1.out 3).trans rfl
  have sl := blk_lt s1.out
  have rc0 : w1.cell? ⟨w.heap.size + 1 + 1, 0, none⟩ = some (.int .i64 2) := (cell_blk r1.out 0).trans rfl
  have rc1 : w1.cell? ⟨w.heap.size + 1 + 1, 1, none⟩ = some (.int .i64 R.port) := (cell_blk r1.out 1).trans rfl
  have rc2 : w1.cell? ⟨w.heap.size + 1 + 1, 2, none⟩ = some (.int .u64 R.addr) := (cell_blk r1.out 2).trans rfl
  have rc3 : w1.cell? ⟨w.heap.size + 1 + 1, 3, none⟩ = some (.slice da R.data.length dc) := (cell_blk r1.out 3).trans rfl
  have rl := blk_lt r1.out
  go_wp2
  go_ret
  exact ⟨rfl, HB1.out⟩

set_option maxRecDepth 100000 in
set_option maxHeartbeats 8000000 in
theorem rref_1nfalse (cv sv rv : Value) (C : Cfg) (S : Std) (R : Rqt) (hsm : C.small) (hm : S.made.length ≤ 100) (hd : R.data.length ≤ 100) (ha : accB C = true) (hp0 : 0 ≤ S.part) (hp1 : S.part < (C.parts.length : Int)) (hop : R.op = 1) (k0 : Nat) (hk0 : k0 < C.chans.length) (pp : Int) (src : Bool) (hpv : portV C R.port = ⟨k0, pp, src, true⟩) (hp : pp = S.part) (hmd : S.made.contains R.port = false) (hn : S.normal = false) (w : World) (hc : CfgAt w cv C) (hs : StdAt w sv S) (hr : RqtAt w rv R) : Calls Tryd.prog 15 #[cv, sv, rv] w fun e w' => e = .returned (.int .i64 (0)) ∧ Below w.heap.size w w' := by
  have HA := Kp.mk ha
  clear ha
  have HPV := Kp.mk hpv
  have hne : (pp != S.part) = false := by simpa using hp
  have HMD := Kp.mk hmd
  clear hpv hp hmd
  have HC := Kp.mk hc
  have HS := Kp.mk hs
  have HR := Kp.mk hr
  obtain ⟨_, pa, pc, ca, cc, a0, c0, a1, c1, rfl, bp, bc, b0, b1, gp, gc, gw0, gw1⟩ := hc
  obtain ⟨_, ma, mc, va, vc, rfl, bm, bv, gm, gv⟩ := hs
  obtain ⟨ir, da, dc, rfl, bd, gd⟩ := hr
  clear gp gw0 gw1 gm gv gd bp b0 b1
  have HRO := Kp.mk ir
  clear ir gc
  rw [hn] at HS ⊢
  clear hn
  rw [hop] at HR ⊢
  clear hop
  go_enter Tryd.func15, Tryd.ntmps15
  have HB0 : Kp (Below w.heap.size w w) := ⟨Below.refl _ _⟩
  go_wp2_with fail
  refine (refAccepts_any _ C hsm _ (HC.out.below (below_al (below_al (below_al HB0.out _) _) _))).mono ?_
  rw [HA.out]
  rintro e w1 ⟨rfl, hb⟩
  have q1 : Kp (w1.heap[w.heap.size]? = some (.cells #[.slice pa C.parts.length pc, .slice ca C.chans.length cc, .int .i64 C.l0, .slice a0 C.w0.length c0, .int .i64 C.l1, .slice a1 C.w1.length c1] 29 (0, 0))) := ⟨blk_below (blk_al (blk_al (blk_new _ _) _) _) hb⟩
  have s1 : Kp (w1.heap[w.heap.size + 1]? = some (.cells #[.int .i64 S.part, .bool false, .slice ma S.made.length mc, .slice va S.valid.length vc] 40 (0, 0))) := ⟨blk_below (blk_al (blk_at (w := (w.alloc (.cells #[.slice pa C.parts.length pc, .slice ca C.chans.length cc, .int .i64 C.l0, .slice a0 C.w0.length c0, .int .i64 C.l1, .slice a1 C.w1.length c1] 29))) (by simp) _) _) hb⟩
  have r1 : Kp (w1.heap[w.heap.size + 1 + 1]? = some (.cells #[.int .i64 1, .int .i64 R.port, .int .u64 R.addr, .slice da R.data.length dc] 44 (0, 0))) := ⟨blk_below (blk_at (w := ((w.alloc (.cells #[.slice pa C.parts.length pc, .slice ca C.chans.length cc, .int .i64 C.l0, .slice a0 C.w0.length c0, .int .i64 C.l1, .slice a1 C.w1.length c1] 29)).alloc (.cells #[.int .i64 S.part, .bool false, .slice ma S.made.length mc, .slice va S.valid.length vc] 40))) (by simp) _) hb⟩
  have HB1 : Kp (Below w.heap.size w w1) := ⟨below_call (below_al (below_al (below_al HB0.out _) _) _) hb⟩
  clear HB0 hb
  have qc0 : w1.cell? ⟨w.heap.size, 0, none⟩ = some (.slice pa C.parts.length pc) := (cell_blk q1.out 0).trans rfl
  have qc1 : w1.cell? ⟨w.heap.size, 1, none⟩ = some (.slice ca C.chans.length cc) := (cell_blk q1.out 1).trans rfl
  have qc2 : w1.cell? ⟨w.heap.size, 2, none⟩ = some (.int .i64 C.l0) := (cell_blk q1.out 2).trans rfl
  have qc3 : w1.cell? ⟨w.heap.size, 3, none⟩ = some (.slice a0 C.w0.length c0) := (cell_blk q1.out 3).trans rfl
  have qc4 : w1.cell? ⟨w.heap.size, 4, none⟩ = some (.int .i64 C.l1) := (cell_blk q1.out 4).trans rfl
  have qc5 : w1.cell? ⟨w.heap.size, 5, none⟩ = some (.slice a1 C.w1.length c1) := (cell_blk q1.out 5).trans rfl
  have ql := blk_lt q1.out
  have sc0 : w1.cell? ⟨w.heap.size + 1, 0, none⟩ = some (.int .i64 S.part) := (cell_blk s1.out 0).trans rfl
  have sc1 : w1.cell? ⟨w.heap.size + 1, 1, none⟩ = some (.bool false) := (cell_blk s1.out 1).trans rfl
  have sc2 : w1.cell? ⟨w.heap.size + 1, 2, none⟩ = some (.slice ma S.made.length mc) := (cell_blk s1.out 2).trans rfl
  have sc3 : w1.cell? ⟨w.heap.size + 1, 3, none⟩ = some (.slice va S.valid.length vc) := (cell_blk s1.out 3).trans rfl
  have sl := blk_lt s1.out
  have rc0 : w1.cell? ⟨w.heap.size + 1 + 1, 0, none⟩ = some (.int .i64 1) := (cell_blk r1.out 0).trans rfl
  have rc1 : w1.cell? ⟨w.heap.size + 1 + 1, 1, none⟩ = some (.int .i64 R.port) := (cell_blk r1.out 1).trans rfl
  have rc2 : w1.cell? ⟨w.heap.size + 1 + 1, 2, none⟩ = some (.int .u64 R.addr) := (cell_blk r1.out 2).trans rfl
  have rc3 : w1.cell? ⟨w.heap.size + 1 + 1, 3, none⟩ = some (.slice da R.data.length dc) := (cell_blk r1.out 3).trans rfl
  have rl := blk_lt r1.out
  go_wp2_with fail
  refine (rport_any _ C hsm R.port _ (HC.out.below HB1.out)).mono ?_
  rw [HPV.out]
  rintro e w2 ⟨rfl, hb⟩
  have q2 : Kp (w2.heap[w.heap.size]? = some (.cells #[.slice pa C.parts.length pc, .slice ca C.chans.length cc, .int .i64 C.l0, .slice a0 C.w0.length c0, .int .i64 C.l1, .slice a1 C.w1.length c1] 29 (0, 0))) := ⟨blk_below q1.out hb⟩
  have s2 : Kp (w2.heap[w.heap.size + 1]? = some (.cells #[.int .i64 S.part, .bool false, .slice ma S.made.length mc, .slice va S.valid.length vc] 40 (0, 0))) := ⟨blk_below s1.out hb⟩
  have r2 : Kp (w2.heap[w.heap.size + 1 + 1]? = some (.cells #[.int .i64 1, .int .i64 R.port, .int .u64 R.addr, .slice da R.data.length dc] 44 (0, 0))) := ⟨blk_below r1.out hb⟩
  have HB2 : Kp (Below w.heap.size w w2) := ⟨below_call HB1.out hb⟩
  clear qc0 qc1 qc2 qc3 qc4 qc5 ql sc0 sc1 sc2 sc3 sl rc0 rc1 rc2 rc3 rl q1 s1 r1 HB1 hb
  have qc0 : w2.cell? ⟨w.heap.size, 0, none⟩ = some (.slice pa C.parts.length pc) := (cell_blk q2.out 0).trans rfl
  have qc1 : w2.cell? ⟨w.heap.size, 1, none⟩ = some (.slice ca C.chans.length cc) := (cell_blk q2.out 1).trans rfl
  have qc2 : w2.cell? ⟨w.heap.size, 2, none⟩ = some (.int .i64 C.l0) := (cell_blk q2.out 2).trans rfl
  have qc3 : w2.cell? ⟨w.heap.size, 3, none⟩ = some (.slice a0 C.w0.length c0) := (cell_blk q2.out 3).trans rfl
  have qc4 : w2.cell? ⟨w.heap.size, 4, none⟩ = some (.int .i64 C.l1) := (cell_blk q2.out 4).trans rfl
  have qc5 : w2.cell? ⟨w.heap.size, 5, none⟩ = some (.slice a1 C.w1.length c1) := (cell_blk q2.out 5).trans rfl
  have ql := blk_lt q2.out
  have sc0 : w2.cell? ⟨w.heap.size + 1, 0, none⟩ = some (.int .i64 S.part) := (cell_blk s2.out 0).trans rfl
  have sc1 : w2.cell? ⟨w.heap.size + 1, 1, none⟩ = some (.bool false) := (cell_blk s2.out 1).trans rfl
  have sc2 : w2.cell? ⟨w.heap.size + 1, 2, none⟩ = some (.slice ma S.made.length mc) := (cell_blk s2.out 2).trans rfl
  have sc3 : w2.cell? ⟨w.heap.size + 1, 3, none⟩ = some (.slice va S.valid.length vc) := (cell_blk s2.out 3).trans rfl
  have sl := blk_lt s2.out
  have rc0 : w2.cell? ⟨w.heap.size + 1 + 1, 0, none⟩ = some (.int .i64 1) := (cell_blk r2.out 0).trans rfl
  have rc1 : w2.cell? ⟨w.heap.size + 1 + 1, 1, none⟩ = some (.int .i64 R.port) := (cell_blk r2.out 1).trans rfl
  have rc2 : w2.cell? ⟨w.heap.size + 1 + 1, 2, none⟩ = some (.int .u64 R.addr) := (cell_blk r2.out 2).trans rfl
  have rc3 : w2.cell? ⟨w.heap.size + 1 + 1, 3, none⟩ = some (.slice da R.data.length dc) := (cell_blk r2.out 3).trans rfl
  have rl := blk_lt r2.out
  go_wp2_with fail
  refine (rmade_any _ S R.port hm _ (HS.out.below (below_al HB2.out _))).mono ?_
  rw [HMD.out]
  rintro e w3 ⟨rfl, hb⟩
  have x3 : Kp (w3.heap[w2.heap.size]? = some (.cells #[.int .i64 (k0 : Int), .int .i64 pp, .bool src, .bool true] 35 (0, 0))) := ⟨blk_below (blk_new _ _) hb⟩
  have q3 : Kp (w3.heap[w.heap.size]? = some (.cells #[.slice pa C.parts.length pc, .slice ca C.chans.length cc, .int .i64 C.l0, .slice a0 C.w0.length c0, .int .i64 C.l1, .slice a1 C.w1.length c1] 29 (0, 0))) := ⟨blk_below (blk_al q2.out _) hb⟩
  have s3 : Kp (w3.heap[w.heap.size + 1]? = some (.cells #[.int .i64 S.part, .bool false, .slice ma S.made.length mc, .slice va S.valid.length vc] 40 (0, 0))) := ⟨blk_below (blk_al s2.out _) hb⟩
  have r3 : Kp (w3.heap[w.heap.size + 1 + 1]? = some (.cells #[.int .i64 1, .int .i64 R.port, .int .u64 R.addr, .slice da R.data.length dc] 44 (0, 0))) := ⟨blk_below (blk_al r2.out _) hb⟩
  have HB3 : Kp (Below w.heap.size w w3) := ⟨below_call (below_al HB2.out _) hb⟩
  clear qc0 qc1 qc2 qc3 qc4 qc5 ql sc0 sc1 sc2 sc3 sl rc0 rc1 rc2 rc3 rl q2 s2 r2 HB2 hb
  have xc0 : w3.cell? ⟨w2.heap.size, 0, none⟩ = some (.int .i64 (k0 : Int)) := (cell_blk x3.out 0).trans rfl
  have xc1 : w3.cell? ⟨w2.heap.size, 1, none⟩ = some (.int .i64 pp) := (cell_blk x3.out 1).trans rfl
  have xc2 : w3.cell? ⟨w2.heap.size, 2, none⟩ = some (.bool src) := (cell_blk x3.out 2).trans rfl
  have xc3 : w3.cell? ⟨w2.heap.size, 3, none⟩ = some (.bool true) := (cell_blk x3.out 3).trans rfl
  have xl := blk_lt x3.out
  have qc0 : w3.cell? ⟨w.heap.size, 0, none⟩ = some (.slice pa C.parts.length pc) := (cell_blk q3.out 0).trans rfl
  have qc1 : w3.cell? ⟨w.heap.size, 1, none⟩ = some (.slice ca C.chans.length cc) := (cell_blk q3.out 1).trans rfl
  have qc2 : w3.cell? ⟨w.heap.size, 2, none⟩ = some (.int .i64 C.l0) := (cell_blk q3.out 2).trans rfl
  have qc3 : w3.cell? ⟨w.heap.size, 3, none⟩ = some (.slice a0 C.w0.length c0) := (cell_blk q3.out 3).trans rfl
  have qc4 : w3.cell? ⟨w.heap.size, 4, none⟩ = some (.int .i64 C.l1) := (cell_blk q3.out 4).trans rfl
  have qc5 : w3.cell? ⟨w.heap.size, 5, none⟩ = some (.slice a1 C.w1.length c1) := (cell_blk q3.out 5).trans rfl
  have ql := blk_lt q3.out
  have sc0 : w3.cell? ⟨w.heap.size + 1, 0, none⟩ = some (.int .i64 S.part) := (cell_blk s3.out 0).trans rfl
  have sc1 : w3.cell? ⟨w.heap.size + 1, 1, none⟩ = some (.bool false) := (cell_blk s3.out 1).trans rfl
  have sc2 : w3.cell? ⟨w.heap.size + 1, 2, none⟩ = some (.slice ma S.made.length mc) := (cell_blk s3.out 2).trans rfl
  have sc3 : w3.cell? ⟨w.heap.size + 1, 3, none⟩ = some (.slice va S.valid.length vc) := (cell_blk s3.out 3).trans rfl
  have sl := blk_lt s3.out
  have rc0 : w3.cell? ⟨w.heap.size + 1 + 1, 0, none⟩ = some (.int .i64 1) := (cell_blk r3.out 0).trans rfl
  have rc1 : w3.cell? ⟨w.heap.size + 1 + 1, 1, none⟩ = some (.int .i64 R.port) := (cell_blk r3.out 1).trans rfl
  have rc2 : w3.cell? ⟨w.heap.size + 1 + 1, 2, none⟩ = some (.int .u64 R.addr) := (cell_blk r3.out 2).trans rfl
  have rc3 : w3.cell? ⟨w.heap.size + 1 + 1, 3, none⟩ = some (.slice da R.data.length dc) := (cell_blk r3.out 3).trans rfl
  have rl := blk_lt r3.out
  go_wp2
  go_ret
  exact ⟨rfl, HB3.out⟩

set_option maxRecDepth 100000 in
set_option maxHeartbeats 8000000 in
theorem rref_2nfalse (cv sv rv : Value) (C : Cfg) (S : Std) (R : Rqt) (hsm : C.small) (hm : S.made.length ≤ 100) (hd : R.data.length ≤ 100) (ha : accB C = true) (hp0 : 0 ≤ S.part) (hp1 : S.part < (C.parts.length : Int)) (hop : R.op = 2) (hn : S.normal = false) (w : World) (hc : CfgAt w cv C) (hs : StdAt w sv S) (hr : RqtAt w rv R) : Calls Tryd.prog 15 #[cv, sv, rv] w fun e w' => e = .returned (.int .i64 (0)) ∧ Below w.heap.size w w' := by
  have HA := Kp.mk ha
  clear ha
  have HC := Kp.mk hc
  have HS := Kp.mk hs
  have HR := Kp.mk hr
  obtain ⟨_, pa, pc, ca, cc, a0, c0, a1, c1, rfl, bp, bc, b0, b1, gp, gc, gw0, gw1⟩ := hc
  obtain ⟨_, ma, mc, va, vc, rfl, bm, bv, gm, gv⟩ := hs
  obtain ⟨ir, da, dc, rfl, bd, gd⟩ := hr
  clear gp gw0 gw1 gm gv gd bp b0 b1
  have HRO := Kp.mk ir
  clear ir gc
  rw [hn] at HS ⊢
  clear hn
  rw [hop] at HR ⊢
  clear hop
  go_enter Tryd.func15, Tryd.ntmps15
  have HB0 : Kp (Below w.heap.size w w) := ⟨Below.refl _ _⟩
  go_wp2_with fail
  refine (refAccepts_any _ C hsm _ (HC.out.below (below_al (below_al (below_al HB0.out _) _) _))).mono ?_
  rw [HA.out]
  rintro e w1 ⟨rfl, hb⟩
  have q1 : Kp (w1.heap[w.heap.size]? = some (.cells #[.slice pa C.parts.length pc, .slice ca C.chans.length cc, .int .i64 C.l0, .slice a0 C.w0.length c0, .int .i64 C.l1, .slice a1 C.w1.length c1] 29 (0, 0))) := ⟨blk_below (blk_al (blk_al (blk_new _ _) _) _) hb⟩
  have s1 : Kp (w1.heap[w.heap.size + 1]? = some (.cells #[.int .i64 S.part, .bool false, .slice ma S.made.length mc, .slice va S.valid.length vc] 40 (0, 0))) := ⟨blk_below (blk_al (blk_at (w := (w.alloc (.cells #[.slice pa C.parts.length pc, .slice ca C.chans.length cc, .int .i64 C.l0, .slice a0 C.w0.length c0, .int .i64 C.l1, .slice a1 C.w1.length c1] 29))) (by simp) _) _) hb⟩
  have r1 : Kp (w1.heap[w.heap.size + 1 + 1]? = some (.cells #[.int .i64 2, .int .i64 R.port, .int .u64 R.addr, .slice da R.data.length dc] 44 (0, 0))) := ⟨blk_below (blk_at (w := ((w.alloc (.cells #[.slice pa C.parts.length pc, .slice ca C.chans.length cc, .int .i64 C.l0, .slice a0 C.w0.length c0, .int .i64 C.l1, .slice a1 C.w1.length c1] 29)).alloc (.cells #[.int .i64 S.part, .bool false, .slice ma S.made.length mc, .slice va S.valid.length vc] 40))) (by simp) _) hb⟩
  have HB1 : Kp (Below w.heap.size w w1) := ⟨below_call (below_al (below_al (below_al HB0.out _) _) _) hb⟩
  clear HB0 hb
  have qc0 : w1.cell? ⟨w.heap.size, 0, none⟩ = some (.slice pa C.parts.length pc) := (cell_blk q1.out 0).trans rfl
  have qc1 : w1.cell? ⟨w.heap.size, 1, none⟩ = some (.slice ca C.chans.length cc) := (cell_blk q1.out 1).trans rfl
  have qc2 : w1.cell? ⟨w.heap.size, 2, none⟩ = some (.int .i64 C.l0) := (cell_blk q1.out 2).trans rfl
  have qc3 : w1.cell? ⟨w.heap.size, 3, none⟩ = some (.slice a0 C.w0.length c0) := (cell_blk q1.out 3).trans rfl
  have qc4 : w1.cell? ⟨w.heap.size, 4, none⟩ = some (.int .i64 C.l1) := (cell_blk q1.out 4).trans rfl
  have qc5 : w1.cell? ⟨w.heap.size, 5, none⟩ = some (.slice a1 C.w1.length c1) := (cell_blk q1.out 5).trans rfl
  have ql := blk_lt q1.out
  have sc0 : w1.cell? ⟨w.heap.size + 1, 0, none⟩ = some (.int .i64 S.part) := (cell_blk s1.out 0).trans rfl
  have sc1 : w1.cell? ⟨w.heap.size + 1, 1, none⟩ = some (.bool false) := (cell_blk s1.out 1).trans rfl
  have sc2 : w1.cell? ⟨w.heap.size + 1, 2, none⟩ = some (.slice ma S.made.length mc) := (cell_blk s1.out 2).trans rfl
  have sc3 : w1.cell? ⟨w.heap.size + 1, 3, none⟩ = some (.slice va S.valid.length vc) := (cell_blk s1.out 3).trans rfl
  have sl := blk_lt s1.out
  have rc0 : w1.cell? ⟨w.heap.size + 1 + 1, 0, none⟩ = some (.int .i64 2) := (cell_blk r1.out 0).trans rfl
  have rc1 : w1.cell? ⟨w.heap.size + 1 + 1, 1, none⟩ = some (.int .i64 R.port) := (cell_blk r1.out 1).trans rfl
  have rc2 : w1.cell? ⟨w.heap.size + 1 + 1, 2, none⟩ = some (.int .u64 R.addr) := (cell_blk r1.out 2).trans rfl
  have rc3 : w1.cell? ⟨w.heap.size + 1 + 1, 3, none⟩ = some (.slice da R.data.length dc) := (cell_blk r1.out 3).trans rfl
  have rl := blk_lt r1.out
  go_wp2
  go_ret
  exact ⟨rfl, HB1.out⟩

set_option maxRecDepth 100000 in
set_option maxHeartbeats 8000000 in
theorem rref_3 (cv sv rv : Value) (C : Cfg) (S : Std) (R : Rqt) (hsm : C.small) (hm : S.made.length ≤ 100) (hd : R.data.length ≤ 100) (ha : accB C = true) (hp0 : 0 ≤ S.part) (hp1 : S.part < (C.parts.length : Int)) (hop : R.op = 3) (v : Int) (hv : talkV (askV C S R) = v) (w : World) (hc : CfgAt w cv C) (hs : StdAt w sv S) (hr : RqtAt w rv R) : Calls Tryd.prog 15 #[cv, sv, rv] w fun e w' => e = .returned (.int .i64 (v)) ∧ Below w.heap.size w w' := by
  have HA := Kp.mk ha
  clear ha
  have HV := Kp.mk hv
  have HO : Kp (3 ≤ R.op ∧ R.op ≤ 7) := ⟨by omega⟩
  clear hv
  have HC := Kp.mk hc
  have HS := Kp.mk hs
  have HR := Kp.mk hr
  obtain ⟨_, pa, pc, ca, cc, a0, c0, a1, c1, rfl, bp, bc, b0, b1, gp, gc, gw0, gw1⟩ := hc
  obtain ⟨_, ma, mc, va, vc, rfl, bm, bv, gm, gv⟩ := hs
  obtain ⟨ir, da, dc, rfl, bd, gd⟩ := hr
  clear gp gw0 gw1 gm gv gd bp b0 b1
  have HRO := Kp.mk ir
  clear ir gc
  rw [hop] at HR ⊢
  clear hop
  go_enter Tryd.func15, Tryd.ntmps15
  have HB0 : Kp (Below w.heap.size w w) := ⟨Below.refl _ _⟩
  go_wp2_with fail
  refine (refAccepts_any _ C hsm _ (HC.out.below (below_al (below_al (below_al HB0.out _) _) _))).mono ?_
  rw [HA.out]
  rintro e w1 ⟨rfl, hb⟩
  have q1 : Kp (w1.heap[w.heap.size]? = some (.cells #[.slice pa C.parts.length pc, .slice ca C.chans.length cc, .int .i64 C.l0, .slice a0 C.w0.length c0, .int .i64 C.l1, .slice a1 C.w1.length c1] 29 (0, 0))) := ⟨blk_below (blk_al (blk_al (blk_new _ _) _) _) hb⟩
  have s1 : Kp (w1.heap[w.heap.size + 1]? = some (.cells #[.int .i64 S.part, .bool S.normal, .slice ma S.made.length mc, .slice va S.valid.length vc] 40 (0, 0))) := ⟨blk_below (blk_al (blk_at (w := (w.alloc (.cells #[.slice pa C.parts.length pc, .slice ca C.chans.length cc, .int .i64 C.l0, .slice a0 C.w0.length c0, .int .i64 C.l1, .slice a1 C.w1.length c1] 29))) (by simp) _) _) hb⟩
  have r1 : Kp (w1.heap[w.heap.size + 1 + 1]? = some (.cells #[.int .i64 3, .int .i64 R.port, .int .u64 R.addr, .slice da R.data.length dc] 44 (0, 0))) := ⟨blk_below (blk_at (w := ((w.alloc (.cells #[.slice pa C.parts.length pc, .slice ca C.chans.length cc, .int .i64 C.l0, .slice a0 C.w0.length c0, .int .i64 C.l1, .slice a1 C.w1.length c1] 29)).alloc (.cells #[.int .i64 S.part, .bool S.normal, .slice ma S.made.length mc, .slice va S.valid.length vc] 40))) (by simp) _) hb⟩
  have HB1 : Kp (Below w.heap.size w w1) := ⟨below_call (below_al (below_al (below_al HB0.out _) _) _) hb⟩
  clear HB0 hb
  have qc0 : w1.cell? ⟨w.heap.size, 0, none⟩ = some (.slice pa C.parts.length pc) := (cell_blk q1.out 0).trans rfl
  have qc1 : w1.cell? ⟨w.heap.size, 1, none⟩ = some (.slice ca C.chans.length cc) := (cell_blk q1.out 1).trans rfl
  have qc2 : w1.cell? ⟨w.heap.size, 2, none⟩ = some (.int .i64 C.l0) := (cell_blk q1.out 2).trans rfl
  have qc3 : w1.cell? ⟨w.heap.size, 3, none⟩ = some (.slice a0 C.w0.length c0) := (cell_blk q1.out 3).trans rfl
  have qc4 : w1.cell? ⟨w.heap.size, 4, none⟩ = some (.int .i64 C.l1) := (cell_blk q1.out 4).trans rfl
  have qc5 : w1.cell? ⟨w.heap.size, 5, none⟩ = some (.slice a1 C.w1.length c1) := (cell_blk q1.out 5).trans rfl
  have ql := blk_lt q1.out
  have sc0 : w1.cell? ⟨w.heap.size + 1, 0, none⟩ = some (.int .i64 S.part) := (cell_blk s1.out 0).trans rfl
  have sc1 : w1.cell? ⟨w.heap.size + 1, 1, none⟩ = some (.bool S.normal) := (cell_blk s1.out 1).trans rfl
  have sc2 : w1.cell? ⟨w.heap.size + 1, 2, none⟩ = some (.slice ma S.made.length mc) := (cell_blk s1.out 2).trans rfl
  have sc3 : w1.cell? ⟨w.heap.size + 1, 3, none⟩ = some (.slice va S.valid.length vc) := (cell_blk s1.out 3).trans rfl
  have sl := blk_lt s1.out
  have rc0 : w1.cell? ⟨w.heap.size + 1 + 1, 0, none⟩ = some (.int .i64 3) := (cell_blk r1.out 0).trans rfl
  have rc1 : w1.cell? ⟨w.heap.size + 1 + 1, 1, none⟩ = some (.int .i64 R.port) := (cell_blk r1.out 1).trans rfl
  have rc2 : w1.cell? ⟨w.heap.size + 1 + 1, 2, none⟩ = some (.int .u64 R.addr) := (cell_blk r1.out 2).trans rfl
  have rc3 : w1.cell? ⟨w.heap.size + 1 + 1, 3, none⟩ = some (.slice da R.data.length dc) := (cell_blk r1.out 3).trans rfl
  have rl := blk_lt r1.out
  go_wp2_with fail
  refine (talk_any _ _ _ C S R hsm hm hd HO.out _ (HC.out.below HB1.out) (HS.out.below HB1.out) (HR.out.below HB1.out)).mono ?_
  rw [HV.out]
  rintro e w2 ⟨rfl, hb⟩
  have q2 : Kp (w2.heap[w.heap.size]? = some (.cells #[.slice pa C.parts.length pc, .slice ca C.chans.length cc, .int .i64 C.l0, .slice a0 C.w0.length c0, .int .i64 C.l1, .slice a1 C.w1.length c1] 29 (0, 0))) := ⟨blk_below q1.out hb⟩
  have s2 : Kp (w2.heap[w.heap.size + 1]? = some (.cells #[.int .i64 S.part, .bool S.normal, .slice ma S.made.length mc, .slice va S.valid.length vc] 40 (0, 0))) := ⟨blk_below s1.out hb⟩
  have r2 : Kp (w2.heap[w.heap.size + 1 + 1]? = some (.cells #[.int .i64 3, .int .i64 R.port, .int .u64 R.addr, .slice da R.data.length dc] 44 (0, 0))) := ⟨blk_below r1.out hb⟩
  have HB2 : Kp (Below w.heap.size w w2) := ⟨below_call HB1.out hb⟩
  clear qc0 qc1 qc2 qc3 qc4 qc5 ql sc0 sc1 sc2 sc3 sl rc0 rc1 rc2 rc3 rl q1 s1 r1 HB1 hb
  have qc0 : w2.cell? ⟨w.heap.size, 0, none⟩ = some (.slice pa C.parts.length pc) := (cell_blk q2.out 0).trans rfl
  have qc1 : w2.cell? ⟨w.heap.size, 1, none⟩ = some (.slice ca C.chans.length cc) := (cell_blk q2.out 1).trans rfl
  have qc2 : w2.cell? ⟨w.heap.size, 2, none⟩ = some (.int .i64 C.l0) := (cell_blk q2.out 2).trans rfl
  have qc3 : w2.cell? ⟨w.heap.size, 3, none⟩ = some (.slice a0 C.w0.length c0) := (cell_blk q2.out 3).trans rfl
  have qc4 : w2.cell? ⟨w.heap.size, 4, none⟩ = some (.int .i64 C.l1) := (cell_blk q2.out 4).trans rfl
  have qc5 : w2.cell? ⟨w.heap.size, 5, none⟩ = some (.slice a1 C.w1.length c1) := (cell_blk q2.out 5).trans rfl
  have ql := blk_lt q2.out
  have sc0 : w2.cell? ⟨w.heap.size + 1, 0, none⟩ = some (.int .i64 S.part) := (cell_blk s2.out 0).trans rfl
  have sc1 : w2.cell? ⟨w.heap.size + 1, 1, none⟩ = some (.bool S.normal) := (cell_blk s2.out 1).trans rfl
  have sc2 : w2.cell? ⟨w.heap.size + 1, 2, none⟩ = some (.slice ma S.made.length mc) := (cell_blk s2.out 2).trans rfl
  have sc3 : w2.cell? ⟨w.heap.size + 1, 3, none⟩ = some (.slice va S.valid.length vc) := (cell_blk s2.out 3).trans rfl
  have sl := blk_lt s2.out
  have rc0 : w2.cell? ⟨w.heap.size + 1 + 1, 0, none⟩ = some (.int .i64 3) := (cell_blk r2.out 0).trans rfl
  have rc1 : w2.cell? ⟨w.heap.size + 1 + 1, 1, none⟩ = some (.int .i64 R.port) := (cell_blk r2.out 1).trans rfl
  have rc2 : w2.cell? ⟨w.heap.size + 1 + 1, 2, none⟩ = some (.int .u64 R.addr) := (cell_blk r2.out 2).trans rfl
  have rc3 : w2.cell? ⟨w.heap.size + 1 + 1, 3, none⟩ = some (.slice da R.data.length dc) := (cell_blk r2.out 3).trans rfl
  have rl := blk_lt r2.out
  go_wp2
  go_ret
  exact ⟨rfl, HB2.out⟩

set_option maxRecDepth 100000 in
set_option maxHeartbeats 8000000 in
theorem rref_4 (cv sv rv : Value) (C : Cfg) (S : Std) (R : Rqt) (hsm : C.small) (hm : S.made.length ≤ 100) (hd : R.data.length ≤ 100) (ha : accB C = true) (hp0 : 0 ≤ S.part) (hp1 : S.part < (C.parts.length : Int)) (hop : R.op = 4) (v : Int) (hv : talkV (askV C S R) = v) (w : World) (hc : CfgAt w cv C) (hs : StdAt w sv S) (hr : RqtAt w rv R) : Calls Tryd.prog 15 #[cv, sv, rv] w fun e w' => e = .returned (.int .i64 (v)) ∧ Below w.heap.size w w' := by
  have HA := Kp.mk ha
  clear ha
  have HV := Kp.mk hv
  have HO : Kp (3 ≤ R.op ∧ R.op ≤ 7) := ⟨by omega⟩
  clear hv
  have HC := Kp.mk hc
  have HS := Kp.mk hs
  have HR := Kp.mk hr
  obtain ⟨_, pa, pc, ca, cc, a0, c0, a1, c1, rfl, bp, bc, b0, b1, gp, gc, gw0, gw1⟩ := hc
  obtain ⟨_, ma, mc, va, vc, rfl, bm, bv, gm, gv⟩ := hs
  obtain ⟨ir, da, dc, rfl, bd, gd⟩ := hr
  clear gp gw0 gw1 gm gv gd bp b0 b1
  have HRO := Kp.mk ir
  clear ir gc
  rw [hop] at HR ⊢
  clear hop
  go_enter Tryd.func15, Tryd.ntmps15
  have HB0 : Kp (Below w.heap.size w w) := ⟨Below.refl _ _⟩
  go_wp2_with fail
  refine (refAccepts_any _ C hsm _ (HC.out.below (below_al (below_al (below_al HB0.out _) _) _))).mono ?_
  rw [HA.out]
  rintro e w1 ⟨rfl, hb⟩
  have q1 : Kp (w1.heap[w.heap.size]? = some (.cells #[.slice pa C.parts.length pc, .slice ca C.chans.length cc, .int .i64 C.l0, .slice a0 C.w0.length c0, .int .i64 C.l1, .slice a1 C.w1.length c1] 29 (0, 0))) := ⟨blk_below (blk_al (blk_al (blk_new _ _) _) _) hb⟩
  have s1 : Kp (w1.heap[w.heap.size + 1]? = some (.cells #[.int .i64 S.part, .bool S.normal, .slice ma S.made.length mc, .slice va S.valid.length vc] 40 (0, 0))) := ⟨blk_below (blk_al (blk_at (w := (w.alloc (.cells #[.slice pa C.parts.length pc, .slice ca C.chans.length cc, .int .i64 C.l0, .slice a0 C.w0.length c0, .int .i64 C.l1, .slice a1 C.w1.length c1] 29))) (by simp) _) _) hb⟩
  have r1 : Kp (w1.heap[w.heap.size + 1 + 1]? = some (.cells #[.int .i64 4, .int .i64 R.port, .int .u64 R.addr, .slice da R.data.length dc] 44 (0, 0))) := ⟨blk_below (blk_at (w := ((w.alloc (.cells #[.slice pa C.parts.length pc, .slice ca C.chans.length cc, .int .i64 C.l0, .slice a0 C.w0.length c0, .int .i64 C.l1, .slice a1 C.w1.length c1] 29)).alloc (.cells #[.int .i64 S.part, .bool S.normal, .slice ma S.made.length mc, .slice va S.valid.length vc] 40))) (by simp) _) hb⟩
  have HB1 : Kp (Below w.heap.size w w1) := ⟨below_call (below_al (below_al (below_al HB0.out _) _) _) hb⟩
  clear HB0 hb
  have qc0 : w1.cell? ⟨w.heap.size, 0, none⟩ = some (.slice pa C.parts.length pc) := (cell_blk q1.out 0).trans rfl
  have qc1 : w1.cell? ⟨w.heap.size, 1, none⟩ = some (.slice ca C.chans.length cc) := (cell_blk q1.out 1).trans rfl
  have qc2 : w1.cell? ⟨w.heap.size, 2, none⟩ = some (.int .i64 C.l0) := (cell_blk q1.out 2).trans rfl
  have qc3 : w1.cell? ⟨w.heap.size, 3, none⟩ = some (.slice a0 C.w0.length c0) := (cell_blk q1.out 3).trans rfl
  have qc4 : w1.cell? ⟨w.heap.size, 4, none⟩ = some (.int .i64 C.l1) := (cell_blk q1.out 4).trans rfl
  have qc5 : w1.cell? ⟨w.heap.size, 5, none⟩ = some (.slice a1 C.w1.length c1) := (cell_blk q1.out 5).trans rfl
  have ql := blk_lt q1.out
  have sc0 : w1.cell? ⟨w.heap.size + 1, 0, none⟩ = some (.int .i64 S.part) := (cell_blk s1.out 0).trans rfl
  have sc1 : w1.cell? ⟨w.heap.size + 1, 1, none⟩ = some (.bool S.normal) := (cell_blk s1.out 1).trans rfl
  have sc2 : w1.cell? ⟨w.heap.size + 1, 2, none⟩ = some (.slice ma S.made.length mc) := (cell_blk s1.out 2).trans rfl
  have sc3 : w1.cell? ⟨w.heap.size + 1, 3, none⟩ = some (.slice va S.valid.length vc) := (cell_blk s1.out 3).trans rfl
  have sl := blk_lt s1.out
  have rc0 : w1.cell? ⟨w.heap.size + 1 + 1, 0, none⟩ = some (.int .i64 4) := (cell_blk r1.out 0).trans rfl
  have rc1 : w1.cell? ⟨w.heap.size + 1 + 1, 1, none⟩ = some (.int .i64 R.port) := (cell_blk r1.out 1).trans rfl
  have rc2 : w1.cell? ⟨w.heap.size + 1 + 1, 2, none⟩ = some (.int .u64 R.addr) := (cell_blk r1.out 2).trans rfl
  have rc3 : w1.cell? ⟨w.heap.size + 1 + 1, 3, none⟩ = some (.slice da R.data.length dc) := (cell_blk r1.out 3).trans rfl
  have rl := blk_lt r1.out
  go_wp2_with fail
  refine (talk_any _ _ _ C S R hsm hm hd HO.out _ (HC.out.below HB1.out) (HS.out.below HB1.out) (HR.out.below HB1.out)).mono ?_
  rw [HV.out]
  rintro e w2 ⟨rfl, hb⟩
  have q2 : Kp (w2.heap[w.heap.size]? = some (.cells #[.slice pa C.parts.length pc, .slice ca C.chans.length cc, .int .i64 C.l0, .slice a0 C.w0.length c0, .int .i64 C.l1, .slice a1 C.w1.length c1] 29 (0, 0))) := ⟨blk_below q1.out hb⟩
  have s2 : Kp (w2.heap[w.heap.size + 1]? = some (.cells #[.int .i64 S.part, .bool S.normal, .slice ma S.made.length mc, .slice va S.valid.length vc] 40 (0, 0))) := ⟨blk_below s1.out hb⟩
  have r2 : Kp (w2.heap[w.heap.size + 1 + 1]? = some (.cells #[.int .i64 4, .int .i64 R.port, .int .u64 R.addr, .slice da R.data.length dc] 44 (0, 0))) := ⟨blk_below r1.out hb⟩
  have HB2 : Kp (Below w.heap.size w w2) := ⟨below_call HB1.out hb⟩
  clear qc0 qc1 qc2 qc3 qc4 qc5 ql sc0 sc1 sc2 sc3 sl rc0 rc1 rc2 rc3 rl q1 s1 r1 HB1 hb
  have qc0 : w2.cell? ⟨w.heap.size, 0, none⟩ = some (.slice pa C.parts.length pc) := (cell_blk q2.out 0).trans rfl
  have qc1 : w2.cell? ⟨w.heap.size, 1, none⟩ = some (.slice ca C.chans.length cc) := (cell_blk q2.out 1).trans rfl
  have qc2 : w2.cell? ⟨w.heap.size, 2, none⟩ = some (.int .i64 C.l0) := (cell_blk q2.out 2).trans rfl
  have qc3 : w2.cell? ⟨w.heap.size, 3, none⟩ = some (.slice a0 C.w0.length c0) := (cell_blk q2.out 3).trans rfl
  have qc4 : w2.cell? ⟨w.heap.size, 4, none⟩ = some (.int .i64 C.l1) := (cell_blk q2.out 4).trans rfl
  have qc5 : w2.cell? ⟨w.heap.size, 5, none⟩ = some (.slice a1 C.w1.length c1) := (cell_blk q2.out 5).trans rfl
  have ql := blk_lt q2.out
  have sc0 : w2.cell? ⟨w.heap.size + 1, 0, none⟩ = some (.int .i64 S.part) := (cell_blk s2.out 0).trans rfl
  have sc1 : w2.cell? ⟨w.heap.size + 1, 1, none⟩ = some (.bool S.normal) := (cell_blk s2.out 1).trans rfl
  have sc2 : w2.cell? ⟨w.heap.size + 1, 2, none⟩ = some (.slice ma S.made.length mc) := (cell_blk s2.out 2).trans rfl
  have sc3 : w2.cell? ⟨w.heap.size + 1, 3, none⟩ = some (.slice va S.valid.length vc) := (cell_blk s2.out 3).trans rfl
  have sl := blk_lt s2.out
  have rc0 : w2.cell? ⟨w.heap.size + 1 + 1, 0, none⟩ = some (.int .i64 4) := (cell_blk r2.out 0).trans rfl
  have rc1 : w2.cell? ⟨w.heap.size + 1 + 1, 1, none⟩ = some (.int .i64 R.port) := (cell_blk r2.out 1).trans rfl
  have rc2 : w2.cell? ⟨w.heap.size + 1 + 1, 2, none⟩ = some (.int .u64 R.addr) := (cell_blk r2.out 2).trans rfl
  have rc3 : w2.cell? ⟨w.heap.size + 1 + 1, 3, none⟩ = some (.slice da R.data.length dc) := (cell_blk r2.out 3).trans rfl
  have rl := blk_lt r2.out
  go_wp2
  go_ret
  exact ⟨rfl, HB2.out⟩

set_option maxRecDepth 100000 in
set_option maxHeartbeats 8000000 in
theorem rref_5 (cv sv rv : Value) (C : Cfg) (S : Std) (R : Rqt) (hsm : C.small) (hm : S.made.length ≤ 100) (hd : R.data.length ≤ 100) (ha : accB C = true) (hp0 : 0 ≤ S.part) (hp1 : S.part < (C.parts.length : Int)) (hop : R.op = 5) (v : Int) (hv : talkV (askV C S R) = v) (w : World) (hc : CfgAt w cv C) (hs : StdAt w sv S) (hr : RqtAt w rv R) : Calls Tryd.prog 15 #[cv, sv, rv] w fun e w' => e = .returned (.int .i64 (v)) ∧ Below w.heap.size w w' := by
  have HA := Kp.mk ha
  clear ha
  have HV := Kp.mk hv
  have HO : Kp (3 ≤ R.op ∧ R.op ≤ 7) := ⟨by omega⟩
  clear hv
  have HC := Kp.mk hc
  have HS := Kp.mk hs
  have HR := Kp.mk hr
  obtain ⟨_, pa, pc, ca, cc, a0, c0, a1, c1, rfl, bp, bc, b0, b1, gp, gc, gw0, gw1⟩ := hc
  obtain ⟨_, ma, mc, va, vc, rfl, bm, bv, gm, gv⟩ := hs
  obtain ⟨ir, da, dc, rfl, bd, gd⟩ := hr
  clear gp gw0 gw1 gm gv gd bp b0 b1
  have HRO := Kp.mk ir
  clear ir gc
  rw [hop] at HR ⊢
  clear hop
  go_enter Tryd.func15, Tryd.ntmps15
  have HB0 : Kp (Below w.heap.size w w) := ⟨Below.refl _ _⟩
  go_wp2_with fail
  refine (refAccepts_any _ C hsm _ (HC.out.below (below_al (below_al (below_al HB0.out _) _) _))).mono ?_
  rw [HA.out]
  rintro e w1 ⟨rfl, hb⟩
  have q1 : Kp (w1.heap[w.heap.size]? = some (.cells #[.slice pa C.parts.length pc, .slice ca C.chans.length cc, .int .i64 C.l0, .slice a0 C.w0.length c0, .int .i64 C.l1, .slice a1 C.w1.length c1] 29 (0, 0))) := ⟨blk_below (blk_al (blk_al (blk_new _ _) _) _) hb⟩
  have s1 : Kp (w1.heap[w.heap.size + 1]? = some (.cells #[.int .i64 S.part, .bool S.normal, .slice ma S.made.length mc, .slice va S.valid.length vc] 40 (0, 0))) := ⟨blk_below (blk_al (blk_at (w := (w.alloc (.cells #[.slice pa C.parts.length pc, .slice ca C.chans.length cc, .int .i64 C.l0, .slice a0 C.w0.length c0, .int .i64 C.l1, .slice a1 C.w1.length c1] 29))) (by simp) _) _) hb⟩
  have r1 : Kp (w1.heap[w.heap.size + 1 + 1]? = some (.cells #[.int .i64 5, .int .i64 R.port, .int .u64 R.addr, .slice da R.data.length dc] 44 (0, 0))) := ⟨blk_below (blk_at (w := ((w.alloc (.cells #[.slice pa C.parts.length pc, .slice ca C.chans.length cc, .int .i64 C.l0, .slice a0 C.w0.length c0, .int .i64 C.l1, .slice a1 C.w1.length c1] 29)).alloc (.cells #[.int .i64 S.part, .bool S.normal, .slice ma S.made.length mc, .slice va S.valid.length vc] 40))) (by simp) _) hb⟩
  have HB1 : Kp (Below w.heap.size w w1) := ⟨below_call (below_al (below_al (below_al HB0.out _) _) _) hb⟩
  clear HB0 hb
  have qc0 : w1.cell? ⟨w.heap.size, 0, none⟩ = some (.slice pa C.parts.length pc) := (cell_blk q1.out 0).trans rfl
  have qc1 : w1.cell? ⟨w.heap.size, 1, none⟩ = some (.slice ca C.chans.length cc) := (cell_blk q1.out 1).trans rfl
  have qc2 : w1.cell? ⟨w.heap.size, 2, none⟩ = some (.int .i64 C.l0) := (cell_blk q1.out 2).trans rfl
  have qc3 : w1.cell? ⟨w.heap.size, 3, none⟩ = some (.slice a0 C.w0.length c0) := (cell_blk q1.out 3).trans rfl
  have qc4 : w1.cell? ⟨w.heap.size, 4, none⟩ = some (.int .i64 C.l1) := (cell_blk q1.out 4).trans rfl
  have qc5 : w1.cell? ⟨w.heap.size, 5, none⟩ = some (.slice a1 C.w1.length c1) := (cell_blk q1.out 5).trans rfl
  have ql := blk_lt q1.out
  have sc0 : w1.cell? ⟨w.heap.size + 1, 0, none⟩ = some (.int .i64 S.part) := (cell_blk s1.out 0).trans rfl
  have sc1 : w1.cell? ⟨w.heap.size + 1, 1, none⟩ = some (.bool S.normal) := (cell_blk s1.out 1).trans rfl
  have sc2 : w1.cell? ⟨w.heap.size + 1, 2, none⟩ = some (.slice ma S.made.length mc) := (cell_blk s1.out 2).trans rfl
  have sc3 : w1.cell? ⟨w.heap.size + 1, 3, none⟩ = some (.slice va S.valid.length vc) := (cell_blk s1.out 3).trans rfl
  have sl := blk_lt s1.out
  have rc0 : w1.cell? ⟨w.heap.size + 1 + 1, 0, none⟩ = some (.int .i64 5) := (cell_blk r1.out 0).trans rfl
  have rc1 : w1.cell? ⟨w.heap.size + 1 + 1, 1, none⟩ = some (.int .i64 R.port) := (cell_blk r1.out 1).trans rfl
  have rc2 : w1.cell? ⟨w.heap.size + 1 + 1, 2, none⟩ = some (.int .u64 R.addr) := (cell_blk r1.out 2).trans rfl
  have rc3 : w1.cell? ⟨w.heap.size + 1 + 1, 3, none⟩ = some (.slice da R.data.length dc) := (cell_blk r1.out 3).trans rfl
  have rl := blk_lt r1.out
  go_wp2_with fail
  refine (talk_any _ _ _ C S R hsm hm hd HO.out _ (HC.out.below HB1.out) (HS.out.below HB1.out) (HR.out.below HB1.out)).mono ?_
  rw [HV.out]
  rintro e w2 ⟨rfl, hb⟩
  have q2 : Kp (w2.heap[w.heap.size]? = some (.cells #[.slice pa C.parts.length pc, .slice ca C.chans.length cc, .int .i64 C.l0, .slice a0 C.w0.length c0, .int .i64 C.l1, .slice a1 C.w1.length c1] 29 (0, 0))) := ⟨blk_below q1.out hb⟩
  have s2 : Kp (w2.heap[w.heap.size + 1]? = some (.cells #[.int .i64 S.part, .bool S.normal, .slice ma S.made.length mc, .slice va S.valid.length vc] 40 (0, 0))) := ⟨blk_below s1.out hb⟩
  have r2 : Kp (w2.heap[w.heap.size + 1 + 1]? = some (.cells #[.int .i64 5, .int .i64 R.port, .int .u64 R.addr, .slice da R.data.length dc] 44 (0, 0))) := ⟨blk_below r1.out hb⟩
  have HB2 : Kp (Below w.heap.size w w2) := ⟨below_call HB1.out hb⟩
  clear qc0 qc1 qc2 qc3 qc4 qc5 ql sc0 sc1 sc2 sc3 sl rc0 rc1 rc2 rc3 rl q1 s1 r1 HB1 hb
  have qc0 : w2.cell? ⟨w.heap.size, 0, none⟩ = some (.slice pa C.parts.length pc) := (cell_blk q2.out 0).trans rfl
  have qc1 : w2.cell? ⟨w.heap.size, 1, none⟩ = some (.slice ca C.chans.length cc) := (cell_blk q2.out 1).trans rfl
  have qc2 : w2.cell? ⟨w.heap.size, 2, none⟩ = some (.int .i64 C.l0) := (cell_blk q2.out 2).trans rfl
  have qc3 : w2.cell? ⟨w.heap.size, 3, none⟩ = some (.slice a0 C.w0.length c0) := (cell_blk q2.out 3).trans rfl
  have qc4 : w2.cell? ⟨w.heap.size, 4, none⟩ = some (.int .i64 C.l1) := (cell_blk q2.out 4).trans rfl
  have qc5 : w2.cell? ⟨w.heap.size, 5, none⟩ = some (.slice a1 C.w1.length c1) := (cell_blk q2.out 5).trans rfl
  have ql := blk_lt q2.out
  have sc0 : w2.cell? ⟨w.heap.size + 1, 0, none⟩ = some (.int .i64 S.part) := (cell_blk s2.out 0).trans rfl
  have sc1 : w2.cell? ⟨w.heap.size + 1, 1, none⟩ = some (.bool S.normal) := (cell_blk s2.out 1).trans rfl
  have sc2 : w2.cell? ⟨w.heap.size + 1, 2, none⟩ = some (.slice ma S.made.length mc) := (cell_blk s2.out 2).trans rfl
  have sc3 : w2.cell? ⟨w.heap.size + 1, 3, none⟩ = some (.slice va S.valid.length vc) := (cell_blk s2.out 3).trans rfl
  have sl := blk_lt s2.out
  have rc0 : w2.cell? ⟨w.heap.size + 1 + 1, 0, none⟩ = some (.int .i64 5) := (cell_blk r2.out 0).trans rfl
  have rc1 : w2.cell? ⟨w.heap.size + 1 + 1, 1, none⟩ = some (.int .i64 R.port) := (cell_blk r2.out 1).trans rfl
  have rc2 : w2.cell? ⟨w.heap.size + 1 + 1, 2, none⟩ = some (.int .u64 R.addr) := (cell_blk r2.out 2).trans rfl
  have rc3 : w2.cell? ⟨w.heap.size + 1 + 1, 3, none⟩ = some (.slice da R.data.length dc) := (cell_blk r2.out 3).trans rfl
  have rl := blk_lt r2.out
  go_wp2
  go_ret
  exact ⟨rfl, HB2.out⟩

set_option maxRecDepth 100000 in
set_option maxHeartbeats 8000000 in
theorem rref_6 (cv sv rv : Value) (C : Cfg) (S : Std) (R : Rqt) (hsm : C.small) (hm : S.made.length ≤ 100) (hd : R.data.length ≤ 100) (ha : accB C = true) (hp0 : 0 ≤ S.part) (hp1 : S.part < (C.parts.length : Int)) (hop : R.op = 6) (v : Int) (hv : talkV (askV C S R) = v) (w : World) (hc : CfgAt w cv C) (hs : StdAt w sv S) (hr : RqtAt w rv R) : Calls Tryd.prog 15 #[cv, sv, rv] w fun e w' => e = .returned (.int .i64 (v)) ∧ Below w.heap.size w w' := by
  have HA := Kp.mk ha
  clear ha
  have HV := Kp.mk hv
  have HO : Kp (3 ≤ R.op ∧ R.op ≤ 7) := ⟨by omega⟩
  clear hv
  have HC := Kp.mk hc
  have HS := Kp.mk hs
  have HR := Kp.mk hr
  obtain ⟨_, pa, pc, ca, cc, a0, c0, a1, c1, rfl, bp, bc, b0, b1, gp, gc, gw0, gw1⟩ := hc
  obtain ⟨_, ma, mc, va, vc, rfl, bm, bv, gm, gv⟩ := hs
  obtain ⟨ir, da, dc, rfl, bd, gd⟩ := hr
  clear gp gw0 gw1 gm gv gd bp b0 b1
  have HRO := Kp.mk ir
  clear ir gc
  rw [hop] at HR ⊢
  clear hop
  go_enter Tryd.func15, Tryd.ntmps15
  have HB0 : Kp (Below w.heap.size w w) := ⟨Below.refl _ _⟩
  go_wp2_with fail
  refine (refAccepts_any _ C hsm _ (HC.out.below (below_al (below_al (below_al HB0.out _) _) _))).mono ?_
  rw [HA.out]
  rintro e w1 ⟨rfl, hb⟩
  have q1 : Kp (w1.heap[w.heap.size]? = some (.cells #[.slice pa C.parts.length pc, .slice ca C.chans.length cc, .int .i64 C.l0, .slice a0 C.w0.length c0, .int .i64 C.l1, .slice a1 C.w1.length c1] 29 (0, 0))) := ⟨blk_below (blk_al (blk_al (blk_new _ _) _) _) hb⟩
  have s1 : Kp (w1.heap[w.heap.size + 1]? = some (.cells #[.int .i64 S.part, .bool S.normal, .slice ma S.made.length mc, .slice va S.valid.length vc] 40 (0, 0))) := ⟨blk_below (blk_al (blk_at (w := (w.alloc (.cells #[.slice pa C.parts.length pc, .slice ca C.chans.length cc, .int .i64 C.l0, .slice a0 C.w0.length c0, .int .i64 C.l1, .slice a1 C.w1.length c1] 29))) (by simp) _) _) hb⟩
  have r1 : Kp (w1.heap[w.heap.size + 1 + 1]? = some (.cells #[.int .i64 6, .int .i64 R.port, .int .u64 R.addr, .slice da R.data.length dc] 44 (0, 0))) := ⟨blk_below (blk_at (w := ((w.alloc (.cells #[.slice pa C.parts.length pc, .slice ca C.chans.length cc, .int .i64 C.l0, .slice a0 C.w0.length c0, .int .i64 C.l1, .slice a1 C.w1.length c1] 29)).alloc (.cells #[.int .i64 S.part, .bool S.normal, .slice ma S.made.length mc, .slice va S.valid.length vc] 40))) (by simp) _) hb⟩
  have HB1 : Kp (Below w.heap.size w w1) := ⟨below_call (below_al (below_al (below_al HB0.out _) _) _) hb⟩
  clear HB0 hb
  have qc0 : w1.cell? ⟨w.heap.size, 0, none⟩ = some (.slice pa C.parts.length pc) := (cell_blk q1.out 0).trans rfl
  have qc1 : w1.cell? ⟨w.heap.size, 1, none⟩ = some (.slice ca C.chans.length cc) := (cell_blk q1.out 1).trans rfl
  have qc2 : w1.cell? ⟨w.heap.size, 2, none⟩ = some (.int .i64 C.l0) := (cell_blk q1.out 2).trans rfl
  have qc3 : w1.cell? ⟨w.heap.size, 3, none⟩ = some (.slice a0 C.w0.length c0) := (cell_blk q1.out 3).trans rfl
  have qc4 : w1.cell? ⟨w.heap.size, 4, none⟩ = some (.int .i64 C.l1) := (cell_blk q1.out 4).trans rfl
  have qc5 : w1.cell? ⟨w.heap.size, 5, none⟩ = some (.slice a1 C.w1.length c1) := (cell_blk q1.out 5).trans rfl
  have ql := blk_lt q1.out
  have sc0 : w1.cell? ⟨w.heap.size + 1, 0, none⟩ = some (.int .i64 S.part) := (cell_blk s1.out 0).trans rfl
  have sc1 : w1.cell? ⟨w.heap.size + 1, 1, none⟩ = some (.bool S.normal) := (cell_blk s1.out 1).trans rfl
  have sc2 : w1.cell? ⟨w.heap.size + 1, 2, none⟩ = some (.slice ma S.made.length mc) := (cell_blk s1.out 2).trans rfl
  have sc3 : w1.cell? ⟨w.heap.size + 1, 3, none⟩ = some (.slice va S.valid.length vc) := (cell_blk s1.out 3).trans rfl
  have sl := blk_lt s1.out
  have rc0 : w1.cell? ⟨w.heap.size + 1 + 1, 0, none⟩ = some (.int .i64 6) := (cell_blk r1.out 0).trans rfl
  have rc1 : w1.cell? ⟨w.heap.size + 1 + 1, 1, none⟩ = some (.int .i64 R.port) := (cell_blk r1.out 1).trans rfl
  have rc2 : w1.cell? ⟨w.heap.size + 1 + 1, 2, none⟩ = some (.int .u64 R.addr) := (cell_blk r1.out 2).trans rfl
  have rc3 : w1.cell? ⟨w.heap.size + 1 + 1, 3, none⟩ = some (.slice da R.data.length dc) := (cell_blk r1.out 3).trans rfl
  have rl := blk_lt r1.out
  go_wp2_with fail
  refine (talk_any _ _ _ C S R hsm hm hd HO.out _ (HC.out.below HB1.out) (HS.out.below HB1.out) (HR.out.below HB1.out)).mono ?_
  rw [HV.out]
  rintro e w2 ⟨rfl, hb⟩
  have q2 : Kp (w2.heap[w.heap.size]? = some (.cells #[.slice pa C.parts.length pc, .slice ca C.chans.length cc, .int .i64 C.l0, .slice a0 C.w0.length c0, .int .i64 C.l1, .slice a1 C.w1.length c1] 29 (0, 0))) := ⟨blk_below q1.out hb⟩
  have s2 : Kp (w2.heap[w.heap.size + 1]? = some (.cells #[.int .i64 S.part, .bool S.normal, .slice ma S.made.length mc, .slice va S.valid.length vc] 40 (0, 0))) := ⟨blk_below s1.out hb⟩
  have r2 : Kp (w2.heap[w.heap.size + 1 + 1]? = some (.cells #[.int .i64 6, .int .i64 R.port, .int .u64 R.addr, .slice da R.data.length dc] 44 (0, 0))) := ⟨blk_below r1.out hb⟩
  have HB2 : Kp (Below w.heap.size w w2) := ⟨below_call HB1.out hb⟩
  clear qc0 qc1 qc2 qc3 qc4 qc5 ql sc0 sc1 sc2 sc3 sl rc0 rc1 rc2 rc3 rl q1 s1 r1 HB1 hb
  have qc0 : w2.cell? ⟨w.heap.size, 0, none⟩ = some (.slice pa C.parts.length pc) := (cell_blk q2.out 0).trans rfl
  have qc1 : w2.cell? ⟨w.heap.size, 1, none⟩ = some (.slice ca C.chans.length cc) := (cell_blk q2.out 1).trans rfl
  have qc2 : w2.cell? ⟨w.heap.size, 2, none⟩ = some (.int .i64 C.l0) := (cell_blk q2.out 2).trans rfl
  have qc3 : w2.cell? ⟨w.heap.size, 3, none⟩ = some (.slice a0 C.w0.length c0) := (cell_blk q2.out 3).trans rfl
  have qc4 : w2.cell? ⟨w.heap.size, 4, none⟩ = some (.int .i64 C.l1) := (cell_blk q2.out 4).trans rfl
  have qc5 : w2.cell? ⟨w.heap.size, 5, none⟩ = some (.slice a1 C.w1.length c1) := (cell_blk q2.out 5).trans rfl
  have ql := blk_lt q2.out
  have sc0 : w2.cell? ⟨w.heap.size + 1, 0, none⟩ = some (.int .i64 S.part) := (cell_blk s2.out 0).trans rfl
  have sc1 : w2.cell? ⟨w.heap.size + 1, 1, none⟩ = some (.bool S.normal) := (cell_blk s2.out 1).trans rfl
  have sc2 : w2.cell? ⟨w.heap.size + 1, 2, none⟩ = some (.slice ma S.made.length mc) := (cell_blk s2.out 2).trans rfl
  have sc3 : w2.cell? ⟨w.heap.size + 1, 3, none⟩ = some (.slice va S.valid.length vc) := (cell_blk s2.out 3).trans rfl
  have sl := blk_lt s2.out
  have rc0 : w2.cell? ⟨w.heap.size + 1 + 1, 0, none⟩ = some (.int .i64 6) := (cell_blk r2.out 0).trans rfl
  have rc1 : w2.cell? ⟨w.heap.size + 1 + 1, 1, none⟩ = some (.int .i64 R.port) := (cell_blk r2.out 1).trans rfl
  have rc2 : w2.cell? ⟨w.heap.size + 1 + 1, 2, none⟩ = some (.int .u64 R.addr) := (cell_blk r2.out 2).trans rfl
  have rc3 : w2.cell? ⟨w.heap.size + 1 + 1, 3, none⟩ = some (.slice da R.data.length dc) := (cell_blk r2.out 3).trans rfl
  have rl := blk_lt r2.out
  go_wp2
  go_ret
  exact ⟨rfl, HB2.out⟩

set_option maxRecDepth 100000 in
set_option maxHeartbeats 8000000 in
theorem rref_7 (cv sv rv : Value) (C : Cfg) (S : Std) (R : Rqt) (hsm : C.small) (hm : S.made.length ≤ 100) (hd : R.data.length ≤ 100) (ha : accB C = true) (hp0 : 0 ≤ S.part) (hp1 : S.part < (C.parts.length : Int)) (hop : R.op = 7) (v : Int) (hv : talkV (askV C S R) = v) (w : World) (hc : CfgAt w cv C) (hs : StdAt w sv S) (hr : RqtAt w rv R) : Calls Tryd.prog 15 #[cv, sv, rv] w fun e w' => e = .returned (.int .i64 (v)) ∧ Below w.heap.size w w' := by
  have HA := Kp.mk ha
  clear ha
  have HV := Kp.mk hv
  have HO : Kp (3 ≤ R.op ∧ R.op ≤ 7) := ⟨by omega⟩
  clear hv
  have HC := Kp.mk hc
  have HS := Kp.mk hs
  have HR := Kp.mk hr
  obtain ⟨_, pa, pc, ca, cc, a0, c0, a1, c1, rfl, bp, bc, b0, b1, gp, gc, gw0, gw1⟩ := hc
  obtain ⟨_, ma, mc, va, vc, rfl, bm, bv, gm, gv⟩ := hs
  obtain ⟨ir, da, dc, rfl, bd, gd⟩ := hr
  clear gp gw0 gw1 gm gv gd bp b0 b1
  have HRO := Kp.mk ir
  clear ir gc
  rw [hop] at HR ⊢
  clear hop
  go_enter Tryd.func15, Tryd.ntmps15
  have HB0 : Kp (Below w.heap.size w w) := ⟨Below.refl _ _⟩
  go_wp2_with fail
  refine (refAccepts_any _ C hsm _ (HC.out.below (below_al (below_al (below_al HB0.out _) _) _))).mono ?_
  rw [HA.out]
  rintro e w1 ⟨rfl, hb⟩
  have q1 : Kp (w1.heap[w.heap.size]? = some (.cells #[.slice pa C.parts.length pc, .slice ca C.chans.length cc, .int .i64 C.l0, .slice a0 C.w0.length c0, .int .i64 C.l1, .slice a1 C.w1.length c1] 29 (0, 0))) := ⟨blk_below (blk_al (blk_al (blk_new _ _) _) _) hb⟩
  have s1 : Kp (w1.heap[w.heap.size + 1]? = some (.cells #[.int .i64 S.part, .bool S.normal, .slice ma S.made.length mc, .slice va S.valid.length vc] 40 (0, 0))) := ⟨blk_below (blk_al (blk_at (w := (w.alloc (.cells #[.slice pa C.parts.length pc, .slice ca C.chans.length cc, .int .i64 C.l0, .slice a0 C.w0.length c0, .int .i64 C.l1, .slice a1 C.w1.length c1] 29))) (by simp) _) _) hb⟩
  have r1 : Kp (w1.heap[w.heap.size + 1 + 1]? = some (.cells #[.int .i64 7, .int .i64 R.port, .int .u64 R.addr, .slice da R.data.length dc] 44 (0, 0))) := ⟨blk_below (blk_at (w := ((w.alloc (.cells #[.slice pa C.parts.length pc, .slice ca C.chans.length cc, .int .i64 C.l0, .slice a0 C.w0.length c0, .int .i64 C.l1, .slice a1 C.w1.length c1] 29)).alloc (.cells #[.int .i64 S.part, .bool S.normal, .slice ma S.made.length mc, .slice va S.valid.length vc] 40))) (by simp) _) hb⟩
  have HB1 : Kp (Below w.heap.size w w1) := ⟨below_call (below_al (below_al (below_al HB0.out _) _) _) hb⟩
  clear HB0 hb
  have qc0 : w1.cell? ⟨w.heap.size, 0, none⟩ = some (.slice pa C.parts.length pc) := (cell_blk q1.out 0).trans rfl
  have qc1 : w1.cell? ⟨w.heap.size, 1, none⟩ = some (.slice ca C.chans.length cc) := (cell_blk q1.out 1).trans rfl
  have qc2 : w1.cell? ⟨w.heap.size, 2, none⟩ = some (.int .i64 C.l0) := (cell_blk q1.out 2).trans rfl
  have qc3 : w1.cell? ⟨w.heap.size, 3, none⟩ = some (.slice a0 C.w0.length c0) := (cell_blk q1.out 3).trans rfl
  have qc4 : w1.cell? ⟨w.heap.size, 4, none⟩ = some (.int .i64 C.l1) := (cell_blk q1.out 4).trans rfl
  have qc5 : w1.cell? ⟨w.heap.size, 5, none⟩ = some (.slice a1 C.w1.length c1) := (cell_blk q1.out 5).trans rfl
  have ql := blk_lt q1.out
  have sc0 : w1.cell? ⟨w.heap.size + 1, 0, none⟩ = some (.int .i64 S.part) := (cell_blk s1.out 0).trans rfl
  have sc1 : w1.cell? ⟨w.heap.size + 1, 1, none⟩ = some (.bool S.normal) := (cell_blk s1.out 1).trans rfl
  have sc2 : w1.cell? ⟨w.heap.size + 1, 2, none⟩ = some (.slice ma S.made.length mc) := (cell_blk s1.out 2).trans rfl
  have sc3 : w1.cell? ⟨w.heap.size + 1, 3, none⟩ = some (.slice va S.valid.length vc) := (cell_blk s1.out 3).trans rfl
  have sl := blk_lt s1.out
  have rc0 : w1.cell? ⟨w.heap.size + 1 + 1, 0, none⟩ = some (.int .i64 7) := (cell_blk r1.out 0).trans rfl
  have rc1 : w1.cell? ⟨w.heap.size + 1 + 1, 1, none⟩ = some (.int .i64 R.port) := (cell_blk r1.out 1).trans rfl
  have rc2 : w1.cell? ⟨w.heap.size + 1 + 1, 2, none⟩ = some (.int .u64 R.addr) := (cell_blk r1.out 2).trans rfl
  have rc3 : w1.cell? ⟨w.heap.size + 1 + 1, 3, none⟩ = some (.slice da R.data.length dc) := (cell_blk r1.out 3).trans rfl
  have rl := blk_lt r1.out
  go_wp2_with fail
  refine (talk_any _ _ _ C S R hsm hm hd HO.out _ (HC.out.below HB1.out) (HS.out.below HB1.out) (HR.out.below HB1.out)).mono ?_
  rw [HV.out]
  rintro e w2 ⟨rfl, hb⟩
  have q2 : Kp (w2.heap[w.heap.size]? = some (.cells #[.slice pa C.parts.length pc, .slice ca C.chans.length cc, .int .i64 C.l0, .slice a0 C.w0.length c0, .int .i64 C.l1, .slice a1 C.w1.length c1] 29 (0, 0))) := ⟨blk_below q1.out hb⟩
  have s2 : Kp (w2.heap[w.heap.size + 1]? = some (.cells #[.int .i64 S.part, .bool S.normal, .slice ma S.made.length mc, .slice va S.valid.length vc] 40 (0, 0))) := ⟨blk_below s1.out hb⟩
  have r2 : Kp (w2.heap[w.heap.size + 1 + 1]? = some (.cells #[.int .i64 7, .int .i64 R.port, .int .u64 R.addr, .slice da R.data.length dc] 44 (0, 0))) := ⟨blk_below r1.out hb⟩
  have HB2 : Kp (Below w.heap.size w w2) := ⟨below_call HB1.out hb⟩
  clear qc0 qc1 qc2 qc3 qc4 qc5 ql sc0 sc1 sc2 sc3 sl rc0 rc1 rc2 rc3 rl q1 s1 r1 HB1 hb
  have qc0 : w2.cell? ⟨w.heap.size, 0, none⟩ = some (.slice pa C.parts.length pc) := (cell_blk q2.out 0).trans rfl
  have qc1 : w2.cell? ⟨w.heap.size, 1, none⟩ = some (.slice ca C.chans.length cc) := (cell_blk q2.out 1).trans rfl
  have qc2 : w2.cell? ⟨w.heap.size, 2, none⟩ = some (.int .i64 C.l0) := (cell_blk q2.out 2).trans rfl
  have qc3 : w2.cell? ⟨w.heap.size, 3, none⟩ = some (.slice a0 C.w0.length c0) := (cell_blk q2.out 3).trans rfl
  have qc4 : w2.cell? ⟨w.heap.size, 4, none⟩ = some (.int .i64 C.l1) := (cell_blk q2.out 4).trans rfl
  have qc5 : w2.cell? ⟨w.heap.size, 5, none⟩ = some (.slice a1 C.w1.length c1) := (cell_blk q2.out 5).trans rfl
  have ql := blk_lt q2.out
  have sc0 : w2.cell? ⟨w.heap.size + 1, 0, none⟩ = some (.int .i64 S.part) := (cell_blk s2.out 0).trans rfl
  have sc1 : w2.cell? ⟨w.heap.size + 1, 1, none⟩ = some (.bool S.normal) := (cell_blk s2.out 1).trans rfl
  have sc2 : w2.cell? ⟨w.heap.size + 1, 2, none⟩ = some (.slice ma S.made.length mc) := (cell_blk s2.out 2).trans rfl
  have sc3 : w2.cell? ⟨w.heap.size + 1, 3, none⟩ = some (.slice va S.valid.length vc) := (cell_blk s2.out 3).trans rfl
  have sl := blk_lt s2.out
  have rc0 : w2.cell? ⟨w.heap.size + 1 + 1, 0, none⟩ = some (.int .i64 7) := (cell_blk r2.out 0).trans rfl
  have rc1 : w2.cell? ⟨w.heap.size + 1 + 1, 1, none⟩ = some (.int .i64 R.port) := (cell_blk r2.out 1).trans rfl
  have rc2 : w2.cell? ⟨w.heap.size + 1 + 1, 2, none⟩ = some (.int .u64 R.addr) := (cell_blk r2.out 2).trans rfl
  have rc3 : w2.cell? ⟨w.heap.size + 1 + 1, 3, none⟩ = some (.slice da R.data.length dc) := (cell_blk r2.out 3).trans rfl
  have rl := blk_lt r2.out
  go_wp2
  go_ret
  exact ⟨rfl, HB2.out⟩

set_option maxRecDepth 100000 in
set_option maxHeartbeats 8000000 in
theorem rref_8false (cv sv rv : Value) (C : Cfg) (S : Std) (R : Rqt) (hsm : C.small) (hm : S.made.length ≤ 100) (hd : R.data.length ≤ 100) (ha : accB C = true) (hp0 : 0 ≤ S.part) (hp1 : S.part < (C.parts.length : Int)) (hop : R.op = 8) (hpr : privA C S.part R.addr = false) (w : World) (hc : CfgAt w cv C) (hs : StdAt w sv S) (hr : RqtAt w rv R) : Calls Tryd.prog 15 #[cv, sv, rv] w fun e w' => e = .returned (.int .i64 (6)) ∧ Below w.heap.size w w' := by
  have HA := Kp.mk ha
  clear ha
  have HPR := Kp.mk hpr
  clear hpr
  have HC := Kp.mk hc
  have HS := Kp.mk hs
  have HR := Kp.mk hr
  obtain ⟨_, pa, pc, ca, cc, a0, c0, a1, c1, rfl, bp, bc, b0, b1, gp, gc, gw0, gw1⟩ := hc
  obtain ⟨_, ma, mc, va, vc, rfl, bm, bv, gm, gv⟩ := hs
  obtain ⟨ir, da, dc, rfl, bd, gd⟩ := hr
  clear gp gw0 gw1 gm gv gd bp b0 b1
  have HRO := Kp.mk ir
  clear ir gc
  rw [hop] at HR ⊢
  clear hop
  go_enter Tryd.func15, Tryd.ntmps15
  have HB0 : Kp (Below w.heap.size w w) := ⟨Below.refl _ _⟩
  go_wp2_with fail
  refine (refAccepts_any _ C hsm _ (HC.out.below (below_al (below_al (below_al HB0.out _) _) _))).mono ?_
  rw [HA.out]
  rintro e w1 ⟨rfl, hb⟩
  have q1 : Kp (w1.heap[w.heap.size]? = some (.cells #[.slice pa C.parts.length pc, .slice ca C.chans.length cc, .int .i64 C.l0, .slice a0 C.w0.length c0, .int .i64 C.l1, .slice a1 C.w1.length c1] 29 (0, 0))) := ⟨blk_below (blk_al (blk_al (blk_new _ _) _) _) hb⟩
  have s1 : Kp (w1.heap[w.heap.size + 1]? = some (.cells #[.int .i64 S.part, .bool S.normal, .slice ma S.made.length mc, .slice va S.valid.length vc] 40 (0, 0))) := ⟨blk_below (blk_al (blk_at (w := (w.alloc (.cells #[.slice pa C.parts.length pc, .slice ca C.chans.length cc, .int .i64 C.l0, .slice a0 C.w0.length c0, .int .i64 C.l1, .slice a1 C.w1.length c1] 29))) (by simp) _) _) hb⟩
  have r1 : Kp (w1.heap[w.heap.size + 1 + 1]? = some (.cells #[.int .i64 8, .int .i64 R.port, .int .u64 R.addr, .slice da R.data.length dc] 44 (0, 0))) := ⟨blk_below (blk_at (w := ((w.alloc (.cells #[.slice pa C.parts.length pc, .slice ca C.chans.length cc, .int .i64 C.l0, .slice a0 C.w0.length c0, .int .i64 C.l1, .slice a1 C.w1.length c1] 29)).alloc (.cells #[.int .i64 S.part, .bool S.normal, .slice ma S.made.length mc, .slice va S.valid.length vc] 40))) (by simp) _) hb⟩
  have HB1 : Kp (Below w.heap.size w w1) := ⟨below_call (below_al (below_al (below_al HB0.out _) _) _) hb⟩
  clear HB0 hb
  have qc0 : w1.cell? ⟨w.heap.size, 0, none⟩ = some (.slice pa C.parts.length pc) := (cell_blk q1.out 0).trans rfl
  have qc1 : w1.cell? ⟨w.heap.size, 1, none⟩ = some (.slice ca C.chans.length cc) := (cell_blk q1.out 1).trans rfl
  have qc2 : w1.cell? ⟨w.heap.size, 2, none⟩ = some (.int .i64 C.l0) := (cell_blk q1.out 2).trans rfl
  have qc3 : w1.cell? ⟨w.heap.size, 3, none⟩ = some (.slice a0 C.w0.length c0) := (cell_blk q1.out 3).trans rfl
  have qc4 : w1.cell? ⟨w.heap.size, 4, none⟩ = some (.int .i64 C.l1) := (cell_blk q1.out 4).trans rfl
  have qc5 : w1.cell? ⟨w.heap.size, 5, none⟩ = some (.slice a1 C.w1.length c1) := (cell_blk q1.out 5).trans rfl
  have ql := blk_lt q1.out
  have sc0 : w1.cell? ⟨w.heap.size + 1, 0, none⟩ = some (.int .i64 S.part) := (cell_blk s1.out 0).trans rfl
  have sc1 : w1.cell? ⟨w.heap.size + 1, 1, none⟩ = some (.bool S.normal) := (cell_blk s1.out 1).trans rfl
  have sc2 : w1.cell? ⟨w.heap.size + 1, 2, none⟩ = some (.slice ma S.made.length mc) := (cell_blk s1.out 2).trans rfl
  have sc3 : w1.cell? ⟨w.heap.size + 1, 3, none⟩ = some (.slice va S.valid.length vc) := (cell_blk s1.out 3).trans rfl
  have sl := blk_lt s1.out
  have rc0 : w1.cell? ⟨w.heap.size + 1 + 1, 0, none⟩ = some (.int .i64 8) := (cell_blk r1.out 0).trans rfl
  have rc1 : w1.cell? ⟨w.heap.size + 1 + 1, 1, none⟩ = some (.int .i64 R.port) := (cell_blk r1.out 1).trans rfl
  have rc2 : w1.cell? ⟨w.heap.size + 1 + 1, 2, none⟩ = some (.int .u64 R.addr) := (cell_blk r1.out 2).trans rfl
  have rc3 : w1.cell? ⟨w.heap.size + 1 + 1, 3, none⟩ = some (.slice da R.data.length dc) := (cell_blk r1.out 3).trans rfl
  have rl := blk_lt r1.out
  go_wp2_with fail
  refine (rpriv10_any _ C hsm S.part R.addr HRO.out.2.2.1 HRO.out.2.2.2 _ (HC.out.below HB1.out)).mono ?_
  rw [HPR.out]
  rintro e w2 ⟨rfl, hb⟩
  have q2 : Kp (w2.heap[w.heap.size]? = some (.cells #[.slice pa C.parts.length pc, .slice ca C.chans.length cc, .int .i64 C.l0, .slice a0 C.w0.length c0, .int .i64 C.l1, .slice a1 C.w1.length c1] 29 (0, 0))) := ⟨blk_below q1.out hb⟩
  have s2 : Kp (w2.heap[w.heap.size + 1]? = some (.cells #[.int .i64 S.part, .bool S.normal, .slice ma S.made.length mc, .slice va S.valid.length vc] 40 (0, 0))) := ⟨blk_below s1.out hb⟩
  have r2 : Kp (w2.heap[w.heap.size + 1 + 1]? = some (.cells #[.int .i64 8, .int .i64 R.port, .int .u64 R.addr, .slice da R.data.length dc] 44 (0, 0))) := ⟨blk_below r1.out hb⟩
  have HB2 : Kp (Below w.heap.size w w2) := ⟨below_call HB1.out hb⟩
  clear qc0 qc1 qc2 qc3 qc4 qc5 ql sc0 sc1 sc2 sc3 sl rc0 rc1 rc2 rc3 rl q1 s1 r1 HB1 hb
  have qc0 : w2.cell? ⟨w.heap.size, 0, none⟩ = some (.slice pa C.parts.length pc) := (cell_blk q2.out 0).trans rfl
  have qc1 : w2.cell? ⟨w.heap.size, 1, none⟩ = some (.slice ca C.chans.length cc) := (cell_blk q2.out 1).trans rfl
  have qc2 : w2.cell? ⟨w.heap.size, 2, none⟩ = some (.int .i64 C.l0) := (cell_blk q2.out 2).trans rfl
  have qc3 : w2.cell? ⟨w.heap.size, 3, none⟩ = some (.slice a0 C.w0.length c0) := (cell_blk q2.out 3).trans rfl
  have qc4 : w2.cell? ⟨w.heap.size, 4, none⟩ = some (.int .i64 C.l1) := (cell_blk q2.out 4).trans rfl
  have qc5 : w2.cell? ⟨w.heap.size, 5, none⟩ = some (.slice a1 C.w1.length c1) := (cell_blk q2.out 5).trans rfl
  have ql := blk_lt q2.out
  have sc0 : w2.cell? ⟨w.heap.size + 1, 0, none⟩ = some (.int .i64 S.part) := (cell_blk s2.out 0).trans rfl
  have sc1 : w2.cell? ⟨w.heap.size + 1, 1, none⟩ = some (.bool S.normal) := (cell_blk s2.out 1).trans rfl
  have sc2 : w2.cell? ⟨w.heap.size + 1, 2, none⟩ = some (.slice ma S.made.length mc) := (cell_blk s2.out 2).trans rfl
  have sc3 : w2.cell? ⟨w.heap.size + 1, 3, none⟩ = some (.slice va S.valid.length vc) := (cell_blk s2.out 3).trans rfl
  have sl := blk_lt s2.out
  have rc0 : w2.cell? ⟨w.heap.size + 1 + 1, 0, none⟩ = some (.int .i64 8) := (cell_blk r2.out 0).trans rfl
  have rc1 : w2.cell? ⟨w.heap.size + 1 + 1, 1, none⟩ = some (.int .i64 R.port) := (cell_blk r2.out 1).trans rfl
  have rc2 : w2.cell? ⟨w.heap.size + 1 + 1, 2, none⟩ = some (.int .u64 R.addr) := (cell_blk r2.out 2).trans rfl
  have rc3 : w2.cell? ⟨w.heap.size + 1 + 1, 3, none⟩ = some (.slice da R.data.length dc) := (cell_blk r2.out 3).trans rfl
  have rl := blk_lt r2.out
  go_wp2
  go_ret
  exact ⟨rfl, HB2.out⟩

set_option maxRecDepth 100000 in
set_option maxHeartbeats 8000000 in
theorem rref_8true (cv sv rv : Value) (C : Cfg) (S : Std) (R : Rqt) (hsm : C.small) (hm : S.made.length ≤ 100) (hd : R.data.length ≤ 100) (ha : accB C = true) (hp0 : 0 ≤ S.part) (hp1 : S.part < (C.parts.length : Int)) (hop : R.op = 8) (hpr : privA C S.part R.addr = true) (w : World) (hc : CfgAt w cv C) (hs : StdAt w sv S) (hr : RqtAt w rv R) : Calls Tryd.prog 15 #[cv, sv, rv] w fun e w' => e = .returned (.int .i64 (0)) ∧ Below w.heap.size w w' := by
  have HA := Kp.mk ha
  clear ha
  have HPR := Kp.mk hpr
  clear hpr
  have HC := Kp.mk hc
  have HS := Kp.mk hs
  have HR := Kp.mk hr
  obtain ⟨_, pa, pc, ca, cc, a0, c0, a1, c1, rfl, bp, bc, b0, b1, gp, gc, gw0, gw1⟩ := hc
  obtain ⟨_, ma, mc, va, vc, rfl, bm, bv, gm, gv⟩ := hs
  obtain ⟨ir, da, dc, rfl, bd, gd⟩ := hr
  clear gp gw0 gw1 gm gv gd bp b0 b1
  have HRO := Kp.mk ir
  clear ir gc
  rw [hop] at HR ⊢
  clear hop
  go_enter Tryd.func15, Tryd.ntmps15
  have HB0 : Kp (Below w.heap.size w w) := ⟨Below.refl _ _⟩
  go_wp2_with fail
  refine (refAccepts_any _ C hsm _ (HC.out.below (below_al (below_al (below_al HB0.out _) _) _))).mono ?_
  rw [HA.out]
  rintro e w1 ⟨rfl, hb⟩
  have q1 : Kp (w1.heap[w.heap.size]? = some (.cells #[.slice pa C.parts.length pc, .slice ca C.chans.length cc, .int .i64 C.l0, .slice a0 C.w0.length c0, .int .i64 C.l1, .slice a1 C.w1.length c1] 29 (0, 0))) := ⟨blk_below (blk_al (blk_al (blk_new _ _) _) _) hb⟩
  have s1 : Kp (w1.heap[w.heap.size + 1]? = some (.cells #[.int .i64 S.part, .bool S.normal, .slice ma S.made.length mc, .slice va S.valid.length vc] 40 (0, 0))) := ⟨blk_below (blk_al (blk_at (w := (w.alloc (.cells #[.slice pa C.parts.length pc, .slice ca C.chans.length cc, .int .i64 C.l0, .slice a0 C.w0.length c0, .int .i64 C.l1, .slice a1 C.w1.length c1] 29))) (by simp) _) _) hb⟩
  have r1 : Kp (w1.heap[w.heap.size + 1 + 1]? = some (.cells #[.int .i64 8, .int .i64 R.port, .int .u64 R.addr, .slice da R.data.length dc] 44 (0, 0))) := ⟨blk_below (blk_at (w := ((w.alloc (.cells #[.slice pa C.parts.length pc, .slice ca C.chans.length cc, .int .i64 C.l0, .slice a0 C.w0.length c0, .int .i64 C.l1, .slice a1 C.w1.length c1] 29)).alloc (.cells #[.int .i64 S.part, .bool S.normal, .slice ma S.made.length mc, .slice va S.valid.length vc] 40))) (by simp) _) hb⟩
  have HB1 : Kp (Below w.heap.size w w1) := ⟨below_call (below_al (below_al (below_al HB0.out _) _) _) hb⟩
  clear HB0 hb
  have qc0 : w1.cell? ⟨w.heap.size, 0, none⟩ = some (.slice pa C.parts.length pc) := (cell_blk q1.out 0).trans rfl
  have qc1 : w1.cell? ⟨w.heap.size, 1, none⟩ = some (.slice ca C.chans.length cc) := (cell_blk q1.out 1).trans rfl
  have qc2 : w1.cell? ⟨w.heap.size, 2, none⟩ = some (.int .i64 C.l0) := (cell_blk q1.out 2).trans rfl
  have qc3 : w1.cell? ⟨w.heap.size, 3, none⟩ = some (.slice a0 C.w0.length c0) := (cell_blk q1.out 3).trans rfl
  have qc4 : w1.cell? ⟨w.heap.size, 4, none⟩ = some (.int .i64 C.l1) := (cell_blk q1.out 4).trans rfl
  have qc5 : w1.cell? ⟨w.heap.size, 5, none⟩ = some (.slice a1 C.w1.length c1) := (cell_blk q1.out 5).trans rfl
  have ql := blk_lt q1.out
  have sc0 : w1.cell? ⟨w.heap.size + 1, 0, none⟩ = some (.int .i64 S.part) := (cell_blk s1.out 0).trans rfl
  have sc1 : w1.cell? ⟨w.heap.size + 1, 1, none⟩ = some (.bool S.normal) := (cell_blk s1.out 1).trans rfl
  have sc2 : w1.cell? ⟨w.heap.size + 1, 2, none⟩ = some (.slice ma S.made.length mc) := (cell_blk s1.out 2).trans rfl
  have sc3 : w1.cell? ⟨w.heap.size + 1, 3, none⟩ = some (.slice va S.valid.length vc) := (cell_blk s1.out 3).trans rfl
  have sl := blk_lt s1.out
  have rc0 : w1.cell? ⟨w.heap.size + 1 + 1, 0, none⟩ = some (.int .i64 8) := (cell_blk r1.out 0).trans rfl
  have rc1 : w1.cell? ⟨w.heap.size + 1 + 1, 1, none⟩ = some (.int .i64 R.port) := (cell_blk r1.out 1).trans rfl
  have rc2 : w1.cell? ⟨w.heap.size + 1 + 1, 2, none⟩ = some (.int .u64 R.addr) := (cell_blk r1.out 2).trans rfl
  have rc3 : w1.cell? ⟨w.heap.size + 1 + 1, 3, none⟩ = some (.slice da R.data.length dc) := (cell_blk r1.out 3).trans rfl
  have rl := blk_lt r1.out
  go_wp2_with fail
  refine (rpriv10_any _ C hsm S.part R.addr HRO.out.2.2.1 HRO.out.2.2.2 _ (HC.out.below HB1.out)).mono ?_
  rw [HPR.out]
  rintro e w2 ⟨rfl, hb⟩
  have q2 : Kp (w2.heap[w.heap.size]? = some (.cells #[.slice pa C.parts.length pc, .slice ca C.chans.length cc, .int .i64 C.l0, .slice a0 C.w0.length c0, .int .i64 C.l1, .slice a1 C.w1.length c1] 29 (0, 0))) := ⟨blk_below q1.out hb⟩
  have s2 : Kp (w2.heap[w.heap.size + 1]? = some (.cells #[.int .i64 S.part, .bool S.normal, .slice ma S.made.length mc, .slice va S.valid.length vc] 40 (0, 0))) := ⟨blk_below s1.out hb⟩
  have r2 : Kp (w2.heap[w.heap.size + 1 + 1]? = some (.cells #[.int .i64 8, .int .i64 R.port, .int .u64 R.addr, .slice da R.data.length dc] 44 (0, 0))) := ⟨blk_below r1.out hb⟩
  have HB2 : Kp (Below w.heap.size w w2) := ⟨below_call HB1.out hb⟩
  clear qc0 qc1 qc2 qc3 qc4 qc5 ql sc0 sc1 sc2 sc3 sl rc0 rc1 rc2 rc3 rl q1 s1 r1 HB1 hb
  have qc0 : w2.cell? ⟨w.heap.size, 0, none⟩ = some (.slice pa C.parts.length pc) := (cell_blk q2.out 0).trans rfl
  have qc1 : w2.cell? ⟨w.heap.size, 1, none⟩ = some (.slice ca C.chans.length cc) := (cell_blk q2.out 1).trans rfl
  have qc2 : w2.cell? ⟨w.heap.size, 2, none⟩ = some (.int .i64 C.l0) := (cell_blk q2.out 2).trans rfl
  have qc3 : w2.cell? ⟨w.heap.size, 3, none⟩ = some (.slice a0 C.w0.length c0) := (cell_blk q2.out 3).trans rfl
  have qc4 : w2.cell? ⟨w.heap.size, 4, none⟩ = some (.int .i64 C.l1) := (cell_blk q2.out 4).trans rfl
  have qc5 : w2.cell? ⟨w.heap.size, 5, none⟩ = some (.slice a1 C.w1.length c1) := (cell_blk q2.out 5).trans rfl
  have ql := blk_lt q2.out
  have sc0 : w2.cell? ⟨w.heap.size + 1, 0, none⟩ = some (.int .i64 S.part) := (cell_blk s2.out 0).trans rfl
  have sc1 : w2.cell? ⟨w.heap.size + 1, 1, none⟩ = some (.bool S.normal) := (cell_blk s2.out 1).trans rfl
  have sc2 : w2.cell? ⟨w.heap.size + 1, 2, none⟩ = some (.slice ma S.made.length mc) := (cell_blk s2.out 2).trans rfl
  have sc3 : w2.cell? ⟨w.heap.size + 1, 3, none⟩ = some (.slice va S.valid.length vc) := (cell_blk s2.out 3).trans rfl
  have sl := blk_lt s2.out
  have rc0 : w2.cell? ⟨w.heap.size + 1 + 1, 0, none⟩ = some (.int .i64 8) := (cell_blk r2.out 0).trans rfl
  have rc1 : w2.cell? ⟨w.heap.size + 1 + 1, 1, none⟩ = some (.int .i64 R.port) := (cell_blk r2.out 1).trans rfl
  have rc2 : w2.cell? ⟨w.heap.size + 1 + 1, 2, none⟩ = some (.int .u64 R.addr) := (cell_blk r2.out 2).trans rfl
  have rc3 : w2.cell? ⟨w.heap.size + 1 + 1, 3, none⟩ = some (.slice da R.data.length dc) := (cell_blk r2.out 3).trans rfl
  have rl := blk_lt r2.out
  go_wp2
  go_ret
  exact ⟨rfl, HB2.out⟩

set_option maxRecDepth 100000 in
set_option maxHeartbeats 8000000 in
theorem rref_9len (cv sv rv : Value) (C : Cfg) (S : Std) (R : Rqt) (hsm : C.small) (hm : S.made.length ≤ 100) (hd : R.data.length ≤ 100) (ha : accB C = true) (hp0 : 0 ≤ S.part) (hp1 : S.part < (C.parts.length : Int)) (hop : R.op = 9) (hl : R.data.length ≠ 1) (w : World) (hc : CfgAt w cv C) (hs : StdAt w sv S) (hr : RqtAt w rv R) : Calls Tryd.prog 15 #[cv, sv, rv] w fun e w' => e = .returned (.int .i64 (3)) ∧ Below w.heap.size w w' := by
  have HA := Kp.mk ha
  clear ha
  have hl1 : ((R.data.length : Int) != 1) = true := by rw [bne_iff_ne]; omega
  clear hl
  have HC := Kp.mk hc
  have HS := Kp.mk hs
  have HR := Kp.mk hr
  obtain ⟨_, pa, pc, ca, cc, a0, c0, a1, c1, rfl, bp, bc, b0, b1, gp, gc, gw0, gw1⟩ := hc
  obtain ⟨_, ma, mc, va, vc, rfl, bm, bv, gm, gv⟩ := hs
  obtain ⟨ir, da, dc, rfl, bd, gd⟩ := hr
  clear gp gw0 gw1 gm gv gd bp b0 b1
  have HRO := Kp.mk ir
  clear ir gc
  rw [hop] at HR ⊢
  clear hop
  go_enter Tryd.func15, Tryd.ntmps15
  have HB0 : Kp (Below w.heap.size w w) := ⟨Below.refl _ _⟩
  go_wp2_with fail
  refine (refAccepts_any _ C hsm _ (HC.out.below (below_al (below_al (below_al HB0.out _) _) _))).mono ?_
  rw [HA.out]
  rintro e w1 ⟨rfl, hb⟩
  have q1 : Kp (w1.heap[w.heap.size]? = some (.cells #[.slice pa C.parts.length pc, .slice ca C.chans.length cc, .int .i64 C.l0, .slice a0 C.w0.length c0, .int .i64 C.l1, .slice a1 C.w1.length c1] 29 (0, 0))) := ⟨blk_below (blk_al (blk_al (blk_new _ _) _) _) hb⟩
  have s1 : Kp (w1.heap[w.heap.size + 1]? = some (.cells #[.int .i64 S.part, .bool S.normal, .slice ma S.made.length mc, .slice va S.valid.length vc] 40 (0, 0))) := ⟨blk_below (blk_al (blk_at (w := (w.alloc (.cells #[.slice pa C.parts.length pc, .slice ca C.chans.length cc, .int .i64 C.l0, .slice a0 C.w0.length c0, .int .i64 C.l1, .slice a1 C.w1.length c1] 29))) (by simp) _) _) hb⟩
  have r1 : Kp (w1.heap[w.heap.size + 1 + 1]? = some (.cells #[.int .i64 9, .int .i64 R.port, .int .u64 R.addr, .slice da R.data.length dc] 44 (0, 0))) := ⟨blk_below (blk_at (w := ((w.alloc (.cells #[.slice pa C.parts.length pc, .slice ca C.chans.length cc, .int .i64 C.l0, .slice a0 C.w0.length c0, .int .i64 C.l1, .slice a1 C.w1.length c1] 29)).alloc (.cells #[.int .i64 S.part, .bool S.normal, .slice ma S.made.length mc, .slice va S.valid.length vc] 40))) (by simp) _) hb⟩
  have HB1 : Kp (Below w.heap.size w w1) := ⟨below_call (below_al (below_al (below_al HB0.out _) _) _) hb⟩
  clear HB0 hb
  have qc0 : w1.cell? ⟨w.heap.size, 0, none⟩ = some (.slice pa C.parts.length pc) := (cell_blk q1.out 0).trans rfl
  have qc1 : w1.cell? ⟨w.heap.size, 1, none⟩ = some (.slice ca C.chans.length cc) := (cell_blk q1.out 1).trans rfl
  have qc2 : w1.cell? ⟨w.heap.size, 2, none⟩ = some (.int .i64 C.l0) := (cell_blk q1.out 2).trans rfl
  have qc3 : w1.cell? ⟨w.heap.size, 3, none⟩ = some (.slice a0 C.w0.length c0) := (cell_blk q1.out 3).trans rfl
  have qc4 : w1.cell? ⟨w.heap.size, 4, none⟩ = some (.int .i64 C.l1) := (cell_blk q1.out 4).trans rfl
  have qc5 : w1.cell? ⟨w.heap.size, 5, none⟩ = some (.slice a1 C.w1.length c1) := (cell_blk q1.out 5).trans rfl
  have ql := blk_lt q1.out
  have sc0 : w1.cell? ⟨w.heap.size + 1, 0, none⟩ = some (.int .i64 S.part) := (cell_blk s1.out 0).trans rfl
  have sc1 : w1.cell? ⟨w.heap.size + 1, 1, none⟩ = some (.bool S.normal) := (cell_blk s1.out 1).trans rfl
  have sc2 : w1.cell? ⟨w.heap.size + 1, 2, none⟩ = some (.slice ma S.made.length mc) := (cell_blk s1.out 2).trans rfl
  have sc3 : w1.cell? ⟨w.heap.size + 1, 3, none⟩ = some (.slice va S.valid.length vc) := (cell_blk s1.out 3).trans rfl
  have sl := blk_lt s1.out
  have rc0 : w1.cell? ⟨w.heap.size + 1 + 1, 0, none⟩ = some (.int .i64 9) := (cell_blk r1.out 0).trans rfl
  have rc1 : w1.cell? ⟨w.heap.size + 1 + 1, 1, none⟩ = some (.int .i64 R.port) := (cell_blk r1.out 1).trans rfl
  have rc2 : w1.cell? ⟨w.heap.size + 1 + 1, 2, none⟩ = some (.int .u64 R.addr) := (cell_blk r1.out 2).trans rfl
  have rc3 : w1.cell? ⟨w.heap.size + 1 + 1, 3, none⟩ = some (.slice da R.data.length dc) := (cell_blk r1.out 3).trans rfl
  have rl := blk_lt r1.out
  go_wp2
  go_ret
  exact ⟨rfl, HB1.out⟩

set_option maxRecDepth 100000 in
set_option maxHeartbeats 8000000 in
theorem rref_9false (cv sv rv : Value) (C : Cfg) (S : Std) (R : Rqt) (hsm : C.small) (hm : S.made.length ≤ 100) (hd : R.data.length ≤ 100) (ha : accB C = true) (hp0 : 0 ≤ S.part) (hp1 : S.part < (C.parts.length : Int)) (hop : R.op = 9) (hl : R.data.length = 1) (hpr : privA C S.part R.addr = false) (w : World) (hc : CfgAt w cv C) (hs : StdAt w sv S) (hr : RqtAt w rv R) : Calls Tryd.prog 15 #[cv, sv, rv] w fun e w' => e = .returned (.int .i64 (6)) ∧ Below w.heap.size w w' := by
  have HA := Kp.mk ha
  clear ha
  have hl1 : ((R.data.length : Int) != 1) = false := by rw [bne_eq_false_iff_eq]; omega
  clear hl
  have HPR := Kp.mk hpr
  clear hpr
  have HC := Kp.mk hc
  have HS := Kp.mk hs
  have HR := Kp.mk hr
  obtain ⟨_, pa, pc, ca, cc, a0, c0, a1, c1, rfl, bp, bc, b0, b1, gp, gc, gw0, gw1⟩ := hc
  obtain ⟨_, ma, mc, va, vc, rfl, bm, bv, gm, gv⟩ := hs
  obtain ⟨ir, da, dc, rfl, bd, gd⟩ := hr
  clear gp gw0 gw1 gm gv gd bp b0 b1
  have HRO := Kp.mk ir
  clear ir gc
  rw [hop] at HR ⊢
  clear hop
  go_enter Tryd.func15, Tryd.ntmps15
  have HB0 : Kp (Below w.heap.size w w) := ⟨Below.refl _ _⟩
  go_wp2_with fail
  refine (refAccepts_any _ C hsm _ (HC.out.below (below_al (below_al (below_al HB0.out _) _) _))).mono ?_
  rw [HA.out]
  rintro e w1 ⟨rfl, hb⟩
  have q1 : Kp (w1.heap[w.heap.size]? = some (.cells #[.slice pa C.parts.length pc, .slice ca C.chans.length cc, .int .i64 C.l0, .slice a0 C.w0.length c0, .int .i64 C.l1, .slice a1 C.w1.length c1] 29 (0, 0))) := ⟨blk_below (blk_al (blk_al (blk_new _ _) _) _) hb⟩
  have s1 : Kp (w1.heap[w.heap.size + 1]? = some (.cells #[.int .i64 S.part, .bool S.normal, .slice ma S.made.length mc, .slice va S.valid.length vc] 40 (0, 0))) := ⟨blk_below (blk_al (blk_at (w := (w.alloc (.cells #[.slice pa C.parts.length pc, .slice ca C.chans.length cc, .int .i64 C.l0, .slice a0 C.w0.length c0, .int .i64 C.l1, .slice a1 C.w1.length c1] 29))) (by simp) _) _) hb⟩
  have r1 : Kp (w1.heap[w.heap.size + 1 + 1]? = some (.cells #[.int .i64 9, .int .i64 R.port, .int .u64 R.addr, .slice da R.data.length dc] 44 (0, 0))) := ⟨blk_below (blk_at (w := ((w.alloc (.cells #[.slice pa C.parts.length pc, .slice ca C.chans.length cc, .int .i64 C.l0, .slice a0 C.w0.length c0, .int .i64 C.l1, .slice a1 C.w1.length c1] 29)).alloc (.cells #[.int .i64 S.part, .bool S.normal, .slice ma S.made.length mc, .slice va S.valid.length vc] 40))) (by simp) _) hb⟩
  have HB1 : Kp (Below w.heap.size w w1) := ⟨below_call (below_al (below_al (below_al HB0.out _) _) _) hb⟩
  clear HB0 hb
  have qc0 : w1.cell? ⟨w.heap.size, 0, none⟩ = some (.slice pa C.parts.length pc) := (cell_blk q1.out 0).trans rfl
  have qc1 : w1.cell? ⟨w.heap.size, 1, none⟩ = some (.slice ca C.chans.length cc) := (cell_blk q1.out 1).trans rfl
  have qc2 : w1.cell? ⟨w.heap.size, 2, none⟩ = some (.int .i64 C.l0) := (cell_blk q1.out 2).trans rfl
  have qc3 : w1.cell? ⟨w.heap.size, 3, none⟩ = some (.slice a0 C.w0.length c0) := (cell_blk q1.out 3).trans rfl
  have qc4 : w1.cell? ⟨w.heap.size, 4, none⟩ = some (.int .i64 C.l1) := (cell_blk q1.out 4).trans rfl
  have qc5 : w1.cell? ⟨w.heap.size, 5, none⟩ = some (.slice a1 C.w1.length c1) := (cell_blk q1.out 5).trans rfl
  have ql := blk_lt q1.out
  have sc0 : w1.cell? ⟨w.heap.size + 1, 0, none⟩ = some (.int .i64 S.part) := (cell_blk s1.out 0).trans rfl
  have sc1 : w1.cell? ⟨w.heap.size + 1, 1, none⟩ = some (.bool S.normal) := (cell_blk s1.out 1).trans rfl
  have sc2 : w1.cell? ⟨w.heap.size + 1, 2, none⟩ = some (.slice ma S.made.length mc) := (cell_blk s1.out 2).trans rfl
  have sc3 : w1.cell? ⟨w.heap.size + 1, 3, none⟩ = some (.slice va S.valid.length vc) := (cell_blk s1.out 3).trans rfl
  have sl := blk_lt s1.out
  have rc0 : w1.cell? ⟨w.heap.size + 1 + 1, 0, none⟩ = some (.int .i64 9) := (cell_blk r1.out 0).trans rfl
  have rc1 : w1.cell? ⟨w.heap.size + 1 + 1, 1, none⟩ = some (.int .i64 R.port) := (cell_blk r1.out 1).trans rfl
  have rc2 : w1.cell? ⟨w.heap.size + 1 + 1, 2, none⟩ = some (.int .u64 R.addr) := (cell_blk r1.out 2).trans rfl
  have rc3 : w1.cell? ⟨w.heap.size + 1 + 1, 3, none⟩ = some (.slice da R.data.length dc) := (cell_blk r1.out 3).trans rfl
  have rl := blk_lt r1.out
  go_wp2_with fail
  refine (rpriv10_any _ C hsm S.part R.addr HRO.out.2.2.1 HRO.out.2.2.2 _ (HC.out.below HB1.out)).mono ?_
  rw [HPR.out]
  rintro e w2 ⟨rfl, hb⟩
  have q2 : Kp (w2.heap[w.heap.size]? = some (.cells #[.slice pa C.parts.length pc, .slice ca C.chans.length cc, .int .i64 C.l0, .slice a0 C.w0.length c0, .int .i64 C.l1, .slice a1 C.w1.length c1] 29 (0, 0))) := ⟨blk_below q1.out hb⟩
  have s2 : Kp (w2.heap[w.heap.size + 1]? = some (.cells #[.int .i64 S.part, .bool S.normal, .slice ma S.made.length mc, .slice va S.valid.length vc] 40 (0, 0))) := ⟨blk_below s1.out hb⟩
  have r2 : Kp (w2.heap[w.heap.size + 1 + 1]? = some (.cells #[.int .i64 9, .int .i64 R.port, .int .u64 R.addr, .slice da R.data.length dc] 44 (0, 0))) := ⟨blk_below r1.out hb⟩
  have HB2 : Kp (Below w.heap.size w w2) := ⟨below_call HB1.out hb⟩
  clear qc0 qc1 qc2 qc3 qc4 qc5 ql sc0 sc1 sc2 sc3 sl rc0 rc1 rc2 rc3 rl q1 s1 r1 HB1 hb
  have qc0 : w2.cell? ⟨w.heap.size, 0, none⟩ = some (.slice pa C.parts.length pc) := (cell_blk q2.out 0).trans rfl
  have qc1 : w2.cell? ⟨w.heap.size, 1, none⟩ = some (.slice ca C.chans.length cc) := (cell_blk q2.out 1).trans rfl
  have qc2 : w2.cell? ⟨w.heap.size, 2, none⟩ = some (.int .i64 C.l0) := (cell_blk q2.out 2).trans rfl
  have qc3 : w2.cell? ⟨w.heap.size, 3, none⟩ = some (.slice a0 C.w0.length c0) := (cell_blk q2.out 3).trans rfl
  have qc4 : w2.cell? ⟨w.heap.size, 4, none⟩ = some (.int .i64 C.l1) := (cell_blk q2.out 4).trans rfl
  have qc5 : w2.cell? ⟨w.heap.size, 5, none⟩ = some (.slice a1 C.w1.length c1) := (cell_blk q2.out 5).trans rfl
  have ql := blk_lt q2.out
  have sc0 : w2.cell? ⟨w.heap.size + 1, 0, none⟩ = some (.int .i64 S.part) := (cell_blk s2.out 0).trans rfl
  have sc1 : w2.cell? ⟨w.heap.size + 1, 1, none⟩ = some (.bool S.normal) := (cell_blk s2.out 1).trans rfl
  have sc2 : w2.cell? ⟨w.heap.size + 1, 2, none⟩ = some (.slice ma S.made.length mc) := (cell_blk s2.out 2).trans rfl
  have sc3 : w2.cell? ⟨w.heap.size + 1, 3, none⟩ = some (.slice va S.valid.length vc) := (cell_blk s2.out 3).trans rfl
  have sl := blk_lt s2.out
  have rc0 : w2.cell? ⟨w.heap.size + 1 + 1, 0, none⟩ = some (.int .i64 9) := (cell_blk r2.out 0).trans rfl
  have rc1 : w2.cell? ⟨w.heap.size + 1 + 1, 1, none⟩ = some (.int .i64 R.port) := (cell_blk r2.out 1).trans rfl
  have rc2 : w2.cell? ⟨w.heap.size + 1 + 1, 2, none⟩ = some (.int .u64 R.addr) := (cell_blk r2.out 2).trans rfl
  have rc3 : w2.cell? ⟨w.heap.size + 1 + 1, 3, none⟩ = some (.slice da R.data.length dc) := (cell_blk r2.out 3).trans rfl
  have rl := blk_lt r2.out
  go_wp2
  go_ret
  exact ⟨rfl, HB2.out⟩

set_option maxRecDepth 100000 in
set_option maxHeartbeats 8000000 in
theorem rref_9true (cv sv rv : Value) (C : Cfg) (S : Std) (R : Rqt) (hsm : C.small) (hm : S.made.length ≤ 100) (hd : R.data.length ≤ 100) (ha : accB C = true) (hp0 : 0 ≤ S.part) (hp1 : S.part < (C.parts.length : Int)) (hop : R.op = 9) (hl : R.data.length = 1) (hpr : privA C S.part R.addr = true) (w : World) (hc : CfgAt w cv C) (hs : StdAt w sv S) (hr : RqtAt w rv R) : Calls Tryd.prog 15 #[cv, sv, rv] w fun e w' => e = .returned (.int .i64 (0)) ∧ Below w.heap.size w w' := by
  have HA := Kp.mk ha
  clear ha
  have hl1 : ((R.data.length : Int) != 1) = false := by rw [bne_eq_false_iff_eq]; omega
  clear hl
  have HPR := Kp.mk hpr
  clear hpr
  have HC := Kp.mk hc
  have HS := Kp.mk hs
  have HR := Kp.mk hr
  obtain ⟨_, pa, pc, ca, cc, a0, c0, a1, c1, rfl, bp, bc, b0, b1, gp, gc, gw0, gw1⟩ := hc
  obtain ⟨_, ma, mc, va, vc, rfl, bm, bv, gm, gv⟩ := hs
  obtain ⟨ir, da, dc, rfl, bd, gd⟩ := hr
  clear gp gw0 gw1 gm gv gd bp b0 b1
  have HRO := Kp.mk ir
  clear ir gc
  rw [hop] at HR ⊢
  clear hop
  go_enter Tryd.func15, Tryd.ntmps15
  have HB0 : Kp (Below w.heap.size w w) := ⟨Below.refl _ _⟩
  go_wp2_with fail
  refine (refAccepts_any _ C hsm _ (HC.out.below (below_al (below_al (below_al HB0.out _) _) _))).mono ?_
  rw [HA.out]
  rintro e w1 ⟨rfl, hb⟩
  have q1 : Kp (w1.heap[w.heap.size]? = some (.cells #[.slice pa C.parts.length pc, .slice ca C.chans.length cc, .int .i64 C.l0, .slice a0 C.w0.length c0, .int .i64 C.l1, .slice a1 C.w1.length c1] 29 (0, 0))) := ⟨blk_below (blk_al (blk_al (blk_new _ _) _) _) hb⟩
  have s1 : Kp (w1.heap[w.heap.size + 1]? = some (.cells #[.int .i64 S.part, .bool S.normal, .slice ma S.made.length mc, .slice va S.valid.length vc] 40 (0, 0))) := ⟨blk_below (blk_al (blk_at (w := (w.alloc (.cells #[.slice pa C.parts.length pc, .slice ca C.chans.length cc, .int .i64 C.l0, .slice a0 C.w0.length c0, .int .i64 C.l1, .slice a1 C.w1.length c1] 29))) (by simp) _) _) hb⟩
  have r1 : Kp (w1.heap[w.heap.size + 1 + 1]? = some (.cells #[.int .i64 9, .int .i64 R.port, .int .u64 R.addr, .slice da R.data.length dc] 44 (0, 0))) := ⟨blk_below (blk_at (w := ((w.alloc (.cells #[.slice pa C.parts.length pc, .slice ca C.chans.length cc, .int .i64 C.l0, .slice a0 C.w0.length c0, .int .i64 C.l1, .slice a1 C.w1.length c1] 29)).alloc (.cells #[.int .i64 S.part, .bool S.normal, .slice ma S.made.length mc, .slice va S.valid.length vc] 40))) (by simp) _) hb⟩
  have HB1 : Kp (Below w.heap.size w w1) := ⟨below_call (below_al (below_al (below_al HB0.out _) _) _) hb⟩
  clear HB0 hb
  have qc0 : w1.cell? ⟨w.heap.size, 0, none⟩ = some (.slice pa C.parts.length pc) := (cell_blk q1.out 0).trans rfl
  have qc1 : w1.cell? ⟨w.heap.size, 1, none⟩ = some (.slice ca C.chans.length cc) := (cell_blk q1.out 1).trans rfl
  have qc2 : w1.cell? ⟨w.heap.size, 2, none⟩ = some (.int .i64 C.l0) := (cell_blk q1.out 2).trans rfl
  have qc3 : w1.cell? ⟨w.heap.size, 3, none⟩ = some (.slice a0 C.w0.length c0) := (cell_blk q1.out 3).trans rfl
  have qc4 : w1.cell? ⟨w.heap.size, 4, none⟩ = some (.int .i64 C.l1) := (cell_blk q1.out 4).trans rfl
  have qc5 : w1.cell? ⟨w.heap.size, 5, none⟩ = some (.slice a1 C.w1.length c1) := (cell_blk q1.out 5).trans rfl
  have ql := blk_lt q1.out
  have sc0 : w1.cell? ⟨w.heap.size + 1, 0, none⟩ = some (.int .i64 S.part) := (cell_blk s1.out 0).trans rfl
  have sc1 : w1.cell? ⟨w.heap.size + 1, 1, none⟩ = some (.bool S.normal) := (cell_blk s1.out 1).trans rfl
  have sc2 : w1.cell? ⟨w.heap.size + 1, 2, none⟩ = some (.slice ma S.made.length mc) := (cell_blk s1.out 2).trans rfl
  have sc3 : w1.cell? ⟨w.heap.size + 1, 3, none⟩ = some (.slice va S.valid.length vc) := (cell_blk s1.out 3).trans rfl
  have sl := blk_lt s1.out
  have rc0 : w1.cell? ⟨w.heap.size + 1 + 1, 0, none⟩ = some (.int .i64 9) := (cell_blk r1.out 0).trans rfl
  have rc1 : w1.cell? ⟨w.heap.size + 1 + 1, 1, none⟩ = some (.int .i64 R.port) := (cell_blk r1.out 1).trans rfl
  have rc2 : w1.cell? ⟨w.heap.size + 1 + 1, 2, none⟩ = some (.int .u64 R.addr) := (cell_blk r1.out 2).trans rfl
  have rc3 : w1.cell? ⟨w.heap.size + 1 + 1, 3, none⟩ = some (.slice da R.data.length dc) := (cell_blk r1.out 3).trans rfl
  have rl := blk_lt r1.out
  go_wp2_with fail
  refine (rpriv10_any _ C hsm S.part R.addr HRO.out.2.2.1 HRO.out.2.2.2 _ (HC.out.below HB1.out)).mono ?_
  rw [HPR.out]
  rintro e w2 ⟨rfl, hb⟩
  have q2 : Kp (w2.heap[w.heap.size]? = some (.cells #[.slice pa C.parts.length pc, .slice ca C.chans.length cc, .int .i64 C.l0, .slice a0 C.w0.length c0, .int .i64 C.l1, .slice a1 C.w1.length c1] 29 (0, 0))) := ⟨blk_below q1.out hb⟩
  have s2 : Kp (w2.heap[w.heap.size + 1]? = some (.cells #[.int .i64 S.part, .bool S.normal, .slice ma S.made.length mc, .slice va S.valid.length vc] 40 (0, 0))) := ⟨blk_below s1.out hb⟩
  have r2 : Kp (w2.heap[w.heap.size + 1 + 1]? = some (.cells #[.int .i64 9, .int .i64 R.port, .int .u64 R.addr, .slice da R.data.length dc] 44 (0, 0))) := ⟨blk_below r1.out hb⟩
  have HB2 : Kp (Below w.heap.size w w2) := ⟨below_call HB1.out hb⟩
  clear qc0 qc1 qc2 qc3 qc4 qc5 ql sc0 sc1 sc2 sc3 sl rc0 rc1 rc2 rc3 rl q1 s1 r1 HB1 hb
  have qc0 : w2.cell? ⟨w.heap.size, 0, none⟩ = some (.slice pa C.parts.length pc) := (cell_blk q2.out 0).trans rfl
  have qc1 : w2.cell? ⟨w.heap.size, 1, none⟩ = some (.slice ca C.chans.length cc) := (cell_blk q2.out 1).trans rfl
  have qc2 : w2.cell? ⟨w.heap.size, 2, none⟩ = some (.int .i64 C.l0) := (cell_blk q2.out 2).trans rfl
  have qc3 : w2.cell? ⟨w.heap.size, 3, none⟩ = some (.slice a0 C.w0.length c0) := (cell_blk q2.out 3).trans rfl
  have qc4 : w2.cell? ⟨w.heap.size, 4, none⟩ = some (.int .i64 C.l1) := (cell_blk q2.out 4).trans rfl
  have qc5 : w2.cell? ⟨w.heap.size, 5, none⟩ = some (.slice a1 C.w1.length c1) := (cell_blk q2.out 5).trans rfl
  have ql := blk_lt q2.out
  have sc0 : w2.cell? ⟨w.heap.size + 1, 0, none⟩ = some (.int .i64 S.part) := (cell_blk s2.out 0).trans rfl
  have sc1 : w2.cell? ⟨w.heap.size + 1, 1, none⟩ = some (.bool S.normal) := (cell_blk s2.out 1).trans rfl
  have sc2 : w2.cell? ⟨w.heap.size + 1, 2, none⟩ = some (.slice ma S.made.length mc) := (cell_blk s2.out 2).trans rfl
  have sc3 : w2.cell? ⟨w.heap.size + 1, 3, none⟩ = some (.slice va S.valid.length vc) := (cell_blk s2.out 3).trans rfl
  have sl := blk_lt s2.out
  have rc0 : w2.cell? ⟨w.heap.size + 1 + 1, 0, none⟩ = some (.int .i64 9) := (cell_blk r2.out 0).trans rfl
  have rc1 : w2.cell? ⟨w.heap.size + 1 + 1, 1, none⟩ = some (.int .i64 R.port) := (cell_blk r2.out 1).trans rfl
  have rc2 : w2.cell? ⟨w.heap.size + 1 + 1, 2, none⟩ = some (.int .u64 R.addr) := (cell_blk r2.out 2).trans rfl
  have rc3 : w2.cell? ⟨w.heap.size + 1 + 1, 3, none⟩ = some (.slice da R.data.length dc) := (cell_blk r2.out 3).trans rfl
  have rl := blk_lt r2.out
  go_wp2
  go_ret
  exact ⟨rfl, HB2.out⟩

theorem rref_in (cv sv rv : Value) (C : Cfg) (S : Std) (R : Rqt) (hsm : C.small) (hm : S.made.length ≤ 100) (hd : R.data.length ≤ 100) (ha : accB C = true) (hp0 : 0 ≤ S.part) (hp1 : S.part < (C.parts.length : Int)) (ho : 1 ≤ R.op ∧ R.op ≤ 9) (w : World) (hc : CfgAt w cv C) (hs : StdAt w sv S) (hr : RqtAt w rv R) : Calls Tryd.prog 15 #[cv, sv, rv] w fun e w' => e = .returned (.int .i64 (docV (askV C S R))) ∧ Below w.heap.size w w' := by
  have h9 : R.op = 1 ∨ R.op = 2 ∨ R.op = 3 ∨ R.op = 4 ∨ R.op = 5 ∨ R.op = 6 ∨ R.op = 7 ∨ R.op = 8 ∨ R.op = 9 := by omega
  rcases h9 with hop | hop | hop | hop | hop | hop | hop | hop | hop
  · have hd1 : docV (askV C S R) = (if !(askV C S R).own then 4 else if (askV C S R).made then 1 else if (askV C S R).normal then 5 else 0) := if_pos hop
    cases hi : (portV C R.port).is with
    | false =>
      rw [show docV (askV C S R) = 4 by rw [hd1, askV_nis C S R hi]; rfl]
      exact rref_1nis cv sv rv C S R hsm hm hd ha hp0 hp1 hop hi w hc hs hr
    | true =>
      obtain ⟨k0, hk0, pp, src, hpv, hcx⟩ := portV_is C R.port hi
      have hd2 : docV (askV C S R) = (if !(pp == S.part) then 4 else if S.made.contains R.port then 1 else if S.normal then 5 else 0) := by rw [hd1, askV_is C S R k0 pp src _ hpv hcx]; rfl
      by_cases hp : pp = S.part
      · have hob : (pp == S.part) = true := by simpa using hp
        cases hmd : S.made.contains R.port with
        | true =>
          rw [show docV (askV C S R) = 1 by rw [hd2, if_neg (by rw [hob]; decide), if_pos hmd]]
          exact rref_1made cv sv rv C S R hsm hm hd ha hp0 hp1 hop k0 hk0 pp src hpv hp hmd w hc hs hr
        | false =>
          cases hn : S.normal with
          | true =>
            rw [show docV (askV C S R) = 5 by rw [hd2, if_neg (by rw [hob]; decide), if_neg (by rw [hmd]; decide), if_pos hn]]
            exact rref_1ntrue cv sv rv C S R hsm hm hd ha hp0 hp1 hop k0 hk0 pp src hpv hp hmd hn w hc hs hr
          | false =>
            rw [show docV (askV C S R) = 0 by rw [hd2, if_neg (by rw [hob]; decide), if_neg (by rw [hmd]; decide), if_neg (by rw [hn]; decide)]]
            exact rref_1nfalse cv sv rv C S R hsm hm hd ha hp0 hp1 hop k0 hk0 pp src hpv hp hmd hn w hc hs hr
      · have hob : (pp == S.part) = false := by simpa using hp
        rw [show docV (askV C S R) = 4 by rw [hd2, if_pos (by rw [hob]; rfl)]]
        exact rref_1part cv sv rv C S R hsm hm hd ha hp0 hp1 hop k0 hk0 pp src hpv hp w hc hs hr
  · have hd1 : docV (askV C S R) = (if S.normal then 5 else 0) := by
      rw [docV, if_neg (by show ¬ R.op = 1; omega), if_pos (show (askV C S R).op = 2 from hop)]; rfl
    cases hn : S.normal with
    | true =>
      rw [hd1, if_pos hn]
      exact rref_2ntrue cv sv rv C S R hsm hm hd ha hp0 hp1 hop hn w hc hs hr
    | false =>
      rw [hd1, if_neg (by rw [hn]; decide)]
      exact rref_2nfalse cv sv rv C S R hsm hm hd ha hp0 hp1 hop hn w hc hs hr
  · rw [show docV (askV C S R) = talkV (askV C S R) by rw [docV, if_neg (by show ¬ R.op = 1; omega), if_neg (by show ¬ R.op = 2; omega), if_pos (by show 3 ≤ R.op ∧ R.op ≤ 7; omega)]]
    exact rref_3 cv sv rv C S R hsm hm hd ha hp0 hp1 hop _ rfl w hc hs hr
  · rw [show docV (askV C S R) = talkV (askV C S R) by rw [docV, if_neg (by show ¬ R.op = 1; omega), if_neg (by show ¬ R.op = 2; omega), if_pos (by show 3 ≤ R.op ∧ R.op ≤ 7; omega)]]
    exact rref_4 cv sv rv C S R hsm hm hd ha hp0 hp1 hop _ rfl w hc hs hr
  · rw [show docV (askV C S R) = talkV (askV C S R) by rw [docV, if_neg (by show ¬ R.op = 1; omega), if_neg (by show ¬ R.op = 2; omega), if_pos (by show 3 ≤ R.op ∧ R.op ≤ 7; omega)]]
    exact rref_5 cv sv rv C S R hsm hm hd ha hp0 hp1 hop _ rfl w hc hs hr
  · rw [show docV (askV C S R) = talkV (askV C S R) by rw [docV, if_neg (by show ¬ R.op = 1; omega), if_neg (by show ¬ R.op = 2; omega), if_pos (by show 3 ≤ R.op ∧ R.op ≤ 7; omega)]]
    exact rref_6 cv sv rv C S R hsm hm hd ha hp0 hp1 hop _ rfl w hc hs hr
  · rw [show docV (askV C S R) = talkV (askV C S R) by rw [docV, if_neg (by show ¬ R.op = 1; omega), if_neg (by show ¬ R.op = 2; omega), if_pos (by show 3 ≤ R.op ∧ R.op ≤ 7; omega)]]
    exact rref_7 cv sv rv C S R hsm hm hd ha hp0 hp1 hop _ rfl w hc hs hr
  · have hd1 : docV (askV C S R) = (if privA C S.part R.addr then 0 else 6) := by
      rw [docV, if_neg (by show ¬ R.op = 1; omega), if_neg (by show ¬ R.op = 2; omega), if_neg (by show ¬ (3 ≤ R.op ∧ R.op ≤ 7); omega), if_neg (by rw [decide_eq_false (by show ¬ R.op = 9; omega)]; simp)]; rfl
    cases hpr : privA C S.part R.addr with
    | true =>
      rw [hd1, if_pos hpr]
      exact rref_8true cv sv rv C S R hsm hm hd ha hp0 hp1 hop hpr w hc hs hr
    | false =>
      rw [hd1, if_neg (by rw [hpr]; decide)]
      exact rref_8false cv sv rv C S R hsm hm hd ha hp0 hp1 hop hpr w hc hs hr
  · by_cases hl : R.data.length = 1
    · have hd1 : docV (askV C S R) = (if privA C S.part R.addr then 0 else 6) := by
        rw [docV, if_neg (by show ¬ R.op = 1; omega), if_neg (by show ¬ R.op = 2; omega), if_neg (by show ¬ (3 ≤ R.op ∧ R.op ≤ 7); omega), if_neg (by rw [show (askV C S R).l1 = (R.data.length == 1) from rfl, hl]; simp)]; rfl
      cases hpr : privA C S.part R.addr with
      | true =>
        rw [hd1, if_pos hpr]
        exact rref_9true cv sv rv C S R hsm hm hd ha hp0 hp1 hop hl hpr w hc hs hr
      | false =>
        rw [hd1, if_neg (by rw [hpr]; decide)]
        exact rref_9false cv sv rv C S R hsm hm hd ha hp0 hp1 hop hl hpr w hc hs hr
    · have hlf : (R.data.length == 1) = false := by simpa using hl
      have hd1 : docV (askV C S R) = 3 := by
        rw [docV, if_neg (by show ¬ R.op = 1; omega), if_neg (by show ¬ R.op = 2; omega), if_neg (by show ¬ (3 ≤ R.op ∧ R.op ≤ 7); omega), if_pos (by rw [show (askV C S R).l1 = (R.data.length == 1) from rfl, hlf, decide_eq_true (show (askV C S R).op = 9 from hop)]; rfl)]
      rw [hd1]
      exact rref_9len cv sv rv C S R hsm hm hd ha hp0 hp1 hop hl w hc hs hr
theorem rrefused_any (cv sv rv : Value) (C : Cfg) (S : Std) (R : Rqt) (hsm : C.small) (hm : S.made.length ≤ 100) (hd : R.data.length ≤ 100) (w : World) (hc : CfgAt w cv C) (hs : StdAt w sv S) (hr : RqtAt w rv R) : Calls Tryd.prog 15 #[cv, sv, rv] w fun e w' => e = .returned (.int .i64 (refV C S R)) ∧ Below w.heap.size w w' := by
  cases ha : accB C with
  | false =>
    rw [refV_no C S R (by rw [ha]; simp)]
    exact rref_acc cv sv rv C S R hsm hm hd ha w hc hs hr
  | true =>
    by_cases h0 : S.part < 0
    · rw [refV_no C S R (by omega)]
      exact rref_neg cv sv rv C S R hsm hm hd ha h0 w hc hs hr
    · by_cases h1 : (C.parts.length : Int) ≤ S.part
      · rw [refV_no C S R (by omega)]
        exact rref_big cv sv rv C S R hsm hm hd ha (by omega) h1 w hc hs hr
      · by_cases ho : 1 ≤ R.op ∧ R.op ≤ 9
        · rw [refV_yes C S R ⟨ha, by omega, by omega⟩ ho, docV_first _ ho.1 ho.2]
          exact rref_in cv sv rv C S R hsm hm hd ha (by omega) (by omega) ho w hc hs hr
        · rw [refV_op C S R ⟨ha, by omega, by omega⟩ ho]
          exact rref_none cv sv rv C S R hsm hm hd ha (by omega) (by omega) ho w hc hs hr
end Go.Proofs.YtdajadfgiifioaaDoor

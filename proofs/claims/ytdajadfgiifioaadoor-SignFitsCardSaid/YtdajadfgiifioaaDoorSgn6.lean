/- Contract of sign.Refused. -/
import Derived.Test.YtdajadfgiifioaaDoorSgn5
import Derived.Test.YtdajadfgiifioaaDoorRg
namespace Go.Proofs.YtdajadfgiifioaaDoor
open Go.RowKit
set_option linter.unusedSimpArgs false
set_option linter.unusedVariables false

theorem refV_no (C : Cfg) (S : Std) (R : Rqt) (h : ¬ (accB C = true ∧ 0 ≤ S.part ∧ S.part < C.parts.length)) : refV C S R = 4 := if_neg h
theorem refV_op (C : Cfg) (S : Std) (R : Rqt) (h : accB C = true ∧ 0 ≤ S.part ∧ S.part < C.parts.length) (ho : ¬ (1 ≤ R.op ∧ R.op ≤ 9)) : refV C S R = 3 := by rw [refV, if_pos h, if_neg ho]
theorem refV_yes (C : Cfg) (S : Std) (R : Rqt) (h : accB C = true ∧ 0 ≤ S.part ∧ S.part < C.parts.length) (ho : 1 ≤ R.op ∧ R.op ≤ 9) : refV C S R = (firstR (askV C S R) 13).getD 0 := by rw [refV, if_pos h, if_pos ho]
theorem nameV_some (op : Int) (h1 : 1 ≤ op) (h9 : op ≤ 9) : (nameV op).toList.isEmpty = false := by
  have h : op = 1 ∨ op = 2 ∨ op = 3 ∨ op = 4 ∨ op = 5 ∨ op = 6 ∨ op = 7 ∨ op = 8 ∨ op = 9 := by omega
  rcases h with rfl | rfl | rfl | rfl | rfl | rfl | rfl | rfl | rfl <;> decide +kernel
theorem nameV_none (op : Int) (h : ¬ (1 ≤ op ∧ op ≤ 9)) : (nameV op).toList.isEmpty = true := by
  rw [nameV_out op h]
  decide +kernel
theorem portV_nis (C : Cfg) (p : Int) (h : (portV C p).is = false) : portV C p = ⟨0, 0, false, false⟩ := by
  by_cases hb : portB C p = true
  · rw [portV, if_pos hb] at h
    split at h <;> cases h
  · exact portV_no C p (by simpa using hb)
theorem portV_is (C : Cfg) (p : Int) (h : (portV C p).is = true) : ∃ (k : Nat) (hk : k < C.chans.length) (q : Int) (b : Bool), portV C p = ⟨k, q, b, true⟩ ∧ chnAt C k = C.chans[k] := by
  by_cases hb : portB C p = true
  · obtain ⟨ha, h0, h2⟩ : accB C = true ∧ 0 ≤ p ∧ p < 2 * (C.chans.length : Int) := by simpa [portB] using hb
    obtain ⟨n, rfl⟩ := Int.eq_ofNat_of_zero_le h0
    have hc : ∀ k : Nat, (hk : k < C.chans.length) → chnAt C k = C.chans[k] := fun k hk => by rw [chnAt, Int.toNat_natCast, List.getD_eq_getElem?_getD, List.getElem?_eq_getElem hk]; rfl
    obtain ⟨k, rfl | rfl⟩ : ∃ k, n = 2 * k ∨ n = 2 * k + 1 := ⟨n / 2, by omega⟩
    · exact ⟨k, by omega, _, _, portV_even C k ha (by omega), hc k _⟩
    · exact ⟨k, by omega, _, _, portV_odd C k ha (by omega), hc k _⟩
  · rw [portV_no C p (by simpa using hb)] at h
    cases h

set_option maxRecDepth 100000 in
set_option maxHeartbeats 8000000 in
theorem refused_acc (cv sv rv : Value) (C : Cfg) (S : Std) (R : Rqt) (hsm : C.small) (hm : S.made.length ≤ 100) (hd : R.data.length ≤ 100) (ha : accB C = false) (w : World) (hN : NamesAt w) (hc : CfgAt w cv C) (hs : StdAt w sv S) (hr : RqtAt w rv R) : Calls Tryd.prog 14 #[cv, sv, rv] w fun e w' => e = .returned (.int .i64 (refV C S R)) ∧ Below w.heap.size w w' := by
  have HN := Kp.mk hN
  clear hN
  have HV := Kp.mk (refV_no C S R (by rw [ha]; simp))
  have HA : Kp ((firstB C == 0) = false) := ⟨(accB_first C).trans ha⟩
  clear ha
  have HC := Kp.mk hc
  have HS := Kp.mk hs
  have HR := Kp.mk hr
  obtain ⟨_, pa, pc, ca, cc, a0, c0, a1, c1, rfl, bp, bc, b0, b1, gp, gc, gw0, gw1⟩ := hc
  obtain ⟨_, ma, mc, va, vc, rfl, bm, bv, gm, gv⟩ := hs
  obtain ⟨ir, da, dc, rfl, bd, gd⟩ := hr
  clear gp gw0 gw1 gm gv gd bp b0 b1
  go_enter Tryd.func14, Tryd.ntmps14
  have HB0 : Kp (Below w.heap.size w w) := ⟨Below.refl _ _⟩
  go_wp2_with fail
  refine (accepts_any _ C hsm _ (HC.out.below (below_al (below_al (below_al HB0.out _) _) _))).mono ?_
  rw [HA.out]
  rintro e w1 ⟨rfl, hb⟩
  have q1 : Kp (w1.heap[w.heap.size]? = some (.cells #[.slice pa C.parts.length pc, .slice ca C.chans.length cc, .int .i64 C.l0, .slice a0 C.w0.length c0, .int .i64 C.l1, .slice a1 C.w1.length c1] 29 (0, 0))) := ⟨blk_below (blk_al (blk_al (blk_new _ _) _) _) hb⟩
  have s1 : Kp (w1.heap[w.heap.size + 1]? = some (.cells #[.int .i64 S.part, .bool S.normal, .slice ma S.made.length mc, .slice va S.valid.length vc] 40 (0, 0))) := ⟨blk_below (blk_al (blk_at (w := (w.alloc (.cells #[.slice pa C.parts.length pc, .slice ca C.chans.length cc, .int .i64 C.l0, .slice a0 C.w0.length c0, .int .i64 C.l1, .slice a1 C.w1.length c1] 29))) (by simp) _) _) hb⟩
  have r1 : Kp (w1.heap[w.heap.size + 1 + 1]? = some (.cells #[.int .i64 R.op, .int .i64 R.port, .int .u64 R.addr, .slice da R.data.length dc] 44 (0, 0))) := ⟨blk_below (blk_at (w := ((w.alloc (.cells #[.slice pa C.parts.length pc, .slice ca C.chans.length cc, .int .i64 C.l0, .slice a0 C.w0.length c0, .int .i64 C.l1, .slice a1 C.w1.length c1] 29)).alloc (.cells #[.int .i64 S.part, .bool S.normal, .slice ma S.made.length mc, .slice va S.valid.length vc] 40))) (by simp) _) hb⟩
  have HB1 : Kp (Below w.heap.size w w1) := ⟨below_call (below_al (below_al (below_al HB0.out _) _) _) hb⟩
  clear HB0 hb
  have qc0 : w1.cell? ⟨w.heap.size, 0, none⟩ = some (.slice pa C.parts.length pc) := (cell_blk q1.out 0).trans rfl
  have qc1 : w1.cell? ⟨w.heap.size, 1, none⟩ = some (.slice ca C.chans.length cc) := (cell_blk q1.out 1).trans rfl
  have qc2 : w1.cell? ⟨w.heap.size, 2, none⟩ = some (.int .i64 C.l0) := (cell_blk q1.out 2).trans rfl
  have qc3 : w1.cell? ⟨w.heap.size, 3, none⟩ = some (.slice a0 C.w0.length c0) := (cell_blk q1.out 3).trans rfl
  have qc4 : w1.cell? ⟨w.heap.size, 4, none⟩ = some (.int .i64 C.l1) := (cell_blk q1.out 4).trans rfl
  have qc5 : w1.cell? ⟨w.heap.size, 5, none⟩ = some (.slice a1 C.w1.length c1) := (cell_blk q1.out 5).trans rfl
  have ql := blk_lt q1.out
  have sc0 : w1.cell? ⟨w.heap.size + 1, 0, none⟩ = some (.int .i64 S.part) := (cell_blk s1.out 0).trans rfl
  have sc1 : w1.cell? ⟨w.heap.size + 1, 1, none⟩ = some (.bool S.normal) := (cell_blk s1.out 1).trans rfl
  have sc2 : w1.cell? ⟨w.heap.size + 1, 2, none⟩ = some (.slice ma S.made.length mc) := (cell_blk s1.out 2).trans rfl
  have sc3 : w1.cell? ⟨w.heap.size + 1, 3, none⟩ = some (.slice va S.valid.length vc) := (cell_blk s1.out 3).trans rfl
  have sl := blk_lt s1.out
  have rc0 : w1.cell? ⟨w.heap.size + 1 + 1, 0, none⟩ = some (.int .i64 R.op) := (cell_blk r1.out 0).trans rfl
  have rc1 : w1.cell? ⟨w.heap.size + 1 + 1, 1, none⟩ = some (.int .i64 R.port) := (cell_blk r1.out 1).trans rfl
  have rc2 : w1.cell? ⟨w.heap.size + 1 + 1, 2, none⟩ = some (.int .u64 R.addr) := (cell_blk r1.out 2).trans rfl
  have rc3 : w1.cell? ⟨w.heap.size + 1 + 1, 3, none⟩ = some (.slice da R.data.length dc) := (cell_blk r1.out 3).trans rfl
  have rl := blk_lt r1.out
  go_wp2
  go_ret
  exact ⟨by rw [HV.out]; rfl, HB1.out⟩

set_option maxRecDepth 100000 in
set_option maxHeartbeats 8000000 in
theorem refused_neg (cv sv rv : Value) (C : Cfg) (S : Std) (R : Rqt) (hsm : C.small) (hm : S.made.length ≤ 100) (hd : R.data.length ≤ 100) (ha : accB C = true) (hp : S.part < 0) (w : World) (hN : NamesAt w) (hc : CfgAt w cv C) (hs : StdAt w sv S) (hr : RqtAt w rv R) : Calls Tryd.prog 14 #[cv, sv, rv] w fun e w' => e = .returned (.int .i64 (refV C S R)) ∧ Below w.heap.size w w' := by
  have HN := Kp.mk hN
  clear hN
  have HV := Kp.mk (refV_no C S R (by omega))
  have HA : Kp ((firstB C == 0) = true) := ⟨(accB_first C).trans ha⟩
  clear ha
  have HC := Kp.mk hc
  have HS := Kp.mk hs
  have HR := Kp.mk hr
  obtain ⟨_, pa, pc, ca, cc, a0, c0, a1, c1, rfl, bp, bc, b0, b1, gp, gc, gw0, gw1⟩ := hc
  obtain ⟨_, ma, mc, va, vc, rfl, bm, bv, gm, gv⟩ := hs
  obtain ⟨ir, da, dc, rfl, bd, gd⟩ := hr
  clear gp gw0 gw1 gm gv gd bp b0 b1
  go_enter Tryd.func14, Tryd.ntmps14
  have HB0 : Kp (Below w.heap.size w w) := ⟨Below.refl _ _⟩
  go_wp2_with fail
  refine (accepts_any _ C hsm _ (HC.out.below (below_al (below_al (below_al HB0.out _) _) _))).mono ?_
  rw [HA.out]
  rintro e w1 ⟨rfl, hb⟩
  have q1 : Kp (w1.heap[w.heap.size]? = some (.cells #[.slice pa C.parts.length pc, .slice ca C.chans.length cc, .int .i64 C.l0, .slice a0 C.w0.length c0, .int .i64 C.l1, .slice a1 C.w1.length c1] 29 (0, 0))) := ⟨blk_below (blk_al (blk_al (blk_new _ _) _) _) hb⟩
  have s1 : Kp (w1.heap[w.heap.size + 1]? = some (.cells #[.int .i64 S.part, .bool S.normal, .slice ma S.made.length mc, .slice va S.valid.length vc] 40 (0, 0))) := ⟨blk_below (blk_al (blk_at (w := (w.alloc (.cells #[.slice pa C.parts.length pc, .slice ca C.chans.length cc, .int .i64 C.l0, .slice a0 C.w0.length c0, .int .i64 C.l1, .slice a1 C.w1.length c1] 29))) (by simp) _) _) hb⟩
  have r1 : Kp (w1.heap[w.heap.size + 1 + 1]? = some (.cells #[.int .i64 R.op, .int .i64 R.port, .int .u64 R.addr, .slice da R.data.length dc] 44 (0, 0))) := ⟨blk_below (blk_at (w := ((w.alloc (.cells #[.slice pa C.parts.length pc, .slice ca C.chans.length cc, .int .i64 C.l0, .slice a0 C.w0.length c0, .int .i64 C.l1, .slice a1 C.w1.length c1] 29)).alloc (.cells #[.int .i64 S.part, .bool S.normal, .slice ma S.made.length mc, .slice va S.valid.length vc] 40))) (by simp) _) hb⟩
  have HB1 : Kp (Below w.heap.size w w1) := ⟨below_call (below_al (below_al (below_al HB0.out _) _) _) hb⟩
  clear HB0 hb
  have qc0 : w1.cell? ⟨w.heap.size, 0, none⟩ = some (.slice pa C.parts.length pc) := (cell_blk q1.out 0).trans rfl
  have qc1 : w1.cell? ⟨w.heap.size, 1, none⟩ = some (.slice ca C.chans.length cc) := (cell_blk q1.out 1).trans rfl
  have qc2 : w1.cell? ⟨w.heap.size, 2, none⟩ = some (.int .i64 C.l0) := (cell_blk q1.out 2).trans rfl
  have qc3 : w1.cell? ⟨w.heap.size, 3, none⟩ = some (.slice a0 C.w0.length c0) := (cell_blk q1.out 3).trans rfl
  have qc4 : w1.cell? ⟨w.heap.size, 4, none⟩ = some (.int .i64 C.l1) := (cell_blk q1.out 4).trans rfl
  have qc5 : w1.cell? ⟨w.heap.size, 5, none⟩ = some (.slice a1 C.w1.length c1) := (cell_blk q1.out 5).trans rfl
  have ql := blk_lt q1.out
  have sc0 : w1.cell? ⟨w.heap.size + 1, 0, none⟩ = some (.int .i64 S.part) := (cell_blk s1.out 0).trans rfl
  have sc1 : w1.cell? ⟨w.heap.size + 1, 1, none⟩ = some (.bool S.normal) := (cell_blk s1.out 1).trans rfl
  have sc2 : w1.cell? ⟨w.heap.size + 1, 2, none⟩ = some (.slice ma S.made.length mc) := (cell_blk s1.out 2).trans rfl
  have sc3 : w1.cell? ⟨w.heap.size + 1, 3, none⟩ = some (.slice va S.valid.length vc) := (cell_blk s1.out 3).trans rfl
  have sl := blk_lt s1.out
  have rc0 : w1.cell? ⟨w.heap.size + 1 + 1, 0, none⟩ = some (.int .i64 R.op) := (cell_blk r1.out 0).trans rfl
  have rc1 : w1.cell? ⟨w.heap.size + 1 + 1, 1, none⟩ = some (.int .i64 R.port) := (cell_blk r1.out 1).trans rfl
  have rc2 : w1.cell? ⟨w.heap.size + 1 + 1, 2, none⟩ = some (.int .u64 R.addr) := (cell_blk r1.out 2).trans rfl
  have rc3 : w1.cell? ⟨w.heap.size + 1 + 1, 3, none⟩ = some (.slice da R.data.length dc) := (cell_blk r1.out 3).trans rfl
  have rl := blk_lt r1.out
  go_wp2
  go_ret
  exact ⟨by rw [HV.out]; rfl, HB1.out⟩

set_option maxRecDepth 100000 in
set_option maxHeartbeats 8000000 in
theorem refused_big (cv sv rv : Value) (C : Cfg) (S : Std) (R : Rqt) (hsm : C.small) (hm : S.made.length ≤ 100) (hd : R.data.length ≤ 100) (ha : accB C = true) (hp : (C.parts.length : Int) ≤ S.part) (w : World) (hN : NamesAt w) (hc : CfgAt w cv C) (hs : StdAt w sv S) (hr : RqtAt w rv R) : Calls Tryd.prog 14 #[cv, sv, rv] w fun e w' => e = .returned (.int .i64 (refV C S R)) ∧ Below w.heap.size w w' := by
  have HN := Kp.mk hN
  clear hN
  have HV := Kp.mk (refV_no C S R (by omega))
  have HA : Kp ((firstB C == 0) = true) := ⟨(accB_first C).trans ha⟩
  clear ha
  have HC := Kp.mk hc
  have HS := Kp.mk hs
  have HR := Kp.mk hr
  obtain ⟨_, pa, pc, ca, cc, a0, c0, a1, c1, rfl, bp, bc, b0, b1, gp, gc, gw0, gw1⟩ := hc
  obtain ⟨_, ma, mc, va, vc, rfl, bm, bv, gm, gv⟩ := hs
  obtain ⟨ir, da, dc, rfl, bd, gd⟩ := hr
  clear gp gw0 gw1 gm gv gd bp b0 b1
  have hp0 : 0 ≤ S.part := by omega
  go_enter Tryd.func14, Tryd.ntmps14
  have HB0 : Kp (Below w.heap.size w w) := ⟨Below.refl _ _⟩
  go_wp2_with fail
  refine (accepts_any _ C hsm _ (HC.out.below (below_al (below_al (below_al HB0.out _) _) _))).mono ?_
  rw [HA.out]
  rintro e w1 ⟨rfl, hb⟩
  have q1 : Kp (w1.heap[w.heap.size]? = some (.cells #[.slice pa C.parts.length pc, .slice ca C.chans.length cc, .int .i64 C.l0, .slice a0 C.w0.length c0, .int .i64 C.l1, .slice a1 C.w1.length c1] 29 (0, 0))) := ⟨blk_below (blk_al (blk_al (blk_new _ _) _) _) hb⟩
  have s1 : Kp (w1.heap[w.heap.size + 1]? = some (.cells #[.int .i64 S.part, .bool S.normal, .slice ma S.made.length mc, .slice va S.valid.length vc] 40 (0, 0))) := ⟨blk_below (blk_al (blk_at (w := (w.alloc (.cells #[.slice pa C.parts.length pc, .slice ca C.chans.length cc, .int .i64 C.l0, .slice a0 C.w0.length c0, .int .i64 C.l1, .slice a1 C.w1.length c1] 29))) (by simp) _) _) hb⟩
  have r1 : Kp (w1.heap[w.heap.size + 1 + 1]? = some (.cells #[.int .i64 R.op, .int .i64 R.port, .int .u64 R.addr, .slice da R.data.length dc] 44 (0, 0))) := ⟨blk_below (blk_at (w := ((w.alloc (.cells #[.slice pa C.parts.length pc, .slice ca C.chans.length cc, .int .i64 C.l0, .slice a0 C.w0.length c0, .int .i64 C.l1, .slice a1 C.w1.length c1] 29)).alloc (.cells #[.int .i64 S.part, .bool S.normal, .slice ma S.made.length mc, .slice va S.valid.length vc] 40))) (by simp) _) hb⟩
  have HB1 : Kp (Below w.heap.size w w1) := ⟨below_call (below_al (below_al (below_al HB0.out _) _) _) hb⟩
  clear HB0 hb
  have qc0 : w1.cell? ⟨w.heap.size, 0, none⟩ = some (.slice pa C.parts.length pc) := (cell_blk q1.out 0).trans rfl
  have qc1 : w1.cell? ⟨w.heap.size, 1, none⟩ = some (.slice ca C.chans.length cc) := (cell_blk q1.out 1).trans rfl
  have qc2 : w1.cell? ⟨w.heap.size, 2, none⟩ = some (.int .i64 C.l0) := (cell_blk q1.out 2).trans rfl
  have qc3 : w1.cell? ⟨w.heap.size, 3, none⟩ = some (.slice a0 C.w0.length c0) := (cell_blk q1.out 3).trans rfl
  have qc4 : w1.cell? ⟨w.heap.size, 4, none⟩ = some (.int .i64 C.l1) := (cell_blk q1.out 4).trans rfl
  have qc5 : w1.cell? ⟨w.heap.size, 5, none⟩ = some (.slice a1 C.w1.length c1) := (cell_blk q1.out 5).trans rfl
  have ql := blk_lt q1.out
  have sc0 : w1.cell? ⟨w.heap.size + 1, 0, none⟩ = some (.int .i64 S.part) := (cell_blk s1.out 0).trans rfl
  have sc1 : w1.cell? ⟨w.heap.size + 1, 1, none⟩ = some (.bool S.normal) := (cell_blk s1.out 1).trans rfl
  have sc2 : w1.cell? ⟨w.heap.size + 1, 2, none⟩ = some (.slice ma S.made.length mc) := (cell_blk s1.out 2).trans rfl
  have sc3 : w1.cell? ⟨w.heap.size + 1, 3, none⟩ = some (.slice va S.valid.length vc) := (cell_blk s1.out 3).trans rfl
  have sl := blk_lt s1.out
  have rc0 : w1.cell? ⟨w.heap.size + 1 + 1, 0, none⟩ = some (.int .i64 R.op) := (cell_blk r1.out 0).trans rfl
  have rc1 : w1.cell? ⟨w.heap.size + 1 + 1, 1, none⟩ = some (.int .i64 R.port) := (cell_blk r1.out 1).trans rfl
  have rc2 : w1.cell? ⟨w.heap.size + 1 + 1, 2, none⟩ = some (.int .u64 R.addr) := (cell_blk r1.out 2).trans rfl
  have rc3 : w1.cell? ⟨w.heap.size + 1 + 1, 3, none⟩ = some (.slice da R.data.length dc) := (cell_blk r1.out 3).trans rfl
  have rl := blk_lt r1.out
  go_wp2
  go_ret
  exact ⟨by rw [HV.out]; rfl, HB1.out⟩

set_option maxRecDepth 100000 in
set_option maxHeartbeats 8000000 in
theorem refused_op (cv sv rv : Value) (C : Cfg) (S : Std) (R : Rqt) (hsm : C.small) (hm : S.made.length ≤ 100) (hd : R.data.length ≤ 100) (ha : accB C = true) (hp0 : 0 ≤ S.part) (hp1 : S.part < (C.parts.length : Int)) (ho : ¬ (1 ≤ R.op ∧ R.op ≤ 9)) (w : World) (hN : NamesAt w) (hc : CfgAt w cv C) (hs : StdAt w sv S) (hr : RqtAt w rv R) : Calls Tryd.prog 14 #[cv, sv, rv] w fun e w' => e = .returned (.int .i64 (refV C S R)) ∧ Below w.heap.size w w' := by
  have HN := Kp.mk hN
  clear hN
  have HV := Kp.mk (refV_op C S R ⟨ha, hp0, hp1⟩ ho)
  have HO := Kp.mk (nameV_none R.op ho)
  have HA : Kp ((firstB C == 0) = true) := ⟨(accB_first C).trans ha⟩
  obtain ⟨nm, hnm⟩ : ∃ nm, nameV R.op = nm := ⟨_, rfl⟩
  rw [hnm] at HO
  have HNM := Kp.mk hnm
  clear ha ho hnm
  have HC := Kp.mk hc
  have HS := Kp.mk hs
  have HR := Kp.mk hr
  obtain ⟨_, pa, pc, ca, cc, a0, c0, a1, c1, rfl, bp, bc, b0, b1, gp, gc, gw0, gw1⟩ := hc
  obtain ⟨_, ma, mc, va, vc, rfl, bm, bv, gm, gv⟩ := hs
  obtain ⟨ir, da, dc, rfl, bd, gd⟩ := hr
  clear gp gw0 gw1 gm gv gd bp b0 b1
  go_enter Tryd.func14, Tryd.ntmps14
  have HB0 : Kp (Below w.heap.size w w) := ⟨Below.refl _ _⟩
  go_wp2_with fail
  refine (accepts_any _ C hsm _ (HC.out.below (below_al (below_al (below_al HB0.out _) _) _))).mono ?_
  rw [HA.out]
  rintro e w1 ⟨rfl, hb⟩
  have q1 : Kp (w1.heap[w.heap.size]? = some (.cells #[.slice pa C.parts.length pc, .slice ca C.chans.length cc, .int .i64 C.l0, .slice a0 C.w0.length c0, .int .i64 C.l1, .slice a1 C.w1.length c1] 29 (0, 0))) := ⟨blk_below (blk_al (blk_al (blk_new _ _) _) _) hb⟩
  have s1 : Kp (w1.heap[w.heap.size + 1]? = some (.cells #[.int .i64 S.part, .bool S.normal, .slice ma S.made.length mc, .slice va S.valid.length vc] 40 (0, 0))) := ⟨blk_below (blk_al (blk_at (w := (w.alloc (.cells #[.slice pa C.parts.length pc, .slice ca C.chans.length cc, .int .i64 C.l0, .slice a0 C.w0.length c0, .int .i64 C.l1, .slice a1 C.w1.length c1] 29))) (by simp) _) _) hb⟩
  have r1 : Kp (w1.heap[w.heap.size + 1 + 1]? = some (.cells #[.int .i64 R.op, .int .i64 R.port, .int .u64 R.addr, .slice da R.data.length dc] 44 (0, 0))) := ⟨blk_below (blk_at (w := ((w.alloc (.cells #[.slice pa C.parts.length pc, .slice ca C.chans.length cc, .int .i64 C.l0, .slice a0 C.w0.length c0, .int .i64 C.l1, .slice a1 C.w1.length c1] 29)).alloc (.cells #[.int .i64 S.part, .bool S.normal, .slice ma S.made.length mc, .slice va S.valid.length vc] 40))) (by simp) _) hb⟩
  have HB1 : Kp (Below w.heap.size w w1) := ⟨below_call (below_al (below_al (below_al HB0.out _) _) _) hb⟩
  clear HB0 hb
  have qc0 : w1.cell? ⟨w.heap.size, 0, none⟩ = some (.slice pa C.parts.length pc) := (cell_blk q1.out 0).trans rfl
  have qc1 : w1.cell? ⟨w.heap.size, 1, none⟩ = some (.slice ca C.chans.length cc) := (cell_blk q1.out 1).trans rfl
  have qc2 : w1.cell? ⟨w.heap.size, 2, none⟩ = some (.int .i64 C.l0) := (cell_blk q1.out 2).trans rfl
  have qc3 : w1.cell? ⟨w.heap.size, 3, none⟩ = some (.slice a0 C.w0.length c0) := (cell_blk q1.out 3).trans rfl
  have qc4 : w1.cell? ⟨w.heap.size, 4, none⟩ = some (.int .i64 C.l1) := (cell_blk q1.out 4).trans rfl
  have qc5 : w1.cell? ⟨w.heap.size, 5, none⟩ = some (.slice a1 C.w1.length c1) := (cell_blk q1.out 5).trans rfl
  have ql := blk_lt q1.out
  have sc0 : w1.cell? ⟨w.heap.size + 1, 0, none⟩ = some (.int .i64 S.part) := (cell_blk s1.out 0).trans rfl
  have sc1 : w1.cell? ⟨w.heap.size + 1, 1, none⟩ = some (.bool S.normal) := (cell_blk s1.out 1).trans rfl
  have sc2 : w1.cell? ⟨w.heap.size + 1, 2, none⟩ = some (.slice ma S.made.length mc) := (cell_blk s1.out 2).trans rfl
  have sc3 : w1.cell? ⟨w.heap.size + 1, 3, none⟩ = some (.slice va S.valid.length vc) := (cell_blk s1.out 3).trans rfl
  have sl := blk_lt s1.out
  have rc0 : w1.cell? ⟨w.heap.size + 1 + 1, 0, none⟩ = some (.int .i64 R.op) := (cell_blk r1.out 0).trans rfl
  have rc1 : w1.cell? ⟨w.heap.size + 1 + 1, 1, none⟩ = some (.int .i64 R.port) := (cell_blk r1.out 1).trans rfl
  have rc2 : w1.cell? ⟨w.heap.size + 1 + 1, 2, none⟩ = some (.int .u64 R.addr) := (cell_blk r1.out 2).trans rfl
  have rc3 : w1.cell? ⟨w.heap.size + 1 + 1, 3, none⟩ = some (.slice da R.data.length dc) := (cell_blk r1.out 3).trans rfl
  have rl := blk_lt r1.out
  go_wp2_with fail
  refine (name_any R.op _ (HN.out.below HB1.out)).mono ?_
  rw [HNM.out]
  rintro e w2 ⟨rfl, hb⟩
  have q2 : Kp (w2.heap[w.heap.size]? = some (.cells #[.slice pa C.parts.length pc, .slice ca C.chans.length cc, .int .i64 C.l0, .slice a0 C.w0.length c0, .int .i64 C.l1, .slice a1 C.w1.length c1] 29 (0, 0))) := ⟨blk_below q1.out hb⟩
  have s2 : Kp (w2.heap[w.heap.size + 1]? = some (.cells #[.int .i64 S.part, .bool S.normal, .slice ma S.made.length mc, .slice va S.valid.length vc] 40 (0, 0))) := ⟨blk_below s1.out hb⟩
  have r2 : Kp (w2.heap[w.heap.size + 1 + 1]? = some (.cells #[.int .i64 R.op, .int .i64 R.port, .int .u64 R.addr, .slice da R.data.length dc] 44 (0, 0))) := ⟨blk_below r1.out hb⟩
  have HB2 : Kp (Below w.heap.size w w2) := ⟨below_call HB1.out hb⟩
  clear qc0 qc1 qc2 qc3 qc4 qc5 ql sc0 sc1 sc2 sc3 sl rc0 rc1 rc2 rc3 rl q1 s1 r1 HB1 hb
  have qc0 : w2.cell? ⟨w.heap.size, 0, none⟩ = some (.slice pa C.parts.length pc) := (cell_blk q2.out 0).trans rfl
  have qc1 : w2.cell? ⟨w.heap.size, 1, none⟩ = some (.slice ca C.chans.length cc) := (cell_blk q2.out 1).trans rfl
  have qc2 : w2.cell? ⟨w.heap.size, 2, none⟩ = some (.int .i64 C.l0) := (cell_blk q2.out 2).trans rfl
  have qc3 : w2.cell? ⟨w.heap.size, 3, none⟩ = some (.slice a0 C.w0.length c0) := (cell_blk q2.out 3).trans rfl
  have qc4 : w2.cell? ⟨w.heap.size, 4, none⟩ = some (.int .i64 C.l1) := (cell_blk q2.out 4).trans rfl
  have qc5 : w2.cell? ⟨w.heap.size, 5, none⟩ = some (.slice a1 C.w1.length c1) := (cell_blk q2.out 5).trans rfl
  have ql := blk_lt q2.out
  have sc0 : w2.cell? ⟨w.heap.size + 1, 0, none⟩ = some (.int .i64 S.part) := (cell_blk s2.out 0).trans rfl
  have sc1 : w2.cell? ⟨w.heap.size + 1, 1, none⟩ = some (.bool S.normal) := (cell_blk s2.out 1).trans rfl
  have sc2 : w2.cell? ⟨w.heap.size + 1, 2, none⟩ = some (.slice ma S.made.length mc) := (cell_blk s2.out 2).trans rfl
  have sc3 : w2.cell? ⟨w.heap.size + 1, 3, none⟩ = some (.slice va S.valid.length vc) := (cell_blk s2.out 3).trans rfl
  have sl := blk_lt s2.out
  have rc0 : w2.cell? ⟨w.heap.size + 1 + 1, 0, none⟩ = some (.int .i64 R.op) := (cell_blk r2.out 0).trans rfl
  have rc1 : w2.cell? ⟨w.heap.size + 1 + 1, 1, none⟩ = some (.int .i64 R.port) := (cell_blk r2.out 1).trans rfl
  have rc2 : w2.cell? ⟨w.heap.size + 1 + 1, 2, none⟩ = some (.int .u64 R.addr) := (cell_blk r2.out 2).trans rfl
  have rc3 : w2.cell? ⟨w.heap.size + 1 + 1, 3, none⟩ = some (.slice da R.data.length dc) := (cell_blk r2.out 3).trans rfl
  have rl := blk_lt r2.out
  have ho := HO.out
  go_wp2
  go_ret
  exact ⟨by rw [HV.out]; rfl, HB2.out⟩

set_option maxRecDepth 100000 in
set_option maxHeartbeats 8000000 in
theorem refused_none (cv sv rv : Value) (C : Cfg) (S : Std) (R : Rqt) (hsm : C.small) (hm : S.made.length ≤ 100) (hd : R.data.length ≤ 100) (ha : accB C = true) (hp0 : 0 ≤ S.part) (hp1 : S.part < (C.parts.length : Int)) (ho : 1 ≤ R.op ∧ R.op ≤ 9) (hi : (portV C R.port).is = false) (w : World) (hN : NamesAt w) (hc : CfgAt w cv C) (hs : StdAt w sv S) (hr : RqtAt w rv R) : Calls Tryd.prog 14 #[cv, sv, rv] w fun e w' => e = .returned (.int .i64 (refV C S R)) ∧ Below w.heap.size w w' := by
  have HN := Kp.mk hN
  clear hN
  have hpv := portV_nis C R.port hi
  have HV : Kp (refV C S R = (firstR (askD C S R default false false) 13).getD 0) := ⟨by
    rw [refV_yes C S R ⟨ha, hp0, hp1⟩ ho, askV, hpv]; rfl⟩
  have HPV := Kp.mk hpv
  clear hpv hi
  have HO := Kp.mk (nameV_some R.op ho.1 ho.2)
  have HA : Kp ((firstB C == 0) = true) := ⟨(accB_first C).trans ha⟩
  obtain ⟨nm, hnm⟩ : ∃ nm, nameV R.op = nm := ⟨_, rfl⟩
  rw [hnm] at HO
  have HNM := Kp.mk hnm
  obtain ⟨dg, hdg⟩ : ∃ dg, 48 + R.op = dg := ⟨_, rfl⟩
  have HDG := Kp.mk hdg
  have hw1 : IntKind.i64.wrap (48 + R.op) = dg := (IntWalk.i64_in _ (by omega)).trans hdg
  have hw2 : IntKind.u8.wrap dg = dg := IntWalk.u8_in _ (by omega)
  clear ha hnm hdg
  have HC := Kp.mk hc
  have HS := Kp.mk hs
  have HR := Kp.mk hr
  obtain ⟨_, pa, pc, ca, cc, a0, c0, a1, c1, rfl, bp, bc, b0, b1, gp, gc, gw0, gw1⟩ := hc
  obtain ⟨_, ma, mc, va, vc, rfl, bm, bv, gm, gv⟩ := hs
  obtain ⟨ir, da, dc, rfl, bd, gd⟩ := hr
  clear gp gw0 gw1 gm gv gd bp b0 b1
  go_enter Tryd.func14, Tryd.ntmps14
  have HB0 : Kp (Below w.heap.size w w) := ⟨Below.refl _ _⟩
  go_wp2_with fail
  refine (accepts_any _ C hsm _ (HC.out.below (below_al (below_al (below_al HB0.out _) _) _))).mono ?_
  rw [HA.out]
  rintro e w1 ⟨rfl, hb⟩
  have q1 : Kp (w1.heap[w.heap.size]? = some (.cells #[.slice pa C.parts.length pc, .slice ca C.chans.length cc, .int .i64 C.l0, .slice a0 C.w0.length c0, .int .i64 C.l1, .slice a1 C.w1.length c1] 29 (0, 0))) := ⟨blk_below (blk_al (blk_al (blk_new _ _) _) _) hb⟩
  have s1 : Kp (w1.heap[w.heap.size + 1]? = some (.cells #[.int .i64 S.part, .bool S.normal, .slice ma S.made.length mc, .slice va S.valid.length vc] 40 (0, 0))) := ⟨blk_below (blk_al (blk_at (w := (w.alloc (.cells #[.slice pa C.parts.length pc, .slice ca C.chans.length cc, .int .i64 C.l0, .slice a0 C.w0.length c0, .int .i64 C.l1, .slice a1 C.w1.length c1] 29))) (by simp) _) _) hb⟩
  have r1 : Kp (w1.heap[w.heap.size + 1 + 1]? = some (.cells #[.int .i64 R.op, .int .i64 R.port, .int .u64 R.addr, .slice da R.data.length dc] 44 (0, 0))) := ⟨blk_below (blk_at (w := ((w.alloc (.cells #[.slice pa C.parts.length pc, .slice ca C.chans.length cc, .int .i64 C.l0, .slice a0 C.w0.length c0, .int .i64 C.l1, .slice a1 C.w1.length c1] 29)).alloc (.cells #[.int .i64 S.part, .bool S.normal, .slice ma S.made.length mc, .slice va S.valid.length vc] 40))) (by simp) _) hb⟩
  have HB1 : Kp (Below w.heap.size w w1) := ⟨below_call (below_al (below_al (below_al HB0.out _) _) _) hb⟩
  clear HB0 hb
  have qc0 : w1.cell? ⟨w.heap.size, 0, none⟩ = some (.slice pa C.parts.length pc) := (cell_blk q1.out 0).trans rfl
  have qc1 : w1.cell? ⟨w.heap.size, 1, none⟩ = some (.slice ca C.chans.length cc) := (cell_blk q1.out 1).trans rfl
  have qc2 : w1.cell? ⟨w.heap.size, 2, none⟩ = some (.int .i64 C.l0) := (cell_blk q1.out 2).trans rfl
  have qc3 : w1.cell? ⟨w.heap.size, 3, none⟩ = some (.slice a0 C.w0.length c0) := (cell_blk q1.out 3).trans rfl
  have qc4 : w1.cell? ⟨w.heap.size, 4, none⟩ = some (.int .i64 C.l1) := (cell_blk q1.out 4).trans rfl
  have qc5 : w1.cell? ⟨w.heap.size, 5, none⟩ = some (.slice a1 C.w1.length c1) := (cell_blk q1.out 5).trans rfl
  have ql := blk_lt q1.out
  have sc0 : w1.cell? ⟨w.heap.size + 1, 0, none⟩ = some (.int .i64 S.part) := (cell_blk s1.out 0).trans rfl
  have sc1 : w1.cell? ⟨w.heap.size + 1, 1, none⟩ = some (.bool S.normal) := (cell_blk s1.out 1).trans rfl
  have sc2 : w1.cell? ⟨w.heap.size + 1, 2, none⟩ = some (.slice ma S.made.length mc) := (cell_blk s1.out 2).trans rfl
  have sc3 : w1.cell? ⟨w.heap.size + 1, 3, none⟩ = some (.slice va S.valid.length vc) := (cell_blk s1.out 3).trans rfl
  have sl := blk_lt s1.out
  have rc0 : w1.cell? ⟨w.heap.size + 1 + 1, 0, none⟩ = some (.int .i64 R.op) := (cell_blk r1.out 0).trans rfl
  have rc1 : w1.cell? ⟨w.heap.size + 1 + 1, 1, none⟩ = some (.int .i64 R.port) := (cell_blk r1.out 1).trans rfl
  have rc2 : w1.cell? ⟨w.heap.size + 1 + 1, 2, none⟩ = some (.int .u64 R.addr) := (cell_blk r1.out 2).trans rfl
  have rc3 : w1.cell? ⟨w.heap.size + 1 + 1, 3, none⟩ = some (.slice da R.data.length dc) := (cell_blk r1.out 3).trans rfl
  have rl := blk_lt r1.out
  go_wp2_with fail
  refine (name_any R.op _ (HN.out.below HB1.out)).mono ?_
  rw [HNM.out]
  rintro e w2 ⟨rfl, hb⟩
  have q2 : Kp (w2.heap[w.heap.size]? = some (.cells #[.slice pa C.parts.length pc, .slice ca C.chans.length cc, .int .i64 C.l0, .slice a0 C.w0.length c0, .int .i64 C.l1, .slice a1 C.w1.length c1] 29 (0, 0))) := ⟨blk_below q1.out hb⟩
  have s2 : Kp (w2.heap[w.heap.size + 1]? = some (.cells #[.int .i64 S.part, .bool S.normal, .slice ma S.made.length mc, .slice va S.valid.length vc] 40 (0, 0))) := ⟨blk_below s1.out hb⟩
  have r2 : Kp (w2.heap[w.heap.size + 1 + 1]? = some (.cells #[.int .i64 R.op, .int .i64 R.port, .int .u64 R.addr, .slice da R.data.length dc] 44 (0, 0))) := ⟨blk_below r1.out hb⟩
  have HB2 : Kp (Below w.heap.size w w2) := ⟨below_call HB1.out hb⟩
  clear qc0 qc1 qc2 qc3 qc4 qc5 ql sc0 sc1 sc2 sc3 sl rc0 rc1 rc2 rc3 rl q1 s1 r1 HB1 hb
  have qc0 : w2.cell? ⟨w.heap.size, 0, none⟩ = some (.slice pa C.parts.length pc) := (cell_blk q2.out 0).trans rfl
  have qc1 : w2.cell? ⟨w.heap.size, 1, none⟩ = some (.slice ca C.chans.length cc) := (cell_blk q2.out 1).trans rfl
  have qc2 : w2.cell? ⟨w.heap.size, 2, none⟩ = some (.int .i64 C.l0) := (cell_blk q2.out 2).trans rfl
  have qc3 : w2.cell? ⟨w.heap.size, 3, none⟩ = some (.slice a0 C.w0.length c0) := (cell_blk q2.out 3).trans rfl
  have qc4 : w2.cell? ⟨w.heap.size, 4, none⟩ = some (.int .i64 C.l1) := (cell_blk q2.out 4).trans rfl
  have qc5 : w2.cell? ⟨w.heap.size, 5, none⟩ = some (.slice a1 C.w1.length c1) := (cell_blk q2.out 5).trans rfl
  have ql := blk_lt q2.out
  have sc0 : w2.cell? ⟨w.heap.size + 1, 0, none⟩ = some (.int .i64 S.part) := (cell_blk s2.out 0).trans rfl
  have sc1 : w2.cell? ⟨w.heap.size + 1, 1, none⟩ = some (.bool S.normal) := (cell_blk s2.out 1).trans rfl
  have sc2 : w2.cell? ⟨w.heap.size + 1, 2, none⟩ = some (.slice ma S.made.length mc) := (cell_blk s2.out 2).trans rfl
  have sc3 : w2.cell? ⟨w.heap.size + 1, 3, none⟩ = some (.slice va S.valid.length vc) := (cell_blk s2.out 3).trans rfl
  have sl := blk_lt s2.out
  have rc0 : w2.cell? ⟨w.heap.size + 1 + 1, 0, none⟩ = some (.int .i64 R.op) := (cell_blk r2.out 0).trans rfl
  have rc1 : w2.cell? ⟨w.heap.size + 1 + 1, 1, none⟩ = some (.int .i64 R.port) := (cell_blk r2.out 1).trans rfl
  have rc2 : w2.cell? ⟨w.heap.size + 1 + 1, 2, none⟩ = some (.int .u64 R.addr) := (cell_blk r2.out 2).trans rfl
  have rc3 : w2.cell? ⟨w.heap.size + 1 + 1, 3, none⟩ = some (.slice da R.data.length dc) := (cell_blk r2.out 3).trans rfl
  have rl := blk_lt r2.out
  have ho' := HO.out
  go_wp2_with (with_reducible refine stop_at (.store 74 (.tmp 7) (.tmp 40)) ?_ ?_; rfl)
  refine ⟨wpList_store_whole rfl 74 (.tmp 7) (.tmp 40) rfl (w2.heap.size) (by go_simp) [.int .i64 R.op, .int .i64 R.port, .int .u64 R.addr, .slice da R.data.length dc, .slice pa C.parts.length pc, .slice ca C.chans.length cc, .int .i64 C.l0, .slice a0 C.w0.length c0, .int .i64 C.l1, .slice a1 C.w1.length c1, .int .i64 S.part, .bool S.normal, .slice ma S.made.length mc, .slice va S.valid.length vc, .int .i64 0, .int .i64 0, .int .i64 0, .int .i64 0, .int .i64 0, .int .i64 0, .int .u32 0, .bool false, .bool false] (by go_simp) _ 74 (blk_new _ _) (by rfl) (by kernel_rfl) (by rfl) ?_⟩
  intro wA ha1 ha2 ha3
  have HBA : Kp (Below w.heap.size w wA) := ⟨below_but (below_al HB2.out _) ha2 (by have := HB2.out.size; omega) (by have := HB2.out.size; simp; omega)⟩
  have aA : Kp (wA.heap[w2.heap.size]? = some (.cells #[.int .i64 R.op, .int .i64 R.port, .int .u64 R.addr, .slice da R.data.length dc, .slice pa C.parts.length pc, .slice ca C.chans.length cc, .int .i64 C.l0, .slice a0 C.w0.length c0, .int .i64 C.l1, .slice a1 C.w1.length c1, .int .i64 S.part, .bool S.normal, .slice ma S.made.length mc, .slice va S.valid.length vc, .int .i64 0, .int .i64 0, .int .i64 0, .int .i64 0, .int .i64 0, .int .i64 0, .int .u32 0, .bool false, .bool false] 74 (0, 0))) := ⟨ha1⟩
  have qA : Kp (wA.heap[w.heap.size]? = some (.cells #[.slice pa C.parts.length pc, .slice ca C.chans.length cc, .int .i64 C.l0, .slice a0 C.w0.length c0, .int .i64 C.l1, .slice a1 C.w1.length c1] 29 (0, 0))) := ⟨blk_but (blk_al q2.out _) ha2 (by have := blk_lt q2.out; omega)⟩
  have sA : Kp (wA.heap[w.heap.size + 1]? = some (.cells #[.int .i64 S.part, .bool S.normal, .slice ma S.made.length mc, .slice va S.valid.length vc] 40 (0, 0))) := ⟨blk_but (blk_al s2.out _) ha2 (by have := blk_lt s2.out; omega)⟩
  have rA : Kp (wA.heap[w.heap.size + 1 + 1]? = some (.cells #[.int .i64 R.op, .int .i64 R.port, .int .u64 R.addr, .slice da R.data.length dc] 44 (0, 0))) := ⟨blk_but (blk_al r2.out _) ha2 (by have := blk_lt r2.out; omega)⟩
  clear ha1 ha2 ha3 qc0 qc1 qc2 qc3 qc4 qc5 ql sc0 sc1 sc2 sc3 sl rc0 rc1 rc2 rc3 rl q2 s2 r2 HB2
  have qc0 : wA.cell? ⟨w.heap.size, 0, none⟩ = some (.slice pa C.parts.length pc) := (cell_blk qA.out 0).trans rfl
  have qc1 : wA.cell? ⟨w.heap.size, 1, none⟩ = some (.slice ca C.chans.length cc) := (cell_blk qA.out 1).trans rfl
  have qc2 : wA.cell? ⟨w.heap.size, 2, none⟩ = some (.int .i64 C.l0) := (cell_blk qA.out 2).trans rfl
  have qc3 : wA.cell? ⟨w.heap.size, 3, none⟩ = some (.slice a0 C.w0.length c0) := (cell_blk qA.out 3).trans rfl
  have qc4 : wA.cell? ⟨w.heap.size, 4, none⟩ = some (.int .i64 C.l1) := (cell_blk qA.out 4).trans rfl
  have qc5 : wA.cell? ⟨w.heap.size, 5, none⟩ = some (.slice a1 C.w1.length c1) := (cell_blk qA.out 5).trans rfl
  have ql := blk_lt qA.out
  have sc0 : wA.cell? ⟨w.heap.size + 1, 0, none⟩ = some (.int .i64 S.part) := (cell_blk sA.out 0).trans rfl
  have sc1 : wA.cell? ⟨w.heap.size + 1, 1, none⟩ = some (.bool S.normal) := (cell_blk sA.out 1).trans rfl
  have sc2 : wA.cell? ⟨w.heap.size + 1, 2, none⟩ = some (.slice ma S.made.length mc) := (cell_blk sA.out 2).trans rfl
  have sc3 : wA.cell? ⟨w.heap.size + 1, 3, none⟩ = some (.slice va S.valid.length vc) := (cell_blk sA.out 3).trans rfl
  have sl := blk_lt sA.out
  have rc0 : wA.cell? ⟨w.heap.size + 1 + 1, 0, none⟩ = some (.int .i64 R.op) := (cell_blk rA.out 0).trans rfl
  have rc1 : wA.cell? ⟨w.heap.size + 1 + 1, 1, none⟩ = some (.int .i64 R.port) := (cell_blk rA.out 1).trans rfl
  have rc2 : wA.cell? ⟨w.heap.size + 1 + 1, 2, none⟩ = some (.int .u64 R.addr) := (cell_blk rA.out 2).trans rfl
  have rc3 : wA.cell? ⟨w.heap.size + 1 + 1, 3, none⟩ = some (.slice da R.data.length dc) := (cell_blk rA.out 3).trans rfl
  have rl := blk_lt rA.out
  have ac0 : wA.cell? ⟨w2.heap.size, 0, none⟩ = some (.int .i64 R.op) := (cell_blk aA.out 0).trans rfl
  have ac1 : wA.cell? ⟨w2.heap.size, 1, none⟩ = some (.int .i64 R.port) := (cell_blk aA.out 1).trans rfl
  have ac2 : wA.cell? ⟨w2.heap.size, 2, none⟩ = some (.int .u64 R.addr) := (cell_blk aA.out 2).trans rfl
  have ac3 : wA.cell? ⟨w2.heap.size, 3, none⟩ = some (.slice da R.data.length dc) := (cell_blk aA.out 3).trans rfl
  have ac4 : wA.cell? ⟨w2.heap.size, 4, none⟩ = some (.slice pa C.parts.length pc) := (cell_blk aA.out 4).trans rfl
  have ac5 : wA.cell? ⟨w2.heap.size, 5, none⟩ = some (.slice ca C.chans.length cc) := (cell_blk aA.out 5).trans rfl
  have ac6 : wA.cell? ⟨w2.heap.size, 6, none⟩ = some (.int .i64 C.l0) := (cell_blk aA.out 6).trans rfl
  have ac7 : wA.cell? ⟨w2.heap.size, 7, none⟩ = some (.slice a0 C.w0.length c0) := (cell_blk aA.out 7).trans rfl
  have ac8 : wA.cell? ⟨w2.heap.size, 8, none⟩ = some (.int .i64 C.l1) := (cell_blk aA.out 8).trans rfl
  have ac9 : wA.cell? ⟨w2.heap.size, 9, none⟩ = some (.slice a1 C.w1.length c1) := (cell_blk aA.out 9).trans rfl
  have ac10 : wA.cell? ⟨w2.heap.size, 10, none⟩ = some (.int .i64 S.part) := (cell_blk aA.out 10).trans rfl
  have ac11 : wA.cell? ⟨w2.heap.size, 11, none⟩ = some (.bool S.normal) := (cell_blk aA.out 11).trans rfl
  have ac12 : wA.cell? ⟨w2.heap.size, 12, none⟩ = some (.slice ma S.made.length mc) := (cell_blk aA.out 12).trans rfl
  have ac13 : wA.cell? ⟨w2.heap.size, 13, none⟩ = some (.slice va S.valid.length vc) := (cell_blk aA.out 13).trans rfl
  have ac14 : wA.cell? ⟨w2.heap.size, 14, none⟩ = some (.int .i64 0) := (cell_blk aA.out 14).trans rfl
  have ac15 : wA.cell? ⟨w2.heap.size, 15, none⟩ = some (.int .i64 0) := (cell_blk aA.out 15).trans rfl
  have ac16 : wA.cell? ⟨w2.heap.size, 16, none⟩ = some (.int .i64 0) := (cell_blk aA.out 16).trans rfl
  have ac17 : wA.cell? ⟨w2.heap.size, 17, none⟩ = some (.int .i64 0) := (cell_blk aA.out 17).trans rfl
  have ac18 : wA.cell? ⟨w2.heap.size, 18, none⟩ = some (.int .i64 0) := (cell_blk aA.out 18).trans rfl
  have ac19 : wA.cell? ⟨w2.heap.size, 19, none⟩ = some (.int .i64 0) := (cell_blk aA.out 19).trans rfl
  have ac20 : wA.cell? ⟨w2.heap.size, 20, none⟩ = some (.int .u32 0) := (cell_blk aA.out 20).trans rfl
  have ac21 : wA.cell? ⟨w2.heap.size, 21, none⟩ = some (.bool false) := (cell_blk aA.out 21).trans rfl
  have ac22 : wA.cell? ⟨w2.heap.size, 22, none⟩ = some (.bool false) := (cell_blk aA.out 22).trans rfl
  have al := blk_lt aA.out
  go_wp2_with fail
  refine (port_any _ C hsm R.port ir.2.1 _ (HC.out.below HBA.out)).mono ?_
  rw [HPV.out]
  rintro e w3 ⟨rfl, hb⟩
  have HB3 : Kp (Below w.heap.size w w3) := ⟨below_call HBA.out hb⟩
  have q3 : Kp (w3.heap[w.heap.size]? = some (.cells #[.slice pa C.parts.length pc, .slice ca C.chans.length cc, .int .i64 C.l0, .slice a0 C.w0.length c0, .int .i64 C.l1, .slice a1 C.w1.length c1] 29 (0, 0))) := ⟨blk_below qA.out hb⟩
  have s3 : Kp (w3.heap[w.heap.size + 1]? = some (.cells #[.int .i64 S.part, .bool S.normal, .slice ma S.made.length mc, .slice va S.valid.length vc] 40 (0, 0))) := ⟨blk_below sA.out hb⟩
  have r3 : Kp (w3.heap[w.heap.size + 1 + 1]? = some (.cells #[.int .i64 R.op, .int .i64 R.port, .int .u64 R.addr, .slice da R.data.length dc] 44 (0, 0))) := ⟨blk_below rA.out hb⟩
  have a3 : Kp (w3.heap[w2.heap.size]? = some (.cells #[.int .i64 R.op, .int .i64 R.port, .int .u64 R.addr, .slice da R.data.length dc, .slice pa C.parts.length pc, .slice ca C.chans.length cc, .int .i64 C.l0, .slice a0 C.w0.length c0, .int .i64 C.l1, .slice a1 C.w1.length c1, .int .i64 S.part, .bool S.normal, .slice ma S.made.length mc, .slice va S.valid.length vc, .int .i64 0, .int .i64 0, .int .i64 0, .int .i64 0, .int .i64 0, .int .i64 0, .int .u32 0, .bool false, .bool false] 74 (0, 0))) := ⟨blk_below aA.out hb⟩
  clear qc0 qc1 qc2 qc3 qc4 qc5 ql sc0 sc1 sc2 sc3 sl rc0 rc1 rc2 rc3 rl ac0 ac1 ac2 ac3 ac4 ac5 ac6 ac7 ac8 ac9 ac10 ac11 ac12 ac13 ac14 ac15 ac16 ac17 ac18 ac19 ac20 ac21 ac22 al HBA qA sA rA aA hb
  have qc0 : w3.cell? ⟨w.heap.size, 0, none⟩ = some (.slice pa C.parts.length pc) := (cell_blk q3.out 0).trans rfl
  have qc1 : w3.cell? ⟨w.heap.size, 1, none⟩ = some (.slice ca C.chans.length cc) := (cell_blk q3.out 1).trans rfl
  have qc2 : w3.cell? ⟨w.heap.size, 2, none⟩ = some (.int .i64 C.l0) := (cell_blk q3.out 2).trans rfl
  have qc3 : w3.cell? ⟨w.heap.size, 3, none⟩ = some (.slice a0 C.w0.length c0) := (cell_blk q3.out 3).trans rfl
  have qc4 : w3.cell? ⟨w.heap.size, 4, none⟩ = some (.int .i64 C.l1) := (cell_blk q3.out 4).trans rfl
  have qc5 : w3.cell? ⟨w.heap.size, 5, none⟩ = some (.slice a1 C.w1.length c1) := (cell_blk q3.out 5).trans rfl
  have ql := blk_lt q3.out
  have sc0 : w3.cell? ⟨w.heap.size + 1, 0, none⟩ = some (.int .i64 S.part) := (cell_blk s3.out 0).trans rfl
  have sc1 : w3.cell? ⟨w.heap.size + 1, 1, none⟩ = some (.bool S.normal) := (cell_blk s3.out 1).trans rfl
  have sc2 : w3.cell? ⟨w.heap.size + 1, 2, none⟩ = some (.slice ma S.made.length mc) := (cell_blk s3.out 2).trans rfl
  have sc3 : w3.cell? ⟨w.heap.size + 1, 3, none⟩ = some (.slice va S.valid.length vc) := (cell_blk s3.out 3).trans rfl
  have sl := blk_lt s3.out
  have rc0 : w3.cell? ⟨w.heap.size + 1 + 1, 0, none⟩ = some (.int .i64 R.op) := (cell_blk r3.out 0).trans rfl
  have rc1 : w3.cell? ⟨w.heap.size + 1 + 1, 1, none⟩ = some (.int .i64 R.port) := (cell_blk r3.out 1).trans rfl
  have rc2 : w3.cell? ⟨w.heap.size + 1 + 1, 2, none⟩ = some (.int .u64 R.addr) := (cell_blk r3.out 2).trans rfl
  have rc3 : w3.cell? ⟨w.heap.size + 1 + 1, 3, none⟩ = some (.slice da R.data.length dc) := (cell_blk r3.out 3).trans rfl
  have rl := blk_lt r3.out
  have ac0 : w3.cell? ⟨w2.heap.size, 0, none⟩ = some (.int .i64 R.op) := (cell_blk a3.out 0).trans rfl
  have ac1 : w3.cell? ⟨w2.heap.size, 1, none⟩ = some (.int .i64 R.port) := (cell_blk a3.out 1).trans rfl
  have ac2 : w3.cell? ⟨w2.heap.size, 2, none⟩ = some (.int .u64 R.addr) := (cell_blk a3.out 2).trans rfl
  have ac3 : w3.cell? ⟨w2.heap.size, 3, none⟩ = some (.slice da R.data.length dc) := (cell_blk a3.out 3).trans rfl
  have ac4 : w3.cell? ⟨w2.heap.size, 4, none⟩ = some (.slice pa C.parts.length pc) := (cell_blk a3.out 4).trans rfl
  have ac5 : w3.cell? ⟨w2.heap.size, 5, none⟩ = some (.slice ca C.chans.length cc) := (cell_blk a3.out 5).trans rfl
  have ac6 : w3.cell? ⟨w2.heap.size, 6, none⟩ = some (.int .i64 C.l0) := (cell_blk a3.out 6).trans rfl
  have ac7 : w3.cell? ⟨w2.heap.size, 7, none⟩ = some (.slice a0 C.w0.length c0) := (cell_blk a3.out 7).trans rfl
  have ac8 : w3.cell? ⟨w2.heap.size, 8, none⟩ = some (.int .i64 C.l1) := (cell_blk a3.out 8).trans rfl
  have ac9 : w3.cell? ⟨w2.heap.size, 9, none⟩ = some (.slice a1 C.w1.length c1) := (cell_blk a3.out 9).trans rfl
  have ac10 : w3.cell? ⟨w2.heap.size, 10, none⟩ = some (.int .i64 S.part) := (cell_blk a3.out 10).trans rfl
  have ac11 : w3.cell? ⟨w2.heap.size, 11, none⟩ = some (.bool S.normal) := (cell_blk a3.out 11).trans rfl
  have ac12 : w3.cell? ⟨w2.heap.size, 12, none⟩ = some (.slice ma S.made.length mc) := (cell_blk a3.out 12).trans rfl
  have ac13 : w3.cell? ⟨w2.heap.size, 13, none⟩ = some (.slice va S.valid.length vc) := (cell_blk a3.out 13).trans rfl
  have ac14 : w3.cell? ⟨w2.heap.size, 14, none⟩ = some (.int .i64 0) := (cell_blk a3.out 14).trans rfl
  have ac15 : w3.cell? ⟨w2.heap.size, 15, none⟩ = some (.int .i64 0) := (cell_blk a3.out 15).trans rfl
  have ac16 : w3.cell? ⟨w2.heap.size, 16, none⟩ = some (.int .i64 0) := (cell_blk a3.out 16).trans rfl
  have ac17 : w3.cell? ⟨w2.heap.size, 17, none⟩ = some (.int .i64 0) := (cell_blk a3.out 17).trans rfl
  have ac18 : w3.cell? ⟨w2.heap.size, 18, none⟩ = some (.int .i64 0) := (cell_blk a3.out 18).trans rfl
  have ac19 : w3.cell? ⟨w2.heap.size, 19, none⟩ = some (.int .i64 0) := (cell_blk a3.out 19).trans rfl
  have ac20 : w3.cell? ⟨w2.heap.size, 20, none⟩ = some (.int .u32 0) := (cell_blk a3.out 20).trans rfl
  have ac21 : w3.cell? ⟨w2.heap.size, 21, none⟩ = some (.bool false) := (cell_blk a3.out 21).trans rfl
  have ac22 : w3.cell? ⟨w2.heap.size, 22, none⟩ = some (.bool false) := (cell_blk a3.out 22).trans rfl
  have al := blk_lt a3.out
  have HA2 : Kp (AskAt w3 (.agg #[.int .i64 R.op, .int .i64 R.port, .int .u64 R.addr, .slice da R.data.length dc, .slice pa C.parts.length pc, .slice ca C.chans.length cc, .int .i64 C.l0, .slice a0 C.w0.length c0, .int .i64 C.l1, .slice a1 C.w1.length c1, .int .i64 S.part, .bool S.normal, .slice ma S.made.length mc, .slice va S.valid.length vc, .int .i64 0, .int .i64 0, .int .i64 0, .int .i64 0, .int .i64 0, .int .i64 0, .int .u32 0, .bool false, .bool false]) C S R default false false) := ⟨⟨da, dc, pa, pc, ca, cc, a0, c0, a1, c1, ma, mc, va, vc, rfl, HR.out.below HB3.out, HC.out.below HB3.out, HS.out.below HB3.out⟩⟩
  go_wp2_with fail
  refine (rows_any _).mono ?_
  rintro e w4 ⟨B, rfl, hR, hb, hBl⟩
  have HB4 : Kp (Below w.heap.size w w4) := ⟨below_call HB3.out hb⟩
  have q4 : Kp (w4.heap[w.heap.size]? = some (.cells #[.slice pa C.parts.length pc, .slice ca C.chans.length cc, .int .i64 C.l0, .slice a0 C.w0.length c0, .int .i64 C.l1, .slice a1 C.w1.length c1] 29 (0, 0))) := ⟨blk_below q3.out hb⟩
  have s4 : Kp (w4.heap[w.heap.size + 1]? = some (.cells #[.int .i64 S.part, .bool S.normal, .slice ma S.made.length mc, .slice va S.valid.length vc] 40 (0, 0))) := ⟨blk_below s3.out hb⟩
  have r4 : Kp (w4.heap[w.heap.size + 1 + 1]? = some (.cells #[.int .i64 R.op, .int .i64 R.port, .int .u64 R.addr, .slice da R.data.length dc] 44 (0, 0))) := ⟨blk_below r3.out hb⟩
  have a4 : Kp (w4.heap[w2.heap.size]? = some (.cells #[.int .i64 R.op, .int .i64 R.port, .int .u64 R.addr, .slice da R.data.length dc, .slice pa C.parts.length pc, .slice ca C.chans.length cc, .int .i64 C.l0, .slice a0 C.w0.length c0, .int .i64 C.l1, .slice a1 C.w1.length c1, .int .i64 S.part, .bool S.normal, .slice ma S.made.length mc, .slice va S.valid.length vc, .int .i64 0, .int .i64 0, .int .i64 0, .int .i64 0, .int .i64 0, .int .i64 0, .int .u32 0, .bool false, .bool false] 74 (0, 0))) := ⟨blk_below a3.out hb⟩
  have HA24 : Kp (AskAt w4 (.agg #[.int .i64 R.op, .int .i64 R.port, .int .u64 R.addr, .slice da R.data.length dc, .slice pa C.parts.length pc, .slice ca C.chans.length cc, .int .i64 C.l0, .slice a0 C.w0.length c0, .int .i64 C.l1, .slice a1 C.w1.length c1, .int .i64 S.part, .bool S.normal, .slice ma S.made.length mc, .slice va S.valid.length vc, .int .i64 0, .int .i64 0, .int .i64 0, .int .i64 0, .int .i64 0, .int .i64 0, .int .u32 0, .bool false, .bool false]) C S R default false false) := ⟨HA2.out.below hb⟩
  have RW4 : Kp (RowsAt w4 B) := ⟨hR.out⟩
  clear qc0 qc1 qc2 qc3 qc4 qc5 ql sc0 sc1 sc2 sc3 sl rc0 rc1 rc2 rc3 rl ac0 ac1 ac2 ac3 ac4 ac5 ac6 ac7 ac8 ac9 ac10 ac11 ac12 ac13 ac14 ac15 ac16 ac17 ac18 ac19 ac20 ac21 ac22 al HB3 q3 s3 r3 a3 HA2 hb
  clear hR hBl
  go_wp2_with fail
  go_loopw [70] (fun i wr => ∃ k : Nat, k ≤ 13 ∧ i = .int .i64 k ∧ Kp (Below w4.heap.size w4 wr) ∧ Kp (firstR (askD C S R default false false) k = none)) (fun i wr => 13 - (intOf i).toNat)
  case atStart => exact ⟨0, Nat.zero_le _, rfl, ⟨Below.refl _ _⟩, ⟨rfl⟩⟩
  case round =>
    obtain ⟨k, hk, rfl, HL, HF⟩ := hrel
    by_cases hlt : k < 13
    · obtain ⟨fs, hfs, hrs⟩ := (RW4.out.below HL.out)
      obtain ⟨f, e0', e1', e2', hok⟩ := hrs k hlt
      obtain ⟨bs, hbs, fn, caps, rfl, hE, hcall⟩ := hok
      obtain ⟨sk, hsk⟩ : ∃ sk, opsS k = sk := ⟨_, rfl⟩
      rw [hsk] at e0'
      have HSK := Kp.mk hsk
      obtain ⟨ck, hck⟩ : ∃ ck, codeR k = ck := ⟨_, rfl⟩
      rw [hck] at e2'
      have HCK := Kp.mk hck
      have e0 : wr.cell? ⟨B, k * 3, none⟩ = some (.string sk) := (cell_blk hfs (k * 3)).trans e0'
      have e1 : wr.cell? ⟨B, k * 3 + 1, none⟩ = some (.func (.func fn) #[] caps) := (cell_blk hfs (k * 3 + 1)).trans e1'
      have e2 : wr.cell? ⟨B, k * 3 + 2, none⟩ = some (.int .i64 ck) := (cell_blk hfs (k * 3 + 2)).trans e2'
      have hBl := blk_lt hfs
      have HBS := Kp.mk hbs
      have HCALL := Kp.mk hcall
      have hE' := hE.out
      have hk0 := nat_nn k
      have hk13 : (k : Int) < 13 := by omega
      have HSZ : Kp (sk.size ≤ 5) := ⟨by rw [← hsk]; exact opsS_size k hlt⟩
      have HAW : Kp (wr.heap[w2.heap.size]? = some (.cells #[.int .i64 R.op, .int .i64 R.port, .int .u64 R.addr, .slice da R.data.length dc, .slice pa C.parts.length pc, .slice ca C.chans.length cc, .int .i64 C.l0, .slice a0 C.w0.length c0, .int .i64 C.l1, .slice a1 C.w1.length c1, .int .i64 S.part, .bool S.normal, .slice ma S.made.length mc, .slice va S.valid.length vc, .int .i64 0, .int .i64 0, .int .i64 0, .int .i64 0, .int .i64 0, .int .i64 0, .int .u32 0, .bool false, .bool false] 74 (0, 0))) := ⟨blk_below a4.out HL.out⟩
      obtain ⟨b, hb0⟩ : ∃ b, (bytesI sk).contains dg = b := ⟨_, rfl⟩
      have HBB := Kp.mk hb0
      have HHIT : Kp (hitR (askD C S R default false false) k = (b && holdR (askD C S R default false false) k)) := ⟨by
        rw [hitR, ← hb0, ← hsk, ← HDG.out, opsS_ops k hlt R.op ho.1 ho.2]; rfl⟩
      have HLN : Kp ((bytesI sk).length ≤ 1000000) := ⟨by
        have hl : (bytesI sk).length = sk.size := by rw [bytesI, List.length_map, Array.length_toList]; rfl
        have := HSZ.out
        omega⟩
      clear hfs hrs e0' e1' e2' hbs hcall hE hb0 hsk hck
      go_wp2_with (with_reducible refine stop_at (.convert 9 70 (.tmp 75)) ?_ ?_; rfl)
      refine ⟨wpList_bytes rfl 9 70 (.tmp 75) rfl sk (by go_simp) 5 Tryd.underlying9 Tryd.underlying70 Tryd.underlying5 (by have := HSZ.out; unfold maxLen; omega) ?_⟩
      intro cap wc hrow hbc
      have HLC : Kp (Below w4.heap.size w4 wc) := ⟨below_call (below_al HL.out _) hbc⟩
      have HXC : Kp (wc.heap[wr.heap.size]? = some (.cells #[.string sk, .func (.func fn) #[] caps, .int .i64 ck] 79 (0, 0))) := ⟨blk_below (blk_new wr _) hbc⟩
      have HAC : Kp (wc.heap[w2.heap.size]? = some (.cells #[.int .i64 R.op, .int .i64 R.port, .int .u64 R.addr, .slice da R.data.length dc, .slice pa C.parts.length pc, .slice ca C.chans.length cc, .int .i64 C.l0, .slice a0 C.w0.length c0, .int .i64 C.l1, .slice a1 C.w1.length c1, .int .i64 S.part, .bool S.normal, .slice ma S.made.length mc, .slice va S.valid.length vc, .int .i64 0, .int .i64 0, .int .i64 0, .int .i64 0, .int .i64 0, .int .i64 0, .int .u32 0, .bool false, .bool false] 74 (0, 0))) := ⟨blk_below (blk_al HAW.out _) hbc⟩
      have HKC : Kp (Below wr.heap.size wr wc) := ⟨below_call (below_al (Below.refl _ _) _) hbc⟩
      rw [show (wr.alloc (.cells #[.string sk, .func (.func fn) #[] caps, .int .i64 ck] 79)).heap.size = wr.heap.size + 1 by simp] at hrow
      have HROW := Kp.mk hrow
      clear hrow hbc e0 e1 e2 hBl
      go_wp2_with fail
      refine (containsU8_any _ (bytesI sk) dg b HBB.out _ HROW.out HLN.out).mono ?_
      rintro e w8 ⟨rfl, hb8⟩
      have HL8 : Kp (Below w4.heap.size w4 w8) := ⟨below_call HLC.out hb8⟩
      have HX8 : Kp (w8.heap[wr.heap.size]? = some (.cells #[.string sk, .func (.func fn) #[] caps, .int .i64 ck] 79 (0, 0))) := ⟨blk_below HXC.out hb8⟩
      have HA8 : Kp (w8.heap[w2.heap.size]? = some (.cells #[.int .i64 R.op, .int .i64 R.port, .int .u64 R.addr, .slice da R.data.length dc, .slice pa C.parts.length pc, .slice ca C.chans.length cc, .int .i64 C.l0, .slice a0 C.w0.length c0, .int .i64 C.l1, .slice a1 C.w1.length c1, .int .i64 S.part, .bool S.normal, .slice ma S.made.length mc, .slice va S.valid.length vc, .int .i64 0, .int .i64 0, .int .i64 0, .int .i64 0, .int .i64 0, .int .i64 0, .int .u32 0, .bool false, .bool false] 74 (0, 0))) := ⟨blk_below HAC.out hb8⟩
      have HK8 : Kp (KeepB bs wr w8) := ⟨KeepB.of_below HBS.out (below_call HKC.out hb8)⟩
      have x0 : w8.cell? ⟨wr.heap.size, 1, none⟩ = some (.func (.func fn) #[] caps) := (cell_blk HX8.out 1).trans rfl
      have x1 : w8.cell? ⟨wr.heap.size, 2, none⟩ = some (.int .i64 ck) := (cell_blk HX8.out 2).trans rfl
      have xl := blk_lt HX8.out
      clear hb8
      cases b with
      | false =>
        have HN1 : Kp (firstR (askD C S R default false false) (k + 1) = none) := ⟨firstR_not HF.out (by rw [HHIT.out]; rfl)⟩
        go_wp2
        go_roundw
        case rel => exact ⟨k + 1, by omega, by go_num, HL8, HN1⟩
        case measure => simp [intOf]; omega
      | true =>
        go_wp2_with (with_reducible refine wpList_load_whole_g 74 (.tmp 7) ?_ ?_ (w2.heap.size) ?_ [.int .i64 R.op, .int .i64 R.port, .int .u64 R.addr, .slice da R.data.length dc, .slice pa C.parts.length pc, .slice ca C.chans.length cc, .int .i64 C.l0, .slice a0 C.w0.length c0, .int .i64 C.l1, .slice a1 C.w1.length c1, .int .i64 S.part, .bool S.normal, .slice ma S.made.length mc, .slice va S.valid.length vc, .int .i64 0, .int .i64 0, .int .i64 0, .int .i64 0, .int .i64 0, .int .i64 0, .int .u32 0, .bool false, .bool false] 74 (0, 0) (HA8.out) _ Tryd.underlying74 ?_ ?_ ?_; rfl; go_simp; go_simp; rfl; kernel_rfl)
        refine (HCALL.out w8 _ C S R default false false HK8.out (HA24.out.below HL8.out) hsm hm hd).mono ?_
        cases hh : holdR (askD C S R default false false) k with
        | false =>
          rintro e w9 ⟨rfl, hb9⟩
          have HL9 : Kp (Below w4.heap.size w4 w9) := ⟨below_call HL8.out hb9⟩
          have HN1 : Kp (firstR (askD C S R default false false) (k + 1) = none) := ⟨firstR_not HF.out (by rw [HHIT.out, hh]; rfl)⟩
          clear hb9 hh
          go_wp2
          go_roundw
          case rel => exact ⟨k + 1, by omega, by go_num, HL9, HN1⟩
          case measure => simp [intOf]; omega
        | true =>
          rintro e w9 ⟨rfl, hb9⟩
          have HL9 : Kp (Below w4.heap.size w4 w9) := ⟨below_call HL8.out hb9⟩
          have y1 : w9.cell? ⟨wr.heap.size, 2, none⟩ = some (.int .i64 ck) := (cell_blk (blk_below HX8.out hb9) 2).trans rfl
          have HRES : Kp (refV C S R = ck) := ⟨by
            have h1 := firstR_keeps (firstR_hit HF.out (by rw [HHIT.out, hh]; rfl)) 13 (by omega)
            rw [HV.out, h1, Option.getD_some, HCK.out]⟩
          clear hb9 hh x0 x1
          go_wp2
          go_ret
          exact ⟨by rw [HRES.out]; rfl, below_call HB4.out HL9.out⟩
    · obtain rfl : k = 13 := by omega
      have HRES : Kp (refV C S R = 0) := ⟨by rw [HV.out, HF.out]; rfl⟩
      go_wp2
      go_ret
      exact ⟨by rw [HRES.out]; rfl, below_call HB4.out HL.out⟩

set_option maxRecDepth 100000 in
set_option maxHeartbeats 8000000 in
theorem refused_port (cv sv rv : Value) (C : Cfg) (S : Std) (R : Rqt) (hsm : C.small) (hm : S.made.length ≤ 100) (hd : R.data.length ≤ 100) (ha : accB C = true) (hp0 : 0 ≤ S.part) (hp1 : S.part < (C.parts.length : Int)) (ho : 1 ≤ R.op ∧ R.op ≤ 9) (hi : (portV C R.port).is = true) (w : World) (hN : NamesAt w) (hc : CfgAt w cv C) (hs : StdAt w sv S) (hr : RqtAt w rv R) : Calls Tryd.prog 14 #[cv, sv, rv] w fun e w' => e = .returned (.int .i64 (refV C S R)) ∧ Below w.heap.size w w' := by
  have HN := Kp.mk hN
  clear hN
  obtain ⟨k0, hk0, pp, src, hpv, hcx⟩ := portV_is C R.port hi
  obtain ⟨x, hx⟩ : ∃ x, C.chans[k0] = x := ⟨_, rfl⟩
  obtain ⟨own, hown⟩ : ∃ own, (pp == S.part) = own := ⟨_, rfl⟩
  have HV : Kp (refV C S R = (firstR (askD C S R x src own) 13).getD 0) := ⟨by
    rw [refV_yes C S R ⟨ha, hp0, hp1⟩ ho, askV, hpv]
    simp only [if_pos, Bool.true_and, hown, hcx, hx]⟩
  have HPV := Kp.mk hpv
  clear hpv hcx hi
  have HO := Kp.mk (nameV_some R.op ho.1 ho.2)
  have HA : Kp ((firstB C == 0) = true) := ⟨(accB_first C).trans ha⟩
  obtain ⟨nm, hnm⟩ : ∃ nm, nameV R.op = nm := ⟨_, rfl⟩
  rw [hnm] at HO
  have HNM := Kp.mk hnm
  obtain ⟨dg, hdg⟩ : ∃ dg, 48 + R.op = dg := ⟨_, rfl⟩
  have HDG := Kp.mk hdg
  have hw1 : IntKind.i64.wrap (48 + R.op) = dg := (IntWalk.i64_in _ (by omega)).trans hdg
  have hw2 : IntKind.u8.wrap dg = dg := IntWalk.u8_in _ (by omega)
  clear ha hnm hdg
  have HC := Kp.mk hc
  have HS := Kp.mk hs
  have HR := Kp.mk hr
  obtain ⟨_, pa, pc, ca, cc, a0, c0, a1, c1, rfl, bp, bc, b0, b1, gp, gc, gw0, gw1⟩ := hc
  obtain ⟨_, ma, mc, va, vc, rfl, bm, bv, gm, gv⟩ := hs
  obtain ⟨ir, da, dc, rfl, bd, gd⟩ := hr
  clear gp gw0 gw1 gm gv gd bp b0 b1
  obtain ⟨g, o, rfl, hg, hcc⟩ := gc.at (by omega)
  have HK : Kp (∀ j, j < 7 → w.cell? ⟨g, o + k0 * 7 + j, none⟩ = (chanC x)[j]?) := ⟨fun j hj => by
    have h1 := hcc (k0 * 7 + j) (by omega)
    rw [flat_at chanC 7 chanC_len C.chans k0 j hk0 hj, hx] at h1
    rw [Nat.add_assoc]
    exact h1⟩
  have hki : (k0 : Int) < (C.chans.length : Int) := by omega
  have hkn := nat_nn k0
  clear hcc hx
  go_enter Tryd.func14, Tryd.ntmps14
  have HB0 : Kp (Below w.heap.size w w) := ⟨Below.refl _ _⟩
  go_wp2_with fail
  refine (accepts_any _ C hsm _ (HC.out.below (below_al (below_al (below_al HB0.out _) _) _))).mono ?_
  rw [HA.out]
  rintro e w1 ⟨rfl, hb⟩
  have q1 : Kp (w1.heap[w.heap.size]? = some (.cells #[.slice pa C.parts.length pc, .slice (some ⟨g, o, none⟩) C.chans.length cc, .int .i64 C.l0, .slice a0 C.w0.length c0, .int .i64 C.l1, .slice a1 C.w1.length c1] 29 (0, 0))) := ⟨blk_below (blk_al (blk_al (blk_new _ _) _) _) hb⟩
  have s1 : Kp (w1.heap[w.heap.size + 1]? = some (.cells #[.int .i64 S.part, .bool S.normal, .slice ma S.made.length mc, .slice va S.valid.length vc] 40 (0, 0))) := ⟨blk_below (blk_al (blk_at (w := (w.alloc (.cells #[.slice pa C.parts.length pc, .slice (some ⟨g, o, none⟩) C.chans.length cc, .int .i64 C.l0, .slice a0 C.w0.length c0, .int .i64 C.l1, .slice a1 C.w1.length c1] 29))) (by simp) _) _) hb⟩
  have r1 : Kp (w1.heap[w.heap.size + 1 + 1]? = some (.cells #[.int .i64 R.op, .int .i64 R.port, .int .u64 R.addr, .slice da R.data.length dc] 44 (0, 0))) := ⟨blk_below (blk_at (w := ((w.alloc (.cells #[.slice pa C.parts.length pc, .slice (some ⟨g, o, none⟩) C.chans.length cc, .int .i64 C.l0, .slice a0 C.w0.length c0, .int .i64 C.l1, .slice a1 C.w1.length c1] 29)).alloc (.cells #[.int .i64 S.part, .bool S.normal, .slice ma S.made.length mc, .slice va S.valid.length vc] 40))) (by simp) _) hb⟩
  have HB1 : Kp (Below w.heap.size w w1) := ⟨below_call (below_al (below_al (below_al HB0.out _) _) _) hb⟩
  clear HB0 hb
  have qc0 : w1.cell? ⟨w.heap.size, 0, none⟩ = some (.slice pa C.parts.length pc) := (cell_blk q1.out 0).trans rfl
  have qc1 : w1.cell? ⟨w.heap.size, 1, none⟩ = some (.slice (some ⟨g, o, none⟩) C.chans.length cc) := (cell_blk q1.out 1).trans rfl
  have qc2 : w1.cell? ⟨w.heap.size, 2, none⟩ = some (.int .i64 C.l0) := (cell_blk q1.out 2).trans rfl
  have qc3 : w1.cell? ⟨w.heap.size, 3, none⟩ = some (.slice a0 C.w0.length c0) := (cell_blk q1.out 3).trans rfl
  have qc4 : w1.cell? ⟨w.heap.size, 4, none⟩ = some (.int .i64 C.l1) := (cell_blk q1.out 4).trans rfl
  have qc5 : w1.cell? ⟨w.heap.size, 5, none⟩ = some (.slice a1 C.w1.length c1) := (cell_blk q1.out 5).trans rfl
  have ql := blk_lt q1.out
  have sc0 : w1.cell? ⟨w.heap.size + 1, 0, none⟩ = some (.int .i64 S.part) := (cell_blk s1.out 0).trans rfl
  have sc1 : w1.cell? ⟨w.heap.size + 1, 1, none⟩ = some (.bool S.normal) := (cell_blk s1.out 1).trans rfl
  have sc2 : w1.cell? ⟨w.heap.size + 1, 2, none⟩ = some (.slice ma S.made.length mc) := (cell_blk s1.out 2).trans rfl
  have sc3 : w1.cell? ⟨w.heap.size + 1, 3, none⟩ = some (.slice va S.valid.length vc) := (cell_blk s1.out 3).trans rfl
  have sl := blk_lt s1.out
  have rc0 : w1.cell? ⟨w.heap.size + 1 + 1, 0, none⟩ = some (.int .i64 R.op) := (cell_blk r1.out 0).trans rfl
  have rc1 : w1.cell? ⟨w.heap.size + 1 + 1, 1, none⟩ = some (.int .i64 R.port) := (cell_blk r1.out 1).trans rfl
  have rc2 : w1.cell? ⟨w.heap.size + 1 + 1, 2, none⟩ = some (.int .u64 R.addr) := (cell_blk r1.out 2).trans rfl
  have rc3 : w1.cell? ⟨w.heap.size + 1 + 1, 3, none⟩ = some (.slice da R.data.length dc) := (cell_blk r1.out 3).trans rfl
  have rl := blk_lt r1.out
  go_wp2_with fail
  refine (name_any R.op _ (HN.out.below HB1.out)).mono ?_
  rw [HNM.out]
  rintro e w2 ⟨rfl, hb⟩
  have q2 : Kp (w2.heap[w.heap.size]? = some (.cells #[.slice pa C.parts.length pc, .slice (some ⟨g, o, none⟩) C.chans.length cc, .int .i64 C.l0, .slice a0 C.w0.length c0, .int .i64 C.l1, .slice a1 C.w1.length c1] 29 (0, 0))) := ⟨blk_below q1.out hb⟩
  have s2 : Kp (w2.heap[w.heap.size + 1]? = some (.cells #[.int .i64 S.part, .bool S.normal, .slice ma S.made.length mc, .slice va S.valid.length vc] 40 (0, 0))) := ⟨blk_below s1.out hb⟩
  have r2 : Kp (w2.heap[w.heap.size + 1 + 1]? = some (.cells #[.int .i64 R.op, .int .i64 R.port, .int .u64 R.addr, .slice da R.data.length dc] 44 (0, 0))) := ⟨blk_below r1.out hb⟩
  have HB2 : Kp (Below w.heap.size w w2) := ⟨below_call HB1.out hb⟩
  clear qc0 qc1 qc2 qc3 qc4 qc5 ql sc0 sc1 sc2 sc3 sl rc0 rc1 rc2 rc3 rl q1 s1 r1 HB1 hb
  have qc0 : w2.cell? ⟨w.heap.size, 0, none⟩ = some (.slice pa C.parts.length pc) := (cell_blk q2.out 0).trans rfl
  have qc1 : w2.cell? ⟨w.heap.size, 1, none⟩ = some (.slice (some ⟨g, o, none⟩) C.chans.length cc) := (cell_blk q2.out 1).trans rfl
  have qc2 : w2.cell? ⟨w.heap.size, 2, none⟩ = some (.int .i64 C.l0) := (cell_blk q2.out 2).trans rfl
  have qc3 : w2.cell? ⟨w.heap.size, 3, none⟩ = some (.slice a0 C.w0.length c0) := (cell_blk q2.out 3).trans rfl
  have qc4 : w2.cell? ⟨w.heap.size, 4, none⟩ = some (.int .i64 C.l1) := (cell_blk q2.out 4).trans rfl
  have qc5 : w2.cell? ⟨w.heap.size, 5, none⟩ = some (.slice a1 C.w1.length c1) := (cell_blk q2.out 5).trans rfl
  have ql := blk_lt q2.out
  have sc0 : w2.cell? ⟨w.heap.size + 1, 0, none⟩ = some (.int .i64 S.part) := (cell_blk s2.out 0).trans rfl
  have sc1 : w2.cell? ⟨w.heap.size + 1, 1, none⟩ = some (.bool S.normal) := (cell_blk s2.out 1).trans rfl
  have sc2 : w2.cell? ⟨w.heap.size + 1, 2, none⟩ = some (.slice ma S.made.length mc) := (cell_blk s2.out 2).trans rfl
  have sc3 : w2.cell? ⟨w.heap.size + 1, 3, none⟩ = some (.slice va S.valid.length vc) := (cell_blk s2.out 3).trans rfl
  have sl := blk_lt s2.out
  have rc0 : w2.cell? ⟨w.heap.size + 1 + 1, 0, none⟩ = some (.int .i64 R.op) := (cell_blk r2.out 0).trans rfl
  have rc1 : w2.cell? ⟨w.heap.size + 1 + 1, 1, none⟩ = some (.int .i64 R.port) := (cell_blk r2.out 1).trans rfl
  have rc2 : w2.cell? ⟨w.heap.size + 1 + 1, 2, none⟩ = some (.int .u64 R.addr) := (cell_blk r2.out 2).trans rfl
  have rc3 : w2.cell? ⟨w.heap.size + 1 + 1, 3, none⟩ = some (.slice da R.data.length dc) := (cell_blk r2.out 3).trans rfl
  have rl := blk_lt r2.out
  have ho' := HO.out
  have HAL := Kp.mk (blk_lt r2.out)
  have HGL : Kp (g < w2.heap.size) := ⟨Nat.lt_of_lt_of_le hg HB2.out.size⟩
  go_wp2_with (with_reducible refine stop_at (.store 74 (.tmp 7) (.tmp 40)) ?_ ?_; rfl)
  refine ⟨wpList_store_whole rfl 74 (.tmp 7) (.tmp 40) rfl (w2.heap.size) (by go_simp) [.int .i64 R.op, .int .i64 R.port, .int .u64 R.addr, .slice da R.data.length dc, .slice pa C.parts.length pc, .slice (some ⟨g, o, none⟩) C.chans.length cc, .int .i64 C.l0, .slice a0 C.w0.length c0, .int .i64 C.l1, .slice a1 C.w1.length c1, .int .i64 S.part, .bool S.normal, .slice ma S.made.length mc, .slice va S.valid.length vc, .int .i64 0, .int .i64 0, .int .i64 0, .int .i64 0, .int .i64 0, .int .i64 0, .int .u32 0, .bool false, .bool false] (by go_simp) _ 74 (blk_new _ _) (by rfl) (by kernel_rfl) (by rfl) ?_⟩
  intro wA ha1 ha2 ha3
  have HBA : Kp (Below w.heap.size w wA) := ⟨below_but (below_al HB2.out _) ha2 (by have := HB2.out.size; omega) (by have := HB2.out.size; simp; omega)⟩
  have aA : Kp (wA.heap[w2.heap.size]? = some (.cells #[.int .i64 R.op, .int .i64 R.port, .int .u64 R.addr, .slice da R.data.length dc, .slice pa C.parts.length pc, .slice (some ⟨g, o, none⟩) C.chans.length cc, .int .i64 C.l0, .slice a0 C.w0.length c0, .int .i64 C.l1, .slice a1 C.w1.length c1, .int .i64 S.part, .bool S.normal, .slice ma S.made.length mc, .slice va S.valid.length vc, .int .i64 0, .int .i64 0, .int .i64 0, .int .i64 0, .int .i64 0, .int .i64 0, .int .u32 0, .bool false, .bool false] 74 (0, 0))) := ⟨ha1⟩
  have qA : Kp (wA.heap[w.heap.size]? = some (.cells #[.slice pa C.parts.length pc, .slice (some ⟨g, o, none⟩) C.chans.length cc, .int .i64 C.l0, .slice a0 C.w0.length c0, .int .i64 C.l1, .slice a1 C.w1.length c1] 29 (0, 0))) := ⟨blk_but (blk_al q2.out _) ha2 (by have := blk_lt q2.out; omega)⟩
  have sA : Kp (wA.heap[w.heap.size + 1]? = some (.cells #[.int .i64 S.part, .bool S.normal, .slice ma S.made.length mc, .slice va S.valid.length vc] 40 (0, 0))) := ⟨blk_but (blk_al s2.out _) ha2 (by have := blk_lt s2.out; omega)⟩
  have rA : Kp (wA.heap[w.heap.size + 1 + 1]? = some (.cells #[.int .i64 R.op, .int .i64 R.port, .int .u64 R.addr, .slice da R.data.length dc] 44 (0, 0))) := ⟨blk_but (blk_al r2.out _) ha2 (by have := blk_lt r2.out; omega)⟩
  clear ha1 ha2 ha3 qc0 qc1 qc2 qc3 qc4 qc5 ql sc0 sc1 sc2 sc3 sl rc0 rc1 rc2 rc3 rl q2 s2 r2 HB2
  have qc0 : wA.cell? ⟨w.heap.size, 0, none⟩ = some (.slice pa C.parts.length pc) := (cell_blk qA.out 0).trans rfl
  have qc1 : wA.cell? ⟨w.heap.size, 1, none⟩ = some (.slice (some ⟨g, o, none⟩) C.chans.length cc) := (cell_blk qA.out 1).trans rfl
  have qc2 : wA.cell? ⟨w.heap.size, 2, none⟩ = some (.int .i64 C.l0) := (cell_blk qA.out 2).trans rfl
  have qc3 : wA.cell? ⟨w.heap.size, 3, none⟩ = some (.slice a0 C.w0.length c0) := (cell_blk qA.out 3).trans rfl
  have qc4 : wA.cell? ⟨w.heap.size, 4, none⟩ = some (.int .i64 C.l1) := (cell_blk qA.out 4).trans rfl
  have qc5 : wA.cell? ⟨w.heap.size, 5, none⟩ = some (.slice a1 C.w1.length c1) := (cell_blk qA.out 5).trans rfl
  have ql := blk_lt qA.out
  have sc0 : wA.cell? ⟨w.heap.size + 1, 0, none⟩ = some (.int .i64 S.part) := (cell_blk sA.out 0).trans rfl
  have sc1 : wA.cell? ⟨w.heap.size + 1, 1, none⟩ = some (.bool S.normal) := (cell_blk sA.out 1).trans rfl
  have sc2 : wA.cell? ⟨w.heap.size + 1, 2, none⟩ = some (.slice ma S.made.length mc) := (cell_blk sA.out 2).trans rfl
  have sc3 : wA.cell? ⟨w.heap.size + 1, 3, none⟩ = some (.slice va S.valid.length vc) := (cell_blk sA.out 3).trans rfl
  have sl := blk_lt sA.out
  have rc0 : wA.cell? ⟨w.heap.size + 1 + 1, 0, none⟩ = some (.int .i64 R.op) := (cell_blk rA.out 0).trans rfl
  have rc1 : wA.cell? ⟨w.heap.size + 1 + 1, 1, none⟩ = some (.int .i64 R.port) := (cell_blk rA.out 1).trans rfl
  have rc2 : wA.cell? ⟨w.heap.size + 1 + 1, 2, none⟩ = some (.int .u64 R.addr) := (cell_blk rA.out 2).trans rfl
  have rc3 : wA.cell? ⟨w.heap.size + 1 + 1, 3, none⟩ = some (.slice da R.data.length dc) := (cell_blk rA.out 3).trans rfl
  have rl := blk_lt rA.out
  have ac0 : wA.cell? ⟨w2.heap.size, 0, none⟩ = some (.int .i64 R.op) := (cell_blk aA.out 0).trans rfl
  have ac1 : wA.cell? ⟨w2.heap.size, 1, none⟩ = some (.int .i64 R.port) := (cell_blk aA.out 1).trans rfl
  have ac2 : wA.cell? ⟨w2.heap.size, 2, none⟩ = some (.int .u64 R.addr) := (cell_blk aA.out 2).trans rfl
  have ac3 : wA.cell? ⟨w2.heap.size, 3, none⟩ = some (.slice da R.data.length dc) := (cell_blk aA.out 3).trans rfl
  have ac4 : wA.cell? ⟨w2.heap.size, 4, none⟩ = some (.slice pa C.parts.length pc) := (cell_blk aA.out 4).trans rfl
  have ac5 : wA.cell? ⟨w2.heap.size, 5, none⟩ = some (.slice (some ⟨g, o, none⟩) C.chans.length cc) := (cell_blk aA.out 5).trans rfl
  have ac6 : wA.cell? ⟨w2.heap.size, 6, none⟩ = some (.int .i64 C.l0) := (cell_blk aA.out 6).trans rfl
  have ac7 : wA.cell? ⟨w2.heap.size, 7, none⟩ = some (.slice a0 C.w0.length c0) := (cell_blk aA.out 7).trans rfl
  have ac8 : wA.cell? ⟨w2.heap.size, 8, none⟩ = some (.int .i64 C.l1) := (cell_blk aA.out 8).trans rfl
  have ac9 : wA.cell? ⟨w2.heap.size, 9, none⟩ = some (.slice a1 C.w1.length c1) := (cell_blk aA.out 9).trans rfl
  have ac10 : wA.cell? ⟨w2.heap.size, 10, none⟩ = some (.int .i64 S.part) := (cell_blk aA.out 10).trans rfl
  have ac11 : wA.cell? ⟨w2.heap.size, 11, none⟩ = some (.bool S.normal) := (cell_blk aA.out 11).trans rfl
  have ac12 : wA.cell? ⟨w2.heap.size, 12, none⟩ = some (.slice ma S.made.length mc) := (cell_blk aA.out 12).trans rfl
  have ac13 : wA.cell? ⟨w2.heap.size, 13, none⟩ = some (.slice va S.valid.length vc) := (cell_blk aA.out 13).trans rfl
  have ac14 : wA.cell? ⟨w2.heap.size, 14, none⟩ = some (.int .i64 0) := (cell_blk aA.out 14).trans rfl
  have ac15 : wA.cell? ⟨w2.heap.size, 15, none⟩ = some (.int .i64 0) := (cell_blk aA.out 15).trans rfl
  have ac16 : wA.cell? ⟨w2.heap.size, 16, none⟩ = some (.int .i64 0) := (cell_blk aA.out 16).trans rfl
  have ac17 : wA.cell? ⟨w2.heap.size, 17, none⟩ = some (.int .i64 0) := (cell_blk aA.out 17).trans rfl
  have ac18 : wA.cell? ⟨w2.heap.size, 18, none⟩ = some (.int .i64 0) := (cell_blk aA.out 18).trans rfl
  have ac19 : wA.cell? ⟨w2.heap.size, 19, none⟩ = some (.int .i64 0) := (cell_blk aA.out 19).trans rfl
  have ac20 : wA.cell? ⟨w2.heap.size, 20, none⟩ = some (.int .u32 0) := (cell_blk aA.out 20).trans rfl
  have ac21 : wA.cell? ⟨w2.heap.size, 21, none⟩ = some (.bool false) := (cell_blk aA.out 21).trans rfl
  have ac22 : wA.cell? ⟨w2.heap.size, 22, none⟩ = some (.bool false) := (cell_blk aA.out 22).trans rfl
  have al := blk_lt aA.out
  go_wp2_with fail
  refine (port_any _ C hsm R.port ir.2.1 _ (HC.out.below HBA.out)).mono ?_
  rw [HPV.out]
  rintro e w3 ⟨rfl, hb⟩
  have HB3 : Kp (Below w.heap.size w w3) := ⟨below_call HBA.out hb⟩
  have q3 : Kp (w3.heap[w.heap.size]? = some (.cells #[.slice pa C.parts.length pc, .slice (some ⟨g, o, none⟩) C.chans.length cc, .int .i64 C.l0, .slice a0 C.w0.length c0, .int .i64 C.l1, .slice a1 C.w1.length c1] 29 (0, 0))) := ⟨blk_below qA.out hb⟩
  have s3 : Kp (w3.heap[w.heap.size + 1]? = some (.cells #[.int .i64 S.part, .bool S.normal, .slice ma S.made.length mc, .slice va S.valid.length vc] 40 (0, 0))) := ⟨blk_below sA.out hb⟩
  have r3 : Kp (w3.heap[w.heap.size + 1 + 1]? = some (.cells #[.int .i64 R.op, .int .i64 R.port, .int .u64 R.addr, .slice da R.data.length dc] 44 (0, 0))) := ⟨blk_below rA.out hb⟩
  have a3 : Kp (w3.heap[w2.heap.size]? = some (.cells #[.int .i64 R.op, .int .i64 R.port, .int .u64 R.addr, .slice da R.data.length dc, .slice pa C.parts.length pc, .slice (some ⟨g, o, none⟩) C.chans.length cc, .int .i64 C.l0, .slice a0 C.w0.length c0, .int .i64 C.l1, .slice a1 C.w1.length c1, .int .i64 S.part, .bool S.normal, .slice ma S.made.length mc, .slice va S.valid.length vc, .int .i64 0, .int .i64 0, .int .i64 0, .int .i64 0, .int .i64 0, .int .i64 0, .int .u32 0, .bool false, .bool false] 74 (0, 0))) := ⟨blk_below aA.out hb⟩
  clear qc0 qc1 qc2 qc3 qc4 qc5 ql sc0 sc1 sc2 sc3 sl rc0 rc1 rc2 rc3 rl ac0 ac1 ac2 ac3 ac4 ac5 ac6 ac7 ac8 ac9 ac10 ac11 ac12 ac13 ac14 ac15 ac16 ac17 ac18 ac19 ac20 ac21 ac22 al HBA qA sA rA aA hb
  have qc0 : w3.cell? ⟨w.heap.size, 0, none⟩ = some (.slice pa C.parts.length pc) := (cell_blk q3.out 0).trans rfl
  have qc1 : w3.cell? ⟨w.heap.size, 1, none⟩ = some (.slice (some ⟨g, o, none⟩) C.chans.length cc) := (cell_blk q3.out 1).trans rfl
  have qc2 : w3.cell? ⟨w.heap.size, 2, none⟩ = some (.int .i64 C.l0) := (cell_blk q3.out 2).trans rfl
  have qc3 : w3.cell? ⟨w.heap.size, 3, none⟩ = some (.slice a0 C.w0.length c0) := (cell_blk q3.out 3).trans rfl
  have qc4 : w3.cell? ⟨w.heap.size, 4, none⟩ = some (.int .i64 C.l1) := (cell_blk q3.out 4).trans rfl
  have qc5 : w3.cell? ⟨w.heap.size, 5, none⟩ = some (.slice a1 C.w1.length c1) := (cell_blk q3.out 5).trans rfl
  have ql := blk_lt q3.out
  have sc0 : w3.cell? ⟨w.heap.size + 1, 0, none⟩ = some (.int .i64 S.part) := (cell_blk s3.out 0).trans rfl
  have sc1 : w3.cell? ⟨w.heap.size + 1, 1, none⟩ = some (.bool S.normal) := (cell_blk s3.out 1).trans rfl
  have sc2 : w3.cell? ⟨w.heap.size + 1, 2, none⟩ = some (.slice ma S.made.length mc) := (cell_blk s3.out 2).trans rfl
  have sc3 : w3.cell? ⟨w.heap.size + 1, 3, none⟩ = some (.slice va S.valid.length vc) := (cell_blk s3.out 3).trans rfl
  have sl := blk_lt s3.out
  have rc0 : w3.cell? ⟨w.heap.size + 1 + 1, 0, none⟩ = some (.int .i64 R.op) := (cell_blk r3.out 0).trans rfl
  have rc1 : w3.cell? ⟨w.heap.size + 1 + 1, 1, none⟩ = some (.int .i64 R.port) := (cell_blk r3.out 1).trans rfl
  have rc2 : w3.cell? ⟨w.heap.size + 1 + 1, 2, none⟩ = some (.int .u64 R.addr) := (cell_blk r3.out 2).trans rfl
  have rc3 : w3.cell? ⟨w.heap.size + 1 + 1, 3, none⟩ = some (.slice da R.data.length dc) := (cell_blk r3.out 3).trans rfl
  have rl := blk_lt r3.out
  have ac0 : w3.cell? ⟨w2.heap.size, 0, none⟩ = some (.int .i64 R.op) := (cell_blk a3.out 0).trans rfl
  have ac1 : w3.cell? ⟨w2.heap.size, 1, none⟩ = some (.int .i64 R.port) := (cell_blk a3.out 1).trans rfl
  have ac2 : w3.cell? ⟨w2.heap.size, 2, none⟩ = some (.int .u64 R.addr) := (cell_blk a3.out 2).trans rfl
  have ac3 : w3.cell? ⟨w2.heap.size, 3, none⟩ = some (.slice da R.data.length dc) := (cell_blk a3.out 3).trans rfl
  have ac4 : w3.cell? ⟨w2.heap.size, 4, none⟩ = some (.slice pa C.parts.length pc) := (cell_blk a3.out 4).trans rfl
  have ac5 : w3.cell? ⟨w2.heap.size, 5, none⟩ = some (.slice (some ⟨g, o, none⟩) C.chans.length cc) := (cell_blk a3.out 5).trans rfl
  have ac6 : w3.cell? ⟨w2.heap.size, 6, none⟩ = some (.int .i64 C.l0) := (cell_blk a3.out 6).trans rfl
  have ac7 : w3.cell? ⟨w2.heap.size, 7, none⟩ = some (.slice a0 C.w0.length c0) := (cell_blk a3.out 7).trans rfl
  have ac8 : w3.cell? ⟨w2.heap.size, 8, none⟩ = some (.int .i64 C.l1) := (cell_blk a3.out 8).trans rfl
  have ac9 : w3.cell? ⟨w2.heap.size, 9, none⟩ = some (.slice a1 C.w1.length c1) := (cell_blk a3.out 9).trans rfl
  have ac10 : w3.cell? ⟨w2.heap.size, 10, none⟩ = some (.int .i64 S.part) := (cell_blk a3.out 10).trans rfl
  have ac11 : w3.cell? ⟨w2.heap.size, 11, none⟩ = some (.bool S.normal) := (cell_blk a3.out 11).trans rfl
  have ac12 : w3.cell? ⟨w2.heap.size, 12, none⟩ = some (.slice ma S.made.length mc) := (cell_blk a3.out 12).trans rfl
  have ac13 : w3.cell? ⟨w2.heap.size, 13, none⟩ = some (.slice va S.valid.length vc) := (cell_blk a3.out 13).trans rfl
  have ac14 : w3.cell? ⟨w2.heap.size, 14, none⟩ = some (.int .i64 0) := (cell_blk a3.out 14).trans rfl
  have ac15 : w3.cell? ⟨w2.heap.size, 15, none⟩ = some (.int .i64 0) := (cell_blk a3.out 15).trans rfl
  have ac16 : w3.cell? ⟨w2.heap.size, 16, none⟩ = some (.int .i64 0) := (cell_blk a3.out 16).trans rfl
  have ac17 : w3.cell? ⟨w2.heap.size, 17, none⟩ = some (.int .i64 0) := (cell_blk a3.out 17).trans rfl
  have ac18 : w3.cell? ⟨w2.heap.size, 18, none⟩ = some (.int .i64 0) := (cell_blk a3.out 18).trans rfl
  have ac19 : w3.cell? ⟨w2.heap.size, 19, none⟩ = some (.int .i64 0) := (cell_blk a3.out 19).trans rfl
  have ac20 : w3.cell? ⟨w2.heap.size, 20, none⟩ = some (.int .u32 0) := (cell_blk a3.out 20).trans rfl
  have ac21 : w3.cell? ⟨w2.heap.size, 21, none⟩ = some (.bool false) := (cell_blk a3.out 21).trans rfl
  have ac22 : w3.cell? ⟨w2.heap.size, 22, none⟩ = some (.bool false) := (cell_blk a3.out 22).trans rfl
  have al := blk_lt a3.out
  have e0 : w3.cell? ⟨g, o + k0 * 7, none⟩ = some (.int .i64 x.kind) := (HB3.out.cell (p := ⟨g, o + k0 * 7, none⟩) hg).trans (HK.out 0 (by omega))
  have e1 : w3.cell? ⟨g, o + k0 * 7 + 1, none⟩ = some (.int .i64 x.frm) := (HB3.out.cell (p := ⟨g, o + k0 * 7 + 1, none⟩) hg).trans (HK.out 1 (by omega))
  have e2 : w3.cell? ⟨g, o + k0 * 7 + 2, none⟩ = some (.int .i64 x.to) := (HB3.out.cell (p := ⟨g, o + k0 * 7 + 2, none⟩) hg).trans (HK.out 2 (by omega))
  have e3 : w3.cell? ⟨g, o + k0 * 7 + 3, none⟩ = some (.int .i64 x.words) := (HB3.out.cell (p := ⟨g, o + k0 * 7 + 3, none⟩) hg).trans (HK.out 3 (by omega))
  have e4 : w3.cell? ⟨g, o + k0 * 7 + 4, none⟩ = some (.int .i64 x.depth) := (HB3.out.cell (p := ⟨g, o + k0 * 7 + 4, none⟩) hg).trans (HK.out 4 (by omega))
  have e5 : w3.cell? ⟨g, o + k0 * 7 + 5, none⟩ = some (.int .i64 x.period) := (HB3.out.cell (p := ⟨g, o + k0 * 7 + 5, none⟩) hg).trans (HK.out 5 (by omega))
  have e6 : w3.cell? ⟨g, o + k0 * 7 + 6, none⟩ = some (.int .u32 x.boot) := (HB3.out.cell (p := ⟨g, o + k0 * 7 + 6, none⟩) hg).trans (HK.out 6 (by omega))
  have gl : g < w3.heap.size := Nat.lt_of_lt_of_le hg HB3.out.size
  have hal := HAL.out
  have hgl := HGL.out
  have hn0 : w.heap.size ≠ w2.heap.size := by omega
  have hn1 : w.heap.size + 1 ≠ w2.heap.size := by omega
  have hn2 : w.heap.size + 1 + 1 ≠ w2.heap.size := by omega
  have hng : g ≠ w2.heap.size := by omega
  go_wp2_with fail
  refine held_start_gen (S := (fun w' : World => ButB (w3.heap.size) [w2.heap.size] w3 w' ∧ ∀ bb o, bb < w3.heap.size → bb ≠ w2.heap.size → w'.cell? ⟨bb, o, none⟩ = w3.cell? ⟨bb, o, none⟩)) (by kernel_rfl) (fun wz : World => Kp (Below w.heap.size w wz) ∧ Kp (wz.heap[w2.heap.size]? = some (.cells #[.int .i64 R.op, .int .i64 R.port, .int .u64 R.addr, .slice da R.data.length dc, .slice pa C.parts.length pc, .slice (some ⟨g, o, none⟩) C.chans.length cc, .int .i64 C.l0, .slice a0 C.w0.length c0, .int .i64 C.l1, .slice a1 C.w1.length c1, .int .i64 S.part, .bool S.normal, .slice ma S.made.length mc, .slice va S.valid.length vc, .int .i64 0, .int .i64 0, .int .i64 0, .int .i64 0, .int .i64 0, .int .i64 0, .int .u32 0, .bool false, .bool false] 74 (0, 0))) ∧ w3.heap.size ≤ wz.heap.size) ⟨⟨below_dr HB3.out⟩, ⟨blk_dr a3.out⟩, Nat.le_refl _⟩ (sx_of1 (ButB.dr (ButB.refl _ (by omega)))) (fun wd0 hRn hHeld => ?_)
  clear HB3 a3
  obtain ⟨HB3, a3, hsz⟩ := hRn
  refine wpAnyH_take (i := 0) (oi := ⟨_, _, _, _, _, _⟩) (v := ?_) rfl (by kernel_rfl) (by kernel_rfl) (by kernel_rfl) (fun _ _ _ h => h) (Or.inl ⟨by rfl, ?_⟩) (by assumption) ?_
  rotate_left 1
  · (intro w hSw; go_simp; try with_reducible rfl)
  try simp only [Act.put, List.setIfInBounds_toArray, List.set_cons_zero, List.set_cons_succ]
  refine wpAnyH_take (i := 1) (oi := ⟨_, _, _, _, _, _⟩) (v := ?_) rfl (by kernel_rfl) (by kernel_rfl) (by kernel_rfl) (fun _ _ _ h => h) (Or.inl ⟨by rfl, ?_⟩) (by assumption) ?_
  rotate_left 1
  · (intro w hSw; go_simp; try with_reducible rfl)
  try simp only [Act.put, List.setIfInBounds_toArray, List.set_cons_zero, List.set_cons_succ]
  refine wpAnyH_take (i := 2) (oi := ⟨_, _, _, _, _, _⟩) (v := ?_) rfl (by kernel_rfl) (by kernel_rfl) (by kernel_rfl) (fun _ _ _ h => h) (Or.inl ⟨by rfl, ?_⟩) (by assumption) ?_
  rotate_left 1
  · (intro w hSw; go_simp; try with_reducible rfl)
  try simp only [Act.put, List.setIfInBounds_toArray, List.set_cons_zero, List.set_cons_succ]
  refine wpAnyH_take (i := 3) (oi := ⟨_, _, _, _, _, _⟩) (v := ?_) rfl (by kernel_rfl) (by kernel_rfl) (by kernel_rfl) (fun _ _ _ h => h) (Or.inl ⟨by rfl, ?_⟩) (by assumption) ?_
  rotate_left 1
  · (intro w hSw; go_simp; try with_reducible rfl)
  try simp only [Act.put, List.setIfInBounds_toArray, List.set_cons_zero, List.set_cons_succ]
  refine wpAnyH_take (i := 4) (oi := ⟨_, _, _, _, _, _⟩) (v := ?_) rfl (by kernel_rfl) (by kernel_rfl) (by kernel_rfl) (fun _ _ _ h => h) (Or.inl ⟨by rfl, ?_⟩) (by assumption) ?_
  rotate_left 1
  · (intro w hSw; go_simp; try with_reducible rfl)
  try simp only [Act.put, List.setIfInBounds_toArray, List.set_cons_zero, List.set_cons_succ]
  refine wpAnyH_take (i := 5) (oi := ⟨_, _, _, _, _, _⟩) (v := ?_) rfl (by kernel_rfl) (by kernel_rfl) (by kernel_rfl) (fun _ _ _ h => h) (Or.inl ⟨by rfl, ?_⟩) (by assumption) ?_
  rotate_left 1
  · (intro w hSw; go_simp; try with_reducible rfl)
  try simp only [Act.put, List.setIfInBounds_toArray, List.set_cons_zero, List.set_cons_succ]
  refine wpAnyH_take (i := 6) (oi := ⟨_, _, _, _, _, _⟩) (v := ?_) rfl (by kernel_rfl) (by kernel_rfl) (by kernel_rfl) (fun _ _ _ h => h) (Or.inl ⟨by rfl, ?_⟩) (by assumption) ?_
  rotate_left 1
  · (intro w hSw; go_simp; try with_reducible rfl)
  try simp only [Act.put, List.setIfInBounds_toArray, List.set_cons_zero, List.set_cons_succ]
  refine wpAnyH_take (i := 7) (oi := ⟨_, _, _, _, _, _⟩) (v := ?_) rfl (by kernel_rfl) (by kernel_rfl) (by kernel_rfl) (fun _ _ _ h => h) (Or.inl ⟨by rfl, ?_⟩) (by assumption) ?_
  rotate_left 1
  · (intro w hSw; go_simp; try with_reducible rfl)
  try simp only [Act.put, List.setIfInBounds_toArray, List.set_cons_zero, List.set_cons_succ]
  refine wpAnyH_take (i := 8) (oi := ⟨_, _, _, _, _, _⟩) (v := ?_) rfl (by kernel_rfl) (by kernel_rfl) (by kernel_rfl) (fun _ _ _ h => h) (Or.inl ⟨by rfl, ?_⟩) (by assumption) ?_
  rotate_left 1
  · (intro w hSw; go_simp; try with_reducible rfl)
  try simp only [Act.put, List.setIfInBounds_toArray, List.set_cons_zero, List.set_cons_succ]
  refine wpAnyH_take (i := 9) (oi := ⟨_, _, _, _, _, _⟩) (v := ?_) rfl (by kernel_rfl) (by kernel_rfl) (by kernel_rfl) (fun _ _ _ h => h) (Or.inl ⟨by rfl, ?_⟩) (by assumption) ?_
  rotate_left 1
  · (intro w hSw; go_simp; try with_reducible rfl)
  try simp only [Act.put, List.setIfInBounds_toArray, List.set_cons_zero, List.set_cons_succ]
  refine wpAnyH_take (i := 10) (oi := ⟨_, _, _, _, _, _⟩) (v := ?_) rfl (by kernel_rfl) (by kernel_rfl) (by kernel_rfl) (fun _ _ _ h => h) (Or.inl ⟨by rfl, ?_⟩) (by assumption) ?_
  rotate_left 1
  · (intro w hSw; go_simp; try with_reducible rfl)
  try simp only [Act.put, List.setIfInBounds_toArray, List.set_cons_zero, List.set_cons_succ]
  refine wpAnyH_ready (rs := [11]) (by kernel_rfl) (by simp) ?_
  refine (AllReadyH.cons (o := ⟨_, _, _, _, _, _⟩) rfl (fun K hK => ?_) AllReadyH.nil)
  have sd0 : wd0.cell? ⟨w2.heap.size, 14, none⟩ = some (.int .i64 0) := (cell_blk a3.out 14).trans rfl
  have sf0 : wd0.frozen? ⟨w2.heap.size, 14, none⟩ = false := frozen_blk a3.out 14
  have sd1 : wd0.cell? ⟨w2.heap.size, 15, none⟩ = some (.int .i64 0) := (cell_blk a3.out 15).trans rfl
  have sf1 : wd0.frozen? ⟨w2.heap.size, 15, none⟩ = false := frozen_blk a3.out 15
  have sd2 : wd0.cell? ⟨w2.heap.size, 16, none⟩ = some (.int .i64 0) := (cell_blk a3.out 16).trans rfl
  have sf2 : wd0.frozen? ⟨w2.heap.size, 16, none⟩ = false := frozen_blk a3.out 16
  have sd3 : wd0.cell? ⟨w2.heap.size, 17, none⟩ = some (.int .i64 0) := (cell_blk a3.out 17).trans rfl
  have sf3 : wd0.frozen? ⟨w2.heap.size, 17, none⟩ = false := frozen_blk a3.out 17
  have sd4 : wd0.cell? ⟨w2.heap.size, 18, none⟩ = some (.int .i64 0) := (cell_blk a3.out 18).trans rfl
  have sf4 : wd0.frozen? ⟨w2.heap.size, 18, none⟩ = false := frozen_blk a3.out 18
  have sd5 : wd0.cell? ⟨w2.heap.size, 19, none⟩ = some (.int .i64 0) := (cell_blk a3.out 19).trans rfl
  have sf5 : wd0.frozen? ⟨w2.heap.size, 19, none⟩ = false := frozen_blk a3.out 19
  have sd6 : wd0.cell? ⟨w2.heap.size, 20, none⟩ = some (.int .u32 0) := (cell_blk a3.out 20).trans rfl
  have sf6 : wd0.frozen? ⟨w2.heap.size, 20, none⟩ = false := frozen_blk a3.out 20
  have sl := blk_lt a3.out
  go_simp
  try go_wp2_with fail
  refine out_gen hK _ _ (fun wz : World => Kp (Below w.heap.size w wz) ∧ Kp (wz.heap[w2.heap.size]? = some (.cells #[.int .i64 R.op, .int .i64 R.port, .int .u64 R.addr, .slice da R.data.length dc, .slice pa C.parts.length pc, .slice (some ⟨g, o, none⟩) C.chans.length cc, .int .i64 C.l0, .slice a0 C.w0.length c0, .int .i64 C.l1, .slice a1 C.w1.length c1, .int .i64 S.part, .bool S.normal, .slice ma S.made.length mc, .slice va S.valid.length vc, .int .i64 x.kind, .int .i64 x.frm, .int .i64 x.to, .int .i64 x.words, .int .i64 x.depth, .int .i64 x.period, .int .u32 x.boot, .bool false, .bool false] 74 (0, 0))) ∧ wd0.heap.size ≤ wz.heap.size) ⟨⟨(((((((HB3.out.setCell (p := ⟨w2.heap.size, 14, none⟩) (by show w.heap.size ≤ w2.heap.size; omega) _).setCell (p := ⟨w2.heap.size, 15, none⟩) (by show w.heap.size ≤ w2.heap.size; omega) _).setCell (p := ⟨w2.heap.size, 16, none⟩) (by show w.heap.size ≤ w2.heap.size; omega) _).setCell (p := ⟨w2.heap.size, 17, none⟩) (by show w.heap.size ≤ w2.heap.size; omega) _).setCell (p := ⟨w2.heap.size, 18, none⟩) (by show w.heap.size ≤ w2.heap.size; omega) _).setCell (p := ⟨w2.heap.size, 19, none⟩) (by show w.heap.size ≤ w2.heap.size; omega) _).setCell (p := ⟨w2.heap.size, 20, none⟩) (by show w.heap.size ≤ w2.heap.size; omega) _)⟩, ⟨(blk_set (blk_set (blk_set (blk_set (blk_set (blk_set (blk_set a3.out 14 _) 15 _) 16 _) 17 _) 18 _) 19 _) 20 _).trans (by simp only [List.setIfInBounds_toArray, List.set_cons_zero, List.set_cons_succ])⟩, (by simp [World.setCell])⟩ (sx_of1 ((ButB.set (ButB.set (ButB.set (ButB.set (ButB.set (ButB.set (ButB.set (And.left hHeld) (p := ⟨w2.heap.size, 14, none⟩) (by first | (left; simp; done) | (right; show w3.heap.size ≤ w2.heap.size; omega)) _) (p := ⟨w2.heap.size, 15, none⟩) (by first | (left; simp; done) | (right; show w3.heap.size ≤ w2.heap.size; omega)) _) (p := ⟨w2.heap.size, 16, none⟩) (by first | (left; simp; done) | (right; show w3.heap.size ≤ w2.heap.size; omega)) _) (p := ⟨w2.heap.size, 17, none⟩) (by first | (left; simp; done) | (right; show w3.heap.size ≤ w2.heap.size; omega)) _) (p := ⟨w2.heap.size, 18, none⟩) (by first | (left; simp; done) | (right; show w3.heap.size ≤ w2.heap.size; omega)) _) (p := ⟨w2.heap.size, 19, none⟩) (by first | (left; simp; done) | (right; show w3.heap.size ≤ w2.heap.size; omega)) _) (p := ⟨w2.heap.size, 20, none⟩) (by first | (left; simp; done) | (right; show w3.heap.size ≤ w2.heap.size; omega)) _))) (fun wd1 hRn hHn => ?_)
  clear hK K hHeld HB3 a3 sd0 sf0 sd1 sf1 sd2 sf2 sd3 sf3 sd4 sf4 sd5 sf5 sd6 sf6 sl
  obtain ⟨HB3, a3, hsz1⟩ := hRn
  have hHeld := hHn
  clear hHn
  try simp only [Act.put, List.setIfInBounds_toArray, List.set_cons_zero, List.set_cons_succ]
  refine wpAnyH_take (i := 12) (oi := ⟨_, _, _, _, _, _⟩) (v := ?_) rfl (by kernel_rfl) (by kernel_rfl) (by kernel_rfl) (fun _ _ _ h => h) (Or.inl ⟨by rfl, ?_⟩) (by assumption) ?_
  rotate_left 1
  · (intro w hSw; go_simp; try with_reducible rfl)
  try simp only [Act.put, List.setIfInBounds_toArray, List.set_cons_zero, List.set_cons_succ]
  refine wpAnyH_ready (rs := [13]) (by kernel_rfl) (by simp) ?_
  refine (AllReadyH.cons (o := ⟨_, _, _, _, _, _⟩) rfl (fun K hK => ?_) AllReadyH.nil)
  have sd : wd1.cell? ⟨w2.heap.size, 21, none⟩ = some (.bool false) := (cell_blk a3.out 21).trans rfl
  have sf : wd1.frozen? ⟨w2.heap.size, 21, none⟩ = false := frozen_blk a3.out 21
  have sl := blk_lt a3.out
  go_simp
  try go_wp2_with fail
  refine out_gen hK _ _ (fun wz : World => Kp (Below w.heap.size w wz) ∧ Kp (wz.heap[w2.heap.size]? = some (.cells #[.int .i64 R.op, .int .i64 R.port, .int .u64 R.addr, .slice da R.data.length dc, .slice pa C.parts.length pc, .slice (some ⟨g, o, none⟩) C.chans.length cc, .int .i64 C.l0, .slice a0 C.w0.length c0, .int .i64 C.l1, .slice a1 C.w1.length c1, .int .i64 S.part, .bool S.normal, .slice ma S.made.length mc, .slice va S.valid.length vc, .int .i64 x.kind, .int .i64 x.frm, .int .i64 x.to, .int .i64 x.words, .int .i64 x.depth, .int .i64 x.period, .int .u32 x.boot, .bool src, .bool false] 74 (0, 0))) ∧ wd1.heap.size ≤ wz.heap.size) ⟨⟨HB3.out.setCell (p := ⟨w2.heap.size, 21, none⟩) (by show w.heap.size ≤ w2.heap.size; omega) _⟩, ⟨(blk_set a3.out 21 _).trans (by simp only [List.setIfInBounds_toArray, List.set_cons_zero, List.set_cons_succ])⟩, (by simp [World.setCell])⟩ (sx_of1 (ButB.set (And.left hHeld) (p := ⟨w2.heap.size, 21, none⟩) (by first | (left; simp; done) | (right; show w3.heap.size ≤ w2.heap.size; omega)) _)) (fun wd2 hRn hHn => ?_)
  clear hK K hHeld HB3 a3 sd sf sl
  obtain ⟨HB3, a3, hsz2⟩ := hRn
  have hHeld := hHn
  clear hHn
  try simp only [Act.put, List.setIfInBounds_toArray, List.set_cons_zero, List.set_cons_succ]
  refine wpAnyH_take (i := 14) (oi := ⟨_, _, _, _, _, _⟩) (v := ?_) rfl (by kernel_rfl) (by kernel_rfl) (by kernel_rfl) (fun _ _ _ h => h) (Or.inl ⟨by rfl, ?_⟩) (by assumption) ?_
  rotate_left 1
  · (intro w hSw; go_simp; try with_reducible rfl)
  try simp only [Act.put, List.setIfInBounds_toArray, List.set_cons_zero, List.set_cons_succ]
  refine wpAnyH_ready (rs := [15]) (by kernel_rfl) (by simp) ?_
  refine (AllReadyH.cons (o := ⟨_, _, _, _, _, _⟩) rfl (fun K hK => ?_) AllReadyH.nil)
  have sd : wd2.cell? ⟨w2.heap.size, 22, none⟩ = some (.bool false) := (cell_blk a3.out 22).trans rfl
  have sf : wd2.frozen? ⟨w2.heap.size, 22, none⟩ = false := frozen_blk a3.out 22
  have sl := blk_lt a3.out
  go_simp
  try go_wp2_with fail
  refine out_gen hK _ _ (fun wz : World => Kp (Below w.heap.size w wz) ∧ Kp (wz.heap[w2.heap.size]? = some (.cells #[.int .i64 R.op, .int .i64 R.port, .int .u64 R.addr, .slice da R.data.length dc, .slice pa C.parts.length pc, .slice (some ⟨g, o, none⟩) C.chans.length cc, .int .i64 C.l0, .slice a0 C.w0.length c0, .int .i64 C.l1, .slice a1 C.w1.length c1, .int .i64 S.part, .bool S.normal, .slice ma S.made.length mc, .slice va S.valid.length vc, .int .i64 x.kind, .int .i64 x.frm, .int .i64 x.to, .int .i64 x.words, .int .i64 x.depth, .int .i64 x.period, .int .u32 x.boot, .bool src, .bool own] 74 (0, 0))) ∧ wd2.heap.size ≤ wz.heap.size) ⟨⟨HB3.out.setCell (p := ⟨w2.heap.size, 22, none⟩) (by show w.heap.size ≤ w2.heap.size; omega) _⟩, ⟨(blk_set a3.out 22 _).trans (by simp only [List.setIfInBounds_toArray, List.set_cons_zero, List.set_cons_succ])⟩, (by simp [World.setCell])⟩ (sx_of1 (ButB.set (And.left hHeld) (p := ⟨w2.heap.size, 22, none⟩) (by first | (left; simp; done) | (right; show w3.heap.size ≤ w2.heap.size; omega)) _)) (fun wd3 hRn hHn => ?_)
  clear hK K hHeld HB3 a3 sd sf sl
  obtain ⟨HB3, a3, hsz3⟩ := hRn
  have hHeld := hHn
  clear hHn
  try simp only [Act.put, List.setIfInBounds_toArray, List.set_cons_zero, List.set_cons_succ]
  refine wpAnyH_done (by kernel_rfl) ?_ _
  have HA2 : Kp (AskAt wd3 (.agg #[.int .i64 R.op, .int .i64 R.port, .int .u64 R.addr, .slice da R.data.length dc, .slice pa C.parts.length pc, .slice (some ⟨g, o, none⟩) C.chans.length cc, .int .i64 C.l0, .slice a0 C.w0.length c0, .int .i64 C.l1, .slice a1 C.w1.length c1, .int .i64 S.part, .bool S.normal, .slice ma S.made.length mc, .slice va S.valid.length vc, .int .i64 x.kind, .int .i64 x.frm, .int .i64 x.to, .int .i64 x.words, .int .i64 x.depth, .int .i64 x.period, .int .u32 x.boot, .bool src, .bool own]) C S R x src own) := ⟨⟨da, dc, pa, pc, _, cc, a0, c0, a1, c1, ma, mc, va, vc, rfl, HR.out.below HB3.out, HC.out.below HB3.out, HS.out.below HB3.out⟩⟩
  go_wp2_with fail
  refine (rows_any _).mono ?_
  rintro e w21 ⟨B, rfl, hR, hb, hBl⟩
  have HB21 : Kp (Below w.heap.size w w21) := ⟨below_call HB3.out hb⟩
  have a21 : Kp (w21.heap[w2.heap.size]? = some (.cells #[.int .i64 R.op, .int .i64 R.port, .int .u64 R.addr, .slice da R.data.length dc, .slice pa C.parts.length pc, .slice (some ⟨g, o, none⟩) C.chans.length cc, .int .i64 C.l0, .slice a0 C.w0.length c0, .int .i64 C.l1, .slice a1 C.w1.length c1, .int .i64 S.part, .bool S.normal, .slice ma S.made.length mc, .slice va S.valid.length vc, .int .i64 x.kind, .int .i64 x.frm, .int .i64 x.to, .int .i64 x.words, .int .i64 x.depth, .int .i64 x.period, .int .u32 x.boot, .bool src, .bool own] 74 (0, 0))) := ⟨blk_below a3.out hb⟩
  have HA221 : Kp (AskAt w21 (.agg #[.int .i64 R.op, .int .i64 R.port, .int .u64 R.addr, .slice da R.data.length dc, .slice pa C.parts.length pc, .slice (some ⟨g, o, none⟩) C.chans.length cc, .int .i64 C.l0, .slice a0 C.w0.length c0, .int .i64 C.l1, .slice a1 C.w1.length c1, .int .i64 S.part, .bool S.normal, .slice ma S.made.length mc, .slice va S.valid.length vc, .int .i64 x.kind, .int .i64 x.frm, .int .i64 x.to, .int .i64 x.words, .int .i64 x.depth, .int .i64 x.period, .int .u32 x.boot, .bool src, .bool own]) C S R x src own) := ⟨HA2.out.below hb⟩
  have RW21 : Kp (RowsAt w21 B) := ⟨hR.out⟩
  clear HB3 a3 HA2 hb
  clear hR hBl
  go_wp2_with fail
  go_loopw [70] (fun i wr => ∃ k : Nat, k ≤ 13 ∧ i = .int .i64 k ∧ Kp (Below w21.heap.size w21 wr) ∧ Kp (firstR (askD C S R x src own) k = none)) (fun i wr => 13 - (intOf i).toNat)
  case atStart => exact ⟨0, Nat.zero_le _, rfl, ⟨Below.refl _ _⟩, ⟨rfl⟩⟩
  case round =>
    obtain ⟨k, hk, rfl, HL, HF⟩ := hrel
    by_cases hlt : k < 13
    · obtain ⟨fs, hfs, hrs⟩ := (RW21.out.below HL.out)
      obtain ⟨f, e0', e1', e2', hok⟩ := hrs k hlt
      obtain ⟨bs, hbs, fn, caps, rfl, hE, hcall⟩ := hok
      obtain ⟨sk, hsk⟩ : ∃ sk, opsS k = sk := ⟨_, rfl⟩
      rw [hsk] at e0'
      have HSK := Kp.mk hsk
      obtain ⟨ck, hck⟩ : ∃ ck, codeR k = ck := ⟨_, rfl⟩
      rw [hck] at e2'
      have HCK := Kp.mk hck
      have e0 : wr.cell? ⟨B, k * 3, none⟩ = some (.string sk) := (cell_blk hfs (k * 3)).trans e0'
      have e1 : wr.cell? ⟨B, k * 3 + 1, none⟩ = some (.func (.func fn) #[] caps) := (cell_blk hfs (k * 3 + 1)).trans e1'
      have e2 : wr.cell? ⟨B, k * 3 + 2, none⟩ = some (.int .i64 ck) := (cell_blk hfs (k * 3 + 2)).trans e2'
      have hBl := blk_lt hfs
      have HBS := Kp.mk hbs
      have HCALL := Kp.mk hcall
      have hE' := hE.out
      have hk0 := nat_nn k
      have hk13 : (k : Int) < 13 := by omega
      have HSZ : Kp (sk.size ≤ 5) := ⟨by rw [← hsk]; exact opsS_size k hlt⟩
      have HAW : Kp (wr.heap[w2.heap.size]? = some (.cells #[.int .i64 R.op, .int .i64 R.port, .int .u64 R.addr, .slice da R.data.length dc, .slice pa C.parts.length pc, .slice (some ⟨g, o, none⟩) C.chans.length cc, .int .i64 C.l0, .slice a0 C.w0.length c0, .int .i64 C.l1, .slice a1 C.w1.length c1, .int .i64 S.part, .bool S.normal, .slice ma S.made.length mc, .slice va S.valid.length vc, .int .i64 x.kind, .int .i64 x.frm, .int .i64 x.to, .int .i64 x.words, .int .i64 x.depth, .int .i64 x.period, .int .u32 x.boot, .bool src, .bool own] 74 (0, 0))) := ⟨blk_below a21.out HL.out⟩
      obtain ⟨b, hb0⟩ : ∃ b, (bytesI sk).contains dg = b := ⟨_, rfl⟩
      have HBB := Kp.mk hb0
      have HHIT : Kp (hitR (askD C S R x src own) k = (b && holdR (askD C S R x src own) k)) := ⟨by
        rw [hitR, ← hb0, ← hsk, ← HDG.out, opsS_ops k hlt R.op ho.1 ho.2]; rfl⟩
      have HLN : Kp ((bytesI sk).length ≤ 1000000) := ⟨by
        have hl : (bytesI sk).length = sk.size := by rw [bytesI, List.length_map, Array.length_toList]; rfl
        have := HSZ.out
        omega⟩
      clear hfs hrs e0' e1' e2' hbs hcall hE hb0 hsk hck
      go_wp2_with (with_reducible refine stop_at (.convert 9 70 (.tmp 75)) ?_ ?_; rfl)
      refine ⟨wpList_bytes rfl 9 70 (.tmp 75) rfl sk (by go_simp) 5 Tryd.underlying9 Tryd.underlying70 Tryd.underlying5 (by have := HSZ.out; unfold maxLen; omega) ?_⟩
      intro cap wc hrow hbc
      have HLC : Kp (Below w21.heap.size w21 wc) := ⟨below_call (below_al HL.out _) hbc⟩
      have HXC : Kp (wc.heap[wr.heap.size]? = some (.cells #[.string sk, .func (.func fn) #[] caps, .int .i64 ck] 79 (0, 0))) := ⟨blk_below (blk_new wr _) hbc⟩
      have HAC : Kp (wc.heap[w2.heap.size]? = some (.cells #[.int .i64 R.op, .int .i64 R.port, .int .u64 R.addr, .slice da R.data.length dc, .slice pa C.parts.length pc, .slice (some ⟨g, o, none⟩) C.chans.length cc, .int .i64 C.l0, .slice a0 C.w0.length c0, .int .i64 C.l1, .slice a1 C.w1.length c1, .int .i64 S.part, .bool S.normal, .slice ma S.made.length mc, .slice va S.valid.length vc, .int .i64 x.kind, .int .i64 x.frm, .int .i64 x.to, .int .i64 x.words, .int .i64 x.depth, .int .i64 x.period, .int .u32 x.boot, .bool src, .bool own] 74 (0, 0))) := ⟨blk_below (blk_al HAW.out _) hbc⟩
      have HKC : Kp (Below wr.heap.size wr wc) := ⟨below_call (below_al (Below.refl _ _) _) hbc⟩
      rw [show (wr.alloc (.cells #[.string sk, .func (.func fn) #[] caps, .int .i64 ck] 79)).heap.size = wr.heap.size + 1 by simp] at hrow
      have HROW := Kp.mk hrow
      clear hrow hbc e0 e1 e2 hBl
      go_wp2_with fail
      refine (containsU8_any _ (bytesI sk) dg b HBB.out _ HROW.out HLN.out).mono ?_
      rintro e w8 ⟨rfl, hb8⟩
      have HL8 : Kp (Below w21.heap.size w21 w8) := ⟨below_call HLC.out hb8⟩
      have HX8 : Kp (w8.heap[wr.heap.size]? = some (.cells #[.string sk, .func (.func fn) #[] caps, .int .i64 ck] 79 (0, 0))) := ⟨blk_below HXC.out hb8⟩
      have HA8 : Kp (w8.heap[w2.heap.size]? = some (.cells #[.int .i64 R.op, .int .i64 R.port, .int .u64 R.addr, .slice da R.data.length dc, .slice pa C.parts.length pc, .slice (some ⟨g, o, none⟩) C.chans.length cc, .int .i64 C.l0, .slice a0 C.w0.length c0, .int .i64 C.l1, .slice a1 C.w1.length c1, .int .i64 S.part, .bool S.normal, .slice ma S.made.length mc, .slice va S.valid.length vc, .int .i64 x.kind, .int .i64 x.frm, .int .i64 x.to, .int .i64 x.words, .int .i64 x.depth, .int .i64 x.period, .int .u32 x.boot, .bool src, .bool own] 74 (0, 0))) := ⟨blk_below HAC.out hb8⟩
      have HK8 : Kp (KeepB bs wr w8) := ⟨KeepB.of_below HBS.out (below_call HKC.out hb8)⟩
      have x0 : w8.cell? ⟨wr.heap.size, 1, none⟩ = some (.func (.func fn) #[] caps) := (cell_blk HX8.out 1).trans rfl
      have x1 : w8.cell? ⟨wr.heap.size, 2, none⟩ = some (.int .i64 ck) := (cell_blk HX8.out 2).trans rfl
      have xl := blk_lt HX8.out
      clear hb8
      cases b with
      | false =>
        have HN1 : Kp (firstR (askD C S R x src own) (k + 1) = none) := ⟨firstR_not HF.out (by rw [HHIT.out]; rfl)⟩
        go_wp2
        go_roundw
        case rel => exact ⟨k + 1, by omega, by go_num, HL8, HN1⟩
        case measure => simp [intOf]; omega
      | true =>
        go_wp2_with (with_reducible refine wpList_load_whole_g 74 (.tmp 7) ?_ ?_ (w2.heap.size) ?_ [.int .i64 R.op, .int .i64 R.port, .int .u64 R.addr, .slice da R.data.length dc, .slice pa C.parts.length pc, .slice (some ⟨g, o, none⟩) C.chans.length cc, .int .i64 C.l0, .slice a0 C.w0.length c0, .int .i64 C.l1, .slice a1 C.w1.length c1, .int .i64 S.part, .bool S.normal, .slice ma S.made.length mc, .slice va S.valid.length vc, .int .i64 x.kind, .int .i64 x.frm, .int .i64 x.to, .int .i64 x.words, .int .i64 x.depth, .int .i64 x.period, .int .u32 x.boot, .bool src, .bool own] 74 (0, 0) (HA8.out) _ Tryd.underlying74 ?_ ?_ ?_; rfl; go_simp; go_simp; rfl; kernel_rfl)
        refine (HCALL.out w8 _ C S R x src own HK8.out (HA221.out.below HL8.out) hsm hm hd).mono ?_
        cases hh : holdR (askD C S R x src own) k with
        | false =>
          rintro e w9 ⟨rfl, hb9⟩
          have HL9 : Kp (Below w21.heap.size w21 w9) := ⟨below_call HL8.out hb9⟩
          have HN1 : Kp (firstR (askD C S R x src own) (k + 1) = none) := ⟨firstR_not HF.out (by rw [HHIT.out, hh]; rfl)⟩
          clear hb9 hh
          go_wp2
          go_roundw
          case rel => exact ⟨k + 1, by omega, by go_num, HL9, HN1⟩
          case measure => simp [intOf]; omega
        | true =>
          rintro e w9 ⟨rfl, hb9⟩
          have HL9 : Kp (Below w21.heap.size w21 w9) := ⟨below_call HL8.out hb9⟩
          have y1 : w9.cell? ⟨wr.heap.size, 2, none⟩ = some (.int .i64 ck) := (cell_blk (blk_below HX8.out hb9) 2).trans rfl
          have HRES : Kp (refV C S R = ck) := ⟨by
            have h1 := firstR_keeps (firstR_hit HF.out (by rw [HHIT.out, hh]; rfl)) 13 (by omega)
            rw [HV.out, h1, Option.getD_some, HCK.out]⟩
          clear hb9 hh x0 x1
          go_wp2
          go_ret
          exact ⟨by rw [HRES.out]; rfl, below_call HB21.out HL9.out⟩
    · obtain rfl : k = 13 := by omega
      have HRES : Kp (refV C S R = 0) := ⟨by rw [HV.out, HF.out]; rfl⟩
      go_wp2
      go_ret
      exact ⟨by rw [HRES.out]; rfl, below_call HB21.out HL.out⟩
  

theorem refused_any (cv sv rv : Value) (C : Cfg) (S : Std) (R : Rqt) (hsm : C.small) (hm : S.made.length ≤ 100) (hd : R.data.length ≤ 100) (w : World) (hN : NamesAt w) (hc : CfgAt w cv C) (hs : StdAt w sv S) (hr : RqtAt w rv R) : Calls Tryd.prog 14 #[cv, sv, rv] w fun e w' => e = .returned (.int .i64 (refV C S R)) ∧ Below w.heap.size w w' := by
  cases ha : accB C with
  | false => exact refused_acc cv sv rv C S R hsm hm hd ha w hN hc hs hr
  | true =>
    by_cases h0 : S.part < 0
    · exact refused_neg cv sv rv C S R hsm hm hd ha h0 w hN hc hs hr
    · by_cases h1 : (C.parts.length : Int) ≤ S.part
      · exact refused_big cv sv rv C S R hsm hm hd ha h1 w hN hc hs hr
      · by_cases ho : 1 ≤ R.op ∧ R.op ≤ 9
        · cases hi : (portV C R.port).is with
          | false => exact refused_none cv sv rv C S R hsm hm hd ha (by omega) (by omega) ho hi w hN hc hs hr
          | true => exact refused_port cv sv rv C S R hsm hm hd ha (by omega) (by omega) ho hi w hN hc hs hr
        · exact refused_op cv sv rv C S R hsm hm hd ha (by omega) (by omega) ho w hN hc hs hr
end Go.Proofs.YtdajadfgiifioaaDoor

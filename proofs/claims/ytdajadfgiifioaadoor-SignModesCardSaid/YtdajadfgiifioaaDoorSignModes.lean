/- The law SignModes. -/
import Derived.Test.YtdajadfgiifioaaDoorSgn9
namespace Go.Proofs.YtdajadfgiifioaaDoor
open Go.RowKit
set_option linter.unusedSimpArgs false
set_option linter.unusedVariables false

theorem modes_on (C : Cfg) (S : Std) (R : Rqt) (hn : S.normal = true) (ho : R.op = 1 ∨ R.op = 2) : refV C S R ≠ 0 := by
  by_cases h : accB C = true ∧ 0 ≤ S.part ∧ S.part < C.parts.length
  · rw [refV_yes C S R h (by omega), docV_first _ (by show 1 ≤ R.op; omega) (by show R.op ≤ 9; omega)]
    have hN : (askV C S R).normal = true := hn
    rcases ho with ho | ho
    · rw [docV, if_pos (show (askV C S R).op = 1 from ho), hN]
      cases (askV C S R).own <;> cases (askV C S R).made <;> decide
    · rw [docV, if_neg (by show ¬ R.op = 1; omega), if_pos (show (askV C S R).op = 2 from ho), hN]
      decide
  · rw [refV_no C S R h]; decide
theorem modes_off (C : Cfg) (S : Std) (R : Rqt) (hn : S.normal = false) (ho : 3 ≤ R.op ∧ R.op ≤ 7) : refV C S R ≠ 0 := by
  by_cases h : accB C = true ∧ 0 ≤ S.part ∧ S.part < C.parts.length
  · rw [refV_yes C S R h (by omega), docV_first _ (by show 1 ≤ R.op; omega) (by show R.op ≤ 9; omega)]
    have hN : (askV C S R).normal = false := hn
    rw [docV, if_neg (by show ¬ R.op = 1; omega), if_neg (by show ¬ R.op = 2; omega), if_pos (show 3 ≤ (askV C S R).op ∧ (askV C S R).op ≤ 7 from ho), talkV, hN]
    cases (askV C S R).own <;> cases (askV C S R).made <;> simp
  · rw [refV_no C S R h]; decide

set_option maxRecDepth 100000 in
set_option maxHeartbeats 8000000 in
theorem signModes_great (cv sv rv : Value) (C : Cfg) (S : Std) (R : Rqt) (hg : C.great = true) (w : World) (hN : NamesAt w) (hc : CfgAt w cv C) (hs : StdAt w sv S) (hr : RqtAt w rv R) : Calls Tryd.prog 6 #[cv, sv, rv] w fun e w' => e = .returned (.bool true) ∧ Below w.heap.size w w' := by
  have HN := Kp.mk hN
  clear hN
  have HG := Kp.mk hg
  clear hg
  have HC := Kp.mk hc
  have HS := Kp.mk hs
  have HR := Kp.mk hr
  obtain ⟨_, pa, pc, ca, cc, a0, c0, a1, c1, rfl, bp, bc, b0, b1, gp, gc, gw0, gw1⟩ := hc
  obtain ⟨_, ma, mc, va, vc, rfl, bm, bv, gm, gv⟩ := hs
  obtain ⟨ir, da, dc, rfl, bd, gd⟩ := hr
  clear gp gw0 gw1 gm gv gd bp b0 b1
  clear ir gc bc bm bv bd
  go_enter Tryd.func6, Tryd.ntmps6
  have HB0 : Kp (Below w.heap.size w w) := ⟨Below.refl _ _⟩
  go_wp2_with fail
  refine (wakes10_any _ (HN.out.below (below_al (below_al (below_al HB0.out _) _) _))).mono ?_
  rintro e w1 ⟨rfl, hb⟩
  have q1 : Kp (w1.heap[w.heap.size]? = some (.cells #[.slice pa C.parts.length pc, .slice ca C.chans.length cc, .int .i64 C.l0, .slice a0 C.w0.length c0, .int .i64 C.l1, .slice a1 C.w1.length c1] 29 (0, 0))) := ⟨blk_below (blk_al (blk_al (blk_new _ _) _) _) hb⟩
  have s1 : Kp (w1.heap[w.heap.size + 1]? = some (.cells #[.int .i64 S.part, .bool S.normal, .slice ma S.made.length mc, .slice va S.valid.length vc] 40 (0, 0))) := ⟨blk_below (blk_al (blk_at (w := (w.alloc (.cells #[.slice pa C.parts.length pc, .slice ca C.chans.length cc, .int .i64 C.l0, .slice a0 C.w0.length c0, .int .i64 C.l1, .slice a1 C.w1.length c1] 29))) (by simp) _) _) hb⟩
  have r1 : Kp (w1.heap[w.heap.size + 1 + 1]? = some (.cells #[.int .i64 R.op, .int .i64 R.port, .int .u64 R.addr, .slice da R.data.length dc] 44 (0, 0))) := ⟨blk_below (blk_at (w := ((w.alloc (.cells #[.slice pa C.parts.length pc, .slice ca C.chans.length cc, .int .i64 C.l0, .slice a0 C.w0.length c0, .int .i64 C.l1, .slice a1 C.w1.length c1] 29)).alloc (.cells #[.int .i64 S.part, .bool S.normal, .slice ma S.made.length mc, .slice va S.valid.length vc] 40))) (by simp) _) hb⟩
  have HB1 : Kp (Below w.heap.size w w1) := ⟨below_call (below_al (below_al (below_al HB0.out _) _) _) hb⟩
  clear HB0 hb
  have qc0 : w1.cell? ⟨w.heap.size, 0, none⟩ = some (.slice pa C.parts.length pc) := (cell_blk q1.out 0).trans rfl
  have qc1 : w1.cell? ⟨w.heap.size, 1, none⟩ = some (.slice ca C.chans.length cc) := (cell_blk q1.out 1).trans rfl
  have qc2 : w1.cell? ⟨w.heap.size, 2, none⟩ = some (.int .i64 C.l0) := (cell_blk q1.out 2).trans rfl
  have qc3 : w1.cell? ⟨w.heap.size, 3, none⟩ = some (.slice a0 C.w0.length c0) := (cell_blk q1.out 3).trans rfl
  have qc4 : w1.cell? ⟨w.heap.size, 4, none⟩ = some (.int .i64 C.l1) := (cell_blk q1.out 4).trans rfl
  have qc5 : w1.cell? ⟨w.heap.size, 5, none⟩ = some (.slice a1 C.w1.length c1) := (cell_blk q1.out 5).trans rfl
  have ql := blk_lt q1.out
  have sc0 : w1.cell? ⟨w.heap.size + 1, 0, none⟩ = some (.int .i64 S.part) := (cell_blk s1.out 0).trans rfl
  have sc1 : w1.cell? ⟨w.heap.size + 1, 1, none⟩ = some (.bool S.normal) := (cell_blk s1.out 1).trans rfl
  have sc2 : w1.cell? ⟨w.heap.size + 1, 2, none⟩ = some (.slice ma S.made.length mc) := (cell_blk s1.out 2).trans rfl
  have sc3 : w1.cell? ⟨w.heap.size + 1, 3, none⟩ = some (.slice va S.valid.length vc) := (cell_blk s1.out 3).trans rfl
  have sl := blk_lt s1.out
  have rc0 : w1.cell? ⟨w.heap.size + 1 + 1, 0, none⟩ = some (.int .i64 R.op) := (cell_blk r1.out 0).trans rfl
  have rc1 : w1.cell? ⟨w.heap.size + 1 + 1, 1, none⟩ = some (.int .i64 R.port) := (cell_blk r1.out 1).trans rfl
  have rc2 : w1.cell? ⟨w.heap.size + 1 + 1, 2, none⟩ = some (.int .u64 R.addr) := (cell_blk r1.out 2).trans rfl
  have rc3 : w1.cell? ⟨w.heap.size + 1 + 1, 3, none⟩ = some (.slice da R.data.length dc) := (cell_blk r1.out 3).trans rfl
  have rl := blk_lt r1.out
  go_wp2_with fail
  refine (great_any _ C _ (HC.out.below HB1.out)).mono ?_
  rw [HG.out]
  rintro e w2 ⟨rfl, hb⟩
  have q2 : Kp (w2.heap[w.heap.size]? = some (.cells #[.slice pa C.parts.length pc, .slice ca C.chans.length cc, .int .i64 C.l0, .slice a0 C.w0.length c0, .int .i64 C.l1, .slice a1 C.w1.length c1] 29 (0, 0))) := ⟨blk_below q1.out hb⟩
  have s2 : Kp (w2.heap[w.heap.size + 1]? = some (.cells #[.int .i64 S.part, .bool S.normal, .slice ma S.made.length mc, .slice va S.valid.length vc] 40 (0, 0))) := ⟨blk_below s1.out hb⟩
  have r2 : Kp (w2.heap[w.heap.size + 1 + 1]? = some (.cells #[.int .i64 R.op, .int .i64 R.port, .int .u64 R.addr, .slice da R.data.length dc] 44 (0, 0))) := ⟨blk_below r1.out hb⟩
  have HB2 : Kp (Below w.heap.size w w2) := ⟨below_call HB1.out hb⟩
  clear qc0 qc1 qc2 qc3 qc4 qc5 ql sc0 sc1 sc2 sc3 sl rc0 rc1 rc2 rc3 rl q1 s1 r1 HB1 hb
  have qc0 : w2.cell? ⟨w.heap.size, 0, none⟩ = some (.slice pa C.parts.length pc) := (cell_blk q2.out 0).trans rfl
  have qc1 : w2.cell? ⟨w.heap.size, 1, none⟩ = some (.slice ca C.chans.length cc) := (cell_blk q2.out 1).trans rfl
  have qc2 : w2.cell? ⟨w.heap.size, 2, none⟩ = some (.int .i64 C.l0) := (cell_blk q2.out 2).trans rfl
  have qc3 : w2.cell? ⟨w.heap.size, 3, none⟩ = some (.slice a0 C.w0.length c0) := (cell_blk q2.out 3).trans rfl
  have qc4 : w2.cell? ⟨w.heap.size, 4, none⟩ = some (.int .i64 C.l1) := (cell_blk q2.out 4).trans rfl
  have qc5 : w2.cell? ⟨w.heap.size, 5, none⟩ = some (.slice a1 C.w1.length c1) := (cell_blk q2.out 5).trans rfl
  have ql := blk_lt q2.out
  have sc0 : w2.cell? ⟨w.heap.size + 1, 0, none⟩ = some (.int .i64 S.part) := (cell_blk s2.out 0).trans rfl
  have sc1 : w2.cell? ⟨w.heap.size + 1, 1, none⟩ = some (.bool S.normal) := (cell_blk s2.out 1).trans rfl
  have sc2 : w2.cell? ⟨w.heap.size + 1, 2, none⟩ = some (.slice ma S.made.length mc) := (cell_blk s2.out 2).trans rfl
  have sc3 : w2.cell? ⟨w.heap.size + 1, 3, none⟩ = some (.slice va S.valid.length vc) := (cell_blk s2.out 3).trans rfl
  have sl := blk_lt s2.out
  have rc0 : w2.cell? ⟨w.heap.size + 1 + 1, 0, none⟩ = some (.int .i64 R.op) := (cell_blk r2.out 0).trans rfl
  have rc1 : w2.cell? ⟨w.heap.size + 1 + 1, 1, none⟩ = some (.int .i64 R.port) := (cell_blk r2.out 1).trans rfl
  have rc2 : w2.cell? ⟨w.heap.size + 1 + 1, 2, none⟩ = some (.int .u64 R.addr) := (cell_blk r2.out 2).trans rfl
  have rc3 : w2.cell? ⟨w.heap.size + 1 + 1, 3, none⟩ = some (.slice da R.data.length dc) := (cell_blk r2.out 3).trans rfl
  have rl := blk_lt r2.out
  go_wp2
  go_ret
  exact ⟨rfl, HB2.out⟩

set_option maxRecDepth 100000 in
set_option maxHeartbeats 8000000 in
theorem signModes_made (cv sv rv : Value) (C : Cfg) (S : Std) (R : Rqt) (hg : C.great = false) (hm : 60 < (S.made.length : Int)) (w : World) (hN : NamesAt w) (hc : CfgAt w cv C) (hs : StdAt w sv S) (hr : RqtAt w rv R) : Calls Tryd.prog 6 #[cv, sv, rv] w fun e w' => e = .returned (.bool true) ∧ Below w.heap.size w w' := by
  have HN := Kp.mk hN
  clear hN
  have HG := Kp.mk hg
  clear hg
  have HC := Kp.mk hc
  have HS := Kp.mk hs
  have HR := Kp.mk hr
  obtain ⟨_, pa, pc, ca, cc, a0, c0, a1, c1, rfl, bp, bc, b0, b1, gp, gc, gw0, gw1⟩ := hc
  obtain ⟨_, ma, mc, va, vc, rfl, bm, bv, gm, gv⟩ := hs
  obtain ⟨ir, da, dc, rfl, bd, gd⟩ := hr
  clear gp gw0 gw1 gm gv gd bp b0 b1
  clear ir gc bc bm bv bd
  go_enter Tryd.func6, Tryd.ntmps6
  have HB0 : Kp (Below w.heap.size w w) := ⟨Below.refl _ _⟩
  go_wp2_with fail
  refine (wakes10_any _ (HN.out.below (below_al (below_al (below_al HB0.out _) _) _))).mono ?_
  rintro e w1 ⟨rfl, hb⟩
  have q1 : Kp (w1.heap[w.heap.size]? = some (.cells #[.slice pa C.parts.length pc, .slice ca C.chans.length cc, .int .i64 C.l0, .slice a0 C.w0.length c0, .int .i64 C.l1, .slice a1 C.w1.length c1] 29 (0, 0))) := ⟨blk_below (blk_al (blk_al (blk_new _ _) _) _) hb⟩
  have s1 : Kp (w1.heap[w.heap.size + 1]? = some (.cells #[.int .i64 S.part, .bool S.normal, .slice ma S.made.length mc, .slice va S.valid.length vc] 40 (0, 0))) := ⟨blk_below (blk_al (blk_at (w := (w.alloc (.cells #[.slice pa C.parts.length pc, .slice ca C.chans.length cc, .int .i64 C.l0, .slice a0 C.w0.length c0, .int .i64 C.l1, .slice a1 C.w1.length c1] 29))) (by simp) _) _) hb⟩
  have r1 : Kp (w1.heap[w.heap.size + 1 + 1]? = some (.cells #[.int .i64 R.op, .int .i64 R.port, .int .u64 R.addr, .slice da R.data.length dc] 44 (0, 0))) := ⟨blk_below (blk_at (w := ((w.alloc (.cells #[.slice pa C.parts.length pc, .slice ca C.chans.length cc, .int .i64 C.l0, .slice a0 C.w0.length c0, .int .i64 C.l1, .slice a1 C.w1.length c1] 29)).alloc (.cells #[.int .i64 S.part, .bool S.normal, .slice ma S.made.length mc, .slice va S.valid.length vc] 40))) (by simp) _) hb⟩
  have HB1 : Kp (Below w.heap.size w w1) := ⟨below_call (below_al (below_al (below_al HB0.out _) _) _) hb⟩
  clear HB0 hb
  have qc0 : w1.cell? ⟨w.heap.size, 0, none⟩ = some (.slice pa C.parts.length pc) := (cell_blk q1.out 0).trans rfl
  have qc1 : w1.cell? ⟨w.heap.size, 1, none⟩ = some (.slice ca C.chans.length cc) := (cell_blk q1.out 1).trans rfl
  have qc2 : w1.cell? ⟨w.heap.size, 2, none⟩ = some (.int .i64 C.l0) := (cell_blk q1.out 2).trans rfl
  have qc3 : w1.cell? ⟨w.heap.size, 3, none⟩ = some (.slice a0 C.w0.length c0) := (cell_blk q1.out 3).trans rfl
  have qc4 : w1.cell? ⟨w.heap.size, 4, none⟩ = some (.int .i64 C.l1) := (cell_blk q1.out 4).trans rfl
  have qc5 : w1.cell? ⟨w.heap.size, 5, none⟩ = some (.slice a1 C.w1.length c1) := (cell_blk q1.out 5).trans rfl
  have ql := blk_lt q1.out
  have sc0 : w1.cell? ⟨w.heap.size + 1, 0, none⟩ = some (.int .i64 S.part) := (cell_blk s1.out 0).trans rfl
  have sc1 : w1.cell? ⟨w.heap.size + 1, 1, none⟩ = some (.bool S.normal) := (cell_blk s1.out 1).trans rfl
  have sc2 : w1.cell? ⟨w.heap.size + 1, 2, none⟩ = some (.slice ma S.made.length mc) := (cell_blk s1.out 2).trans rfl
  have sc3 : w1.cell? ⟨w.heap.size + 1, 3, none⟩ = some (.slice va S.valid.length vc) := (cell_blk s1.out 3).trans rfl
  have sl := blk_lt s1.out
  have rc0 : w1.cell? ⟨w.heap.size + 1 + 1, 0, none⟩ = some (.int .i64 R.op) := (cell_blk r1.out 0).trans rfl
  have rc1 : w1.cell? ⟨w.heap.size + 1 + 1, 1, none⟩ = some (.int .i64 R.port) := (cell_blk r1.out 1).trans rfl
  have rc2 : w1.cell? ⟨w.heap.size + 1 + 1, 2, none⟩ = some (.int .u64 R.addr) := (cell_blk r1.out 2).trans rfl
  have rc3 : w1.cell? ⟨w.heap.size + 1 + 1, 3, none⟩ = some (.slice da R.data.length dc) := (cell_blk r1.out 3).trans rfl
  have rl := blk_lt r1.out
  go_wp2_with fail
  refine (great_any _ C _ (HC.out.below HB1.out)).mono ?_
  rw [HG.out]
  rintro e w2 ⟨rfl, hb⟩
  have q2 : Kp (w2.heap[w.heap.size]? = some (.cells #[.slice pa C.parts.length pc, .slice ca C.chans.length cc, .int .i64 C.l0, .slice a0 C.w0.length c0, .int .i64 C.l1, .slice a1 C.w1.length c1] 29 (0, 0))) := ⟨blk_below q1.out hb⟩
  have s2 : Kp (w2.heap[w.heap.size + 1]? = some (.cells #[.int .i64 S.part, .bool S.normal, .slice ma S.made.length mc, .slice va S.valid.length vc] 40 (0, 0))) := ⟨blk_below s1.out hb⟩
  have r2 : Kp (w2.heap[w.heap.size + 1 + 1]? = some (.cells #[.int .i64 R.op, .int .i64 R.port, .int .u64 R.addr, .slice da R.data.length dc] 44 (0, 0))) := ⟨blk_below r1.out hb⟩
  have HB2 : Kp (Below w.heap.size w w2) := ⟨below_call HB1.out hb⟩
  clear qc0 qc1 qc2 qc3 qc4 qc5 ql sc0 sc1 sc2 sc3 sl rc0 rc1 rc2 rc3 rl q1 s1 r1 HB1 hb
  have qc0 : w2.cell? ⟨w.heap.size, 0, none⟩ = some (.slice pa C.parts.length pc) := (cell_blk q2.out 0).trans rfl
  have qc1 : w2.cell? ⟨w.heap.size, 1, none⟩ = some (.slice ca C.chans.length cc) := (cell_blk q2.out 1).trans rfl
  have qc2 : w2.cell? ⟨w.heap.size, 2, none⟩ = some (.int .i64 C.l0) := (cell_blk q2.out 2).trans rfl
  have qc3 : w2.cell? ⟨w.heap.size, 3, none⟩ = some (.slice a0 C.w0.length c0) := (cell_blk q2.out 3).trans rfl
  have qc4 : w2.cell? ⟨w.heap.size, 4, none⟩ = some (.int .i64 C.l1) := (cell_blk q2.out 4).trans rfl
  have qc5 : w2.cell? ⟨w.heap.size, 5, none⟩ = some (.slice a1 C.w1.length c1) := (cell_blk q2.out 5).trans rfl
  have ql := blk_lt q2.out
  have sc0 : w2.cell? ⟨w.heap.size + 1, 0, none⟩ = some (.int .i64 S.part) := (cell_blk s2.out 0).trans rfl
  have sc1 : w2.cell? ⟨w.heap.size + 1, 1, none⟩ = some (.bool S.normal) := (cell_blk s2.out 1).trans rfl
  have sc2 : w2.cell? ⟨w.heap.size + 1, 2, none⟩ = some (.slice ma S.made.length mc) := (cell_blk s2.out 2).trans rfl
  have sc3 : w2.cell? ⟨w.heap.size + 1, 3, none⟩ = some (.slice va S.valid.length vc) := (cell_blk s2.out 3).trans rfl
  have sl := blk_lt s2.out
  have rc0 : w2.cell? ⟨w.heap.size + 1 + 1, 0, none⟩ = some (.int .i64 R.op) := (cell_blk r2.out 0).trans rfl
  have rc1 : w2.cell? ⟨w.heap.size + 1 + 1, 1, none⟩ = some (.int .i64 R.port) := (cell_blk r2.out 1).trans rfl
  have rc2 : w2.cell? ⟨w.heap.size + 1 + 1, 2, none⟩ = some (.int .u64 R.addr) := (cell_blk r2.out 2).trans rfl
  have rc3 : w2.cell? ⟨w.heap.size + 1 + 1, 3, none⟩ = some (.slice da R.data.length dc) := (cell_blk r2.out 3).trans rfl
  have rl := blk_lt r2.out
  go_wp2
  go_ret
  exact ⟨rfl, HB2.out⟩

set_option maxRecDepth 100000 in
set_option maxHeartbeats 8000000 in
theorem signModes_data (cv sv rv : Value) (C : Cfg) (S : Std) (R : Rqt) (hg : C.great = false) (hm : ¬ 60 < (S.made.length : Int)) (hd : 100 < (R.data.length : Int)) (w : World) (hN : NamesAt w) (hc : CfgAt w cv C) (hs : StdAt w sv S) (hr : RqtAt w rv R) : Calls Tryd.prog 6 #[cv, sv, rv] w fun e w' => e = .returned (.bool true) ∧ Below w.heap.size w w' := by
  have HN := Kp.mk hN
  clear hN
  have HG := Kp.mk hg
  have hmf : decide (60 < (S.made.length : Int)) = false := decide_eq_false hm
  clear hm
  clear hg
  have HC := Kp.mk hc
  have HS := Kp.mk hs
  have HR := Kp.mk hr
  obtain ⟨_, pa, pc, ca, cc, a0, c0, a1, c1, rfl, bp, bc, b0, b1, gp, gc, gw0, gw1⟩ := hc
  obtain ⟨_, ma, mc, va, vc, rfl, bm, bv, gm, gv⟩ := hs
  obtain ⟨ir, da, dc, rfl, bd, gd⟩ := hr
  clear gp gw0 gw1 gm gv gd bp b0 b1
  clear ir gc bc bm bv bd
  go_enter Tryd.func6, Tryd.ntmps6
  have HB0 : Kp (Below w.heap.size w w) := ⟨Below.refl _ _⟩
  go_wp2_with fail
  refine (wakes10_any _ (HN.out.below (below_al (below_al (below_al HB0.out _) _) _))).mono ?_
  rintro e w1 ⟨rfl, hb⟩
  have q1 : Kp (w1.heap[w.heap.size]? = some (.cells #[.slice pa C.parts.length pc, .slice ca C.chans.length cc, .int .i64 C.l0, .slice a0 C.w0.length c0, .int .i64 C.l1, .slice a1 C.w1.length c1] 29 (0, 0))) := ⟨blk_below (blk_al (blk_al (blk_new _ _) _) _) hb⟩
  have s1 : Kp (w1.heap[w.heap.size + 1]? = some (.cells #[.int .i64 S.part, .bool S.normal, .slice ma S.made.length mc, .slice va S.valid.length vc] 40 (0, 0))) := ⟨blk_below (blk_al (blk_at (w := (w.alloc (.cells #[.slice pa C.parts.length pc, .slice ca C.chans.length cc, .int .i64 C.l0, .slice a0 C.w0.length c0, .int .i64 C.l1, .slice a1 C.w1.length c1] 29))) (by simp) _) _) hb⟩
  have r1 : Kp (w1.heap[w.heap.size + 1 + 1]? = some (.cells #[.int .i64 R.op, .int .i64 R.port, .int .u64 R.addr, .slice da R.data.length dc] 44 (0, 0))) := ⟨blk_below (blk_at (w := ((w.alloc (.cells #[.slice pa C.parts.length pc, .slice ca C.chans.length cc, .int .i64 C.l0, .slice a0 C.w0.length c0, .int .i64 C.l1, .slice a1 C.w1.length c1] 29)).alloc (.cells #[.int .i64 S.part, .bool S.normal, .slice ma S.made.length mc, .slice va S.valid.length vc] 40))) (by simp) _) hb⟩
  have HB1 : Kp (Below w.heap.size w w1) := ⟨below_call (below_al (below_al (below_al HB0.out _) _) _) hb⟩
  clear HB0 hb
  have qc0 : w1.cell? ⟨w.heap.size, 0, none⟩ = some (.slice pa C.parts.length pc) := (cell_blk q1.out 0).trans rfl
  have qc1 : w1.cell? ⟨w.heap.size, 1, none⟩ = some (.slice ca C.chans.length cc) := (cell_blk q1.out 1).trans rfl
  have qc2 : w1.cell? ⟨w.heap.size, 2, none⟩ = some (.int .i64 C.l0) := (cell_blk q1.out 2).trans rfl
  have qc3 : w1.cell? ⟨w.heap.size, 3, none⟩ = some (.slice a0 C.w0.length c0) := (cell_blk q1.out 3).trans rfl
  have qc4 : w1.cell? ⟨w.heap.size, 4, none⟩ = some (.int .i64 C.l1) := (cell_blk q1.out 4).trans rfl
  have qc5 : w1.cell? ⟨w.heap.size, 5, none⟩ = some (.slice a1 C.w1.length c1) := (cell_blk q1.out 5).trans rfl
  have ql := blk_lt q1.out
  have sc0 : w1.cell? ⟨w.heap.size + 1, 0, none⟩ = some (.int .i64 S.part) := (cell_blk s1.out 0).trans rfl
  have sc1 : w1.cell? ⟨w.heap.size + 1, 1, none⟩ = some (.bool S.normal) := (cell_blk s1.out 1).trans rfl
  have sc2 : w1.cell? ⟨w.heap.size + 1, 2, none⟩ = some (.slice ma S.made.length mc) := (cell_blk s1.out 2).trans rfl
  have sc3 : w1.cell? ⟨w.heap.size + 1, 3, none⟩ = some (.slice va S.valid.length vc) := (cell_blk s1.out 3).trans rfl
  have sl := blk_lt s1.out
  have rc0 : w1.cell? ⟨w.heap.size + 1 + 1, 0, none⟩ = some (.int .i64 R.op) := (cell_blk r1.out 0).trans rfl
  have rc1 : w1.cell? ⟨w.heap.size + 1 + 1, 1, none⟩ = some (.int .i64 R.port) := (cell_blk r1.out 1).trans rfl
  have rc2 : w1.cell? ⟨w.heap.size + 1 + 1, 2, none⟩ = some (.int .u64 R.addr) := (cell_blk r1.out 2).trans rfl
  have rc3 : w1.cell? ⟨w.heap.size + 1 + 1, 3, none⟩ = some (.slice da R.data.length dc) := (cell_blk r1.out 3).trans rfl
  have rl := blk_lt r1.out
  go_wp2_with fail
  refine (great_any _ C _ (HC.out.below HB1.out)).mono ?_
  rw [HG.out]
  rintro e w2 ⟨rfl, hb⟩
  have q2 : Kp (w2.heap[w.heap.size]? = some (.cells #[.slice pa C.parts.length pc, .slice ca C.chans.length cc, .int .i64 C.l0, .slice a0 C.w0.length c0, .int .i64 C.l1, .slice a1 C.w1.length c1] 29 (0, 0))) := ⟨blk_below q1.out hb⟩
  have s2 : Kp (w2.heap[w.heap.size + 1]? = some (.cells #[.int .i64 S.part, .bool S.normal, .slice ma S.made.length mc, .slice va S.valid.length vc] 40 (0, 0))) := ⟨blk_below s1.out hb⟩
  have r2 : Kp (w2.heap[w.heap.size + 1 + 1]? = some (.cells #[.int .i64 R.op, .int .i64 R.port, .int .u64 R.addr, .slice da R.data.length dc] 44 (0, 0))) := ⟨blk_below r1.out hb⟩
  have HB2 : Kp (Below w.heap.size w w2) := ⟨below_call HB1.out hb⟩
  clear qc0 qc1 qc2 qc3 qc4 qc5 ql sc0 sc1 sc2 sc3 sl rc0 rc1 rc2 rc3 rl q1 s1 r1 HB1 hb
  have qc0 : w2.cell? ⟨w.heap.size, 0, none⟩ = some (.slice pa C.parts.length pc) := (cell_blk q2.out 0).trans rfl
  have qc1 : w2.cell? ⟨w.heap.size, 1, none⟩ = some (.slice ca C.chans.length cc) := (cell_blk q2.out 1).trans rfl
  have qc2 : w2.cell? ⟨w.heap.size, 2, none⟩ = some (.int .i64 C.l0) := (cell_blk q2.out 2).trans rfl
  have qc3 : w2.cell? ⟨w.heap.size, 3, none⟩ = some (.slice a0 C.w0.length c0) := (cell_blk q2.out 3).trans rfl
  have qc4 : w2.cell? ⟨w.heap.size, 4, none⟩ = some (.int .i64 C.l1) := (cell_blk q2.out 4).trans rfl
  have qc5 : w2.cell? ⟨w.heap.size, 5, none⟩ = some (.slice a1 C.w1.length c1) := (cell_blk q2.out 5).trans rfl
  have ql := blk_lt q2.out
  have sc0 : w2.cell? ⟨w.heap.size + 1, 0, none⟩ = some (.int .i64 S.part) := (cell_blk s2.out 0).trans rfl
  have sc1 : w2.cell? ⟨w.heap.size + 1, 1, none⟩ = some (.bool S.normal) := (cell_blk s2.out 1).trans rfl
  have sc2 : w2.cell? ⟨w.heap.size + 1, 2, none⟩ = some (.slice ma S.made.length mc) := (cell_blk s2.out 2).trans rfl
  have sc3 : w2.cell? ⟨w.heap.size + 1, 3, none⟩ = some (.slice va S.valid.length vc) := (cell_blk s2.out 3).trans rfl
  have sl := blk_lt s2.out
  have rc0 : w2.cell? ⟨w.heap.size + 1 + 1, 0, none⟩ = some (.int .i64 R.op) := (cell_blk r2.out 0).trans rfl
  have rc1 : w2.cell? ⟨w.heap.size + 1 + 1, 1, none⟩ = some (.int .i64 R.port) := (cell_blk r2.out 1).trans rfl
  have rc2 : w2.cell? ⟨w.heap.size + 1 + 1, 2, none⟩ = some (.int .u64 R.addr) := (cell_blk r2.out 2).trans rfl
  have rc3 : w2.cell? ⟨w.heap.size + 1 + 1, 3, none⟩ = some (.slice da R.data.length dc) := (cell_blk r2.out 3).trans rfl
  have rl := blk_lt r2.out
  go_wp2
  go_ret
  exact ⟨rfl, HB2.out⟩

set_option maxRecDepth 100000 in
set_option maxHeartbeats 8000000 in
theorem signModes_on1 (cv sv rv : Value) (C : Cfg) (S : Std) (R : Rqt) (hg : C.great = false) (hm : ¬ 60 < (S.made.length : Int)) (hd : ¬ 100 < (R.data.length : Int)) (v : Int) (hv : refV C S R = v) (hn : S.normal = true) (ho : R.op = 1) (hv0 : v ≠ 0) (w : World) (hN : NamesAt w) (hc : CfgAt w cv C) (hs : StdAt w sv S) (hr : RqtAt w rv R) : Calls Tryd.prog 6 #[cv, sv, rv] w fun e w' => e = .returned (.bool true) ∧ Below w.heap.size w w' := by
  have HN := Kp.mk hN
  clear hN
  have HG := Kp.mk hg
  have HM : Kp (S.made.length ≤ 100) := ⟨by omega⟩
  have HD : Kp (R.data.length ≤ 100) := ⟨by omega⟩
  have hsm := small_of_great hg
  have hmf : decide (60 < (S.made.length : Int)) = false := decide_eq_false hm
  clear hm
  have hdf : decide (100 < (R.data.length : Int)) = false := decide_eq_false hd
  clear hd
  have HV := Kp.mk hv
  have hve : (v != 0) = true := by simpa using hv0
  clear hv0
  have b1 : (R.op != 1) = false := by simpa using ho
  clear ho
  clear hg hv
  have HC := Kp.mk hc
  have HS := Kp.mk hs
  have HR := Kp.mk hr
  obtain ⟨_, pa, pc, ca, cc, a0, c0, a1, c1, rfl, bp, bc, b0, b1, gp, gc, gw0, gw1⟩ := hc
  obtain ⟨_, ma, mc, va, vc, rfl, bm, bv, gm, gv⟩ := hs
  obtain ⟨ir, da, dc, rfl, bd, gd⟩ := hr
  clear gp gw0 gw1 gm gv gd bp b0 b1
  clear ir gc bc bm bv bd
  rw [hn] at HS ⊢
  clear hn
  go_enter Tryd.func6, Tryd.ntmps6
  have HB0 : Kp (Below w.heap.size w w) := ⟨Below.refl _ _⟩
  go_wp2_with fail
  refine (wakes10_any _ (HN.out.below (below_al (below_al (below_al HB0.out _) _) _))).mono ?_
  rintro e w1 ⟨rfl, hb⟩
  have q1 : Kp (w1.heap[w.heap.size]? = some (.cells #[.slice pa C.parts.length pc, .slice ca C.chans.length cc, .int .i64 C.l0, .slice a0 C.w0.length c0, .int .i64 C.l1, .slice a1 C.w1.length c1] 29 (0, 0))) := ⟨blk_below (blk_al (blk_al (blk_new _ _) _) _) hb⟩
  have s1 : Kp (w1.heap[w.heap.size + 1]? = some (.cells #[.int .i64 S.part, .bool true, .slice ma S.made.length mc, .slice va S.valid.length vc] 40 (0, 0))) := ⟨blk_below (blk_al (blk_at (w := (w.alloc (.cells #[.slice pa C.parts.length pc, .slice ca C.chans.length cc, .int .i64 C.l0, .slice a0 C.w0.length c0, .int .i64 C.l1, .slice a1 C.w1.length c1] 29))) (by simp) _) _) hb⟩
  have r1 : Kp (w1.heap[w.heap.size + 1 + 1]? = some (.cells #[.int .i64 R.op, .int .i64 R.port, .int .u64 R.addr, .slice da R.data.length dc] 44 (0, 0))) := ⟨blk_below (blk_at (w := ((w.alloc (.cells #[.slice pa C.parts.length pc, .slice ca C.chans.length cc, .int .i64 C.l0, .slice a0 C.w0.length c0, .int .i64 C.l1, .slice a1 C.w1.length c1] 29)).alloc (.cells #[.int .i64 S.part, .bool true, .slice ma S.made.length mc, .slice va S.valid.length vc] 40))) (by simp) _) hb⟩
  have HB1 : Kp (Below w.heap.size w w1) := ⟨below_call (below_al (below_al (below_al HB0.out _) _) _) hb⟩
  clear HB0 hb
  have qc0 : w1.cell? ⟨w.heap.size, 0, none⟩ = some (.slice pa C.parts.length pc) := (cell_blk q1.out 0).trans rfl
  have qc1 : w1.cell? ⟨w.heap.size, 1, none⟩ = some (.slice ca C.chans.length cc) := (cell_blk q1.out 1).trans rfl
  have qc2 : w1.cell? ⟨w.heap.size, 2, none⟩ = some (.int .i64 C.l0) := (cell_blk q1.out 2).trans rfl
  have qc3 : w1.cell? ⟨w.heap.size, 3, none⟩ = some (.slice a0 C.w0.length c0) := (cell_blk q1.out 3).trans rfl
  have qc4 : w1.cell? ⟨w.heap.size, 4, none⟩ = some (.int .i64 C.l1) := (cell_blk q1.out 4).trans rfl
  have qc5 : w1.cell? ⟨w.heap.size, 5, none⟩ = some (.slice a1 C.w1.length c1) := (cell_blk q1.out 5).trans rfl
  have ql := blk_lt q1.out
  have sc0 : w1.cell? ⟨w.heap.size + 1, 0, none⟩ = some (.int .i64 S.part) := (cell_blk s1.out 0).trans rfl
  have sc1 : w1.cell? ⟨w.heap.size + 1, 1, none⟩ = some (.bool true) := (cell_blk s1.out 1).trans rfl
  have sc2 : w1.cell? ⟨w.heap.size + 1, 2, none⟩ = some (.slice ma S.made.length mc) := (cell_blk s1.out 2).trans rfl
  have sc3 : w1.cell? ⟨w.heap.size + 1, 3, none⟩ = some (.slice va S.valid.length vc) := (cell_blk s1.out 3).trans rfl
  have sl := blk_lt s1.out
  have rc0 : w1.cell? ⟨w.heap.size + 1 + 1, 0, none⟩ = some (.int .i64 R.op) := (cell_blk r1.out 0).trans rfl
  have rc1 : w1.cell? ⟨w.heap.size + 1 + 1, 1, none⟩ = some (.int .i64 R.port) := (cell_blk r1.out 1).trans rfl
  have rc2 : w1.cell? ⟨w.heap.size + 1 + 1, 2, none⟩ = some (.int .u64 R.addr) := (cell_blk r1.out 2).trans rfl
  have rc3 : w1.cell? ⟨w.heap.size + 1 + 1, 3, none⟩ = some (.slice da R.data.length dc) := (cell_blk r1.out 3).trans rfl
  have rl := blk_lt r1.out
  go_wp2_with fail
  refine (great_any _ C _ (HC.out.below HB1.out)).mono ?_
  rw [HG.out]
  rintro e w2 ⟨rfl, hb⟩
  have q2 : Kp (w2.heap[w.heap.size]? = some (.cells #[.slice pa C.parts.length pc, .slice ca C.chans.length cc, .int .i64 C.l0, .slice a0 C.w0.length c0, .int .i64 C.l1, .slice a1 C.w1.length c1] 29 (0, 0))) := ⟨blk_below q1.out hb⟩
  have s2 : Kp (w2.heap[w.heap.size + 1]? = some (.cells #[.int .i64 S.part, .bool true, .slice ma S.made.length mc, .slice va S.valid.length vc] 40 (0, 0))) := ⟨blk_below s1.out hb⟩
  have r2 : Kp (w2.heap[w.heap.size + 1 + 1]? = some (.cells #[.int .i64 R.op, .int .i64 R.port, .int .u64 R.addr, .slice da R.data.length dc] 44 (0, 0))) := ⟨blk_below r1.out hb⟩
  have HB2 : Kp (Below w.heap.size w w2) := ⟨below_call HB1.out hb⟩
  clear qc0 qc1 qc2 qc3 qc4 qc5 ql sc0 sc1 sc2 sc3 sl rc0 rc1 rc2 rc3 rl q1 s1 r1 HB1 hb
  have qc0 : w2.cell? ⟨w.heap.size, 0, none⟩ = some (.slice pa C.parts.length pc) := (cell_blk q2.out 0).trans rfl
  have qc1 : w2.cell? ⟨w.heap.size, 1, none⟩ = some (.slice ca C.chans.length cc) := (cell_blk q2.out 1).trans rfl
  have qc2 : w2.cell? ⟨w.heap.size, 2, none⟩ = some (.int .i64 C.l0) := (cell_blk q2.out 2).trans rfl
  have qc3 : w2.cell? ⟨w.heap.size, 3, none⟩ = some (.slice a0 C.w0.length c0) := (cell_blk q2.out 3).trans rfl
  have qc4 : w2.cell? ⟨w.heap.size, 4, none⟩ = some (.int .i64 C.l1) := (cell_blk q2.out 4).trans rfl
  have qc5 : w2.cell? ⟨w.heap.size, 5, none⟩ = some (.slice a1 C.w1.length c1) := (cell_blk q2.out 5).trans rfl
  have ql := blk_lt q2.out
  have sc0 : w2.cell? ⟨w.heap.size + 1, 0, none⟩ = some (.int .i64 S.part) := (cell_blk s2.out 0).trans rfl
  have sc1 : w2.cell? ⟨w.heap.size + 1, 1, none⟩ = some (.bool true) := (cell_blk s2.out 1).trans rfl
  have sc2 : w2.cell? ⟨w.heap.size + 1, 2, none⟩ = some (.slice ma S.made.length mc) := (cell_blk s2.out 2).trans rfl
  have sc3 : w2.cell? ⟨w.heap.size + 1, 3, none⟩ = some (.slice va S.valid.length vc) := (cell_blk s2.out 3).trans rfl
  have sl := blk_lt s2.out
  have rc0 : w2.cell? ⟨w.heap.size + 1 + 1, 0, none⟩ = some (.int .i64 R.op) := (cell_blk r2.out 0).trans rfl
  have rc1 : w2.cell? ⟨w.heap.size + 1 + 1, 1, none⟩ = some (.int .i64 R.port) := (cell_blk r2.out 1).trans rfl
  have rc2 : w2.cell? ⟨w.heap.size + 1 + 1, 2, none⟩ = some (.int .u64 R.addr) := (cell_blk r2.out 2).trans rfl
  have rc3 : w2.cell? ⟨w.heap.size + 1 + 1, 3, none⟩ = some (.slice da R.data.length dc) := (cell_blk r2.out 3).trans rfl
  have rl := blk_lt r2.out
  go_wp2_with fail
  refine (refused_any _ _ _ C S R hsm HM.out HD.out _ (HN.out.below HB2.out) (HC.out.below HB2.out) (HS.out.below HB2.out) (HR.out.below HB2.out)).mono ?_
  rw [HV.out]
  rintro e w3 ⟨rfl, hb⟩
  have q3 : Kp (w3.heap[w.heap.size]? = some (.cells #[.slice pa C.parts.length pc, .slice ca C.chans.length cc, .int .i64 C.l0, .slice a0 C.w0.length c0, .int .i64 C.l1, .slice a1 C.w1.length c1] 29 (0, 0))) := ⟨blk_below q2.out hb⟩
  have s3 : Kp (w3.heap[w.heap.size + 1]? = some (.cells #[.int .i64 S.part, .bool true, .slice ma S.made.length mc, .slice va S.valid.length vc] 40 (0, 0))) := ⟨blk_below s2.out hb⟩
  have r3 : Kp (w3.heap[w.heap.size + 1 + 1]? = some (.cells #[.int .i64 R.op, .int .i64 R.port, .int .u64 R.addr, .slice da R.data.length dc] 44 (0, 0))) := ⟨blk_below r2.out hb⟩
  have HB3 : Kp (Below w.heap.size w w3) := ⟨below_call HB2.out hb⟩
  clear qc0 qc1 qc2 qc3 qc4 qc5 ql sc0 sc1 sc2 sc3 sl rc0 rc1 rc2 rc3 rl q2 s2 r2 HB2 hb
  have qc0 : w3.cell? ⟨w.heap.size, 0, none⟩ = some (.slice pa C.parts.length pc) := (cell_blk q3.out 0).trans rfl
  have qc1 : w3.cell? ⟨w.heap.size, 1, none⟩ = some (.slice ca C.chans.length cc) := (cell_blk q3.out 1).trans rfl
  have qc2 : w3.cell? ⟨w.heap.size, 2, none⟩ = some (.int .i64 C.l0) := (cell_blk q3.out 2).trans rfl
  have qc3 : w3.cell? ⟨w.heap.size, 3, none⟩ = some (.slice a0 C.w0.length c0) := (cell_blk q3.out 3).trans rfl
  have qc4 : w3.cell? ⟨w.heap.size, 4, none⟩ = some (.int .i64 C.l1) := (cell_blk q3.out 4).trans rfl
  have qc5 : w3.cell? ⟨w.heap.size, 5, none⟩ = some (.slice a1 C.w1.length c1) := (cell_blk q3.out 5).trans rfl
  have ql := blk_lt q3.out
  have sc0 : w3.cell? ⟨w.heap.size + 1, 0, none⟩ = some (.int .i64 S.part) := (cell_blk s3.out 0).trans rfl
  have sc1 : w3.cell? ⟨w.heap.size + 1, 1, none⟩ = some (.bool true) := (cell_blk s3.out 1).trans rfl
  have sc2 : w3.cell? ⟨w.heap.size + 1, 2, none⟩ = some (.slice ma S.made.length mc) := (cell_blk s3.out 2).trans rfl
  have sc3 : w3.cell? ⟨w.heap.size + 1, 3, none⟩ = some (.slice va S.valid.length vc) := (cell_blk s3.out 3).trans rfl
  have sl := blk_lt s3.out
  have rc0 : w3.cell? ⟨w.heap.size + 1 + 1, 0, none⟩ = some (.int .i64 R.op) := (cell_blk r3.out 0).trans rfl
  have rc1 : w3.cell? ⟨w.heap.size + 1 + 1, 1, none⟩ = some (.int .i64 R.port) := (cell_blk r3.out 1).trans rfl
  have rc2 : w3.cell? ⟨w.heap.size + 1 + 1, 2, none⟩ = some (.int .u64 R.addr) := (cell_blk r3.out 2).trans rfl
  have rc3 : w3.cell? ⟨w.heap.size + 1 + 1, 3, none⟩ = some (.slice da R.data.length dc) := (cell_blk r3.out 3).trans rfl
  have rl := blk_lt r3.out
  go_wp2
  go_ret
  exact ⟨rfl, HB3.out⟩

set_option maxRecDepth 100000 in
set_option maxHeartbeats 8000000 in
theorem signModes_on2 (cv sv rv : Value) (C : Cfg) (S : Std) (R : Rqt) (hg : C.great = false) (hm : ¬ 60 < (S.made.length : Int)) (hd : ¬ 100 < (R.data.length : Int)) (v : Int) (hv : refV C S R = v) (hn : S.normal = true) (ho : R.op = 2) (hv0 : v ≠ 0) (w : World) (hN : NamesAt w) (hc : CfgAt w cv C) (hs : StdAt w sv S) (hr : RqtAt w rv R) : Calls Tryd.prog 6 #[cv, sv, rv] w fun e w' => e = .returned (.bool true) ∧ Below w.heap.size w w' := by
  have HN := Kp.mk hN
  clear hN
  have HG := Kp.mk hg
  have HM : Kp (S.made.length ≤ 100) := ⟨by omega⟩
  have HD : Kp (R.data.length ≤ 100) := ⟨by omega⟩
  have hsm := small_of_great hg
  have hmf : decide (60 < (S.made.length : Int)) = false := decide_eq_false hm
  clear hm
  have hdf : decide (100 < (R.data.length : Int)) = false := decide_eq_false hd
  clear hd
  have HV := Kp.mk hv
  have hve : (v != 0) = true := by simpa using hv0
  clear hv0
  have b1 : (R.op != 1) = true := by rw [bne_iff_ne]; omega
  have b2 : (R.op != 2) = false := by simpa using ho
  clear ho
  clear hg hv
  have HC := Kp.mk hc
  have HS := Kp.mk hs
  have HR := Kp.mk hr
  obtain ⟨_, pa, pc, ca, cc, a0, c0, a1, c1, rfl, bp, bc, b0, b1, gp, gc, gw0, gw1⟩ := hc
  obtain ⟨_, ma, mc, va, vc, rfl, bm, bv, gm, gv⟩ := hs
  obtain ⟨ir, da, dc, rfl, bd, gd⟩ := hr
  clear gp gw0 gw1 gm gv gd bp b0 b1
  clear ir gc bc bm bv bd
  rw [hn] at HS ⊢
  clear hn
  go_enter Tryd.func6, Tryd.ntmps6
  have HB0 : Kp (Below w.heap.size w w) := ⟨Below.refl _ _⟩
  go_wp2_with fail
  refine (wakes10_any _ (HN.out.below (below_al (below_al (below_al HB0.out _) _) _))).mono ?_
  rintro e w1 ⟨rfl, hb⟩
  have q1 : Kp (w1.heap[w.heap.size]? = some (.cells #[.slice pa C.parts.length pc, .slice ca C.chans.length cc, .int .i64 C.l0, .slice a0 C.w0.length c0, .int .i64 C.l1, .slice a1 C.w1.length c1] 29 (0, 0))) := ⟨blk_below (blk_al (blk_al (blk_new _ _) _) _) hb⟩
  have s1 : Kp (w1.heap[w.heap.size + 1]? = some (.cells #[.int .i64 S.part, .bool true, .slice ma S.made.length mc, .slice va S.valid.length vc] 40 (0, 0))) := ⟨blk_below (blk_al (blk_at (w := (w.alloc (.cells #[.slice pa C.parts.length pc, .slice ca C.chans.length cc, .int .i64 C.l0, .slice a0 C.w0.length c0, .int .i64 C.l1, .slice a1 C.w1.length c1] 29))) (by simp) _) _) hb⟩
  have r1 : Kp (w1.heap[w.heap.size + 1 + 1]? = some (.cells #[.int .i64 R.op, .int .i64 R.port, .int .u64 R.addr, .slice da R.data.length dc] 44 (0, 0))) := ⟨blk_below (blk_at (w := ((w.alloc (.cells #[.slice pa C.parts.length pc, .slice ca C.chans.length cc, .int .i64 C.l0, .slice a0 C.w0.length c0, .int .i64 C.l1, .slice a1 C.w1.length c1] 29)).alloc (.cells #[.int .i64 S.part, .bool true, .slice ma S.made.length mc, .slice va S.valid.length vc] 40))) (by simp) _) hb⟩
  have HB1 : Kp (Below w.heap.size w w1) := ⟨below_call (below_al (below_al (below_al HB0.out _) _) _) hb⟩
  clear HB0 hb
  have qc0 : w1.cell? ⟨w.heap.size, 0, none⟩ = some (.slice pa C.parts.length pc) := (cell_blk q1.out 0).trans rfl
  have qc1 : w1.cell? ⟨w.heap.size, 1, none⟩ = some (.slice ca C.chans.length cc) := (cell_blk q1.out 1).trans rfl
  have qc2 : w1.cell? ⟨w.heap.size, 2, none⟩ = some (.int .i64 C.l0) := (cell_blk q1.out 2).trans rfl
  have qc3 : w1.cell? ⟨w.heap.size, 3, none⟩ = some (.slice a0 C.w0.length c0) := (cell_blk q1.out 3).trans rfl
  have qc4 : w1.cell? ⟨w.heap.size, 4, none⟩ = some (.int .i64 C.l1) := (cell_blk q1.out 4).trans rfl
  have qc5 : w1.cell? ⟨w.heap.size, 5, none⟩ = some (.slice a1 C.w1.length c1) := (cell_blk q1.out 5).trans rfl
  have ql := blk_lt q1.out
  have sc0 : w1.cell? ⟨w.heap.size + 1, 0, none⟩ = some (.int .i64 S.part) := (cell_blk s1.out 0).trans rfl
  have sc1 : w1.cell? ⟨w.heap.size + 1, 1, none⟩ = some (.bool true) := (cell_blk s1.out 1).trans rfl
  have sc2 : w1.cell? ⟨w.heap.size + 1, 2, none⟩ = some (.slice ma S.made.length mc) := (cell_blk s1.out 2).trans rfl
  have sc3 : w1.cell? ⟨w.heap.size + 1, 3, none⟩ = some (.slice va S.valid.length vc) := (cell_blk s1.out 3).trans rfl
  have sl := blk_lt s1.out
  have rc0 : w1.cell? ⟨w.heap.size + 1 + 1, 0, none⟩ = some (.int .i64 R.op) := (cell_blk r1.out 0).trans rfl
  have rc1 : w1.cell? ⟨w.heap.size + 1 + 1, 1, none⟩ = some (.int .i64 R.port) := (cell_blk r1.out 1).trans rfl
  have rc2 : w1.cell? ⟨w.heap.size + 1 + 1, 2, none⟩ = some (.int .u64 R.addr) := (cell_blk r1.out 2).trans rfl
  have rc3 : w1.cell? ⟨w.heap.size + 1 + 1, 3, none⟩ = some (.slice da R.data.length dc) := (cell_blk r1.out 3).trans rfl
  have rl := blk_lt r1.out
  go_wp2_with fail
  refine (great_any _ C _ (HC.out.below HB1.out)).mono ?_
  rw [HG.out]
  rintro e w2 ⟨rfl, hb⟩
  have q2 : Kp (w2.heap[w.heap.size]? = some (.cells #[.slice pa C.parts.length pc, .slice ca C.chans.length cc, .int .i64 C.l0, .slice a0 C.w0.length c0, .int .i64 C.l1, .slice a1 C.w1.length c1] 29 (0, 0))) := ⟨blk_below q1.out hb⟩
  have s2 : Kp (w2.heap[w.heap.size + 1]? = some (.cells #[.int .i64 S.part, .bool true, .slice ma S.made.length mc, .slice va S.valid.length vc] 40 (0, 0))) := ⟨blk_below s1.out hb⟩
  have r2 : Kp (w2.heap[w.heap.size + 1 + 1]? = some (.cells #[.int .i64 R.op, .int .i64 R.port, .int .u64 R.addr, .slice da R.data.length dc] 44 (0, 0))) := ⟨blk_below r1.out hb⟩
  have HB2 : Kp (Below w.heap.size w w2) := ⟨below_call HB1.out hb⟩
  clear qc0 qc1 qc2 qc3 qc4 qc5 ql sc0 sc1 sc2 sc3 sl rc0 rc1 rc2 rc3 rl q1 s1 r1 HB1 hb
  have qc0 : w2.cell? ⟨w.heap.size, 0, none⟩ = some (.slice pa C.parts.length pc) := (cell_blk q2.out 0).trans rfl
  have qc1 : w2.cell? ⟨w.heap.size, 1, none⟩ = some (.slice ca C.chans.length cc) := (cell_blk q2.out 1).trans rfl
  have qc2 : w2.cell? ⟨w.heap.size, 2, none⟩ = some (.int .i64 C.l0) := (cell_blk q2.out 2).trans rfl
  have qc3 : w2.cell? ⟨w.heap.size, 3, none⟩ = some (.slice a0 C.w0.length c0) := (cell_blk q2.out 3).trans rfl
  have qc4 : w2.cell? ⟨w.heap.size, 4, none⟩ = some (.int .i64 C.l1) := (cell_blk q2.out 4).trans rfl
  have qc5 : w2.cell? ⟨w.heap.size, 5, none⟩ = some (.slice a1 C.w1.length c1) := (cell_blk q2.out 5).trans rfl
  have ql := blk_lt q2.out
  have sc0 : w2.cell? ⟨w.heap.size + 1, 0, none⟩ = some (.int .i64 S.part) := (cell_blk s2.out 0).trans rfl
  have sc1 : w2.cell? ⟨w.heap.size + 1, 1, none⟩ = some (.bool true) := (cell_blk s2.out 1).trans rfl
  have sc2 : w2.cell? ⟨w.heap.size + 1, 2, none⟩ = some (.slice ma S.made.length mc) := (cell_blk s2.out 2).trans rfl
  have sc3 : w2.cell? ⟨w.heap.size + 1, 3, none⟩ = some (.slice va S.valid.length vc) := (cell_blk s2.out 3).trans rfl
  have sl := blk_lt s2.out
  have rc0 : w2.cell? ⟨w.heap.size + 1 + 1, 0, none⟩ = some (.int .i64 R.op) := (cell_blk r2.out 0).trans rfl
  have rc1 : w2.cell? ⟨w.heap.size + 1 + 1, 1, none⟩ = some (.int .i64 R.port) := (cell_blk r2.out 1).trans rfl
  have rc2 : w2.cell? ⟨w.heap.size + 1 + 1, 2, none⟩ = some (.int .u64 R.addr) := (cell_blk r2.out 2).trans rfl
  have rc3 : w2.cell? ⟨w.heap.size + 1 + 1, 3, none⟩ = some (.slice da R.data.length dc) := (cell_blk r2.out 3).trans rfl
  have rl := blk_lt r2.out
  go_wp2_with fail
  refine (refused_any _ _ _ C S R hsm HM.out HD.out _ (HN.out.below HB2.out) (HC.out.below HB2.out) (HS.out.below HB2.out) (HR.out.below HB2.out)).mono ?_
  rw [HV.out]
  rintro e w3 ⟨rfl, hb⟩
  have q3 : Kp (w3.heap[w.heap.size]? = some (.cells #[.slice pa C.parts.length pc, .slice ca C.chans.length cc, .int .i64 C.l0, .slice a0 C.w0.length c0, .int .i64 C.l1, .slice a1 C.w1.length c1] 29 (0, 0))) := ⟨blk_below q2.out hb⟩
  have s3 : Kp (w3.heap[w.heap.size + 1]? = some (.cells #[.int .i64 S.part, .bool true, .slice ma S.made.length mc, .slice va S.valid.length vc] 40 (0, 0))) := ⟨blk_below s2.out hb⟩
  have r3 : Kp (w3.heap[w.heap.size + 1 + 1]? = some (.cells #[.int .i64 R.op, .int .i64 R.port, .int .u64 R.addr, .slice da R.data.length dc] 44 (0, 0))) := ⟨blk_below r2.out hb⟩
  have HB3 : Kp (Below w.heap.size w w3) := ⟨below_call HB2.out hb⟩
  clear qc0 qc1 qc2 qc3 qc4 qc5 ql sc0 sc1 sc2 sc3 sl rc0 rc1 rc2 rc3 rl q2 s2 r2 HB2 hb
  have qc0 : w3.cell? ⟨w.heap.size, 0, none⟩ = some (.slice pa C.parts.length pc) := (cell_blk q3.out 0).trans rfl
  have qc1 : w3.cell? ⟨w.heap.size, 1, none⟩ = some (.slice ca C.chans.length cc) := (cell_blk q3.out 1).trans rfl
  have qc2 : w3.cell? ⟨w.heap.size, 2, none⟩ = some (.int .i64 C.l0) := (cell_blk q3.out 2).trans rfl
  have qc3 : w3.cell? ⟨w.heap.size, 3, none⟩ = some (.slice a0 C.w0.length c0) := (cell_blk q3.out 3).trans rfl
  have qc4 : w3.cell? ⟨w.heap.size, 4, none⟩ = some (.int .i64 C.l1) := (cell_blk q3.out 4).trans rfl
  have qc5 : w3.cell? ⟨w.heap.size, 5, none⟩ = some (.slice a1 C.w1.length c1) := (cell_blk q3.out 5).trans rfl
  have ql := blk_lt q3.out
  have sc0 : w3.cell? ⟨w.heap.size + 1, 0, none⟩ = some (.int .i64 S.part) := (cell_blk s3.out 0).trans rfl
  have sc1 : w3.cell? ⟨w.heap.size + 1, 1, none⟩ = some (.bool true) := (cell_blk s3.out 1).trans rfl
  have sc2 : w3.cell? ⟨w.heap.size + 1, 2, none⟩ = some (.slice ma S.made.length mc) := (cell_blk s3.out 2).trans rfl
  have sc3 : w3.cell? ⟨w.heap.size + 1, 3, none⟩ = some (.slice va S.valid.length vc) := (cell_blk s3.out 3).trans rfl
  have sl := blk_lt s3.out
  have rc0 : w3.cell? ⟨w.heap.size + 1 + 1, 0, none⟩ = some (.int .i64 R.op) := (cell_blk r3.out 0).trans rfl
  have rc1 : w3.cell? ⟨w.heap.size + 1 + 1, 1, none⟩ = some (.int .i64 R.port) := (cell_blk r3.out 1).trans rfl
  have rc2 : w3.cell? ⟨w.heap.size + 1 + 1, 2, none⟩ = some (.int .u64 R.addr) := (cell_blk r3.out 2).trans rfl
  have rc3 : w3.cell? ⟨w.heap.size + 1 + 1, 3, none⟩ = some (.slice da R.data.length dc) := (cell_blk r3.out 3).trans rfl
  have rl := blk_lt r3.out
  go_wp2
  go_ret
  exact ⟨rfl, HB3.out⟩

set_option maxRecDepth 100000 in
set_option maxHeartbeats 8000000 in
theorem signModes_onx (cv sv rv : Value) (C : Cfg) (S : Std) (R : Rqt) (hg : C.great = false) (hm : ¬ 60 < (S.made.length : Int)) (hd : ¬ 100 < (R.data.length : Int)) (v : Int) (hv : refV C S R = v) (hn : S.normal = true) (h1 : R.op ≠ 1) (h2 : R.op ≠ 2) (w : World) (hN : NamesAt w) (hc : CfgAt w cv C) (hs : StdAt w sv S) (hr : RqtAt w rv R) : Calls Tryd.prog 6 #[cv, sv, rv] w fun e w' => e = .returned (.bool true) ∧ Below w.heap.size w w' := by
  have HN := Kp.mk hN
  clear hN
  have HG := Kp.mk hg
  have HM : Kp (S.made.length ≤ 100) := ⟨by omega⟩
  have HD : Kp (R.data.length ≤ 100) := ⟨by omega⟩
  have hsm := small_of_great hg
  have hmf : decide (60 < (S.made.length : Int)) = false := decide_eq_false hm
  clear hm
  have hdf : decide (100 < (R.data.length : Int)) = false := decide_eq_false hd
  clear hd
  have HV := Kp.mk hv
  have b1 : (R.op != 1) = true := by simpa using h1
  have b2 : (R.op != 2) = true := by simpa using h2
  clear h1 h2
  clear hg hv
  have HC := Kp.mk hc
  have HS := Kp.mk hs
  have HR := Kp.mk hr
  obtain ⟨_, pa, pc, ca, cc, a0, c0, a1, c1, rfl, bp, bc, b0, b1, gp, gc, gw0, gw1⟩ := hc
  obtain ⟨_, ma, mc, va, vc, rfl, bm, bv, gm, gv⟩ := hs
  obtain ⟨ir, da, dc, rfl, bd, gd⟩ := hr
  clear gp gw0 gw1 gm gv gd bp b0 b1
  clear ir gc bc bm bv bd
  rw [hn] at HS ⊢
  clear hn
  go_enter Tryd.func6, Tryd.ntmps6
  have HB0 : Kp (Below w.heap.size w w) := ⟨Below.refl _ _⟩
  go_wp2_with fail
  refine (wakes10_any _ (HN.out.below (below_al (below_al (below_al HB0.out _) _) _))).mono ?_
  rintro e w1 ⟨rfl, hb⟩
  have q1 : Kp (w1.heap[w.heap.size]? = some (.cells #[.slice pa C.parts.length pc, .slice ca C.chans.length cc, .int .i64 C.l0, .slice a0 C.w0.length c0, .int .i64 C.l1, .slice a1 C.w1.length c1] 29 (0, 0))) := ⟨blk_below (blk_al (blk_al (blk_new _ _) _) _) hb⟩
  have s1 : Kp (w1.heap[w.heap.size + 1]? = some (.cells #[.int .i64 S.part, .bool true, .slice ma S.made.length mc, .slice va S.valid.length vc] 40 (0, 0))) := ⟨blk_below (blk_al (blk_at (w := (w.alloc (.cells #[.slice pa C.parts.length pc, .slice ca C.chans.length cc, .int .i64 C.l0, .slice a0 C.w0.length c0, .int .i64 C.l1, .slice a1 C.w1.length c1] 29))) (by simp) _) _) hb⟩
  have r1 : Kp (w1.heap[w.heap.size + 1 + 1]? = some (.cells #[.int .i64 R.op, .int .i64 R.port, .int .u64 R.addr, .slice da R.data.length dc] 44 (0, 0))) := ⟨blk_below (blk_at (w := ((w.alloc (.cells #[.slice pa C.parts.length pc, .slice ca C.chans.length cc, .int .i64 C.l0, .slice a0 C.w0.length c0, .int .i64 C.l1, .slice a1 C.w1.length c1] 29)).alloc (.cells #[.int .i64 S.part, .bool true, .slice ma S.made.length mc, .slice va S.valid.length vc] 40))) (by simp) _) hb⟩
  have HB1 : Kp (Below w.heap.size w w1) := ⟨below_call (below_al (below_al (below_al HB0.out _) _) _) hb⟩
  clear HB0 hb
  have qc0 : w1.cell? ⟨w.heap.size, 0, none⟩ = some (.slice pa C.parts.length pc) := (cell_blk q1.out 0).trans rfl
  have qc1 : w1.cell? ⟨w.heap.size, 1, none⟩ = some (.slice ca C.chans.length cc) := (cell_blk q1.out 1).trans rfl
  have qc2 : w1.cell? ⟨w.heap.size, 2, none⟩ = some (.int .i64 C.l0) := (cell_blk q1.out 2).trans rfl
  have qc3 : w1.cell? ⟨w.heap.size, 3, none⟩ = some (.slice a0 C.w0.length c0) := (cell_blk q1.out 3).trans rfl
  have qc4 : w1.cell? ⟨w.heap.size, 4, none⟩ = some (.int .i64 C.l1) := (cell_blk q1.out 4).trans rfl
  have qc5 : w1.cell? ⟨w.heap.size, 5, none⟩ = some (.slice a1 C.w1.length c1) := (cell_blk q1.out 5).trans rfl
  have ql := blk_lt q1.out
  have sc0 : w1.cell? ⟨w.heap.size + 1, 0, none⟩ = some (.int .i64 S.part) := (cell_blk s1.out 0).trans rfl
  have sc1 : w1.cell? ⟨w.heap.size + 1, 1, none⟩ = some (.bool true) := (cell_blk s1.out 1).trans rfl
  have sc2 : w1.cell? ⟨w.heap.size + 1, 2, none⟩ = some (.slice ma S.made.length mc) := (cell_blk s1.out 2).trans rfl
  have sc3 : w1.cell? ⟨w.heap.size + 1, 3, none⟩ = some (.slice va S.valid.length vc) := (cell_blk s1.out 3).trans rfl
  have sl := blk_lt s1.out
  have rc0 : w1.cell? ⟨w.heap.size + 1 + 1, 0, none⟩ = some (.int .i64 R.op) := (cell_blk r1.out 0).trans rfl
  have rc1 : w1.cell? ⟨w.heap.size + 1 + 1, 1, none⟩ = some (.int .i64 R.port) := (cell_blk r1.out 1).trans rfl
  have rc2 : w1.cell? ⟨w.heap.size + 1 + 1, 2, none⟩ = some (.int .u64 R.addr) := (cell_blk r1.out 2).trans rfl
  have rc3 : w1.cell? ⟨w.heap.size + 1 + 1, 3, none⟩ = some (.slice da R.data.length dc) := (cell_blk r1.out 3).trans rfl
  have rl := blk_lt r1.out
  go_wp2_with fail
  refine (great_any _ C _ (HC.out.below HB1.out)).mono ?_
  rw [HG.out]
  rintro e w2 ⟨rfl, hb⟩
  have q2 : Kp (w2.heap[w.heap.size]? = some (.cells #[.slice pa C.parts.length pc, .slice ca C.chans.length cc, .int .i64 C.l0, .slice a0 C.w0.length c0, .int .i64 C.l1, .slice a1 C.w1.length c1] 29 (0, 0))) := ⟨blk_below q1.out hb⟩
  have s2 : Kp (w2.heap[w.heap.size + 1]? = some (.cells #[.int .i64 S.part, .bool true, .slice ma S.made.length mc, .slice va S.valid.length vc] 40 (0, 0))) := ⟨blk_below s1.out hb⟩
  have r2 : Kp (w2.heap[w.heap.size + 1 + 1]? = some (.cells #[.int .i64 R.op, .int .i64 R.port, .int .u64 R.addr, .slice da R.data.length dc] 44 (0, 0))) := ⟨blk_below r1.out hb⟩
  have HB2 : Kp (Below w.heap.size w w2) := ⟨below_call HB1.out hb⟩
  clear qc0 qc1 qc2 qc3 qc4 qc5 ql sc0 sc1 sc2 sc3 sl rc0 rc1 rc2 rc3 rl q1 s1 r1 HB1 hb
  have qc0 : w2.cell? ⟨w.heap.size, 0, none⟩ = some (.slice pa C.parts.length pc) := (cell_blk q2.out 0).trans rfl
  have qc1 : w2.cell? ⟨w.heap.size, 1, none⟩ = some (.slice ca C.chans.length cc) := (cell_blk q2.out 1).trans rfl
  have qc2 : w2.cell? ⟨w.heap.size, 2, none⟩ = some (.int .i64 C.l0) := (cell_blk q2.out 2).trans rfl
  have qc3 : w2.cell? ⟨w.heap.size, 3, none⟩ = some (.slice a0 C.w0.length c0) := (cell_blk q2.out 3).trans rfl
  have qc4 : w2.cell? ⟨w.heap.size, 4, none⟩ = some (.int .i64 C.l1) := (cell_blk q2.out 4).trans rfl
  have qc5 : w2.cell? ⟨w.heap.size, 5, none⟩ = some (.slice a1 C.w1.length c1) := (cell_blk q2.out 5).trans rfl
  have ql := blk_lt q2.out
  have sc0 : w2.cell? ⟨w.heap.size + 1, 0, none⟩ = some (.int .i64 S.part) := (cell_blk s2.out 0).trans rfl
  have sc1 : w2.cell? ⟨w.heap.size + 1, 1, none⟩ = some (.bool true) := (cell_blk s2.out 1).trans rfl
  have sc2 : w2.cell? ⟨w.heap.size + 1, 2, none⟩ = some (.slice ma S.made.length mc) := (cell_blk s2.out 2).trans rfl
  have sc3 : w2.cell? ⟨w.heap.size + 1, 3, none⟩ = some (.slice va S.valid.length vc) := (cell_blk s2.out 3).trans rfl
  have sl := blk_lt s2.out
  have rc0 : w2.cell? ⟨w.heap.size + 1 + 1, 0, none⟩ = some (.int .i64 R.op) := (cell_blk r2.out 0).trans rfl
  have rc1 : w2.cell? ⟨w.heap.size + 1 + 1, 1, none⟩ = some (.int .i64 R.port) := (cell_blk r2.out 1).trans rfl
  have rc2 : w2.cell? ⟨w.heap.size + 1 + 1, 2, none⟩ = some (.int .u64 R.addr) := (cell_blk r2.out 2).trans rfl
  have rc3 : w2.cell? ⟨w.heap.size + 1 + 1, 3, none⟩ = some (.slice da R.data.length dc) := (cell_blk r2.out 3).trans rfl
  have rl := blk_lt r2.out
  go_wp2_with fail
  refine (refused_any _ _ _ C S R hsm HM.out HD.out _ (HN.out.below HB2.out) (HC.out.below HB2.out) (HS.out.below HB2.out) (HR.out.below HB2.out)).mono ?_
  rw [HV.out]
  rintro e w3 ⟨rfl, hb⟩
  have q3 : Kp (w3.heap[w.heap.size]? = some (.cells #[.slice pa C.parts.length pc, .slice ca C.chans.length cc, .int .i64 C.l0, .slice a0 C.w0.length c0, .int .i64 C.l1, .slice a1 C.w1.length c1] 29 (0, 0))) := ⟨blk_below q2.out hb⟩
  have s3 : Kp (w3.heap[w.heap.size + 1]? = some (.cells #[.int .i64 S.part, .bool true, .slice ma S.made.length mc, .slice va S.valid.length vc] 40 (0, 0))) := ⟨blk_below s2.out hb⟩
  have r3 : Kp (w3.heap[w.heap.size + 1 + 1]? = some (.cells #[.int .i64 R.op, .int .i64 R.port, .int .u64 R.addr, .slice da R.data.length dc] 44 (0, 0))) := ⟨blk_below r2.out hb⟩
  have HB3 : Kp (Below w.heap.size w w3) := ⟨below_call HB2.out hb⟩
  clear qc0 qc1 qc2 qc3 qc4 qc5 ql sc0 sc1 sc2 sc3 sl rc0 rc1 rc2 rc3 rl q2 s2 r2 HB2 hb
  have qc0 : w3.cell? ⟨w.heap.size, 0, none⟩ = some (.slice pa C.parts.length pc) := (cell_blk q3.out 0).trans rfl
  have qc1 : w3.cell? ⟨w.heap.size, 1, none⟩ = some (.slice ca C.chans.length cc) := (cell_blk q3.out 1).trans rfl
  have qc2 : w3.cell? ⟨w.heap.size, 2, none⟩ = some (.int .i64 C.l0) := (cell_blk q3.out 2).trans rfl
  have qc3 : w3.cell? ⟨w.heap.size, 3, none⟩ = some (.slice a0 C.w0.length c0) := (cell_blk q3.out 3).trans rfl
  have qc4 : w3.cell? ⟨w.heap.size, 4, none⟩ = some (.int .i64 C.l1) := (cell_blk q3.out 4).trans rfl
  have qc5 : w3.cell? ⟨w.heap.size, 5, none⟩ = some (.slice a1 C.w1.length c1) := (cell_blk q3.out 5).trans rfl
  have ql := blk_lt q3.out
  have sc0 : w3.cell? ⟨w.heap.size + 1, 0, none⟩ = some (.int .i64 S.part) := (cell_blk s3.out 0).trans rfl
  have sc1 : w3.cell? ⟨w.heap.size + 1, 1, none⟩ = some (.bool true) := (cell_blk s3.out 1).trans rfl
  have sc2 : w3.cell? ⟨w.heap.size + 1, 2, none⟩ = some (.slice ma S.made.length mc) := (cell_blk s3.out 2).trans rfl
  have sc3 : w3.cell? ⟨w.heap.size + 1, 3, none⟩ = some (.slice va S.valid.length vc) := (cell_blk s3.out 3).trans rfl
  have sl := blk_lt s3.out
  have rc0 : w3.cell? ⟨w.heap.size + 1 + 1, 0, none⟩ = some (.int .i64 R.op) := (cell_blk r3.out 0).trans rfl
  have rc1 : w3.cell? ⟨w.heap.size + 1 + 1, 1, none⟩ = some (.int .i64 R.port) := (cell_blk r3.out 1).trans rfl
  have rc2 : w3.cell? ⟨w.heap.size + 1 + 1, 2, none⟩ = some (.int .u64 R.addr) := (cell_blk r3.out 2).trans rfl
  have rc3 : w3.cell? ⟨w.heap.size + 1 + 1, 3, none⟩ = some (.slice da R.data.length dc) := (cell_blk r3.out 3).trans rfl
  have rl := blk_lt r3.out
  go_wp2
  go_ret
  exact ⟨rfl, HB3.out⟩

set_option maxRecDepth 100000 in
set_option maxHeartbeats 8000000 in
theorem signModes_offlo (cv sv rv : Value) (C : Cfg) (S : Std) (R : Rqt) (hg : C.great = false) (hm : ¬ 60 < (S.made.length : Int)) (hd : ¬ 100 < (R.data.length : Int)) (v : Int) (hv : refV C S R = v) (hn : S.normal = false) (h1 : R.op < 3) (w : World) (hN : NamesAt w) (hc : CfgAt w cv C) (hs : StdAt w sv S) (hr : RqtAt w rv R) : Calls Tryd.prog 6 #[cv, sv, rv] w fun e w' => e = .returned (.bool true) ∧ Below w.heap.size w w' := by
  have HN := Kp.mk hN
  clear hN
  have HG := Kp.mk hg
  have HM : Kp (S.made.length ≤ 100) := ⟨by omega⟩
  have HD : Kp (R.data.length ≤ 100) := ⟨by omega⟩
  have hsm := small_of_great hg
  have hmf : decide (60 < (S.made.length : Int)) = false := decide_eq_false hm
  clear hm
  have hdf : decide (100 < (R.data.length : Int)) = false := decide_eq_false hd
  clear hd
  have HV := Kp.mk hv
  clear hg hv
  have HC := Kp.mk hc
  have HS := Kp.mk hs
  have HR := Kp.mk hr
  obtain ⟨_, pa, pc, ca, cc, a0, c0, a1, c1, rfl, bp, bc, b0, b1, gp, gc, gw0, gw1⟩ := hc
  obtain ⟨_, ma, mc, va, vc, rfl, bm, bv, gm, gv⟩ := hs
  obtain ⟨ir, da, dc, rfl, bd, gd⟩ := hr
  clear gp gw0 gw1 gm gv gd bp b0 b1
  clear ir gc bc bm bv bd
  rw [hn] at HS ⊢
  clear hn
  go_enter Tryd.func6, Tryd.ntmps6
  have HB0 : Kp (Below w.heap.size w w) := ⟨Below.refl _ _⟩
  go_wp2_with fail
  refine (wakes10_any _ (HN.out.below (below_al (below_al (below_al HB0.out _) _) _))).mono ?_
  rintro e w1 ⟨rfl, hb⟩
  have q1 : Kp (w1.heap[w.heap.size]? = some (.cells #[.slice pa C.parts.length pc, .slice ca C.chans.length cc, .int .i64 C.l0, .slice a0 C.w0.length c0, .int .i64 C.l1, .slice a1 C.w1.length c1] 29 (0, 0))) := ⟨blk_below (blk_al (blk_al (blk_new _ _) _) _) hb⟩
  have s1 : Kp (w1.heap[w.heap.size + 1]? = some (.cells #[.int .i64 S.part, .bool false, .slice ma S.made.length mc, .slice va S.valid.length vc] 40 (0, 0))) := ⟨blk_below (blk_al (blk_at (w := (w.alloc (.cells #[.slice pa C.parts.length pc, .slice ca C.chans.length cc, .int .i64 C.l0, .slice a0 C.w0.length c0, .int .i64 C.l1, .slice a1 C.w1.length c1] 29))) (by simp) _) _) hb⟩
  have r1 : Kp (w1.heap[w.heap.size + 1 + 1]? = some (.cells #[.int .i64 R.op, .int .i64 R.port, .int .u64 R.addr, .slice da R.data.length dc] 44 (0, 0))) := ⟨blk_below (blk_at (w := ((w.alloc (.cells #[.slice pa C.parts.length pc, .slice ca C.chans.length cc, .int .i64 C.l0, .slice a0 C.w0.length c0, .int .i64 C.l1, .slice a1 C.w1.length c1] 29)).alloc (.cells #[.int .i64 S.part, .bool false, .slice ma S.made.length mc, .slice va S.valid.length vc] 40))) (by simp) _) hb⟩
  have HB1 : Kp (Below w.heap.size w w1) := ⟨below_call (below_al (below_al (below_al HB0.out _) _) _) hb⟩
  clear HB0 hb
  have qc0 : w1.cell? ⟨w.heap.size, 0, none⟩ = some (.slice pa C.parts.length pc) := (cell_blk q1.out 0).trans rfl
  have qc1 : w1.cell? ⟨w.heap.size, 1, none⟩ = some (.slice ca C.chans.length cc) := (cell_blk q1.out 1).trans rfl
  have qc2 : w1.cell? ⟨w.heap.size, 2, none⟩ = some (.int .i64 C.l0) := (cell_blk q1.out 2).trans rfl
  have qc3 : w1.cell? ⟨w.heap.size, 3, none⟩ = some (.slice a0 C.w0.length c0) := (cell_blk q1.out 3).trans rfl
  have qc4 : w1.cell? ⟨w.heap.size, 4, none⟩ = some (.int .i64 C.l1) := (cell_blk q1.out 4).trans rfl
  have qc5 : w1.cell? ⟨w.heap.size, 5, none⟩ = some (.slice a1 C.w1.length c1) := (cell_blk q1.out 5).trans rfl
  have ql := blk_lt q1.out
  have sc0 : w1.cell? ⟨w.heap.size + 1, 0, none⟩ = some (.int .i64 S.part) := (cell_blk s1.out 0).trans rfl
  have sc1 : w1.cell? ⟨w.heap.size + 1, 1, none⟩ = some (.bool false) := (cell_blk s1.out 1).trans rfl
  have sc2 : w1.cell? ⟨w.heap.size + 1, 2, none⟩ = some (.slice ma S.made.length mc) := (cell_blk s1.out 2).trans rfl
  have sc3 : w1.cell? ⟨w.heap.size + 1, 3, none⟩ = some (.slice va S.valid.length vc) := (cell_blk s1.out 3).trans rfl
  have sl := blk_lt s1.out
  have rc0 : w1.cell? ⟨w.heap.size + 1 + 1, 0, none⟩ = some (.int .i64 R.op) := (cell_blk r1.out 0).trans rfl
  have rc1 : w1.cell? ⟨w.heap.size + 1 + 1, 1, none⟩ = some (.int .i64 R.port) := (cell_blk r1.out 1).trans rfl
  have rc2 : w1.cell? ⟨w.heap.size + 1 + 1, 2, none⟩ = some (.int .u64 R.addr) := (cell_blk r1.out 2).trans rfl
  have rc3 : w1.cell? ⟨w.heap.size + 1 + 1, 3, none⟩ = some (.slice da R.data.length dc) := (cell_blk r1.out 3).trans rfl
  have rl := blk_lt r1.out
  go_wp2_with fail
  refine (great_any _ C _ (HC.out.below HB1.out)).mono ?_
  rw [HG.out]
  rintro e w2 ⟨rfl, hb⟩
  have q2 : Kp (w2.heap[w.heap.size]? = some (.cells #[.slice pa C.parts.length pc, .slice ca C.chans.length cc, .int .i64 C.l0, .slice a0 C.w0.length c0, .int .i64 C.l1, .slice a1 C.w1.length c1] 29 (0, 0))) := ⟨blk_below q1.out hb⟩
  have s2 : Kp (w2.heap[w.heap.size + 1]? = some (.cells #[.int .i64 S.part, .bool false, .slice ma S.made.length mc, .slice va S.valid.length vc] 40 (0, 0))) := ⟨blk_below s1.out hb⟩
  have r2 : Kp (w2.heap[w.heap.size + 1 + 1]? = some (.cells #[.int .i64 R.op, .int .i64 R.port, .int .u64 R.addr, .slice da R.data.length dc] 44 (0, 0))) := ⟨blk_below r1.out hb⟩
  have HB2 : Kp (Below w.heap.size w w2) := ⟨below_call HB1.out hb⟩
  clear qc0 qc1 qc2 qc3 qc4 qc5 ql sc0 sc1 sc2 sc3 sl rc0 rc1 rc2 rc3 rl q1 s1 r1 HB1 hb
  have qc0 : w2.cell? ⟨w.heap.size, 0, none⟩ = some (.slice pa C.parts.length pc) := (cell_blk q2.out 0).trans rfl
  have qc1 : w2.cell? ⟨w.heap.size, 1, none⟩ = some (.slice ca C.chans.length cc) := (cell_blk q2.out 1).trans rfl
  have qc2 : w2.cell? ⟨w.heap.size, 2, none⟩ = some (.int .i64 C.l0) := (cell_blk q2.out 2).trans rfl
  have qc3 : w2.cell? ⟨w.heap.size, 3, none⟩ = some (.slice a0 C.w0.length c0) := (cell_blk q2.out 3).trans rfl
  have qc4 : w2.cell? ⟨w.heap.size, 4, none⟩ = some (.int .i64 C.l1) := (cell_blk q2.out 4).trans rfl
  have qc5 : w2.cell? ⟨w.heap.size, 5, none⟩ = some (.slice a1 C.w1.length c1) := (cell_blk q2.out 5).trans rfl
  have ql := blk_lt q2.out
  have sc0 : w2.cell? ⟨w.heap.size + 1, 0, none⟩ = some (.int .i64 S.part) := (cell_blk s2.out 0).trans rfl
  have sc1 : w2.cell? ⟨w.heap.size + 1, 1, none⟩ = some (.bool false) := (cell_blk s2.out 1).trans rfl
  have sc2 : w2.cell? ⟨w.heap.size + 1, 2, none⟩ = some (.slice ma S.made.length mc) := (cell_blk s2.out 2).trans rfl
  have sc3 : w2.cell? ⟨w.heap.size + 1, 3, none⟩ = some (.slice va S.valid.length vc) := (cell_blk s2.out 3).trans rfl
  have sl := blk_lt s2.out
  have rc0 : w2.cell? ⟨w.heap.size + 1 + 1, 0, none⟩ = some (.int .i64 R.op) := (cell_blk r2.out 0).trans rfl
  have rc1 : w2.cell? ⟨w.heap.size + 1 + 1, 1, none⟩ = some (.int .i64 R.port) := (cell_blk r2.out 1).trans rfl
  have rc2 : w2.cell? ⟨w.heap.size + 1 + 1, 2, none⟩ = some (.int .u64 R.addr) := (cell_blk r2.out 2).trans rfl
  have rc3 : w2.cell? ⟨w.heap.size + 1 + 1, 3, none⟩ = some (.slice da R.data.length dc) := (cell_blk r2.out 3).trans rfl
  have rl := blk_lt r2.out
  go_wp2_with fail
  refine (refused_any _ _ _ C S R hsm HM.out HD.out _ (HN.out.below HB2.out) (HC.out.below HB2.out) (HS.out.below HB2.out) (HR.out.below HB2.out)).mono ?_
  rw [HV.out]
  rintro e w3 ⟨rfl, hb⟩
  have q3 : Kp (w3.heap[w.heap.size]? = some (.cells #[.slice pa C.parts.length pc, .slice ca C.chans.length cc, .int .i64 C.l0, .slice a0 C.w0.length c0, .int .i64 C.l1, .slice a1 C.w1.length c1] 29 (0, 0))) := ⟨blk_below q2.out hb⟩
  have s3 : Kp (w3.heap[w.heap.size + 1]? = some (.cells #[.int .i64 S.part, .bool false, .slice ma S.made.length mc, .slice va S.valid.length vc] 40 (0, 0))) := ⟨blk_below s2.out hb⟩
  have r3 : Kp (w3.heap[w.heap.size + 1 + 1]? = some (.cells #[.int .i64 R.op, .int .i64 R.port, .int .u64 R.addr, .slice da R.data.length dc] 44 (0, 0))) := ⟨blk_below r2.out hb⟩
  have HB3 : Kp (Below w.heap.size w w3) := ⟨below_call HB2.out hb⟩
  clear qc0 qc1 qc2 qc3 qc4 qc5 ql sc0 sc1 sc2 sc3 sl rc0 rc1 rc2 rc3 rl q2 s2 r2 HB2 hb
  have qc0 : w3.cell? ⟨w.heap.size, 0, none⟩ = some (.slice pa C.parts.length pc) := (cell_blk q3.out 0).trans rfl
  have qc1 : w3.cell? ⟨w.heap.size, 1, none⟩ = some (.slice ca C.chans.length cc) := (cell_blk q3.out 1).trans rfl
  have qc2 : w3.cell? ⟨w.heap.size, 2, none⟩ = some (.int .i64 C.l0) := (cell_blk q3.out 2).trans rfl
  have qc3 : w3.cell? ⟨w.heap.size, 3, none⟩ = some (.slice a0 C.w0.length c0) := (cell_blk q3.out 3).trans rfl
  have qc4 : w3.cell? ⟨w.heap.size, 4, none⟩ = some (.int .i64 C.l1) := (cell_blk q3.out 4).trans rfl
  have qc5 : w3.cell? ⟨w.heap.size, 5, none⟩ = some (.slice a1 C.w1.length c1) := (cell_blk q3.out 5).trans rfl
  have ql := blk_lt q3.out
  have sc0 : w3.cell? ⟨w.heap.size + 1, 0, none⟩ = some (.int .i64 S.part) := (cell_blk s3.out 0).trans rfl
  have sc1 : w3.cell? ⟨w.heap.size + 1, 1, none⟩ = some (.bool false) := (cell_blk s3.out 1).trans rfl
  have sc2 : w3.cell? ⟨w.heap.size + 1, 2, none⟩ = some (.slice ma S.made.length mc) := (cell_blk s3.out 2).trans rfl
  have sc3 : w3.cell? ⟨w.heap.size + 1, 3, none⟩ = some (.slice va S.valid.length vc) := (cell_blk s3.out 3).trans rfl
  have sl := blk_lt s3.out
  have rc0 : w3.cell? ⟨w.heap.size + 1 + 1, 0, none⟩ = some (.int .i64 R.op) := (cell_blk r3.out 0).trans rfl
  have rc1 : w3.cell? ⟨w.heap.size + 1 + 1, 1, none⟩ = some (.int .i64 R.port) := (cell_blk r3.out 1).trans rfl
  have rc2 : w3.cell? ⟨w.heap.size + 1 + 1, 2, none⟩ = some (.int .u64 R.addr) := (cell_blk r3.out 2).trans rfl
  have rc3 : w3.cell? ⟨w.heap.size + 1 + 1, 3, none⟩ = some (.slice da R.data.length dc) := (cell_blk r3.out 3).trans rfl
  have rl := blk_lt r3.out
  go_wp2
  go_ret
  exact ⟨rfl, HB3.out⟩

set_option maxRecDepth 100000 in
set_option maxHeartbeats 8000000 in
theorem signModes_offhi (cv sv rv : Value) (C : Cfg) (S : Std) (R : Rqt) (hg : C.great = false) (hm : ¬ 60 < (S.made.length : Int)) (hd : ¬ 100 < (R.data.length : Int)) (v : Int) (hv : refV C S R = v) (hn : S.normal = false) (h0 : 3 ≤ R.op) (h1 : 7 < R.op) (w : World) (hN : NamesAt w) (hc : CfgAt w cv C) (hs : StdAt w sv S) (hr : RqtAt w rv R) : Calls Tryd.prog 6 #[cv, sv, rv] w fun e w' => e = .returned (.bool true) ∧ Below w.heap.size w w' := by
  have HN := Kp.mk hN
  clear hN
  have HG := Kp.mk hg
  have HM : Kp (S.made.length ≤ 100) := ⟨by omega⟩
  have HD : Kp (R.data.length ≤ 100) := ⟨by omega⟩
  have hsm := small_of_great hg
  have hmf : decide (60 < (S.made.length : Int)) = false := decide_eq_false hm
  clear hm
  have hdf : decide (100 < (R.data.length : Int)) = false := decide_eq_false hd
  clear hd
  have HV := Kp.mk hv
  clear hg hv
  have HC := Kp.mk hc
  have HS := Kp.mk hs
  have HR := Kp.mk hr
  obtain ⟨_, pa, pc, ca, cc, a0, c0, a1, c1, rfl, bp, bc, b0, b1, gp, gc, gw0, gw1⟩ := hc
  obtain ⟨_, ma, mc, va, vc, rfl, bm, bv, gm, gv⟩ := hs
  obtain ⟨ir, da, dc, rfl, bd, gd⟩ := hr
  clear gp gw0 gw1 gm gv gd bp b0 b1
  clear ir gc bc bm bv bd
  rw [hn] at HS ⊢
  clear hn
  go_enter Tryd.func6, Tryd.ntmps6
  have HB0 : Kp (Below w.heap.size w w) := ⟨Below.refl _ _⟩
  go_wp2_with fail
  refine (wakes10_any _ (HN.out.below (below_al (below_al (below_al HB0.out _) _) _))).mono ?_
  rintro e w1 ⟨rfl, hb⟩
  have q1 : Kp (w1.heap[w.heap.size]? = some (.cells #[.slice pa C.parts.length pc, .slice ca C.chans.length cc, .int .i64 C.l0, .slice a0 C.w0.length c0, .int .i64 C.l1, .slice a1 C.w1.length c1] 29 (0, 0))) := ⟨blk_below (blk_al (blk_al (blk_new _ _) _) _) hb⟩
  have s1 : Kp (w1.heap[w.heap.size + 1]? = some (.cells #[.int .i64 S.part, .bool false, .slice ma S.made.length mc, .slice va S.valid.length vc] 40 (0, 0))) := ⟨blk_below (blk_al (blk_at (w := (w.alloc (.cells #[.slice pa C.parts.length pc, .slice ca C.chans.length cc, .int .i64 C.l0, .slice a0 C.w0.length c0, .int .i64 C.l1, .slice a1 C.w1.length c1] 29))) (by simp) _) _) hb⟩
  have r1 : Kp (w1.heap[w.heap.size + 1 + 1]? = some (.cells #[.int .i64 R.op, .int .i64 R.port, .int .u64 R.addr, .slice da R.data.length dc] 44 (0, 0))) := ⟨blk_below (blk_at (w := ((w.alloc (.cells #[.slice pa C.parts.length pc, .slice ca C.chans.length cc, .int .i64 C.l0, .slice a0 C.w0.length c0, .int .i64 C.l1, .slice a1 C.w1.length c1] 29)).alloc (.cells #[.int .i64 S.part, .bool false, .slice ma S.made.length mc, .slice va S.valid.length vc] 40))) (by simp) _) hb⟩
  have HB1 : Kp (Below w.heap.size w w1) := ⟨below_call (below_al (below_al (below_al HB0.out _) _) _) hb⟩
  clear HB0 hb
  have qc0 : w1.cell? ⟨w.heap.size, 0, none⟩ = some (.slice pa C.parts.length pc) := (cell_blk q1.out 0).trans rfl
  have qc1 : w1.cell? ⟨w.heap.size, 1, none⟩ = some (.slice ca C.chans.length cc) := (cell_blk q1.out 1).trans rfl
  have qc2 : w1.cell? ⟨w.heap.size, 2, none⟩ = some (.int .i64 C.l0) := (cell_blk q1.out 2).trans rfl
  have qc3 : w1.cell? ⟨w.heap.size, 3, none⟩ = some (.slice a0 C.w0.length c0) := (cell_blk q1.out 3).trans rfl
  have qc4 : w1.cell? ⟨w.heap.size, 4, none⟩ = some (.int .i64 C.l1) := (cell_blk q1.out 4).trans rfl
  have qc5 : w1.cell? ⟨w.heap.size, 5, none⟩ = some (.slice a1 C.w1.length c1) := (cell_blk q1.out 5).trans rfl
  have ql := blk_lt q1.out
  have sc0 : w1.cell? ⟨w.heap.size + 1, 0, none⟩ = some (.int .i64 S.part) := (cell_blk s1.out 0).trans rfl
  have sc1 : w1.cell? ⟨w.heap.size + 1, 1, none⟩ = some (.bool false) := (cell_blk s1.out 1).trans rfl
  have sc2 : w1.cell? ⟨w.heap.size + 1, 2, none⟩ = some (.slice ma S.made.length mc) := (cell_blk s1.out 2).trans rfl
  have sc3 : w1.cell? ⟨w.heap.size + 1, 3, none⟩ = some (.slice va S.valid.length vc) := (cell_blk s1.out 3).trans rfl
  have sl := blk_lt s1.out
  have rc0 : w1.cell? ⟨w.heap.size + 1 + 1, 0, none⟩ = some (.int .i64 R.op) := (cell_blk r1.out 0).trans rfl
  have rc1 : w1.cell? ⟨w.heap.size + 1 + 1, 1, none⟩ = some (.int .i64 R.port) := (cell_blk r1.out 1).trans rfl
  have rc2 : w1.cell? ⟨w.heap.size + 1 + 1, 2, none⟩ = some (.int .u64 R.addr) := (cell_blk r1.out 2).trans rfl
  have rc3 : w1.cell? ⟨w.heap.size + 1 + 1, 3, none⟩ = some (.slice da R.data.length dc) := (cell_blk r1.out 3).trans rfl
  have rl := blk_lt r1.out
  go_wp2_with fail
  refine (great_any _ C _ (HC.out.below HB1.out)).mono ?_
  rw [HG.out]
  rintro e w2 ⟨rfl, hb⟩
  have q2 : Kp (w2.heap[w.heap.size]? = some (.cells #[.slice pa C.parts.length pc, .slice ca C.chans.length cc, .int .i64 C.l0, .slice a0 C.w0.length c0, .int .i64 C.l1, .slice a1 C.w1.length c1] 29 (0, 0))) := ⟨blk_below q1.out hb⟩
  have s2 : Kp (w2.heap[w.heap.size + 1]? = some (.cells #[.int .i64 S.part, .bool false, .slice ma S.made.length mc, .slice va S.valid.length vc] 40 (0, 0))) := ⟨blk_below s1.out hb⟩
  have r2 : Kp (w2.heap[w.heap.size + 1 + 1]? = some (.cells #[.int .i64 R.op, .int .i64 R.port, .int .u64 R.addr, .slice da R.data.length dc] 44 (0, 0))) := ⟨blk_below r1.out hb⟩
  have HB2 : Kp (Below w.heap.size w w2) := ⟨below_call HB1.out hb⟩
  clear qc0 qc1 qc2 qc3 qc4 qc5 ql sc0 sc1 sc2 sc3 sl rc0 rc1 rc2 rc3 rl q1 s1 r1 HB1 hb
  have qc0 : w2.cell? ⟨w.heap.size, 0, none⟩ = some (.slice pa C.parts.length pc) := (cell_blk q2.out 0).trans rfl
  have qc1 : w2.cell? ⟨w.heap.size, 1, none⟩ = some (.slice ca C.chans.length cc) := (cell_blk q2.out 1).trans rfl
  have qc2 : w2.cell? ⟨w.heap.size, 2, none⟩ = some (.int .i64 C.l0) := (cell_blk q2.out 2).trans rfl
  have qc3 : w2.cell? ⟨w.heap.size, 3, none⟩ = some (.slice a0 C.w0.length c0) := (cell_blk q2.out 3).trans rfl
  have qc4 : w2.cell? ⟨w.heap.size, 4, none⟩ = some (.int .i64 C.l1) := (cell_blk q2.out 4).trans rfl
  have qc5 : w2.cell? ⟨w.heap.size, 5, none⟩ = some (.slice a1 C.w1.length c1) := (cell_blk q2.out 5).trans rfl
  have ql := blk_lt q2.out
  have sc0 : w2.cell? ⟨w.heap.size + 1, 0, none⟩ = some (.int .i64 S.part) := (cell_blk s2.out 0).trans rfl
  have sc1 : w2.cell? ⟨w.heap.size + 1, 1, none⟩ = some (.bool false) := (cell_blk s2.out 1).trans rfl
  have sc2 : w2.cell? ⟨w.heap.size + 1, 2, none⟩ = some (.slice ma S.made.length mc) := (cell_blk s2.out 2).trans rfl
  have sc3 : w2.cell? ⟨w.heap.size + 1, 3, none⟩ = some (.slice va S.valid.length vc) := (cell_blk s2.out 3).trans rfl
  have sl := blk_lt s2.out
  have rc0 : w2.cell? ⟨w.heap.size + 1 + 1, 0, none⟩ = some (.int .i64 R.op) := (cell_blk r2.out 0).trans rfl
  have rc1 : w2.cell? ⟨w.heap.size + 1 + 1, 1, none⟩ = some (.int .i64 R.port) := (cell_blk r2.out 1).trans rfl
  have rc2 : w2.cell? ⟨w.heap.size + 1 + 1, 2, none⟩ = some (.int .u64 R.addr) := (cell_blk r2.out 2).trans rfl
  have rc3 : w2.cell? ⟨w.heap.size + 1 + 1, 3, none⟩ = some (.slice da R.data.length dc) := (cell_blk r2.out 3).trans rfl
  have rl := blk_lt r2.out
  go_wp2_with fail
  refine (refused_any _ _ _ C S R hsm HM.out HD.out _ (HN.out.below HB2.out) (HC.out.below HB2.out) (HS.out.below HB2.out) (HR.out.below HB2.out)).mono ?_
  rw [HV.out]
  rintro e w3 ⟨rfl, hb⟩
  have q3 : Kp (w3.heap[w.heap.size]? = some (.cells #[.slice pa C.parts.length pc, .slice ca C.chans.length cc, .int .i64 C.l0, .slice a0 C.w0.length c0, .int .i64 C.l1, .slice a1 C.w1.length c1] 29 (0, 0))) := ⟨blk_below q2.out hb⟩
  have s3 : Kp (w3.heap[w.heap.size + 1]? = some (.cells #[.int .i64 S.part, .bool false, .slice ma S.made.length mc, .slice va S.valid.length vc] 40 (0, 0))) := ⟨blk_below s2.out hb⟩
  have r3 : Kp (w3.heap[w.heap.size + 1 + 1]? = some (.cells #[.int .i64 R.op, .int .i64 R.port, .int .u64 R.addr, .slice da R.data.length dc] 44 (0, 0))) := ⟨blk_below r2.out hb⟩
  have HB3 : Kp (Below w.heap.size w w3) := ⟨below_call HB2.out hb⟩
  clear qc0 qc1 qc2 qc3 qc4 qc5 ql sc0 sc1 sc2 sc3 sl rc0 rc1 rc2 rc3 rl q2 s2 r2 HB2 hb
  have qc0 : w3.cell? ⟨w.heap.size, 0, none⟩ = some (.slice pa C.parts.length pc) := (cell_blk q3.out 0).trans rfl
  have qc1 : w3.cell? ⟨w.heap.size, 1, none⟩ = some (.slice ca C.chans.length cc) := (cell_blk q3.out 1).trans rfl
  have qc2 : w3.cell? ⟨w.heap.size, 2, none⟩ = some (.int .i64 C.l0) := (cell_blk q3.out 2).trans rfl
  have qc3 : w3.cell? ⟨w.heap.size, 3, none⟩ = some (.slice a0 C.w0.length c0) := (cell_blk q3.out 3).trans rfl
  have qc4 : w3.cell? ⟨w.heap.size, 4, none⟩ = some (.int .i64 C.l1) := (cell_blk q3.out 4).trans rfl
  have qc5 : w3.cell? ⟨w.heap.size, 5, none⟩ = some (.slice a1 C.w1.length c1) := (cell_blk q3.out 5).trans rfl
  have ql := blk_lt q3.out
  have sc0 : w3.cell? ⟨w.heap.size + 1, 0, none⟩ = some (.int .i64 S.part) := (cell_blk s3.out 0).trans rfl
  have sc1 : w3.cell? ⟨w.heap.size + 1, 1, none⟩ = some (.bool false) := (cell_blk s3.out 1).trans rfl
  have sc2 : w3.cell? ⟨w.heap.size + 1, 2, none⟩ = some (.slice ma S.made.length mc) := (cell_blk s3.out 2).trans rfl
  have sc3 : w3.cell? ⟨w.heap.size + 1, 3, none⟩ = some (.slice va S.valid.length vc) := (cell_blk s3.out 3).trans rfl
  have sl := blk_lt s3.out
  have rc0 : w3.cell? ⟨w.heap.size + 1 + 1, 0, none⟩ = some (.int .i64 R.op) := (cell_blk r3.out 0).trans rfl
  have rc1 : w3.cell? ⟨w.heap.size + 1 + 1, 1, none⟩ = some (.int .i64 R.port) := (cell_blk r3.out 1).trans rfl
  have rc2 : w3.cell? ⟨w.heap.size + 1 + 1, 2, none⟩ = some (.int .u64 R.addr) := (cell_blk r3.out 2).trans rfl
  have rc3 : w3.cell? ⟨w.heap.size + 1 + 1, 3, none⟩ = some (.slice da R.data.length dc) := (cell_blk r3.out 3).trans rfl
  have rl := blk_lt r3.out
  go_wp2
  go_ret
  exact ⟨rfl, HB3.out⟩

set_option maxRecDepth 100000 in
set_option maxHeartbeats 8000000 in
theorem signModes_off (cv sv rv : Value) (C : Cfg) (S : Std) (R : Rqt) (hg : C.great = false) (hm : ¬ 60 < (S.made.length : Int)) (hd : ¬ 100 < (R.data.length : Int)) (v : Int) (hv : refV C S R = v) (hn : S.normal = false) (h0 : 3 ≤ R.op) (h1 : R.op ≤ 7) (hv0 : v ≠ 0) (w : World) (hN : NamesAt w) (hc : CfgAt w cv C) (hs : StdAt w sv S) (hr : RqtAt w rv R) : Calls Tryd.prog 6 #[cv, sv, rv] w fun e w' => e = .returned (.bool true) ∧ Below w.heap.size w w' := by
  have HN := Kp.mk hN
  clear hN
  have HG := Kp.mk hg
  have HM : Kp (S.made.length ≤ 100) := ⟨by omega⟩
  have HD : Kp (R.data.length ≤ 100) := ⟨by omega⟩
  have hsm := small_of_great hg
  have hmf : decide (60 < (S.made.length : Int)) = false := decide_eq_false hm
  clear hm
  have hdf : decide (100 < (R.data.length : Int)) = false := decide_eq_false hd
  clear hd
  have HV := Kp.mk hv
  have hve : (v != 0) = true := by simpa using hv0
  clear hv0
  clear hg hv
  have HC := Kp.mk hc
  have HS := Kp.mk hs
  have HR := Kp.mk hr
  obtain ⟨_, pa, pc, ca, cc, a0, c0, a1, c1, rfl, bp, bc, b0, b1, gp, gc, gw0, gw1⟩ := hc
  obtain ⟨_, ma, mc, va, vc, rfl, bm, bv, gm, gv⟩ := hs
  obtain ⟨ir, da, dc, rfl, bd, gd⟩ := hr
  clear gp gw0 gw1 gm gv gd bp b0 b1
  clear ir gc bc bm bv bd
  rw [hn] at HS ⊢
  clear hn
  go_enter Tryd.func6, Tryd.ntmps6
  have HB0 : Kp (Below w.heap.size w w) := ⟨Below.refl _ _⟩
  go_wp2_with fail
  refine (wakes10_any _ (HN.out.below (below_al (below_al (below_al HB0.out _) _) _))).mono ?_
  rintro e w1 ⟨rfl, hb⟩
  have q1 : Kp (w1.heap[w.heap.size]? = some (.cells #[.slice pa C.parts.length pc, .slice ca C.chans.length cc, .int .i64 C.l0, .slice a0 C.w0.length c0, .int .i64 C.l1, .slice a1 C.w1.length c1] 29 (0, 0))) := ⟨blk_below (blk_al (blk_al (blk_new _ _) _) _) hb⟩
  have s1 : Kp (w1.heap[w.heap.size + 1]? = some (.cells #[.int .i64 S.part, .bool false, .slice ma S.made.length mc, .slice va S.valid.length vc] 40 (0, 0))) := ⟨blk_below (blk_al (blk_at (w := (w.alloc (.cells #[.slice pa C.parts.length pc, .slice ca C.chans.length cc, .int .i64 C.l0, .slice a0 C.w0.length c0, .int .i64 C.l1, .slice a1 C.w1.length c1] 29))) (by simp) _) _) hb⟩
  have r1 : Kp (w1.heap[w.heap.size + 1 + 1]? = some (.cells #[.int .i64 R.op, .int .i64 R.port, .int .u64 R.addr, .slice da R.data.length dc] 44 (0, 0))) := ⟨blk_below (blk_at (w := ((w.alloc (.cells #[.slice pa C.parts.length pc, .slice ca C.chans.length cc, .int .i64 C.l0, .slice a0 C.w0.length c0, .int .i64 C.l1, .slice a1 C.w1.length c1] 29)).alloc (.cells #[.int .i64 S.part, .bool false, .slice ma S.made.length mc, .slice va S.valid.length vc] 40))) (by simp) _) hb⟩
  have HB1 : Kp (Below w.heap.size w w1) := ⟨below_call (below_al (below_al (below_al HB0.out _) _) _) hb⟩
  clear HB0 hb
  have qc0 : w1.cell? ⟨w.heap.size, 0, none⟩ = some (.slice pa C.parts.length pc) := (cell_blk q1.out 0).trans rfl
  have qc1 : w1.cell? ⟨w.heap.size, 1, none⟩ = some (.slice ca C.chans.length cc) := (cell_blk q1.out 1).trans rfl
  have qc2 : w1.cell? ⟨w.heap.size, 2, none⟩ = some (.int .i64 C.l0) := (cell_blk q1.out 2).trans rfl
  have qc3 : w1.cell? ⟨w.heap.size, 3, none⟩ = some (.slice a0 C.w0.length c0) := (cell_blk q1.out 3).trans rfl
  have qc4 : w1.cell? ⟨w.heap.size, 4, none⟩ = some (.int .i64 C.l1) := (cell_blk q1.out 4).trans rfl
  have qc5 : w1.cell? ⟨w.heap.size, 5, none⟩ = some (.slice a1 C.w1.length c1) := (cell_blk q1.out 5).trans rfl
  have ql := blk_lt q1.out
  have sc0 : w1.cell? ⟨w.heap.size + 1, 0, none⟩ = some (.int .i64 S.part) := (cell_blk s1.out 0).trans rfl
  have sc1 : w1.cell? ⟨w.heap.size + 1, 1, none⟩ = some (.bool false) := (cell_blk s1.out 1).trans rfl
  have sc2 : w1.cell? ⟨w.heap.size + 1, 2, none⟩ = some (.slice ma S.made.length mc) := (cell_blk s1.out 2).trans rfl
  have sc3 : w1.cell? ⟨w.heap.size + 1, 3, none⟩ = some (.slice va S.valid.length vc) := (cell_blk s1.out 3).trans rfl
  have sl := blk_lt s1.out
  have rc0 : w1.cell? ⟨w.heap.size + 1 + 1, 0, none⟩ = some (.int .i64 R.op) := (cell_blk r1.out 0).trans rfl
  have rc1 : w1.cell? ⟨w.heap.size + 1 + 1, 1, none⟩ = some (.int .i64 R.port) := (cell_blk r1.out 1).trans rfl
  have rc2 : w1.cell? ⟨w.heap.size + 1 + 1, 2, none⟩ = some (.int .u64 R.addr) := (cell_blk r1.out 2).trans rfl
  have rc3 : w1.cell? ⟨w.heap.size + 1 + 1, 3, none⟩ = some (.slice da R.data.length dc) := (cell_blk r1.out 3).trans rfl
  have rl := blk_lt r1.out
  go_wp2_with fail
  refine (great_any _ C _ (HC.out.below HB1.out)).mono ?_
  rw [HG.out]
  rintro e w2 ⟨rfl, hb⟩
  have q2 : Kp (w2.heap[w.heap.size]? = some (.cells #[.slice pa C.parts.length pc, .slice ca C.chans.length cc, .int .i64 C.l0, .slice a0 C.w0.length c0, .int .i64 C.l1, .slice a1 C.w1.length c1] 29 (0, 0))) := ⟨blk_below q1.out hb⟩
  have s2 : Kp (w2.heap[w.heap.size + 1]? = some (.cells #[.int .i64 S.part, .bool false, .slice ma S.made.length mc, .slice va S.valid.length vc] 40 (0, 0))) := ⟨blk_below s1.out hb⟩
  have r2 : Kp (w2.heap[w.heap.size + 1 + 1]? = some (.cells #[.int .i64 R.op, .int .i64 R.port, .int .u64 R.addr, .slice da R.data.length dc] 44 (0, 0))) := ⟨blk_below r1.out hb⟩
  have HB2 : Kp (Below w.heap.size w w2) := ⟨below_call HB1.out hb⟩
  clear qc0 qc1 qc2 qc3 qc4 qc5 ql sc0 sc1 sc2 sc3 sl rc0 rc1 rc2 rc3 rl q1 s1 r1 HB1 hb
  have qc0 : w2.cell? ⟨w.heap.size, 0, none⟩ = some (.slice pa C.parts.length pc) := (cell_blk q2.out 0).trans rfl
  have qc1 : w2.cell? ⟨w.heap.size, 1, none⟩ = some (.slice ca C.chans.length cc) := (cell_blk q2.out 1).trans rfl
  have qc2 : w2.cell? ⟨w.heap.size, 2, none⟩ = some (.int .i64 C.l0) := (cell_blk q2.out 2).trans rfl
  have qc3 : w2.cell? ⟨w.heap.size, 3, none⟩ = some (.slice a0 C.w0.length c0) := (cell_blk q2.out 3).trans rfl
  have qc4 : w2.cell? ⟨w.heap.size, 4, none⟩ = some (.int .i64 C.l1) := (cell_blk q2.out 4).trans rfl
  have qc5 : w2.cell? ⟨w.heap.size, 5, none⟩ = some (.slice a1 C.w1.length c1) := (cell_blk q2.out 5).trans rfl
  have ql := blk_lt q2.out
  have sc0 : w2.cell? ⟨w.heap.size + 1, 0, none⟩ = some (.int .i64 S.part) := (cell_blk s2.out 0).trans rfl
  have sc1 : w2.cell? ⟨w.heap.size + 1, 1, none⟩ = some (.bool false) := (cell_blk s2.out 1).trans rfl
  have sc2 : w2.cell? ⟨w.heap.size + 1, 2, none⟩ = some (.slice ma S.made.length mc) := (cell_blk s2.out 2).trans rfl
  have sc3 : w2.cell? ⟨w.heap.size + 1, 3, none⟩ = some (.slice va S.valid.length vc) := (cell_blk s2.out 3).trans rfl
  have sl := blk_lt s2.out
  have rc0 : w2.cell? ⟨w.heap.size + 1 + 1, 0, none⟩ = some (.int .i64 R.op) := (cell_blk r2.out 0).trans rfl
  have rc1 : w2.cell? ⟨w.heap.size + 1 + 1, 1, none⟩ = some (.int .i64 R.port) := (cell_blk r2.out 1).trans rfl
  have rc2 : w2.cell? ⟨w.heap.size + 1 + 1, 2, none⟩ = some (.int .u64 R.addr) := (cell_blk r2.out 2).trans rfl
  have rc3 : w2.cell? ⟨w.heap.size + 1 + 1, 3, none⟩ = some (.slice da R.data.length dc) := (cell_blk r2.out 3).trans rfl
  have rl := blk_lt r2.out
  go_wp2_with fail
  refine (refused_any _ _ _ C S R hsm HM.out HD.out _ (HN.out.below HB2.out) (HC.out.below HB2.out) (HS.out.below HB2.out) (HR.out.below HB2.out)).mono ?_
  rw [HV.out]
  rintro e w3 ⟨rfl, hb⟩
  have q3 : Kp (w3.heap[w.heap.size]? = some (.cells #[.slice pa C.parts.length pc, .slice ca C.chans.length cc, .int .i64 C.l0, .slice a0 C.w0.length c0, .int .i64 C.l1, .slice a1 C.w1.length c1] 29 (0, 0))) := ⟨blk_below q2.out hb⟩
  have s3 : Kp (w3.heap[w.heap.size + 1]? = some (.cells #[.int .i64 S.part, .bool false, .slice ma S.made.length mc, .slice va S.valid.length vc] 40 (0, 0))) := ⟨blk_below s2.out hb⟩
  have r3 : Kp (w3.heap[w.heap.size + 1 + 1]? = some (.cells #[.int .i64 R.op, .int .i64 R.port, .int .u64 R.addr, .slice da R.data.length dc] 44 (0, 0))) := ⟨blk_below r2.out hb⟩
  have HB3 : Kp (Below w.heap.size w w3) := ⟨below_call HB2.out hb⟩
  clear qc0 qc1 qc2 qc3 qc4 qc5 ql sc0 sc1 sc2 sc3 sl rc0 rc1 rc2 rc3 rl q2 s2 r2 HB2 hb
  have qc0 : w3.cell? ⟨w.heap.size, 0, none⟩ = some (.slice pa C.parts.length pc) := (cell_blk q3.out 0).trans rfl
  have qc1 : w3.cell? ⟨w.heap.size, 1, none⟩ = some (.slice ca C.chans.length cc) := (cell_blk q3.out 1).trans rfl
  have qc2 : w3.cell? ⟨w.heap.size, 2, none⟩ = some (.int .i64 C.l0) := (cell_blk q3.out 2).trans rfl
  have qc3 : w3.cell? ⟨w.heap.size, 3, none⟩ = some (.slice a0 C.w0.length c0) := (cell_blk q3.out 3).trans rfl
  have qc4 : w3.cell? ⟨w.heap.size, 4, none⟩ = some (.int .i64 C.l1) := (cell_blk q3.out 4).trans rfl
  have qc5 : w3.cell? ⟨w.heap.size, 5, none⟩ = some (.slice a1 C.w1.length c1) := (cell_blk q3.out 5).trans rfl
  have ql := blk_lt q3.out
  have sc0 : w3.cell? ⟨w.heap.size + 1, 0, none⟩ = some (.int .i64 S.part) := (cell_blk s3.out 0).trans rfl
  have sc1 : w3.cell? ⟨w.heap.size + 1, 1, none⟩ = some (.bool false) := (cell_blk s3.out 1).trans rfl
  have sc2 : w3.cell? ⟨w.heap.size + 1, 2, none⟩ = some (.slice ma S.made.length mc) := (cell_blk s3.out 2).trans rfl
  have sc3 : w3.cell? ⟨w.heap.size + 1, 3, none⟩ = some (.slice va S.valid.length vc) := (cell_blk s3.out 3).trans rfl
  have sl := blk_lt s3.out
  have rc0 : w3.cell? ⟨w.heap.size + 1 + 1, 0, none⟩ = some (.int .i64 R.op) := (cell_blk r3.out 0).trans rfl
  have rc1 : w3.cell? ⟨w.heap.size + 1 + 1, 1, none⟩ = some (.int .i64 R.port) := (cell_blk r3.out 1).trans rfl
  have rc2 : w3.cell? ⟨w.heap.size + 1 + 1, 2, none⟩ = some (.int .u64 R.addr) := (cell_blk r3.out 2).trans rfl
  have rc3 : w3.cell? ⟨w.heap.size + 1 + 1, 3, none⟩ = some (.slice da R.data.length dc) := (cell_blk r3.out 3).trans rfl
  have rl := blk_lt r3.out
  go_wp2
  go_ret
  exact ⟨rfl, HB3.out⟩

theorem signModes_any' (v0 v1 v2 : Value) (w : World) (hN : NamesAt w) (h0 : RdV w cfgSh v0) (h1 : RdV w stdSh v1) (h2 : RdV w rqtSh v2) : Calls Tryd.prog 6 #[v0, v1, v2] w fun e w' => e = .returned (.bool true) ∧ Below w.heap.size w w' := by
  obtain ⟨C, hC⟩ := cfgAt_of h0
  obtain ⟨S, hS⟩ := stdAt_of h1
  obtain ⟨R, hR⟩ := rqtAt_of h2
  cases hg : C.great with
  | true => exact signModes_great v0 v1 v2 C S R hg w hN hC hS hR
  | false =>
    by_cases hm : 60 < (S.made.length : Int)
    · exact signModes_made v0 v1 v2 C S R hg hm w hN hC hS hR
    · by_cases hd : 100 < (R.data.length : Int)
      · exact signModes_data v0 v1 v2 C S R hg hm hd w hN hC hS hR
      · cases hn : S.normal with
        | true =>
          by_cases h1 : R.op = 1
          · exact signModes_on1 v0 v1 v2 C S R hg hm hd _ rfl hn h1 (modes_on C S R hn (.inl h1)) w hN hC hS hR
          · by_cases h2 : R.op = 2
            · exact signModes_on2 v0 v1 v2 C S R hg hm hd _ rfl hn h2 (modes_on C S R hn (.inr h2)) w hN hC hS hR
            · exact signModes_onx v0 v1 v2 C S R hg hm hd _ rfl hn h1 h2 w hN hC hS hR
        | false =>
          by_cases h1 : R.op < 3
          · exact signModes_offlo v0 v1 v2 C S R hg hm hd _ rfl hn h1 w hN hC hS hR
          · by_cases h2 : 7 < R.op
            · exact signModes_offhi v0 v1 v2 C S R hg hm hd _ rfl hn (by omega) h2 w hN hC hS hR
            · exact signModes_off v0 v1 v2 C S R hg hm hd _ rfl hn (by omega) (by omega) (modes_off C S R hn ⟨by omega, by omega⟩) w hN hC hS hR
end Go.Proofs.YtdajadfgiifioaaDoor

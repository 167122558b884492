/- The law LayoutGrows. -/
import Derived.Test.YtpeajlponlmceaaRLay4
import Derived.Test.YtpeajlponlmceaaRgA
import Derived.Test.YtpeajlponlmceaaCfgW
import Derived.WalkLawsBesides
import Derived.Deep.DeepCutAuto
namespace Go.Proofs.Ytpeajlponlmceaa
open Go.RowKit
set_option linter.unusedSimpArgs false
set_option linter.unusedVariables false

theorem take_flat (l : List (Int × Int)) (n : Nat) : (l.flatMap spanC).take (n * 2) = (l.take n).flatMap spanC := by
  induction l generalizing n with
  | nil => simp
  | cons x r ih =>
    cases n with
    | zero => simp
    | succ n =>
      rw [List.take_succ_cons, List.flatMap_cons, List.flatMap_cons, ← ih, show (n + 1) * 2 = n * 2 + 1 + 1 by omega]
      rfl
theorem plan_more {C : Cfg} {x : Chn} (h1 : accB C = true) (h2 : accB (withCh C (C.chans ++ [x])) = true) : planL (withCh C (C.chans ++ [x])) = planL C ++ [(planE C, sizedC x), (planE C + sizedC x, 1)] ∧ planE (withCh C (C.chans ++ [x])) = planE C + sizedC x + 1 := by
  have hs : sizesC (withCh C (C.chans ++ [x])) = sizesC C ++ [sizedC x, 1] := by
    show privL C ++ (C.chans ++ [x]).flatMap pairL = (privL C ++ C.chans.flatMap pairL) ++ [sizedC x, 1]
    rw [List.flatMap_append, ← List.append_assoc]; rfl
  constructor
  · rw [planL, if_pos h2, hs, spansF_app, planL, if_pos h1, planE, if_pos h1]
    simp [spansF]
  · rw [planE, if_pos h2, hs, List.sum_append, planE, if_pos h1]
    simp; omega

set_option maxRecDepth 100000 in
set_option maxHeartbeats 8000000 in
theorem layoutGrows_great (cv : Value) (C : Cfg) (x : Chn) (hxo : x.ok) (hg : C.great = true) (w : World) (h : CfgAt w cv C) : Calls Try.prog 9 #[cv, .agg #[.int .i64 x.kind, .int .i64 x.frm, .int .i64 x.to, .int .i64 x.words, .int .i64 x.depth, .int .i64 x.period, .int .u32 x.boot]] w fun e w' => e = .returned (.bool true) ∧ Below w.heap.size w w' := by
  have HC := Kp.mk h
  obtain ⟨ho, pa, pc, ca, cc, a0, c0, a1, c1, rfl, bp, bc, b0, b1, hp, hc, hw0, hw1⟩ := h
  clear ho hp hc hw0 hw1
  go_enter Try.func9, Try.ntmps9
  have HB0 : Kp (Below w.heap.size w w) := ⟨Below.refl _ _⟩
  go_wp2_with fail
  refine (wakes8_any _).mono ?_
  rintro e w1 ⟨rfl, hb⟩
  have q1 : Kp (w1.heap[w.heap.size]? = some (.cells #[.slice pa C.parts.length pc, .slice ca C.chans.length cc, .int .i64 C.l0, .slice a0 C.w0.length c0, .int .i64 C.l1, .slice a1 C.w1.length c1] 29 (0, 0))) := ⟨blk_below (blk_al (blk_new _ _) _) hb⟩
  have x1 : Kp (w1.heap[w.heap.size + 1]? = some (.cells #[.int .i64 x.kind, .int .i64 x.frm, .int .i64 x.to, .int .i64 x.words, .int .i64 x.depth, .int .i64 x.period, .int .u32 x.boot] 40 (0, 0))) := ⟨blk_below (blk_at (w := (w.alloc (.cells #[.slice pa C.parts.length pc, .slice ca C.chans.length cc, .int .i64 C.l0, .slice a0 C.w0.length c0, .int .i64 C.l1, .slice a1 C.w1.length c1] 29))) (by simp) _) hb⟩
  have HB1 : Kp (Below w.heap.size w w1) := ⟨below_call (below_al (below_al HB0.out _) _) hb⟩
  clear HB0 hb
  have qc0 : w1.cell? ⟨w.heap.size, 0, none⟩ = some (.slice pa C.parts.length pc) := (cell_blk q1.out 0).trans rfl
  have qc1 : w1.cell? ⟨w.heap.size, 1, none⟩ = some (.slice ca C.chans.length cc) := (cell_blk q1.out 1).trans rfl
  have qc2 : w1.cell? ⟨w.heap.size, 2, none⟩ = some (.int .i64 C.l0) := (cell_blk q1.out 2).trans rfl
  have qc3 : w1.cell? ⟨w.heap.size, 3, none⟩ = some (.slice a0 C.w0.length c0) := (cell_blk q1.out 3).trans rfl
  have qc4 : w1.cell? ⟨w.heap.size, 4, none⟩ = some (.int .i64 C.l1) := (cell_blk q1.out 4).trans rfl
  have qc5 : w1.cell? ⟨w.heap.size, 5, none⟩ = some (.slice a1 C.w1.length c1) := (cell_blk q1.out 5).trans rfl
  have ql := blk_lt q1.out
  have xc0 : w1.cell? ⟨w.heap.size + 1, 0, none⟩ = some (.int .i64 x.kind) := (cell_blk x1.out 0).trans rfl
  have xc1 : w1.cell? ⟨w.heap.size + 1, 1, none⟩ = some (.int .i64 x.frm) := (cell_blk x1.out 1).trans rfl
  have xc2 : w1.cell? ⟨w.heap.size + 1, 2, none⟩ = some (.int .i64 x.to) := (cell_blk x1.out 2).trans rfl
  have xc3 : w1.cell? ⟨w.heap.size + 1, 3, none⟩ = some (.int .i64 x.words) := (cell_blk x1.out 3).trans rfl
  have xc4 : w1.cell? ⟨w.heap.size + 1, 4, none⟩ = some (.int .i64 x.depth) := (cell_blk x1.out 4).trans rfl
  have xc5 : w1.cell? ⟨w.heap.size + 1, 5, none⟩ = some (.int .i64 x.period) := (cell_blk x1.out 5).trans rfl
  have xc6 : w1.cell? ⟨w.heap.size + 1, 6, none⟩ = some (.int .u32 x.boot) := (cell_blk x1.out 6).trans rfl
  have xl := blk_lt x1.out
  go_wp2_with fail
  refine (great_any _ C _ (HC.out.below HB1.out)).mono ?_
  rw [hg]
  rintro e w2 ⟨rfl, hb⟩
  have q2 : Kp (w2.heap[w.heap.size]? = some (.cells #[.slice pa C.parts.length pc, .slice ca C.chans.length cc, .int .i64 C.l0, .slice a0 C.w0.length c0, .int .i64 C.l1, .slice a1 C.w1.length c1] 29 (0, 0))) := ⟨blk_below q1.out hb⟩
  have x2 : Kp (w2.heap[w.heap.size + 1]? = some (.cells #[.int .i64 x.kind, .int .i64 x.frm, .int .i64 x.to, .int .i64 x.words, .int .i64 x.depth, .int .i64 x.period, .int .u32 x.boot] 40 (0, 0))) := ⟨blk_below x1.out hb⟩
  have HB2 : Kp (Below w.heap.size w w2) := ⟨below_call HB1.out hb⟩
  clear qc0 qc1 qc2 qc3 qc4 qc5 ql xc0 xc1 xc2 xc3 xc4 xc5 xc6 xl q1 x1 HB1 hb
  have qc0 : w2.cell? ⟨w.heap.size, 0, none⟩ = some (.slice pa C.parts.length pc) := (cell_blk q2.out 0).trans rfl
  have qc1 : w2.cell? ⟨w.heap.size, 1, none⟩ = some (.slice ca C.chans.length cc) := (cell_blk q2.out 1).trans rfl
  have qc2 : w2.cell? ⟨w.heap.size, 2, none⟩ = some (.int .i64 C.l0) := (cell_blk q2.out 2).trans rfl
  have qc3 : w2.cell? ⟨w.heap.size, 3, none⟩ = some (.slice a0 C.w0.length c0) := (cell_blk q2.out 3).trans rfl
  have qc4 : w2.cell? ⟨w.heap.size, 4, none⟩ = some (.int .i64 C.l1) := (cell_blk q2.out 4).trans rfl
  have qc5 : w2.cell? ⟨w.heap.size, 5, none⟩ = some (.slice a1 C.w1.length c1) := (cell_blk q2.out 5).trans rfl
  have ql := blk_lt q2.out
  have xc0 : w2.cell? ⟨w.heap.size + 1, 0, none⟩ = some (.int .i64 x.kind) := (cell_blk x2.out 0).trans rfl
  have xc1 : w2.cell? ⟨w.heap.size + 1, 1, none⟩ = some (.int .i64 x.frm) := (cell_blk x2.out 1).trans rfl
  have xc2 : w2.cell? ⟨w.heap.size + 1, 2, none⟩ = some (.int .i64 x.to) := (cell_blk x2.out 2).trans rfl
  have xc3 : w2.cell? ⟨w.heap.size + 1, 3, none⟩ = some (.int .i64 x.words) := (cell_blk x2.out 3).trans rfl
  have xc4 : w2.cell? ⟨w.heap.size + 1, 4, none⟩ = some (.int .i64 x.depth) := (cell_blk x2.out 4).trans rfl
  have xc5 : w2.cell? ⟨w.heap.size + 1, 5, none⟩ = some (.int .i64 x.period) := (cell_blk x2.out 5).trans rfl
  have xc6 : w2.cell? ⟨w.heap.size + 1, 6, none⟩ = some (.int .u32 x.boot) := (cell_blk x2.out 6).trans rfl
  have xl := blk_lt x2.out
  go_wp2
  go_ret
  exact ⟨rfl, HB2.out⟩

set_option maxRecDepth 100000 in
set_option maxHeartbeats 8000000 in
theorem layoutGrows_no (cv : Value) (C : Cfg) (x : Chn) (hxo : x.ok) (hg : C.great = false) (hno : accB C = false) (w : World) (h : CfgAt w cv C) : Calls Try.prog 9 #[cv, .agg #[.int .i64 x.kind, .int .i64 x.frm, .int .i64 x.to, .int .i64 x.words, .int .i64 x.depth, .int .i64 x.period, .int .u32 x.boot]] w fun e w' => e = .returned (.bool true) ∧ Below w.heap.size w w' := by
  have HC := Kp.mk h
  have hsm := small_of_great hg
  have hsc := small_chans hg
  have HXO := Kp.mk hxo
  have hsmD : (withCh C (C.chans ++ [x])).small := ⟨hsm.1, by show (C.chans ++ [x]).length ≤ 200; rw [List.length_append, List.length_singleton]; omega, hsm.2.2⟩
  obtain ⟨i0, hi, hz0, hz1, hz2⟩ := info_parts Try.infoChan
  obtain ⟨ho, pa, pc, ca, cc, a0, c0, a1, c1, rfl, bp, bc, b0, b1, hp, hc, hw0, hw1⟩ := h
  have HCH := Kp.mk hc
  clear ho hp hc hw0 hw1
  go_enter Try.func9, Try.ntmps9
  have HB0 : Kp (Below w.heap.size w w) := ⟨Below.refl _ _⟩
  go_wp2_with fail
  refine (wakes8_any _).mono ?_
  rintro e w1 ⟨rfl, hb⟩
  have q1 : Kp (w1.heap[w.heap.size]? = some (.cells #[.slice pa C.parts.length pc, .slice ca C.chans.length cc, .int .i64 C.l0, .slice a0 C.w0.length c0, .int .i64 C.l1, .slice a1 C.w1.length c1] 29 (0, 0))) := ⟨blk_below (blk_al (blk_new _ _) _) hb⟩
  have x1 : Kp (w1.heap[w.heap.size + 1]? = some (.cells #[.int .i64 x.kind, .int .i64 x.frm, .int .i64 x.to, .int .i64 x.words, .int .i64 x.depth, .int .i64 x.period, .int .u32 x.boot] 40 (0, 0))) := ⟨blk_below (blk_at (w := (w.alloc (.cells #[.slice pa C.parts.length pc, .slice ca C.chans.length cc, .int .i64 C.l0, .slice a0 C.w0.length c0, .int .i64 C.l1, .slice a1 C.w1.length c1] 29))) (by simp) _) hb⟩
  have HB1 : Kp (Below w.heap.size w w1) := ⟨below_call (below_al (below_al HB0.out _) _) hb⟩
  clear HB0 hb
  have qc0 : w1.cell? ⟨w.heap.size, 0, none⟩ = some (.slice pa C.parts.length pc) := (cell_blk q1.out 0).trans rfl
  have qc1 : w1.cell? ⟨w.heap.size, 1, none⟩ = some (.slice ca C.chans.length cc) := (cell_blk q1.out 1).trans rfl
  have qc2 : w1.cell? ⟨w.heap.size, 2, none⟩ = some (.int .i64 C.l0) := (cell_blk q1.out 2).trans rfl
  have qc3 : w1.cell? ⟨w.heap.size, 3, none⟩ = some (.slice a0 C.w0.length c0) := (cell_blk q1.out 3).trans rfl
  have qc4 : w1.cell? ⟨w.heap.size, 4, none⟩ = some (.int .i64 C.l1) := (cell_blk q1.out 4).trans rfl
  have qc5 : w1.cell? ⟨w.heap.size, 5, none⟩ = some (.slice a1 C.w1.length c1) := (cell_blk q1.out 5).trans rfl
  have ql := blk_lt q1.out
  have xc0 : w1.cell? ⟨w.heap.size + 1, 0, none⟩ = some (.int .i64 x.kind) := (cell_blk x1.out 0).trans rfl
  have xc1 : w1.cell? ⟨w.heap.size + 1, 1, none⟩ = some (.int .i64 x.frm) := (cell_blk x1.out 1).trans rfl
  have xc2 : w1.cell? ⟨w.heap.size + 1, 2, none⟩ = some (.int .i64 x.to) := (cell_blk x1.out 2).trans rfl
  have xc3 : w1.cell? ⟨w.heap.size + 1, 3, none⟩ = some (.int .i64 x.words) := (cell_blk x1.out 3).trans rfl
  have xc4 : w1.cell? ⟨w.heap.size + 1, 4, none⟩ = some (.int .i64 x.depth) := (cell_blk x1.out 4).trans rfl
  have xc5 : w1.cell? ⟨w.heap.size + 1, 5, none⟩ = some (.int .i64 x.period) := (cell_blk x1.out 5).trans rfl
  have xc6 : w1.cell? ⟨w.heap.size + 1, 6, none⟩ = some (.int .u32 x.boot) := (cell_blk x1.out 6).trans rfl
  have xl := blk_lt x1.out
  go_wp2_with fail
  refine (great_any _ C _ (HC.out.below HB1.out)).mono ?_
  rw [hg]
  rintro e w2 ⟨rfl, hb⟩
  have q2 : Kp (w2.heap[w.heap.size]? = some (.cells #[.slice pa C.parts.length pc, .slice ca C.chans.length cc, .int .i64 C.l0, .slice a0 C.w0.length c0, .int .i64 C.l1, .slice a1 C.w1.length c1] 29 (0, 0))) := ⟨blk_below q1.out hb⟩
  have x2 : Kp (w2.heap[w.heap.size + 1]? = some (.cells #[.int .i64 x.kind, .int .i64 x.frm, .int .i64 x.to, .int .i64 x.words, .int .i64 x.depth, .int .i64 x.period, .int .u32 x.boot] 40 (0, 0))) := ⟨blk_below x1.out hb⟩
  have HB2 : Kp (Below w.heap.size w w2) := ⟨below_call HB1.out hb⟩
  clear qc0 qc1 qc2 qc3 qc4 qc5 ql xc0 xc1 xc2 xc3 xc4 xc5 xc6 xl q1 x1 HB1 hb
  have qc0 : w2.cell? ⟨w.heap.size, 0, none⟩ = some (.slice pa C.parts.length pc) := (cell_blk q2.out 0).trans rfl
  have qc1 : w2.cell? ⟨w.heap.size, 1, none⟩ = some (.slice ca C.chans.length cc) := (cell_blk q2.out 1).trans rfl
  have qc2 : w2.cell? ⟨w.heap.size, 2, none⟩ = some (.int .i64 C.l0) := (cell_blk q2.out 2).trans rfl
  have qc3 : w2.cell? ⟨w.heap.size, 3, none⟩ = some (.slice a0 C.w0.length c0) := (cell_blk q2.out 3).trans rfl
  have qc4 : w2.cell? ⟨w.heap.size, 4, none⟩ = some (.int .i64 C.l1) := (cell_blk q2.out 4).trans rfl
  have qc5 : w2.cell? ⟨w.heap.size, 5, none⟩ = some (.slice a1 C.w1.length c1) := (cell_blk q2.out 5).trans rfl
  have ql := blk_lt q2.out
  have xc0 : w2.cell? ⟨w.heap.size + 1, 0, none⟩ = some (.int .i64 x.kind) := (cell_blk x2.out 0).trans rfl
  have xc1 : w2.cell? ⟨w.heap.size + 1, 1, none⟩ = some (.int .i64 x.frm) := (cell_blk x2.out 1).trans rfl
  have xc2 : w2.cell? ⟨w.heap.size + 1, 2, none⟩ = some (.int .i64 x.to) := (cell_blk x2.out 2).trans rfl
  have xc3 : w2.cell? ⟨w.heap.size + 1, 3, none⟩ = some (.int .i64 x.words) := (cell_blk x2.out 3).trans rfl
  have xc4 : w2.cell? ⟨w.heap.size + 1, 4, none⟩ = some (.int .i64 x.depth) := (cell_blk x2.out 4).trans rfl
  have xc5 : w2.cell? ⟨w.heap.size + 1, 5, none⟩ = some (.int .i64 x.period) := (cell_blk x2.out 5).trans rfl
  have xc6 : w2.cell? ⟨w.heap.size + 1, 6, none⟩ = some (.int .u32 x.boot) := (cell_blk x2.out 6).trans rfl
  have xl := blk_lt x2.out
  go_upto_region 6 with fail
  obtain ⟨bd, hbd⟩ : ∃ bd, w2.heap.size = bd := ⟨_, rfl⟩
  have HBD := Kp.mk hbd
  have hbd1 : w.heap.size < bd := by omega
  have hbd2 : w.heap.size + 1 < bd := by omega
  have hnb1 : w.heap.size ≠ bd := by omega
  have hnb2 : w.heap.size + 1 ≠ bd := by omega
  have HB9 : Kp (Below w.heap.size w (w2.alloc (.cells #[.slice pa C.parts.length pc, .slice ca C.chans.length cc, .int .i64 C.l0, .slice a0 C.w0.length c0, .int .i64 C.l1, .slice a1 C.w1.length c1] 29))) := ⟨below_al HB2.out _⟩
  have HK9 : Kp ((w2.alloc (.cells #[.slice pa C.parts.length pc, .slice ca C.chans.length cc, .int .i64 C.l0, .slice a0 C.w0.length c0, .int .i64 C.l1, .slice a1 C.w1.length c1] 29)).heap[w.heap.size]? = some (.cells #[.slice pa C.parts.length pc, .slice ca C.chans.length cc, .int .i64 C.l0, .slice a0 C.w0.length c0, .int .i64 C.l1, .slice a1 C.w1.length c1] 29 (0, 0))) := ⟨blk_al q2.out _⟩
  have HX9 : Kp ((w2.alloc (.cells #[.slice pa C.parts.length pc, .slice ca C.chans.length cc, .int .i64 C.l0, .slice a0 C.w0.length c0, .int .i64 C.l1, .slice a1 C.w1.length c1] 29)).heap[w.heap.size + 1]? = some (.cells #[.int .i64 x.kind, .int .i64 x.frm, .int .i64 x.to, .int .i64 x.words, .int .i64 x.depth, .int .i64 x.period, .int .u32 x.boot] 40 (0, 0))) := ⟨blk_al x2.out _⟩
  have HD9 : Kp ((w2.alloc (.cells #[.slice pa C.parts.length pc, .slice ca C.chans.length cc, .int .i64 C.l0, .slice a0 C.w0.length c0, .int .i64 C.l1, .slice a1 C.w1.length c1] 29)).heap[bd]? = some (.cells #[.slice pa C.parts.length pc, .slice ca C.chans.length cc, .int .i64 C.l0, .slice a0 C.w0.length c0, .int .i64 C.l1, .slice a1 C.w1.length c1] 29 (0, 0))) := ⟨blk_at hbd _⟩
  have hz9 : bd < (w2.alloc (.cells #[.slice pa C.parts.length pc, .slice ca C.chans.length cc, .int .i64 C.l0, .slice a0 C.w0.length c0, .int .i64 C.l1, .slice a1 C.w1.length c1] 29)).heap.size := blk_lt HD9.out
  clear qc0 qc1 qc2 qc3 qc4 qc5 ql xc0 xc1 xc2 xc3 xc4 xc5 xc6 xl HB2 q2 x2
  rw [hbd]
  clear hbd
  generalize (w2.alloc (.cells #[.slice pa C.parts.length pc, .slice ca C.chans.length cc, .int .i64 C.l0, .slice a0 C.w0.length c0, .int .i64 C.l1, .slice a1 C.w1.length c1] 29)) = wd at HB9 HK9 HX9 HD9 hz9 ⊢
  have q0 : wd.cell? ⟨w.heap.size, 0, none⟩ = some (.slice pa C.parts.length pc) := (cell_blk HK9.out 0).trans rfl
  have q1 : wd.cell? ⟨w.heap.size, 1, none⟩ = some (.slice ca C.chans.length cc) := (cell_blk HK9.out 1).trans rfl
  have lq : w.heap.size < wd.heap.size := by omega
  have lx : w.heap.size + 1 < wd.heap.size := by omega
  have x0 : wd.cell? ⟨w.heap.size + 1, 0, none⟩ = some (.int .i64 x.kind) := (cell_blk HX9.out 0).trans rfl
  have x1 : wd.cell? ⟨w.heap.size + 1, 1, none⟩ = some (.int .i64 x.frm) := (cell_blk HX9.out 1).trans rfl
  have x2 : wd.cell? ⟨w.heap.size + 1, 2, none⟩ = some (.int .i64 x.to) := (cell_blk HX9.out 2).trans rfl
  have x3 : wd.cell? ⟨w.heap.size + 1, 3, none⟩ = some (.int .i64 x.words) := (cell_blk HX9.out 3).trans rfl
  have x4 : wd.cell? ⟨w.heap.size + 1, 4, none⟩ = some (.int .i64 x.depth) := (cell_blk HX9.out 4).trans rfl
  have x5 : wd.cell? ⟨w.heap.size + 1, 5, none⟩ = some (.int .i64 x.period) := (cell_blk HX9.out 5).trans rfl
  have x6 : wd.cell? ⟨w.heap.size + 1, 6, none⟩ = some (.int .u32 x.boot) := (cell_blk HX9.out 6).trans rfl
  go_cut [] (fun wx => ∃ (va : Option Addr) (vc : Nat), Kp (Below w.heap.size w wx) ∧ Kp (wx.heap[w.heap.size]? = some (.cells #[.slice pa C.parts.length pc, .slice ca C.chans.length cc, .int .i64 C.l0, .slice a0 C.w0.length c0, .int .i64 C.l1, .slice a1 C.w1.length c1] 29 (0, 0))) ∧ Kp (wx.heap[bd]? = some (.cells #[.slice pa C.parts.length pc, .slice va (C.chans.length + 1) vc, .int .i64 C.l0, .slice a0 C.w0.length c0, .int .i64 C.l1, .slice a1 C.w1.length c1] 29 (0, 0))) ∧ Kp (CfgAt wx (.agg #[.slice pa C.parts.length pc, .slice va (C.chans.length + 1) vc, .int .i64 C.l0, .slice a0 C.w0.length c0, .int .i64 C.l1, .slice a1 C.w1.length c1]) (withCh C (C.chans ++ [x]))))
  case first =>
    refine held_start_gen (S := (fun w' : World => ButB (wd.heap.size) [bd] wd w' ∧ ∀ bb o, bb < wd.heap.size → bb ≠ bd → w'.cell? ⟨bb, o, none⟩ = wd.cell? ⟨bb, o, none⟩)) (by kernel_rfl) (fun wz : World => Kp (Below w.heap.size w wz) ∧ Kp (wz.heap[w.heap.size]? = some (.cells #[.slice pa C.parts.length pc, .slice ca C.chans.length cc, .int .i64 C.l0, .slice a0 C.w0.length c0, .int .i64 C.l1, .slice a1 C.w1.length c1] 29 (0, 0))) ∧ Kp (wz.heap[bd]? = some (.cells #[.slice pa C.parts.length pc, .slice ca C.chans.length cc, .int .i64 C.l0, .slice a0 C.w0.length c0, .int .i64 C.l1, .slice a1 C.w1.length c1] 29 (0, 0))) ∧ wd.heap.size ≤ wz.heap.size) ⟨⟨below_dr HB9.out⟩, ⟨blk_dr HK9.out⟩, ⟨blk_dr HD9.out⟩, Nat.le_refl _⟩ (sx_of1 (ButB.dr (ButB.refl _ (by omega)))) (fun wd0 hRn hHeld => ?_)
    clear HB9 HK9 HD9
    obtain ⟨HB9, HK9, HD9, hsz⟩ := hRn
    refine wpAnyH_take (i := 1) (oi := ⟨_, _, _, _, _, _⟩) (v := ?_) rfl (by kernel_rfl) (by kernel_rfl) (by kernel_rfl) (fun _ _ _ h => h) (Or.inl ⟨by rfl, ?_⟩) (by assumption) ?_
    rotate_left 1
    · (intro w hSw; go_simp; try with_reducible rfl)
    try simp only [Act.put, List.setIfInBounds_toArray, List.set_cons_zero, List.set_cons_succ]
    refine wpAnyH_take (i := 2) (oi := ⟨_, _, _, _, _, _⟩) (v := ?_) rfl (by kernel_rfl) (by kernel_rfl) (by kernel_rfl) (fun _ _ _ h => h) (Or.inl ⟨by rfl, ?_⟩) (by assumption) ?_
    rotate_left 1
    · (intro w hSw; go_simp; try with_reducible rfl)
    try simp only [Act.put, List.setIfInBounds_toArray, List.set_cons_zero, List.set_cons_succ]
    refine wpAnyH_take (i := 4) (oi := ⟨_, _, _, _, _, _⟩) (v := ?_) rfl (by kernel_rfl) (by kernel_rfl) (by kernel_rfl) (fun _ _ _ h => h) (Or.inl ⟨by rfl, ?_⟩) (by assumption) ?_
    rotate_left 1
    · (intro w hSw; go_simp; try with_reducible rfl)
    try simp only [Act.put, List.setIfInBounds_toArray, List.set_cons_zero, List.set_cons_succ]
    refine wpAnyH_ready (rs := [0, 5]) (by kernel_rfl) (by simp) ?_
    refine (AllReadyH.cons (o := ⟨_, _, _, _, _, _⟩) rfl (fun K hK => ?_) (AllReadyH.cons (o := ⟨_, _, _, _, _, _⟩) rfl (fun K hK => ?_) AllReadyH.nil))
    · have gr := (And.left hHeld).size
      go_simp
      try go_wp2_with fail
      refine out_gen hK _ _ (fun wz : World => Kp (Below w.heap.size w wz) ∧ Kp (wz.heap[w.heap.size]? = some (.cells #[.slice pa C.parts.length pc, .slice ca C.chans.length cc, .int .i64 C.l0, .slice a0 C.w0.length c0, .int .i64 C.l1, .slice a1 C.w1.length c1] 29 (0, 0))) ∧ Kp (wz.heap[bd]? = some (.cells #[.slice pa C.parts.length pc, .slice ca C.chans.length cc, .int .i64 C.l0, .slice a0 C.w0.length c0, .int .i64 C.l1, .slice a1 C.w1.length c1] 29 (0, 0))) ∧ Kp (wz.ownsRow (wd0.heap.size) 40 7 (.slice (some ⟨wd0.heap.size, 0, none⟩) 0 0) (0) ([])) ∧ wd0.heap.size < wz.heap.size) ⟨⟨below_al HB9.out _⟩, ⟨blk_al HK9.out _⟩, ⟨blk_al HD9.out _⟩, ⟨own_new0 wd0 _ _⟩, (by simp)⟩ (sx_of1 (ButB.al (And.left hHeld) _)) (fun wd1 hRn hHn => ?_)
      clear hK K hHeld HB9 HK9 HD9
      obtain ⟨HB9, HK9, HD9, HO, hsz1⟩ := hRn
      have hHeld := hHn
      clear hHn
      try simp only [Act.put, List.setIfInBounds_toArray, List.set_cons_zero, List.set_cons_succ]
      refine wpAnyH_ready (rs := [3, 5]) (by kernel_rfl) (by simp) ?_
      refine (AllReadyH.cons (o := ⟨_, _, _, _, _, _⟩) rfl (fun K hK => ?_) (AllReadyH.cons (o := ⟨_, _, _, _, _, _⟩) rfl (fun K hK => ?_) AllReadyH.nil))
      · have hws := (And.left hHeld).size
        refine step_append_row _ (by rfl) _ _ 23 (by rfl) (wd0.heap.size) 40 i0 (.agg #[.int .i64 0, .int .i64 0, .int .i64 0, .int .i64 0, .int .i64 0, .int .i64 0, .int .u32 0]) 7 56 Try.underlying23 hi hz0 hz1 hz2 (by rfl) (by decide) _ _ _ (by rfl) HO.out _ C.chans.length _ (C.chans.flatMap chanC) (by rfl) (HCH.out.below HB9.out) (chans_one _) (by unfold maxLen; omega) (by omega) (by have := hws; omega) ?_
        intro v1 w9 hown hgrow
        refine out_gen hK _ _ (fun wz : World => Kp (Below w.heap.size w wz) ∧ Kp (wz.heap[w.heap.size]? = some (.cells #[.slice pa C.parts.length pc, .slice ca C.chans.length cc, .int .i64 C.l0, .slice a0 C.w0.length c0, .int .i64 C.l1, .slice a1 C.w1.length c1] 29 (0, 0))) ∧ Kp (wz.heap[bd]? = some (.cells #[.slice pa C.parts.length pc, .slice ca C.chans.length cc, .int .i64 C.l0, .slice a0 C.w0.length c0, .int .i64 C.l1, .slice a1 C.w1.length c1] 29 (0, 0))) ∧ Kp (wz.ownsRow (wd0.heap.size) 40 7 (v1) (C.chans.length) (C.chans.flatMap chanC)) ∧ wd1.heap.size ≤ wz.heap.size) ⟨⟨below_own2 HB9.out (by have := HB9.out.size; omega) (by omega) HO.out hgrow⟩, ⟨blk_grownR HK9.out HO.out hgrow (by first | (intro hq; have := (HO.out.lt _ hq).1; omega) | (intro hq; simp [Value.ownBlock] at hq; omega))⟩, ⟨blk_grownR HD9.out HO.out hgrow (by first | (intro hq; have := (HO.out.lt _ hq).1; omega) | (intro hq; simp [Value.ownBlock] at hq; omega))⟩, ⟨by have h := hown; simp only [Nat.zero_add, List.nil_append] at h; exact h⟩, hgrow.size⟩ (sx_of1 (ButB.grown (And.left hHeld) HO.out hgrow (by omega))) (fun wd2 hRn hHn => ?_)
        clear hK K hHeld HB9 HK9 HD9 HO hown hgrow hws
        obtain ⟨HB9, HK9, HD9, HO, hsz2⟩ := hRn
        have hHeld := hHn
        clear hHn
        try simp only [Act.put, List.setIfInBounds_toArray, List.set_cons_zero, List.set_cons_succ]
        refine wpAnyH_ready (rs := [5]) (by kernel_rfl) (by simp) ?_
        refine (AllReadyH.cons (o := ⟨_, _, _, _, _, _⟩) rfl (fun K hK => ?_) AllReadyH.nil)
        have ge_HE : wd.heap.size ≤ wd2.heap.size := (And.left hHeld).size
        go_simp
        try go_wp2_with fail
        refine out_gen hK _ _ (fun wz : World => Kp (Below w.heap.size w wz) ∧ Kp (wz.heap[w.heap.size]? = some (.cells #[.slice pa C.parts.length pc, .slice ca C.chans.length cc, .int .i64 C.l0, .slice a0 C.w0.length c0, .int .i64 C.l1, .slice a1 C.w1.length c1] 29 (0, 0))) ∧ Kp (wz.heap[bd]? = some (.cells #[.slice pa C.parts.length pc, .slice ca C.chans.length cc, .int .i64 C.l0, .slice a0 C.w0.length c0, .int .i64 C.l1, .slice a1 C.w1.length c1] 29 (0, 0))) ∧ Kp (wz.ownsRow (wd0.heap.size) 40 7 (v1) (C.chans.length) (C.chans.flatMap chanC)) ∧ Kp (wz.heap[wd2.heap.size]? = some (.cells #[.int .i64 x.kind, .int .i64 x.frm, .int .i64 x.to, .int .i64 x.words, .int .i64 x.depth, .int .i64 x.period, .int .u32 x.boot] 40 (0, 0))) ∧ wd2.heap.size < wz.heap.size) ⟨⟨below_al HB9.out _⟩, ⟨blk_al HK9.out _⟩, ⟨blk_al HD9.out _⟩, ⟨HO.out.alloc _⟩, ⟨blk_new wd2 _⟩, (by simp)⟩ (sx_of1 (ButB.al (And.left hHeld) _)) (fun wd3 hRn hHn => ?_)
        clear hK K hHeld HB9 HK9 HD9 HO
        obtain ⟨HB9, HK9, HD9, HO, HE, hsz3⟩ := hRn
        have hHeld := hHn
        clear hHn
        try simp only [Act.put, List.setIfInBounds_toArray, List.set_cons_zero, List.set_cons_succ]
        have lt_HE := blk_lt HE.out
        refine wpAnyH_ready (rs := [6]) (by kernel_rfl) (by simp) ?_
        refine (AllReadyH.cons (o := ⟨_, _, _, _, _, _⟩) rfl (fun K hK => ?_) AllReadyH.nil)
        have hws := (And.left hHeld).size
        refine step_append_lies _ (by rfl) _ _ 23 (by rfl) (wd0.heap.size) 40 i0 (.agg #[.int .i64 0, .int .i64 0, .int .i64 0, .int .i64 0, .int .i64 0, .int .i64 0, .int .u32 0]) 7 56 Try.underlying23 hi hz0 hz1 hz2 (by rfl) (by decide) _ _ _ (by rfl) HO.out _ 1 _ (chanC x) (by rfl) rfl (World.news_of_block HE.out) (chan_one _) (by omega) (by unfold maxLen; omega) (by omega) (by have := hws; omega) _ rfl ?_
        intro g2 k2 w9 hown hgrow hat hlt
        refine out_gen hK _ _ (fun wz : World => Kp (Below w.heap.size w wz) ∧ Kp (wz.heap[w.heap.size]? = some (.cells #[.slice pa C.parts.length pc, .slice ca C.chans.length cc, .int .i64 C.l0, .slice a0 C.w0.length c0, .int .i64 C.l1, .slice a1 C.w1.length c1] 29 (0, 0))) ∧ Kp (wz.heap[bd]? = some (.cells #[.slice pa C.parts.length pc, .slice ca C.chans.length cc, .int .i64 C.l0, .slice a0 C.w0.length c0, .int .i64 C.l1, .slice a1 C.w1.length c1] 29 (0, 0))) ∧ Kp (wz.ownsRow (wd0.heap.size) 40 7 (.slice (some ⟨g2, 0, none⟩) (C.chans.length + 1) k2) (C.chans.length + 1) (C.chans.flatMap chanC ++ (chanC x))) ∧ wd3.heap.size ≤ wz.heap.size) ⟨⟨below_own2 HB9.out (by have := HB9.out.size; omega) (by omega) HO.out hgrow⟩, ⟨blk_grownR HK9.out HO.out hgrow (by first | (intro hq; have := (HO.out.lt _ hq).1; omega) | (intro hq; simp [Value.ownBlock] at hq; omega))⟩, ⟨blk_grownR HD9.out HO.out hgrow (by first | (intro hq; have := (HO.out.lt _ hq).1; omega) | (intro hq; simp [Value.ownBlock] at hq; omega))⟩, ⟨hown⟩, hgrow.size⟩ (sx_of1 (ButB.grown (And.left hHeld) HO.out hgrow (by omega))) (fun wd4 hRn hHn => ?_)
        clear hK K hHeld HB9 HK9 HD9 HO HE hown hgrow hat hlt hws
        obtain ⟨HB9, HK9, HD9, HO, hsz4⟩ := hRn
        have hHeld := hHn
        clear hHn
        try simp only [Act.put, List.setIfInBounds_toArray, List.set_cons_zero, List.set_cons_succ]
        try simp only [Nat.zero_add]
        refine wpAnyH_take (i := 7) (oi := ⟨_, _, _, _, _, _⟩) (v := ?_) rfl (by kernel_rfl) (by kernel_rfl) (by kernel_rfl) (fun _ _ _ h => h) (Or.inl ⟨by rfl, ?_⟩) (by assumption) ?_
        rotate_left 1
        · (intro w hSw; go_simp; try with_reducible rfl)
        try simp only [Act.put, List.setIfInBounds_toArray, List.set_cons_zero, List.set_cons_succ]
        refine wpAnyH_ready (rs := [8]) (by kernel_rfl) (by simp) ?_
        refine (AllReadyH.cons (o := ⟨_, _, _, _, _, _⟩) rfl (fun K hK => ?_) AllReadyH.nil)
        have sd : wd4.cell? ⟨bd, 1, none⟩ = some (.slice ca C.chans.length cc) := (cell_blk HD9.out 1).trans rfl
        have sf : wd4.frozen? ⟨bd, 1, none⟩ = false := frozen_blk HD9.out 1
        have sl := blk_lt HD9.out
        go_simp
        try go_wp2_with fail
        refine out_gen hK _ _ (fun wz : World => Kp (Below w.heap.size w wz) ∧ Kp (wz.heap[w.heap.size]? = some (.cells #[.slice pa C.parts.length pc, .slice ca C.chans.length cc, .int .i64 C.l0, .slice a0 C.w0.length c0, .int .i64 C.l1, .slice a1 C.w1.length c1] 29 (0, 0))) ∧ Kp (wz.heap[bd]? = some (.cells #[.slice pa C.parts.length pc, .slice (some ⟨g2, 0, none⟩) (C.chans.length + 1) k2, .int .i64 C.l0, .slice a0 C.w0.length c0, .int .i64 C.l1, .slice a1 C.w1.length c1] 29 (0, 0))) ∧ Kp (wz.ownsRow (wd0.heap.size) 40 7 (.slice (some ⟨g2, 0, none⟩) (C.chans.length + 1) k2) (C.chans.length + 1) (C.chans.flatMap chanC ++ (chanC x))) ∧ wd4.heap.size ≤ wz.heap.size) ⟨⟨HB9.out.setCell (p := ⟨bd, 1, none⟩) (by show w.heap.size ≤ bd; omega) _⟩, ⟨blk_set_ne (p := ⟨bd, 1, none⟩) HK9.out (by show w.heap.size ≠ bd; omega) _⟩, ⟨(blk_set HD9.out 1 _).trans rfl⟩, ⟨own_set_ne HO.out (p := ⟨bd, 1, none⟩) (by show bd < wd0.heap.size; omega) _⟩, (by simp [World.setCell])⟩ (sx_of1 (ButB.set (And.left hHeld) (p := ⟨bd, 1, none⟩) (by first | (left; simp; done) | (right; show wd.heap.size ≤ bd; omega)) _)) (fun wd5 hRn hHn => ?_)
        clear hK K hHeld HB9 HK9 HD9 HO sd sf sl
        obtain ⟨HB9, HK9, HD9, HO, hsz5⟩ := hRn
        have hHeld := hHn
        clear hHn
        try simp only [Act.put, List.setIfInBounds_toArray, List.set_cons_zero, List.set_cons_succ]
        refine wpAnyH_done (by kernel_rfl) ?_ _
        have hrow := RowAt.of_own HO.out
        have hlen := RowAt.lens hrow
        go_wp2_with fail
        go_meet
        exact ⟨some ⟨g2, 0, none⟩, k2, HB9, HK9, HD9, ⟨cfgAt_with (HC.out.below HB9.out) (C.chans ++ [x]) (fun y hy => by
          rcases List.mem_append.1 hy with hy | hy
          · exact HC.out.1.2.1 y hy
          · rw [List.mem_singleton.1 hy]; exact HXO.out) (by simp) hlen.1 hlen.2 (by rw [List.flatMap_append]; simp only [List.flatMap_cons, List.flatMap_nil, List.append_nil]; exact hrow)⟩⟩
      · have ge_HE : wd.heap.size ≤ wd1.heap.size := (And.left hHeld).size
        go_simp
        try go_wp2_with fail
        refine out_gen hK _ _ (fun wz : World => Kp (Below w.heap.size w wz) ∧ Kp (wz.heap[w.heap.size]? = some (.cells #[.slice pa C.parts.length pc, .slice ca C.chans.length cc, .int .i64 C.l0, .slice a0 C.w0.length c0, .int .i64 C.l1, .slice a1 C.w1.length c1] 29 (0, 0))) ∧ Kp (wz.heap[bd]? = some (.cells #[.slice pa C.parts.length pc, .slice ca C.chans.length cc, .int .i64 C.l0, .slice a0 C.w0.length c0, .int .i64 C.l1, .slice a1 C.w1.length c1] 29 (0, 0))) ∧ Kp (wz.ownsRow (wd0.heap.size) 40 7 (.slice (some ⟨wd0.heap.size, 0, none⟩) 0 0) (0) ([])) ∧ Kp (wz.heap[wd1.heap.size]? = some (.cells #[.int .i64 x.kind, .int .i64 x.frm, .int .i64 x.to, .int .i64 x.words, .int .i64 x.depth, .int .i64 x.period, .int .u32 x.boot] 40 (0, 0))) ∧ wd1.heap.size < wz.heap.size) ⟨⟨below_al HB9.out _⟩, ⟨blk_al HK9.out _⟩, ⟨blk_al HD9.out _⟩, ⟨HO.out.alloc _⟩, ⟨blk_new wd1 _⟩, (by simp)⟩ (sx_of1 (ButB.al (And.left hHeld) _)) (fun wd6 hRn hHn => ?_)
        clear hK K hHeld HB9 HK9 HD9 HO
        obtain ⟨HB9, HK9, HD9, HO, HE, hsz6⟩ := hRn
        have hHeld := hHn
        clear hHn
        try simp only [Act.put, List.setIfInBounds_toArray, List.set_cons_zero, List.set_cons_succ]
        have lt_HE := blk_lt HE.out
        refine wpAnyH_ready (rs := [3]) (by kernel_rfl) (by simp) ?_
        refine (AllReadyH.cons (o := ⟨_, _, _, _, _, _⟩) rfl (fun K hK => ?_) AllReadyH.nil)
        have hws := (And.left hHeld).size
        refine step_append_row _ (by rfl) _ _ 23 (by rfl) (wd0.heap.size) 40 i0 (.agg #[.int .i64 0, .int .i64 0, .int .i64 0, .int .i64 0, .int .i64 0, .int .i64 0, .int .u32 0]) 7 56 Try.underlying23 hi hz0 hz1 hz2 (by rfl) (by decide) _ _ _ (by rfl) HO.out _ C.chans.length _ (C.chans.flatMap chanC) (by rfl) (HCH.out.below HB9.out) (chans_one _) (by unfold maxLen; omega) (by omega) (by have := hws; omega) ?_
        intro v1 w9 hown hgrow
        refine out_gen hK _ _ (fun wz : World => Kp (Below w.heap.size w wz) ∧ Kp (wz.heap[w.heap.size]? = some (.cells #[.slice pa C.parts.length pc, .slice ca C.chans.length cc, .int .i64 C.l0, .slice a0 C.w0.length c0, .int .i64 C.l1, .slice a1 C.w1.length c1] 29 (0, 0))) ∧ Kp (wz.heap[bd]? = some (.cells #[.slice pa C.parts.length pc, .slice ca C.chans.length cc, .int .i64 C.l0, .slice a0 C.w0.length c0, .int .i64 C.l1, .slice a1 C.w1.length c1] 29 (0, 0))) ∧ Kp (wz.ownsRow (wd0.heap.size) 40 7 (v1) (C.chans.length) (C.chans.flatMap chanC)) ∧ Kp (wz.heap[wd1.heap.size]? = some (.cells #[.int .i64 x.kind, .int .i64 x.frm, .int .i64 x.to, .int .i64 x.words, .int .i64 x.depth, .int .i64 x.period, .int .u32 x.boot] 40 (0, 0))) ∧ wd6.heap.size ≤ wz.heap.size) ⟨⟨below_own2 HB9.out (by have := HB9.out.size; omega) (by omega) HO.out hgrow⟩, ⟨blk_grownR HK9.out HO.out hgrow (by first | (intro hq; have := (HO.out.lt _ hq).1; omega) | (intro hq; simp [Value.ownBlock] at hq; omega))⟩, ⟨blk_grownR HD9.out HO.out hgrow (by first | (intro hq; have := (HO.out.lt _ hq).1; omega) | (intro hq; simp [Value.ownBlock] at hq; omega))⟩, ⟨by have h := hown; simp only [Nat.zero_add, List.nil_append] at h; exact h⟩, ⟨blk_grownR HE.out HO.out hgrow (by first | (intro hq; have := (HO.out.lt _ hq).1; omega) | (intro hq; simp [Value.ownBlock] at hq; omega))⟩, hgrow.size⟩ (sx_of1 (ButB.grown (And.left hHeld) HO.out hgrow (by omega))) (fun wd7 hRn hHn => ?_)
        clear hK K hHeld HB9 HK9 HD9 HO HE hown hgrow hws
        obtain ⟨HB9, HK9, HD9, HO, HE, hsz7⟩ := hRn
        have hHeld := hHn
        clear hHn
        try simp only [Act.put, List.setIfInBounds_toArray, List.set_cons_zero, List.set_cons_succ]
        refine wpAnyH_ready (rs := [6]) (by kernel_rfl) (by simp) ?_
        refine (AllReadyH.cons (o := ⟨_, _, _, _, _, _⟩) rfl (fun K hK => ?_) AllReadyH.nil)
        have hws := (And.left hHeld).size
        refine step_append_lies _ (by rfl) _ _ 23 (by rfl) (wd0.heap.size) 40 i0 (.agg #[.int .i64 0, .int .i64 0, .int .i64 0, .int .i64 0, .int .i64 0, .int .i64 0, .int .u32 0]) 7 56 Try.underlying23 hi hz0 hz1 hz2 (by rfl) (by decide) _ _ _ (by rfl) HO.out _ 1 _ (chanC x) (by rfl) rfl (World.news_of_block HE.out) (chan_one _) (by omega) (by unfold maxLen; omega) (by omega) (by have := hws; omega) _ rfl ?_
        intro g2 k2 w9 hown hgrow hat hlt
        refine out_gen hK _ _ (fun wz : World => Kp (Below w.heap.size w wz) ∧ Kp (wz.heap[w.heap.size]? = some (.cells #[.slice pa C.parts.length pc, .slice ca C.chans.length cc, .int .i64 C.l0, .slice a0 C.w0.length c0, .int .i64 C.l1, .slice a1 C.w1.length c1] 29 (0, 0))) ∧ Kp (wz.heap[bd]? = some (.cells #[.slice pa C.parts.length pc, .slice ca C.chans.length cc, .int .i64 C.l0, .slice a0 C.w0.length c0, .int .i64 C.l1, .slice a1 C.w1.length c1] 29 (0, 0))) ∧ Kp (wz.ownsRow (wd0.heap.size) 40 7 (.slice (some ⟨g2, 0, none⟩) (C.chans.length + 1) k2) (C.chans.length + 1) (C.chans.flatMap chanC ++ (chanC x))) ∧ wd7.heap.size ≤ wz.heap.size) ⟨⟨below_own2 HB9.out (by have := HB9.out.size; omega) (by omega) HO.out hgrow⟩, ⟨blk_grownR HK9.out HO.out hgrow (by first | (intro hq; have := (HO.out.lt _ hq).1; omega) | (intro hq; simp [Value.ownBlock] at hq; omega))⟩, ⟨blk_grownR HD9.out HO.out hgrow (by first | (intro hq; have := (HO.out.lt _ hq).1; omega) | (intro hq; simp [Value.ownBlock] at hq; omega))⟩, ⟨hown⟩, hgrow.size⟩ (sx_of1 (ButB.grown (And.left hHeld) HO.out hgrow (by omega))) (fun wd8 hRn hHn => ?_)
        clear hK K hHeld HB9 HK9 HD9 HO HE hown hgrow hat hlt hws
        obtain ⟨HB9, HK9, HD9, HO, hsz8⟩ := hRn
        have hHeld := hHn
        clear hHn
        try simp only [Act.put, List.setIfInBounds_toArray, List.set_cons_zero, List.set_cons_succ]
        try simp only [Nat.zero_add]
        refine wpAnyH_take (i := 7) (oi := ⟨_, _, _, _, _, _⟩) (v := ?_) rfl (by kernel_rfl) (by kernel_rfl) (by kernel_rfl) (fun _ _ _ h => h) (Or.inl ⟨by rfl, ?_⟩) (by assumption) ?_
        rotate_left 1
        · (intro w hSw; go_simp; try with_reducible rfl)
        try simp only [Act.put, List.setIfInBounds_toArray, List.set_cons_zero, List.set_cons_succ]
        refine wpAnyH_ready (rs := [8]) (by kernel_rfl) (by simp) ?_
        refine (AllReadyH.cons (o := ⟨_, _, _, _, _, _⟩) rfl (fun K hK => ?_) AllReadyH.nil)
        have sd : wd8.cell? ⟨bd, 1, none⟩ = some (.slice ca C.chans.length cc) := (cell_blk HD9.out 1).trans rfl
        have sf : wd8.frozen? ⟨bd, 1, none⟩ = false := frozen_blk HD9.out 1
        have sl := blk_lt HD9.out
        go_simp
        try go_wp2_with fail
        refine out_gen hK _ _ (fun wz : World => Kp (Below w.heap.size w wz) ∧ Kp (wz.heap[w.heap.size]? = some (.cells #[.slice pa C.parts.length pc, .slice ca C.chans.length cc, .int .i64 C.l0, .slice a0 C.w0.length c0, .int .i64 C.l1, .slice a1 C.w1.length c1] 29 (0, 0))) ∧ Kp (wz.heap[bd]? = some (.cells #[.slice pa C.parts.length pc, .slice (some ⟨g2, 0, none⟩) (C.chans.length + 1) k2, .int .i64 C.l0, .slice a0 C.w0.length c0, .int .i64 C.l1, .slice a1 C.w1.length c1] 29 (0, 0))) ∧ Kp (wz.ownsRow (wd0.heap.size) 40 7 (.slice (some ⟨g2, 0, none⟩) (C.chans.length + 1) k2) (C.chans.length + 1) (C.chans.flatMap chanC ++ (chanC x))) ∧ wd8.heap.size ≤ wz.heap.size) ⟨⟨HB9.out.setCell (p := ⟨bd, 1, none⟩) (by show w.heap.size ≤ bd; omega) _⟩, ⟨blk_set_ne (p := ⟨bd, 1, none⟩) HK9.out (by show w.heap.size ≠ bd; omega) _⟩, ⟨(blk_set HD9.out 1 _).trans rfl⟩, ⟨own_set_ne HO.out (p := ⟨bd, 1, none⟩) (by show bd < wd0.heap.size; omega) _⟩, (by simp [World.setCell])⟩ (sx_of1 (ButB.set (And.left hHeld) (p := ⟨bd, 1, none⟩) (by first | (left; simp; done) | (right; show wd.heap.size ≤ bd; omega)) _)) (fun wd9 hRn hHn => ?_)
        clear hK K hHeld HB9 HK9 HD9 HO sd sf sl
        obtain ⟨HB9, HK9, HD9, HO, hsz9⟩ := hRn
        have hHeld := hHn
        clear hHn
        try simp only [Act.put, List.setIfInBounds_toArray, List.set_cons_zero, List.set_cons_succ]
        refine wpAnyH_done (by kernel_rfl) ?_ _
        have hrow := RowAt.of_own HO.out
        have hlen := RowAt.lens hrow
        go_wp2_with fail
        go_meet
        exact ⟨some ⟨g2, 0, none⟩, k2, HB9, HK9, HD9, ⟨cfgAt_with (HC.out.below HB9.out) (C.chans ++ [x]) (fun y hy => by
          rcases List.mem_append.1 hy with hy | hy
          · exact HC.out.1.2.1 y hy
          · rw [List.mem_singleton.1 hy]; exact HXO.out) (by simp) hlen.1 hlen.2 (by rw [List.flatMap_append]; simp only [List.flatMap_cons, List.flatMap_nil, List.append_nil]; exact hrow)⟩⟩
    · have ge_HE : wd.heap.size ≤ wd0.heap.size := (And.left hHeld).size
      go_simp
      try go_wp2_with fail
      refine out_gen hK _ _ (fun wz : World => Kp (Below w.heap.size w wz) ∧ Kp (wz.heap[w.heap.size]? = some (.cells #[.slice pa C.parts.length pc, .slice ca C.chans.length cc, .int .i64 C.l0, .slice a0 C.w0.length c0, .int .i64 C.l1, .slice a1 C.w1.length c1] 29 (0, 0))) ∧ Kp (wz.heap[bd]? = some (.cells #[.slice pa C.parts.length pc, .slice ca C.chans.length cc, .int .i64 C.l0, .slice a0 C.w0.length c0, .int .i64 C.l1, .slice a1 C.w1.length c1] 29 (0, 0))) ∧ Kp (wz.heap[wd0.heap.size]? = some (.cells #[.int .i64 x.kind, .int .i64 x.frm, .int .i64 x.to, .int .i64 x.words, .int .i64 x.depth, .int .i64 x.period, .int .u32 x.boot] 40 (0, 0))) ∧ wd0.heap.size < wz.heap.size) ⟨⟨below_al HB9.out _⟩, ⟨blk_al HK9.out _⟩, ⟨blk_al HD9.out _⟩, ⟨blk_new wd0 _⟩, (by simp)⟩ (sx_of1 (ButB.al (And.left hHeld) _)) (fun wd10 hRn hHn => ?_)
      clear hK K hHeld HB9 HK9 HD9
      obtain ⟨HB9, HK9, HD9, HE, hsz10⟩ := hRn
      have hHeld := hHn
      clear hHn
      try simp only [Act.put, List.setIfInBounds_toArray, List.set_cons_zero, List.set_cons_succ]
      have lt_HE := blk_lt HE.out
      refine wpAnyH_ready (rs := [0]) (by kernel_rfl) (by simp) ?_
      refine (AllReadyH.cons (o := ⟨_, _, _, _, _, _⟩) rfl (fun K hK => ?_) AllReadyH.nil)
      have gr := (And.left hHeld).size
      go_simp
      try go_wp2_with fail
      refine out_gen hK _ _ (fun wz : World => Kp (Below w.heap.size w wz) ∧ Kp (wz.heap[w.heap.size]? = some (.cells #[.slice pa C.parts.length pc, .slice ca C.chans.length cc, .int .i64 C.l0, .slice a0 C.w0.length c0, .int .i64 C.l1, .slice a1 C.w1.length c1] 29 (0, 0))) ∧ Kp (wz.heap[bd]? = some (.cells #[.slice pa C.parts.length pc, .slice ca C.chans.length cc, .int .i64 C.l0, .slice a0 C.w0.length c0, .int .i64 C.l1, .slice a1 C.w1.length c1] 29 (0, 0))) ∧ Kp (wz.heap[wd0.heap.size]? = some (.cells #[.int .i64 x.kind, .int .i64 x.frm, .int .i64 x.to, .int .i64 x.words, .int .i64 x.depth, .int .i64 x.period, .int .u32 x.boot] 40 (0, 0))) ∧ Kp (wz.ownsRow (wd10.heap.size) 40 7 (.slice (some ⟨wd10.heap.size, 0, none⟩) 0 0) (0) ([])) ∧ wd10.heap.size < wz.heap.size) ⟨⟨below_al HB9.out _⟩, ⟨blk_al HK9.out _⟩, ⟨blk_al HD9.out _⟩, ⟨blk_al HE.out _⟩, ⟨own_new0 wd10 _ _⟩, (by simp)⟩ (sx_of1 (ButB.al (And.left hHeld) _)) (fun wd11 hRn hHn => ?_)
      clear hK K hHeld HB9 HK9 HD9 HE
      obtain ⟨HB9, HK9, HD9, HE, HO, hsz11⟩ := hRn
      have hHeld := hHn
      clear hHn
      try simp only [Act.put, List.setIfInBounds_toArray, List.set_cons_zero, List.set_cons_succ]
      refine wpAnyH_ready (rs := [3]) (by kernel_rfl) (by simp) ?_
      refine (AllReadyH.cons (o := ⟨_, _, _, _, _, _⟩) rfl (fun K hK => ?_) AllReadyH.nil)
      have hws := (And.left hHeld).size
      refine step_append_row _ (by rfl) _ _ 23 (by rfl) (wd10.heap.size) 40 i0 (.agg #[.int .i64 0, .int .i64 0, .int .i64 0, .int .i64 0, .int .i64 0, .int .i64 0, .int .u32 0]) 7 56 Try.underlying23 hi hz0 hz1 hz2 (by rfl) (by decide) _ _ _ (by rfl) HO.out _ C.chans.length _ (C.chans.flatMap chanC) (by rfl) (HCH.out.below HB9.out) (chans_one _) (by unfold maxLen; omega) (by omega) (by have := hws; omega) ?_
      intro v1 w9 hown hgrow
      refine out_gen hK _ _ (fun wz : World => Kp (Below w.heap.size w wz) ∧ Kp (wz.heap[w.heap.size]? = some (.cells #[.slice pa C.parts.length pc, .slice ca C.chans.length cc, .int .i64 C.l0, .slice a0 C.w0.length c0, .int .i64 C.l1, .slice a1 C.w1.length c1] 29 (0, 0))) ∧ Kp (wz.heap[bd]? = some (.cells #[.slice pa C.parts.length pc, .slice ca C.chans.length cc, .int .i64 C.l0, .slice a0 C.w0.length c0, .int .i64 C.l1, .slice a1 C.w1.length c1] 29 (0, 0))) ∧ Kp (wz.heap[wd0.heap.size]? = some (.cells #[.int .i64 x.kind, .int .i64 x.frm, .int .i64 x.to, .int .i64 x.words, .int .i64 x.depth, .int .i64 x.period, .int .u32 x.boot] 40 (0, 0))) ∧ Kp (wz.ownsRow (wd10.heap.size) 40 7 (v1) (C.chans.length) (C.chans.flatMap chanC)) ∧ wd11.heap.size ≤ wz.heap.size) ⟨⟨below_own2 HB9.out (by have := HB9.out.size; omega) (by omega) HO.out hgrow⟩, ⟨blk_grownR HK9.out HO.out hgrow (by first | (intro hq; have := (HO.out.lt _ hq).1; omega) | (intro hq; simp [Value.ownBlock] at hq; omega))⟩, ⟨blk_grownR HD9.out HO.out hgrow (by first | (intro hq; have := (HO.out.lt _ hq).1; omega) | (intro hq; simp [Value.ownBlock] at hq; omega))⟩, ⟨blk_grownR HE.out HO.out hgrow (by first | (intro hq; have := (HO.out.lt _ hq).1; omega) | (intro hq; simp [Value.ownBlock] at hq; omega))⟩, ⟨by have h := hown; simp only [Nat.zero_add, List.nil_append] at h; exact h⟩, hgrow.size⟩ (sx_of1 (ButB.grown (And.left hHeld) HO.out hgrow (by omega))) (fun wd12 hRn hHn => ?_)
      clear hK K hHeld HB9 HK9 HD9 HE HO hown hgrow hws
      obtain ⟨HB9, HK9, HD9, HE, HO, hsz12⟩ := hRn
      have hHeld := hHn
      clear hHn
      try simp only [Act.put, List.setIfInBounds_toArray, List.set_cons_zero, List.set_cons_succ]
      refine wpAnyH_ready (rs := [6]) (by kernel_rfl) (by simp) ?_
      refine (AllReadyH.cons (o := ⟨_, _, _, _, _, _⟩) rfl (fun K hK => ?_) AllReadyH.nil)
      have hws := (And.left hHeld).size
      refine step_append_lies _ (by rfl) _ _ 23 (by rfl) (wd10.heap.size) 40 i0 (.agg #[.int .i64 0, .int .i64 0, .int .i64 0, .int .i64 0, .int .i64 0, .int .i64 0, .int .u32 0]) 7 56 Try.underlying23 hi hz0 hz1 hz2 (by rfl) (by decide) _ _ _ (by rfl) HO.out _ 1 _ (chanC x) (by rfl) rfl (World.news_of_block HE.out) (chan_one _) (by omega) (by unfold maxLen; omega) (by omega) (by have := hws; omega) _ rfl ?_
      intro g2 k2 w9 hown hgrow hat hlt
      refine out_gen hK _ _ (fun wz : World => Kp (Below w.heap.size w wz) ∧ Kp (wz.heap[w.heap.size]? = some (.cells #[.slice pa C.parts.length pc, .slice ca C.chans.length cc, .int .i64 C.l0, .slice a0 C.w0.length c0, .int .i64 C.l1, .slice a1 C.w1.length c1] 29 (0, 0))) ∧ Kp (wz.heap[bd]? = some (.cells #[.slice pa C.parts.length pc, .slice ca C.chans.length cc, .int .i64 C.l0, .slice a0 C.w0.length c0, .int .i64 C.l1, .slice a1 C.w1.length c1] 29 (0, 0))) ∧ Kp (wz.ownsRow (wd10.heap.size) 40 7 (.slice (some ⟨g2, 0, none⟩) (C.chans.length + 1) k2) (C.chans.length + 1) (C.chans.flatMap chanC ++ (chanC x))) ∧ wd12.heap.size ≤ wz.heap.size) ⟨⟨below_own2 HB9.out (by have := HB9.out.size; omega) (by omega) HO.out hgrow⟩, ⟨blk_grownR HK9.out HO.out hgrow (by first | (intro hq; have := (HO.out.lt _ hq).1; omega) | (intro hq; simp [Value.ownBlock] at hq; omega))⟩, ⟨blk_grownR HD9.out HO.out hgrow (by first | (intro hq; have := (HO.out.lt _ hq).1; omega) | (intro hq; simp [Value.ownBlock] at hq; omega))⟩, ⟨hown⟩, hgrow.size⟩ (sx_of1 (ButB.grown (And.left hHeld) HO.out hgrow (by omega))) (fun wd13 hRn hHn => ?_)
      clear hK K hHeld HB9 HK9 HD9 HE HO hown hgrow hat hlt hws
      obtain ⟨HB9, HK9, HD9, HO, hsz13⟩ := hRn
      have hHeld := hHn
      clear hHn
      try simp only [Act.put, List.setIfInBounds_toArray, List.set_cons_zero, List.set_cons_succ]
      try simp only [Nat.zero_add]
      refine wpAnyH_take (i := 7) (oi := ⟨_, _, _, _, _, _⟩) (v := ?_) rfl (by kernel_rfl) (by kernel_rfl) (by kernel_rfl) (fun _ _ _ h => h) (Or.inl ⟨by rfl, ?_⟩) (by assumption) ?_
      rotate_left 1
      · (intro w hSw; go_simp; try with_reducible rfl)
      try simp only [Act.put, List.setIfInBounds_toArray, List.set_cons_zero, List.set_cons_succ]
      refine wpAnyH_ready (rs := [8]) (by kernel_rfl) (by simp) ?_
      refine (AllReadyH.cons (o := ⟨_, _, _, _, _, _⟩) rfl (fun K hK => ?_) AllReadyH.nil)
      have sd : wd13.cell? ⟨bd, 1, none⟩ = some (.slice ca C.chans.length cc) := (cell_blk HD9.out 1).trans rfl
      have sf : wd13.frozen? ⟨bd, 1, none⟩ = false := frozen_blk HD9.out 1
      have sl := blk_lt HD9.out
      go_simp
      try go_wp2_with fail
      refine out_gen hK _ _ (fun wz : World => Kp (Below w.heap.size w wz) ∧ Kp (wz.heap[w.heap.size]? = some (.cells #[.slice pa C.parts.length pc, .slice ca C.chans.length cc, .int .i64 C.l0, .slice a0 C.w0.length c0, .int .i64 C.l1, .slice a1 C.w1.length c1] 29 (0, 0))) ∧ Kp (wz.heap[bd]? = some (.cells #[.slice pa C.parts.length pc, .slice (some ⟨g2, 0, none⟩) (C.chans.length + 1) k2, .int .i64 C.l0, .slice a0 C.w0.length c0, .int .i64 C.l1, .slice a1 C.w1.length c1] 29 (0, 0))) ∧ Kp (wz.ownsRow (wd10.heap.size) 40 7 (.slice (some ⟨g2, 0, none⟩) (C.chans.length + 1) k2) (C.chans.length + 1) (C.chans.flatMap chanC ++ (chanC x))) ∧ wd13.heap.size ≤ wz.heap.size) ⟨⟨HB9.out.setCell (p := ⟨bd, 1, none⟩) (by show w.heap.size ≤ bd; omega) _⟩, ⟨blk_set_ne (p := ⟨bd, 1, none⟩) HK9.out (by show w.heap.size ≠ bd; omega) _⟩, ⟨(blk_set HD9.out 1 _).trans rfl⟩, ⟨own_set_ne HO.out (p := ⟨bd, 1, none⟩) (by show bd < wd10.heap.size; omega) _⟩, (by simp [World.setCell])⟩ (sx_of1 (ButB.set (And.left hHeld) (p := ⟨bd, 1, none⟩) (by first | (left; simp; done) | (right; show wd.heap.size ≤ bd; omega)) _)) (fun wd14 hRn hHn => ?_)
      clear hK K hHeld HB9 HK9 HD9 HO sd sf sl
      obtain ⟨HB9, HK9, HD9, HO, hsz14⟩ := hRn
      have hHeld := hHn
      clear hHn
      try simp only [Act.put, List.setIfInBounds_toArray, List.set_cons_zero, List.set_cons_succ]
      refine wpAnyH_done (by kernel_rfl) ?_ _
      have hrow := RowAt.of_own HO.out
      have hlen := RowAt.lens hrow
      go_wp2_with fail
      go_meet
      exact ⟨some ⟨g2, 0, none⟩, k2, HB9, HK9, HD9, ⟨cfgAt_with (HC.out.below HB9.out) (C.chans ++ [x]) (fun y hy => by
        rcases List.mem_append.1 hy with hy | hy
        · exact HC.out.1.2.1 y hy
        · rw [List.mem_singleton.1 hy]; exact HXO.out) (by simp) hlen.1 hlen.2 (by rw [List.flatMap_append]; simp only [List.flatMap_cons, List.flatMap_nil, List.append_nil]; exact hrow)⟩⟩
  case rest =>
    clear q0 q1 lq lx x0 x1 x2 x3 x4 x5 x6
    obtain ⟨va, vc, HB, HK, HD, HCD⟩ := hcut
    have hsz := HB.out.size
    have hbd3 := blk_lt HD.out
    have q0 : wc.cell? ⟨w.heap.size, 0, none⟩ = some (.slice pa C.parts.length pc) := (cell_blk HK.out 0).trans rfl
    have q1 : wc.cell? ⟨w.heap.size, 1, none⟩ = some (.slice ca C.chans.length cc) := (cell_blk HK.out 1).trans rfl
    have q2 : wc.cell? ⟨w.heap.size, 2, none⟩ = some (.int .i64 C.l0) := (cell_blk HK.out 2).trans rfl
    have q3 : wc.cell? ⟨w.heap.size, 3, none⟩ = some (.slice a0 C.w0.length c0) := (cell_blk HK.out 3).trans rfl
    have q4 : wc.cell? ⟨w.heap.size, 4, none⟩ = some (.int .i64 C.l1) := (cell_blk HK.out 4).trans rfl
    have q5 : wc.cell? ⟨w.heap.size, 5, none⟩ = some (.slice a1 C.w1.length c1) := (cell_blk HK.out 5).trans rfl
    have lq := blk_lt HK.out
    have d0 : wc.cell? ⟨bd, 0, none⟩ = some (.slice pa C.parts.length pc) := (cell_blk HD.out 0).trans rfl
    have d1 : wc.cell? ⟨bd, 1, none⟩ = some (.slice va (C.chans.length + 1) vc) := (cell_blk HD.out 1).trans rfl
    have d2 : wc.cell? ⟨bd, 2, none⟩ = some (.int .i64 C.l0) := (cell_blk HD.out 2).trans rfl
    have d3 : wc.cell? ⟨bd, 3, none⟩ = some (.slice a0 C.w0.length c0) := (cell_blk HD.out 3).trans rfl
    have d4 : wc.cell? ⟨bd, 4, none⟩ = some (.int .i64 C.l1) := (cell_blk HD.out 4).trans rfl
    have d5 : wc.cell? ⟨bd, 5, none⟩ = some (.slice a1 C.w1.length c1) := (cell_blk HD.out 5).trans rfl
    go_wp2_with fail
    refine (refAccepts_any _ C hsm _ (HC.out.below HB.out)).mono ?_
    rw [hno]
    rintro e w1k ⟨rfl, hb⟩
    have HB1k : Kp (Below w.heap.size w w1k) := ⟨below_call HB.out hb⟩
    have q1k : Kp (w1k.heap[w.heap.size]? = some (.cells #[.slice pa C.parts.length pc, .slice ca C.chans.length cc, .int .i64 C.l0, .slice a0 C.w0.length c0, .int .i64 C.l1, .slice a1 C.w1.length c1] 29 (0, 0))) := ⟨blk_below HK.out hb⟩
    have d1k : Kp (w1k.heap[bd]? = some (.cells #[.slice pa C.parts.length pc, .slice va (C.chans.length + 1) vc, .int .i64 C.l0, .slice a0 C.w0.length c0, .int .i64 C.l1, .slice a1 C.w1.length c1] 29 (0, 0))) := ⟨blk_below HD.out hb⟩
    have CD1k : Kp (CfgAt w1k (.agg #[.slice pa C.parts.length pc, .slice va (C.chans.length + 1) vc, .int .i64 C.l0, .slice a0 C.w0.length c0, .int .i64 C.l1, .slice a1 C.w1.length c1]) (withCh C (C.chans ++ [x]))) := ⟨HCD.out.below hb⟩
    clear q0 q1 q2 q3 q4 q5 lq d0 d1 d2 d3 d4 d5 HB HK HD HCD hb
    have qc0k : w1k.cell? ⟨w.heap.size, 0, none⟩ = some (.slice pa C.parts.length pc) := (cell_blk q1k.out 0).trans rfl
    have qc1k : w1k.cell? ⟨w.heap.size, 1, none⟩ = some (.slice ca C.chans.length cc) := (cell_blk q1k.out 1).trans rfl
    have qc2k : w1k.cell? ⟨w.heap.size, 2, none⟩ = some (.int .i64 C.l0) := (cell_blk q1k.out 2).trans rfl
    have qc3k : w1k.cell? ⟨w.heap.size, 3, none⟩ = some (.slice a0 C.w0.length c0) := (cell_blk q1k.out 3).trans rfl
    have qc4k : w1k.cell? ⟨w.heap.size, 4, none⟩ = some (.int .i64 C.l1) := (cell_blk q1k.out 4).trans rfl
    have qc5k : w1k.cell? ⟨w.heap.size, 5, none⟩ = some (.slice a1 C.w1.length c1) := (cell_blk q1k.out 5).trans rfl
    have qlk := blk_lt q1k.out
    have dc0k : w1k.cell? ⟨bd, 0, none⟩ = some (.slice pa C.parts.length pc) := (cell_blk d1k.out 0).trans rfl
    have dc1k : w1k.cell? ⟨bd, 1, none⟩ = some (.slice va (C.chans.length + 1) vc) := (cell_blk d1k.out 1).trans rfl
    have dc2k : w1k.cell? ⟨bd, 2, none⟩ = some (.int .i64 C.l0) := (cell_blk d1k.out 2).trans rfl
    have dc3k : w1k.cell? ⟨bd, 3, none⟩ = some (.slice a0 C.w0.length c0) := (cell_blk d1k.out 3).trans rfl
    have dc4k : w1k.cell? ⟨bd, 4, none⟩ = some (.int .i64 C.l1) := (cell_blk d1k.out 4).trans rfl
    have dc5k : w1k.cell? ⟨bd, 5, none⟩ = some (.slice a1 C.w1.length c1) := (cell_blk d1k.out 5).trans rfl
    have dlk := blk_lt d1k.out
    go_wp2
    go_ret
    exact ⟨rfl, HB1k.out⟩

set_option maxRecDepth 100000 in
set_option maxHeartbeats 8000000 in
theorem layoutGrows_dno (cv : Value) (C : Cfg) (x : Chn) (hxo : x.ok) (hg : C.great = false) (ha : accB C = true) (hno : accB (withCh C (C.chans ++ [x])) = false) (w : World) (h : CfgAt w cv C) : Calls Try.prog 9 #[cv, .agg #[.int .i64 x.kind, .int .i64 x.frm, .int .i64 x.to, .int .i64 x.words, .int .i64 x.depth, .int .i64 x.period, .int .u32 x.boot]] w fun e w' => e = .returned (.bool true) ∧ Below w.heap.size w w' := by
  have HC := Kp.mk h
  have hsm := small_of_great hg
  have hsc := small_chans hg
  have HXO := Kp.mk hxo
  have hsmD : (withCh C (C.chans ++ [x])).small := ⟨hsm.1, by show (C.chans ++ [x]).length ≤ 200; rw [List.length_append, List.length_singleton]; omega, hsm.2.2⟩
  obtain ⟨i0, hi, hz0, hz1, hz2⟩ := info_parts Try.infoChan
  obtain ⟨ho, pa, pc, ca, cc, a0, c0, a1, c1, rfl, bp, bc, b0, b1, hp, hc, hw0, hw1⟩ := h
  have HCH := Kp.mk hc
  clear ho hp hc hw0 hw1
  go_enter Try.func9, Try.ntmps9
  have HB0 : Kp (Below w.heap.size w w) := ⟨Below.refl _ _⟩
  go_wp2_with fail
  refine (wakes8_any _).mono ?_
  rintro e w1 ⟨rfl, hb⟩
  have q1 : Kp (w1.heap[w.heap.size]? = some (.cells #[.slice pa C.parts.length pc, .slice ca C.chans.length cc, .int .i64 C.l0, .slice a0 C.w0.length c0, .int .i64 C.l1, .slice a1 C.w1.length c1] 29 (0, 0))) := ⟨blk_below (blk_al (blk_new _ _) _) hb⟩
  have x1 : Kp (w1.heap[w.heap.size + 1]? = some (.cells #[.int .i64 x.kind, .int .i64 x.frm, .int .i64 x.to, .int .i64 x.words, .int .i64 x.depth, .int .i64 x.period, .int .u32 x.boot] 40 (0, 0))) := ⟨blk_below (blk_at (w := (w.alloc (.cells #[.slice pa C.parts.length pc, .slice ca C.chans.length cc, .int .i64 C.l0, .slice a0 C.w0.length c0, .int .i64 C.l1, .slice a1 C.w1.length c1] 29))) (by simp) _) hb⟩
  have HB1 : Kp (Below w.heap.size w w1) := ⟨below_call (below_al (below_al HB0.out _) _) hb⟩
  clear HB0 hb
  have qc0 : w1.cell? ⟨w.heap.size, 0, none⟩ = some (.slice pa C.parts.length pc) := (cell_blk q1.out 0).trans rfl
  have qc1 : w1.cell? ⟨w.heap.size, 1, none⟩ = some (.slice ca C.chans.length cc) := (cell_blk q1.out 1).trans rfl
  have qc2 : w1.cell? ⟨w.heap.size, 2, none⟩ = some (.int .i64 C.l0) := (cell_blk q1.out 2).trans rfl
  have qc3 : w1.cell? ⟨w.heap.size, 3, none⟩ = some (.slice a0 C.w0.length c0) := (cell_blk q1.out 3).trans rfl
  have qc4 : w1.cell? ⟨w.heap.size, 4, none⟩ = some (.int .i64 C.l1) := (cell_blk q1.out 4).trans rfl
  have qc5 : w1.cell? ⟨w.heap.size, 5, none⟩ = some (.slice a1 C.w1.length c1) := (cell_blk q1.out 5).trans rfl
  have ql := blk_lt q1.out
  have xc0 : w1.cell? ⟨w.heap.size + 1, 0, none⟩ = some (.int .i64 x.kind) := (cell_blk x1.out 0).trans rfl
  have xc1 : w1.cell? ⟨w.heap.size + 1, 1, none⟩ = some (.int .i64 x.frm) := (cell_blk x1.out 1).trans rfl
  have xc2 : w1.cell? ⟨w.heap.size + 1, 2, none⟩ = some (.int .i64 x.to) := (cell_blk x1.out 2).trans rfl
  have xc3 : w1.cell? ⟨w.heap.size + 1, 3, none⟩ = some (.int .i64 x.words) := (cell_blk x1.out 3).trans rfl
  have xc4 : w1.cell? ⟨w.heap.size + 1, 4, none⟩ = some (.int .i64 x.depth) := (cell_blk x1.out 4).trans rfl
  have xc5 : w1.cell? ⟨w.heap.size + 1, 5, none⟩ = some (.int .i64 x.period) := (cell_blk x1.out 5).trans rfl
  have xc6 : w1.cell? ⟨w.heap.size + 1, 6, none⟩ = some (.int .u32 x.boot) := (cell_blk x1.out 6).trans rfl
  have xl := blk_lt x1.out
  go_wp2_with fail
  refine (great_any _ C _ (HC.out.below HB1.out)).mono ?_
  rw [hg]
  rintro e w2 ⟨rfl, hb⟩
  have q2 : Kp (w2.heap[w.heap.size]? = some (.cells #[.slice pa C.parts.length pc, .slice ca C.chans.length cc, .int .i64 C.l0, .slice a0 C.w0.length c0, .int .i64 C.l1, .slice a1 C.w1.length c1] 29 (0, 0))) := ⟨blk_below q1.out hb⟩
  have x2 : Kp (w2.heap[w.heap.size + 1]? = some (.cells #[.int .i64 x.kind, .int .i64 x.frm, .int .i64 x.to, .int .i64 x.words, .int .i64 x.depth, .int .i64 x.period, .int .u32 x.boot] 40 (0, 0))) := ⟨blk_below x1.out hb⟩
  have HB2 : Kp (Below w.heap.size w w2) := ⟨below_call HB1.out hb⟩
  clear qc0 qc1 qc2 qc3 qc4 qc5 ql xc0 xc1 xc2 xc3 xc4 xc5 xc6 xl q1 x1 HB1 hb
  have qc0 : w2.cell? ⟨w.heap.size, 0, none⟩ = some (.slice pa C.parts.length pc) := (cell_blk q2.out 0).trans rfl
  have qc1 : w2.cell? ⟨w.heap.size, 1, none⟩ = some (.slice ca C.chans.length cc) := (cell_blk q2.out 1).trans rfl
  have qc2 : w2.cell? ⟨w.heap.size, 2, none⟩ = some (.int .i64 C.l0) := (cell_blk q2.out 2).trans rfl
  have qc3 : w2.cell? ⟨w.heap.size, 3, none⟩ = some (.slice a0 C.w0.length c0) := (cell_blk q2.out 3).trans rfl
  have qc4 : w2.cell? ⟨w.heap.size, 4, none⟩ = some (.int .i64 C.l1) := (cell_blk q2.out 4).trans rfl
  have qc5 : w2.cell? ⟨w.heap.size, 5, none⟩ = some (.slice a1 C.w1.length c1) := (cell_blk q2.out 5).trans rfl
  have ql := blk_lt q2.out
  have xc0 : w2.cell? ⟨w.heap.size + 1, 0, none⟩ = some (.int .i64 x.kind) := (cell_blk x2.out 0).trans rfl
  have xc1 : w2.cell? ⟨w.heap.size + 1, 1, none⟩ = some (.int .i64 x.frm) := (cell_blk x2.out 1).trans rfl
  have xc2 : w2.cell? ⟨w.heap.size + 1, 2, none⟩ = some (.int .i64 x.to) := (cell_blk x2.out 2).trans rfl
  have xc3 : w2.cell? ⟨w.heap.size + 1, 3, none⟩ = some (.int .i64 x.words) := (cell_blk x2.out 3).trans rfl
  have xc4 : w2.cell? ⟨w.heap.size + 1, 4, none⟩ = some (.int .i64 x.depth) := (cell_blk x2.out 4).trans rfl
  have xc5 : w2.cell? ⟨w.heap.size + 1, 5, none⟩ = some (.int .i64 x.period) := (cell_blk x2.out 5).trans rfl
  have xc6 : w2.cell? ⟨w.heap.size + 1, 6, none⟩ = some (.int .u32 x.boot) := (cell_blk x2.out 6).trans rfl
  have xl := blk_lt x2.out
  go_upto_region 6 with fail
  obtain ⟨bd, hbd⟩ : ∃ bd, w2.heap.size = bd := ⟨_, rfl⟩
  have HBD := Kp.mk hbd
  have hbd1 : w.heap.size < bd := by omega
  have hbd2 : w.heap.size + 1 < bd := by omega
  have hnb1 : w.heap.size ≠ bd := by omega
  have hnb2 : w.heap.size + 1 ≠ bd := by omega
  have HB9 : Kp (Below w.heap.size w (w2.alloc (.cells #[.slice pa C.parts.length pc, .slice ca C.chans.length cc, .int .i64 C.l0, .slice a0 C.w0.length c0, .int .i64 C.l1, .slice a1 C.w1.length c1] 29))) := ⟨below_al HB2.out _⟩
  have HK9 : Kp ((w2.alloc (.cells #[.slice pa C.parts.length pc, .slice ca C.chans.length cc, .int .i64 C.l0, .slice a0 C.w0.length c0, .int .i64 C.l1, .slice a1 C.w1.length c1] 29)).heap[w.heap.size]? = some (.cells #[.slice pa C.parts.length pc, .slice ca C.chans.length cc, .int .i64 C.l0, .slice a0 C.w0.length c0, .int .i64 C.l1, .slice a1 C.w1.length c1] 29 (0, 0))) := ⟨blk_al q2.out _⟩
  have HX9 : Kp ((w2.alloc (.cells #[.slice pa C.parts.length pc, .slice ca C.chans.length cc, .int .i64 C.l0, .slice a0 C.w0.length c0, .int .i64 C.l1, .slice a1 C.w1.length c1] 29)).heap[w.heap.size + 1]? = some (.cells #[.int .i64 x.kind, .int .i64 x.frm, .int .i64 x.to, .int .i64 x.words, .int .i64 x.depth, .int .i64 x.period, .int .u32 x.boot] 40 (0, 0))) := ⟨blk_al x2.out _⟩
  have HD9 : Kp ((w2.alloc (.cells #[.slice pa C.parts.length pc, .slice ca C.chans.length cc, .int .i64 C.l0, .slice a0 C.w0.length c0, .int .i64 C.l1, .slice a1 C.w1.length c1] 29)).heap[bd]? = some (.cells #[.slice pa C.parts.length pc, .slice ca C.chans.length cc, .int .i64 C.l0, .slice a0 C.w0.length c0, .int .i64 C.l1, .slice a1 C.w1.length c1] 29 (0, 0))) := ⟨blk_at hbd _⟩
  have hz9 : bd < (w2.alloc (.cells #[.slice pa C.parts.length pc, .slice ca C.chans.length cc, .int .i64 C.l0, .slice a0 C.w0.length c0, .int .i64 C.l1, .slice a1 C.w1.length c1] 29)).heap.size := blk_lt HD9.out
  clear qc0 qc1 qc2 qc3 qc4 qc5 ql xc0 xc1 xc2 xc3 xc4 xc5 xc6 xl HB2 q2 x2
  rw [hbd]
  clear hbd
  generalize (w2.alloc (.cells #[.slice pa C.parts.length pc, .slice ca C.chans.length cc, .int .i64 C.l0, .slice a0 C.w0.length c0, .int .i64 C.l1, .slice a1 C.w1.length c1] 29)) = wd at HB9 HK9 HX9 HD9 hz9 ⊢
  have q0 : wd.cell? ⟨w.heap.size, 0, none⟩ = some (.slice pa C.parts.length pc) := (cell_blk HK9.out 0).trans rfl
  have q1 : wd.cell? ⟨w.heap.size, 1, none⟩ = some (.slice ca C.chans.length cc) := (cell_blk HK9.out 1).trans rfl
  have lq : w.heap.size < wd.heap.size := by omega
  have lx : w.heap.size + 1 < wd.heap.size := by omega
  have x0 : wd.cell? ⟨w.heap.size + 1, 0, none⟩ = some (.int .i64 x.kind) := (cell_blk HX9.out 0).trans rfl
  have x1 : wd.cell? ⟨w.heap.size + 1, 1, none⟩ = some (.int .i64 x.frm) := (cell_blk HX9.out 1).trans rfl
  have x2 : wd.cell? ⟨w.heap.size + 1, 2, none⟩ = some (.int .i64 x.to) := (cell_blk HX9.out 2).trans rfl
  have x3 : wd.cell? ⟨w.heap.size + 1, 3, none⟩ = some (.int .i64 x.words) := (cell_blk HX9.out 3).trans rfl
  have x4 : wd.cell? ⟨w.heap.size + 1, 4, none⟩ = some (.int .i64 x.depth) := (cell_blk HX9.out 4).trans rfl
  have x5 : wd.cell? ⟨w.heap.size + 1, 5, none⟩ = some (.int .i64 x.period) := (cell_blk HX9.out 5).trans rfl
  have x6 : wd.cell? ⟨w.heap.size + 1, 6, none⟩ = some (.int .u32 x.boot) := (cell_blk HX9.out 6).trans rfl
  go_cut [] (fun wx => ∃ (va : Option Addr) (vc : Nat), Kp (Below w.heap.size w wx) ∧ Kp (wx.heap[w.heap.size]? = some (.cells #[.slice pa C.parts.length pc, .slice ca C.chans.length cc, .int .i64 C.l0, .slice a0 C.w0.length c0, .int .i64 C.l1, .slice a1 C.w1.length c1] 29 (0, 0))) ∧ Kp (wx.heap[bd]? = some (.cells #[.slice pa C.parts.length pc, .slice va (C.chans.length + 1) vc, .int .i64 C.l0, .slice a0 C.w0.length c0, .int .i64 C.l1, .slice a1 C.w1.length c1] 29 (0, 0))) ∧ Kp (CfgAt wx (.agg #[.slice pa C.parts.length pc, .slice va (C.chans.length + 1) vc, .int .i64 C.l0, .slice a0 C.w0.length c0, .int .i64 C.l1, .slice a1 C.w1.length c1]) (withCh C (C.chans ++ [x]))))
  case first =>
    refine held_start_gen (S := (fun w' : World => ButB (wd.heap.size) [bd] wd w' ∧ ∀ bb o, bb < wd.heap.size → bb ≠ bd → w'.cell? ⟨bb, o, none⟩ = wd.cell? ⟨bb, o, none⟩)) (by kernel_rfl) (fun wz : World => Kp (Below w.heap.size w wz) ∧ Kp (wz.heap[w.heap.size]? = some (.cells #[.slice pa C.parts.length pc, .slice ca C.chans.length cc, .int .i64 C.l0, .slice a0 C.w0.length c0, .int .i64 C.l1, .slice a1 C.w1.length c1] 29 (0, 0))) ∧ Kp (wz.heap[bd]? = some (.cells #[.slice pa C.parts.length pc, .slice ca C.chans.length cc, .int .i64 C.l0, .slice a0 C.w0.length c0, .int .i64 C.l1, .slice a1 C.w1.length c1] 29 (0, 0))) ∧ wd.heap.size ≤ wz.heap.size) ⟨⟨below_dr HB9.out⟩, ⟨blk_dr HK9.out⟩, ⟨blk_dr HD9.out⟩, Nat.le_refl _⟩ (sx_of1 (ButB.dr (ButB.refl _ (by omega)))) (fun wd0 hRn hHeld => ?_)
    clear HB9 HK9 HD9
    obtain ⟨HB9, HK9, HD9, hsz⟩ := hRn
    refine wpAnyH_take (i := 1) (oi := ⟨_, _, _, _, _, _⟩) (v := ?_) rfl (by kernel_rfl) (by kernel_rfl) (by kernel_rfl) (fun _ _ _ h => h) (Or.inl ⟨by rfl, ?_⟩) (by assumption) ?_
    rotate_left 1
    · (intro w hSw; go_simp; try with_reducible rfl)
    try simp only [Act.put, List.setIfInBounds_toArray, List.set_cons_zero, List.set_cons_succ]
    refine wpAnyH_take (i := 2) (oi := ⟨_, _, _, _, _, _⟩) (v := ?_) rfl (by kernel_rfl) (by kernel_rfl) (by kernel_rfl) (fun _ _ _ h => h) (Or.inl ⟨by rfl, ?_⟩) (by assumption) ?_
    rotate_left 1
    · (intro w hSw; go_simp; try with_reducible rfl)
    try simp only [Act.put, List.setIfInBounds_toArray, List.set_cons_zero, List.set_cons_succ]
    refine wpAnyH_take (i := 4) (oi := ⟨_, _, _, _, _, _⟩) (v := ?_) rfl (by kernel_rfl) (by kernel_rfl) (by kernel_rfl) (fun _ _ _ h => h) (Or.inl ⟨by rfl, ?_⟩) (by assumption) ?_
    rotate_left 1
    · (intro w hSw; go_simp; try with_reducible rfl)
    try simp only [Act.put, List.setIfInBounds_toArray, List.set_cons_zero, List.set_cons_succ]
    refine wpAnyH_ready (rs := [0, 5]) (by kernel_rfl) (by simp) ?_
    refine (AllReadyH.cons (o := ⟨_, _, _, _, _, _⟩) rfl (fun K hK => ?_) (AllReadyH.cons (o := ⟨_, _, _, _, _, _⟩) rfl (fun K hK => ?_) AllReadyH.nil))
    · have gr := (And.left hHeld).size
      go_simp
      try go_wp2_with fail
      refine out_gen hK _ _ (fun wz : World => Kp (Below w.heap.size w wz) ∧ Kp (wz.heap[w.heap.size]? = some (.cells #[.slice pa C.parts.length pc, .slice ca C.chans.length cc, .int .i64 C.l0, .slice a0 C.w0.length c0, .int .i64 C.l1, .slice a1 C.w1.length c1] 29 (0, 0))) ∧ Kp (wz.heap[bd]? = some (.cells #[.slice pa C.parts.length pc, .slice ca C.chans.length cc, .int .i64 C.l0, .slice a0 C.w0.length c0, .int .i64 C.l1, .slice a1 C.w1.length c1] 29 (0, 0))) ∧ Kp (wz.ownsRow (wd0.heap.size) 40 7 (.slice (some ⟨wd0.heap.size, 0, none⟩) 0 0) (0) ([])) ∧ wd0.heap.size < wz.heap.size) ⟨⟨below_al HB9.out _⟩, ⟨blk_al HK9.out _⟩, ⟨blk_al HD9.out _⟩, ⟨own_new0 wd0 _ _⟩, (by simp)⟩ (sx_of1 (ButB.al (And.left hHeld) _)) (fun wd1 hRn hHn => ?_)
      clear hK K hHeld HB9 HK9 HD9
      obtain ⟨HB9, HK9, HD9, HO, hsz1⟩ := hRn
      have hHeld := hHn
      clear hHn
      try simp only [Act.put, List.setIfInBounds_toArray, List.set_cons_zero, List.set_cons_succ]
      refine wpAnyH_ready (rs := [3, 5]) (by kernel_rfl) (by simp) ?_
      refine (AllReadyH.cons (o := ⟨_, _, _, _, _, _⟩) rfl (fun K hK => ?_) (AllReadyH.cons (o := ⟨_, _, _, _, _, _⟩) rfl (fun K hK => ?_) AllReadyH.nil))
      · have hws := (And.left hHeld).size
        refine step_append_row _ (by rfl) _ _ 23 (by rfl) (wd0.heap.size) 40 i0 (.agg #[.int .i64 0, .int .i64 0, .int .i64 0, .int .i64 0, .int .i64 0, .int .i64 0, .int .u32 0]) 7 56 Try.underlying23 hi hz0 hz1 hz2 (by rfl) (by decide) _ _ _ (by rfl) HO.out _ C.chans.length _ (C.chans.flatMap chanC) (by rfl) (HCH.out.below HB9.out) (chans_one _) (by unfold maxLen; omega) (by omega) (by have := hws; omega) ?_
        intro v1 w9 hown hgrow
        refine out_gen hK _ _ (fun wz : World => Kp (Below w.heap.size w wz) ∧ Kp (wz.heap[w.heap.size]? = some (.cells #[.slice pa C.parts.length pc, .slice ca C.chans.length cc, .int .i64 C.l0, .slice a0 C.w0.length c0, .int .i64 C.l1, .slice a1 C.w1.length c1] 29 (0, 0))) ∧ Kp (wz.heap[bd]? = some (.cells #[.slice pa C.parts.length pc, .slice ca C.chans.length cc, .int .i64 C.l0, .slice a0 C.w0.length c0, .int .i64 C.l1, .slice a1 C.w1.length c1] 29 (0, 0))) ∧ Kp (wz.ownsRow (wd0.heap.size) 40 7 (v1) (C.chans.length) (C.chans.flatMap chanC)) ∧ wd1.heap.size ≤ wz.heap.size) ⟨⟨below_own2 HB9.out (by have := HB9.out.size; omega) (by omega) HO.out hgrow⟩, ⟨blk_grownR HK9.out HO.out hgrow (by first | (intro hq; have := (HO.out.lt _ hq).1; omega) | (intro hq; simp [Value.ownBlock] at hq; omega))⟩, ⟨blk_grownR HD9.out HO.out hgrow (by first | (intro hq; have := (HO.out.lt _ hq).1; omega) | (intro hq; simp [Value.ownBlock] at hq; omega))⟩, ⟨by have h := hown; simp only [Nat.zero_add, List.nil_append] at h; exact h⟩, hgrow.size⟩ (sx_of1 (ButB.grown (And.left hHeld) HO.out hgrow (by omega))) (fun wd2 hRn hHn => ?_)
        clear hK K hHeld HB9 HK9 HD9 HO hown hgrow hws
        obtain ⟨HB9, HK9, HD9, HO, hsz2⟩ := hRn
        have hHeld := hHn
        clear hHn
        try simp only [Act.put, List.setIfInBounds_toArray, List.set_cons_zero, List.set_cons_succ]
        refine wpAnyH_ready (rs := [5]) (by kernel_rfl) (by simp) ?_
        refine (AllReadyH.cons (o := ⟨_, _, _, _, _, _⟩) rfl (fun K hK => ?_) AllReadyH.nil)
        have ge_HE : wd.heap.size ≤ wd2.heap.size := (And.left hHeld).size
        go_simp
        try go_wp2_with fail
        refine out_gen hK _ _ (fun wz : World => Kp (Below w.heap.size w wz) ∧ Kp (wz.heap[w.heap.size]? = some (.cells #[.slice pa C.parts.length pc, .slice ca C.chans.length cc, .int .i64 C.l0, .slice a0 C.w0.length c0, .int .i64 C.l1, .slice a1 C.w1.length c1] 29 (0, 0))) ∧ Kp (wz.heap[bd]? = some (.cells #[.slice pa C.parts.length pc, .slice ca C.chans.length cc, .int .i64 C.l0, .slice a0 C.w0.length c0, .int .i64 C.l1, .slice a1 C.w1.length c1] 29 (0, 0))) ∧ Kp (wz.ownsRow (wd0.heap.size) 40 7 (v1) (C.chans.length) (C.chans.flatMap chanC)) ∧ Kp (wz.heap[wd2.heap.size]? = some (.cells #[.int .i64 x.kind, .int .i64 x.frm, .int .i64 x.to, .int .i64 x.words, .int .i64 x.depth, .int .i64 x.period, .int .u32 x.boot] 40 (0, 0))) ∧ wd2.heap.size < wz.heap.size) ⟨⟨below_al HB9.out _⟩, ⟨blk_al HK9.out _⟩, ⟨blk_al HD9.out _⟩, ⟨HO.out.alloc _⟩, ⟨blk_new wd2 _⟩, (by simp)⟩ (sx_of1 (ButB.al (And.left hHeld) _)) (fun wd3 hRn hHn => ?_)
        clear hK K hHeld HB9 HK9 HD9 HO
        obtain ⟨HB9, HK9, HD9, HO, HE, hsz3⟩ := hRn
        have hHeld := hHn
        clear hHn
        try simp only [Act.put, List.setIfInBounds_toArray, List.set_cons_zero, List.set_cons_succ]
        have lt_HE := blk_lt HE.out
        refine wpAnyH_ready (rs := [6]) (by kernel_rfl) (by simp) ?_
        refine (AllReadyH.cons (o := ⟨_, _, _, _, _, _⟩) rfl (fun K hK => ?_) AllReadyH.nil)
        have hws := (And.left hHeld).size
        refine step_append_lies _ (by rfl) _ _ 23 (by rfl) (wd0.heap.size) 40 i0 (.agg #[.int .i64 0, .int .i64 0, .int .i64 0, .int .i64 0, .int .i64 0, .int .i64 0, .int .u32 0]) 7 56 Try.underlying23 hi hz0 hz1 hz2 (by rfl) (by decide) _ _ _ (by rfl) HO.out _ 1 _ (chanC x) (by rfl) rfl (World.news_of_block HE.out) (chan_one _) (by omega) (by unfold maxLen; omega) (by omega) (by have := hws; omega) _ rfl ?_
        intro g2 k2 w9 hown hgrow hat hlt
        refine out_gen hK _ _ (fun wz : World => Kp (Below w.heap.size w wz) ∧ Kp (wz.heap[w.heap.size]? = some (.cells #[.slice pa C.parts.length pc, .slice ca C.chans.length cc, .int .i64 C.l0, .slice a0 C.w0.length c0, .int .i64 C.l1, .slice a1 C.w1.length c1] 29 (0, 0))) ∧ Kp (wz.heap[bd]? = some (.cells #[.slice pa C.parts.length pc, .slice ca C.chans.length cc, .int .i64 C.l0, .slice a0 C.w0.length c0, .int .i64 C.l1, .slice a1 C.w1.length c1] 29 (0, 0))) ∧ Kp (wz.ownsRow (wd0.heap.size) 40 7 (.slice (some ⟨g2, 0, none⟩) (C.chans.length + 1) k2) (C.chans.length + 1) (C.chans.flatMap chanC ++ (chanC x))) ∧ wd3.heap.size ≤ wz.heap.size) ⟨⟨below_own2 HB9.out (by have := HB9.out.size; omega) (by omega) HO.out hgrow⟩, ⟨blk_grownR HK9.out HO.out hgrow (by first | (intro hq; have := (HO.out.lt _ hq).1; omega) | (intro hq; simp [Value.ownBlock] at hq; omega))⟩, ⟨blk_grownR HD9.out HO.out hgrow (by first | (intro hq; have := (HO.out.lt _ hq).1; omega) | (intro hq; simp [Value.ownBlock] at hq; omega))⟩, ⟨hown⟩, hgrow.size⟩ (sx_of1 (ButB.grown (And.left hHeld) HO.out hgrow (by omega))) (fun wd4 hRn hHn => ?_)
        clear hK K hHeld HB9 HK9 HD9 HO HE hown hgrow hat hlt hws
        obtain ⟨HB9, HK9, HD9, HO, hsz4⟩ := hRn
        have hHeld := hHn
        clear hHn
        try simp only [Act.put, List.setIfInBounds_toArray, List.set_cons_zero, List.set_cons_succ]
        try simp only [Nat.zero_add]
        refine wpAnyH_take (i := 7) (oi := ⟨_, _, _, _, _, _⟩) (v := ?_) rfl (by kernel_rfl) (by kernel_rfl) (by kernel_rfl) (fun _ _ _ h => h) (Or.inl ⟨by rfl, ?_⟩) (by assumption) ?_
        rotate_left 1
        · (intro w hSw; go_simp; try with_reducible rfl)
        try simp only [Act.put, List.setIfInBounds_toArray, List.set_cons_zero, List.set_cons_succ]
        refine wpAnyH_ready (rs := [8]) (by kernel_rfl) (by simp) ?_
        refine (AllReadyH.cons (o := ⟨_, _, _, _, _, _⟩) rfl (fun K hK => ?_) AllReadyH.nil)
        have sd : wd4.cell? ⟨bd, 1, none⟩ = some (.slice ca C.chans.length cc) := (cell_blk HD9.out 1).trans rfl
        have sf : wd4.frozen? ⟨bd, 1, none⟩ = false := frozen_blk HD9.out 1
        have sl := blk_lt HD9.out
        go_simp
        try go_wp2_with fail
        refine out_gen hK _ _ (fun wz : World => Kp (Below w.heap.size w wz) ∧ Kp (wz.heap[w.heap.size]? = some (.cells #[.slice pa C.parts.length pc, .slice ca C.chans.length cc, .int .i64 C.l0, .slice a0 C.w0.length c0, .int .i64 C.l1, .slice a1 C.w1.length c1] 29 (0, 0))) ∧ Kp (wz.heap[bd]? = some (.cells #[.slice pa C.parts.length pc, .slice (some ⟨g2, 0, none⟩) (C.chans.length + 1) k2, .int .i64 C.l0, .slice a0 C.w0.length c0, .int .i64 C.l1, .slice a1 C.w1.length c1] 29 (0, 0))) ∧ Kp (wz.ownsRow (wd0.heap.size) 40 7 (.slice (some ⟨g2, 0, none⟩) (C.chans.length + 1) k2) (C.chans.length + 1) (C.chans.flatMap chanC ++ (chanC x))) ∧ wd4.heap.size ≤ wz.heap.size) ⟨⟨HB9.out.setCell (p := ⟨bd, 1, none⟩) (by show w.heap.size ≤ bd; omega) _⟩, ⟨blk_set_ne (p := ⟨bd, 1, none⟩) HK9.out (by show w.heap.size ≠ bd; omega) _⟩, ⟨(blk_set HD9.out 1 _).trans rfl⟩, ⟨own_set_ne HO.out (p := ⟨bd, 1, none⟩) (by show bd < wd0.heap.size; omega) _⟩, (by simp [World.setCell])⟩ (sx_of1 (ButB.set (And.left hHeld) (p := ⟨bd, 1, none⟩) (by first | (left; simp; done) | (right; show wd.heap.size ≤ bd; omega)) _)) (fun wd5 hRn hHn => ?_)
        clear hK K hHeld HB9 HK9 HD9 HO sd sf sl
        obtain ⟨HB9, HK9, HD9, HO, hsz5⟩ := hRn
        have hHeld := hHn
        clear hHn
        try simp only [Act.put, List.setIfInBounds_toArray, List.set_cons_zero, List.set_cons_succ]
        refine wpAnyH_done (by kernel_rfl) ?_ _
        have hrow := RowAt.of_own HO.out
        have hlen := RowAt.lens hrow
        go_wp2_with fail
        go_meet
        exact ⟨some ⟨g2, 0, none⟩, k2, HB9, HK9, HD9, ⟨cfgAt_with (HC.out.below HB9.out) (C.chans ++ [x]) (fun y hy => by
          rcases List.mem_append.1 hy with hy | hy
          · exact HC.out.1.2.1 y hy
          · rw [List.mem_singleton.1 hy]; exact HXO.out) (by simp) hlen.1 hlen.2 (by rw [List.flatMap_append]; simp only [List.flatMap_cons, List.flatMap_nil, List.append_nil]; exact hrow)⟩⟩
      · have ge_HE : wd.heap.size ≤ wd1.heap.size := (And.left hHeld).size
        go_simp
        try go_wp2_with fail
        refine out_gen hK _ _ (fun wz : World => Kp (Below w.heap.size w wz) ∧ Kp (wz.heap[w.heap.size]? = some (.cells #[.slice pa C.parts.length pc, .slice ca C.chans.length cc, .int .i64 C.l0, .slice a0 C.w0.length c0, .int .i64 C.l1, .slice a1 C.w1.length c1] 29 (0, 0))) ∧ Kp (wz.heap[bd]? = some (.cells #[.slice pa C.parts.length pc, .slice ca C.chans.length cc, .int .i64 C.l0, .slice a0 C.w0.length c0, .int .i64 C.l1, .slice a1 C.w1.length c1] 29 (0, 0))) ∧ Kp (wz.ownsRow (wd0.heap.size) 40 7 (.slice (some ⟨wd0.heap.size, 0, none⟩) 0 0) (0) ([])) ∧ Kp (wz.heap[wd1.heap.size]? = some (.cells #[.int .i64 x.kind, .int .i64 x.frm, .int .i64 x.to, .int .i64 x.words, .int .i64 x.depth, .int .i64 x.period, .int .u32 x.boot] 40 (0, 0))) ∧ wd1.heap.size < wz.heap.size) ⟨⟨below_al HB9.out _⟩, ⟨blk_al HK9.out _⟩, ⟨blk_al HD9.out _⟩, ⟨HO.out.alloc _⟩, ⟨blk_new wd1 _⟩, (by simp)⟩ (sx_of1 (ButB.al (And.left hHeld) _)) (fun wd6 hRn hHn => ?_)
        clear hK K hHeld HB9 HK9 HD9 HO
        obtain ⟨HB9, HK9, HD9, HO, HE, hsz6⟩ := hRn
        have hHeld := hHn
        clear hHn
        try simp only [Act.put, List.setIfInBounds_toArray, List.set_cons_zero, List.set_cons_succ]
        have lt_HE := blk_lt HE.out
        refine wpAnyH_ready (rs := [3]) (by kernel_rfl) (by simp) ?_
        refine (AllReadyH.cons (o := ⟨_, _, _, _, _, _⟩) rfl (fun K hK => ?_) AllReadyH.nil)
        have hws := (And.left hHeld).size
        refine step_append_row _ (by rfl) _ _ 23 (by rfl) (wd0.heap.size) 40 i0 (.agg #[.int .i64 0, .int .i64 0, .int .i64 0, .int .i64 0, .int .i64 0, .int .i64 0, .int .u32 0]) 7 56 Try.underlying23 hi hz0 hz1 hz2 (by rfl) (by decide) _ _ _ (by rfl) HO.out _ C.chans.length _ (C.chans.flatMap chanC) (by rfl) (HCH.out.below HB9.out) (chans_one _) (by unfold maxLen; omega) (by omega) (by have := hws; omega) ?_
        intro v1 w9 hown hgrow
        refine out_gen hK _ _ (fun wz : World => Kp (Below w.heap.size w wz) ∧ Kp (wz.heap[w.heap.size]? = some (.cells #[.slice pa C.parts.length pc, .slice ca C.chans.length cc, .int .i64 C.l0, .slice a0 C.w0.length c0, .int .i64 C.l1, .slice a1 C.w1.length c1] 29 (0, 0))) ∧ Kp (wz.heap[bd]? = some (.cells #[.slice pa C.parts.length pc, .slice ca C.chans.length cc, .int .i64 C.l0, .slice a0 C.w0.length c0, .int .i64 C.l1, .slice a1 C.w1.length c1] 29 (0, 0))) ∧ Kp (wz.ownsRow (wd0.heap.size) 40 7 (v1) (C.chans.length) (C.chans.flatMap chanC)) ∧ Kp (wz.heap[wd1.heap.size]? = some (.cells #[.int .i64 x.kind, .int .i64 x.frm, .int .i64 x.to, .int .i64 x.words, .int .i64 x.depth, .int .i64 x.period, .int .u32 x.boot] 40 (0, 0))) ∧ wd6.heap.size ≤ wz.heap.size) ⟨⟨below_own2 HB9.out (by have := HB9.out.size; omega) (by omega) HO.out hgrow⟩, ⟨blk_grownR HK9.out HO.out hgrow (by first | (intro hq; have := (HO.out.lt _ hq).1; omega) | (intro hq; simp [Value.ownBlock] at hq; omega))⟩, ⟨blk_grownR HD9.out HO.out hgrow (by first | (intro hq; have := (HO.out.lt _ hq).1; omega) | (intro hq; simp [Value.ownBlock] at hq; omega))⟩, ⟨by have h := hown; simp only [Nat.zero_add, List.nil_append] at h; exact h⟩, ⟨blk_grownR HE.out HO.out hgrow (by first | (intro hq; have := (HO.out.lt _ hq).1; omega) | (intro hq; simp [Value.ownBlock] at hq; omega))⟩, hgrow.size⟩ (sx_of1 (ButB.grown (And.left hHeld) HO.out hgrow (by omega))) (fun wd7 hRn hHn => ?_)
        clear hK K hHeld HB9 HK9 HD9 HO HE hown hgrow hws
        obtain ⟨HB9, HK9, HD9, HO, HE, hsz7⟩ := hRn
        have hHeld := hHn
        clear hHn
        try simp only [Act.put, List.setIfInBounds_toArray, List.set_cons_zero, List.set_cons_succ]
        refine wpAnyH_ready (rs := [6]) (by kernel_rfl) (by simp) ?_
        refine (AllReadyH.cons (o := ⟨_, _, _, _, _, _⟩) rfl (fun K hK => ?_) AllReadyH.nil)
        have hws := (And.left hHeld).size
        refine step_append_lies _ (by rfl) _ _ 23 (by rfl) (wd0.heap.size) 40 i0 (.agg #[.int .i64 0, .int .i64 0, .int .i64 0, .int .i64 0, .int .i64 0, .int .i64 0, .int .u32 0]) 7 56 Try.underlying23 hi hz0 hz1 hz2 (by rfl) (by decide) _ _ _ (by rfl) HO.out _ 1 _ (chanC x) (by rfl) rfl (World.news_of_block HE.out) (chan_one _) (by omega) (by unfold maxLen; omega) (by omega) (by have := hws; omega) _ rfl ?_
        intro g2 k2 w9 hown hgrow hat hlt
        refine out_gen hK _ _ (fun wz : World => Kp (Below w.heap.size w wz) ∧ Kp (wz.heap[w.heap.size]? = some (.cells #[.slice pa C.parts.length pc, .slice ca C.chans.length cc, .int .i64 C.l0, .slice a0 C.w0.length c0, .int .i64 C.l1, .slice a1 C.w1.length c1] 29 (0, 0))) ∧ Kp (wz.heap[bd]? = some (.cells #[.slice pa C.parts.length pc, .slice ca C.chans.length cc, .int .i64 C.l0, .slice a0 C.w0.length c0, .int .i64 C.l1, .slice a1 C.w1.length c1] 29 (0, 0))) ∧ Kp (wz.ownsRow (wd0.heap.size) 40 7 (.slice (some ⟨g2, 0, none⟩) (C.chans.length + 1) k2) (C.chans.length + 1) (C.chans.flatMap chanC ++ (chanC x))) ∧ wd7.heap.size ≤ wz.heap.size) ⟨⟨below_own2 HB9.out (by have := HB9.out.size; omega) (by omega) HO.out hgrow⟩, ⟨blk_grownR HK9.out HO.out hgrow (by first | (intro hq; have := (HO.out.lt _ hq).1; omega) | (intro hq; simp [Value.ownBlock] at hq; omega))⟩, ⟨blk_grownR HD9.out HO.out hgrow (by first | (intro hq; have := (HO.out.lt _ hq).1; omega) | (intro hq; simp [Value.ownBlock] at hq; omega))⟩, ⟨hown⟩, hgrow.size⟩ (sx_of1 (ButB.grown (And.left hHeld) HO.out hgrow (by omega))) (fun wd8 hRn hHn => ?_)
        clear hK K hHeld HB9 HK9 HD9 HO HE hown hgrow hat hlt hws
        obtain ⟨HB9, HK9, HD9, HO, hsz8⟩ := hRn
        have hHeld := hHn
        clear hHn
        try simp only [Act.put, List.setIfInBounds_toArray, List.set_cons_zero, List.set_cons_succ]
        try simp only [Nat.zero_add]
        refine wpAnyH_take (i := 7) (oi := ⟨_, _, _, _, _, _⟩) (v := ?_) rfl (by kernel_rfl) (by kernel_rfl) (by kernel_rfl) (fun _ _ _ h => h) (Or.inl ⟨by rfl, ?_⟩) (by assumption) ?_
        rotate_left 1
        · (intro w hSw; go_simp; try with_reducible rfl)
        try simp only [Act.put, List.setIfInBounds_toArray, List.set_cons_zero, List.set_cons_succ]
        refine wpAnyH_ready (rs := [8]) (by kernel_rfl) (by simp) ?_
        refine (AllReadyH.cons (o := ⟨_, _, _, _, _, _⟩) rfl (fun K hK => ?_) AllReadyH.nil)
        have sd : wd8.cell? ⟨bd, 1, none⟩ = some (.slice ca C.chans.length cc) := (cell_blk HD9.out 1).trans rfl
        have sf : wd8.frozen? ⟨bd, 1, none⟩ = false := frozen_blk HD9.out 1
        have sl := blk_lt HD9.out
        go_simp
        try go_wp2_with fail
        refine out_gen hK _ _ (fun wz : World => Kp (Below w.heap.size w wz) ∧ Kp (wz.heap[w.heap.size]? = some (.cells #[.slice pa C.parts.length pc, .slice ca C.chans.length cc, .int .i64 C.l0, .slice a0 C.w0.length c0, .int .i64 C.l1, .slice a1 C.w1.length c1] 29 (0, 0))) ∧ Kp (wz.heap[bd]? = some (.cells #[.slice pa C.parts.length pc, .slice (some ⟨g2, 0, none⟩) (C.chans.length + 1) k2, .int .i64 C.l0, .slice a0 C.w0.length c0, .int .i64 C.l1, .slice a1 C.w1.length c1] 29 (0, 0))) ∧ Kp (wz.ownsRow (wd0.heap.size) 40 7 (.slice (some ⟨g2, 0, none⟩) (C.chans.length + 1) k2) (C.chans.length + 1) (C.chans.flatMap chanC ++ (chanC x))) ∧ wd8.heap.size ≤ wz.heap.size) ⟨⟨HB9.out.setCell (p := ⟨bd, 1, none⟩) (by show w.heap.size ≤ bd; omega) _⟩, ⟨blk_set_ne (p := ⟨bd, 1, none⟩) HK9.out (by show w.heap.size ≠ bd; omega) _⟩, ⟨(blk_set HD9.out 1 _).trans rfl⟩, ⟨own_set_ne HO.out (p := ⟨bd, 1, none⟩) (by show bd < wd0.heap.size; omega) _⟩, (by simp [World.setCell])⟩ (sx_of1 (ButB.set (And.left hHeld) (p := ⟨bd, 1, none⟩) (by first | (left; simp; done) | (right; show wd.heap.size ≤ bd; omega)) _)) (fun wd9 hRn hHn => ?_)
        clear hK K hHeld HB9 HK9 HD9 HO sd sf sl
        obtain ⟨HB9, HK9, HD9, HO, hsz9⟩ := hRn
        have hHeld := hHn
        clear hHn
        try simp only [Act.put, List.setIfInBounds_toArray, List.set_cons_zero, List.set_cons_succ]
        refine wpAnyH_done (by kernel_rfl) ?_ _
        have hrow := RowAt.of_own HO.out
        have hlen := RowAt.lens hrow
        go_wp2_with fail
        go_meet
        exact ⟨some ⟨g2, 0, none⟩, k2, HB9, HK9, HD9, ⟨cfgAt_with (HC.out.below HB9.out) (C.chans ++ [x]) (fun y hy => by
          rcases List.mem_append.1 hy with hy | hy
          · exact HC.out.1.2.1 y hy
          · rw [List.mem_singleton.1 hy]; exact HXO.out) (by simp) hlen.1 hlen.2 (by rw [List.flatMap_append]; simp only [List.flatMap_cons, List.flatMap_nil, List.append_nil]; exact hrow)⟩⟩
    · have ge_HE : wd.heap.size ≤ wd0.heap.size := (And.left hHeld).size
      go_simp
      try go_wp2_with fail
      refine out_gen hK _ _ (fun wz : World => Kp (Below w.heap.size w wz) ∧ Kp (wz.heap[w.heap.size]? = some (.cells #[.slice pa C.parts.length pc, .slice ca C.chans.length cc, .int .i64 C.l0, .slice a0 C.w0.length c0, .int .i64 C.l1, .slice a1 C.w1.length c1] 29 (0, 0))) ∧ Kp (wz.heap[bd]? = some (.cells #[.slice pa C.parts.length pc, .slice ca C.chans.length cc, .int .i64 C.l0, .slice a0 C.w0.length c0, .int .i64 C.l1, .slice a1 C.w1.length c1] 29 (0, 0))) ∧ Kp (wz.heap[wd0.heap.size]? = some (.cells #[.int .i64 x.kind, .int .i64 x.frm, .int .i64 x.to, .int .i64 x.words, .int .i64 x.depth, .int .i64 x.period, .int .u32 x.boot] 40 (0, 0))) ∧ wd0.heap.size < wz.heap.size) ⟨⟨below_al HB9.out _⟩, ⟨blk_al HK9.out _⟩, ⟨blk_al HD9.out _⟩, ⟨blk_new wd0 _⟩, (by simp)⟩ (sx_of1 (ButB.al (And.left hHeld) _)) (fun wd10 hRn hHn => ?_)
      clear hK K hHeld HB9 HK9 HD9
      obtain ⟨HB9, HK9, HD9, HE, hsz10⟩ := hRn
      have hHeld := hHn
      clear hHn
      try simp only [Act.put, List.setIfInBounds_toArray, List.set_cons_zero, List.set_cons_succ]
      have lt_HE := blk_lt HE.out
      refine wpAnyH_ready (rs := [0]) (by kernel_rfl) (by simp) ?_
      refine (AllReadyH.cons (o := ⟨_, _, _, _, _, _⟩) rfl (fun K hK => ?_) AllReadyH.nil)
      have gr := (And.left hHeld).size
      go_simp
      try go_wp2_with fail
      refine out_gen hK _ _ (fun wz : World => Kp (Below w.heap.size w wz) ∧ Kp (wz.heap[w.heap.size]? = some (.cells #[.slice pa C.parts.length pc, .slice ca C.chans.length cc, .int .i64 C.l0, .slice a0 C.w0.length c0, .int .i64 C.l1, .slice a1 C.w1.length c1] 29 (0, 0))) ∧ Kp (wz.heap[bd]? = some (.cells #[.slice pa C.parts.length pc, .slice ca C.chans.length cc, .int .i64 C.l0, .slice a0 C.w0.length c0, .int .i64 C.l1, .slice a1 C.w1.length c1] 29 (0, 0))) ∧ Kp (wz.heap[wd0.heap.size]? = some (.cells #[.int .i64 x.kind, .int .i64 x.frm, .int .i64 x.to, .int .i64 x.words, .int .i64 x.depth, .int .i64 x.period, .int .u32 x.boot] 40 (0, 0))) ∧ Kp (wz.ownsRow (wd10.heap.size) 40 7 (.slice (some ⟨wd10.heap.size, 0, none⟩) 0 0) (0) ([])) ∧ wd10.heap.size < wz.heap.size) ⟨⟨below_al HB9.out _⟩, ⟨blk_al HK9.out _⟩, ⟨blk_al HD9.out _⟩, ⟨blk_al HE.out _⟩, ⟨own_new0 wd10 _ _⟩, (by simp)⟩ (sx_of1 (ButB.al (And.left hHeld) _)) (fun wd11 hRn hHn => ?_)
      clear hK K hHeld HB9 HK9 HD9 HE
      obtain ⟨HB9, HK9, HD9, HE, HO, hsz11⟩ := hRn
      have hHeld := hHn
      clear hHn
      try simp only [Act.put, List.setIfInBounds_toArray, List.set_cons_zero, List.set_cons_succ]
      refine wpAnyH_ready (rs := [3]) (by kernel_rfl) (by simp) ?_
      refine (AllReadyH.cons (o := ⟨_, _, _, _, _, _⟩) rfl (fun K hK => ?_) AllReadyH.nil)
      have hws := (And.left hHeld).size
      refine step_append_row _ (by rfl) _ _ 23 (by rfl) (wd10.heap.size) 40 i0 (.agg #[.int .i64 0, .int .i64 0, .int .i64 0, .int .i64 0, .int .i64 0, .int .i64 0, .int .u32 0]) 7 56 Try.underlying23 hi hz0 hz1 hz2 (by rfl) (by decide) _ _ _ (by rfl) HO.out _ C.chans.length _ (C.chans.flatMap chanC) (by rfl) (HCH.out.below HB9.out) (chans_one _) (by unfold maxLen; omega) (by omega) (by have := hws; omega) ?_
      intro v1 w9 hown hgrow
      refine out_gen hK _ _ (fun wz : World => Kp (Below w.heap.size w wz) ∧ Kp (wz.heap[w.heap.size]? = some (.cells #[.slice pa C.parts.length pc, .slice ca C.chans.length cc, .int .i64 C.l0, .slice a0 C.w0.length c0, .int .i64 C.l1, .slice a1 C.w1.length c1] 29 (0, 0))) ∧ Kp (wz.heap[bd]? = some (.cells #[.slice pa C.parts.length pc, .slice ca C.chans.length cc, .int .i64 C.l0, .slice a0 C.w0.length c0, .int .i64 C.l1, .slice a1 C.w1.length c1] 29 (0, 0))) ∧ Kp (wz.heap[wd0.heap.size]? = some (.cells #[.int .i64 x.kind, .int .i64 x.frm, .int .i64 x.to, .int .i64 x.words, .int .i64 x.depth, .int .i64 x.period, .int .u32 x.boot] 40 (0, 0))) ∧ Kp (wz.ownsRow (wd10.heap.size) 40 7 (v1) (C.chans.length) (C.chans.flatMap chanC)) ∧ wd11.heap.size ≤ wz.heap.size) ⟨⟨below_own2 HB9.out (by have := HB9.out.size; omega) (by omega) HO.out hgrow⟩, ⟨blk_grownR HK9.out HO.out hgrow (by first | (intro hq; have := (HO.out.lt _ hq).1; omega) | (intro hq; simp [Value.ownBlock] at hq; omega))⟩, ⟨blk_grownR HD9.out HO.out hgrow (by first | (intro hq; have := (HO.out.lt _ hq).1; omega) | (intro hq; simp [Value.ownBlock] at hq; omega))⟩, ⟨blk_grownR HE.out HO.out hgrow (by first | (intro hq; have := (HO.out.lt _ hq).1; omega) | (intro hq; simp [Value.ownBlock] at hq; omega))⟩, ⟨by have h := hown; simp only [Nat.zero_add, List.nil_append] at h; exact h⟩, hgrow.size⟩ (sx_of1 (ButB.grown (And.left hHeld) HO.out hgrow (by omega))) (fun wd12 hRn hHn => ?_)
      clear hK K hHeld HB9 HK9 HD9 HE HO hown hgrow hws
      obtain ⟨HB9, HK9, HD9, HE, HO, hsz12⟩ := hRn
      have hHeld := hHn
      clear hHn
      try simp only [Act.put, List.setIfInBounds_toArray, List.set_cons_zero, List.set_cons_succ]
      refine wpAnyH_ready (rs := [6]) (by kernel_rfl) (by simp) ?_
      refine (AllReadyH.cons (o := ⟨_, _, _, _, _, _⟩) rfl (fun K hK => ?_) AllReadyH.nil)
      have hws := (And.left hHeld).size
      refine step_append_lies _ (by rfl) _ _ 23 (by rfl) (wd10.heap.size) 40 i0 (.agg #[.int .i64 0, .int .i64 0, .int .i64 0, .int .i64 0, .int .i64 0, .int .i64 0, .int .u32 0]) 7 56 Try.underlying23 hi hz0 hz1 hz2 (by rfl) (by decide) _ _ _ (by rfl) HO.out _ 1 _ (chanC x) (by rfl) rfl (World.news_of_block HE.out) (chan_one _) (by omega) (by unfold maxLen; omega) (by omega) (by have := hws; omega) _ rfl ?_
      intro g2 k2 w9 hown hgrow hat hlt
      refine out_gen hK _ _ (fun wz : World => Kp (Below w.heap.size w wz) ∧ Kp (wz.heap[w.heap.size]? = some (.cells #[.slice pa C.parts.length pc, .slice ca C.chans.length cc, .int .i64 C.l0, .slice a0 C.w0.length c0, .int .i64 C.l1, .slice a1 C.w1.length c1] 29 (0, 0))) ∧ Kp (wz.heap[bd]? = some (.cells #[.slice pa C.parts.length pc, .slice ca C.chans.length cc, .int .i64 C.l0, .slice a0 C.w0.length c0, .int .i64 C.l1, .slice a1 C.w1.length c1] 29 (0, 0))) ∧ Kp (wz.ownsRow (wd10.heap.size) 40 7 (.slice (some ⟨g2, 0, none⟩) (C.chans.length + 1) k2) (C.chans.length + 1) (C.chans.flatMap chanC ++ (chanC x))) ∧ wd12.heap.size ≤ wz.heap.size) ⟨⟨below_own2 HB9.out (by have := HB9.out.size; omega) (by omega) HO.out hgrow⟩, ⟨blk_grownR HK9.out HO.out hgrow (by first | (intro hq; have := (HO.out.lt _ hq).1; omega) | (intro hq; simp [Value.ownBlock] at hq; omega))⟩, ⟨blk_grownR HD9.out HO.out hgrow (by first | (intro hq; have := (HO.out.lt _ hq).1; omega) | (intro hq; simp [Value.ownBlock] at hq; omega))⟩, ⟨hown⟩, hgrow.size⟩ (sx_of1 (ButB.grown (And.left hHeld) HO.out hgrow (by omega))) (fun wd13 hRn hHn => ?_)
      clear hK K hHeld HB9 HK9 HD9 HE HO hown hgrow hat hlt hws
      obtain ⟨HB9, HK9, HD9, HO, hsz13⟩ := hRn
      have hHeld := hHn
      clear hHn
      try simp only [Act.put, List.setIfInBounds_toArray, List.set_cons_zero, List.set_cons_succ]
      try simp only [Nat.zero_add]
      refine wpAnyH_take (i := 7) (oi := ⟨_, _, _, _, _, _⟩) (v := ?_) rfl (by kernel_rfl) (by kernel_rfl) (by kernel_rfl) (fun _ _ _ h => h) (Or.inl ⟨by rfl, ?_⟩) (by assumption) ?_
      rotate_left 1
      · (intro w hSw; go_simp; try with_reducible rfl)
      try simp only [Act.put, List.setIfInBounds_toArray, List.set_cons_zero, List.set_cons_succ]
      refine wpAnyH_ready (rs := [8]) (by kernel_rfl) (by simp) ?_
      refine (AllReadyH.cons (o := ⟨_, _, _, _, _, _⟩) rfl (fun K hK => ?_) AllReadyH.nil)
      have sd : wd13.cell? ⟨bd, 1, none⟩ = some (.slice ca C.chans.length cc) := (cell_blk HD9.out 1).trans rfl
      have sf : wd13.frozen? ⟨bd, 1, none⟩ = false := frozen_blk HD9.out 1
      have sl := blk_lt HD9.out
      go_simp
      try go_wp2_with fail
      refine out_gen hK _ _ (fun wz : World => Kp (Below w.heap.size w wz) ∧ Kp (wz.heap[w.heap.size]? = some (.cells #[.slice pa C.parts.length pc, .slice ca C.chans.length cc, .int .i64 C.l0, .slice a0 C.w0.length c0, .int .i64 C.l1, .slice a1 C.w1.length c1] 29 (0, 0))) ∧ Kp (wz.heap[bd]? = some (.cells #[.slice pa C.parts.length pc, .slice (some ⟨g2, 0, none⟩) (C.chans.length + 1) k2, .int .i64 C.l0, .slice a0 C.w0.length c0, .int .i64 C.l1, .slice a1 C.w1.length c1] 29 (0, 0))) ∧ Kp (wz.ownsRow (wd10.heap.size) 40 7 (.slice (some ⟨g2, 0, none⟩) (C.chans.length + 1) k2) (C.chans.length + 1) (C.chans.flatMap chanC ++ (chanC x))) ∧ wd13.heap.size ≤ wz.heap.size) ⟨⟨HB9.out.setCell (p := ⟨bd, 1, none⟩) (by show w.heap.size ≤ bd; omega) _⟩, ⟨blk_set_ne (p := ⟨bd, 1, none⟩) HK9.out (by show w.heap.size ≠ bd; omega) _⟩, ⟨(blk_set HD9.out 1 _).trans rfl⟩, ⟨own_set_ne HO.out (p := ⟨bd, 1, none⟩) (by show bd < wd10.heap.size; omega) _⟩, (by simp [World.setCell])⟩ (sx_of1 (ButB.set (And.left hHeld) (p := ⟨bd, 1, none⟩) (by first | (left; simp; done) | (right; show wd.heap.size ≤ bd; omega)) _)) (fun wd14 hRn hHn => ?_)
      clear hK K hHeld HB9 HK9 HD9 HO sd sf sl
      obtain ⟨HB9, HK9, HD9, HO, hsz14⟩ := hRn
      have hHeld := hHn
      clear hHn
      try simp only [Act.put, List.setIfInBounds_toArray, List.set_cons_zero, List.set_cons_succ]
      refine wpAnyH_done (by kernel_rfl) ?_ _
      have hrow := RowAt.of_own HO.out
      have hlen := RowAt.lens hrow
      go_wp2_with fail
      go_meet
      exact ⟨some ⟨g2, 0, none⟩, k2, HB9, HK9, HD9, ⟨cfgAt_with (HC.out.below HB9.out) (C.chans ++ [x]) (fun y hy => by
        rcases List.mem_append.1 hy with hy | hy
        · exact HC.out.1.2.1 y hy
        · rw [List.mem_singleton.1 hy]; exact HXO.out) (by simp) hlen.1 hlen.2 (by rw [List.flatMap_append]; simp only [List.flatMap_cons, List.flatMap_nil, List.append_nil]; exact hrow)⟩⟩
  case rest =>
    clear q0 q1 lq lx x0 x1 x2 x3 x4 x5 x6
    obtain ⟨va, vc, HB, HK, HD, HCD⟩ := hcut
    have hsz := HB.out.size
    have hbd3 := blk_lt HD.out
    have q0 : wc.cell? ⟨w.heap.size, 0, none⟩ = some (.slice pa C.parts.length pc) := (cell_blk HK.out 0).trans rfl
    have q1 : wc.cell? ⟨w.heap.size, 1, none⟩ = some (.slice ca C.chans.length cc) := (cell_blk HK.out 1).trans rfl
    have q2 : wc.cell? ⟨w.heap.size, 2, none⟩ = some (.int .i64 C.l0) := (cell_blk HK.out 2).trans rfl
    have q3 : wc.cell? ⟨w.heap.size, 3, none⟩ = some (.slice a0 C.w0.length c0) := (cell_blk HK.out 3).trans rfl
    have q4 : wc.cell? ⟨w.heap.size, 4, none⟩ = some (.int .i64 C.l1) := (cell_blk HK.out 4).trans rfl
    have q5 : wc.cell? ⟨w.heap.size, 5, none⟩ = some (.slice a1 C.w1.length c1) := (cell_blk HK.out 5).trans rfl
    have lq := blk_lt HK.out
    have d0 : wc.cell? ⟨bd, 0, none⟩ = some (.slice pa C.parts.length pc) := (cell_blk HD.out 0).trans rfl
    have d1 : wc.cell? ⟨bd, 1, none⟩ = some (.slice va (C.chans.length + 1) vc) := (cell_blk HD.out 1).trans rfl
    have d2 : wc.cell? ⟨bd, 2, none⟩ = some (.int .i64 C.l0) := (cell_blk HD.out 2).trans rfl
    have d3 : wc.cell? ⟨bd, 3, none⟩ = some (.slice a0 C.w0.length c0) := (cell_blk HD.out 3).trans rfl
    have d4 : wc.cell? ⟨bd, 4, none⟩ = some (.int .i64 C.l1) := (cell_blk HD.out 4).trans rfl
    have d5 : wc.cell? ⟨bd, 5, none⟩ = some (.slice a1 C.w1.length c1) := (cell_blk HD.out 5).trans rfl
    go_wp2_with fail
    refine (refAccepts_any _ C hsm _ (HC.out.below HB.out)).mono ?_
    rw [ha]
    rintro e w1k ⟨rfl, hb⟩
    have HB1k : Kp (Below w.heap.size w w1k) := ⟨below_call HB.out hb⟩
    have q1k : Kp (w1k.heap[w.heap.size]? = some (.cells #[.slice pa C.parts.length pc, .slice ca C.chans.length cc, .int .i64 C.l0, .slice a0 C.w0.length c0, .int .i64 C.l1, .slice a1 C.w1.length c1] 29 (0, 0))) := ⟨blk_below HK.out hb⟩
    have d1k : Kp (w1k.heap[bd]? = some (.cells #[.slice pa C.parts.length pc, .slice va (C.chans.length + 1) vc, .int .i64 C.l0, .slice a0 C.w0.length c0, .int .i64 C.l1, .slice a1 C.w1.length c1] 29 (0, 0))) := ⟨blk_below HD.out hb⟩
    have CD1k : Kp (CfgAt w1k (.agg #[.slice pa C.parts.length pc, .slice va (C.chans.length + 1) vc, .int .i64 C.l0, .slice a0 C.w0.length c0, .int .i64 C.l1, .slice a1 C.w1.length c1]) (withCh C (C.chans ++ [x]))) := ⟨HCD.out.below hb⟩
    clear q0 q1 q2 q3 q4 q5 lq d0 d1 d2 d3 d4 d5 HB HK HD HCD hb
    have qc0k : w1k.cell? ⟨w.heap.size, 0, none⟩ = some (.slice pa C.parts.length pc) := (cell_blk q1k.out 0).trans rfl
    have qc1k : w1k.cell? ⟨w.heap.size, 1, none⟩ = some (.slice ca C.chans.length cc) := (cell_blk q1k.out 1).trans rfl
    have qc2k : w1k.cell? ⟨w.heap.size, 2, none⟩ = some (.int .i64 C.l0) := (cell_blk q1k.out 2).trans rfl
    have qc3k : w1k.cell? ⟨w.heap.size, 3, none⟩ = some (.slice a0 C.w0.length c0) := (cell_blk q1k.out 3).trans rfl
    have qc4k : w1k.cell? ⟨w.heap.size, 4, none⟩ = some (.int .i64 C.l1) := (cell_blk q1k.out 4).trans rfl
    have qc5k : w1k.cell? ⟨w.heap.size, 5, none⟩ = some (.slice a1 C.w1.length c1) := (cell_blk q1k.out 5).trans rfl
    have qlk := blk_lt q1k.out
    have dc0k : w1k.cell? ⟨bd, 0, none⟩ = some (.slice pa C.parts.length pc) := (cell_blk d1k.out 0).trans rfl
    have dc1k : w1k.cell? ⟨bd, 1, none⟩ = some (.slice va (C.chans.length + 1) vc) := (cell_blk d1k.out 1).trans rfl
    have dc2k : w1k.cell? ⟨bd, 2, none⟩ = some (.int .i64 C.l0) := (cell_blk d1k.out 2).trans rfl
    have dc3k : w1k.cell? ⟨bd, 3, none⟩ = some (.slice a0 C.w0.length c0) := (cell_blk d1k.out 3).trans rfl
    have dc4k : w1k.cell? ⟨bd, 4, none⟩ = some (.int .i64 C.l1) := (cell_blk d1k.out 4).trans rfl
    have dc5k : w1k.cell? ⟨bd, 5, none⟩ = some (.slice a1 C.w1.length c1) := (cell_blk d1k.out 5).trans rfl
    have dlk := blk_lt d1k.out
    go_wp2_with fail
    refine (refAccepts_any _ (withCh C (C.chans ++ [x])) hsmD _ CD1k.out).mono ?_
    rw [hno]
    rintro e w2k ⟨rfl, hb⟩
    have HB2k : Kp (Below w.heap.size w w2k) := ⟨below_call HB1k.out hb⟩
    have q2k : Kp (w2k.heap[w.heap.size]? = some (.cells #[.slice pa C.parts.length pc, .slice ca C.chans.length cc, .int .i64 C.l0, .slice a0 C.w0.length c0, .int .i64 C.l1, .slice a1 C.w1.length c1] 29 (0, 0))) := ⟨blk_below q1k.out hb⟩
    have d2k : Kp (w2k.heap[bd]? = some (.cells #[.slice pa C.parts.length pc, .slice va (C.chans.length + 1) vc, .int .i64 C.l0, .slice a0 C.w0.length c0, .int .i64 C.l1, .slice a1 C.w1.length c1] 29 (0, 0))) := ⟨blk_below d1k.out hb⟩
    have CD2k : Kp (CfgAt w2k (.agg #[.slice pa C.parts.length pc, .slice va (C.chans.length + 1) vc, .int .i64 C.l0, .slice a0 C.w0.length c0, .int .i64 C.l1, .slice a1 C.w1.length c1]) (withCh C (C.chans ++ [x]))) := ⟨CD1k.out.below hb⟩
    clear qc0k qc1k qc2k qc3k qc4k qc5k qlk dc0k dc1k dc2k dc3k dc4k dc5k dlk HB1k q1k d1k CD1k hb
    have qc0k : w2k.cell? ⟨w.heap.size, 0, none⟩ = some (.slice pa C.parts.length pc) := (cell_blk q2k.out 0).trans rfl
    have qc1k : w2k.cell? ⟨w.heap.size, 1, none⟩ = some (.slice ca C.chans.length cc) := (cell_blk q2k.out 1).trans rfl
    have qc2k : w2k.cell? ⟨w.heap.size, 2, none⟩ = some (.int .i64 C.l0) := (cell_blk q2k.out 2).trans rfl
    have qc3k : w2k.cell? ⟨w.heap.size, 3, none⟩ = some (.slice a0 C.w0.length c0) := (cell_blk q2k.out 3).trans rfl
    have qc4k : w2k.cell? ⟨w.heap.size, 4, none⟩ = some (.int .i64 C.l1) := (cell_blk q2k.out 4).trans rfl
    have qc5k : w2k.cell? ⟨w.heap.size, 5, none⟩ = some (.slice a1 C.w1.length c1) := (cell_blk q2k.out 5).trans rfl
    have qlk := blk_lt q2k.out
    have dc0k : w2k.cell? ⟨bd, 0, none⟩ = some (.slice pa C.parts.length pc) := (cell_blk d2k.out 0).trans rfl
    have dc1k : w2k.cell? ⟨bd, 1, none⟩ = some (.slice va (C.chans.length + 1) vc) := (cell_blk d2k.out 1).trans rfl
    have dc2k : w2k.cell? ⟨bd, 2, none⟩ = some (.int .i64 C.l0) := (cell_blk d2k.out 2).trans rfl
    have dc3k : w2k.cell? ⟨bd, 3, none⟩ = some (.slice a0 C.w0.length c0) := (cell_blk d2k.out 3).trans rfl
    have dc4k : w2k.cell? ⟨bd, 4, none⟩ = some (.int .i64 C.l1) := (cell_blk d2k.out 4).trans rfl
    have dc5k : w2k.cell? ⟨bd, 5, none⟩ = some (.slice a1 C.w1.length c1) := (cell_blk d2k.out 5).trans rfl
    have dlk := blk_lt d2k.out
    go_wp2
    go_ret
    exact ⟨rfl, HB2k.out⟩

set_option maxRecDepth 100000 in
set_option maxHeartbeats 8000000 in
theorem layoutGrows_core (cv : Value) (C : Cfg) (x : Chn) (hxo : x.ok) (hg : C.great = false) (ha : accB C = true) (had : accB (withCh C (C.chans ++ [x])) = true) (w : World) (h : CfgAt w cv C) : Calls Try.prog 9 #[cv, .agg #[.int .i64 x.kind, .int .i64 x.frm, .int .i64 x.to, .int .i64 x.words, .int .i64 x.depth, .int .i64 x.period, .int .u32 x.boot]] w fun e w' => e = .returned (.bool true) ∧ Below w.heap.size w w' := by
  have HC := Kp.mk h
  have hsm := small_of_great hg
  have hsc := small_chans hg
  have HXO := Kp.mk hxo
  have hsmD : (withCh C (C.chans ++ [x])).small := ⟨hsm.1, by show (C.chans ++ [x]).length ≤ 200; rw [List.length_append, List.length_singleton]; omega, hsm.2.2⟩
  obtain ⟨i0, hi, hz0, hz1, hz2⟩ := info_parts Try.infoChan
  obtain ⟨ho, pa, pc, ca, cc, a0, c0, a1, c1, rfl, bp, bc, b0, b1, hp, hc, hw0, hw1⟩ := h
  have HCH := Kp.mk hc
  clear ho hp hc hw0 hw1
  go_enter Try.func9, Try.ntmps9
  have HB0 : Kp (Below w.heap.size w w) := ⟨Below.refl _ _⟩
  go_wp2_with fail
  refine (wakes8_any _).mono ?_
  rintro e w1 ⟨rfl, hb⟩
  have q1 : Kp (w1.heap[w.heap.size]? = some (.cells #[.slice pa C.parts.length pc, .slice ca C.chans.length cc, .int .i64 C.l0, .slice a0 C.w0.length c0, .int .i64 C.l1, .slice a1 C.w1.length c1] 29 (0, 0))) := ⟨blk_below (blk_al (blk_new _ _) _) hb⟩
  have x1 : Kp (w1.heap[w.heap.size + 1]? = some (.cells #[.int .i64 x.kind, .int .i64 x.frm, .int .i64 x.to, .int .i64 x.words, .int .i64 x.depth, .int .i64 x.period, .int .u32 x.boot] 40 (0, 0))) := ⟨blk_below (blk_at (w := (w.alloc (.cells #[.slice pa C.parts.length pc, .slice ca C.chans.length cc, .int .i64 C.l0, .slice a0 C.w0.length c0, .int .i64 C.l1, .slice a1 C.w1.length c1] 29))) (by simp) _) hb⟩
  have HB1 : Kp (Below w.heap.size w w1) := ⟨below_call (below_al (below_al HB0.out _) _) hb⟩
  clear HB0 hb
  have qc0 : w1.cell? ⟨w.heap.size, 0, none⟩ = some (.slice pa C.parts.length pc) := (cell_blk q1.out 0).trans rfl
  have qc1 : w1.cell? ⟨w.heap.size, 1, none⟩ = some (.slice ca C.chans.length cc) := (cell_blk q1.out 1).trans rfl
  have qc2 : w1.cell? ⟨w.heap.size, 2, none⟩ = some (.int .i64 C.l0) := (cell_blk q1.out 2).trans rfl
  have qc3 : w1.cell? ⟨w.heap.size, 3, none⟩ = some (.slice a0 C.w0.length c0) := (cell_blk q1.out 3).trans rfl
  have qc4 : w1.cell? ⟨w.heap.size, 4, none⟩ = some (.int .i64 C.l1) := (cell_blk q1.out 4).trans rfl
  have qc5 : w1.cell? ⟨w.heap.size, 5, none⟩ = some (.slice a1 C.w1.length c1) := (cell_blk q1.out 5).trans rfl
  have ql := blk_lt q1.out
  have xc0 : w1.cell? ⟨w.heap.size + 1, 0, none⟩ = some (.int .i64 x.kind) := (cell_blk x1.out 0).trans rfl
  have xc1 : w1.cell? ⟨w.heap.size + 1, 1, none⟩ = some (.int .i64 x.frm) := (cell_blk x1.out 1).trans rfl
  have xc2 : w1.cell? ⟨w.heap.size + 1, 2, none⟩ = some (.int .i64 x.to) := (cell_blk x1.out 2).trans rfl
  have xc3 : w1.cell? ⟨w.heap.size + 1, 3, none⟩ = some (.int .i64 x.words) := (cell_blk x1.out 3).trans rfl
  have xc4 : w1.cell? ⟨w.heap.size + 1, 4, none⟩ = some (.int .i64 x.depth) := (cell_blk x1.out 4).trans rfl
  have xc5 : w1.cell? ⟨w.heap.size + 1, 5, none⟩ = some (.int .i64 x.period) := (cell_blk x1.out 5).trans rfl
  have xc6 : w1.cell? ⟨w.heap.size + 1, 6, none⟩ = some (.int .u32 x.boot) := (cell_blk x1.out 6).trans rfl
  have xl := blk_lt x1.out
  go_wp2_with fail
  refine (great_any _ C _ (HC.out.below HB1.out)).mono ?_
  rw [hg]
  rintro e w2 ⟨rfl, hb⟩
  have q2 : Kp (w2.heap[w.heap.size]? = some (.cells #[.slice pa C.parts.length pc, .slice ca C.chans.length cc, .int .i64 C.l0, .slice a0 C.w0.length c0, .int .i64 C.l1, .slice a1 C.w1.length c1] 29 (0, 0))) := ⟨blk_below q1.out hb⟩
  have x2 : Kp (w2.heap[w.heap.size + 1]? = some (.cells #[.int .i64 x.kind, .int .i64 x.frm, .int .i64 x.to, .int .i64 x.words, .int .i64 x.depth, .int .i64 x.period, .int .u32 x.boot] 40 (0, 0))) := ⟨blk_below x1.out hb⟩
  have HB2 : Kp (Below w.heap.size w w2) := ⟨below_call HB1.out hb⟩
  clear qc0 qc1 qc2 qc3 qc4 qc5 ql xc0 xc1 xc2 xc3 xc4 xc5 xc6 xl q1 x1 HB1 hb
  have qc0 : w2.cell? ⟨w.heap.size, 0, none⟩ = some (.slice pa C.parts.length pc) := (cell_blk q2.out 0).trans rfl
  have qc1 : w2.cell? ⟨w.heap.size, 1, none⟩ = some (.slice ca C.chans.length cc) := (cell_blk q2.out 1).trans rfl
  have qc2 : w2.cell? ⟨w.heap.size, 2, none⟩ = some (.int .i64 C.l0) := (cell_blk q2.out 2).trans rfl
  have qc3 : w2.cell? ⟨w.heap.size, 3, none⟩ = some (.slice a0 C.w0.length c0) := (cell_blk q2.out 3).trans rfl
  have qc4 : w2.cell? ⟨w.heap.size, 4, none⟩ = some (.int .i64 C.l1) := (cell_blk q2.out 4).trans rfl
  have qc5 : w2.cell? ⟨w.heap.size, 5, none⟩ = some (.slice a1 C.w1.length c1) := (cell_blk q2.out 5).trans rfl
  have ql := blk_lt q2.out
  have xc0 : w2.cell? ⟨w.heap.size + 1, 0, none⟩ = some (.int .i64 x.kind) := (cell_blk x2.out 0).trans rfl
  have xc1 : w2.cell? ⟨w.heap.size + 1, 1, none⟩ = some (.int .i64 x.frm) := (cell_blk x2.out 1).trans rfl
  have xc2 : w2.cell? ⟨w.heap.size + 1, 2, none⟩ = some (.int .i64 x.to) := (cell_blk x2.out 2).trans rfl
  have xc3 : w2.cell? ⟨w.heap.size + 1, 3, none⟩ = some (.int .i64 x.words) := (cell_blk x2.out 3).trans rfl
  have xc4 : w2.cell? ⟨w.heap.size + 1, 4, none⟩ = some (.int .i64 x.depth) := (cell_blk x2.out 4).trans rfl
  have xc5 : w2.cell? ⟨w.heap.size + 1, 5, none⟩ = some (.int .i64 x.period) := (cell_blk x2.out 5).trans rfl
  have xc6 : w2.cell? ⟨w.heap.size + 1, 6, none⟩ = some (.int .u32 x.boot) := (cell_blk x2.out 6).trans rfl
  have xl := blk_lt x2.out
  go_upto_region 6 with fail
  obtain ⟨bd, hbd⟩ : ∃ bd, w2.heap.size = bd := ⟨_, rfl⟩
  have HBD := Kp.mk hbd
  have hbd1 : w.heap.size < bd := by omega
  have hbd2 : w.heap.size + 1 < bd := by omega
  have hnb1 : w.heap.size ≠ bd := by omega
  have hnb2 : w.heap.size + 1 ≠ bd := by omega
  have HB9 : Kp (Below w.heap.size w (w2.alloc (.cells #[.slice pa C.parts.length pc, .slice ca C.chans.length cc, .int .i64 C.l0, .slice a0 C.w0.length c0, .int .i64 C.l1, .slice a1 C.w1.length c1] 29))) := ⟨below_al HB2.out _⟩
  have HK9 : Kp ((w2.alloc (.cells #[.slice pa C.parts.length pc, .slice ca C.chans.length cc, .int .i64 C.l0, .slice a0 C.w0.length c0, .int .i64 C.l1, .slice a1 C.w1.length c1] 29)).heap[w.heap.size]? = some (.cells #[.slice pa C.parts.length pc, .slice ca C.chans.length cc, .int .i64 C.l0, .slice a0 C.w0.length c0, .int .i64 C.l1, .slice a1 C.w1.length c1] 29 (0, 0))) := ⟨blk_al q2.out _⟩
  have HX9 : Kp ((w2.alloc (.cells #[.slice pa C.parts.length pc, .slice ca C.chans.length cc, .int .i64 C.l0, .slice a0 C.w0.length c0, .int .i64 C.l1, .slice a1 C.w1.length c1] 29)).heap[w.heap.size + 1]? = some (.cells #[.int .i64 x.kind, .int .i64 x.frm, .int .i64 x.to, .int .i64 x.words, .int .i64 x.depth, .int .i64 x.period, .int .u32 x.boot] 40 (0, 0))) := ⟨blk_al x2.out _⟩
  have HD9 : Kp ((w2.alloc (.cells #[.slice pa C.parts.length pc, .slice ca C.chans.length cc, .int .i64 C.l0, .slice a0 C.w0.length c0, .int .i64 C.l1, .slice a1 C.w1.length c1] 29)).heap[bd]? = some (.cells #[.slice pa C.parts.length pc, .slice ca C.chans.length cc, .int .i64 C.l0, .slice a0 C.w0.length c0, .int .i64 C.l1, .slice a1 C.w1.length c1] 29 (0, 0))) := ⟨blk_at hbd _⟩
  have hz9 : bd < (w2.alloc (.cells #[.slice pa C.parts.length pc, .slice ca C.chans.length cc, .int .i64 C.l0, .slice a0 C.w0.length c0, .int .i64 C.l1, .slice a1 C.w1.length c1] 29)).heap.size := blk_lt HD9.out
  clear qc0 qc1 qc2 qc3 qc4 qc5 ql xc0 xc1 xc2 xc3 xc4 xc5 xc6 xl HB2 q2 x2
  rw [hbd]
  clear hbd
  generalize (w2.alloc (.cells #[.slice pa C.parts.length pc, .slice ca C.chans.length cc, .int .i64 C.l0, .slice a0 C.w0.length c0, .int .i64 C.l1, .slice a1 C.w1.length c1] 29)) = wd at HB9 HK9 HX9 HD9 hz9 ⊢
  have q0 : wd.cell? ⟨w.heap.size, 0, none⟩ = some (.slice pa C.parts.length pc) := (cell_blk HK9.out 0).trans rfl
  have q1 : wd.cell? ⟨w.heap.size, 1, none⟩ = some (.slice ca C.chans.length cc) := (cell_blk HK9.out 1).trans rfl
  have lq : w.heap.size < wd.heap.size := by omega
  have lx : w.heap.size + 1 < wd.heap.size := by omega
  have x0 : wd.cell? ⟨w.heap.size + 1, 0, none⟩ = some (.int .i64 x.kind) := (cell_blk HX9.out 0).trans rfl
  have x1 : wd.cell? ⟨w.heap.size + 1, 1, none⟩ = some (.int .i64 x.frm) := (cell_blk HX9.out 1).trans rfl
  have x2 : wd.cell? ⟨w.heap.size + 1, 2, none⟩ = some (.int .i64 x.to) := (cell_blk HX9.out 2).trans rfl
  have x3 : wd.cell? ⟨w.heap.size + 1, 3, none⟩ = some (.int .i64 x.words) := (cell_blk HX9.out 3).trans rfl
  have x4 : wd.cell? ⟨w.heap.size + 1, 4, none⟩ = some (.int .i64 x.depth) := (cell_blk HX9.out 4).trans rfl
  have x5 : wd.cell? ⟨w.heap.size + 1, 5, none⟩ = some (.int .i64 x.period) := (cell_blk HX9.out 5).trans rfl
  have x6 : wd.cell? ⟨w.heap.size + 1, 6, none⟩ = some (.int .u32 x.boot) := (cell_blk HX9.out 6).trans rfl
  go_cut [] (fun wx => ∃ (va : Option Addr) (vc : Nat), Kp (Below w.heap.size w wx) ∧ Kp (wx.heap[w.heap.size]? = some (.cells #[.slice pa C.parts.length pc, .slice ca C.chans.length cc, .int .i64 C.l0, .slice a0 C.w0.length c0, .int .i64 C.l1, .slice a1 C.w1.length c1] 29 (0, 0))) ∧ Kp (wx.heap[bd]? = some (.cells #[.slice pa C.parts.length pc, .slice va (C.chans.length + 1) vc, .int .i64 C.l0, .slice a0 C.w0.length c0, .int .i64 C.l1, .slice a1 C.w1.length c1] 29 (0, 0))) ∧ Kp (CfgAt wx (.agg #[.slice pa C.parts.length pc, .slice va (C.chans.length + 1) vc, .int .i64 C.l0, .slice a0 C.w0.length c0, .int .i64 C.l1, .slice a1 C.w1.length c1]) (withCh C (C.chans ++ [x]))))
  case first =>
    refine held_start_gen (S := (fun w' : World => ButB (wd.heap.size) [bd] wd w' ∧ ∀ bb o, bb < wd.heap.size → bb ≠ bd → w'.cell? ⟨bb, o, none⟩ = wd.cell? ⟨bb, o, none⟩)) (by kernel_rfl) (fun wz : World => Kp (Below w.heap.size w wz) ∧ Kp (wz.heap[w.heap.size]? = some (.cells #[.slice pa C.parts.length pc, .slice ca C.chans.length cc, .int .i64 C.l0, .slice a0 C.w0.length c0, .int .i64 C.l1, .slice a1 C.w1.length c1] 29 (0, 0))) ∧ Kp (wz.heap[bd]? = some (.cells #[.slice pa C.parts.length pc, .slice ca C.chans.length cc, .int .i64 C.l0, .slice a0 C.w0.length c0, .int .i64 C.l1, .slice a1 C.w1.length c1] 29 (0, 0))) ∧ wd.heap.size ≤ wz.heap.size) ⟨⟨below_dr HB9.out⟩, ⟨blk_dr HK9.out⟩, ⟨blk_dr HD9.out⟩, Nat.le_refl _⟩ (sx_of1 (ButB.dr (ButB.refl _ (by omega)))) (fun wd0 hRn hHeld => ?_)
    clear HB9 HK9 HD9
    obtain ⟨HB9, HK9, HD9, hsz⟩ := hRn
    refine wpAnyH_take (i := 1) (oi := ⟨_, _, _, _, _, _⟩) (v := ?_) rfl (by kernel_rfl) (by kernel_rfl) (by kernel_rfl) (fun _ _ _ h => h) (Or.inl ⟨by rfl, ?_⟩) (by assumption) ?_
    rotate_left 1
    · (intro w hSw; go_simp; try with_reducible rfl)
    try simp only [Act.put, List.setIfInBounds_toArray, List.set_cons_zero, List.set_cons_succ]
    refine wpAnyH_take (i := 2) (oi := ⟨_, _, _, _, _, _⟩) (v := ?_) rfl (by kernel_rfl) (by kernel_rfl) (by kernel_rfl) (fun _ _ _ h => h) (Or.inl ⟨by rfl, ?_⟩) (by assumption) ?_
    rotate_left 1
    · (intro w hSw; go_simp; try with_reducible rfl)
    try simp only [Act.put, List.setIfInBounds_toArray, List.set_cons_zero, List.set_cons_succ]
    refine wpAnyH_take (i := 4) (oi := ⟨_, _, _, _, _, _⟩) (v := ?_) rfl (by kernel_rfl) (by kernel_rfl) (by kernel_rfl) (fun _ _ _ h => h) (Or.inl ⟨by rfl, ?_⟩) (by assumption) ?_
    rotate_left 1
    · (intro w hSw; go_simp; try with_reducible rfl)
    try simp only [Act.put, List.setIfInBounds_toArray, List.set_cons_zero, List.set_cons_succ]
    refine wpAnyH_ready (rs := [0, 5]) (by kernel_rfl) (by simp) ?_
    refine (AllReadyH.cons (o := ⟨_, _, _, _, _, _⟩) rfl (fun K hK => ?_) (AllReadyH.cons (o := ⟨_, _, _, _, _, _⟩) rfl (fun K hK => ?_) AllReadyH.nil))
    · have gr := (And.left hHeld).size
      go_simp
      try go_wp2_with fail
      refine out_gen hK _ _ (fun wz : World => Kp (Below w.heap.size w wz) ∧ Kp (wz.heap[w.heap.size]? = some (.cells #[.slice pa C.parts.length pc, .slice ca C.chans.length cc, .int .i64 C.l0, .slice a0 C.w0.length c0, .int .i64 C.l1, .slice a1 C.w1.length c1] 29 (0, 0))) ∧ Kp (wz.heap[bd]? = some (.cells #[.slice pa C.parts.length pc, .slice ca C.chans.length cc, .int .i64 C.l0, .slice a0 C.w0.length c0, .int .i64 C.l1, .slice a1 C.w1.length c1] 29 (0, 0))) ∧ Kp (wz.ownsRow (wd0.heap.size) 40 7 (.slice (some ⟨wd0.heap.size, 0, none⟩) 0 0) (0) ([])) ∧ wd0.heap.size < wz.heap.size) ⟨⟨below_al HB9.out _⟩, ⟨blk_al HK9.out _⟩, ⟨blk_al HD9.out _⟩, ⟨own_new0 wd0 _ _⟩, (by simp)⟩ (sx_of1 (ButB.al (And.left hHeld) _)) (fun wd1 hRn hHn => ?_)
      clear hK K hHeld HB9 HK9 HD9
      obtain ⟨HB9, HK9, HD9, HO, hsz1⟩ := hRn
      have hHeld := hHn
      clear hHn
      try simp only [Act.put, List.setIfInBounds_toArray, List.set_cons_zero, List.set_cons_succ]
      refine wpAnyH_ready (rs := [3, 5]) (by kernel_rfl) (by simp) ?_
      refine (AllReadyH.cons (o := ⟨_, _, _, _, _, _⟩) rfl (fun K hK => ?_) (AllReadyH.cons (o := ⟨_, _, _, _, _, _⟩) rfl (fun K hK => ?_) AllReadyH.nil))
      · have hws := (And.left hHeld).size
        refine step_append_row _ (by rfl) _ _ 23 (by rfl) (wd0.heap.size) 40 i0 (.agg #[.int .i64 0, .int .i64 0, .int .i64 0, .int .i64 0, .int .i64 0, .int .i64 0, .int .u32 0]) 7 56 Try.underlying23 hi hz0 hz1 hz2 (by rfl) (by decide) _ _ _ (by rfl) HO.out _ C.chans.length _ (C.chans.flatMap chanC) (by rfl) (HCH.out.below HB9.out) (chans_one _) (by unfold maxLen; omega) (by omega) (by have := hws; omega) ?_
        intro v1 w9 hown hgrow
        refine out_gen hK _ _ (fun wz : World => Kp (Below w.heap.size w wz) ∧ Kp (wz.heap[w.heap.size]? = some (.cells #[.slice pa C.parts.length pc, .slice ca C.chans.length cc, .int .i64 C.l0, .slice a0 C.w0.length c0, .int .i64 C.l1, .slice a1 C.w1.length c1] 29 (0, 0))) ∧ Kp (wz.heap[bd]? = some (.cells #[.slice pa C.parts.length pc, .slice ca C.chans.length cc, .int .i64 C.l0, .slice a0 C.w0.length c0, .int .i64 C.l1, .slice a1 C.w1.length c1] 29 (0, 0))) ∧ Kp (wz.ownsRow (wd0.heap.size) 40 7 (v1) (C.chans.length) (C.chans.flatMap chanC)) ∧ wd1.heap.size ≤ wz.heap.size) ⟨⟨below_own2 HB9.out (by have := HB9.out.size; omega) (by omega) HO.out hgrow⟩, ⟨blk_grownR HK9.out HO.out hgrow (by first | (intro hq; have := (HO.out.lt _ hq).1; omega) | (intro hq; simp [Value.ownBlock] at hq; omega))⟩, ⟨blk_grownR HD9.out HO.out hgrow (by first | (intro hq; have := (HO.out.lt _ hq).1; omega) | (intro hq; simp [Value.ownBlock] at hq; omega))⟩, ⟨by have h := hown; simp only [Nat.zero_add, List.nil_append] at h; exact h⟩, hgrow.size⟩ (sx_of1 (ButB.grown (And.left hHeld) HO.out hgrow (by omega))) (fun wd2 hRn hHn => ?_)
        clear hK K hHeld HB9 HK9 HD9 HO hown hgrow hws
        obtain ⟨HB9, HK9, HD9, HO, hsz2⟩ := hRn
        have hHeld := hHn
        clear hHn
        try simp only [Act.put, List.setIfInBounds_toArray, List.set_cons_zero, List.set_cons_succ]
        refine wpAnyH_ready (rs := [5]) (by kernel_rfl) (by simp) ?_
        refine (AllReadyH.cons (o := ⟨_, _, _, _, _, _⟩) rfl (fun K hK => ?_) AllReadyH.nil)
        have ge_HE : wd.heap.size ≤ wd2.heap.size := (And.left hHeld).size
        go_simp
        try go_wp2_with fail
        refine out_gen hK _ _ (fun wz : World => Kp (Below w.heap.size w wz) ∧ Kp (wz.heap[w.heap.size]? = some (.cells #[.slice pa C.parts.length pc, .slice ca C.chans.length cc, .int .i64 C.l0, .slice a0 C.w0.length c0, .int .i64 C.l1, .slice a1 C.w1.length c1] 29 (0, 0))) ∧ Kp (wz.heap[bd]? = some (.cells #[.slice pa C.parts.length pc, .slice ca C.chans.length cc, .int .i64 C.l0, .slice a0 C.w0.length c0, .int .i64 C.l1, .slice a1 C.w1.length c1] 29 (0, 0))) ∧ Kp (wz.ownsRow (wd0.heap.size) 40 7 (v1) (C.chans.length) (C.chans.flatMap chanC)) ∧ Kp (wz.heap[wd2.heap.size]? = some (.cells #[.int .i64 x.kind, .int .i64 x.frm, .int .i64 x.to, .int .i64 x.words, .int .i64 x.depth, .int .i64 x.period, .int .u32 x.boot] 40 (0, 0))) ∧ wd2.heap.size < wz.heap.size) ⟨⟨below_al HB9.out _⟩, ⟨blk_al HK9.out _⟩, ⟨blk_al HD9.out _⟩, ⟨HO.out.alloc _⟩, ⟨blk_new wd2 _⟩, (by simp)⟩ (sx_of1 (ButB.al (And.left hHeld) _)) (fun wd3 hRn hHn => ?_)
        clear hK K hHeld HB9 HK9 HD9 HO
        obtain ⟨HB9, HK9, HD9, HO, HE, hsz3⟩ := hRn
        have hHeld := hHn
        clear hHn
        try simp only [Act.put, List.setIfInBounds_toArray, List.set_cons_zero, List.set_cons_succ]
        have lt_HE := blk_lt HE.out
        refine wpAnyH_ready (rs := [6]) (by kernel_rfl) (by simp) ?_
        refine (AllReadyH.cons (o := ⟨_, _, _, _, _, _⟩) rfl (fun K hK => ?_) AllReadyH.nil)
        have hws := (And.left hHeld).size
        refine step_append_lies _ (by rfl) _ _ 23 (by rfl) (wd0.heap.size) 40 i0 (.agg #[.int .i64 0, .int .i64 0, .int .i64 0, .int .i64 0, .int .i64 0, .int .i64 0, .int .u32 0]) 7 56 Try.underlying23 hi hz0 hz1 hz2 (by rfl) (by decide) _ _ _ (by rfl) HO.out _ 1 _ (chanC x) (by rfl) rfl (World.news_of_block HE.out) (chan_one _) (by omega) (by unfold maxLen; omega) (by omega) (by have := hws; omega) _ rfl ?_
        intro g2 k2 w9 hown hgrow hat hlt
        refine out_gen hK _ _ (fun wz : World => Kp (Below w.heap.size w wz) ∧ Kp (wz.heap[w.heap.size]? = some (.cells #[.slice pa C.parts.length pc, .slice ca C.chans.length cc, .int .i64 C.l0, .slice a0 C.w0.length c0, .int .i64 C.l1, .slice a1 C.w1.length c1] 29 (0, 0))) ∧ Kp (wz.heap[bd]? = some (.cells #[.slice pa C.parts.length pc, .slice ca C.chans.length cc, .int .i64 C.l0, .slice a0 C.w0.length c0, .int .i64 C.l1, .slice a1 C.w1.length c1] 29 (0, 0))) ∧ Kp (wz.ownsRow (wd0.heap.size) 40 7 (.slice (some ⟨g2, 0, none⟩) (C.chans.length + 1) k2) (C.chans.length + 1) (C.chans.flatMap chanC ++ (chanC x))) ∧ wd3.heap.size ≤ wz.heap.size) ⟨⟨below_own2 HB9.out (by have := HB9.out.size; omega) (by omega) HO.out hgrow⟩, ⟨blk_grownR HK9.out HO.out hgrow (by first | (intro hq; have := (HO.out.lt _ hq).1; omega) | (intro hq; simp [Value.ownBlock] at hq; omega))⟩, ⟨blk_grownR HD9.out HO.out hgrow (by first | (intro hq; have := (HO.out.lt _ hq).1; omega) | (intro hq; simp [Value.ownBlock] at hq; omega))⟩, ⟨hown⟩, hgrow.size⟩ (sx_of1 (ButB.grown (And.left hHeld) HO.out hgrow (by omega))) (fun wd4 hRn hHn => ?_)
        clear hK K hHeld HB9 HK9 HD9 HO HE hown hgrow hat hlt hws
        obtain ⟨HB9, HK9, HD9, HO, hsz4⟩ := hRn
        have hHeld := hHn
        clear hHn
        try simp only [Act.put, List.setIfInBounds_toArray, List.set_cons_zero, List.set_cons_succ]
        try simp only [Nat.zero_add]
        refine wpAnyH_take (i := 7) (oi := ⟨_, _, _, _, _, _⟩) (v := ?_) rfl (by kernel_rfl) (by kernel_rfl) (by kernel_rfl) (fun _ _ _ h => h) (Or.inl ⟨by rfl, ?_⟩) (by assumption) ?_
        rotate_left 1
        · (intro w hSw; go_simp; try with_reducible rfl)
        try simp only [Act.put, List.setIfInBounds_toArray, List.set_cons_zero, List.set_cons_succ]
        refine wpAnyH_ready (rs := [8]) (by kernel_rfl) (by simp) ?_
        refine (AllReadyH.cons (o := ⟨_, _, _, _, _, _⟩) rfl (fun K hK => ?_) AllReadyH.nil)
        have sd : wd4.cell? ⟨bd, 1, none⟩ = some (.slice ca C.chans.length cc) := (cell_blk HD9.out 1).trans rfl
        have sf : wd4.frozen? ⟨bd, 1, none⟩ = false := frozen_blk HD9.out 1
        have sl := blk_lt HD9.out
        go_simp
        try go_wp2_with fail
        refine out_gen hK _ _ (fun wz : World => Kp (Below w.heap.size w wz) ∧ Kp (wz.heap[w.heap.size]? = some (.cells #[.slice pa C.parts.length pc, .slice ca C.chans.length cc, .int .i64 C.l0, .slice a0 C.w0.length c0, .int .i64 C.l1, .slice a1 C.w1.length c1] 29 (0, 0))) ∧ Kp (wz.heap[bd]? = some (.cells #[.slice pa C.parts.length pc, .slice (some ⟨g2, 0, none⟩) (C.chans.length + 1) k2, .int .i64 C.l0, .slice a0 C.w0.length c0, .int .i64 C.l1, .slice a1 C.w1.length c1] 29 (0, 0))) ∧ Kp (wz.ownsRow (wd0.heap.size) 40 7 (.slice (some ⟨g2, 0, none⟩) (C.chans.length + 1) k2) (C.chans.length + 1) (C.chans.flatMap chanC ++ (chanC x))) ∧ wd4.heap.size ≤ wz.heap.size) ⟨⟨HB9.out.setCell (p := ⟨bd, 1, none⟩) (by show w.heap.size ≤ bd; omega) _⟩, ⟨blk_set_ne (p := ⟨bd, 1, none⟩) HK9.out (by show w.heap.size ≠ bd; omega) _⟩, ⟨(blk_set HD9.out 1 _).trans rfl⟩, ⟨own_set_ne HO.out (p := ⟨bd, 1, none⟩) (by show bd < wd0.heap.size; omega) _⟩, (by simp [World.setCell])⟩ (sx_of1 (ButB.set (And.left hHeld) (p := ⟨bd, 1, none⟩) (by first | (left; simp; done) | (right; show wd.heap.size ≤ bd; omega)) _)) (fun wd5 hRn hHn => ?_)
        clear hK K hHeld HB9 HK9 HD9 HO sd sf sl
        obtain ⟨HB9, HK9, HD9, HO, hsz5⟩ := hRn
        have hHeld := hHn
        clear hHn
        try simp only [Act.put, List.setIfInBounds_toArray, List.set_cons_zero, List.set_cons_succ]
        refine wpAnyH_done (by kernel_rfl) ?_ _
        have hrow := RowAt.of_own HO.out
        have hlen := RowAt.lens hrow
        go_wp2_with fail
        go_meet
        exact ⟨some ⟨g2, 0, none⟩, k2, HB9, HK9, HD9, ⟨cfgAt_with (HC.out.below HB9.out) (C.chans ++ [x]) (fun y hy => by
          rcases List.mem_append.1 hy with hy | hy
          · exact HC.out.1.2.1 y hy
          · rw [List.mem_singleton.1 hy]; exact HXO.out) (by simp) hlen.1 hlen.2 (by rw [List.flatMap_append]; simp only [List.flatMap_cons, List.flatMap_nil, List.append_nil]; exact hrow)⟩⟩
      · have ge_HE : wd.heap.size ≤ wd1.heap.size := (And.left hHeld).size
        go_simp
        try go_wp2_with fail
        refine out_gen hK _ _ (fun wz : World => Kp (Below w.heap.size w wz) ∧ Kp (wz.heap[w.heap.size]? = some (.cells #[.slice pa C.parts.length pc, .slice ca C.chans.length cc, .int .i64 C.l0, .slice a0 C.w0.length c0, .int .i64 C.l1, .slice a1 C.w1.length c1] 29 (0, 0))) ∧ Kp (wz.heap[bd]? = some (.cells #[.slice pa C.parts.length pc, .slice ca C.chans.length cc, .int .i64 C.l0, .slice a0 C.w0.length c0, .int .i64 C.l1, .slice a1 C.w1.length c1] 29 (0, 0))) ∧ Kp (wz.ownsRow (wd0.heap.size) 40 7 (.slice (some ⟨wd0.heap.size, 0, none⟩) 0 0) (0) ([])) ∧ Kp (wz.heap[wd1.heap.size]? = some (.cells #[.int .i64 x.kind, .int .i64 x.frm, .int .i64 x.to, .int .i64 x.words, .int .i64 x.depth, .int .i64 x.period, .int .u32 x.boot] 40 (0, 0))) ∧ wd1.heap.size < wz.heap.size) ⟨⟨below_al HB9.out _⟩, ⟨blk_al HK9.out _⟩, ⟨blk_al HD9.out _⟩, ⟨HO.out.alloc _⟩, ⟨blk_new wd1 _⟩, (by simp)⟩ (sx_of1 (ButB.al (And.left hHeld) _)) (fun wd6 hRn hHn => ?_)
        clear hK K hHeld HB9 HK9 HD9 HO
        obtain ⟨HB9, HK9, HD9, HO, HE, hsz6⟩ := hRn
        have hHeld := hHn
        clear hHn
        try simp only [Act.put, List.setIfInBounds_toArray, List.set_cons_zero, List.set_cons_succ]
        have lt_HE := blk_lt HE.out
        refine wpAnyH_ready (rs := [3]) (by kernel_rfl) (by simp) ?_
        refine (AllReadyH.cons (o := ⟨_, _, _, _, _, _⟩) rfl (fun K hK => ?_) AllReadyH.nil)
        have hws := (And.left hHeld).size
        refine step_append_row _ (by rfl) _ _ 23 (by rfl) (wd0.heap.size) 40 i0 (.agg #[.int .i64 0, .int .i64 0, .int .i64 0, .int .i64 0, .int .i64 0, .int .i64 0, .int .u32 0]) 7 56 Try.underlying23 hi hz0 hz1 hz2 (by rfl) (by decide) _ _ _ (by rfl) HO.out _ C.chans.length _ (C.chans.flatMap chanC) (by rfl) (HCH.out.below HB9.out) (chans_one _) (by unfold maxLen; omega) (by omega) (by have := hws; omega) ?_
        intro v1 w9 hown hgrow
        refine out_gen hK _ _ (fun wz : World => Kp (Below w.heap.size w wz) ∧ Kp (wz.heap[w.heap.size]? = some (.cells #[.slice pa C.parts.length pc, .slice ca C.chans.length cc, .int .i64 C.l0, .slice a0 C.w0.length c0, .int .i64 C.l1, .slice a1 C.w1.length c1] 29 (0, 0))) ∧ Kp (wz.heap[bd]? = some (.cells #[.slice pa C.parts.length pc, .slice ca C.chans.length cc, .int .i64 C.l0, .slice a0 C.w0.length c0, .int .i64 C.l1, .slice a1 C.w1.length c1] 29 (0, 0))) ∧ Kp (wz.ownsRow (wd0.heap.size) 40 7 (v1) (C.chans.length) (C.chans.flatMap chanC)) ∧ Kp (wz.heap[wd1.heap.size]? = some (.cells #[.int .i64 x.kind, .int .i64 x.frm, .int .i64 x.to, .int .i64 x.words, .int .i64 x.depth, .int .i64 x.period, .int .u32 x.boot] 40 (0, 0))) ∧ wd6.heap.size ≤ wz.heap.size) ⟨⟨below_own2 HB9.out (by have := HB9.out.size; omega) (by omega) HO.out hgrow⟩, ⟨blk_grownR HK9.out HO.out hgrow (by first | (intro hq; have := (HO.out.lt _ hq).1; omega) | (intro hq; simp [Value.ownBlock] at hq; omega))⟩, ⟨blk_grownR HD9.out HO.out hgrow (by first | (intro hq; have := (HO.out.lt _ hq).1; omega) | (intro hq; simp [Value.ownBlock] at hq; omega))⟩, ⟨by have h := hown; simp only [Nat.zero_add, List.nil_append] at h; exact h⟩, ⟨blk_grownR HE.out HO.out hgrow (by first | (intro hq; have := (HO.out.lt _ hq).1; omega) | (intro hq; simp [Value.ownBlock] at hq; omega))⟩, hgrow.size⟩ (sx_of1 (ButB.grown (And.left hHeld) HO.out hgrow (by omega))) (fun wd7 hRn hHn => ?_)
        clear hK K hHeld HB9 HK9 HD9 HO HE hown hgrow hws
        obtain ⟨HB9, HK9, HD9, HO, HE, hsz7⟩ := hRn
        have hHeld := hHn
        clear hHn
        try simp only [Act.put, List.setIfInBounds_toArray, List.set_cons_zero, List.set_cons_succ]
        refine wpAnyH_ready (rs := [6]) (by kernel_rfl) (by simp) ?_
        refine (AllReadyH.cons (o := ⟨_, _, _, _, _, _⟩) rfl (fun K hK => ?_) AllReadyH.nil)
        have hws := (And.left hHeld).size
        refine step_append_lies _ (by rfl) _ _ 23 (by rfl) (wd0.heap.size) 40 i0 (.agg #[.int .i64 0, .int .i64 0, .int .i64 0, .int .i64 0, .int .i64 0, .int .i64 0, .int .u32 0]) 7 56 Try.underlying23 hi hz0 hz1 hz2 (by rfl) (by decide) _ _ _ (by rfl) HO.out _ 1 _ (chanC x) (by rfl) rfl (World.news_of_block HE.out) (chan_one _) (by omega) (by unfold maxLen; omega) (by omega) (by have := hws; omega) _ rfl ?_
        intro g2 k2 w9 hown hgrow hat hlt
        refine out_gen hK _ _ (fun wz : World => Kp (Below w.heap.size w wz) ∧ Kp (wz.heap[w.heap.size]? = some (.cells #[.slice pa C.parts.length pc, .slice ca C.chans.length cc, .int .i64 C.l0, .slice a0 C.w0.length c0, .int .i64 C.l1, .slice a1 C.w1.length c1] 29 (0, 0))) ∧ Kp (wz.heap[bd]? = some (.cells #[.slice pa C.parts.length pc, .slice ca C.chans.length cc, .int .i64 C.l0, .slice a0 C.w0.length c0, .int .i64 C.l1, .slice a1 C.w1.length c1] 29 (0, 0))) ∧ Kp (wz.ownsRow (wd0.heap.size) 40 7 (.slice (some ⟨g2, 0, none⟩) (C.chans.length + 1) k2) (C.chans.length + 1) (C.chans.flatMap chanC ++ (chanC x))) ∧ wd7.heap.size ≤ wz.heap.size) ⟨⟨below_own2 HB9.out (by have := HB9.out.size; omega) (by omega) HO.out hgrow⟩, ⟨blk_grownR HK9.out HO.out hgrow (by first | (intro hq; have := (HO.out.lt _ hq).1; omega) | (intro hq; simp [Value.ownBlock] at hq; omega))⟩, ⟨blk_grownR HD9.out HO.out hgrow (by first | (intro hq; have := (HO.out.lt _ hq).1; omega) | (intro hq; simp [Value.ownBlock] at hq; omega))⟩, ⟨hown⟩, hgrow.size⟩ (sx_of1 (ButB.grown (And.left hHeld) HO.out hgrow (by omega))) (fun wd8 hRn hHn => ?_)
        clear hK K hHeld HB9 HK9 HD9 HO HE hown hgrow hat hlt hws
        obtain ⟨HB9, HK9, HD9, HO, hsz8⟩ := hRn
        have hHeld := hHn
        clear hHn
        try simp only [Act.put, List.setIfInBounds_toArray, List.set_cons_zero, List.set_cons_succ]
        try simp only [Nat.zero_add]
        refine wpAnyH_take (i := 7) (oi := ⟨_, _, _, _, _, _⟩) (v := ?_) rfl (by kernel_rfl) (by kernel_rfl) (by kernel_rfl) (fun _ _ _ h => h) (Or.inl ⟨by rfl, ?_⟩) (by assumption) ?_
        rotate_left 1
        · (intro w hSw; go_simp; try with_reducible rfl)
        try simp only [Act.put, List.setIfInBounds_toArray, List.set_cons_zero, List.set_cons_succ]
        refine wpAnyH_ready (rs := [8]) (by kernel_rfl) (by simp) ?_
        refine (AllReadyH.cons (o := ⟨_, _, _, _, _, _⟩) rfl (fun K hK => ?_) AllReadyH.nil)
        have sd : wd8.cell? ⟨bd, 1, none⟩ = some (.slice ca C.chans.length cc) := (cell_blk HD9.out 1).trans rfl
        have sf : wd8.frozen? ⟨bd, 1, none⟩ = false := frozen_blk HD9.out 1
        have sl := blk_lt HD9.out
        go_simp
        try go_wp2_with fail
        refine out_gen hK _ _ (fun wz : World => Kp (Below w.heap.size w wz) ∧ Kp (wz.heap[w.heap.size]? = some (.cells #[.slice pa C.parts.length pc, .slice ca C.chans.length cc, .int .i64 C.l0, .slice a0 C.w0.length c0, .int .i64 C.l1, .slice a1 C.w1.length c1] 29 (0, 0))) ∧ Kp (wz.heap[bd]? = some (.cells #[.slice pa C.parts.length pc, .slice (some ⟨g2, 0, none⟩) (C.chans.length + 1) k2, .int .i64 C.l0, .slice a0 C.w0.length c0, .int .i64 C.l1, .slice a1 C.w1.length c1] 29 (0, 0))) ∧ Kp (wz.ownsRow (wd0.heap.size) 40 7 (.slice (some ⟨g2, 0, none⟩) (C.chans.length + 1) k2) (C.chans.length + 1) (C.chans.flatMap chanC ++ (chanC x))) ∧ wd8.heap.size ≤ wz.heap.size) ⟨⟨HB9.out.setCell (p := ⟨bd, 1, none⟩) (by show w.heap.size ≤ bd; omega) _⟩, ⟨blk_set_ne (p := ⟨bd, 1, none⟩) HK9.out (by show w.heap.size ≠ bd; omega) _⟩, ⟨(blk_set HD9.out 1 _).trans rfl⟩, ⟨own_set_ne HO.out (p := ⟨bd, 1, none⟩) (by show bd < wd0.heap.size; omega) _⟩, (by simp [World.setCell])⟩ (sx_of1 (ButB.set (And.left hHeld) (p := ⟨bd, 1, none⟩) (by first | (left; simp; done) | (right; show wd.heap.size ≤ bd; omega)) _)) (fun wd9 hRn hHn => ?_)
        clear hK K hHeld HB9 HK9 HD9 HO sd sf sl
        obtain ⟨HB9, HK9, HD9, HO, hsz9⟩ := hRn
        have hHeld := hHn
        clear hHn
        try simp only [Act.put, List.setIfInBounds_toArray, List.set_cons_zero, List.set_cons_succ]
        refine wpAnyH_done (by kernel_rfl) ?_ _
        have hrow := RowAt.of_own HO.out
        have hlen := RowAt.lens hrow
        go_wp2_with fail
        go_meet
        exact ⟨some ⟨g2, 0, none⟩, k2, HB9, HK9, HD9, ⟨cfgAt_with (HC.out.below HB9.out) (C.chans ++ [x]) (fun y hy => by
          rcases List.mem_append.1 hy with hy | hy
          · exact HC.out.1.2.1 y hy
          · rw [List.mem_singleton.1 hy]; exact HXO.out) (by simp) hlen.1 hlen.2 (by rw [List.flatMap_append]; simp only [List.flatMap_cons, List.flatMap_nil, List.append_nil]; exact hrow)⟩⟩
    · have ge_HE : wd.heap.size ≤ wd0.heap.size := (And.left hHeld).size
      go_simp
      try go_wp2_with fail
      refine out_gen hK _ _ (fun wz : World => Kp (Below w.heap.size w wz) ∧ Kp (wz.heap[w.heap.size]? = some (.cells #[.slice pa C.parts.length pc, .slice ca C.chans.length cc, .int .i64 C.l0, .slice a0 C.w0.length c0, .int .i64 C.l1, .slice a1 C.w1.length c1] 29 (0, 0))) ∧ Kp (wz.heap[bd]? = some (.cells #[.slice pa C.parts.length pc, .slice ca C.chans.length cc, .int .i64 C.l0, .slice a0 C.w0.length c0, .int .i64 C.l1, .slice a1 C.w1.length c1] 29 (0, 0))) ∧ Kp (wz.heap[wd0.heap.size]? = some (.cells #[.int .i64 x.kind, .int .i64 x.frm, .int .i64 x.to, .int .i64 x.words, .int .i64 x.depth, .int .i64 x.period, .int .u32 x.boot] 40 (0, 0))) ∧ wd0.heap.size < wz.heap.size) ⟨⟨below_al HB9.out _⟩, ⟨blk_al HK9.out _⟩, ⟨blk_al HD9.out _⟩, ⟨blk_new wd0 _⟩, (by simp)⟩ (sx_of1 (ButB.al (And.left hHeld) _)) (fun wd10 hRn hHn => ?_)
      clear hK K hHeld HB9 HK9 HD9
      obtain ⟨HB9, HK9, HD9, HE, hsz10⟩ := hRn
      have hHeld := hHn
      clear hHn
      try simp only [Act.put, List.setIfInBounds_toArray, List.set_cons_zero, List.set_cons_succ]
      have lt_HE := blk_lt HE.out
      refine wpAnyH_ready (rs := [0]) (by kernel_rfl) (by simp) ?_
      refine (AllReadyH.cons (o := ⟨_, _, _, _, _, _⟩) rfl (fun K hK => ?_) AllReadyH.nil)
      have gr := (And.left hHeld).size
      go_simp
      try go_wp2_with fail
      refine out_gen hK _ _ (fun wz : World => Kp (Below w.heap.size w wz) ∧ Kp (wz.heap[w.heap.size]? = some (.cells #[.slice pa C.parts.length pc, .slice ca C.chans.length cc, .int .i64 C.l0, .slice a0 C.w0.length c0, .int .i64 C.l1, .slice a1 C.w1.length c1] 29 (0, 0))) ∧ Kp (wz.heap[bd]? = some (.cells #[.slice pa C.parts.length pc, .slice ca C.chans.length cc, .int .i64 C.l0, .slice a0 C.w0.length c0, .int .i64 C.l1, .slice a1 C.w1.length c1] 29 (0, 0))) ∧ Kp (wz.heap[wd0.heap.size]? = some (.cells #[.int .i64 x.kind, .int .i64 x.frm, .int .i64 x.to, .int .i64 x.words, .int .i64 x.depth, .int .i64 x.period, .int .u32 x.boot] 40 (0, 0))) ∧ Kp (wz.ownsRow (wd10.heap.size) 40 7 (.slice (some ⟨wd10.heap.size, 0, none⟩) 0 0) (0) ([])) ∧ wd10.heap.size < wz.heap.size) ⟨⟨below_al HB9.out _⟩, ⟨blk_al HK9.out _⟩, ⟨blk_al HD9.out _⟩, ⟨blk_al HE.out _⟩, ⟨own_new0 wd10 _ _⟩, (by simp)⟩ (sx_of1 (ButB.al (And.left hHeld) _)) (fun wd11 hRn hHn => ?_)
      clear hK K hHeld HB9 HK9 HD9 HE
      obtain ⟨HB9, HK9, HD9, HE, HO, hsz11⟩ := hRn
      have hHeld := hHn
      clear hHn
      try simp only [Act.put, List.setIfInBounds_toArray, List.set_cons_zero, List.set_cons_succ]
      refine wpAnyH_ready (rs := [3]) (by kernel_rfl) (by simp) ?_
      refine (AllReadyH.cons (o := ⟨_, _, _, _, _, _⟩) rfl (fun K hK => ?_) AllReadyH.nil)
      have hws := (And.left hHeld).size
      refine step_append_row _ (by rfl) _ _ 23 (by rfl) (wd10.heap.size) 40 i0 (.agg #[.int .i64 0, .int .i64 0, .int .i64 0, .int .i64 0, .int .i64 0, .int .i64 0, .int .u32 0]) 7 56 Try.underlying23 hi hz0 hz1 hz2 (by rfl) (by decide) _ _ _ (by rfl) HO.out _ C.chans.length _ (C.chans.flatMap chanC) (by rfl) (HCH.out.below HB9.out) (chans_one _) (by unfold maxLen; omega) (by omega) (by have := hws; omega) ?_
      intro v1 w9 hown hgrow
      refine out_gen hK _ _ (fun wz : World => Kp (Below w.heap.size w wz) ∧ Kp (wz.heap[w.heap.size]? = some (.cells #[.slice pa C.parts.length pc, .slice ca C.chans.length cc, .int .i64 C.l0, .slice a0 C.w0.length c0, .int .i64 C.l1, .slice a1 C.w1.length c1] 29 (0, 0))) ∧ Kp (wz.heap[bd]? = some (.cells #[.slice pa C.parts.length pc, .slice ca C.chans.length cc, .int .i64 C.l0, .slice a0 C.w0.length c0, .int .i64 C.l1, .slice a1 C.w1.length c1] 29 (0, 0))) ∧ Kp (wz.heap[wd0.heap.size]? = some (.cells #[.int .i64 x.kind, .int .i64 x.frm, .int .i64 x.to, .int .i64 x.words, .int .i64 x.depth, .int .i64 x.period, .int .u32 x.boot] 40 (0, 0))) ∧ Kp (wz.ownsRow (wd10.heap.size) 40 7 (v1) (C.chans.length) (C.chans.flatMap chanC)) ∧ wd11.heap.size ≤ wz.heap.size) ⟨⟨below_own2 HB9.out (by have := HB9.out.size; omega) (by omega) HO.out hgrow⟩, ⟨blk_grownR HK9.out HO.out hgrow (by first | (intro hq; have := (HO.out.lt _ hq).1; omega) | (intro hq; simp [Value.ownBlock] at hq; omega))⟩, ⟨blk_grownR HD9.out HO.out hgrow (by first | (intro hq; have := (HO.out.lt _ hq).1; omega) | (intro hq; simp [Value.ownBlock] at hq; omega))⟩, ⟨blk_grownR HE.out HO.out hgrow (by first | (intro hq; have := (HO.out.lt _ hq).1; omega) | (intro hq; simp [Value.ownBlock] at hq; omega))⟩, ⟨by have h := hown; simp only [Nat.zero_add, List.nil_append] at h; exact h⟩, hgrow.size⟩ (sx_of1 (ButB.grown (And.left hHeld) HO.out hgrow (by omega))) (fun wd12 hRn hHn => ?_)
      clear hK K hHeld HB9 HK9 HD9 HE HO hown hgrow hws
      obtain ⟨HB9, HK9, HD9, HE, HO, hsz12⟩ := hRn
      have hHeld := hHn
      clear hHn
      try simp only [Act.put, List.setIfInBounds_toArray, List.set_cons_zero, List.set_cons_succ]
      refine wpAnyH_ready (rs := [6]) (by kernel_rfl) (by simp) ?_
      refine (AllReadyH.cons (o := ⟨_, _, _, _, _, _⟩) rfl (fun K hK => ?_) AllReadyH.nil)
      have hws := (And.left hHeld).size
      refine step_append_lies _ (by rfl) _ _ 23 (by rfl) (wd10.heap.size) 40 i0 (.agg #[.int .i64 0, .int .i64 0, .int .i64 0, .int .i64 0, .int .i64 0, .int .i64 0, .int .u32 0]) 7 56 Try.underlying23 hi hz0 hz1 hz2 (by rfl) (by decide) _ _ _ (by rfl) HO.out _ 1 _ (chanC x) (by rfl) rfl (World.news_of_block HE.out) (chan_one _) (by omega) (by unfold maxLen; omega) (by omega) (by have := hws; omega) _ rfl ?_
      intro g2 k2 w9 hown hgrow hat hlt
      refine out_gen hK _ _ (fun wz : World => Kp (Below w.heap.size w wz) ∧ Kp (wz.heap[w.heap.size]? = some (.cells #[.slice pa C.parts.length pc, .slice ca C.chans.length cc, .int .i64 C.l0, .slice a0 C.w0.length c0, .int .i64 C.l1, .slice a1 C.w1.length c1] 29 (0, 0))) ∧ Kp (wz.heap[bd]? = some (.cells #[.slice pa C.parts.length pc, .slice ca C.chans.length cc, .int .i64 C.l0, .slice a0 C.w0.length c0, .int .i64 C.l1, .slice a1 C.w1.length c1] 29 (0, 0))) ∧ Kp (wz.ownsRow (wd10.heap.size) 40 7 (.slice (some ⟨g2, 0, none⟩) (C.chans.length + 1) k2) (C.chans.length + 1) (C.chans.flatMap chanC ++ (chanC x))) ∧ wd12.heap.size ≤ wz.heap.size) ⟨⟨below_own2 HB9.out (by have := HB9.out.size; omega) (by omega) HO.out hgrow⟩, ⟨blk_grownR HK9.out HO.out hgrow (by first | (intro hq; have := (HO.out.lt _ hq).1; omega) | (intro hq; simp [Value.ownBlock] at hq; omega))⟩, ⟨blk_grownR HD9.out HO.out hgrow (by first | (intro hq; have := (HO.out.lt _ hq).1; omega) | (intro hq; simp [Value.ownBlock] at hq; omega))⟩, ⟨hown⟩, hgrow.size⟩ (sx_of1 (ButB.grown (And.left hHeld) HO.out hgrow (by omega))) (fun wd13 hRn hHn => ?_)
      clear hK K hHeld HB9 HK9 HD9 HE HO hown hgrow hat hlt hws
      obtain ⟨HB9, HK9, HD9, HO, hsz13⟩ := hRn
      have hHeld := hHn
      clear hHn
      try simp only [Act.put, List.setIfInBounds_toArray, List.set_cons_zero, List.set_cons_succ]
      try simp only [Nat.zero_add]
      refine wpAnyH_take (i := 7) (oi := ⟨_, _, _, _, _, _⟩) (v := ?_) rfl (by kernel_rfl) (by kernel_rfl) (by kernel_rfl) (fun _ _ _ h => h) (Or.inl ⟨by rfl, ?_⟩) (by assumption) ?_
      rotate_left 1
      · (intro w hSw; go_simp; try with_reducible rfl)
      try simp only [Act.put, List.setIfInBounds_toArray, List.set_cons_zero, List.set_cons_succ]
      refine wpAnyH_ready (rs := [8]) (by kernel_rfl) (by simp) ?_
      refine (AllReadyH.cons (o := ⟨_, _, _, _, _, _⟩) rfl (fun K hK => ?_) AllReadyH.nil)
      have sd : wd13.cell? ⟨bd, 1, none⟩ = some (.slice ca C.chans.length cc) := (cell_blk HD9.out 1).trans rfl
      have sf : wd13.frozen? ⟨bd, 1, none⟩ = false := frozen_blk HD9.out 1
      have sl := blk_lt HD9.out
      go_simp
      try go_wp2_with fail
      refine out_gen hK _ _ (fun wz : World => Kp (Below w.heap.size w wz) ∧ Kp (wz.heap[w.heap.size]? = some (.cells #[.slice pa C.parts.length pc, .slice ca C.chans.length cc, .int .i64 C.l0, .slice a0 C.w0.length c0, .int .i64 C.l1, .slice a1 C.w1.length c1] 29 (0, 0))) ∧ Kp (wz.heap[bd]? = some (.cells #[.slice pa C.parts.length pc, .slice (some ⟨g2, 0, none⟩) (C.chans.length + 1) k2, .int .i64 C.l0, .slice a0 C.w0.length c0, .int .i64 C.l1, .slice a1 C.w1.length c1] 29 (0, 0))) ∧ Kp (wz.ownsRow (wd10.heap.size) 40 7 (.slice (some ⟨g2, 0, none⟩) (C.chans.length + 1) k2) (C.chans.length + 1) (C.chans.flatMap chanC ++ (chanC x))) ∧ wd13.heap.size ≤ wz.heap.size) ⟨⟨HB9.out.setCell (p := ⟨bd, 1, none⟩) (by show w.heap.size ≤ bd; omega) _⟩, ⟨blk_set_ne (p := ⟨bd, 1, none⟩) HK9.out (by show w.heap.size ≠ bd; omega) _⟩, ⟨(blk_set HD9.out 1 _).trans rfl⟩, ⟨own_set_ne HO.out (p := ⟨bd, 1, none⟩) (by show bd < wd10.heap.size; omega) _⟩, (by simp [World.setCell])⟩ (sx_of1 (ButB.set (And.left hHeld) (p := ⟨bd, 1, none⟩) (by first | (left; simp; done) | (right; show wd.heap.size ≤ bd; omega)) _)) (fun wd14 hRn hHn => ?_)
      clear hK K hHeld HB9 HK9 HD9 HO sd sf sl
      obtain ⟨HB9, HK9, HD9, HO, hsz14⟩ := hRn
      have hHeld := hHn
      clear hHn
      try simp only [Act.put, List.setIfInBounds_toArray, List.set_cons_zero, List.set_cons_succ]
      refine wpAnyH_done (by kernel_rfl) ?_ _
      have hrow := RowAt.of_own HO.out
      have hlen := RowAt.lens hrow
      go_wp2_with fail
      go_meet
      exact ⟨some ⟨g2, 0, none⟩, k2, HB9, HK9, HD9, ⟨cfgAt_with (HC.out.below HB9.out) (C.chans ++ [x]) (fun y hy => by
        rcases List.mem_append.1 hy with hy | hy
        · exact HC.out.1.2.1 y hy
        · rw [List.mem_singleton.1 hy]; exact HXO.out) (by simp) hlen.1 hlen.2 (by rw [List.flatMap_append]; simp only [List.flatMap_cons, List.flatMap_nil, List.append_nil]; exact hrow)⟩⟩
  case rest =>
    clear q0 q1 lq lx x0 x1 x2 x3 x4 x5 x6
    obtain ⟨va, vc, HB, HK, HD, HCD⟩ := hcut
    have hsz := HB.out.size
    have hbd3 := blk_lt HD.out
    have q0 : wc.cell? ⟨w.heap.size, 0, none⟩ = some (.slice pa C.parts.length pc) := (cell_blk HK.out 0).trans rfl
    have q1 : wc.cell? ⟨w.heap.size, 1, none⟩ = some (.slice ca C.chans.length cc) := (cell_blk HK.out 1).trans rfl
    have q2 : wc.cell? ⟨w.heap.size, 2, none⟩ = some (.int .i64 C.l0) := (cell_blk HK.out 2).trans rfl
    have q3 : wc.cell? ⟨w.heap.size, 3, none⟩ = some (.slice a0 C.w0.length c0) := (cell_blk HK.out 3).trans rfl
    have q4 : wc.cell? ⟨w.heap.size, 4, none⟩ = some (.int .i64 C.l1) := (cell_blk HK.out 4).trans rfl
    have q5 : wc.cell? ⟨w.heap.size, 5, none⟩ = some (.slice a1 C.w1.length c1) := (cell_blk HK.out 5).trans rfl
    have lq := blk_lt HK.out
    have d0 : wc.cell? ⟨bd, 0, none⟩ = some (.slice pa C.parts.length pc) := (cell_blk HD.out 0).trans rfl
    have d1 : wc.cell? ⟨bd, 1, none⟩ = some (.slice va (C.chans.length + 1) vc) := (cell_blk HD.out 1).trans rfl
    have d2 : wc.cell? ⟨bd, 2, none⟩ = some (.int .i64 C.l0) := (cell_blk HD.out 2).trans rfl
    have d3 : wc.cell? ⟨bd, 3, none⟩ = some (.slice a0 C.w0.length c0) := (cell_blk HD.out 3).trans rfl
    have d4 : wc.cell? ⟨bd, 4, none⟩ = some (.int .i64 C.l1) := (cell_blk HD.out 4).trans rfl
    have d5 : wc.cell? ⟨bd, 5, none⟩ = some (.slice a1 C.w1.length c1) := (cell_blk HD.out 5).trans rfl
    go_wp2_with fail
    refine (refAccepts_any _ C hsm _ (HC.out.below HB.out)).mono ?_
    rw [ha]
    rintro e w1k ⟨rfl, hb⟩
    have HB1k : Kp (Below w.heap.size w w1k) := ⟨below_call HB.out hb⟩
    have q1k : Kp (w1k.heap[w.heap.size]? = some (.cells #[.slice pa C.parts.length pc, .slice ca C.chans.length cc, .int .i64 C.l0, .slice a0 C.w0.length c0, .int .i64 C.l1, .slice a1 C.w1.length c1] 29 (0, 0))) := ⟨blk_below HK.out hb⟩
    have d1k : Kp (w1k.heap[bd]? = some (.cells #[.slice pa C.parts.length pc, .slice va (C.chans.length + 1) vc, .int .i64 C.l0, .slice a0 C.w0.length c0, .int .i64 C.l1, .slice a1 C.w1.length c1] 29 (0, 0))) := ⟨blk_below HD.out hb⟩
    have CD1k : Kp (CfgAt w1k (.agg #[.slice pa C.parts.length pc, .slice va (C.chans.length + 1) vc, .int .i64 C.l0, .slice a0 C.w0.length c0, .int .i64 C.l1, .slice a1 C.w1.length c1]) (withCh C (C.chans ++ [x]))) := ⟨HCD.out.below hb⟩
    clear q0 q1 q2 q3 q4 q5 lq d0 d1 d2 d3 d4 d5 HB HK HD HCD hb
    have qc0k : w1k.cell? ⟨w.heap.size, 0, none⟩ = some (.slice pa C.parts.length pc) := (cell_blk q1k.out 0).trans rfl
    have qc1k : w1k.cell? ⟨w.heap.size, 1, none⟩ = some (.slice ca C.chans.length cc) := (cell_blk q1k.out 1).trans rfl
    have qc2k : w1k.cell? ⟨w.heap.size, 2, none⟩ = some (.int .i64 C.l0) := (cell_blk q1k.out 2).trans rfl
    have qc3k : w1k.cell? ⟨w.heap.size, 3, none⟩ = some (.slice a0 C.w0.length c0) := (cell_blk q1k.out 3).trans rfl
    have qc4k : w1k.cell? ⟨w.heap.size, 4, none⟩ = some (.int .i64 C.l1) := (cell_blk q1k.out 4).trans rfl
    have qc5k : w1k.cell? ⟨w.heap.size, 5, none⟩ = some (.slice a1 C.w1.length c1) := (cell_blk q1k.out 5).trans rfl
    have qlk := blk_lt q1k.out
    have dc0k : w1k.cell? ⟨bd, 0, none⟩ = some (.slice pa C.parts.length pc) := (cell_blk d1k.out 0).trans rfl
    have dc1k : w1k.cell? ⟨bd, 1, none⟩ = some (.slice va (C.chans.length + 1) vc) := (cell_blk d1k.out 1).trans rfl
    have dc2k : w1k.cell? ⟨bd, 2, none⟩ = some (.int .i64 C.l0) := (cell_blk d1k.out 2).trans rfl
    have dc3k : w1k.cell? ⟨bd, 3, none⟩ = some (.slice a0 C.w0.length c0) := (cell_blk d1k.out 3).trans rfl
    have dc4k : w1k.cell? ⟨bd, 4, none⟩ = some (.int .i64 C.l1) := (cell_blk d1k.out 4).trans rfl
    have dc5k : w1k.cell? ⟨bd, 5, none⟩ = some (.slice a1 C.w1.length c1) := (cell_blk d1k.out 5).trans rfl
    have dlk := blk_lt d1k.out
    go_wp2_with fail
    refine (refAccepts_any _ (withCh C (C.chans ++ [x])) hsmD _ CD1k.out).mono ?_
    rw [had]
    rintro e w2k ⟨rfl, hb⟩
    have HB2k : Kp (Below w.heap.size w w2k) := ⟨below_call HB1k.out hb⟩
    have q2k : Kp (w2k.heap[w.heap.size]? = some (.cells #[.slice pa C.parts.length pc, .slice ca C.chans.length cc, .int .i64 C.l0, .slice a0 C.w0.length c0, .int .i64 C.l1, .slice a1 C.w1.length c1] 29 (0, 0))) := ⟨blk_below q1k.out hb⟩
    have d2k : Kp (w2k.heap[bd]? = some (.cells #[.slice pa C.parts.length pc, .slice va (C.chans.length + 1) vc, .int .i64 C.l0, .slice a0 C.w0.length c0, .int .i64 C.l1, .slice a1 C.w1.length c1] 29 (0, 0))) := ⟨blk_below d1k.out hb⟩
    have CD2k : Kp (CfgAt w2k (.agg #[.slice pa C.parts.length pc, .slice va (C.chans.length + 1) vc, .int .i64 C.l0, .slice a0 C.w0.length c0, .int .i64 C.l1, .slice a1 C.w1.length c1]) (withCh C (C.chans ++ [x]))) := ⟨CD1k.out.below hb⟩
    clear qc0k qc1k qc2k qc3k qc4k qc5k qlk dc0k dc1k dc2k dc3k dc4k dc5k dlk HB1k q1k d1k CD1k hb
    have qc0k : w2k.cell? ⟨w.heap.size, 0, none⟩ = some (.slice pa C.parts.length pc) := (cell_blk q2k.out 0).trans rfl
    have qc1k : w2k.cell? ⟨w.heap.size, 1, none⟩ = some (.slice ca C.chans.length cc) := (cell_blk q2k.out 1).trans rfl
    have qc2k : w2k.cell? ⟨w.heap.size, 2, none⟩ = some (.int .i64 C.l0) := (cell_blk q2k.out 2).trans rfl
    have qc3k : w2k.cell? ⟨w.heap.size, 3, none⟩ = some (.slice a0 C.w0.length c0) := (cell_blk q2k.out 3).trans rfl
    have qc4k : w2k.cell? ⟨w.heap.size, 4, none⟩ = some (.int .i64 C.l1) := (cell_blk q2k.out 4).trans rfl
    have qc5k : w2k.cell? ⟨w.heap.size, 5, none⟩ = some (.slice a1 C.w1.length c1) := (cell_blk q2k.out 5).trans rfl
    have qlk := blk_lt q2k.out
    have dc0k : w2k.cell? ⟨bd, 0, none⟩ = some (.slice pa C.parts.length pc) := (cell_blk d2k.out 0).trans rfl
    have dc1k : w2k.cell? ⟨bd, 1, none⟩ = some (.slice va (C.chans.length + 1) vc) := (cell_blk d2k.out 1).trans rfl
    have dc2k : w2k.cell? ⟨bd, 2, none⟩ = some (.int .i64 C.l0) := (cell_blk d2k.out 2).trans rfl
    have dc3k : w2k.cell? ⟨bd, 3, none⟩ = some (.slice a0 C.w0.length c0) := (cell_blk d2k.out 3).trans rfl
    have dc4k : w2k.cell? ⟨bd, 4, none⟩ = some (.int .i64 C.l1) := (cell_blk d2k.out 4).trans rfl
    have dc5k : w2k.cell? ⟨bd, 5, none⟩ = some (.slice a1 C.w1.length c1) := (cell_blk d2k.out 5).trans rfl
    have dlk := blk_lt d2k.out
    go_wp2_with fail
    obtain ⟨hp1, hp2⟩ := plan_more ha had
    obtain ⟨l, hl⟩ : ∃ l, planL C = l := ⟨_, rfl⟩
    obtain ⟨E, hE⟩ : ∃ E, planE C = E := ⟨_, rfl⟩
    have hEs := planE_small C
    have hle : l.length ≤ 22 := hl ▸ planL_le C
    have hxs := chn_small had (x := x) (show x ∈ C.chans ++ [x] by simp)
    rw [hl, hE] at hp1
    rw [hE] at hp2 hEs
    obtain ⟨sx, hsx⟩ : ∃ sx, sizedC x = sx := ⟨_, rfl⟩
    rw [hsx] at hp1 hp2 hxs
    have HL := Kp.mk hl
    have HE := Kp.mk hE
    have HP1 := Kp.mk hp1
    have HP2 := Kp.mk hp2
    have H1 : Kp (l.take (99 : Int).toNat = l) := ⟨List.take_of_length_le (by simp; omega)⟩
    have H2 : Kp ((l ++ [(E, sx), (E + sx, 1)]).take (99 : Int).toNat = l ++ [(E, sx), (E + sx, 1)]) := ⟨List.take_of_length_le (by simp; omega)⟩
    have HLL : Kp ((l ++ [(E, sx), (E + sx, 1)]).length = l.length + 2) := ⟨by simp⟩
    clear hl hE hsx hp1 hp2
    refine held_start_gen (S := (fun w' : World => ButB (w2k.heap.size) [] w2k w' ∧ ∀ bb o, bb < w2k.heap.size → w'.cell? ⟨bb, o, none⟩ = w2k.cell? ⟨bb, o, none⟩)) (by kernel_rfl) (fun wz : World => Kp (Below w.heap.size w wz) ∧ Kp (wz.heap[w.heap.size]? = some (.cells #[.slice pa C.parts.length pc, .slice ca C.chans.length cc, .int .i64 C.l0, .slice a0 C.w0.length c0, .int .i64 C.l1, .slice a1 C.w1.length c1] 29 (0, 0))) ∧ Kp (wz.heap[bd]? = some (.cells #[.slice pa C.parts.length pc, .slice va (C.chans.length + 1) vc, .int .i64 C.l0, .slice a0 C.w0.length c0, .int .i64 C.l1, .slice a1 C.w1.length c1] 29 (0, 0))) ∧ Kp (CfgAt wz (.agg #[.slice pa C.parts.length pc, .slice va (C.chans.length + 1) vc, .int .i64 C.l0, .slice a0 C.w0.length c0, .int .i64 C.l1, .slice a1 C.w1.length c1]) (withCh C (C.chans ++ [x]))) ∧ w2k.heap.size ≤ wz.heap.size) ⟨⟨below_dr HB2k.out⟩, ⟨blk_dr q2k.out⟩, ⟨blk_dr d2k.out⟩, ⟨CD2k.out.below (below_dr (Below.refl _ _))⟩, Nat.le_refl _⟩ (sx_of0 (ButB.dr (ButB.refl _ (by omega)))) (fun wd0 hRn hHeld => ?_)
    clear HB2k q2k d2k CD2k
    obtain ⟨HB2k, q2k, d2k, CD2k, hsz⟩ := hRn
    refine wpAnyH_take (i := 0) (oi := ⟨_, _, _, _, _, _⟩) (v := ?_) rfl (by kernel_rfl) (by kernel_rfl) (by kernel_rfl) (fun _ _ _ h => h) (Or.inl ⟨by rfl, ?_⟩) (by assumption) ?_
    rotate_left 1
    · (intro w hSw; go_simp; try with_reducible rfl)
    try simp only [Act.put, List.setIfInBounds_toArray, List.set_cons_zero, List.set_cons_succ]
    refine wpAnyH_take (i := 2) (oi := ⟨_, _, _, _, _, _⟩) (v := ?_) rfl (by kernel_rfl) (by kernel_rfl) (by kernel_rfl) (fun _ _ _ h => h) (Or.inl ⟨by rfl, ?_⟩) (by assumption) ?_
    rotate_left 1
    · (intro w hSw; go_simp; try with_reducible rfl)
    try simp only [Act.put, List.setIfInBounds_toArray, List.set_cons_zero, List.set_cons_succ]
    refine wpAnyH_ready (rs := [1]) (by kernel_rfl) (by simp) ?_
    refine (AllReadyH.cons (o := ⟨_, _, _, _, _, _⟩) rfl (fun K hK => ?_) AllReadyH.nil)
    go_simp
    go_at_call 28
    refine (told8_any 99 _ C hsm _ (HC.out.below HB2k.out)).mono ?_
    rw [HL.out, H1.out]
    rintro e w9 ⟨TAv, rfl, hO, hb⟩
    obtain ⟨TAa, TAc, rfl, TA1, TA2⟩ := (RowAt.of_own hO).shape
    try go_wp2_with fail
    refine out_gen hK _ _ (fun wz : World => Kp (Below w.heap.size w wz) ∧ Kp (wz.heap[w.heap.size]? = some (.cells #[.slice pa C.parts.length pc, .slice ca C.chans.length cc, .int .i64 C.l0, .slice a0 C.w0.length c0, .int .i64 C.l1, .slice a1 C.w1.length c1] 29 (0, 0))) ∧ Kp (wz.heap[bd]? = some (.cells #[.slice pa C.parts.length pc, .slice va (C.chans.length + 1) vc, .int .i64 C.l0, .slice a0 C.w0.length c0, .int .i64 C.l1, .slice a1 C.w1.length c1] 29 (0, 0))) ∧ Kp (CfgAt wz (.agg #[.slice pa C.parts.length pc, .slice va (C.chans.length + 1) vc, .int .i64 C.l0, .slice a0 C.w0.length c0, .int .i64 C.l1, .slice a1 C.w1.length c1]) (withCh C (C.chans ++ [x]))) ∧ Kp (RowAt wz 2 (.slice TAa (l.length) TAc) (l.length) ((l).flatMap spanC)) ∧ wd0.heap.size ≤ wz.heap.size) ⟨⟨below_call HB2k.out hb⟩, ⟨blk_below q2k.out hb⟩, ⟨blk_below d2k.out hb⟩, ⟨CD2k.out.below hb⟩, ⟨RowAt.of_own hO⟩, hb.size⟩ (sx_of0 (ButB.call (And.left hHeld) hb)) (fun wd1 hRn hHn => ?_)
    clear hK K hHeld HB2k q2k d2k CD2k hO hb
    obtain ⟨HB2k, q2k, d2k, CD2k, TA, hsz1⟩ := hRn
    have hHeld := hHn
    clear hHn
    try simp only [Act.put, List.setIfInBounds_toArray, List.set_cons_zero, List.set_cons_succ]
    refine wpAnyH_ready (rs := [3]) (by kernel_rfl) (by simp) ?_
    refine (AllReadyH.cons (o := ⟨_, _, _, _, _, _⟩) rfl (fun K hK => ?_) AllReadyH.nil)
    go_simp
    go_at_call 28
    refine (told8_any 99 _ (withCh C (C.chans ++ [x])) hsmD _ CD2k.out).mono ?_
    rw [HP1.out, H2.out, HLL.out]
    rintro e w9 ⟨TBv, rfl, hO, hb⟩
    obtain ⟨TBa, TBc, rfl, TB1, TB2⟩ := (RowAt.of_own hO).shape
    try go_wp2_with fail
    refine out_gen hK _ _ (fun wz : World => Kp (Below w.heap.size w wz) ∧ Kp (wz.heap[w.heap.size]? = some (.cells #[.slice pa C.parts.length pc, .slice ca C.chans.length cc, .int .i64 C.l0, .slice a0 C.w0.length c0, .int .i64 C.l1, .slice a1 C.w1.length c1] 29 (0, 0))) ∧ Kp (wz.heap[bd]? = some (.cells #[.slice pa C.parts.length pc, .slice va (C.chans.length + 1) vc, .int .i64 C.l0, .slice a0 C.w0.length c0, .int .i64 C.l1, .slice a1 C.w1.length c1] 29 (0, 0))) ∧ Kp (CfgAt wz (.agg #[.slice pa C.parts.length pc, .slice va (C.chans.length + 1) vc, .int .i64 C.l0, .slice a0 C.w0.length c0, .int .i64 C.l1, .slice a1 C.w1.length c1]) (withCh C (C.chans ++ [x]))) ∧ Kp (RowAt wz 2 (.slice TAa (l.length) TAc) (l.length) ((l).flatMap spanC)) ∧ Kp (RowAt wz 2 (.slice TBa (l.length + 2) TBc) (l.length + 2) ((l ++ [(E, sx), (E + sx, 1)]).flatMap spanC)) ∧ wd1.heap.size ≤ wz.heap.size) ⟨⟨below_call HB2k.out hb⟩, ⟨blk_below q2k.out hb⟩, ⟨blk_below d2k.out hb⟩, ⟨CD2k.out.below hb⟩, ⟨TA.out.below hb⟩, ⟨RowAt.of_own hO⟩, hb.size⟩ (sx_of0 (ButB.call (And.left hHeld) hb)) (fun wd2 hRn hHn => ?_)
    clear hK K hHeld HB2k q2k d2k CD2k TA hO hb
    obtain ⟨HB2k, q2k, d2k, CD2k, TA, TB, hsz2⟩ := hRn
    have hHeld := hHn
    clear hHn
    try simp only [Act.put, List.setIfInBounds_toArray, List.set_cons_zero, List.set_cons_succ]
    refine wpAnyH_take (i := 4) (oi := ⟨_, _, _, _, _, _⟩) (v := ?_) rfl (by kernel_rfl) (by kernel_rfl) (by kernel_rfl) (fun _ _ _ h => h) (Or.inl ⟨by rfl, ?_⟩) (by assumption) ?_
    rotate_left 1
    · (intro w hSw; go_simp; try with_reducible rfl)
    try simp only [Act.put, List.setIfInBounds_toArray, List.set_cons_zero, List.set_cons_succ]
    refine wpAnyH_take (i := 5) (oi := ⟨_, _, _, _, _, _⟩) (v := ?_) rfl (by kernel_rfl) (by kernel_rfl) (by kernel_rfl) (fun _ _ _ h => h) (Or.inl ⟨by rfl, ?_⟩) (by assumption) ?_
    rotate_left 1
    · (intro w hSw; go_simp; try with_reducible rfl)
    try simp only [Act.put, List.setIfInBounds_toArray, List.set_cons_zero, List.set_cons_succ]
    refine wpAnyH_done (by kernel_rfl) ?_ _
    have HA := TA
    have HBR := TB
    clear TA TB hHeld qc0k qc1k qc2k qc3k qc4k qc5k qlk dc0k dc1k dc2k dc3k dc4k dc5k dlk
    have hsl := fun w : World => run_slice_to (P := Try.prog) 53 49 Try.underlying53 (info_parts Try.infoSpan).choose_spec.1 TBa (l.length + 2) TBc l.length (by omega) w
    have lne : ((l.length : Int) + 2 != (l.length : Int) + 2) = false := by simp
    have s2 : IntKind.i64.wrap ((l.length : Int) + 2) = (l.length : Int) + 2 := IntWalk.i64_in _ (by omega)
    go_wp2_with fail
    refine (rsame8_any _ _ l l true (by simp) (by omega) (by omega) _ HA.out (by have h := RowAt.take HBR.out (show l.length ≤ l.length + 2 by omega); rw [take_flat, List.take_left] at h; exact h)).mono ?_
    rintro e wz ⟨rfl, hb⟩
    have HBz := Kp.mk (below_call HB2k.out hb)
    have HKz := Kp.mk (blk_below q2k.out hb)
    have HDz := Kp.mk (blk_below d2k.out hb)
    have HCz := Kp.mk (CD2k.out.below hb)
    have HRz := Kp.mk (HBR.out.below hb)
    clear hb HB2k q2k d2k CD2k HA HBR
    obtain ⟨g, o, hga, hg, hc⟩ := HRz.out.at (by omega)
    subst hga
    have e1 : wz.cell? ⟨g, o + l.length * 2 + 1, none⟩ = some (.int .i64 sx) := by
      have h1 := hc (l.length * 2 + 1) (by omega)
      rw [flat_at spanC 2 spanC_len _ l.length 1 (by rw [HLL.out]; omega) (by omega)] at h1
      rw [Nat.add_assoc]
      simpa [spanC] using h1
    have e3 : wz.cell? ⟨g, o + (l.length + 1) * 2 + 1, none⟩ = some (.int .i64 1) := by
      have h1 := hc ((l.length + 1) * 2 + 1) (by omega)
      rw [flat_at spanC 2 spanC_len _ (l.length + 1) 1 (by rw [HLL.out]; omega) (by omega)] at h1
      rw [Nat.add_assoc]
      simpa [spanC] using h1
    have q0 : wz.cell? ⟨w.heap.size, 0, none⟩ = some (.slice pa C.parts.length pc) := (cell_blk HKz.out 0).trans rfl
    have q1 : wz.cell? ⟨w.heap.size, 1, none⟩ = some (.slice ca C.chans.length cc) := (cell_blk HKz.out 1).trans rfl
    have q2 : wz.cell? ⟨w.heap.size, 2, none⟩ = some (.int .i64 C.l0) := (cell_blk HKz.out 2).trans rfl
    have q3 : wz.cell? ⟨w.heap.size, 3, none⟩ = some (.slice a0 C.w0.length c0) := (cell_blk HKz.out 3).trans rfl
    have q4 : wz.cell? ⟨w.heap.size, 4, none⟩ = some (.int .i64 C.l1) := (cell_blk HKz.out 4).trans rfl
    have q5 : wz.cell? ⟨w.heap.size, 5, none⟩ = some (.slice a1 C.w1.length c1) := (cell_blk HKz.out 5).trans rfl
    have lq := blk_lt HKz.out
    have ld := blk_lt HDz.out
    have d0 : wz.cell? ⟨bd, 0, none⟩ = some (.slice pa C.parts.length pc) := (cell_blk HDz.out 0).trans rfl
    have d1 : wz.cell? ⟨bd, 1, none⟩ = some (.slice va (C.chans.length + 1) vc) := (cell_blk HDz.out 1).trans rfl
    have d2 : wz.cell? ⟨bd, 2, none⟩ = some (.int .i64 C.l0) := (cell_blk HDz.out 2).trans rfl
    have d3 : wz.cell? ⟨bd, 3, none⟩ = some (.slice a0 C.w0.length c0) := (cell_blk HDz.out 3).trans rfl
    have d4 : wz.cell? ⟨bd, 4, none⟩ = some (.int .i64 C.l1) := (cell_blk HDz.out 4).trans rfl
    have d5 : wz.cell? ⟨bd, 5, none⟩ = some (.slice a1 C.w1.length c1) := (cell_blk HDz.out 5).trans rfl
    have s3 : IntKind.i64.wrap ((l.length : Int) + 1) = (l.length : Int) + 1 := IntWalk.i64_in _ (by omega)
    have s4 : IntKind.i64.wrap (E + sx) = E + sx := IntWalk.i64_in _ (by omega)
    have s5 : IntKind.i64.wrap (E + sx + 1) = E + sx + 1 := IntWalk.i64_in _ (by omega)
    have i1 : (l.length : Int) < (l.length : Int) + 2 := by omega
    have i2 : (l.length : Int) + 1 < (l.length : Int) + 2 := by omega
    have i3 : ((l.length : Int) + 1).toNat = l.length + 1 := by omega
    have i4 : 0 ≤ (l.length : Int) + 1 := by omega
    clear hc
    go_wp2_with fail
    refine held_start_gen (S := (fun w' : World => ButB (wz.heap.size) [] wz w' ∧ ∀ bb o, bb < wz.heap.size → w'.cell? ⟨bb, o, none⟩ = wz.cell? ⟨bb, o, none⟩)) (by kernel_rfl) (fun wz : World => Kp (Below w.heap.size w wz) ∧ Kp (CfgAt wz (.agg #[.slice pa C.parts.length pc, .slice va (C.chans.length + 1) vc, .int .i64 C.l0, .slice a0 C.w0.length c0, .int .i64 C.l1, .slice a1 C.w1.length c1]) (withCh C (C.chans ++ [x]))) ∧ wz.heap.size ≤ wz.heap.size) ⟨⟨below_dr HBz.out⟩, ⟨HCz.out.below (below_dr (Below.refl _ _))⟩, Nat.le_refl _⟩ (sx_of0 (ButB.dr (ButB.refl _ (by omega)))) (fun wd0 hRn hHeld => ?_)
    clear HBz HCz
    obtain ⟨HBz, HCz, hsz⟩ := hRn
    refine wpAnyH_take (i := 0) (oi := ⟨_, _, _, _, _, _⟩) (v := ?_) rfl (by kernel_rfl) (by kernel_rfl) (by kernel_rfl) (fun _ _ _ h => h) (Or.inl ⟨by rfl, ?_⟩) (by assumption) ?_
    rotate_left 1
    · (intro w hSw; go_simp; try with_reducible rfl)
    try simp only [Act.put, List.setIfInBounds_toArray, List.set_cons_zero, List.set_cons_succ]
    refine wpAnyH_take (i := 2) (oi := ⟨_, _, _, _, _, _⟩) (v := ?_) rfl (by kernel_rfl) (by kernel_rfl) (by kernel_rfl) (fun _ _ _ h => h) (Or.inl ⟨by rfl, ?_⟩) (by assumption) ?_
    rotate_left 1
    · (intro w hSw; go_simp; try with_reducible rfl)
    try simp only [Act.put, List.setIfInBounds_toArray, List.set_cons_zero, List.set_cons_succ]
    refine wpAnyH_take (i := 4) (oi := ⟨_, _, _, _, _, _⟩) (v := ?_) rfl (by kernel_rfl) (by kernel_rfl) (by kernel_rfl) (fun _ _ _ h => h) (Or.inl ⟨by rfl, ?_⟩) (by assumption) ?_
    rotate_left 1
    · (intro w hSw; go_simp; try with_reducible rfl)
    try simp only [Act.put, List.setIfInBounds_toArray, List.set_cons_zero, List.set_cons_succ]
    refine wpAnyH_take (i := 5) (oi := ⟨_, _, _, _, _, _⟩) (v := ?_) rfl (by kernel_rfl) (by kernel_rfl) (by kernel_rfl) (fun _ _ _ h => h) (Or.inl ⟨by rfl, ?_⟩) (by assumption) ?_
    rotate_left 1
    · (intro w hSw; go_simp; try with_reducible rfl)
    try simp only [Act.put, List.setIfInBounds_toArray, List.set_cons_zero, List.set_cons_succ]
    refine wpAnyH_take (i := 6) (oi := ⟨_, _, _, _, _, _⟩) (v := ?_) rfl (by kernel_rfl) (by kernel_rfl) (by kernel_rfl) (fun _ _ _ h => h) (Or.inl ⟨by rfl, ?_⟩) (by assumption) ?_
    rotate_left 1
    · (intro w hSw; go_simp; try with_reducible rfl)
    try simp only [Act.put, List.setIfInBounds_toArray, List.set_cons_zero, List.set_cons_succ]
    refine wpAnyH_take (i := 7) (oi := ⟨_, _, _, _, _, _⟩) (v := ?_) rfl (by kernel_rfl) (by kernel_rfl) (by kernel_rfl) (fun _ _ _ h => h) (Or.inl ⟨by rfl, ?_⟩) (by assumption) ?_
    rotate_left 1
    · (intro w hSw; go_simp; try with_reducible rfl)
    try simp only [Act.put, List.setIfInBounds_toArray, List.set_cons_zero, List.set_cons_succ]
    refine wpAnyH_take (i := 8) (oi := ⟨_, _, _, _, _, _⟩) (v := ?_) rfl (by kernel_rfl) (by kernel_rfl) (by kernel_rfl) (fun _ _ _ h => h) (Or.inl ⟨by rfl, ?_⟩) (by assumption) ?_
    rotate_left 1
    · (intro w hSw; go_simp; try with_reducible rfl)
    try simp only [Act.put, List.setIfInBounds_toArray, List.set_cons_zero, List.set_cons_succ]
    refine wpAnyH_take (i := 9) (oi := ⟨_, _, _, _, _, _⟩) (v := ?_) rfl (by kernel_rfl) (by kernel_rfl) (by kernel_rfl) (fun _ _ _ h => h) (Or.inl ⟨by rfl, ?_⟩) (by assumption) ?_
    rotate_left 1
    · (intro w hSw; go_simp; try with_reducible rfl)
    try simp only [Act.put, List.setIfInBounds_toArray, List.set_cons_zero, List.set_cons_succ]
    refine wpAnyH_ready (rs := [1]) (by kernel_rfl) (by simp) ?_
    refine (AllReadyH.cons (o := ⟨_, _, _, _, _, _⟩) rfl (fun K hK => ?_) AllReadyH.nil)
    go_simp
    go_at_call 30
    refine (size_any _ (withCh C (C.chans ++ [x])) hsmD _ HCz.out).mono ?_
    rw [HP2.out]
    rintro e w9 ⟨rfl, hb⟩
    try go_wp2_with fail
    refine out_gen hK _ _ (fun wz : World => Kp (Below w.heap.size w wz) ∧ Kp (CfgAt wz (.agg #[.slice pa C.parts.length pc, .slice va (C.chans.length + 1) vc, .int .i64 C.l0, .slice a0 C.w0.length c0, .int .i64 C.l1, .slice a1 C.w1.length c1]) (withCh C (C.chans ++ [x]))) ∧ wd0.heap.size ≤ wz.heap.size) ⟨⟨below_call HBz.out hb⟩, ⟨HCz.out.below hb⟩, hb.size⟩ (sx_of0 (ButB.call (And.left hHeld) hb)) (fun wd1 hRn hHn => ?_)
    clear hK K hHeld HBz HCz hb
    obtain ⟨HBz, HCz, hsz1⟩ := hRn
    have hHeld := hHn
    clear hHn
    try simp only [Act.put, List.setIfInBounds_toArray, List.set_cons_zero, List.set_cons_succ]
    refine wpAnyH_ready (rs := [3]) (by kernel_rfl) (by simp) ?_
    refine (AllReadyH.cons (o := ⟨_, _, _, _, _, _⟩) rfl (fun K hK => ?_) AllReadyH.nil)
    go_simp
    go_at_call 30
    refine (size_any _ C hsm _ (HC.out.below HBz.out)).mono ?_
    rw [HE.out]
    rintro e w9 ⟨rfl, hb⟩
    try go_wp2_with fail
    refine out_gen hK _ _ (fun wz : World => Kp (Below w.heap.size w wz) ∧ Kp (CfgAt wz (.agg #[.slice pa C.parts.length pc, .slice va (C.chans.length + 1) vc, .int .i64 C.l0, .slice a0 C.w0.length c0, .int .i64 C.l1, .slice a1 C.w1.length c1]) (withCh C (C.chans ++ [x]))) ∧ wd1.heap.size ≤ wz.heap.size) ⟨⟨below_call HBz.out hb⟩, ⟨HCz.out.below hb⟩, hb.size⟩ (sx_of0 (ButB.call (And.left hHeld) hb)) (fun wd2 hRn hHn => ?_)
    clear hK K hHeld HBz HCz hb
    obtain ⟨HBz, HCz, hsz2⟩ := hRn
    have hHeld := hHn
    clear hHn
    try simp only [Act.put, List.setIfInBounds_toArray, List.set_cons_zero, List.set_cons_succ]
    refine wpAnyH_take (i := 10) (oi := ⟨_, _, _, _, _, _⟩) (v := ?_) rfl (by kernel_rfl) (by kernel_rfl) (by kernel_rfl) (fun _ _ _ h => h) (Or.inl ⟨by rfl, ?_⟩) (by assumption) ?_
    rotate_left 1
    · (intro w hSw; go_simp; try with_reducible rfl)
    try simp only [Act.put, List.setIfInBounds_toArray, List.set_cons_zero, List.set_cons_succ]
    refine wpAnyH_take (i := 11) (oi := ⟨_, _, _, _, _, _⟩) (v := ?_) rfl (by kernel_rfl) (by kernel_rfl) (by kernel_rfl) (fun _ _ _ h => h) (Or.inl ⟨by rfl, ?_⟩) (by assumption) ?_
    rotate_left 1
    · (intro w hSw; go_simp; try with_reducible rfl)
    try simp only [Act.put, List.setIfInBounds_toArray, List.set_cons_zero, List.set_cons_succ]
    refine wpAnyH_take (i := 12) (oi := ⟨_, _, _, _, _, _⟩) (v := ?_) rfl (by kernel_rfl) (by kernel_rfl) (by kernel_rfl) (fun _ _ _ h => h) (Or.inl ⟨by rfl, ?_⟩) (by assumption) ?_
    rotate_left 1
    · (intro w hSw; go_simp; try with_reducible rfl)
    try simp only [Act.put, List.setIfInBounds_toArray, List.set_cons_zero, List.set_cons_succ]
    refine wpAnyH_take (i := 13) (oi := ⟨_, _, _, _, _, _⟩) (v := ?_) rfl (by kernel_rfl) (by kernel_rfl) (by kernel_rfl) (fun _ _ _ h => h) (Or.inl ⟨by rfl, ?_⟩) (by assumption) ?_
    rotate_left 1
    · (intro w hSw; go_simp; try with_reducible rfl)
    try simp only [Act.put, List.setIfInBounds_toArray, List.set_cons_zero, List.set_cons_succ]
    refine wpAnyH_take (i := 14) (oi := ⟨_, _, _, _, _, _⟩) (v := ?_) rfl (by kernel_rfl) (by kernel_rfl) (by kernel_rfl) (fun _ _ _ h => h) (Or.inl ⟨by rfl, ?_⟩) (by assumption) ?_
    rotate_left 1
    · (intro w hSw; go_simp; try with_reducible rfl)
    try simp only [Act.put, List.setIfInBounds_toArray, List.set_cons_zero, List.set_cons_succ]
    refine wpAnyH_take (i := 15) (oi := ⟨_, _, _, _, _, _⟩) (v := ?_) rfl (by kernel_rfl) (by kernel_rfl) (by kernel_rfl) (fun _ _ _ h => h) (Or.inl ⟨by rfl, ?_⟩) (by assumption) ?_
    rotate_left 1
    · (intro w hSw; go_simp; try with_reducible rfl)
    try simp only [Act.put, List.setIfInBounds_toArray, List.set_cons_zero, List.set_cons_succ]
    refine wpAnyH_take (i := 16) (oi := ⟨_, _, _, _, _, _⟩) (v := ?_) rfl (by kernel_rfl) (by kernel_rfl) (by kernel_rfl) (fun _ _ _ h => h) (Or.inl ⟨by rfl, ?_⟩) (by assumption) ?_
    rotate_left 1
    · (intro w hSw; go_simp; try with_reducible rfl)
    try simp only [Act.put, List.setIfInBounds_toArray, List.set_cons_zero, List.set_cons_succ]
    refine wpAnyH_take (i := 17) (oi := ⟨_, _, _, _, _, _⟩) (v := ?_) rfl (by kernel_rfl) (by kernel_rfl) (by kernel_rfl) (fun _ _ _ h => h) (Or.inl ⟨by rfl, ?_⟩) (by assumption) ?_
    rotate_left 1
    · (intro w hSw; go_simp; try with_reducible rfl)
    try simp only [Act.put, List.setIfInBounds_toArray, List.set_cons_zero, List.set_cons_succ]
    refine wpAnyH_take (i := 18) (oi := ⟨_, _, _, _, _, _⟩) (v := ?_) rfl (by kernel_rfl) (by kernel_rfl) (by kernel_rfl) (fun _ _ _ h => h) (Or.inl ⟨by rfl, ?_⟩) (by assumption) ?_
    rotate_left 1
    · (intro w hSw; go_simp; try with_reducible rfl)
    try simp only [Act.put, List.setIfInBounds_toArray, List.set_cons_zero, List.set_cons_succ]
    refine wpAnyH_take (i := 19) (oi := ⟨_, _, _, _, _, _⟩) (v := ?_) rfl (by kernel_rfl) (by kernel_rfl) (by kernel_rfl) (fun _ _ _ h => h) (Or.inl ⟨by rfl, ?_⟩) (by assumption) ?_
    rotate_left 1
    · (intro w hSw; go_simp; try with_reducible rfl)
    try simp only [Act.put, List.setIfInBounds_toArray, List.set_cons_zero, List.set_cons_succ]
    refine wpAnyH_take (i := 20) (oi := ⟨_, _, _, _, _, _⟩) (v := ?_) rfl (by kernel_rfl) (by kernel_rfl) (by kernel_rfl) (fun _ _ _ h => h) (Or.inl ⟨by rfl, ?_⟩) (by assumption) ?_
    rotate_left 1
    · (intro w hSw; go_simp; try with_reducible rfl)
    try simp only [Act.put, List.setIfInBounds_toArray, List.set_cons_zero, List.set_cons_succ]
    refine wpAnyH_take (i := 21) (oi := ⟨_, _, _, _, _, _⟩) (v := ?_) rfl (by kernel_rfl) (by kernel_rfl) (by kernel_rfl) (fun _ _ _ h => h) (Or.inl ⟨by rfl, ?_⟩) (by assumption) ?_
    rotate_left 1
    · (intro w hSw; go_simp; try with_reducible rfl)
    try simp only [Act.put, List.setIfInBounds_toArray, List.set_cons_zero, List.set_cons_succ]
    refine wpAnyH_take (i := 22) (oi := ⟨_, _, _, _, _, _⟩) (v := ?_) rfl (by kernel_rfl) (by kernel_rfl) (by kernel_rfl) (fun _ _ _ h => h) (Or.inl ⟨by rfl, ?_⟩) (by assumption) ?_
    rotate_left 1
    · (intro w hSw; go_simp; try with_reducible rfl)
    try simp only [Act.put, List.setIfInBounds_toArray, List.set_cons_zero, List.set_cons_succ]
    refine wpAnyH_take (i := 23) (oi := ⟨_, _, _, _, _, _⟩) (v := ?_) rfl (by kernel_rfl) (by kernel_rfl) (by kernel_rfl) (fun _ _ _ h => h) (Or.inl ⟨by rfl, ?_⟩) (by assumption) ?_
    rotate_left 1
    · (intro w hSw; go_simp; try with_reducible rfl)
    try simp only [Act.put, List.setIfInBounds_toArray, List.set_cons_zero, List.set_cons_succ]
    refine wpAnyH_done (by kernel_rfl) ?_ _
    go_wp2
    go_ret
    exact ⟨rfl, HBz.out⟩
    

theorem layoutGrows_any (v0 v1 : Value) (w : World) (h0 : RdV w cfgSh v0) (h1 : RdV w chanSh v1) : Calls Try.prog 9 #[v0, v1] w fun e w' => e = .returned (.bool true) ∧ Below w.heap.size w w' := by
  obtain ⟨C, hC⟩ := cfgAt_of h0
  obtain ⟨cs, rfl, h1⟩ : ∃ cs : List Value, v1 = .agg cs.toArray ∧ Rd w chanSh cs := h1
  obtain ⟨x, rfl, hx⟩ := chanSh_of cs h1
  cases hg : C.great with
  | true => exact layoutGrows_great v0 C x hx hg w hC
  | false =>
    cases ha : accB C with
    | false => exact layoutGrows_no v0 C x hx hg ha w hC
    | true =>
      cases hd : accB (withCh C (C.chans ++ [x])) with
      | false => exact layoutGrows_dno v0 C x hx hg ha hd w hC
      | true => exact layoutGrows_core v0 C x hx hg ha hd w hC
end Go.Proofs.Ytpeajlponlmceaa

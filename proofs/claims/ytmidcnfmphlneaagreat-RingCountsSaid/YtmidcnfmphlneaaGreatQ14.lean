/- Contracts of package ring: a step of an op, whatever its closure does; its own number.; Contracts of package ring: a count and a receive that have done nothing.; The iterator of package ring: what a cell is to have, word by word, with the addresses.; A region that draws its order, in a round of a loop over a function; blocks told apart by their types. Nothing of the program. -/
import Derived.Test.YtmidcnfmphlneaaGreatQ13
import Derived.Test.YtmidcnfmphlneaaGreatQ3
import Derived.RangeFuncNested
import Derived.RangeFuncBound
import Derived.RangeFuncCalls
import Derived.RangeFuncLeaves
import Derived.Shelf.Abstract
import Derived.Shelf.RegionOpen
import Derived.WalkKit
import Derived.OwnWalkIn
import Derived.TacticsInMore
import Derived.LoopNIn
import Derived.LoopIn
import Derived.Test.YtmidcnfmphlneaaGreatQ11
namespace Go.Proofs.YtmidcnfmphlneaaGreat
section
open Go.RowKit
set_option linter.unusedSimpArgs false
set_option linter.unusedVariables false
theorem Tryz.infoStep : (Tryz.prog.info? 133).map (fun i => (i.zero, i.size, i.bytes)) = some (some .nilFunc, 1, 8) := by kernel_rfl
theorem opown_any (O : Nat) (own : Int) (lv : Value) (w : World) (hO : w.heap[O]? = some (.cells #[.int .u32 own, lv] 132 (0, 0))) : Calls Tryz.prog 41 #[.pointer (some ⟨O, 0, none⟩)] w fun e w' => e = .returned (.int .u32 own) ∧ w' = w := by
  have o0 := cbk hO 0 (.int .u32 own) rfl
  have ol := blk_lt hO
  go_enter Tryz.func41, Tryz.ntmps41
  go_wp2
  go_ret
  exact ⟨rfl, rfl⟩
def leftV (a : Option Addr) (n cap : Nat) : Value := .slice (if cap = 1 then a else a.map (·.add 1)) n (cap - 1)
def stepW0 (w : World) (O : Nat) (v : Value) : World := (w.setCell ⟨O, 1, none⟩ v).alloc (.cells #[.bool false, .int .i64 0, .slice none 0 0, .bool false, .int .i64 0, .bool false, .bool false, .bool false, .int .i64 0] 64)
set_option maxRecDepth 100000 in
set_option maxHeartbeats 4000000 in
theorem opstep_false (O B BB : Nat) (own now : Int) (g off n cap : Nat) (fn : FuncId) (caps : Array Value) (d1 : Int) (d2 : Option Addr) (d3 d4 : Nat) (d5 : Bool) (d6 : Int) (d7 d8 d9 : Bool) (d10 : Int) (Mid : World → Prop) (w : World) (hO : w.heap[O]? = some (.cells #[.int .u32 own, .slice (some ⟨g, off, none⟩) (n + 1) cap] 132 (0, 0))) (hcap : 1 ≤ cap) (hn : n ≤ 1000) (hg : g < w.heap.size) (hgO : g ≠ O) (hcell : w.cell? ⟨g, off, none⟩ = some (FV fn caps)) (hE : Enters fn)
    (hcl : Calls Tryz.prog fn (#[.agg #[.pointer (some ⟨B, 0, none⟩), .pointer (some ⟨BB, 0, none⟩)]] ++ caps) (stepW0 w O (leftV (some ⟨g, off, none⟩) n cap)) fun e w2 => e = .returned (.agg #[.bool false, .int .i64 d1, .slice d2 d3 d4, .bool d5, .int .i64 d6, .bool d7, .bool d8, .bool d9, .int .i64 d10]) ∧ Mid w2) (hkeep : ∀ w2, Mid w2 → w2.heap[w.heap.size]? = some (.cells #[.bool false, .int .i64 0, .slice none 0 0, .bool false, .int .i64 0, .bool false, .bool false, .bool false, .int .i64 0] 64 (0, 0)) ∧ ∃ ow lv, w2.heap[O]? = some (.cells #[ow, lv] 132 (0, 0))) :
    Calls Tryz.prog 36 #[.pointer (some ⟨O, 0, none⟩), .pointer (some ⟨B, 0, none⟩), .pointer (some ⟨BB, 0, none⟩), .int .i64 now] w fun e w' => e = .returned (.agg #[.bool false, .int .i64 d1, .slice d2 d3 d4, .bool d5, .int .i64 d6, .bool d7, .bool d8, .bool d9, .int .i64 d10]) ∧ ∃ w2, Mid w2 ∧ ButS [w.heap.size] w2 w' := by
  obtain ⟨i0, hi, hz0, hz1, hz2⟩ := info_parts Tryz.infoStep
  have hsl := fun w => run_slice_from 130 133 Tryz.underlying130 hi (some ⟨g, off, none⟩) n cap hcap w
  rw [hz1] at hsl
  obtain ⟨na, hna⟩ : ∃ na : Option Addr, (if cap = 1 then (some ⟨g, off, none⟩ : Option Addr) else (some ⟨g, off, none⟩ : Option Addr).map (·.add 1)) = na := ⟨_, rfl⟩
  unfold leftV at hcl
  rw [hna] at hcl hsl
  unfold stepW0 at hcl
  have HCL := Kp.mk hcl
  have HKE := Kp.mk hkeep
  have HO := Kp.mk hO
  have o1 := cbk hO 1 (.slice (some ⟨g, off, none⟩) (n + 1) cap) rfl
  have f1 := frozen_blk hO 1
  have ol := blk_lt hO
  have hE' := hE.out
  have hnz : ¬ ((n : Int) + 1 = 0) := by omega
  have hnz2 : ((n : Int) + 1 == 0) = false := by simp; omega
  unfold FV at hcell
  clear hcl hkeep hO hna hE hi hz0 hz1 hz2
  go_enter Tryz.func36, Tryz.ntmps36
  go_wp2_with fail
  refine HCL.out.mono ?_
  rintro e w2 ⟨rfl, hm⟩
  have hk := HKE.out w2 hm
  have HMD := Kp.mk hm
  have D2 := Kp.mk hk.1
  obtain ⟨ow, lv, hO2⟩ := hk.2
  have HO2 := Kp.mk hO2
  have dc0 := cbk D2.out 0 (.bool false) rfl
  have df0 := frozen_blk D2.out 0
  have dc1 := cbk D2.out 1 (.int .i64 0) rfl
  have df1 := frozen_blk D2.out 1
  have dc2 := cbk D2.out 2 (.slice none 0 0) rfl
  have df2 := frozen_blk D2.out 2
  have dc3 := cbk D2.out 3 (.bool false) rfl
  have df3 := frozen_blk D2.out 3
  have dc4 := cbk D2.out 4 (.int .i64 0) rfl
  have df4 := frozen_blk D2.out 4
  have dc5 := cbk D2.out 5 (.bool false) rfl
  have df5 := frozen_blk D2.out 5
  have dc6 := cbk D2.out 6 (.bool false) rfl
  have df6 := frozen_blk D2.out 6
  have dc7 := cbk D2.out 7 (.bool false) rfl
  have df7 := frozen_blk D2.out 7
  have dc8 := cbk D2.out 8 (.int .i64 0) rfl
  have df8 := frozen_blk D2.out 8
  have dl := blk_lt D2.out
  have p1 : w2.cell? ⟨O, 1, none⟩ = some lv := (cell_blk hO2 1).trans rfl
  have p2 := frozen_blk hO2 1
  have ol2 := blk_lt hO2
  have hOd : O ≠ w.heap.size := by omega
  clear hk hm hO2 HCL HKE
  go_wp2
  exact bodyPost_ret (v := .agg #[.bool false, .int .i64 d1, .slice d2 d3 d4, .bool d5, .int .i64 d6, .bool d7, .bool d8, .bool d9, .int .i64 d10]) (results_cell_row rfl _ _ _ _ _ _ _ rfl ((blk_al (blk_set (blk_set (blk_set (blk_set (blk_set (blk_set (blk_set (blk_set (blk_set D2.out 0 (.bool false)) 1 (.int .i64 d1)) 2 (.slice d2 d3 d4)) 3 (.bool d5)) 4 (.int .i64 d6)) 5 (.bool d7)) 6 (.bool d8)) 7 (.bool d9)) 8 (.int .i64 d10)) _).trans rfl) Tryz.underlying64 rfl (by kernel_rfl)) rfl ⟨rfl, w2, HMD.out, (ButS.al (ButS.set (ButS.set (ButS.set (ButS.set (ButS.set (ButS.set (ButS.set (ButS.set (ButS.set (ButS.refl [w.heap.size] w2) (p := ⟨w.heap.size, 0, none⟩) (by simp) (.bool false)) (p := ⟨w.heap.size, 1, none⟩) (by simp) (.int .i64 d1)) (p := ⟨w.heap.size, 2, none⟩) (by simp) (.slice d2 d3 d4)) (p := ⟨w.heap.size, 3, none⟩) (by simp) (.bool d5)) (p := ⟨w.heap.size, 4, none⟩) (by simp) (.int .i64 d6)) (p := ⟨w.heap.size, 5, none⟩) (by simp) (.bool d7)) (p := ⟨w.heap.size, 6, none⟩) (by simp) (.bool d8)) (p := ⟨w.heap.size, 7, none⟩) (by simp) (.bool d9)) (p := ⟨w.heap.size, 8, none⟩) (by simp) (.int .i64 d10)) _)⟩
set_option maxRecDepth 100000 in
set_option maxHeartbeats 4000000 in
theorem opstep_true (O B BB : Nat) (own now : Int) (g off n cap : Nat) (fn : FuncId) (caps : Array Value) (d1 : Int) (d2 : Option Addr) (d3 d4 : Nat) (d5 : Bool) (d6 : Int) (d7 d8 d9 : Bool) (d10 : Int) (Mid : World → Prop) (w : World) (hO : w.heap[O]? = some (.cells #[.int .u32 own, .slice (some ⟨g, off, none⟩) (n + 1) cap] 132 (0, 0))) (hcap : 1 ≤ cap) (hn : n ≤ 1000) (hg : g < w.heap.size) (hgO : g ≠ O) (hcell : w.cell? ⟨g, off, none⟩ = some (FV fn caps)) (hE : Enters fn)
    (hcl : Calls Tryz.prog fn (#[.agg #[.pointer (some ⟨B, 0, none⟩), .pointer (some ⟨BB, 0, none⟩)]] ++ caps) (stepW0 w O (leftV (some ⟨g, off, none⟩) n cap)) fun e w2 => e = .returned (.agg #[.bool true, .int .i64 d1, .slice d2 d3 d4, .bool d5, .int .i64 d6, .bool d7, .bool d8, .bool d9, .int .i64 d10]) ∧ Mid w2) (hkeep : ∀ w2, Mid w2 → w2.heap[w.heap.size]? = some (.cells #[.bool false, .int .i64 0, .slice none 0 0, .bool false, .int .i64 0, .bool false, .bool false, .bool false, .int .i64 0] 64 (0, 0)) ∧ ∃ ow lv, w2.heap[O]? = some (.cells #[ow, lv] 132 (0, 0))) :
    Calls Tryz.prog 36 #[.pointer (some ⟨O, 0, none⟩), .pointer (some ⟨B, 0, none⟩), .pointer (some ⟨BB, 0, none⟩), .int .i64 now] w fun e w' => e = .returned (.agg #[.bool true, .int .i64 d1, .slice d2 d3 d4, .bool d5, .int .i64 d6, .bool d7, .bool d8, .bool d9, .int .i64 d10]) ∧ ∃ w2, Mid w2 ∧ ButS [w.heap.size, O] w2 w' ∧ (∀ ow lv, w2.heap[O]? = some (.cells #[ow, lv] 132 (0, 0)) → w'.heap[O]? = some (.cells #[ow, .slice none 0 0] 132 (0, 0))) := by
  obtain ⟨i0, hi, hz0, hz1, hz2⟩ := info_parts Tryz.infoStep
  have hsl := fun w => run_slice_from 130 133 Tryz.underlying130 hi (some ⟨g, off, none⟩) n cap hcap w
  rw [hz1] at hsl
  obtain ⟨na, hna⟩ : ∃ na : Option Addr, (if cap = 1 then (some ⟨g, off, none⟩ : Option Addr) else (some ⟨g, off, none⟩ : Option Addr).map (·.add 1)) = na := ⟨_, rfl⟩
  unfold leftV at hcl
  rw [hna] at hcl hsl
  unfold stepW0 at hcl
  have HCL := Kp.mk hcl
  have HKE := Kp.mk hkeep
  have HO := Kp.mk hO
  have o1 := cbk hO 1 (.slice (some ⟨g, off, none⟩) (n + 1) cap) rfl
  have f1 := frozen_blk hO 1
  have ol := blk_lt hO
  have hE' := hE.out
  have hnz : ¬ ((n : Int) + 1 = 0) := by omega
  have hnz2 : ((n : Int) + 1 == 0) = false := by simp; omega
  unfold FV at hcell
  clear hcl hkeep hO hna hE hi hz0 hz1 hz2
  go_enter Tryz.func36, Tryz.ntmps36
  go_wp2_with fail
  refine HCL.out.mono ?_
  rintro e w2 ⟨rfl, hm⟩
  have hk := HKE.out w2 hm
  have HMD := Kp.mk hm
  have D2 := Kp.mk hk.1
  obtain ⟨ow, lv, hO2⟩ := hk.2
  have HO2 := Kp.mk hO2
  have dc0 := cbk D2.out 0 (.bool false) rfl
  have df0 := frozen_blk D2.out 0
  have dc1 := cbk D2.out 1 (.int .i64 0) rfl
  have df1 := frozen_blk D2.out 1
  have dc2 := cbk D2.out 2 (.slice none 0 0) rfl
  have df2 := frozen_blk D2.out 2
  have dc3 := cbk D2.out 3 (.bool false) rfl
  have df3 := frozen_blk D2.out 3
  have dc4 := cbk D2.out 4 (.int .i64 0) rfl
  have df4 := frozen_blk D2.out 4
  have dc5 := cbk D2.out 5 (.bool false) rfl
  have df5 := frozen_blk D2.out 5
  have dc6 := cbk D2.out 6 (.bool false) rfl
  have df6 := frozen_blk D2.out 6
  have dc7 := cbk D2.out 7 (.bool false) rfl
  have df7 := frozen_blk D2.out 7
  have dc8 := cbk D2.out 8 (.int .i64 0) rfl
  have df8 := frozen_blk D2.out 8
  have dl := blk_lt D2.out
  have p1 : w2.cell? ⟨O, 1, none⟩ = some lv := (cell_blk hO2 1).trans rfl
  have p2 := frozen_blk hO2 1
  have ol2 := blk_lt hO2
  have hOd : O ≠ w.heap.size := by omega
  clear hk hm hO2 HCL HKE
  go_wp2
  exact bodyPost_ret (v := .agg #[.bool true, .int .i64 d1, .slice d2 d3 d4, .bool d5, .int .i64 d6, .bool d7, .bool d8, .bool d9, .int .i64 d10]) (results_cell_row rfl _ _ _ _ _ _ _ rfl ((blk_al (blk_set (blk_set (blk_set (blk_set (blk_set (blk_set (blk_set (blk_set (blk_set (blk_set_ne (p := ⟨O, 1, none⟩) D2.out (by show w.heap.size ≠ O; omega) _) 0 (.bool true)) 1 (.int .i64 d1)) 2 (.slice d2 d3 d4)) 3 (.bool d5)) 4 (.int .i64 d6)) 5 (.bool d7)) 6 (.bool d8)) 7 (.bool d9)) 8 (.int .i64 d10)) _).trans rfl) Tryz.underlying64 rfl (by kernel_rfl)) rfl ⟨rfl, w2, HMD.out, (ButS.al (ButS.set (ButS.set (ButS.set (ButS.set (ButS.set (ButS.set (ButS.set (ButS.set (ButS.set (ButS.set (ButS.refl [w.heap.size, O] w2) (p := ⟨O, 1, none⟩) (by simp) _) (p := ⟨w.heap.size, 0, none⟩) (by simp) (.bool true)) (p := ⟨w.heap.size, 1, none⟩) (by simp) (.int .i64 d1)) (p := ⟨w.heap.size, 2, none⟩) (by simp) (.slice d2 d3 d4)) (p := ⟨w.heap.size, 3, none⟩) (by simp) (.bool d5)) (p := ⟨w.heap.size, 4, none⟩) (by simp) (.int .i64 d6)) (p := ⟨w.heap.size, 5, none⟩) (by simp) (.bool d7)) (p := ⟨w.heap.size, 6, none⟩) (by simp) (.bool d8)) (p := ⟨w.heap.size, 7, none⟩) (by simp) (.bool d9)) (p := ⟨w.heap.size, 8, none⟩) (by simp) (.int .i64 d10)) _), fun ow lv h => (blk_al (blk_set_ne (p := ⟨w.heap.size, 8, none⟩) (blk_set_ne (p := ⟨w.heap.size, 7, none⟩) (blk_set_ne (p := ⟨w.heap.size, 6, none⟩) (blk_set_ne (p := ⟨w.heap.size, 5, none⟩) (blk_set_ne (p := ⟨w.heap.size, 4, none⟩) (blk_set_ne (p := ⟨w.heap.size, 3, none⟩) (blk_set_ne (p := ⟨w.heap.size, 2, none⟩) (blk_set_ne (p := ⟨w.heap.size, 1, none⟩) (blk_set_ne (p := ⟨w.heap.size, 0, none⟩) ((blk_set h 1 _).trans rfl) (by show O ≠ w.heap.size; omega) (.bool true)) (by show O ≠ w.heap.size; omega) (.int .i64 d1)) (by show O ≠ w.heap.size; omega) (.slice d2 d3 d4)) (by show O ≠ w.heap.size; omega) (.bool d5)) (by show O ≠ w.heap.size; omega) (.int .i64 d6)) (by show O ≠ w.heap.size; omega) (.bool d7)) (by show O ≠ w.heap.size; omega) (.bool d8)) (by show O ≠ w.heap.size; omega) (.bool d9)) (by show O ≠ w.heap.size; omega) (.int .i64 d10)) _)⟩
end
section
open Go.RowKit
set_option linter.unusedSimpArgs false
set_option linter.unusedVariables false
structure RcvNew (w : World) (q : Qu) (own : Int) (O g QB OB DB EB WB : Nat) : Prop where
  op : w.heap[O]? = some (.cells #[.int .u32 own, .slice (some ⟨g, 0, none⟩) 2 2] 132 (0, 0))
  row : w.heap[g]? = some (.cells #[FV 72 #[.pointer (some ⟨QB, 0, none⟩), .pointer (some ⟨OB, 0, none⟩)], FV 73 #[.pointer (some ⟨QB, 0, none⟩), .pointer (some ⟨OB, 0, none⟩), .pointer (some ⟨WB, 0, none⟩), .pointer (some ⟨EB, 0, none⟩)]] 133 (0, 0))
  qb : w.heap[QB]? = some (.cells q.cells 124 (0, 0))
  ob : w.heap[OB]? = some (.cells #[.pointer (some ⟨O, 0, none⟩)] 75 (0, 0))
  db : w.heap[DB]? = some (.cells #[.slice none 0 0] 44 (0, 0))
  eb : w.heap[EB]? = some (.cells #[FV 70 #[.pointer (some ⟨OB, 0, none⟩), .pointer (some ⟨QB, 0, none⟩), .pointer (some ⟨DB, 0, none⟩)]] 129 (0, 0))
  wb : w.heap[WB]? = some (.cells #[FV 71 #[.pointer (some ⟨DB, 0, none⟩), .pointer (some ⟨QB, 0, none⟩)]] 129 (0, 0))
set_option maxRecDepth 100000 in
set_option maxHeartbeats 4000000 in
theorem rgReceive_any (cv : Value) (C : Cfg) (hsm : C.small) (k : Nat) (hk : k < C.chans.length) (x : Chn) (hx : C.chans[k] = x) (own : Int) (hown : 0 ≤ own ∧ own < 4294967296) (hdp : 1 ≤ x.depth ∧ x.depth ≤ 8) (s1 s2 d1 d2 l1 l2 : Int) (hs : srcB C k = (s1, s2)) (hd : dstB C k = (d1, d2)) (hcl : cellB C k (own % x.depth) = (l1, l2)) (w : World) (h : CfgAt w cv C) : Calls Tryz.prog 39 #[cv, .int .i64 k, .int .u32 own] w fun e w' => ∃ O g QB OB DB EB WB : Nat, e = .returned (.pointer (some ⟨O, 0, none⟩)) ∧ RcvNew w' (⟨k, s1, d1, l1, x.words, x.depth⟩ : Qu) own O g QB OB DB EB WB ∧ Below w.heap.size w w' ∧ w.heap.size ≤ O ∧ w.heap.size ≤ g ∧ w.heap.size ≤ QB ∧ w.heap.size ≤ OB ∧ w.heap.size ≤ DB ∧ w.heap.size ≤ EB ∧ w.heap.size ≤ WB := by
  obtain ⟨ho, pa, pc, ca, cc, a0, c0, a1, c1, rfl, bp, bc, b0, b1, hp, hc, hw0, hw1⟩ := h
  have h := (show CfgAt w _ C from ⟨ho, pa, pc, ca, cc, a0, c0, a1, c1, rfl, bp, bc, b0, b1, hp, hc, hw0, hw1⟩)
  have HC := Kp.mk h
  clear ho hp hc hw0 hw1 h
  go_enter Tryz.func39, Tryz.ntmps39
  have HB0 : Kp (Below w.heap.size w w) := ⟨Below.refl _ _⟩
  go_wp2_with fail
  refine (rgof_any _ C hsm k hk x hx own hown hdp s1 s2 d1 d2 l1 l2 hs hd hcl _ (HC.out.below ((below_al HB0.out _)))).mono ?_
  rintro e w1 ⟨rfl, hb⟩
  have q1 : Kp (w1.heap[w.heap.size]? = some (.cells #[.slice pa C.parts.length pc, .slice ca C.chans.length cc, .int .i64 C.l0, .slice a0 C.w0.length c0, .int .i64 C.l1, .slice a1 C.w1.length c1] 31 (0, 0))) := ⟨blk_below (blk_new _ _) hb⟩
  have HB1 : Kp (Below w.heap.size w w1) := ⟨below_call (below_al HB0.out _) hb⟩
  clear HB0 hb
  have qc0 := cbk q1.out 0 (.slice pa C.parts.length pc) rfl
  have qc1 := cbk q1.out 1 (.slice ca C.chans.length cc) rfl
  have qc2 := cbk q1.out 2 (.int .i64 C.l0) rfl
  have qc3 := cbk q1.out 3 (.slice a0 C.w0.length c0) rfl
  have qc4 := cbk q1.out 4 (.int .i64 C.l1) rfl
  have qc5 := cbk q1.out 5 (.slice a1 C.w1.length c1) rfl
  have ql := blk_lt q1.out
  have hszw := HB1.out.size
  go_wp2
  go_ret
  exact ⟨w1.heap.size + 1, w1.heap.size + 1 + 1 + 1 + 1 + 1 + 1, w1.heap.size, w1.heap.size + 1 + 1, w1.heap.size + 1 + 1 + 1, w1.heap.size + 1 + 1 + 1 + 1, w1.heap.size + 1 + 1 + 1 + 1 + 1, rfl, ⟨(blk_al (blk_al (blk_al (blk_al (blk_al (blk_at (by simp) _) _) _) _) _) _), (blk_at (by simp) _), (blk_al (blk_al (blk_al (blk_al (blk_al (blk_al (blk_new _ _) _) _) _) _) _) _), (blk_al (blk_al (blk_al (blk_al (blk_at (by simp) _) _) _) _) _), (blk_al (blk_al (blk_al (blk_at (by simp) _) _) _) _), (blk_al (blk_al (blk_at (by simp) _) _) _), (blk_al (blk_at (by simp) _) _)⟩, (below_al (below_al (below_al (below_al (below_al (below_al (below_al HB1.out _) _) _) _) _) _) _), by omega, by omega, by omega, by omega, by omega, by omega, by omega⟩
end
section
open Go.RowKit
set_option linter.unusedSimpArgs false
set_option linter.unusedVariables false
open Go.Shelf
attribute [local go_sem] Oper.semAt_some
def uptoS (cell : Int) (l : List Int) (k : Nat) : List (Int × Int) := (cell, (l.length : Int)) :: (List.range k).map fun i : Nat => (cell + 1 + (i : Int), l[i]?.getD 0)
theorem uptoS_len (cell : Int) (l : List Int) (k : Nat) : (uptoS cell l k).length = k + 1 := by simp [uptoS]
theorem uptoS_snoc (cell : Int) (l : List Int) (k : Nat) (h : k < l.length) : uptoS cell l k ++ [(cell + 1 + (k : Int), l[k])] = uptoS cell l (k + 1) := by simp [uptoS, List.range_succ, h]
theorem uptoS_prefix (cell : Int) (l : List Int) {k n : Nat} (h : k ≤ n) : uptoS cell l k <+: uptoS cell l n := by
  unfold uptoS
  refine (List.cons_prefix_cons.2 ⟨rfl, ?_⟩)
  have e : List.range n = List.range k ++ List.range' k (n - k) := by
    rw [List.range_eq_range', List.range_eq_range']
    have h := List.range'_append (s := 0) (m := k) (n := n - k) (step := 1)
    simp only [Nat.zero_add, Nat.one_mul] at h
    rw [h]
    congr 1
    omega
  rw [e, List.map_append]
  exact List.prefix_append _ _
set_option maxRecDepth 100000 in
set_option maxHeartbeats 2000000 in
theorem message1_in (N : Nat) (hn1 : 1 ≤ N) (y Qb Db n₀ g : Nat) (dc : Nat) (q : Qu) (l : List Int) (hl : l.length ≤ 1000) (hc : 0 ≤ q.cell ∧ q.cell ≤ 100000) (J Jx : List (Int × Int) → World → Prop)
    (hY : ∀ pre x W, J pre W → pre.length < l.length + 1 → YieldAt Fence.wide (N - 1) Tryz.prog y #[.int .i64 x.1, .int .u32 x.2] W fun e W' =>
      (e = .returned (.bool true) ∧ J (pre ++ [x]) W' ∧ KeepU [124, 44, 41] n₀ W W') ∨ (e = .returned (.bool false) ∧ Jx (pre ++ [x]) W'))
    (W : World) (hQ : W.heap[Qb]? = some (.cells q.cells 124 (0, 0))) (hD : W.heap[Db]? = some (.cells #[.slice (some ⟨g, 0, none⟩) l.length dc] 44 (0, 0))) (cur : Array Value) (fz : Nat × Nat) (hG : W.heap[g]? = some (.cells cur 41 fz)) (hGc : ∀ i, i < l.length → cur[i]? = (u32s l)[i]?) (h0 : J [] W) :
    CallsIn Fence.wide N Tryz.prog 90 #[.func (.yield y) #[] #[], .pointer (some ⟨Qb, 0, none⟩), .pointer (some ⟨Db, 0, none⟩)] W fun e W' => (∃ v, e = .returned v) ∧
      ((∃ ys, ys = uptoS q.cell l l.length ∧ J ys W') ∨ (∃ pre, pre <+: uptoS q.cell l l.length ∧ Jx pre W')) := by
  have qb3 := cbk hQ 3 (.int .i64 q.cell) rfl
  have db0 := cbk hD 0 (.slice (some ⟨g, 0, none⟩) l.length dc) rfl
  have lQ := blk_lt hQ
  have lD := blk_lt hD
  have HQ := Kp.mk hQ
  have HD := Kp.mk hD
  have HG := Kp.mk hG
  have HGC := Kp.mk hGc
  have HY := Kp.mk hY
  have n1 : IntKind.i64.wrap (q.cell + 1) = q.cell + 1 := IntWalk.i64_in _ (by omega)
  have n2 : IntKind.u32.wrap (l.length : Int) = (l.length : Int) := IntWalk.u32_in _ (by omega)
  clear hQ hD hG hGc hY
  refine callsIn_of_wp Tryz.func90 rfl trivial ?_ rfl
  simp only [Tryz.ntmps90, List.size_toArray, List.length_cons, List.length_nil, Nat.reduceAdd, Nat.reduceSub, Array.replicate_succ, Array.replicate_zero, List.push_toArray, List.append_toArray, List.nil_append, List.cons_append]
  obtain ⟨fn, tmps, assign, body, hy, hR⟩ := HY.out [] (q.cell, (l.length : Int)) W h0 (by simp)
  dsimp only at hy
  gi_wp2
  refine hR.mono ?_
  rintro e W1 (⟨rfl, hJ1, hk1⟩ | ⟨rfl, hJx1⟩)
  · have HJ1 := Kp.mk hJ1
    have HB1 := Kp.mk hk1
    have db1 : W1.cell? ⟨Db, 0, none⟩ = some (.slice (some ⟨g, 0, none⟩) l.length dc) := (cell_blk (hk1.2 _ (by simp) _ _ _ HD.out) 0).trans rfl
    have lD1 := blk_lt (hk1.2 _ (by simp) _ _ _ HD.out)
    clear hJ1 hk1 qb3 db0
    gi_wp2
    gi_loopw [16] (fun i wr => ∃ k : Nat, k ≤ l.length ∧ i = .int .i64 k ∧ Kp (KeepU [124, 44, 41] n₀ W wr) ∧ Kp (J (uptoS q.cell l k) wr)) (fun i wr => l.length - (intOf i).toNat)
    case atStart => exact ⟨0, Nat.zero_le _, rfl, HB1, HJ1⟩
    case round =>
      obtain ⟨k, hk, rfl, HB, HJ⟩ := hrel
      clear HB1 HJ1 db1
      by_cases hlt : k < l.length
      · have hgk := HB.out.2 _ (by simp) _ _ _ HG.out
        have hqk := HB.out.2 _ (by simp) _ _ _ HQ.out
        have c0 : wr.cell? ⟨g, k, none⟩ = some (.int .u32 l[k]) := (cell_blk hgk k).trans ((HGC.out k hlt).trans (u32s_at _ _ hlt))
        have qb3 := cbk hqk 3 (.int .i64 q.cell) rfl
        have lgr := blk_lt hgk
        have lQr := blk_lt hqk
        clear hgk hqk
        have n3 : IntKind.i64.wrap (q.cell + 1 + (k : Int)) = q.cell + 1 + (k : Int) := IntWalk.i64_in _ (by omega)
        obtain ⟨fn, tmps, assign, body, hy, hR⟩ := HY.out (uptoS q.cell l k) (q.cell + 1 + (k : Int), l[k]) wr HJ.out (by rw [uptoS_len]; omega)
        dsimp only at hy
        gi_wp2
        refine hR.mono ?_
        rintro e W3 (⟨rfl, hJ3, hk3⟩ | ⟨rfl, hJx3⟩)
        · gi_wp2
          go_roundw
          case rel => exact ⟨k + 1, by omega, by go_num, ⟨HB.out.trans hk3⟩, ⟨by rw [← uptoS_snoc q.cell l k hlt]; exact hJ3⟩⟩
          case measure => simp [intOf]; omega
        · gi_wp2
          refine bodyPost_ret (results_none rfl _ _ _) rfl ?_
          exact ⟨⟨_, rfl⟩, .inr ⟨_, by rw [uptoS_snoc q.cell l k hlt]; exact uptoS_prefix q.cell l hlt, hJx3⟩⟩
      · obtain rfl : k = l.length := by omega
        gi_wp2
        go_end0
        exact ⟨⟨_, rfl⟩, .inl ⟨_, rfl, HJ.out⟩⟩
  · gi_wp2
    refine bodyPost_ret (results_none rfl _ _ _) rfl ?_
    exact ⟨⟨_, rfl⟩, .inr ⟨_, uptoS_prefix q.cell l (Nat.zero_le _), hJx1⟩⟩
theorem message_stops (N : Nat) (hn1 : 1 ≤ N) (Qb Db n₀ g : Nat) (dc : Nat) (q : Qu) (l : List Int) (hl : l.length ≤ 1000) (hc : 0 ≤ q.cell ∧ q.cell ≤ 100000) (cur : Array Value) (fz : Nat × Nat) (w : World) (hQ : w.heap[Qb]? = some (.cells q.cells 124 (0, 0))) (hD : w.heap[Db]? = some (.cells #[.slice (some ⟨g, 0, none⟩) l.length dc] 44 (0, 0))) (hG : w.heap[g]? = some (.cells cur 41 fz)) (hGc : ∀ i, i < l.length → cur[i]? = (u32s l)[i]?) :
    SeqStopsK Fence.wide N Tryz.prog 90 #[.pointer (some ⟨Qb, 0, none⟩), .pointer (some ⟨Db, 0, none⟩)] (fun x : Int × Int => #[Value.int .i64 x.1, Value.int .u32 x.2]) (KeepU [124, 44, 41] n₀) (fun ys => ys = uptoS q.cell l l.length) (fun pre => pre <+: uptoS q.cell l l.length) (l.length + 1) w := fun y J Jx W hW hJ hJx hY h0 =>
  message1_in N hn1 y Qb Db n₀ g dc q l hl hc J Jx hY W (blk_below hQ hW) (blk_below hD hW) cur fz (blk_below hG hW) hGc h0
set_option maxHeartbeats 400000 in
theorem message_any (q : Qu) (a : Option Addr) (n c : Nat) (w : World) : Calls Tryz.prog 64 #[.agg q.cells, .slice a n c] w fun e w' => e = .returned (FV 90 #[.pointer (some ⟨w.heap.size, 0, none⟩), .pointer (some ⟨(w.heap.size + 1), 0, none⟩)]) ∧ w' = (w.alloc (.cells q.cells 124)).alloc (.cells #[.slice a n c] 44) := by
  go_enter Tryz.func64, Tryz.ntmps64
  go_wp2
  go_ret
  exact ⟨rfl, rfl⟩
end
section
open Go.RowKit
set_option linter.unusedSimpArgs false
set_option linter.unusedVariables false
open Go.Shelf
section
variable {P : Program} {ops : Array Oper} {S : World → Prop}
theorem oper_in_round {o : Oper} {a : Act} {w : World} {K : Act → World → Prop} {R : Act → World → Prop} {Q : Exit → Act → World → Prop} {l n : Nat} (hd : ∀ c, o.op ≠ .defer c) (h : o.wp P a w K (JQ R)) : o.wpIn (Fence.wide.inRound l) n P a w K Q := by
  refine ⟨fun _ _ => trivial, ?_⟩
  rw [Oper.semAt_eq _ _ _ hd]
  unfold Oper.wp at h
  generalize (execOp a.eval o).run P w = r at *
  cases r with
  | ok x w' =>
    cases x with
    | value v => exact h
    | skip => exact h
    | defer d => exact h
    | enter f args =>
      refine ⟨fun h0 => (by cases h0), CallsIn.inRound l (callsIn_wide.2 (Calls.mono (show Calls P f args w' _ from h) fun e w'' he => ?_))⟩
      cases e with
      | returned v => exact he
      | panicked c => exact he.elim
      | outgrown => exact Exists.elim he fun _ he => Exists.elim he fun _ he => he.elim
    | row row args =>
      exact ⟨fun h0 => (by cases h0), fun c cs _ => let ⟨v, w'', r, s⟩ := (show Rows P row args w' _ from h) c cs; ⟨v, w'', r, stepsIn_wide.2 s⟩⟩
    | _ => exact h.elim
  | halt x w' =>
    cases x with
    | panic v => exact h.elim
    | _ => exact h.elim
theorem wpOp_in_round {i : Nat} {a : Act} {w : World} {K : Act → World → Prop} {R : Act → World → Prop} {Q : Exit → Act → World → Prop} {l n : Nat} (hd : ∀ (i : Nat) (o : Oper), ops[i]? = some o → ∀ c, o.op ≠ .defer c) (h : wpOp P ops (JQ R) i K a w) : wpOpIn (Fence.wide.inRound l) n P ops Q i K a w := by
  unfold wpOp at h
  unfold wpOpIn
  split
  · rename_i ho
    rw [ho] at h
    exact h
  · rename_i o ho
    rw [ho] at h
    dsimp only at h
    split
    · rename_i hw
      rw [if_pos hw] at h
      rcases h with h | ⟨_, _, _, h⟩
      · exact oper_in_round (hd i o ho) h
      · exact h.elim
    · rename_i hw
      rw [if_neg hw] at h
      exact ⟨fun _ _ => trivial, h⟩
theorem wpAny_in_round {md : Region.Mode} {R : Act → World → Prop} {Q : Exit → Act → World → Prop} {l n : Nat} (hd : ∀ (i : Nat) (o : Oper), ops[i]? = some o → ∀ c, o.op ≠ .defer c) (hq : ∀ a w, R a w → Q .normal a w) : ∀ (fuel : Nat) (listed : Array Bool) (a : Act) (w : World), wpAny P md ops (JQ R) fuel listed a w → wpAnyIn (Fence.wide.inRound l) n P md ops Q fuel listed a w
  | 0, _, _, _, h => ⟨h.1, hq _ _ h.2⟩
  | fuel + 1, _, _, _, h => ⟨fun h0 => hq _ _ (h.1 h0), fun i hi => wpOpIn_mono (fun a w h => wpAny_in_round hd hq fuel _ a w h) (wpOp_in_round hd (h.2 i hi))⟩
def noDefer (o : Oper) : Bool := match o.op with | .defer _ => false | _ => true
theorem noDefer_spec (h : ops.toList.all noDefer = true) (i : Nat) (o : Oper) (ho : ops[i]? = some o) (c : Call) : o.op ≠ .defer c := fun e => by
  have h1 := List.all_eq_true.1 h o (by simpa using Array.mem_of_getElem? ho)
  unfold noDefer at h1
  rw [e] at h1
  cases h1
def RegIn (P : Program) (c : Code) (R : Act → World → Prop) (a : Act) (w : World) : Prop := ∀ (l n : Nat) (Q : Exit → Act → World → Prop), (∀ a w, R a w → Q .normal a w) → c.wpIn (Fence.wide.inRound l) n P Q a w
theorem JQ.regionIn {c : Code} {Q : Exit → Act → World → Prop} {a : Act} {w : World} {l n : Nat} (R : Act → World → Prop) (h : RegIn P c R a w) (hq : ∀ a w, R a w → Q .normal a w) : c.wpIn (Fence.wide.inRound l) n P Q a w := h l n Q hq
theorem held_start_in {id : Nat} {a : Act} {w : World} {RR : Act → World → Prop} (hm : P.follows .mixedOrders = true) (hd : ops.toList.all noDefer = true) (R : World → Prop) (hR : R w.drew) (hS : S w.drew)
    (h : ∀ wd, R wd → S wd → wpAnyH P .any ops (JQ RR) S ops.size (Array.replicate ops.size false) a wd) : RegIn P (Code.region id ops true) RR a w :=
  fun _ _ _ hq => wpIn_region_any hm (wpAny_in_round (noDefer_spec hd) hq _ _ _ _ (wpAny_of_held _ _ _ _ (h _ hR hS)))
end
theorem blk_grownT {w w1 : World} {base : Nat} {e : TypeId} {k : Nat} {v : Value} {n : Nat} {cs : List Value} {b : Nat} {c : Array Value} {t : TypeId} {f : Nat × Nat} (h : w.heap[b]? = some (.cells c t f)) (hown : w.ownsRow base e k v n cs) (hg : w.grownBy w1 v.ownBlock) (ht : e ≠ t) : w1.heap[b]? = some (.cells c t f) := by
  rw [hg.block b (blk_lt h) fun he => ?_]
  · exact h
  · obtain ⟨_, ⟨rfl, _⟩ | ⟨g, cap, cur, rfl, _, hgg, _⟩⟩ := hown
    · simp [Value.ownBlock] at he
    · simp only [Value.ownBlock, Option.some.injEq] at he
      subst he
      rw [hgg] at h
      cases h
      exact ht rfl
theorem blk_grownN {w w1 : World} {base : Nat} {e : TypeId} {k : Nat} {v : Value} {n : Nat} {cs : List Value} {b : Nat} {o : Obj} (h : w.heap[b]? = some o) (ho : o.isCells = false) (hown : w.ownsRow base e k v n cs) (hg : w.grownBy w1 v.ownBlock) : w1.heap[b]? = some o := by
  rw [hg.block b (blk_lt h) fun he => ?_]
  · exact h
  · obtain ⟨_, ⟨rfl, _⟩ | ⟨g, cap, cur, rfl, _, hgg, _⟩⟩ := hown
    · simp [Value.ownBlock] at he
    · simp only [Value.ownBlock, Option.some.injEq] at he
      subst he
      rw [hgg] at h
      cases h
      simp [Obj.isCells] at ho
theorem blk_setT {w : World} {b O : Nat} {c c' : Array Value} {t t' : TypeId} {f f' : Nat × Nat} (h : w.heap[b]? = some (.cells c t f)) (hO : w.heap[O]? = some (.cells c' t' f')) (ht : t ≠ t') (o : Nat) (v : Value) : (w.setCell ⟨O, o, none⟩ v).heap[b]? = some (.cells c t f) :=
  blk_set_ne h (p := ⟨O, o, none⟩) (fun he => by have he' : b = O := he; subst he'; rw [h] at hO; cases hO; exact ht rfl) v
end
end Go.Proofs.YtmidcnfmphlneaaGreat

/- Contracts that the count needs besides. -/
import Derived.Test.YtmidcnfmphlneaaGreatQ31
namespace Go.Proofs.YtmidcnfmphlneaaGreat
section
open Go.RowKit
set_option linter.unusedSimpArgs false
set_option linter.unusedVariables false
set_option maxRecDepth 100000 in
set_option maxHeartbeats 4000000 in
theorem rgcountS_any (q : Qu) (B BB D QB OW SB : Nat) (own n : Int) (ws : List Int) (hq : q.ok ws.length) (hown : 0 ≤ own ∧ own < 4294967296) (hn : (own - ldW ws q.head) % 4294967296 = n) (w : World) (hM : MemAt w B D ws) (hQB : w.heap[QB]? = some (.cells q.cells 124 (0, 0))) (hW : w.heap[OW]? = some (.cells #[.int .u32 own] 41 (0, 0))) (hS : w.heap[SB]? = some (.cells #[.bool true] 4 (0, 0))) : Calls Tryz.prog 60 #[.agg #[.pointer (some ⟨B, 0, none⟩), .pointer (some ⟨BB, 0, none⟩)], .pointer (some ⟨QB, 0, none⟩), .pointer (some ⟨OW, 0, none⟩), .pointer (some ⟨SB, 0, none⟩)] w fun e w' => e = .returned (.agg #[.bool true, .int .i64 0, .slice none 0 0, .bool false, .int .i64 n, .bool true, .bool false, .bool false, .int .i64 0]) ∧ Below w.heap.size w w' := by
  have HM := Kp.mk hM
  have lD := blk_lt hM.words
  have lB := blk_lt hM.head
  have HQB := Kp.mk hQB
  have HOW := Kp.mk hW
  have HSB := Kp.mk hS
  have hqh := hq.head
  have hqt := hq.tail
  clear hM hQB hW hS hq
  obtain ⟨x, hx⟩ : ∃ x, ldW ws q.tail = x := ⟨_, rfl⟩
  obtain ⟨y, hy⟩ : ∃ y, ldW ws q.head = y := ⟨_, rfl⟩
  rw [hy] at hn
  have HX := Kp.mk hx
  have HY := Kp.mk hy
  obtain ⟨m, hm⟩ : ∃ m, (x - own) % 4294967296 = m := ⟨_, rfl⟩
  have v1 : IntKind.u32.wrap (x - own) = m := by rw [IntKind.wrap_u32]; exact hm
  have v2 : IntKind.u32.wrap (own - y) = n := by rw [IntKind.wrap_u32]; exact hn
  have v3 : IntKind.i64.wrap n = n := IntWalk.i64_in _ (by omega)
  clear hx hy hm hn
  go_enter Tryz.func60, Tryz.ntmps60
  have HB0 : Kp (Below w.heap.size w w) := ⟨Below.refl _ _⟩
  go_wp2_with fail
  have wb1 : Kp (((w.alloc (.cells #[.pointer (some ⟨B, 0, none⟩), .pointer (some ⟨BB, 0, none⟩)] 127)).alloc (.cells #[.bool false, .int .i64 0, .slice none 0 0, .bool false, .int .i64 0, .bool false, .bool false, .bool false, .int .i64 0] 64)).heap[w.heap.size]? = some (.cells #[.pointer (some ⟨B, 0, none⟩), .pointer (some ⟨BB, 0, none⟩)] 127 (0, 0))) := ⟨(blk_al (blk_new _ _) _)⟩
  have d1 : Kp (((w.alloc (.cells #[.pointer (some ⟨B, 0, none⟩), .pointer (some ⟨BB, 0, none⟩)] 127)).alloc (.cells #[.bool false, .int .i64 0, .slice none 0 0, .bool false, .int .i64 0, .bool false, .bool false, .bool false, .int .i64 0] 64)).heap[w.heap.size + 1]? = some (.cells #[.bool false, .int .i64 0, .slice none 0 0, .bool false, .int .i64 0, .bool false, .bool false, .bool false, .int .i64 0] 64 (0, 0))) := ⟨(blk_at (w := (w.alloc (.cells #[.pointer (some ⟨B, 0, none⟩), .pointer (some ⟨BB, 0, none⟩)] 127))) (by simp) _)⟩
  have HB1 : Kp (Below w.heap.size w ((w.alloc (.cells #[.pointer (some ⟨B, 0, none⟩), .pointer (some ⟨BB, 0, none⟩)] 127)).alloc (.cells #[.bool false, .int .i64 0, .slice none 0 0, .bool false, .int .i64 0, .bool false, .bool false, .bool false, .int .i64 0] 64))) := ⟨(below_al (below_al HB0.out _) _)⟩
  clear HB0
  generalize ((w.alloc (.cells #[.pointer (some ⟨B, 0, none⟩), .pointer (some ⟨BB, 0, none⟩)] 127)).alloc (.cells #[.bool false, .int .i64 0, .slice none 0 0, .bool false, .int .i64 0, .bool false, .bool false, .bool false, .int .i64 0] 64)) = w1 at wb1 d1 HB1 ⊢
  have wbc0 := cbk wb1.out 0 (.pointer (some ⟨B, 0, none⟩)) rfl
  have wbc1 := cbk wb1.out 1 (.pointer (some ⟨BB, 0, none⟩)) rfl
  have wbl := blk_lt wb1.out
  have dc0 := cbk d1.out 0 (.bool false) rfl
  have dc1 := cbk d1.out 1 (.int .i64 0) rfl
  have dc2 := cbk d1.out 2 (.slice none 0 0) rfl
  have dc3 := cbk d1.out 3 (.bool false) rfl
  have dc4 := cbk d1.out 4 (.int .i64 0) rfl
  have dc5 := cbk d1.out 5 (.bool false) rfl
  have dc6 := cbk d1.out 6 (.bool false) rfl
  have dc7 := cbk d1.out 7 (.bool false) rfl
  have dc8 := cbk d1.out 8 (.int .i64 0) rfl
  have dl := blk_lt d1.out
  have qb0 : w1.cell? ⟨QB, 0, none⟩ = some (.int .i64 q.k) := (HB1.out.cell (p := ⟨QB, 0, none⟩) (blk_lt HQB.out)).trans ((cell_blk HQB.out 0).trans rfl)
  have qb1 : w1.cell? ⟨QB, 1, none⟩ = some (.int .i64 q.tail) := (HB1.out.cell (p := ⟨QB, 1, none⟩) (blk_lt HQB.out)).trans ((cell_blk HQB.out 1).trans rfl)
  have qb2 : w1.cell? ⟨QB, 2, none⟩ = some (.int .i64 q.head) := (HB1.out.cell (p := ⟨QB, 2, none⟩) (blk_lt HQB.out)).trans ((cell_blk HQB.out 2).trans rfl)
  have qb3 : w1.cell? ⟨QB, 3, none⟩ = some (.int .i64 q.cell) := (HB1.out.cell (p := ⟨QB, 3, none⟩) (blk_lt HQB.out)).trans ((cell_blk HQB.out 3).trans rfl)
  have qb4 : w1.cell? ⟨QB, 4, none⟩ = some (.int .i64 q.words) := (HB1.out.cell (p := ⟨QB, 4, none⟩) (blk_lt HQB.out)).trans ((cell_blk HQB.out 4).trans rfl)
  have qb5 : w1.cell? ⟨QB, 5, none⟩ = some (.int .i64 q.deep) := (HB1.out.cell (p := ⟨QB, 5, none⟩) (blk_lt HQB.out)).trans ((cell_blk HQB.out 5).trans rfl)
  have ql : QB < w1.heap.size := Nat.lt_of_lt_of_le (blk_lt HQB.out) HB1.out.size
  have w0 : w1.cell? ⟨OW, 0, none⟩ = some (.int .u32 own) := (HB1.out.cell (p := ⟨OW, 0, none⟩) (blk_lt HOW.out)).trans ((cell_blk HOW.out 0).trans rfl)
  have wl : OW < w1.heap.size := Nat.lt_of_lt_of_le (blk_lt HOW.out) HB1.out.size
  refine held_start_gen (S := (fun w' : World => ButB (w1.heap.size) [] w1 w' ∧ ∀ bb o, bb < w1.heap.size → w'.cell? ⟨bb, o, none⟩ = w1.cell? ⟨bb, o, none⟩)) (by kernel_rfl) (fun wz : World => Kp (Below w.heap.size w wz) ∧ Kp (wz.heap[w.heap.size]? = some (.cells #[.pointer (some ⟨B, 0, none⟩), .pointer (some ⟨BB, 0, none⟩)] 127 (0, 0))) ∧ Kp (wz.heap[w.heap.size + 1]? = some (.cells #[.bool false, .int .i64 0, .slice none 0 0, .bool false, .int .i64 0, .bool false, .bool false, .bool false, .int .i64 0] 64 (0, 0))) ∧ w1.heap.size ≤ wz.heap.size) ⟨⟨below_dr HB1.out⟩, ⟨blk_dr wb1.out⟩, ⟨blk_dr d1.out⟩, Nat.le_refl _⟩ (sx_of0 (ButB.dr (ButB.refl _ (by omega)))) (fun wd0 hRn hHeld => ?_)
  clear HB1 wb1 d1
  obtain ⟨HB1, wb1, d1, hsz⟩ := hRn
  refine wtk 0 ?_ rfl (.inl ⟨by rfl, ?_⟩) ?_
  rotate_left 1
  · (intro w hSw; go_simp; try with_reducible rfl)
  try simp only [Act.put, ls0, ls1, ls2]
  refine wtk 1 ?_ rfl (.inl ⟨by rfl, ?_⟩) ?_
  rotate_left 1
  · (intro w hSw; go_simp; try with_reducible rfl)
  try simp only [Act.put, ls0, ls1, ls2]
  refine wtk 2 ?_ rfl (.inl ⟨by rfl, ?_⟩) ?_
  rotate_left 1
  · (intro w hSw; go_simp; try with_reducible rfl)
  try simp only [Act.put, ls0, ls1, ls2]
  refine wtk 4 ?_ rfl (.inl ⟨by rfl, ?_⟩) ?_
  rotate_left 1
  · (intro w hSw; go_simp; try with_reducible rfl)
  try simp only [Act.put, ls0, ls1, ls2]
  refine wrd [3] ?_
  refine (arc rfl (fun K hK => ?_) arn)
  go_simp
  go_at_call 61
  refine (rgload_any B BB D ws q.tail (by omega) (by omega) _ (HM.out.below HB1.out)).mono ?_
  rw [HX.out]
  rintro e w9 ⟨rfl, hb⟩
  try go_wp2_with fail
  refine out_gen hK _ _ (fun wz : World => Kp (Below w.heap.size w wz) ∧ Kp (wz.heap[w.heap.size]? = some (.cells #[.pointer (some ⟨B, 0, none⟩), .pointer (some ⟨BB, 0, none⟩)] 127 (0, 0))) ∧ Kp (wz.heap[w.heap.size + 1]? = some (.cells #[.bool false, .int .i64 0, .slice none 0 0, .bool false, .int .i64 0, .bool false, .bool false, .bool false, .int .i64 0] 64 (0, 0))) ∧ wd0.heap.size ≤ wz.heap.size) ⟨⟨below_call HB1.out hb⟩, ⟨blk_below wb1.out hb⟩, ⟨blk_below d1.out hb⟩, hb.size⟩ (sx_of0 (ButB.call (And.left hHeld) hb)) (fun wd1 hRn hHn => ?_)
  clear hK K hHeld HB1 wb1 d1 hb
  obtain ⟨HB1, wb1, d1, hsz1⟩ := hRn
  have hHeld := hHn
  clear hHn
  try simp only [Act.put, ls0, ls1, ls2]
  refine wtk 5 ?_ rfl (.inl ⟨by rfl, ?_⟩) ?_
  rotate_left 1
  · (intro w hSw; go_simp; try with_reducible rfl)
  try simp only [Act.put, ls0, ls1, ls2]
  refine wtk 6 ?_ rfl (.inl ⟨by rfl, ?_⟩) ?_
  rotate_left 1
  · (intro w hSw; go_simp; try with_reducible rfl)
  try simp only [Act.put, ls0, ls1, ls2]
  refine wpAnyH_done (by kernel_rfl) ?_ _
  clear hHeld
  have s0 : wd1.cell? ⟨SB, 0, none⟩ = some (.bool true) := (HB1.out.cell (p := ⟨SB, 0, none⟩) (blk_lt HSB.out)).trans ((cell_blk HSB.out 0).trans rfl)
  have sl : SB < wd1.heap.size := Nat.lt_of_lt_of_le (blk_lt HSB.out) HB1.out.size
  clear w0 wl ql qb0 qb1 qb2 qb3 qb4 qb5 wbc0 wbc1 wbl dc0 dc1 dc2 dc3 dc4 dc5 dc6 dc7 dc8 dl
  obtain ⟨w5, hw5⟩ : ∃ w5, wd1 = w5 := ⟨_, rfl⟩
  rw [hw5] at HB1 wb1 d1 s0 sl ⊢
  clear hw5
  have qb0 : w5.cell? ⟨QB, 0, none⟩ = some (.int .i64 q.k) := (HB1.out.cell (p := ⟨QB, 0, none⟩) (blk_lt HQB.out)).trans ((cell_blk HQB.out 0).trans rfl)
  have qb1 : w5.cell? ⟨QB, 1, none⟩ = some (.int .i64 q.tail) := (HB1.out.cell (p := ⟨QB, 1, none⟩) (blk_lt HQB.out)).trans ((cell_blk HQB.out 1).trans rfl)
  have qb2 : w5.cell? ⟨QB, 2, none⟩ = some (.int .i64 q.head) := (HB1.out.cell (p := ⟨QB, 2, none⟩) (blk_lt HQB.out)).trans ((cell_blk HQB.out 2).trans rfl)
  have qb3 : w5.cell? ⟨QB, 3, none⟩ = some (.int .i64 q.cell) := (HB1.out.cell (p := ⟨QB, 3, none⟩) (blk_lt HQB.out)).trans ((cell_blk HQB.out 3).trans rfl)
  have qb4 : w5.cell? ⟨QB, 4, none⟩ = some (.int .i64 q.words) := (HB1.out.cell (p := ⟨QB, 4, none⟩) (blk_lt HQB.out)).trans ((cell_blk HQB.out 4).trans rfl)
  have qb5 : w5.cell? ⟨QB, 5, none⟩ = some (.int .i64 q.deep) := (HB1.out.cell (p := ⟨QB, 5, none⟩) (blk_lt HQB.out)).trans ((cell_blk HQB.out 5).trans rfl)
  have ql : QB < w5.heap.size := Nat.lt_of_lt_of_le (blk_lt HQB.out) HB1.out.size
  have w0 : w5.cell? ⟨OW, 0, none⟩ = some (.int .u32 own) := (HB1.out.cell (p := ⟨OW, 0, none⟩) (blk_lt HOW.out)).trans ((cell_blk HOW.out 0).trans rfl)
  have wl : OW < w5.heap.size := Nat.lt_of_lt_of_le (blk_lt HOW.out) HB1.out.size
  have wbc0 := cbk wb1.out 0 (.pointer (some ⟨B, 0, none⟩)) rfl
  have wbc1 := cbk wb1.out 1 (.pointer (some ⟨BB, 0, none⟩)) rfl
  have wbl := blk_lt wb1.out
  go_wp2_with fail
  refine held_start_gen (S := (fun w' : World => ButB (w5.heap.size) [] w5 w' ∧ ∀ bb o, bb < w5.heap.size → w'.cell? ⟨bb, o, none⟩ = w5.cell? ⟨bb, o, none⟩)) (by kernel_rfl) (fun wz : World => Kp (Below w.heap.size w wz) ∧ Kp (wz.heap[w.heap.size]? = some (.cells #[.pointer (some ⟨B, 0, none⟩), .pointer (some ⟨BB, 0, none⟩)] 127 (0, 0))) ∧ Kp (wz.heap[w.heap.size + 1]? = some (.cells #[.bool false, .int .i64 0, .slice none 0 0, .bool false, .int .i64 0, .bool false, .bool false, .bool false, .int .i64 0] 64 (0, 0))) ∧ w5.heap.size ≤ wz.heap.size) ⟨⟨below_dr HB1.out⟩, ⟨blk_dr wb1.out⟩, ⟨blk_dr d1.out⟩, Nat.le_refl _⟩ (sx_of0 (ButB.dr (ButB.refl _ (by omega)))) (fun wd0 hRn hHeld => ?_)
  clear HB1 wb1 d1
  obtain ⟨HB1, wb1, d1, hsz⟩ := hRn
  refine wtk 0 ?_ rfl (.inl ⟨by rfl, ?_⟩) ?_
  rotate_left 1
  · (intro w hSw; go_simp; try with_reducible rfl)
  try simp only [Act.put, ls0, ls1, ls2]
  refine wtk 1 ?_ rfl (.inl ⟨by rfl, ?_⟩) ?_
  rotate_left 1
  · (intro w hSw; go_simp; try with_reducible rfl)
  try simp only [Act.put, ls0, ls1, ls2]
  refine wtk 2 ?_ rfl (.inl ⟨by rfl, ?_⟩) ?_
  rotate_left 1
  · (intro w hSw; go_simp; try with_reducible rfl)
  try simp only [Act.put, ls0, ls1, ls2]
  refine wtk 3 ?_ rfl (.inl ⟨by rfl, ?_⟩) ?_
  rotate_left 1
  · (intro w hSw; go_simp; try with_reducible rfl)
  try simp only [Act.put, ls0, ls1, ls2]
  refine wrd [4] ?_
  refine (arc rfl (fun K hK => ?_) arn)
  go_simp
  go_at_call 61
  refine (rgload_any B BB D ws q.head (by omega) (by omega) _ (HM.out.below HB1.out)).mono ?_
  rw [HY.out]
  rintro e w9 ⟨rfl, hb⟩
  try go_wp2_with fail
  refine out_gen hK _ _ (fun wz : World => Kp (Below w.heap.size w wz) ∧ Kp (wz.heap[w.heap.size]? = some (.cells #[.pointer (some ⟨B, 0, none⟩), .pointer (some ⟨BB, 0, none⟩)] 127 (0, 0))) ∧ Kp (wz.heap[w.heap.size + 1]? = some (.cells #[.bool false, .int .i64 0, .slice none 0 0, .bool false, .int .i64 0, .bool false, .bool false, .bool false, .int .i64 0] 64 (0, 0))) ∧ wd0.heap.size ≤ wz.heap.size) ⟨⟨below_call HB1.out hb⟩, ⟨blk_below wb1.out hb⟩, ⟨blk_below d1.out hb⟩, hb.size⟩ (sx_of0 (ButB.call (And.left hHeld) hb)) (fun wd1 hRn hHn => ?_)
  clear hK K hHeld HB1 wb1 d1 hb
  obtain ⟨HB1, wb1, d1, hsz1⟩ := hRn
  have hHeld := hHn
  clear hHn
  try simp only [Act.put, ls0, ls1, ls2]
  refine wtk 5 ?_ rfl (.inl ⟨by rfl, ?_⟩) ?_
  rotate_left 1
  · (intro w hSw; go_simp; try with_reducible rfl)
  try simp only [Act.put, ls0, ls1, ls2]
  refine wtk 6 ?_ rfl (.inl ⟨by rfl, ?_⟩) ?_
  rotate_left 1
  · (intro w hSw; go_simp; try with_reducible rfl)
  try simp only [Act.put, ls0, ls1, ls2]
  refine wpAnyH_done (by kernel_rfl) ?_ _
  clear hHeld
  have dc0 := cbk d1.out 0 (.bool false) rfl
  have df0 := frozen_blk d1.out 0
  have dc1 := cbk d1.out 1 (.int .i64 0) rfl
  have df1 := frozen_blk d1.out 1
  have dc2 := cbk d1.out 2 (.slice none 0 0) rfl
  have df2 := frozen_blk d1.out 2
  have dc3 := cbk d1.out 3 (.bool false) rfl
  have df3 := frozen_blk d1.out 3
  have dc4 := cbk d1.out 4 (.int .i64 0) rfl
  have df4 := frozen_blk d1.out 4
  have dc5 := cbk d1.out 5 (.bool false) rfl
  have df5 := frozen_blk d1.out 5
  have dc6 := cbk d1.out 6 (.bool false) rfl
  have df6 := frozen_blk d1.out 6
  have dc7 := cbk d1.out 7 (.bool false) rfl
  have df7 := frozen_blk d1.out 7
  have dc8 := cbk d1.out 8 (.int .i64 0) rfl
  have df8 := frozen_blk d1.out 8
  have ddl := blk_lt d1.out
  go_wp2
  exact bodyPost_ret (v := .agg #[.bool true, .int .i64 0, .slice none 0 0, .bool false, .int .i64 n, .bool true, .bool false, .bool false, .int .i64 0]) (results_cell_row rfl _ _ _ _ _ _ _ rfl ((blk_set (blk_set (blk_set (blk_set (blk_set (blk_set (blk_set (blk_set (blk_set d1.out 0 (.bool true)) 1 (.int .i64 0)) 2 (.slice none 0 0)) 3 (.bool false)) 4 (.int .i64 n)) 5 (.bool true)) 6 (.bool false)) 7 (.bool false)) 8 (.int .i64 0)).trans rfl) Tryz.underlying64 rfl (by kernel_rfl)) rfl ⟨rfl, (Below.setCell (Below.setCell (Below.setCell (Below.setCell (Below.setCell (Below.setCell (Below.setCell (Below.setCell (Below.setCell HB1.out (p := ⟨w.heap.size + 1, 0, none⟩) (by show w.heap.size ≤ w.heap.size + 1; omega) _) (p := ⟨w.heap.size + 1, 1, none⟩) (by show w.heap.size ≤ w.heap.size + 1; omega) _) (p := ⟨w.heap.size + 1, 2, none⟩) (by show w.heap.size ≤ w.heap.size + 1; omega) _) (p := ⟨w.heap.size + 1, 3, none⟩) (by show w.heap.size ≤ w.heap.size + 1; omega) _) (p := ⟨w.heap.size + 1, 4, none⟩) (by show w.heap.size ≤ w.heap.size + 1; omega) _) (p := ⟨w.heap.size + 1, 5, none⟩) (by show w.heap.size ≤ w.heap.size + 1; omega) _) (p := ⟨w.heap.size + 1, 6, none⟩) (by show w.heap.size ≤ w.heap.size + 1; omega) _) (p := ⟨w.heap.size + 1, 7, none⟩) (by show w.heap.size ≤ w.heap.size + 1; omega) _) (p := ⟨w.heap.size + 1, 8, none⟩) (by show w.heap.size ≤ w.heap.size + 1; omega) _)⟩
set_option maxRecDepth 100000 in
set_option maxHeartbeats 4000000 in
theorem rgcountD_any (q : Qu) (B BB D QB OW SB : Nat) (own n : Int) (ws : List Int) (hq : q.ok ws.length) (hown : 0 ≤ own ∧ own < 4294967296) (hn : (ldW ws q.tail - own) % 4294967296 = n) (w : World) (hM : MemAt w B D ws) (hQB : w.heap[QB]? = some (.cells q.cells 124 (0, 0))) (hW : w.heap[OW]? = some (.cells #[.int .u32 own] 41 (0, 0))) (hS : w.heap[SB]? = some (.cells #[.bool false] 4 (0, 0))) : Calls Tryz.prog 60 #[.agg #[.pointer (some ⟨B, 0, none⟩), .pointer (some ⟨BB, 0, none⟩)], .pointer (some ⟨QB, 0, none⟩), .pointer (some ⟨OW, 0, none⟩), .pointer (some ⟨SB, 0, none⟩)] w fun e w' => e = .returned (.agg #[.bool true, .int .i64 0, .slice none 0 0, .bool false, .int .i64 n, .bool true, .bool false, .bool false, .int .i64 0]) ∧ Below w.heap.size w w' := by
  have HM := Kp.mk hM
  have lD := blk_lt hM.words
  have lB := blk_lt hM.head
  have HQB := Kp.mk hQB
  have HOW := Kp.mk hW
  have HSB := Kp.mk hS
  have hqh := hq.head
  have hqt := hq.tail
  clear hM hQB hW hS hq
  obtain ⟨x, hx⟩ : ∃ x, ldW ws q.tail = x := ⟨_, rfl⟩
  obtain ⟨y, hy⟩ : ∃ y, ldW ws q.head = y := ⟨_, rfl⟩
  rw [hx] at hn
  have HX := Kp.mk hx
  have HY := Kp.mk hy
  obtain ⟨m, hm⟩ : ∃ m, (x - own) % 4294967296 = m := ⟨_, rfl⟩
  have v1 : IntKind.u32.wrap (x - own) = n := by rw [IntKind.wrap_u32]; exact hn
  have v2 : IntKind.u32.wrap (own - y) = (own - y) % 4294967296 := by rw [IntKind.wrap_u32]
  have v3 : IntKind.i64.wrap n = n := IntWalk.i64_in _ (by omega)
  clear hx hy hm hn
  go_enter Tryz.func60, Tryz.ntmps60
  have HB0 : Kp (Below w.heap.size w w) := ⟨Below.refl _ _⟩
  go_wp2_with fail
  have wb1 : Kp (((w.alloc (.cells #[.pointer (some ⟨B, 0, none⟩), .pointer (some ⟨BB, 0, none⟩)] 127)).alloc (.cells #[.bool false, .int .i64 0, .slice none 0 0, .bool false, .int .i64 0, .bool false, .bool false, .bool false, .int .i64 0] 64)).heap[w.heap.size]? = some (.cells #[.pointer (some ⟨B, 0, none⟩), .pointer (some ⟨BB, 0, none⟩)] 127 (0, 0))) := ⟨(blk_al (blk_new _ _) _)⟩
  have d1 : Kp (((w.alloc (.cells #[.pointer (some ⟨B, 0, none⟩), .pointer (some ⟨BB, 0, none⟩)] 127)).alloc (.cells #[.bool false, .int .i64 0, .slice none 0 0, .bool false, .int .i64 0, .bool false, .bool false, .bool false, .int .i64 0] 64)).heap[w.heap.size + 1]? = some (.cells #[.bool false, .int .i64 0, .slice none 0 0, .bool false, .int .i64 0, .bool false, .bool false, .bool false, .int .i64 0] 64 (0, 0))) := ⟨(blk_at (w := (w.alloc (.cells #[.pointer (some ⟨B, 0, none⟩), .pointer (some ⟨BB, 0, none⟩)] 127))) (by simp) _)⟩
  have HB1 : Kp (Below w.heap.size w ((w.alloc (.cells #[.pointer (some ⟨B, 0, none⟩), .pointer (some ⟨BB, 0, none⟩)] 127)).alloc (.cells #[.bool false, .int .i64 0, .slice none 0 0, .bool false, .int .i64 0, .bool false, .bool false, .bool false, .int .i64 0] 64))) := ⟨(below_al (below_al HB0.out _) _)⟩
  clear HB0
  generalize ((w.alloc (.cells #[.pointer (some ⟨B, 0, none⟩), .pointer (some ⟨BB, 0, none⟩)] 127)).alloc (.cells #[.bool false, .int .i64 0, .slice none 0 0, .bool false, .int .i64 0, .bool false, .bool false, .bool false, .int .i64 0] 64)) = w1 at wb1 d1 HB1 ⊢
  have wbc0 := cbk wb1.out 0 (.pointer (some ⟨B, 0, none⟩)) rfl
  have wbc1 := cbk wb1.out 1 (.pointer (some ⟨BB, 0, none⟩)) rfl
  have wbl := blk_lt wb1.out
  have dc0 := cbk d1.out 0 (.bool false) rfl
  have dc1 := cbk d1.out 1 (.int .i64 0) rfl
  have dc2 := cbk d1.out 2 (.slice none 0 0) rfl
  have dc3 := cbk d1.out 3 (.bool false) rfl
  have dc4 := cbk d1.out 4 (.int .i64 0) rfl
  have dc5 := cbk d1.out 5 (.bool false) rfl
  have dc6 := cbk d1.out 6 (.bool false) rfl
  have dc7 := cbk d1.out 7 (.bool false) rfl
  have dc8 := cbk d1.out 8 (.int .i64 0) rfl
  have dl := blk_lt d1.out
  have qb0 : w1.cell? ⟨QB, 0, none⟩ = some (.int .i64 q.k) := (HB1.out.cell (p := ⟨QB, 0, none⟩) (blk_lt HQB.out)).trans ((cell_blk HQB.out 0).trans rfl)
  have qb1 : w1.cell? ⟨QB, 1, none⟩ = some (.int .i64 q.tail) := (HB1.out.cell (p := ⟨QB, 1, none⟩) (blk_lt HQB.out)).trans ((cell_blk HQB.out 1).trans rfl)
  have qb2 : w1.cell? ⟨QB, 2, none⟩ = some (.int .i64 q.head) := (HB1.out.cell (p := ⟨QB, 2, none⟩) (blk_lt HQB.out)).trans ((cell_blk HQB.out 2).trans rfl)
  have qb3 : w1.cell? ⟨QB, 3, none⟩ = some (.int .i64 q.cell) := (HB1.out.cell (p := ⟨QB, 3, none⟩) (blk_lt HQB.out)).trans ((cell_blk HQB.out 3).trans rfl)
  have qb4 : w1.cell? ⟨QB, 4, none⟩ = some (.int .i64 q.words) := (HB1.out.cell (p := ⟨QB, 4, none⟩) (blk_lt HQB.out)).trans ((cell_blk HQB.out 4).trans rfl)
  have qb5 : w1.cell? ⟨QB, 5, none⟩ = some (.int .i64 q.deep) := (HB1.out.cell (p := ⟨QB, 5, none⟩) (blk_lt HQB.out)).trans ((cell_blk HQB.out 5).trans rfl)
  have ql : QB < w1.heap.size := Nat.lt_of_lt_of_le (blk_lt HQB.out) HB1.out.size
  have w0 : w1.cell? ⟨OW, 0, none⟩ = some (.int .u32 own) := (HB1.out.cell (p := ⟨OW, 0, none⟩) (blk_lt HOW.out)).trans ((cell_blk HOW.out 0).trans rfl)
  have wl : OW < w1.heap.size := Nat.lt_of_lt_of_le (blk_lt HOW.out) HB1.out.size
  refine held_start_gen (S := (fun w' : World => ButB (w1.heap.size) [] w1 w' ∧ ∀ bb o, bb < w1.heap.size → w'.cell? ⟨bb, o, none⟩ = w1.cell? ⟨bb, o, none⟩)) (by kernel_rfl) (fun wz : World => Kp (Below w.heap.size w wz) ∧ Kp (wz.heap[w.heap.size]? = some (.cells #[.pointer (some ⟨B, 0, none⟩), .pointer (some ⟨BB, 0, none⟩)] 127 (0, 0))) ∧ Kp (wz.heap[w.heap.size + 1]? = some (.cells #[.bool false, .int .i64 0, .slice none 0 0, .bool false, .int .i64 0, .bool false, .bool false, .bool false, .int .i64 0] 64 (0, 0))) ∧ w1.heap.size ≤ wz.heap.size) ⟨⟨below_dr HB1.out⟩, ⟨blk_dr wb1.out⟩, ⟨blk_dr d1.out⟩, Nat.le_refl _⟩ (sx_of0 (ButB.dr (ButB.refl _ (by omega)))) (fun wd0 hRn hHeld => ?_)
  clear HB1 wb1 d1
  obtain ⟨HB1, wb1, d1, hsz⟩ := hRn
  refine wtk 0 ?_ rfl (.inl ⟨by rfl, ?_⟩) ?_
  rotate_left 1
  · (intro w hSw; go_simp; try with_reducible rfl)
  try simp only [Act.put, ls0, ls1, ls2]
  refine wtk 1 ?_ rfl (.inl ⟨by rfl, ?_⟩) ?_
  rotate_left 1
  · (intro w hSw; go_simp; try with_reducible rfl)
  try simp only [Act.put, ls0, ls1, ls2]
  refine wtk 2 ?_ rfl (.inl ⟨by rfl, ?_⟩) ?_
  rotate_left 1
  · (intro w hSw; go_simp; try with_reducible rfl)
  try simp only [Act.put, ls0, ls1, ls2]
  refine wtk 4 ?_ rfl (.inl ⟨by rfl, ?_⟩) ?_
  rotate_left 1
  · (intro w hSw; go_simp; try with_reducible rfl)
  try simp only [Act.put, ls0, ls1, ls2]
  refine wrd [3] ?_
  refine (arc rfl (fun K hK => ?_) arn)
  go_simp
  go_at_call 61
  refine (rgload_any B BB D ws q.tail (by omega) (by omega) _ (HM.out.below HB1.out)).mono ?_
  rw [HX.out]
  rintro e w9 ⟨rfl, hb⟩
  try go_wp2_with fail
  refine out_gen hK _ _ (fun wz : World => Kp (Below w.heap.size w wz) ∧ Kp (wz.heap[w.heap.size]? = some (.cells #[.pointer (some ⟨B, 0, none⟩), .pointer (some ⟨BB, 0, none⟩)] 127 (0, 0))) ∧ Kp (wz.heap[w.heap.size + 1]? = some (.cells #[.bool false, .int .i64 0, .slice none 0 0, .bool false, .int .i64 0, .bool false, .bool false, .bool false, .int .i64 0] 64 (0, 0))) ∧ wd0.heap.size ≤ wz.heap.size) ⟨⟨below_call HB1.out hb⟩, ⟨blk_below wb1.out hb⟩, ⟨blk_below d1.out hb⟩, hb.size⟩ (sx_of0 (ButB.call (And.left hHeld) hb)) (fun wd1 hRn hHn => ?_)
  clear hK K hHeld HB1 wb1 d1 hb
  obtain ⟨HB1, wb1, d1, hsz1⟩ := hRn
  have hHeld := hHn
  clear hHn
  try simp only [Act.put, ls0, ls1, ls2]
  refine wtk 5 ?_ rfl (.inl ⟨by rfl, ?_⟩) ?_
  rotate_left 1
  · (intro w hSw; go_simp; try with_reducible rfl)
  try simp only [Act.put, ls0, ls1, ls2]
  refine wtk 6 ?_ rfl (.inl ⟨by rfl, ?_⟩) ?_
  rotate_left 1
  · (intro w hSw; go_simp; try with_reducible rfl)
  try simp only [Act.put, ls0, ls1, ls2]
  refine wpAnyH_done (by kernel_rfl) ?_ _
  clear hHeld
  have s0 : wd1.cell? ⟨SB, 0, none⟩ = some (.bool false) := (HB1.out.cell (p := ⟨SB, 0, none⟩) (blk_lt HSB.out)).trans ((cell_blk HSB.out 0).trans rfl)
  have sl : SB < wd1.heap.size := Nat.lt_of_lt_of_le (blk_lt HSB.out) HB1.out.size
  have dc0 := cbk d1.out 0 (.bool false) rfl
  have df0 := frozen_blk d1.out 0
  have dc1 := cbk d1.out 1 (.int .i64 0) rfl
  have df1 := frozen_blk d1.out 1
  have dc2 := cbk d1.out 2 (.slice none 0 0) rfl
  have df2 := frozen_blk d1.out 2
  have dc3 := cbk d1.out 3 (.bool false) rfl
  have df3 := frozen_blk d1.out 3
  have dc4 := cbk d1.out 4 (.int .i64 0) rfl
  have df4 := frozen_blk d1.out 4
  have dc5 := cbk d1.out 5 (.bool false) rfl
  have df5 := frozen_blk d1.out 5
  have dc6 := cbk d1.out 6 (.bool false) rfl
  have df6 := frozen_blk d1.out 6
  have dc7 := cbk d1.out 7 (.bool false) rfl
  have df7 := frozen_blk d1.out 7
  have dc8 := cbk d1.out 8 (.int .i64 0) rfl
  have df8 := frozen_blk d1.out 8
  have ddl := blk_lt d1.out
  go_wp2
  exact bodyPost_ret (v := .agg #[.bool true, .int .i64 0, .slice none 0 0, .bool false, .int .i64 n, .bool true, .bool false, .bool false, .int .i64 0]) (results_cell_row rfl _ _ _ _ _ _ _ rfl ((blk_set (blk_set (blk_set (blk_set (blk_set (blk_set (blk_set (blk_set (blk_set d1.out 0 (.bool true)) 1 (.int .i64 0)) 2 (.slice none 0 0)) 3 (.bool false)) 4 (.int .i64 n)) 5 (.bool true)) 6 (.bool false)) 7 (.bool false)) 8 (.int .i64 0)).trans rfl) Tryz.underlying64 rfl (by kernel_rfl)) rfl ⟨rfl, (Below.setCell (Below.setCell (Below.setCell (Below.setCell (Below.setCell (Below.setCell (Below.setCell (Below.setCell (Below.setCell HB1.out (p := ⟨w.heap.size + 1, 0, none⟩) (by show w.heap.size ≤ w.heap.size + 1; omega) _) (p := ⟨w.heap.size + 1, 1, none⟩) (by show w.heap.size ≤ w.heap.size + 1; omega) _) (p := ⟨w.heap.size + 1, 2, none⟩) (by show w.heap.size ≤ w.heap.size + 1; omega) _) (p := ⟨w.heap.size + 1, 3, none⟩) (by show w.heap.size ≤ w.heap.size + 1; omega) _) (p := ⟨w.heap.size + 1, 4, none⟩) (by show w.heap.size ≤ w.heap.size + 1; omega) _) (p := ⟨w.heap.size + 1, 5, none⟩) (by show w.heap.size ≤ w.heap.size + 1; omega) _) (p := ⟨w.heap.size + 1, 6, none⟩) (by show w.heap.size ≤ w.heap.size + 1; omega) _) (p := ⟨w.heap.size + 1, 7, none⟩) (by show w.heap.size ≤ w.heap.size + 1; omega) _) (p := ⟨w.heap.size + 1, 8, none⟩) (by show w.heap.size ≤ w.heap.size + 1; omega) _)⟩
end
section
open Go.RowKit
set_option linter.unusedSimpArgs false
set_option linter.unusedVariables false
set_option maxRecDepth 100000 in
set_option maxHeartbeats 4000000 in
theorem rgCount_any (cv : Value) (C : Cfg) (hsm : C.small) (k : Nat) (hk : k < C.chans.length) (x : Chn) (hx : C.chans[k] = x) (own : Int) (hown : 0 ≤ own ∧ own < 4294967296) (hdp : 1 ≤ x.depth ∧ x.depth ≤ 8) (s1 s2 d1 d2 l1 l2 : Int) (hs : srcB C k = (s1, s2)) (hd : dstB C k = (d1, d2)) (hcl : cellB C k (own % x.depth) = (l1, l2)) (src : Bool) (w : World) (h : CfgAt w cv C) : Calls Tryz.prog 35 #[cv, .int .i64 k, .int .u32 own, .bool src] w fun e w' => ∃ O g QB OW SB : Nat, e = .returned (.pointer (some ⟨O, 0, none⟩)) ∧ w'.heap[O]? = some (.cells #[.int .u32 own, .slice (some ⟨g, 0, none⟩) 1 1] 132 (0, 0)) ∧ w'.heap[g]? = some (.cells #[FV 60 #[.pointer (some ⟨QB, 0, none⟩), .pointer (some ⟨OW, 0, none⟩), .pointer (some ⟨SB, 0, none⟩)]] 133 (0, 0)) ∧
      w'.heap[QB]? = some (.cells (⟨k, s1, d1, l1, x.words, x.depth⟩ : Qu).cells 124 (0, 0)) ∧ w'.heap[OW]? = some (.cells #[.int .u32 own] 41 (0, 0)) ∧ w'.heap[SB]? = some (.cells #[.bool src] 4 (0, 0)) ∧ Below w.heap.size w w' ∧ w.heap.size ≤ O ∧ w.heap.size ≤ g := by
  obtain ⟨ho, pa, pc, ca, cc, a0, c0, a1, c1, rfl, bp, bc, b0, b1, hp, hc, hw0, hw1⟩ := h
  have h := (show CfgAt w _ C from ⟨ho, pa, pc, ca, cc, a0, c0, a1, c1, rfl, bp, bc, b0, b1, hp, hc, hw0, hw1⟩)
  have HC := Kp.mk h
  clear ho hp hc hw0 hw1 h
  go_enter Tryz.func35, Tryz.ntmps35
  have HB0 : Kp (Below w.heap.size w w) := ⟨Below.refl _ _⟩
  go_wp2_with fail
  refine (rgof_any _ C hsm k hk x hx own hown hdp s1 s2 d1 d2 l1 l2 hs hd hcl _ (HC.out.below ((below_al (below_al (below_al HB0.out _) _) _)))).mono ?_
  rintro e w1 ⟨rfl, hb⟩
  have q1 : Kp (w1.heap[w.heap.size]? = some (.cells #[.slice pa C.parts.length pc, .slice ca C.chans.length cc, .int .i64 C.l0, .slice a0 C.w0.length c0, .int .i64 C.l1, .slice a1 C.w1.length c1] 31 (0, 0))) := ⟨blk_below (blk_al (blk_al (blk_new _ _) _) _) hb⟩
  have ow1 : Kp (w1.heap[w.heap.size + 1]? = some (.cells #[.int .u32 own] 41 (0, 0))) := ⟨blk_below (blk_al (blk_at (w := (w.alloc (.cells #[.slice pa C.parts.length pc, .slice ca C.chans.length cc, .int .i64 C.l0, .slice a0 C.w0.length c0, .int .i64 C.l1, .slice a1 C.w1.length c1] 31))) (by simp) _) _) hb⟩
  have sb1 : Kp (w1.heap[w.heap.size + 1 + 1]? = some (.cells #[.bool src] 4 (0, 0))) := ⟨blk_below (blk_at (w := ((w.alloc (.cells #[.slice pa C.parts.length pc, .slice ca C.chans.length cc, .int .i64 C.l0, .slice a0 C.w0.length c0, .int .i64 C.l1, .slice a1 C.w1.length c1] 31)).alloc (.cells #[.int .u32 own] 41))) (by simp) _) hb⟩
  have HB1 : Kp (Below w.heap.size w w1) := ⟨below_call (below_al (below_al (below_al HB0.out _) _) _) hb⟩
  clear HB0 hb
  have qc0 := cbk q1.out 0 (.slice pa C.parts.length pc) rfl
  have qc1 := cbk q1.out 1 (.slice ca C.chans.length cc) rfl
  have qc2 := cbk q1.out 2 (.int .i64 C.l0) rfl
  have qc3 := cbk q1.out 3 (.slice a0 C.w0.length c0) rfl
  have qc4 := cbk q1.out 4 (.int .i64 C.l1) rfl
  have qc5 := cbk q1.out 5 (.slice a1 C.w1.length c1) rfl
  have ql := blk_lt q1.out
  have owc0 := cbk ow1.out 0 (.int .u32 own) rfl
  have owl := blk_lt ow1.out
  have sbc0 := cbk sb1.out 0 (.bool src) rfl
  have sbl := blk_lt sb1.out
  have hszw := HB1.out.size
  go_wp2
  go_ret
  exact ⟨_, w1.heap.size + 1, w1.heap.size, w.heap.size + 1, w.heap.size + 1 + 1, rfl, blk_at (by simp) _, blk_al (blk_at (by simp) _) _, blk_al (blk_al (blk_new _ _) _) _, blk_al (blk_al (blk_al ow1.out _) _) _, blk_al (blk_al (blk_al sb1.out _) _) _, below_al (below_al (below_al HB1.out _) _) _, by omega, by omega⟩

end
section
open Go.RowKit
set_option linter.unusedSimpArgs false
set_option linter.unusedVariables false
theorem count_two {kc : Cf12} {wd dp bt : Int} (own : Int) (hown : 0 ≤ own ∧ own < 4294967296) (src : Bool) (w : World) (h : Cf12Ok w kc wd dp bt) :
    Calls Tryz.prog 35 #[.agg #[.slice kc.pa 2 kc.pc, .slice (some ⟨kc.cg, kc.co, none⟩) 1 kc.cc, .int .i64 1, .slice kc.a0 1 kc.c0, .int .i64 1, .slice kc.a1 1 kc.c1], .int .i64 0, .int .u32 own, .bool src] w fun e w' => ∃ O g QB OW SB : Nat, e = .returned (.pointer (some ⟨O, 0, none⟩)) ∧ w'.heap[O]? = some (.cells #[.int .u32 own, .slice (some ⟨g, 0, none⟩) 1 1] 132 (0, 0)) ∧ w'.heap[g]? = some (.cells #[FV 60 #[.pointer (some ⟨QB, 0, none⟩), .pointer (some ⟨OW, 0, none⟩), .pointer (some ⟨SB, 0, none⟩)]] 133 (0, 0)) ∧
      w'.heap[QB]? = some (.cells (qu12 wd dp own).cells 124 (0, 0)) ∧ w'.heap[OW]? = some (.cells #[.int .u32 own] 41 (0, 0)) ∧ w'.heap[SB]? = some (.cells #[.bool src] 4 (0, 0)) ∧ Below w.heap.size w w' ∧ w.heap.size ≤ O ∧ w.heap.size ≤ g := by
  have hd := h.i.d
  have hm : 0 ≤ own % dp ∧ own % dp < dp := ⟨Int.emod_nonneg _ (by omega), Int.emod_lt_of_pos _ (by omega)⟩
  exact rgCount_any _ (two12 wd dp bt) (two12_small _ _ _) 0 (show 0 < 1 by decide) ⟨2, 0, 1, wd, dp, 0, bt⟩ rfl own hown (show 1 ≤ dp ∧ dp ≤ 8 by omega) _ _ _ _ _ _ (two12_src h.i) (two12_dst h.i) (two12_cell h.i (own % dp) hm.1 hm.2) src w h.cfg
end
end Go.Proofs.YtmidcnfmphlneaaGreat

/- Contracts of package ring: the steps of a send, of a receive, of a count, as closures. -/
import Derived.Test.YtmidcnfmphlneaaGreatQ12
namespace Go.Proofs.YtmidcnfmphlneaaGreat
open Go.RowKit
set_option linter.unusedSimpArgs false
set_option linter.unusedVariables false
def fullB (q : Qu) (ws : List Int) (own : Int) : Bool := decide (q.deep ≤ (own - ldW ws q.head) % 4294967296)
def emptyB (q : Qu) (ws : List Int) (own : Int) : Bool := decide (ldW ws q.tail = own)
set_option maxRecDepth 100000 in
set_option maxHeartbeats 4000000 in
theorem schk_any (q : Qu) (B BB D OB QB O : Nat) (own : Int) (lv : Value) (ws : List Int) (hq : q.ok ws.length) (hown : 0 ≤ own ∧ own < 4294967296) (w : World) (hM : MemAt w B D ws) (hOB : w.heap[OB]? = some (.cells #[.pointer (some ⟨O, 0, none⟩)] 75 (0, 0))) (hO : w.heap[O]? = some (.cells #[.int .u32 own, lv] 132 (0, 0))) (hQB : w.heap[QB]? = some (.cells q.cells 124 (0, 0))) : Calls Tryz.prog 62 #[.agg #[.pointer (some ⟨B, 0, none⟩), .pointer (some ⟨BB, 0, none⟩)], .pointer (some ⟨OB, 0, none⟩), .pointer (some ⟨QB, 0, none⟩)] w fun e w' => e = .returned (.agg #[.bool (fullB q ws own), .int .i64 (if fullB q ws own then 2 else 0), .slice none 0 0, .bool false, .int .i64 0, .bool (fullB q ws own), .bool false, .bool false, .int .i64 0]) ∧ Below w.heap.size w w' := by
  have HM := Kp.mk hM
  have lD := blk_lt hM.words
  have lB := blk_lt hM.head
  have HOB := Kp.mk hOB
  have HO := Kp.mk hO
  have HQB := Kp.mk hQB
  have hqh := hq.head
  have hqt := hq.tail
  have hqd := hq.deep
  clear hM hOB hO hQB hq
  obtain ⟨x, hx⟩ : ∃ x, ldW ws q.head = x := ⟨_, rfl⟩
  have HX := Kp.mk hx
  obtain ⟨fl, hfl⟩ : ∃ fl, (own - x) % 4294967296 = fl := ⟨_, rfl⟩
  have v1 : IntKind.u32.wrap (own - x) = fl := by rw [IntKind.wrap_u32]; exact hfl
  have v2 : IntKind.u32.wrap q.deep = q.deep := IntWalk.u32_in _ (by omega)
  have HFB : Kp (fullB q ws own = decide (q.deep ≤ fl)) := ⟨by rw [fullB, hx, hfl]⟩
  clear hfl
  by_cases hc : q.deep ≤ fl
  · have HF2 : Kp (fullB q ws own = true) := ⟨by rw [HFB.out]; exact decide_eq_true hc⟩
    rw [HF2.out]
    clear HFB hx
    go_enter Tryz.func62, Tryz.ntmps62
    have HB0 : Kp (Below w.heap.size w w) := ⟨Below.refl _ _⟩
    go_wp2_with fail
    have wb1 : Kp (((w.alloc (.cells #[.pointer (some ⟨B, 0, none⟩), .pointer (some ⟨BB, 0, none⟩)] 127)).alloc (.cells #[.bool false, .int .i64 0, .slice none 0 0, .bool false, .int .i64 0, .bool false, .bool false, .bool false, .int .i64 0] 64)).heap[w.heap.size]? = some (.cells #[.pointer (some ⟨B, 0, none⟩), .pointer (some ⟨BB, 0, none⟩)] 127 (0, 0))) := ⟨(blk_al (blk_new _ _) _)⟩
    have d1 : Kp (((w.alloc (.cells #[.pointer (some ⟨B, 0, none⟩), .pointer (some ⟨BB, 0, none⟩)] 127)).alloc (.cells #[.bool false, .int .i64 0, .slice none 0 0, .bool false, .int .i64 0, .bool false, .bool false, .bool false, .int .i64 0] 64)).heap[w.heap.size + 1]? = some (.cells #[.bool false, .int .i64 0, .slice none 0 0, .bool false, .int .i64 0, .bool false, .bool false, .bool false, .int .i64 0] 64 (0, 0))) := ⟨(blk_at (w := (w.alloc (.cells #[.pointer (some ⟨B, 0, none⟩), .pointer (some ⟨BB, 0, none⟩)] 127))) (by simp) _)⟩
    have HB1 : Kp (Below w.heap.size w ((w.alloc (.cells #[.pointer (some ⟨B, 0, none⟩), .pointer (some ⟨BB, 0, none⟩)] 127)).alloc (.cells #[.bool false, .int .i64 0, .slice none 0 0, .bool false, .int .i64 0, .bool false, .bool false, .bool false, .int .i64 0] 64))) := ⟨(below_al (below_al HB0.out _) _)⟩
    clear HB0
    generalize ((w.alloc (.cells #[.pointer (some ⟨B, 0, none⟩), .pointer (some ⟨BB, 0, none⟩)] 127)).alloc (.cells #[.bool false, .int .i64 0, .slice none 0 0, .bool false, .int .i64 0, .bool false, .bool false, .bool false, .int .i64 0] 64)) = w1 at wb1 d1 HB1 ⊢
    have wbc0 := cbk wb1.out 0 (.pointer (some ⟨B, 0, none⟩)) rfl
    have wbc1 := cbk wb1.out 1 (.pointer (some ⟨BB, 0, none⟩)) rfl
    have wbl := blk_lt wb1.out
    have dc0 := cbk d1.out 0 (.bool false) rfl
    have dc1 := cbk d1.out 1 (.int .i64 0) rfl
    have dc2 := cbk d1.out 2 (.slice none 0 0) rfl
    have dc3 := cbk d1.out 3 (.bool false) rfl
    have dc4 := cbk d1.out 4 (.int .i64 0) rfl
    have dc5 := cbk d1.out 5 (.bool false) rfl
    have dc6 := cbk d1.out 6 (.bool false) rfl
    have dc7 := cbk d1.out 7 (.bool false) rfl
    have dc8 := cbk d1.out 8 (.int .i64 0) rfl
    have dl := blk_lt d1.out
    have ob0 : w1.cell? ⟨OB, 0, none⟩ = some (.pointer (some ⟨O, 0, none⟩)) := (HB1.out.cell (p := ⟨OB, 0, none⟩) (blk_lt HOB.out)).trans ((cell_blk HOB.out 0).trans rfl)
    have obl : OB < w1.heap.size := Nat.lt_of_lt_of_le (blk_lt HOB.out) HB1.out.size
    have o0 : w1.cell? ⟨O, 0, none⟩ = some (.int .u32 own) := (HB1.out.cell (p := ⟨O, 0, none⟩) (blk_lt HO.out)).trans ((cell_blk HO.out 0).trans rfl)
    have ol : O < w1.heap.size := Nat.lt_of_lt_of_le (blk_lt HO.out) HB1.out.size
    have qb0 : w1.cell? ⟨QB, 0, none⟩ = some (.int .i64 q.k) := (HB1.out.cell (p := ⟨QB, 0, none⟩) (blk_lt HQB.out)).trans ((cell_blk HQB.out 0).trans rfl)
    have qb1 : w1.cell? ⟨QB, 1, none⟩ = some (.int .i64 q.tail) := (HB1.out.cell (p := ⟨QB, 1, none⟩) (blk_lt HQB.out)).trans ((cell_blk HQB.out 1).trans rfl)
    have qb2 : w1.cell? ⟨QB, 2, none⟩ = some (.int .i64 q.head) := (HB1.out.cell (p := ⟨QB, 2, none⟩) (blk_lt HQB.out)).trans ((cell_blk HQB.out 2).trans rfl)
    have qb3 : w1.cell? ⟨QB, 3, none⟩ = some (.int .i64 q.cell) := (HB1.out.cell (p := ⟨QB, 3, none⟩) (blk_lt HQB.out)).trans ((cell_blk HQB.out 3).trans rfl)
    have qb4 : w1.cell? ⟨QB, 4, none⟩ = some (.int .i64 q.words) := (HB1.out.cell (p := ⟨QB, 4, none⟩) (blk_lt HQB.out)).trans ((cell_blk HQB.out 4).trans rfl)
    have qb5 : w1.cell? ⟨QB, 5, none⟩ = some (.int .i64 q.deep) := (HB1.out.cell (p := ⟨QB, 5, none⟩) (blk_lt HQB.out)).trans ((cell_blk HQB.out 5).trans rfl)
    have ql : QB < w1.heap.size := Nat.lt_of_lt_of_le (blk_lt HQB.out) HB1.out.size
    refine held_start_gen (S := (fun w' : World => ButB (w1.heap.size) [] w1 w' ∧ ∀ bb o, bb < w1.heap.size → w'.cell? ⟨bb, o, none⟩ = w1.cell? ⟨bb, o, none⟩)) (by kernel_rfl) (fun wz : World => Kp (Below w.heap.size w wz) ∧ Kp (wz.heap[w.heap.size]? = some (.cells #[.pointer (some ⟨B, 0, none⟩), .pointer (some ⟨BB, 0, none⟩)] 127 (0, 0))) ∧ Kp (wz.heap[w.heap.size + 1]? = some (.cells #[.bool false, .int .i64 0, .slice none 0 0, .bool false, .int .i64 0, .bool false, .bool false, .bool false, .int .i64 0] 64 (0, 0))) ∧ w1.heap.size ≤ wz.heap.size) ⟨⟨below_dr HB1.out⟩, ⟨blk_dr wb1.out⟩, ⟨blk_dr d1.out⟩, Nat.le_refl _⟩ (sx_of0 (ButB.dr (ButB.refl _ (by omega)))) (fun wd0 hRn hHeld => ?_)
    clear HB1 wb1 d1
    obtain ⟨HB1, wb1, d1, hsz⟩ := hRn
    refine wtk 0 ?_ rfl (.inl ⟨by rfl, ?_⟩) ?_
    rotate_left 1
    · (intro w hSw; go_simp; try with_reducible rfl)
    try simp only [Act.put, ls0, ls1, ls2]
    refine wtk 1 ?_ rfl (.inl ⟨by rfl, ?_⟩) ?_
    rotate_left 1
    · (intro w hSw; go_simp; try with_reducible rfl)
    try simp only [Act.put, ls0, ls1, ls2]
    refine wtk 2 ?_ rfl (.inl ⟨by rfl, ?_⟩) ?_
    rotate_left 1
    · (intro w hSw; go_simp; try with_reducible rfl)
    try simp only [Act.put, ls0, ls1, ls2]
    refine wtk 3 ?_ rfl (.inl ⟨by rfl, ?_⟩) ?_
    rotate_left 1
    · (intro w hSw; go_simp; try with_reducible rfl)
    try simp only [Act.put, ls0, ls1, ls2]
    refine wtk 4 ?_ rfl (.inl ⟨by rfl, ?_⟩) ?_
    rotate_left 1
    · (intro w hSw; go_simp; try with_reducible rfl)
    try simp only [Act.put, ls0, ls1, ls2]
    refine wtk 5 ?_ rfl (.inl ⟨by rfl, ?_⟩) ?_
    rotate_left 1
    · (intro w hSw; go_simp; try with_reducible rfl)
    try simp only [Act.put, ls0, ls1, ls2]
    refine wtk 6 ?_ rfl (.inl ⟨by rfl, ?_⟩) ?_
    rotate_left 1
    · (intro w hSw; go_simp; try with_reducible rfl)
    try simp only [Act.put, ls0, ls1, ls2]
    refine wtk 9 ?_ rfl (.inl ⟨by rfl, ?_⟩) ?_
    rotate_left 1
    · (intro w hSw; go_simp; try with_reducible rfl)
    try simp only [Act.put, ls0, ls1, ls2]
    refine wtk 10 ?_ rfl (.inl ⟨by rfl, ?_⟩) ?_
    rotate_left 1
    · (intro w hSw; go_simp; try with_reducible rfl)
    try simp only [Act.put, ls0, ls1, ls2]
    refine wtk 11 ?_ rfl (.inl ⟨by rfl, ?_⟩) ?_
    rotate_left 1
    · (intro w hSw; go_simp; try with_reducible rfl)
    try simp only [Act.put, ls0, ls1, ls2]
    refine wrd [7] ?_
    refine (arc rfl (fun K hK => ?_) arn)
    go_simp
    go_at_call 61
    refine (rgload_any B BB D ws q.head (by omega) (by omega) _ (HM.out.below HB1.out)).mono ?_
    rw [HX.out]
    rintro e w9 ⟨rfl, hb⟩
    try go_wp2_with fail
    refine out_gen hK _ _ (fun wz : World => Kp (Below w.heap.size w wz) ∧ Kp (wz.heap[w.heap.size]? = some (.cells #[.pointer (some ⟨B, 0, none⟩), .pointer (some ⟨BB, 0, none⟩)] 127 (0, 0))) ∧ Kp (wz.heap[w.heap.size + 1]? = some (.cells #[.bool false, .int .i64 0, .slice none 0 0, .bool false, .int .i64 0, .bool false, .bool false, .bool false, .int .i64 0] 64 (0, 0))) ∧ wd0.heap.size ≤ wz.heap.size) ⟨⟨below_call HB1.out hb⟩, ⟨blk_below wb1.out hb⟩, ⟨blk_below d1.out hb⟩, hb.size⟩ (sx_of0 (ButB.call (And.left hHeld) hb)) (fun wd1 hRn hHn => ?_)
    clear hK K hHeld HB1 wb1 d1 hb
    obtain ⟨HB1, wb1, d1, hsz1⟩ := hRn
    have hHeld := hHn
    clear hHn
    try simp only [Act.put, ls0, ls1, ls2]
    refine wtk 8 ?_ rfl (.inl ⟨by rfl, ?_⟩) ?_
    rotate_left 1
    · (intro w hSw; go_simp; try with_reducible rfl)
    try simp only [Act.put, ls0, ls1, ls2]
    refine wtk 12 ?_ rfl (.inl ⟨by rfl, ?_⟩) ?_
    rotate_left 1
    · (intro w hSw; go_simp; try with_reducible rfl)
    try simp only [Act.put, ls0, ls1, ls2]
    refine wpAnyH_done (by kernel_rfl) ?_ _
    clear hHeld
    go_wp2_with fail
    refine (refused_any _).mono ?_
    rintro e w8 ⟨rfl, hb8⟩
    have HB8 := Kp.mk (below_call HB1.out hb8)
    have D8 := Kp.mk (blk_below d1.out hb8)
    have dc0 := cbk D8.out 0 (.bool false) rfl
    have df0 := frozen_blk D8.out 0
    have dc1 := cbk D8.out 1 (.int .i64 0) rfl
    have df1 := frozen_blk D8.out 1
    have dc2 := cbk D8.out 2 (.slice none 0 0) rfl
    have df2 := frozen_blk D8.out 2
    have dc3 := cbk D8.out 3 (.bool false) rfl
    have df3 := frozen_blk D8.out 3
    have dc4 := cbk D8.out 4 (.int .i64 0) rfl
    have df4 := frozen_blk D8.out 4
    have dc5 := cbk D8.out 5 (.bool false) rfl
    have df5 := frozen_blk D8.out 5
    have dc6 := cbk D8.out 6 (.bool false) rfl
    have df6 := frozen_blk D8.out 6
    have dc7 := cbk D8.out 7 (.bool false) rfl
    have df7 := frozen_blk D8.out 7
    have dc8 := cbk D8.out 8 (.int .i64 0) rfl
    have df8 := frozen_blk D8.out 8
    have dl := blk_lt D8.out
    clear hb8 HB1 d1
    go_wp2
    exact bodyPost_ret (v := .agg #[.bool true, .int .i64 2, .slice none 0 0, .bool false, .int .i64 0, .bool true, .bool false, .bool false, .int .i64 0]) (results_cell_row rfl _ _ _ _ _ _ _ rfl ((blk_set (blk_set (blk_set (blk_set (blk_set (blk_set (blk_set (blk_set (blk_set D8.out 0 (.bool true)) 1 (.int .i64 2)) 2 (.slice none 0 0)) 3 (.bool false)) 4 (.int .i64 0)) 5 (.bool true)) 6 (.bool false)) 7 (.bool false)) 8 (.int .i64 0)).trans rfl) Tryz.underlying64 rfl (by kernel_rfl)) rfl ⟨rfl, (Below.setCell (Below.setCell (Below.setCell (Below.setCell (Below.setCell (Below.setCell (Below.setCell (Below.setCell (Below.setCell HB8.out (p := ⟨w.heap.size + 1, 0, none⟩) (by show w.heap.size ≤ w.heap.size + 1; omega) _) (p := ⟨w.heap.size + 1, 1, none⟩) (by show w.heap.size ≤ w.heap.size + 1; omega) _) (p := ⟨w.heap.size + 1, 2, none⟩) (by show w.heap.size ≤ w.heap.size + 1; omega) _) (p := ⟨w.heap.size + 1, 3, none⟩) (by show w.heap.size ≤ w.heap.size + 1; omega) _) (p := ⟨w.heap.size + 1, 4, none⟩) (by show w.heap.size ≤ w.heap.size + 1; omega) _) (p := ⟨w.heap.size + 1, 5, none⟩) (by show w.heap.size ≤ w.heap.size + 1; omega) _) (p := ⟨w.heap.size + 1, 6, none⟩) (by show w.heap.size ≤ w.heap.size + 1; omega) _) (p := ⟨w.heap.size + 1, 7, none⟩) (by show w.heap.size ≤ w.heap.size + 1; omega) _) (p := ⟨w.heap.size + 1, 8, none⟩) (by show w.heap.size ≤ w.heap.size + 1; omega) _)⟩
  · have HF2 : Kp (fullB q ws own = false) := ⟨by rw [HFB.out]; exact decide_eq_false hc⟩
    rw [HF2.out]
    clear HFB hx
    go_enter Tryz.func62, Tryz.ntmps62
    have HB0 : Kp (Below w.heap.size w w) := ⟨Below.refl _ _⟩
    go_wp2_with fail
    have wb1 : Kp (((w.alloc (.cells #[.pointer (some ⟨B, 0, none⟩), .pointer (some ⟨BB, 0, none⟩)] 127)).alloc (.cells #[.bool false, .int .i64 0, .slice none 0 0, .bool false, .int .i64 0, .bool false, .bool false, .bool false, .int .i64 0] 64)).heap[w.heap.size]? = some (.cells #[.pointer (some ⟨B, 0, none⟩), .pointer (some ⟨BB, 0, none⟩)] 127 (0, 0))) := ⟨(blk_al (blk_new _ _) _)⟩
    have d1 : Kp (((w.alloc (.cells #[.pointer (some ⟨B, 0, none⟩), .pointer (some ⟨BB, 0, none⟩)] 127)).alloc (.cells #[.bool false, .int .i64 0, .slice none 0 0, .bool false, .int .i64 0, .bool false, .bool false, .bool false, .int .i64 0] 64)).heap[w.heap.size + 1]? = some (.cells #[.bool false, .int .i64 0, .slice none 0 0, .bool false, .int .i64 0, .bool false, .bool false, .bool false, .int .i64 0] 64 (0, 0))) := ⟨(blk_at (w := (w.alloc (.cells #[.pointer (some ⟨B, 0, none⟩), .pointer (some ⟨BB, 0, none⟩)] 127))) (by simp) _)⟩
    have HB1 : Kp (Below w.heap.size w ((w.alloc (.cells #[.pointer (some ⟨B, 0, none⟩), .pointer (some ⟨BB, 0, none⟩)] 127)).alloc (.cells #[.bool false, .int .i64 0, .slice none 0 0, .bool false, .int .i64 0, .bool false, .bool false, .bool false, .int .i64 0] 64))) := ⟨(below_al (below_al HB0.out _) _)⟩
    clear HB0
    generalize ((w.alloc (.cells #[.pointer (some ⟨B, 0, none⟩), .pointer (some ⟨BB, 0, none⟩)] 127)).alloc (.cells #[.bool false, .int .i64 0, .slice none 0 0, .bool false, .int .i64 0, .bool false, .bool false, .bool false, .int .i64 0] 64)) = w1 at wb1 d1 HB1 ⊢
    have wbc0 := cbk wb1.out 0 (.pointer (some ⟨B, 0, none⟩)) rfl
    have wbc1 := cbk wb1.out 1 (.pointer (some ⟨BB, 0, none⟩)) rfl
    have wbl := blk_lt wb1.out
    have dc0 := cbk d1.out 0 (.bool false) rfl
    have dc1 := cbk d1.out 1 (.int .i64 0) rfl
    have dc2 := cbk d1.out 2 (.slice none 0 0) rfl
    have dc3 := cbk d1.out 3 (.bool false) rfl
    have dc4 := cbk d1.out 4 (.int .i64 0) rfl
    have dc5 := cbk d1.out 5 (.bool false) rfl
    have dc6 := cbk d1.out 6 (.bool false) rfl
    have dc7 := cbk d1.out 7 (.bool false) rfl
    have dc8 := cbk d1.out 8 (.int .i64 0) rfl
    have dl := blk_lt d1.out
    have ob0 : w1.cell? ⟨OB, 0, none⟩ = some (.pointer (some ⟨O, 0, none⟩)) := (HB1.out.cell (p := ⟨OB, 0, none⟩) (blk_lt HOB.out)).trans ((cell_blk HOB.out 0).trans rfl)
    have obl : OB < w1.heap.size := Nat.lt_of_lt_of_le (blk_lt HOB.out) HB1.out.size
    have o0 : w1.cell? ⟨O, 0, none⟩ = some (.int .u32 own) := (HB1.out.cell (p := ⟨O, 0, none⟩) (blk_lt HO.out)).trans ((cell_blk HO.out 0).trans rfl)
    have ol : O < w1.heap.size := Nat.lt_of_lt_of_le (blk_lt HO.out) HB1.out.size
    have qb0 : w1.cell? ⟨QB, 0, none⟩ = some (.int .i64 q.k) := (HB1.out.cell (p := ⟨QB, 0, none⟩) (blk_lt HQB.out)).trans ((cell_blk HQB.out 0).trans rfl)
    have qb1 : w1.cell? ⟨QB, 1, none⟩ = some (.int .i64 q.tail) := (HB1.out.cell (p := ⟨QB, 1, none⟩) (blk_lt HQB.out)).trans ((cell_blk HQB.out 1).trans rfl)
    have qb2 : w1.cell? ⟨QB, 2, none⟩ = some (.int .i64 q.head) := (HB1.out.cell (p := ⟨QB, 2, none⟩) (blk_lt HQB.out)).trans ((cell_blk HQB.out 2).trans rfl)
    have qb3 : w1.cell? ⟨QB, 3, none⟩ = some (.int .i64 q.cell) := (HB1.out.cell (p := ⟨QB, 3, none⟩) (blk_lt HQB.out)).trans ((cell_blk HQB.out 3).trans rfl)
    have qb4 : w1.cell? ⟨QB, 4, none⟩ = some (.int .i64 q.words) := (HB1.out.cell (p := ⟨QB, 4, none⟩) (blk_lt HQB.out)).trans ((cell_blk HQB.out 4).trans rfl)
    have qb5 : w1.cell? ⟨QB, 5, none⟩ = some (.int .i64 q.deep) := (HB1.out.cell (p := ⟨QB, 5, none⟩) (blk_lt HQB.out)).trans ((cell_blk HQB.out 5).trans rfl)
    have ql : QB < w1.heap.size := Nat.lt_of_lt_of_le (blk_lt HQB.out) HB1.out.size
    refine held_start_gen (S := (fun w' : World => ButB (w1.heap.size) [] w1 w' ∧ ∀ bb o, bb < w1.heap.size → w'.cell? ⟨bb, o, none⟩ = w1.cell? ⟨bb, o, none⟩)) (by kernel_rfl) (fun wz : World => Kp (Below w.heap.size w wz) ∧ Kp (wz.heap[w.heap.size]? = some (.cells #[.pointer (some ⟨B, 0, none⟩), .pointer (some ⟨BB, 0, none⟩)] 127 (0, 0))) ∧ Kp (wz.heap[w.heap.size + 1]? = some (.cells #[.bool false, .int .i64 0, .slice none 0 0, .bool false, .int .i64 0, .bool false, .bool false, .bool false, .int .i64 0] 64 (0, 0))) ∧ w1.heap.size ≤ wz.heap.size) ⟨⟨below_dr HB1.out⟩, ⟨blk_dr wb1.out⟩, ⟨blk_dr d1.out⟩, Nat.le_refl _⟩ (sx_of0 (ButB.dr (ButB.refl _ (by omega)))) (fun wd0 hRn hHeld => ?_)
    clear HB1 wb1 d1
    obtain ⟨HB1, wb1, d1, hsz⟩ := hRn
    refine wtk 0 ?_ rfl (.inl ⟨by rfl, ?_⟩) ?_
    rotate_left 1
    · (intro w hSw; go_simp; try with_reducible rfl)
    try simp only [Act.put, ls0, ls1, ls2]
    refine wtk 1 ?_ rfl (.inl ⟨by rfl, ?_⟩) ?_
    rotate_left 1
    · (intro w hSw; go_simp; try with_reducible rfl)
    try simp only [Act.put, ls0, ls1, ls2]
    refine wtk 2 ?_ rfl (.inl ⟨by rfl, ?_⟩) ?_
    rotate_left 1
    · (intro w hSw; go_simp; try with_reducible rfl)
    try simp only [Act.put, ls0, ls1, ls2]
    refine wtk 3 ?_ rfl (.inl ⟨by rfl, ?_⟩) ?_
    rotate_left 1
    · (intro w hSw; go_simp; try with_reducible rfl)
    try simp only [Act.put, ls0, ls1, ls2]
    refine wtk 4 ?_ rfl (.inl ⟨by rfl, ?_⟩) ?_
    rotate_left 1
    · (intro w hSw; go_simp; try with_reducible rfl)
    try simp only [Act.put, ls0, ls1, ls2]
    refine wtk 5 ?_ rfl (.inl ⟨by rfl, ?_⟩) ?_
    rotate_left 1
    · (intro w hSw; go_simp; try with_reducible rfl)
    try simp only [Act.put, ls0, ls1, ls2]
    refine wtk 6 ?_ rfl (.inl ⟨by rfl, ?_⟩) ?_
    rotate_left 1
    · (intro w hSw; go_simp; try with_reducible rfl)
    try simp only [Act.put, ls0, ls1, ls2]
    refine wtk 9 ?_ rfl (.inl ⟨by rfl, ?_⟩) ?_
    rotate_left 1
    · (intro w hSw; go_simp; try with_reducible rfl)
    try simp only [Act.put, ls0, ls1, ls2]
    refine wtk 10 ?_ rfl (.inl ⟨by rfl, ?_⟩) ?_
    rotate_left 1
    · (intro w hSw; go_simp; try with_reducible rfl)
    try simp only [Act.put, ls0, ls1, ls2]
    refine wtk 11 ?_ rfl (.inl ⟨by rfl, ?_⟩) ?_
    rotate_left 1
    · (intro w hSw; go_simp; try with_reducible rfl)
    try simp only [Act.put, ls0, ls1, ls2]
    refine wrd [7] ?_
    refine (arc rfl (fun K hK => ?_) arn)
    go_simp
    go_at_call 61
    refine (rgload_any B BB D ws q.head (by omega) (by omega) _ (HM.out.below HB1.out)).mono ?_
    rw [HX.out]
    rintro e w9 ⟨rfl, hb⟩
    try go_wp2_with fail
    refine out_gen hK _ _ (fun wz : World => Kp (Below w.heap.size w wz) ∧ Kp (wz.heap[w.heap.size]? = some (.cells #[.pointer (some ⟨B, 0, none⟩), .pointer (some ⟨BB, 0, none⟩)] 127 (0, 0))) ∧ Kp (wz.heap[w.heap.size + 1]? = some (.cells #[.bool false, .int .i64 0, .slice none 0 0, .bool false, .int .i64 0, .bool false, .bool false, .bool false, .int .i64 0] 64 (0, 0))) ∧ wd0.heap.size ≤ wz.heap.size) ⟨⟨below_call HB1.out hb⟩, ⟨blk_below wb1.out hb⟩, ⟨blk_below d1.out hb⟩, hb.size⟩ (sx_of0 (ButB.call (And.left hHeld) hb)) (fun wd1 hRn hHn => ?_)
    clear hK K hHeld HB1 wb1 d1 hb
    obtain ⟨HB1, wb1, d1, hsz1⟩ := hRn
    have hHeld := hHn
    clear hHn
    try simp only [Act.put, ls0, ls1, ls2]
    refine wtk 8 ?_ rfl (.inl ⟨by rfl, ?_⟩) ?_
    rotate_left 1
    · (intro w hSw; go_simp; try with_reducible rfl)
    try simp only [Act.put, ls0, ls1, ls2]
    refine wtk 12 ?_ rfl (.inl ⟨by rfl, ?_⟩) ?_
    rotate_left 1
    · (intro w hSw; go_simp; try with_reducible rfl)
    try simp only [Act.put, ls0, ls1, ls2]
    refine wpAnyH_done (by kernel_rfl) ?_ _
    clear hHeld
    have dc0 := cbk d1.out 0 (.bool false) rfl
    have df0 := frozen_blk d1.out 0
    have dc1 := cbk d1.out 1 (.int .i64 0) rfl
    have df1 := frozen_blk d1.out 1
    have dc2 := cbk d1.out 2 (.slice none 0 0) rfl
    have df2 := frozen_blk d1.out 2
    have dc3 := cbk d1.out 3 (.bool false) rfl
    have df3 := frozen_blk d1.out 3
    have dc4 := cbk d1.out 4 (.int .i64 0) rfl
    have df4 := frozen_blk d1.out 4
    have dc5 := cbk d1.out 5 (.bool false) rfl
    have df5 := frozen_blk d1.out 5
    have dc6 := cbk d1.out 6 (.bool false) rfl
    have df6 := frozen_blk d1.out 6
    have dc7 := cbk d1.out 7 (.bool false) rfl
    have df7 := frozen_blk d1.out 7
    have dc8 := cbk d1.out 8 (.int .i64 0) rfl
    have df8 := frozen_blk d1.out 8
    have dl := blk_lt d1.out
    go_wp2
    exact bodyPost_ret (v := .agg #[.bool false, .int .i64 0, .slice none 0 0, .bool false, .int .i64 0, .bool false, .bool false, .bool false, .int .i64 0]) (results_cell_row rfl _ _ _ _ _ _ _ rfl ((blk_set (blk_set (blk_set (blk_set (blk_set (blk_set (blk_set (blk_set (blk_set d1.out 0 (.bool false)) 1 (.int .i64 0)) 2 (.slice none 0 0)) 3 (.bool false)) 4 (.int .i64 0)) 5 (.bool false)) 6 (.bool false)) 7 (.bool false)) 8 (.int .i64 0)).trans rfl) Tryz.underlying64 rfl (by kernel_rfl)) rfl ⟨rfl, (Below.setCell (Below.setCell (Below.setCell (Below.setCell (Below.setCell (Below.setCell (Below.setCell (Below.setCell (Below.setCell HB1.out (p := ⟨w.heap.size + 1, 0, none⟩) (by show w.heap.size ≤ w.heap.size + 1; omega) _) (p := ⟨w.heap.size + 1, 1, none⟩) (by show w.heap.size ≤ w.heap.size + 1; omega) _) (p := ⟨w.heap.size + 1, 2, none⟩) (by show w.heap.size ≤ w.heap.size + 1; omega) _) (p := ⟨w.heap.size + 1, 3, none⟩) (by show w.heap.size ≤ w.heap.size + 1; omega) _) (p := ⟨w.heap.size + 1, 4, none⟩) (by show w.heap.size ≤ w.heap.size + 1; omega) _) (p := ⟨w.heap.size + 1, 5, none⟩) (by show w.heap.size ≤ w.heap.size + 1; omega) _) (p := ⟨w.heap.size + 1, 6, none⟩) (by show w.heap.size ≤ w.heap.size + 1; omega) _) (p := ⟨w.heap.size + 1, 7, none⟩) (by show w.heap.size ≤ w.heap.size + 1; omega) _) (p := ⟨w.heap.size + 1, 8, none⟩) (by show w.heap.size ≤ w.heap.size + 1; omega) _)⟩
set_option maxRecDepth 100000 in
set_option maxHeartbeats 4000000 in
theorem rchk_any (q : Qu) (B BB D OB QB O : Nat) (own : Int) (lv : Value) (ws : List Int) (hq : q.ok ws.length) (hown : 0 ≤ own ∧ own < 4294967296) (w : World) (hM : MemAt w B D ws) (hOB : w.heap[OB]? = some (.cells #[.pointer (some ⟨O, 0, none⟩)] 75 (0, 0))) (hO : w.heap[O]? = some (.cells #[.int .u32 own, lv] 132 (0, 0))) (hQB : w.heap[QB]? = some (.cells q.cells 124 (0, 0))) : Calls Tryz.prog 72 #[.agg #[.pointer (some ⟨B, 0, none⟩), .pointer (some ⟨BB, 0, none⟩)], .pointer (some ⟨QB, 0, none⟩), .pointer (some ⟨OB, 0, none⟩)] w fun e w' => e = .returned (.agg #[.bool (emptyB q ws own), .int .i64 (if emptyB q ws own then 2 else 0), .slice none 0 0, .bool false, .int .i64 0, .bool (emptyB q ws own), .bool false, .bool false, .int .i64 0]) ∧ Below w.heap.size w w' := by
  have HM := Kp.mk hM
  have lD := blk_lt hM.words
  have lB := blk_lt hM.head
  have HOB := Kp.mk hOB
  have HO := Kp.mk hO
  have HQB := Kp.mk hQB
  have hqh := hq.head
  have hqt := hq.tail
  have hqd := hq.deep
  clear hM hOB hO hQB hq
  obtain ⟨x, hx⟩ : ∃ x, ldW ws q.tail = x := ⟨_, rfl⟩
  have HX := Kp.mk hx
  have HFB : Kp (emptyB q ws own = decide (x = own)) := ⟨by rw [emptyB, hx]⟩
  by_cases hc : x = own
  · have HF2 : Kp (emptyB q ws own = true) := ⟨by rw [HFB.out]; exact decide_eq_true hc⟩
    rw [HF2.out]
    clear HFB hx
    have hc2 : (x == own) = true := by simpa using hc
    go_enter Tryz.func72, Tryz.ntmps72
    have HB0 : Kp (Below w.heap.size w w) := ⟨Below.refl _ _⟩
    go_wp2_with fail
    have wb1 : Kp (((w.alloc (.cells #[.pointer (some ⟨B, 0, none⟩), .pointer (some ⟨BB, 0, none⟩)] 127)).alloc (.cells #[.bool false, .int .i64 0, .slice none 0 0, .bool false, .int .i64 0, .bool false, .bool false, .bool false, .int .i64 0] 64)).heap[w.heap.size]? = some (.cells #[.pointer (some ⟨B, 0, none⟩), .pointer (some ⟨BB, 0, none⟩)] 127 (0, 0))) := ⟨(blk_al (blk_new _ _) _)⟩
    have d1 : Kp (((w.alloc (.cells #[.pointer (some ⟨B, 0, none⟩), .pointer (some ⟨BB, 0, none⟩)] 127)).alloc (.cells #[.bool false, .int .i64 0, .slice none 0 0, .bool false, .int .i64 0, .bool false, .bool false, .bool false, .int .i64 0] 64)).heap[w.heap.size + 1]? = some (.cells #[.bool false, .int .i64 0, .slice none 0 0, .bool false, .int .i64 0, .bool false, .bool false, .bool false, .int .i64 0] 64 (0, 0))) := ⟨(blk_at (w := (w.alloc (.cells #[.pointer (some ⟨B, 0, none⟩), .pointer (some ⟨BB, 0, none⟩)] 127))) (by simp) _)⟩
    have HB1 : Kp (Below w.heap.size w ((w.alloc (.cells #[.pointer (some ⟨B, 0, none⟩), .pointer (some ⟨BB, 0, none⟩)] 127)).alloc (.cells #[.bool false, .int .i64 0, .slice none 0 0, .bool false, .int .i64 0, .bool false, .bool false, .bool false, .int .i64 0] 64))) := ⟨(below_al (below_al HB0.out _) _)⟩
    clear HB0
    generalize ((w.alloc (.cells #[.pointer (some ⟨B, 0, none⟩), .pointer (some ⟨BB, 0, none⟩)] 127)).alloc (.cells #[.bool false, .int .i64 0, .slice none 0 0, .bool false, .int .i64 0, .bool false, .bool false, .bool false, .int .i64 0] 64)) = w1 at wb1 d1 HB1 ⊢
    have wbc0 := cbk wb1.out 0 (.pointer (some ⟨B, 0, none⟩)) rfl
    have wbc1 := cbk wb1.out 1 (.pointer (some ⟨BB, 0, none⟩)) rfl
    have wbl := blk_lt wb1.out
    have dc0 := cbk d1.out 0 (.bool false) rfl
    have dc1 := cbk d1.out 1 (.int .i64 0) rfl
    have dc2 := cbk d1.out 2 (.slice none 0 0) rfl
    have dc3 := cbk d1.out 3 (.bool false) rfl
    have dc4 := cbk d1.out 4 (.int .i64 0) rfl
    have dc5 := cbk d1.out 5 (.bool false) rfl
    have dc6 := cbk d1.out 6 (.bool false) rfl
    have dc7 := cbk d1.out 7 (.bool false) rfl
    have dc8 := cbk d1.out 8 (.int .i64 0) rfl
    have dl := blk_lt d1.out
    have ob0 : w1.cell? ⟨OB, 0, none⟩ = some (.pointer (some ⟨O, 0, none⟩)) := (HB1.out.cell (p := ⟨OB, 0, none⟩) (blk_lt HOB.out)).trans ((cell_blk HOB.out 0).trans rfl)
    have obl : OB < w1.heap.size := Nat.lt_of_lt_of_le (blk_lt HOB.out) HB1.out.size
    have o0 : w1.cell? ⟨O, 0, none⟩ = some (.int .u32 own) := (HB1.out.cell (p := ⟨O, 0, none⟩) (blk_lt HO.out)).trans ((cell_blk HO.out 0).trans rfl)
    have ol : O < w1.heap.size := Nat.lt_of_lt_of_le (blk_lt HO.out) HB1.out.size
    have qb0 : w1.cell? ⟨QB, 0, none⟩ = some (.int .i64 q.k) := (HB1.out.cell (p := ⟨QB, 0, none⟩) (blk_lt HQB.out)).trans ((cell_blk HQB.out 0).trans rfl)
    have qb1 : w1.cell? ⟨QB, 1, none⟩ = some (.int .i64 q.tail) := (HB1.out.cell (p := ⟨QB, 1, none⟩) (blk_lt HQB.out)).trans ((cell_blk HQB.out 1).trans rfl)
    have qb2 : w1.cell? ⟨QB, 2, none⟩ = some (.int .i64 q.head) := (HB1.out.cell (p := ⟨QB, 2, none⟩) (blk_lt HQB.out)).trans ((cell_blk HQB.out 2).trans rfl)
    have qb3 : w1.cell? ⟨QB, 3, none⟩ = some (.int .i64 q.cell) := (HB1.out.cell (p := ⟨QB, 3, none⟩) (blk_lt HQB.out)).trans ((cell_blk HQB.out 3).trans rfl)
    have qb4 : w1.cell? ⟨QB, 4, none⟩ = some (.int .i64 q.words) := (HB1.out.cell (p := ⟨QB, 4, none⟩) (blk_lt HQB.out)).trans ((cell_blk HQB.out 4).trans rfl)
    have qb5 : w1.cell? ⟨QB, 5, none⟩ = some (.int .i64 q.deep) := (HB1.out.cell (p := ⟨QB, 5, none⟩) (blk_lt HQB.out)).trans ((cell_blk HQB.out 5).trans rfl)
    have ql : QB < w1.heap.size := Nat.lt_of_lt_of_le (blk_lt HQB.out) HB1.out.size
    refine held_start_gen (S := (fun w' : World => ButB (w1.heap.size) [] w1 w' ∧ ∀ bb o, bb < w1.heap.size → w'.cell? ⟨bb, o, none⟩ = w1.cell? ⟨bb, o, none⟩)) (by kernel_rfl) (fun wz : World => Kp (Below w.heap.size w wz) ∧ Kp (wz.heap[w.heap.size]? = some (.cells #[.pointer (some ⟨B, 0, none⟩), .pointer (some ⟨BB, 0, none⟩)] 127 (0, 0))) ∧ Kp (wz.heap[w.heap.size + 1]? = some (.cells #[.bool false, .int .i64 0, .slice none 0 0, .bool false, .int .i64 0, .bool false, .bool false, .bool false, .int .i64 0] 64 (0, 0))) ∧ w1.heap.size ≤ wz.heap.size) ⟨⟨below_dr HB1.out⟩, ⟨blk_dr wb1.out⟩, ⟨blk_dr d1.out⟩, Nat.le_refl _⟩ (sx_of0 (ButB.dr (ButB.refl _ (by omega)))) (fun wd0 hRn hHeld => ?_)
    clear HB1 wb1 d1
    obtain ⟨HB1, wb1, d1, hsz⟩ := hRn
    refine wtk 0 ?_ rfl (.inl ⟨by rfl, ?_⟩) ?_
    rotate_left 1
    · (intro w hSw; go_simp; try with_reducible rfl)
    try simp only [Act.put, ls0, ls1, ls2]
    refine wtk 1 ?_ rfl (.inl ⟨by rfl, ?_⟩) ?_
    rotate_left 1
    · (intro w hSw; go_simp; try with_reducible rfl)
    try simp only [Act.put, ls0, ls1, ls2]
    refine wtk 2 ?_ rfl (.inl ⟨by rfl, ?_⟩) ?_
    rotate_left 1
    · (intro w hSw; go_simp; try with_reducible rfl)
    try simp only [Act.put, ls0, ls1, ls2]
    refine wtk 4 ?_ rfl (.inl ⟨by rfl, ?_⟩) ?_
    rotate_left 1
    · (intro w hSw; go_simp; try with_reducible rfl)
    try simp only [Act.put, ls0, ls1, ls2]
    refine wtk 5 ?_ rfl (.inl ⟨by rfl, ?_⟩) ?_
    rotate_left 1
    · (intro w hSw; go_simp; try with_reducible rfl)
    try simp only [Act.put, ls0, ls1, ls2]
    refine wtk 6 ?_ rfl (.inl ⟨by rfl, ?_⟩) ?_
    rotate_left 1
    · (intro w hSw; go_simp; try with_reducible rfl)
    try simp only [Act.put, ls0, ls1, ls2]
    refine wtk 7 ?_ rfl (.inl ⟨by rfl, ?_⟩) ?_
    rotate_left 1
    · (intro w hSw; go_simp; try with_reducible rfl)
    try simp only [Act.put, ls0, ls1, ls2]
    refine wrd [3] ?_
    refine (arc rfl (fun K hK => ?_) arn)
    go_simp
    go_at_call 61
    refine (rgload_any B BB D ws q.tail (by omega) (by omega) _ (HM.out.below HB1.out)).mono ?_
    rw [HX.out]
    rintro e w9 ⟨rfl, hb⟩
    try go_wp2_with fail
    refine out_gen hK _ _ (fun wz : World => Kp (Below w.heap.size w wz) ∧ Kp (wz.heap[w.heap.size]? = some (.cells #[.pointer (some ⟨B, 0, none⟩), .pointer (some ⟨BB, 0, none⟩)] 127 (0, 0))) ∧ Kp (wz.heap[w.heap.size + 1]? = some (.cells #[.bool false, .int .i64 0, .slice none 0 0, .bool false, .int .i64 0, .bool false, .bool false, .bool false, .int .i64 0] 64 (0, 0))) ∧ wd0.heap.size ≤ wz.heap.size) ⟨⟨below_call HB1.out hb⟩, ⟨blk_below wb1.out hb⟩, ⟨blk_below d1.out hb⟩, hb.size⟩ (sx_of0 (ButB.call (And.left hHeld) hb)) (fun wd1 hRn hHn => ?_)
    clear hK K hHeld HB1 wb1 d1 hb
    obtain ⟨HB1, wb1, d1, hsz1⟩ := hRn
    have hHeld := hHn
    clear hHn
    try simp only [Act.put, ls0, ls1, ls2]
    refine wtk 8 ?_ rfl (.inl ⟨by rfl, ?_⟩) ?_
    rotate_left 1
    · (intro w hSw; go_simp; try with_reducible rfl)
    try simp only [Act.put, ls0, ls1, ls2]
    refine wpAnyH_done (by kernel_rfl) ?_ _
    clear hHeld
    go_wp2_with fail
    refine (refused_any _).mono ?_
    rintro e w8 ⟨rfl, hb8⟩
    have HB8 := Kp.mk (below_call HB1.out hb8)
    have D8 := Kp.mk (blk_below d1.out hb8)
    have dc0 := cbk D8.out 0 (.bool false) rfl
    have df0 := frozen_blk D8.out 0
    have dc1 := cbk D8.out 1 (.int .i64 0) rfl
    have df1 := frozen_blk D8.out 1
    have dc2 := cbk D8.out 2 (.slice none 0 0) rfl
    have df2 := frozen_blk D8.out 2
    have dc3 := cbk D8.out 3 (.bool false) rfl
    have df3 := frozen_blk D8.out 3
    have dc4 := cbk D8.out 4 (.int .i64 0) rfl
    have df4 := frozen_blk D8.out 4
    have dc5 := cbk D8.out 5 (.bool false) rfl
    have df5 := frozen_blk D8.out 5
    have dc6 := cbk D8.out 6 (.bool false) rfl
    have df6 := frozen_blk D8.out 6
    have dc7 := cbk D8.out 7 (.bool false) rfl
    have df7 := frozen_blk D8.out 7
    have dc8 := cbk D8.out 8 (.int .i64 0) rfl
    have df8 := frozen_blk D8.out 8
    have dl := blk_lt D8.out
    clear hb8 HB1 d1
    go_wp2
    exact bodyPost_ret (v := .agg #[.bool true, .int .i64 2, .slice none 0 0, .bool false, .int .i64 0, .bool true, .bool false, .bool false, .int .i64 0]) (results_cell_row rfl _ _ _ _ _ _ _ rfl ((blk_set (blk_set (blk_set (blk_set (blk_set (blk_set (blk_set (blk_set (blk_set D8.out 0 (.bool true)) 1 (.int .i64 2)) 2 (.slice none 0 0)) 3 (.bool false)) 4 (.int .i64 0)) 5 (.bool true)) 6 (.bool false)) 7 (.bool false)) 8 (.int .i64 0)).trans rfl) Tryz.underlying64 rfl (by kernel_rfl)) rfl ⟨rfl, (Below.setCell (Below.setCell (Below.setCell (Below.setCell (Below.setCell (Below.setCell (Below.setCell (Below.setCell (Below.setCell HB8.out (p := ⟨w.heap.size + 1, 0, none⟩) (by show w.heap.size ≤ w.heap.size + 1; omega) _) (p := ⟨w.heap.size + 1, 1, none⟩) (by show w.heap.size ≤ w.heap.size + 1; omega) _) (p := ⟨w.heap.size + 1, 2, none⟩) (by show w.heap.size ≤ w.heap.size + 1; omega) _) (p := ⟨w.heap.size + 1, 3, none⟩) (by show w.heap.size ≤ w.heap.size + 1; omega) _) (p := ⟨w.heap.size + 1, 4, none⟩) (by show w.heap.size ≤ w.heap.size + 1; omega) _) (p := ⟨w.heap.size + 1, 5, none⟩) (by show w.heap.size ≤ w.heap.size + 1; omega) _) (p := ⟨w.heap.size + 1, 6, none⟩) (by show w.heap.size ≤ w.heap.size + 1; omega) _) (p := ⟨w.heap.size + 1, 7, none⟩) (by show w.heap.size ≤ w.heap.size + 1; omega) _) (p := ⟨w.heap.size + 1, 8, none⟩) (by show w.heap.size ≤ w.heap.size + 1; omega) _)⟩
  · have HF2 : Kp (emptyB q ws own = false) := ⟨by rw [HFB.out]; exact decide_eq_false hc⟩
    rw [HF2.out]
    clear HFB hx
    have hc2 : (x == own) = false := by simpa using hc
    go_enter Tryz.func72, Tryz.ntmps72
    have HB0 : Kp (Below w.heap.size w w) := ⟨Below.refl _ _⟩
    go_wp2_with fail
    have wb1 : Kp (((w.alloc (.cells #[.pointer (some ⟨B, 0, none⟩), .pointer (some ⟨BB, 0, none⟩)] 127)).alloc (.cells #[.bool false, .int .i64 0, .slice none 0 0, .bool false, .int .i64 0, .bool false, .bool false, .bool false, .int .i64 0] 64)).heap[w.heap.size]? = some (.cells #[.pointer (some ⟨B, 0, none⟩), .pointer (some ⟨BB, 0, none⟩)] 127 (0, 0))) := ⟨(blk_al (blk_new _ _) _)⟩
    have d1 : Kp (((w.alloc (.cells #[.pointer (some ⟨B, 0, none⟩), .pointer (some ⟨BB, 0, none⟩)] 127)).alloc (.cells #[.bool false, .int .i64 0, .slice none 0 0, .bool false, .int .i64 0, .bool false, .bool false, .bool false, .int .i64 0] 64)).heap[w.heap.size + 1]? = some (.cells #[.bool false, .int .i64 0, .slice none 0 0, .bool false, .int .i64 0, .bool false, .bool false, .bool false, .int .i64 0] 64 (0, 0))) := ⟨(blk_at (w := (w.alloc (.cells #[.pointer (some ⟨B, 0, none⟩), .pointer (some ⟨BB, 0, none⟩)] 127))) (by simp) _)⟩
    have HB1 : Kp (Below w.heap.size w ((w.alloc (.cells #[.pointer (some ⟨B, 0, none⟩), .pointer (some ⟨BB, 0, none⟩)] 127)).alloc (.cells #[.bool false, .int .i64 0, .slice none 0 0, .bool false, .int .i64 0, .bool false, .bool false, .bool false, .int .i64 0] 64))) := ⟨(below_al (below_al HB0.out _) _)⟩
    clear HB0
    generalize ((w.alloc (.cells #[.pointer (some ⟨B, 0, none⟩), .pointer (some ⟨BB, 0, none⟩)] 127)).alloc (.cells #[.bool false, .int .i64 0, .slice none 0 0, .bool false, .int .i64 0, .bool false, .bool false, .bool false, .int .i64 0] 64)) = w1 at wb1 d1 HB1 ⊢
    have wbc0 := cbk wb1.out 0 (.pointer (some ⟨B, 0, none⟩)) rfl
    have wbc1 := cbk wb1.out 1 (.pointer (some ⟨BB, 0, none⟩)) rfl
    have wbl := blk_lt wb1.out
    have dc0 := cbk d1.out 0 (.bool false) rfl
    have dc1 := cbk d1.out 1 (.int .i64 0) rfl
    have dc2 := cbk d1.out 2 (.slice none 0 0) rfl
    have dc3 := cbk d1.out 3 (.bool false) rfl
    have dc4 := cbk d1.out 4 (.int .i64 0) rfl
    have dc5 := cbk d1.out 5 (.bool false) rfl
    have dc6 := cbk d1.out 6 (.bool false) rfl
    have dc7 := cbk d1.out 7 (.bool false) rfl
    have dc8 := cbk d1.out 8 (.int .i64 0) rfl
    have dl := blk_lt d1.out
    have ob0 : w1.cell? ⟨OB, 0, none⟩ = some (.pointer (some ⟨O, 0, none⟩)) := (HB1.out.cell (p := ⟨OB, 0, none⟩) (blk_lt HOB.out)).trans ((cell_blk HOB.out 0).trans rfl)
    have obl : OB < w1.heap.size := Nat.lt_of_lt_of_le (blk_lt HOB.out) HB1.out.size
    have o0 : w1.cell? ⟨O, 0, none⟩ = some (.int .u32 own) := (HB1.out.cell (p := ⟨O, 0, none⟩) (blk_lt HO.out)).trans ((cell_blk HO.out 0).trans rfl)
    have ol : O < w1.heap.size := Nat.lt_of_lt_of_le (blk_lt HO.out) HB1.out.size
    have qb0 : w1.cell? ⟨QB, 0, none⟩ = some (.int .i64 q.k) := (HB1.out.cell (p := ⟨QB, 0, none⟩) (blk_lt HQB.out)).trans ((cell_blk HQB.out 0).trans rfl)
    have qb1 : w1.cell? ⟨QB, 1, none⟩ = some (.int .i64 q.tail) := (HB1.out.cell (p := ⟨QB, 1, none⟩) (blk_lt HQB.out)).trans ((cell_blk HQB.out 1).trans rfl)
    have qb2 : w1.cell? ⟨QB, 2, none⟩ = some (.int .i64 q.head) := (HB1.out.cell (p := ⟨QB, 2, none⟩) (blk_lt HQB.out)).trans ((cell_blk HQB.out 2).trans rfl)
    have qb3 : w1.cell? ⟨QB, 3, none⟩ = some (.int .i64 q.cell) := (HB1.out.cell (p := ⟨QB, 3, none⟩) (blk_lt HQB.out)).trans ((cell_blk HQB.out 3).trans rfl)
    have qb4 : w1.cell? ⟨QB, 4, none⟩ = some (.int .i64 q.words) := (HB1.out.cell (p := ⟨QB, 4, none⟩) (blk_lt HQB.out)).trans ((cell_blk HQB.out 4).trans rfl)
    have qb5 : w1.cell? ⟨QB, 5, none⟩ = some (.int .i64 q.deep) := (HB1.out.cell (p := ⟨QB, 5, none⟩) (blk_lt HQB.out)).trans ((cell_blk HQB.out 5).trans rfl)
    have ql : QB < w1.heap.size := Nat.lt_of_lt_of_le (blk_lt HQB.out) HB1.out.size
    refine held_start_gen (S := (fun w' : World => ButB (w1.heap.size) [] w1 w' ∧ ∀ bb o, bb < w1.heap.size → w'.cell? ⟨bb, o, none⟩ = w1.cell? ⟨bb, o, none⟩)) (by kernel_rfl) (fun wz : World => Kp (Below w.heap.size w wz) ∧ Kp (wz.heap[w.heap.size]? = some (.cells #[.pointer (some ⟨B, 0, none⟩), .pointer (some ⟨BB, 0, none⟩)] 127 (0, 0))) ∧ Kp (wz.heap[w.heap.size + 1]? = some (.cells #[.bool false, .int .i64 0, .slice none 0 0, .bool false, .int .i64 0, .bool false, .bool false, .bool false, .int .i64 0] 64 (0, 0))) ∧ w1.heap.size ≤ wz.heap.size) ⟨⟨below_dr HB1.out⟩, ⟨blk_dr wb1.out⟩, ⟨blk_dr d1.out⟩, Nat.le_refl _⟩ (sx_of0 (ButB.dr (ButB.refl _ (by omega)))) (fun wd0 hRn hHeld => ?_)
    clear HB1 wb1 d1
    obtain ⟨HB1, wb1, d1, hsz⟩ := hRn
    refine wtk 0 ?_ rfl (.inl ⟨by rfl, ?_⟩) ?_
    rotate_left 1
    · (intro w hSw; go_simp; try with_reducible rfl)
    try simp only [Act.put, ls0, ls1, ls2]
    refine wtk 1 ?_ rfl (.inl ⟨by rfl, ?_⟩) ?_
    rotate_left 1
    · (intro w hSw; go_simp; try with_reducible rfl)
    try simp only [Act.put, ls0, ls1, ls2]
    refine wtk 2 ?_ rfl (.inl ⟨by rfl, ?_⟩) ?_
    rotate_left 1
    · (intro w hSw; go_simp; try with_reducible rfl)
    try simp only [Act.put, ls0, ls1, ls2]
    refine wtk 4 ?_ rfl (.inl ⟨by rfl, ?_⟩) ?_
    rotate_left 1
    · (intro w hSw; go_simp; try with_reducible rfl)
    try simp only [Act.put, ls0, ls1, ls2]
    refine wtk 5 ?_ rfl (.inl ⟨by rfl, ?_⟩) ?_
    rotate_left 1
    · (intro w hSw; go_simp; try with_reducible rfl)
    try simp only [Act.put, ls0, ls1, ls2]
    refine wtk 6 ?_ rfl (.inl ⟨by rfl, ?_⟩) ?_
    rotate_left 1
    · (intro w hSw; go_simp; try with_reducible rfl)
    try simp only [Act.put, ls0, ls1, ls2]
    refine wtk 7 ?_ rfl (.inl ⟨by rfl, ?_⟩) ?_
    rotate_left 1
    · (intro w hSw; go_simp; try with_reducible rfl)
    try simp only [Act.put, ls0, ls1, ls2]
    refine wrd [3] ?_
    refine (arc rfl (fun K hK => ?_) arn)
    go_simp
    go_at_call 61
    refine (rgload_any B BB D ws q.tail (by omega) (by omega) _ (HM.out.below HB1.out)).mono ?_
    rw [HX.out]
    rintro e w9 ⟨rfl, hb⟩
    try go_wp2_with fail
    refine out_gen hK _ _ (fun wz : World => Kp (Below w.heap.size w wz) ∧ Kp (wz.heap[w.heap.size]? = some (.cells #[.pointer (some ⟨B, 0, none⟩), .pointer (some ⟨BB, 0, none⟩)] 127 (0, 0))) ∧ Kp (wz.heap[w.heap.size + 1]? = some (.cells #[.bool false, .int .i64 0, .slice none 0 0, .bool false, .int .i64 0, .bool false, .bool false, .bool false, .int .i64 0] 64 (0, 0))) ∧ wd0.heap.size ≤ wz.heap.size) ⟨⟨below_call HB1.out hb⟩, ⟨blk_below wb1.out hb⟩, ⟨blk_below d1.out hb⟩, hb.size⟩ (sx_of0 (ButB.call (And.left hHeld) hb)) (fun wd1 hRn hHn => ?_)
    clear hK K hHeld HB1 wb1 d1 hb
    obtain ⟨HB1, wb1, d1, hsz1⟩ := hRn
    have hHeld := hHn
    clear hHn
    try simp only [Act.put, ls0, ls1, ls2]
    refine wtk 8 ?_ rfl (.inl ⟨by rfl, ?_⟩) ?_
    rotate_left 1
    · (intro w hSw; go_simp; try with_reducible rfl)
    try simp only [Act.put, ls0, ls1, ls2]
    refine wpAnyH_done (by kernel_rfl) ?_ _
    clear hHeld
    have dc0 := cbk d1.out 0 (.bool false) rfl
    have df0 := frozen_blk d1.out 0
    have dc1 := cbk d1.out 1 (.int .i64 0) rfl
    have df1 := frozen_blk d1.out 1
    have dc2 := cbk d1.out 2 (.slice none 0 0) rfl
    have df2 := frozen_blk d1.out 2
    have dc3 := cbk d1.out 3 (.bool false) rfl
    have df3 := frozen_blk d1.out 3
    have dc4 := cbk d1.out 4 (.int .i64 0) rfl
    have df4 := frozen_blk d1.out 4
    have dc5 := cbk d1.out 5 (.bool false) rfl
    have df5 := frozen_blk d1.out 5
    have dc6 := cbk d1.out 6 (.bool false) rfl
    have df6 := frozen_blk d1.out 6
    have dc7 := cbk d1.out 7 (.bool false) rfl
    have df7 := frozen_blk d1.out 7
    have dc8 := cbk d1.out 8 (.int .i64 0) rfl
    have df8 := frozen_blk d1.out 8
    have dl := blk_lt d1.out
    go_wp2
    exact bodyPost_ret (v := .agg #[.bool false, .int .i64 0, .slice none 0 0, .bool false, .int .i64 0, .bool false, .bool false, .bool false, .int .i64 0]) (results_cell_row rfl _ _ _ _ _ _ _ rfl ((blk_set (blk_set (blk_set (blk_set (blk_set (blk_set (blk_set (blk_set (blk_set d1.out 0 (.bool false)) 1 (.int .i64 0)) 2 (.slice none 0 0)) 3 (.bool false)) 4 (.int .i64 0)) 5 (.bool false)) 6 (.bool false)) 7 (.bool false)) 8 (.int .i64 0)).trans rfl) Tryz.underlying64 rfl (by kernel_rfl)) rfl ⟨rfl, (Below.setCell (Below.setCell (Below.setCell (Below.setCell (Below.setCell (Below.setCell (Below.setCell (Below.setCell (Below.setCell HB1.out (p := ⟨w.heap.size + 1, 0, none⟩) (by show w.heap.size ≤ w.heap.size + 1; omega) _) (p := ⟨w.heap.size + 1, 1, none⟩) (by show w.heap.size ≤ w.heap.size + 1; omega) _) (p := ⟨w.heap.size + 1, 2, none⟩) (by show w.heap.size ≤ w.heap.size + 1; omega) _) (p := ⟨w.heap.size + 1, 3, none⟩) (by show w.heap.size ≤ w.heap.size + 1; omega) _) (p := ⟨w.heap.size + 1, 4, none⟩) (by show w.heap.size ≤ w.heap.size + 1; omega) _) (p := ⟨w.heap.size + 1, 5, none⟩) (by show w.heap.size ≤ w.heap.size + 1; omega) _) (p := ⟨w.heap.size + 1, 6, none⟩) (by show w.heap.size ≤ w.heap.size + 1; omega) _) (p := ⟨w.heap.size + 1, 7, none⟩) (by show w.heap.size ≤ w.heap.size + 1; omega) _) (p := ⟨w.heap.size + 1, 8, none⟩) (by show w.heap.size ≤ w.heap.size + 1; omega) _)⟩
set_option maxRecDepth 100000 in
set_option maxHeartbeats 4000000 in
theorem sput_any (B BB D AB XB : Nat) (a v : Int) (ws : List Int) (h0 : 0 ≤ a) (h1 : a < ws.length) (w : World) (hM : MemAt w B D ws) (hA : w.heap[AB]? = some (.cells #[.int .i64 a] 3 (0, 0))) (hX : w.heap[XB]? = some (.cells #[.int .u32 v] 41 (0, 0))) : Calls Tryz.prog 65 #[.agg #[.pointer (some ⟨B, 0, none⟩), .pointer (some ⟨BB, 0, none⟩)], .pointer (some ⟨AB, 0, none⟩), .pointer (some ⟨XB, 0, none⟩)] w fun e w' => e = .returned (.agg #[.bool false, .int .i64 0, .slice none 0 0, .bool false, .int .i64 0, .bool false, .bool false, .bool false, .int .i64 0]) ∧ MemAt w' B D (stW ws a v) ∧ ButS [D] w w' := by
  have HM := Kp.mk hM
  have lD := blk_lt hM.words
  have lB := blk_lt hM.head
  have HA := Kp.mk hA
  have HX := Kp.mk hX
  have a0 := cbk hA 0 (.int .i64 a) rfl
  have al := blk_lt hA
  have x0 := cbk hX 0 (.int .u32 v) rfl
  have xl := blk_lt hX
  clear hM hA hX
  go_enter Tryz.func65, Tryz.ntmps65
  have HB0 : Kp (Below w.heap.size w w) := ⟨Below.refl _ _⟩
  go_wp2_with fail
  have wb1 : Kp (((w.alloc (.cells #[.pointer (some ⟨B, 0, none⟩), .pointer (some ⟨BB, 0, none⟩)] 127)).alloc (.cells #[.bool false, .int .i64 0, .slice none 0 0, .bool false, .int .i64 0, .bool false, .bool false, .bool false, .int .i64 0] 64)).heap[w.heap.size]? = some (.cells #[.pointer (some ⟨B, 0, none⟩), .pointer (some ⟨BB, 0, none⟩)] 127 (0, 0))) := ⟨(blk_al (blk_new _ _) _)⟩
  have d1 : Kp (((w.alloc (.cells #[.pointer (some ⟨B, 0, none⟩), .pointer (some ⟨BB, 0, none⟩)] 127)).alloc (.cells #[.bool false, .int .i64 0, .slice none 0 0, .bool false, .int .i64 0, .bool false, .bool false, .bool false, .int .i64 0] 64)).heap[w.heap.size + 1]? = some (.cells #[.bool false, .int .i64 0, .slice none 0 0, .bool false, .int .i64 0, .bool false, .bool false, .bool false, .int .i64 0] 64 (0, 0))) := ⟨(blk_at (w := (w.alloc (.cells #[.pointer (some ⟨B, 0, none⟩), .pointer (some ⟨BB, 0, none⟩)] 127))) (by simp) _)⟩
  have HB1 : Kp (Below w.heap.size w ((w.alloc (.cells #[.pointer (some ⟨B, 0, none⟩), .pointer (some ⟨BB, 0, none⟩)] 127)).alloc (.cells #[.bool false, .int .i64 0, .slice none 0 0, .bool false, .int .i64 0, .bool false, .bool false, .bool false, .int .i64 0] 64))) := ⟨(below_al (below_al HB0.out _) _)⟩
  clear HB0
  generalize ((w.alloc (.cells #[.pointer (some ⟨B, 0, none⟩), .pointer (some ⟨BB, 0, none⟩)] 127)).alloc (.cells #[.bool false, .int .i64 0, .slice none 0 0, .bool false, .int .i64 0, .bool false, .bool false, .bool false, .int .i64 0] 64)) = w1 at wb1 d1 HB1 ⊢
  have wbc0 := cbk wb1.out 0 (.pointer (some ⟨B, 0, none⟩)) rfl
  have wbc1 := cbk wb1.out 1 (.pointer (some ⟨BB, 0, none⟩)) rfl
  have wbl := blk_lt wb1.out
  have dc0 := cbk d1.out 0 (.bool false) rfl
  have dc1 := cbk d1.out 1 (.int .i64 0) rfl
  have dc2 := cbk d1.out 2 (.slice none 0 0) rfl
  have dc3 := cbk d1.out 3 (.bool false) rfl
  have dc4 := cbk d1.out 4 (.int .i64 0) rfl
  have dc5 := cbk d1.out 5 (.bool false) rfl
  have dc6 := cbk d1.out 6 (.bool false) rfl
  have dc7 := cbk d1.out 7 (.bool false) rfl
  have dc8 := cbk d1.out 8 (.int .i64 0) rfl
  have dl := blk_lt d1.out
  refine (rgstore_any B BB D ws a v h0 h1 _ (HM.out.below HB1.out)).mono ?_
  rintro e w8 ⟨⟨r8, rfl⟩, hM8, hS8⟩
  have HM8 := Kp.mk hM8
  have D8 := Kp.mk (hS8.blk d1.out (by simp only [List.mem_singleton]; omega))
  have HS8 : Kp (ButS [D] w w8) := ⟨(ButS.of_below HB1.out).trans hS8⟩
  have hsz8 := hS8.size
  clear hM8 hS8 HB1 wb1 d1 wbc0 wbc1 wbl dc0 dc1 dc2 dc3 dc4 dc5 dc6 dc7 dc8 dl
  have dc0 := cbk D8.out 0 (.bool false) rfl
  have df0 := frozen_blk D8.out 0
  have dc1 := cbk D8.out 1 (.int .i64 0) rfl
  have df1 := frozen_blk D8.out 1
  have dc2 := cbk D8.out 2 (.slice none 0 0) rfl
  have df2 := frozen_blk D8.out 2
  have dc3 := cbk D8.out 3 (.bool false) rfl
  have df3 := frozen_blk D8.out 3
  have dc4 := cbk D8.out 4 (.int .i64 0) rfl
  have df4 := frozen_blk D8.out 4
  have dc5 := cbk D8.out 5 (.bool false) rfl
  have df5 := frozen_blk D8.out 5
  have dc6 := cbk D8.out 6 (.bool false) rfl
  have df6 := frozen_blk D8.out 6
  have dc7 := cbk D8.out 7 (.bool false) rfl
  have df7 := frozen_blk D8.out 7
  have dc8 := cbk D8.out 8 (.int .i64 0) rfl
  have df8 := frozen_blk D8.out 8
  have dl := blk_lt D8.out
  go_wp2
  exact bodyPost_ret (v := .agg #[.bool false, .int .i64 0, .slice none 0 0, .bool false, .int .i64 0, .bool false, .bool false, .bool false, .int .i64 0]) (results_cell_row rfl _ _ _ _ _ _ _ rfl ((blk_set (blk_set (blk_set (blk_set (blk_set (blk_set (blk_set (blk_set (blk_set D8.out 0 (.bool false)) 1 (.int .i64 0)) 2 (.slice none 0 0)) 3 (.bool false)) 4 (.int .i64 0)) 5 (.bool false)) 6 (.bool false)) 7 (.bool false)) 8 (.int .i64 0)).trans rfl) Tryz.underlying64 rfl (by kernel_rfl)) rfl ⟨rfl, (MemAt.setne (MemAt.setne (MemAt.setne (MemAt.setne (MemAt.setne (MemAt.setne (MemAt.setne (MemAt.setne (MemAt.setne HM8.out (p := ⟨w.heap.size + 1, 0, none⟩) (by show B ≠ w.heap.size + 1; omega) (by show D ≠ w.heap.size + 1; omega) (.bool false)) (p := ⟨w.heap.size + 1, 1, none⟩) (by show B ≠ w.heap.size + 1; omega) (by show D ≠ w.heap.size + 1; omega) (.int .i64 0)) (p := ⟨w.heap.size + 1, 2, none⟩) (by show B ≠ w.heap.size + 1; omega) (by show D ≠ w.heap.size + 1; omega) (.slice none 0 0)) (p := ⟨w.heap.size + 1, 3, none⟩) (by show B ≠ w.heap.size + 1; omega) (by show D ≠ w.heap.size + 1; omega) (.bool false)) (p := ⟨w.heap.size + 1, 4, none⟩) (by show B ≠ w.heap.size + 1; omega) (by show D ≠ w.heap.size + 1; omega) (.int .i64 0)) (p := ⟨w.heap.size + 1, 5, none⟩) (by show B ≠ w.heap.size + 1; omega) (by show D ≠ w.heap.size + 1; omega) (.bool false)) (p := ⟨w.heap.size + 1, 6, none⟩) (by show B ≠ w.heap.size + 1; omega) (by show D ≠ w.heap.size + 1; omega) (.bool false)) (p := ⟨w.heap.size + 1, 7, none⟩) (by show B ≠ w.heap.size + 1; omega) (by show D ≠ w.heap.size + 1; omega) (.bool false)) (p := ⟨w.heap.size + 1, 8, none⟩) (by show B ≠ w.heap.size + 1; omega) (by show D ≠ w.heap.size + 1; omega) (.int .i64 0)), (ButS.set' (ButS.set' (ButS.set' (ButS.set' (ButS.set' (ButS.set' (ButS.set' (ButS.set' (ButS.set' HS8.out (p := ⟨w.heap.size + 1, 0, none⟩) (by right; show w.heap.size ≤ w.heap.size + 1; omega) (.bool false)) (p := ⟨w.heap.size + 1, 1, none⟩) (by right; show w.heap.size ≤ w.heap.size + 1; omega) (.int .i64 0)) (p := ⟨w.heap.size + 1, 2, none⟩) (by right; show w.heap.size ≤ w.heap.size + 1; omega) (.slice none 0 0)) (p := ⟨w.heap.size + 1, 3, none⟩) (by right; show w.heap.size ≤ w.heap.size + 1; omega) (.bool false)) (p := ⟨w.heap.size + 1, 4, none⟩) (by right; show w.heap.size ≤ w.heap.size + 1; omega) (.int .i64 0)) (p := ⟨w.heap.size + 1, 5, none⟩) (by right; show w.heap.size ≤ w.heap.size + 1; omega) (.bool false)) (p := ⟨w.heap.size + 1, 6, none⟩) (by right; show w.heap.size ≤ w.heap.size + 1; omega) (.bool false)) (p := ⟨w.heap.size + 1, 7, none⟩) (by right; show w.heap.size ≤ w.heap.size + 1; omega) (.bool false)) (p := ⟨w.heap.size + 1, 8, none⟩) (by right; show w.heap.size ≤ w.heap.size + 1; omega) (.int .i64 0))⟩
set_option maxRecDepth 100000 in
set_option maxHeartbeats 4000000 in
theorem sring_any (q : Qu) (B BB QB : Nat) (x : List Bool) (hk : 0 ≤ q.k ∧ q.k ≤ 200) (w : World) (hB : BAt w BB x) (hQB : w.heap[QB]? = some (.cells q.cells 124 (0, 0))) : Calls Tryz.prog 68 #[.agg #[.pointer (some ⟨B, 0, none⟩), .pointer (some ⟨BB, 0, none⟩)], .pointer (some ⟨QB, 0, none⟩)] w fun e w' => e = .returned (.agg #[.bool true, .int .i64 0, .slice none 0 0, .bool false, .int .i64 0, .bool false, .bool true, .bool false, .int .i64 0]) ∧ BAt w' BB (ringB x (2 * q.k + 1)) ∧ ButS [BB] w w' := by
  have HBB := Kp.mk hB
  have HQB := Kp.mk hQB
  have lBB := hB.lt
  have v1 : IntKind.i64.wrap (2 * q.k) = 2 * q.k := IntWalk.i64_in _ (by omega)
  have v2 : IntKind.i64.wrap (2 * q.k + 1) = 2 * q.k + 1 := IntWalk.i64_in _ (by omega)
  have qb0 := cbk hQB 0 (.int .i64 q.k) rfl
  have qb1 := cbk hQB 1 (.int .i64 q.tail) rfl
  have qb2 := cbk hQB 2 (.int .i64 q.head) rfl
  have qb3 := cbk hQB 3 (.int .i64 q.cell) rfl
  have qb4 := cbk hQB 4 (.int .i64 q.words) rfl
  have qb5 := cbk hQB 5 (.int .i64 q.deep) rfl
  have ql := blk_lt hQB
  clear hB hQB
  go_enter Tryz.func68, Tryz.ntmps68
  have HB0 : Kp (Below w.heap.size w w) := ⟨Below.refl _ _⟩
  go_wp2_with fail
  have wb1 : Kp (((w.alloc (.cells #[.pointer (some ⟨B, 0, none⟩), .pointer (some ⟨BB, 0, none⟩)] 127)).alloc (.cells #[.bool false, .int .i64 0, .slice none 0 0, .bool false, .int .i64 0, .bool false, .bool false, .bool false, .int .i64 0] 64)).heap[w.heap.size]? = some (.cells #[.pointer (some ⟨B, 0, none⟩), .pointer (some ⟨BB, 0, none⟩)] 127 (0, 0))) := ⟨(blk_al (blk_new _ _) _)⟩
  have d1 : Kp (((w.alloc (.cells #[.pointer (some ⟨B, 0, none⟩), .pointer (some ⟨BB, 0, none⟩)] 127)).alloc (.cells #[.bool false, .int .i64 0, .slice none 0 0, .bool false, .int .i64 0, .bool false, .bool false, .bool false, .int .i64 0] 64)).heap[w.heap.size + 1]? = some (.cells #[.bool false, .int .i64 0, .slice none 0 0, .bool false, .int .i64 0, .bool false, .bool false, .bool false, .int .i64 0] 64 (0, 0))) := ⟨(blk_at (w := (w.alloc (.cells #[.pointer (some ⟨B, 0, none⟩), .pointer (some ⟨BB, 0, none⟩)] 127))) (by simp) _)⟩
  have HB1 : Kp (Below w.heap.size w ((w.alloc (.cells #[.pointer (some ⟨B, 0, none⟩), .pointer (some ⟨BB, 0, none⟩)] 127)).alloc (.cells #[.bool false, .int .i64 0, .slice none 0 0, .bool false, .int .i64 0, .bool false, .bool false, .bool false, .int .i64 0] 64))) := ⟨(below_al (below_al HB0.out _) _)⟩
  clear HB0
  generalize ((w.alloc (.cells #[.pointer (some ⟨B, 0, none⟩), .pointer (some ⟨BB, 0, none⟩)] 127)).alloc (.cells #[.bool false, .int .i64 0, .slice none 0 0, .bool false, .int .i64 0, .bool false, .bool false, .bool false, .int .i64 0] 64)) = w1 at wb1 d1 HB1 ⊢
  have wbc0 := cbk wb1.out 0 (.pointer (some ⟨B, 0, none⟩)) rfl
  have wbc1 := cbk wb1.out 1 (.pointer (some ⟨BB, 0, none⟩)) rfl
  have wbl := blk_lt wb1.out
  have dc0 := cbk d1.out 0 (.bool false) rfl
  have dc1 := cbk d1.out 1 (.int .i64 0) rfl
  have dc2 := cbk d1.out 2 (.slice none 0 0) rfl
  have dc3 := cbk d1.out 3 (.bool false) rfl
  have dc4 := cbk d1.out 4 (.int .i64 0) rfl
  have dc5 := cbk d1.out 5 (.bool false) rfl
  have dc6 := cbk d1.out 6 (.bool false) rfl
  have dc7 := cbk d1.out 7 (.bool false) rfl
  have dc8 := cbk d1.out 8 (.int .i64 0) rfl
  have dl := blk_lt d1.out
  refine (bellRing_any BB x (2 * q.k + 1) _ (HBB.out.below HB1.out)).mono ?_
  rintro e w8 ⟨he, hS8, hB8⟩
  obtain ⟨rc, rfl⟩ : ∃ rc : Int, e = .returned (.int .i64 rc) := ⟨_, he⟩
  clear he
  have D8 := Kp.mk (hS8.blk d1.out (by simp only [List.mem_singleton]; omega))
  have HS8 : Kp (ButS [BB] w w8) := ⟨(ButS.of_below HB1.out).trans hS8⟩
  have hsz8 := hS8.size
  clear hS8 HB1 wb1 d1 wbc0 wbc1 wbl dc0 dc1 dc2 dc3 dc4 dc5 dc6 dc7 dc8 dl
  have dc0 := cbk D8.out 0 (.bool false) rfl
  have df0 := frozen_blk D8.out 0
  have dc1 := cbk D8.out 1 (.int .i64 0) rfl
  have df1 := frozen_blk D8.out 1
  have dc2 := cbk D8.out 2 (.slice none 0 0) rfl
  have df2 := frozen_blk D8.out 2
  have dc3 := cbk D8.out 3 (.bool false) rfl
  have df3 := frozen_blk D8.out 3
  have dc4 := cbk D8.out 4 (.int .i64 0) rfl
  have df4 := frozen_blk D8.out 4
  have dc5 := cbk D8.out 5 (.bool false) rfl
  have df5 := frozen_blk D8.out 5
  have dc6 := cbk D8.out 6 (.bool false) rfl
  have df6 := frozen_blk D8.out 6
  have dc7 := cbk D8.out 7 (.bool false) rfl
  have df7 := frozen_blk D8.out 7
  have dc8 := cbk D8.out 8 (.int .i64 0) rfl
  have df8 := frozen_blk D8.out 8
  have dl := blk_lt D8.out
  go_wp2
  exact bodyPost_ret (v := .agg #[.bool true, .int .i64 0, .slice none 0 0, .bool false, .int .i64 0, .bool false, .bool true, .bool false, .int .i64 0]) (results_cell_row rfl _ _ _ _ _ _ _ rfl ((blk_set (blk_set (blk_set (blk_set (blk_set (blk_set (blk_set (blk_set (blk_set D8.out 0 (.bool true)) 1 (.int .i64 0)) 2 (.slice none 0 0)) 3 (.bool false)) 4 (.int .i64 0)) 5 (.bool false)) 6 (.bool true)) 7 (.bool false)) 8 (.int .i64 0)).trans rfl) Tryz.underlying64 rfl (by kernel_rfl)) rfl ⟨rfl, (BAt.but (BAt.but (BAt.but (BAt.but (BAt.but (BAt.but (BAt.but (BAt.but (BAt.but hB8.out (ButS.set (ButS.refl [w.heap.size + 1] _) (p := ⟨w.heap.size + 1, 0, none⟩) (by simp) (.bool true)) (by simp only [List.mem_singleton]; omega)) (ButS.set (ButS.refl [w.heap.size + 1] _) (p := ⟨w.heap.size + 1, 1, none⟩) (by simp) (.int .i64 0)) (by simp only [List.mem_singleton]; omega)) (ButS.set (ButS.refl [w.heap.size + 1] _) (p := ⟨w.heap.size + 1, 2, none⟩) (by simp) (.slice none 0 0)) (by simp only [List.mem_singleton]; omega)) (ButS.set (ButS.refl [w.heap.size + 1] _) (p := ⟨w.heap.size + 1, 3, none⟩) (by simp) (.bool false)) (by simp only [List.mem_singleton]; omega)) (ButS.set (ButS.refl [w.heap.size + 1] _) (p := ⟨w.heap.size + 1, 4, none⟩) (by simp) (.int .i64 0)) (by simp only [List.mem_singleton]; omega)) (ButS.set (ButS.refl [w.heap.size + 1] _) (p := ⟨w.heap.size + 1, 5, none⟩) (by simp) (.bool false)) (by simp only [List.mem_singleton]; omega)) (ButS.set (ButS.refl [w.heap.size + 1] _) (p := ⟨w.heap.size + 1, 6, none⟩) (by simp) (.bool true)) (by simp only [List.mem_singleton]; omega)) (ButS.set (ButS.refl [w.heap.size + 1] _) (p := ⟨w.heap.size + 1, 7, none⟩) (by simp) (.bool false)) (by simp only [List.mem_singleton]; omega)) (ButS.set (ButS.refl [w.heap.size + 1] _) (p := ⟨w.heap.size + 1, 8, none⟩) (by simp) (.int .i64 0)) (by simp only [List.mem_singleton]; omega)), (ButS.set' (ButS.set' (ButS.set' (ButS.set' (ButS.set' (ButS.set' (ButS.set' (ButS.set' (ButS.set' HS8.out (p := ⟨w.heap.size + 1, 0, none⟩) (by right; show w.heap.size ≤ w.heap.size + 1; omega) (.bool true)) (p := ⟨w.heap.size + 1, 1, none⟩) (by right; show w.heap.size ≤ w.heap.size + 1; omega) (.int .i64 0)) (p := ⟨w.heap.size + 1, 2, none⟩) (by right; show w.heap.size ≤ w.heap.size + 1; omega) (.slice none 0 0)) (p := ⟨w.heap.size + 1, 3, none⟩) (by right; show w.heap.size ≤ w.heap.size + 1; omega) (.bool false)) (p := ⟨w.heap.size + 1, 4, none⟩) (by right; show w.heap.size ≤ w.heap.size + 1; omega) (.int .i64 0)) (p := ⟨w.heap.size + 1, 5, none⟩) (by right; show w.heap.size ≤ w.heap.size + 1; omega) (.bool false)) (p := ⟨w.heap.size + 1, 6, none⟩) (by right; show w.heap.size ≤ w.heap.size + 1; omega) (.bool true)) (p := ⟨w.heap.size + 1, 7, none⟩) (by right; show w.heap.size ≤ w.heap.size + 1; omega) (.bool false)) (p := ⟨w.heap.size + 1, 8, none⟩) (by right; show w.heap.size ≤ w.heap.size + 1; omega) (.int .i64 0))⟩
set_option maxRecDepth 100000 in
set_option maxHeartbeats 4000000 in
theorem smark_any (q : Qu) (B BB D OB QB O : Nat) (own : Int) (lv : Value) (ws : List Int) (hq : q.ok ws.length) (w : World) (hM : MemAt w B D ws) (hOB : w.heap[OB]? = some (.cells #[.pointer (some ⟨O, 0, none⟩)] 75 (0, 0))) (hO : w.heap[O]? = some (.cells #[.int .u32 own, lv] 132 (0, 0))) (hQB : w.heap[QB]? = some (.cells q.cells 124 (0, 0))) : Calls Tryz.prog 67 #[.agg #[.pointer (some ⟨B, 0, none⟩), .pointer (some ⟨BB, 0, none⟩)], .pointer (some ⟨OB, 0, none⟩), .pointer (some ⟨QB, 0, none⟩)] w fun e w' => e = .returned (.agg #[.bool false, .int .i64 0, .slice none 0 0, .bool false, .int .i64 0, .bool true, .bool false, .bool false, .int .i64 0]) ∧ MemAt w' B D (stW ws q.tail ((own + 1) % 4294967296)) ∧ w'.heap[O]? = some (.cells #[.int .u32 ((own + 1) % 4294967296), lv] 132 (0, 0)) ∧ ButS [O, D] w w' := by
  have HM := Kp.mk hM
  have lD := blk_lt hM.words
  have lB := blk_lt hM.head
  have lO := blk_lt hO
  have ob0 := cbk hOB 0 (.pointer (some ⟨O, 0, none⟩)) rfl
  have o0 := cbk hO 0 (.int .u32 own) rfl
  have o1 := cbk hO 1 (lv) rfl
  have qb0 := cbk hQB 0 (.int .i64 q.k) rfl
  have qb1 := cbk hQB 1 (.int .i64 q.tail) rfl
  have qb2 := cbk hQB 2 (.int .i64 q.head) rfl
  have qb3 := cbk hQB 3 (.int .i64 q.cell) rfl
  have qb4 := cbk hQB 4 (.int .i64 q.words) rfl
  have qb5 := cbk hQB 5 (.int .i64 q.deep) rfl
  have f0 := frozen_blk hO 0
  have lOB := blk_lt hOB
  have lQB := blk_lt hQB
  have hn1 : O ≠ B := by
    rintro rfl
    rw [hM.head] at hO
    simp at hO
  have hn2 : O ≠ D := by
    rintro rfl
    rw [hM.words] at hO
    simp at hO
  have hn3 : O ≠ OB := by
    rintro rfl
    rw [hOB] at hO
    simp at hO
  have hn4 : O ≠ QB := by
    rintro rfl
    rw [hQB] at hO
    simp at hO
  have hnq : QB ≠ D := by
    rintro rfl
    rw [hM.words] at hQB
    simp at hQB
  have hno : OB ≠ D := by
    rintro rfl
    rw [hM.words] at hOB
    simp at hOB
  have hnw : w.heap.size ≠ D := by omega
  have v1 : IntKind.u32.wrap (own + 1) = (own + 1) % 4294967296 := IntKind.wrap_u32 _
  obtain ⟨ow, how⟩ : ∃ ow, (own + 1) % 4294967296 = ow := ⟨_, rfl⟩
  rw [how] at v1 ⊢
  have HO := Kp.mk hO
  have HOB := Kp.mk hOB
  have HQB := Kp.mk hQB
  have hqp := hq.tail
  clear hM hO hOB hQB hq how
  go_enter Tryz.func67, Tryz.ntmps67
  go_wp2_with fail
  have HO1 : Kp ((((w.setCell ⟨O, 0, none⟩ (.int .u32 ow)).alloc (.cells #[.pointer (some ⟨B, 0, none⟩), .pointer (some ⟨BB, 0, none⟩)] 127)).alloc (.cells #[.bool false, .int .i64 0, .slice none 0 0, .bool false, .int .i64 0, .bool false, .bool false, .bool false, .int .i64 0] 64)).heap[O]? = some (.cells #[.int .u32 ow, lv] 132 (0, 0))) := ⟨blk_al (blk_al ((blk_set HO.out 0 _).trans rfl) _) _⟩
  have HM1 : Kp (MemAt (((w.setCell ⟨O, 0, none⟩ (.int .u32 ow)).alloc (.cells #[.pointer (some ⟨B, 0, none⟩), .pointer (some ⟨BB, 0, none⟩)] 127)).alloc (.cells #[.bool false, .int .i64 0, .slice none 0 0, .bool false, .int .i64 0, .bool false, .bool false, .bool false, .int .i64 0] 64)) B D ws) := ⟨((MemAt.setne HM.out (p := ⟨O, 0, none⟩) (by show B ≠ O; exact fun e => hn1 e.symm) (by show D ≠ O; exact fun e => hn2 e.symm) _).al _).al _⟩
  have HS1 : Kp (ButS [O, D] w (((w.setCell ⟨O, 0, none⟩ (.int .u32 ow)).alloc (.cells #[.pointer (some ⟨B, 0, none⟩), .pointer (some ⟨BB, 0, none⟩)] 127)).alloc (.cells #[.bool false, .int .i64 0, .slice none 0 0, .bool false, .int .i64 0, .bool false, .bool false, .bool false, .int .i64 0] 64))) := ⟨ButS.al (ButS.al ((ButS.refl _ _).set (p := ⟨O, 0, none⟩) (by simp) _) _) _⟩
  have HOB1 : Kp ((((w.setCell ⟨O, 0, none⟩ (.int .u32 ow)).alloc (.cells #[.pointer (some ⟨B, 0, none⟩), .pointer (some ⟨BB, 0, none⟩)] 127)).alloc (.cells #[.bool false, .int .i64 0, .slice none 0 0, .bool false, .int .i64 0, .bool false, .bool false, .bool false, .int .i64 0] 64)).heap[OB]? = some (.cells #[.pointer (some ⟨O, 0, none⟩)] 75 (0, 0))) := ⟨blk_al (blk_al (blk_set_ne (p := ⟨O, 0, none⟩) HOB.out (by show OB ≠ O; exact fun e => hn3 e.symm) _) _) _⟩
  have HQB1 : Kp ((((w.setCell ⟨O, 0, none⟩ (.int .u32 ow)).alloc (.cells #[.pointer (some ⟨B, 0, none⟩), .pointer (some ⟨BB, 0, none⟩)] 127)).alloc (.cells #[.bool false, .int .i64 0, .slice none 0 0, .bool false, .int .i64 0, .bool false, .bool false, .bool false, .int .i64 0] 64)).heap[QB]? = some (.cells q.cells 124 (0, 0))) := ⟨blk_al (blk_al (blk_set_ne (p := ⟨O, 0, none⟩) HQB.out (by show QB ≠ O; exact fun e => hn4 e.symm) _) _) _⟩
  have wb1 : Kp ((((w.setCell ⟨O, 0, none⟩ (.int .u32 ow)).alloc (.cells #[.pointer (some ⟨B, 0, none⟩), .pointer (some ⟨BB, 0, none⟩)] 127)).alloc (.cells #[.bool false, .int .i64 0, .slice none 0 0, .bool false, .int .i64 0, .bool false, .bool false, .bool false, .int .i64 0] 64)).heap[w.heap.size]? = some (.cells #[.pointer (some ⟨B, 0, none⟩), .pointer (some ⟨BB, 0, none⟩)] 127 (0, 0))) := ⟨blk_al (blk_at (w := (w.setCell ⟨O, 0, none⟩ (.int .u32 ow))) (by simp [World.setCell]) _) _⟩
  have d1 : Kp ((((w.setCell ⟨O, 0, none⟩ (.int .u32 ow)).alloc (.cells #[.pointer (some ⟨B, 0, none⟩), .pointer (some ⟨BB, 0, none⟩)] 127)).alloc (.cells #[.bool false, .int .i64 0, .slice none 0 0, .bool false, .int .i64 0, .bool false, .bool false, .bool false, .int .i64 0] 64)).heap[w.heap.size + 1]? = some (.cells #[.bool false, .int .i64 0, .slice none 0 0, .bool false, .int .i64 0, .bool false, .bool false, .bool false, .int .i64 0] 64 (0, 0))) := ⟨blk_at (w := (w.setCell ⟨O, 0, none⟩ (.int .u32 ow)).alloc (.cells #[.pointer (some ⟨B, 0, none⟩), .pointer (some ⟨BB, 0, none⟩)] 127)) (by simp [World.setCell]) _⟩
  clear HO HM HOB HQB o0 o1 ob0 f0 qb0 qb1 qb2 qb3 qb4 qb5
  generalize (((w.setCell ⟨O, 0, none⟩ (.int .u32 ow)).alloc (.cells #[.pointer (some ⟨B, 0, none⟩), .pointer (some ⟨BB, 0, none⟩)] 127)).alloc (.cells #[.bool false, .int .i64 0, .slice none 0 0, .bool false, .int .i64 0, .bool false, .bool false, .bool false, .int .i64 0] 64)) = w1 at HO1 HM1 HS1 HOB1 HQB1 wb1 d1 ⊢
  have hsz1 := HS1.out.size
  have s1 : w.heap.size + 1 < w1.heap.size := blk_lt d1.out
  have ob0 := cbk HOB1.out 0 (.pointer (some ⟨O, 0, none⟩)) rfl
  have o0 := cbk HO1.out 0 (.int .u32 ow) rfl
  have wb0 := cbk wb1.out 0 (.pointer (some ⟨B, 0, none⟩)) rfl
  have wbb := cbk wb1.out 1 (.pointer (some ⟨BB, 0, none⟩)) rfl
  have qb0 := cbk HQB1.out 0 (.int .i64 q.k) rfl
  have qb1 := cbk HQB1.out 1 (.int .i64 q.tail) rfl
  have qb2 := cbk HQB1.out 2 (.int .i64 q.head) rfl
  have qb3 := cbk HQB1.out 3 (.int .i64 q.cell) rfl
  have qb4 := cbk HQB1.out 4 (.int .i64 q.words) rfl
  have qb5 := cbk HQB1.out 5 (.int .i64 q.deep) rfl
  have ol := blk_lt HO1.out
  have obl := blk_lt HOB1.out
  have ql := blk_lt HQB1.out
  have wbl := blk_lt wb1.out
  refine held_start_gen (S := (fun w' : World => ButB (w1.heap.size) [D] w1 w' ∧ ∀ bb o, bb < w1.heap.size → bb ≠ D → w'.cell? ⟨bb, o, none⟩ = w1.cell? ⟨bb, o, none⟩)) (by kernel_rfl) (fun wz : World => Kp (wz.heap[O]? = some (.cells #[.int .u32 ow, lv] 132 (0, 0))) ∧ Kp (ButS [O, D] w wz) ∧ Kp (wz.heap[w.heap.size + 1]? = some (.cells #[.bool false, .int .i64 0, .slice none 0 0, .bool false, .int .i64 0, .bool false, .bool false, .bool false, .int .i64 0] 64 (0, 0))) ∧ Kp (MemAt wz B D ws) ∧ w1.heap.size ≤ wz.heap.size) ⟨⟨blk_dr HO1.out⟩, ⟨ButS.dr HS1.out⟩, ⟨blk_dr d1.out⟩, ⟨HM1.out.below (below_dr (Below.refl _ _))⟩, Nat.le_refl _⟩ (sx_of1 (ButB.dr (ButB.refl _ (by omega)))) (fun wd0 hRn hHeld => ?_)
  clear HO1 HS1 d1 HM1
  obtain ⟨HO1, HS1, d1, HM1, hsz⟩ := hRn
  refine wtk 0 ?_ rfl (.inl ⟨by rfl, ?_⟩) ?_
  rotate_left 1
  · (intro w hSw; go_simp; try with_reducible rfl)
  try simp only [Act.put, ls0, ls1, ls2]
  refine wtk 1 ?_ rfl (.inl ⟨by rfl, ?_⟩) ?_
  rotate_left 1
  · (intro w hSw; go_simp; try with_reducible rfl)
  try simp only [Act.put, ls0, ls1, ls2]
  refine wtk 2 ?_ rfl (.inl ⟨by rfl, ?_⟩) ?_
  rotate_left 1
  · (intro w hSw; go_simp; try with_reducible rfl)
  try simp only [Act.put, ls0, ls1, ls2]
  refine wtk 3 ?_ rfl (.inl ⟨by rfl, ?_⟩) ?_
  rotate_left 1
  · (intro w hSw; go_simp; try with_reducible rfl)
  try simp only [Act.put, ls0, ls1, ls2]
  refine wtk 4 ?_ rfl (.inl ⟨by rfl, ?_⟩) ?_
  rotate_left 1
  · (intro w hSw; go_simp; try with_reducible rfl)
  try simp only [Act.put, ls0, ls1, ls2]
  refine wtk 5 ?_ rfl (.inl ⟨by rfl, ?_⟩) ?_
  rotate_left 1
  · (intro w hSw; go_simp; try with_reducible rfl)
  try simp only [Act.put, ls0, ls1, ls2]
  refine wtk 6 ?_ rfl (.inl ⟨by rfl, ?_⟩) ?_
  rotate_left 1
  · (intro w hSw; go_simp; try with_reducible rfl)
  try simp only [Act.put, ls0, ls1, ls2]
  refine wrd [7] ?_
  refine (arc rfl (fun K hK => ?_) arn)
  go_simp
  go_at_call 66
  refine (rgstore_any B BB D ws q.tail ow (by omega) (by omega) _ HM1.out).mono ?_
  rintro e w9 ⟨⟨r9, rfl⟩, hM9, hb⟩
  try go_wp2_with fail
  refine out_gen hK _ _ (fun wz : World => Kp (wz.heap[O]? = some (.cells #[.int .u32 ow, lv] 132 (0, 0))) ∧ Kp (ButS [O, D] w wz) ∧ Kp (wz.heap[w.heap.size + 1]? = some (.cells #[.bool false, .int .i64 0, .slice none 0 0, .bool false, .int .i64 0, .bool false, .bool false, .bool false, .int .i64 0] 64 (0, 0))) ∧ Kp (MemAt wz B D (stW ws q.tail ow)) ∧ wd0.heap.size ≤ wz.heap.size) ⟨⟨ButS.blk hb HO1.out (by simp only [List.mem_cons, List.not_mem_nil, or_false, not_or]; omega)⟩, ⟨HS1.out.trans (hb.mono (by simp))⟩, ⟨ButS.blk hb d1.out (by simp only [List.mem_cons, List.not_mem_nil, or_false, not_or]; omega)⟩, ⟨hM9⟩, hb.size⟩ (sx_of1 (ButB.callbut (And.left hHeld) hb (by intro k hk; simpa using hk))) (fun wd1 hRn hHn => ?_)
  clear hK K hHeld HO1 HS1 d1 HM1 hb hM9
  obtain ⟨HO1, HS1, d1, HM2, hsz1⟩ := hRn
  have hHeld := hHn
  clear hHn
  try simp only [Act.put, ls0, ls1, ls2]
  refine wpAnyH_done (by kernel_rfl) ?_ _
  clear hHeld
  have dc0 := cbk d1.out 0 (.bool false) rfl
  have df0 := frozen_blk d1.out 0
  have dc1 := cbk d1.out 1 (.int .i64 0) rfl
  have df1 := frozen_blk d1.out 1
  have dc2 := cbk d1.out 2 (.slice none 0 0) rfl
  have df2 := frozen_blk d1.out 2
  have dc3 := cbk d1.out 3 (.bool false) rfl
  have df3 := frozen_blk d1.out 3
  have dc4 := cbk d1.out 4 (.int .i64 0) rfl
  have df4 := frozen_blk d1.out 4
  have dc5 := cbk d1.out 5 (.bool false) rfl
  have df5 := frozen_blk d1.out 5
  have dc6 := cbk d1.out 6 (.bool false) rfl
  have df6 := frozen_blk d1.out 6
  have dc7 := cbk d1.out 7 (.bool false) rfl
  have df7 := frozen_blk d1.out 7
  have dc8 := cbk d1.out 8 (.int .i64 0) rfl
  have df8 := frozen_blk d1.out 8
  have dl := blk_lt d1.out
  have hsz8 := HS1.out.size
  go_wp2
  exact bodyPost_ret (v := .agg #[.bool false, .int .i64 0, .slice none 0 0, .bool false, .int .i64 0, .bool true, .bool false, .bool false, .int .i64 0]) (results_cell_row rfl _ _ _ _ _ _ _ rfl ((blk_set (blk_set (blk_set (blk_set (blk_set (blk_set (blk_set (blk_set (blk_set d1.out 0 (.bool false)) 1 (.int .i64 0)) 2 (.slice none 0 0)) 3 (.bool false)) 4 (.int .i64 0)) 5 (.bool true)) 6 (.bool false)) 7 (.bool false)) 8 (.int .i64 0)).trans rfl) Tryz.underlying64 rfl (by kernel_rfl)) rfl ⟨rfl, (MemAt.setne (MemAt.setne (MemAt.setne (MemAt.setne (MemAt.setne (MemAt.setne (MemAt.setne (MemAt.setne (MemAt.setne HM2.out (p := ⟨w.heap.size + 1, 0, none⟩) (by show B ≠ w.heap.size + 1; omega) (by show D ≠ w.heap.size + 1; omega) (.bool false)) (p := ⟨w.heap.size + 1, 1, none⟩) (by show B ≠ w.heap.size + 1; omega) (by show D ≠ w.heap.size + 1; omega) (.int .i64 0)) (p := ⟨w.heap.size + 1, 2, none⟩) (by show B ≠ w.heap.size + 1; omega) (by show D ≠ w.heap.size + 1; omega) (.slice none 0 0)) (p := ⟨w.heap.size + 1, 3, none⟩) (by show B ≠ w.heap.size + 1; omega) (by show D ≠ w.heap.size + 1; omega) (.bool false)) (p := ⟨w.heap.size + 1, 4, none⟩) (by show B ≠ w.heap.size + 1; omega) (by show D ≠ w.heap.size + 1; omega) (.int .i64 0)) (p := ⟨w.heap.size + 1, 5, none⟩) (by show B ≠ w.heap.size + 1; omega) (by show D ≠ w.heap.size + 1; omega) (.bool true)) (p := ⟨w.heap.size + 1, 6, none⟩) (by show B ≠ w.heap.size + 1; omega) (by show D ≠ w.heap.size + 1; omega) (.bool false)) (p := ⟨w.heap.size + 1, 7, none⟩) (by show B ≠ w.heap.size + 1; omega) (by show D ≠ w.heap.size + 1; omega) (.bool false)) (p := ⟨w.heap.size + 1, 8, none⟩) (by show B ≠ w.heap.size + 1; omega) (by show D ≠ w.heap.size + 1; omega) (.int .i64 0)), (blk_set_ne (p := ⟨w.heap.size + 1, 8, none⟩) (blk_set_ne (p := ⟨w.heap.size + 1, 7, none⟩) (blk_set_ne (p := ⟨w.heap.size + 1, 6, none⟩) (blk_set_ne (p := ⟨w.heap.size + 1, 5, none⟩) (blk_set_ne (p := ⟨w.heap.size + 1, 4, none⟩) (blk_set_ne (p := ⟨w.heap.size + 1, 3, none⟩) (blk_set_ne (p := ⟨w.heap.size + 1, 2, none⟩) (blk_set_ne (p := ⟨w.heap.size + 1, 1, none⟩) (blk_set_ne (p := ⟨w.heap.size + 1, 0, none⟩) HO1.out (by show O ≠ w.heap.size + 1; omega) (.bool false)) (by show O ≠ w.heap.size + 1; omega) (.int .i64 0)) (by show O ≠ w.heap.size + 1; omega) (.slice none 0 0)) (by show O ≠ w.heap.size + 1; omega) (.bool false)) (by show O ≠ w.heap.size + 1; omega) (.int .i64 0)) (by show O ≠ w.heap.size + 1; omega) (.bool true)) (by show O ≠ w.heap.size + 1; omega) (.bool false)) (by show O ≠ w.heap.size + 1; omega) (.bool false)) (by show O ≠ w.heap.size + 1; omega) (.int .i64 0)), (ButS.set' (ButS.set' (ButS.set' (ButS.set' (ButS.set' (ButS.set' (ButS.set' (ButS.set' (ButS.set' HS1.out (p := ⟨w.heap.size + 1, 0, none⟩) (by right; show w.heap.size ≤ w.heap.size + 1; omega) (.bool false)) (p := ⟨w.heap.size + 1, 1, none⟩) (by right; show w.heap.size ≤ w.heap.size + 1; omega) (.int .i64 0)) (p := ⟨w.heap.size + 1, 2, none⟩) (by right; show w.heap.size ≤ w.heap.size + 1; omega) (.slice none 0 0)) (p := ⟨w.heap.size + 1, 3, none⟩) (by right; show w.heap.size ≤ w.heap.size + 1; omega) (.bool false)) (p := ⟨w.heap.size + 1, 4, none⟩) (by right; show w.heap.size ≤ w.heap.size + 1; omega) (.int .i64 0)) (p := ⟨w.heap.size + 1, 5, none⟩) (by right; show w.heap.size ≤ w.heap.size + 1; omega) (.bool true)) (p := ⟨w.heap.size + 1, 6, none⟩) (by right; show w.heap.size ≤ w.heap.size + 1; omega) (.bool false)) (p := ⟨w.heap.size + 1, 7, none⟩) (by right; show w.heap.size ≤ w.heap.size + 1; omega) (.bool false)) (p := ⟨w.heap.size + 1, 8, none⟩) (by right; show w.heap.size ≤ w.heap.size + 1; omega) (.int .i64 0))⟩
set_option maxRecDepth 100000 in
set_option maxHeartbeats 4000000 in
theorem rend_any (q : Qu) (B BB D OB QB O DB : Nat) (own : Int) (lv : Value) (da : Option Addr) (dn dc : Nat) (ws : List Int) (hq : q.ok ws.length) (w : World) (hM : MemAt w B D ws) (hOB : w.heap[OB]? = some (.cells #[.pointer (some ⟨O, 0, none⟩)] 75 (0, 0))) (hO : w.heap[O]? = some (.cells #[.int .u32 own, lv] 132 (0, 0))) (hQB : w.heap[QB]? = some (.cells q.cells 124 (0, 0))) (hDB : w.heap[DB]? = some (.cells #[.slice da dn dc] 44 (0, 0))) : Calls Tryz.prog 70 #[.agg #[.pointer (some ⟨B, 0, none⟩), .pointer (some ⟨BB, 0, none⟩)], .pointer (some ⟨OB, 0, none⟩), .pointer (some ⟨QB, 0, none⟩), .pointer (some ⟨DB, 0, none⟩)] w fun e w' => e = .returned (.agg #[.bool true, .int .i64 0, .slice da dn dc, .bool false, .int .i64 0, .bool true, .bool false, .bool false, .int .i64 0]) ∧ MemAt w' B D (stW ws q.head ((own + 1) % 4294967296)) ∧ w'.heap[O]? = some (.cells #[.int .u32 ((own + 1) % 4294967296), lv] 132 (0, 0)) ∧ ButS [O, D] w w' := by
  have HM := Kp.mk hM
  have lD := blk_lt hM.words
  have lB := blk_lt hM.head
  have lO := blk_lt hO
  have ob0 := cbk hOB 0 (.pointer (some ⟨O, 0, none⟩)) rfl
  have o0 := cbk hO 0 (.int .u32 own) rfl
  have o1 := cbk hO 1 (lv) rfl
  have db0 := cbk hDB 0 (.slice da dn dc) rfl
  have qb0 := cbk hQB 0 (.int .i64 q.k) rfl
  have qb1 := cbk hQB 1 (.int .i64 q.tail) rfl
  have qb2 := cbk hQB 2 (.int .i64 q.head) rfl
  have qb3 := cbk hQB 3 (.int .i64 q.cell) rfl
  have qb4 := cbk hQB 4 (.int .i64 q.words) rfl
  have qb5 := cbk hQB 5 (.int .i64 q.deep) rfl
  have f0 := frozen_blk hO 0
  have lOB := blk_lt hOB
  have lQB := blk_lt hQB
  have hn1 : O ≠ B := by
    rintro rfl
    rw [hM.head] at hO
    simp at hO
  have hn2 : O ≠ D := by
    rintro rfl
    rw [hM.words] at hO
    simp at hO
  have hn3 : O ≠ OB := by
    rintro rfl
    rw [hOB] at hO
    simp at hO
  have hn4 : O ≠ QB := by
    rintro rfl
    rw [hQB] at hO
    simp at hO
  have hnq : QB ≠ D := by
    rintro rfl
    rw [hM.words] at hQB
    simp at hQB
  have hno : OB ≠ D := by
    rintro rfl
    rw [hM.words] at hOB
    simp at hOB
  have hnw : w.heap.size ≠ D := by omega
  have hn5 : O ≠ DB := by
    rintro rfl
    rw [hDB] at hO
    simp at hO
  have hn6 : DB ≠ D := by
    rintro rfl
    rw [hM.words] at hDB
    simp at hDB
  have v1 : IntKind.u32.wrap (own + 1) = (own + 1) % 4294967296 := IntKind.wrap_u32 _
  obtain ⟨ow, how⟩ : ∃ ow, (own + 1) % 4294967296 = ow := ⟨_, rfl⟩
  rw [how] at v1 ⊢
  have HO := Kp.mk hO
  have HOB := Kp.mk hOB
  have HQB := Kp.mk hQB
  have HDB := Kp.mk hDB
  have lDB := blk_lt hDB
  have hqp := hq.head
  clear hM hO hOB hQB hq how hDB
  go_enter Tryz.func70, Tryz.ntmps70
  go_wp2_with fail
  have HO1 : Kp ((((w.setCell ⟨O, 0, none⟩ (.int .u32 ow)).alloc (.cells #[.pointer (some ⟨B, 0, none⟩), .pointer (some ⟨BB, 0, none⟩)] 127)).alloc (.cells #[.bool false, .int .i64 0, .slice none 0 0, .bool false, .int .i64 0, .bool false, .bool false, .bool false, .int .i64 0] 64)).heap[O]? = some (.cells #[.int .u32 ow, lv] 132 (0, 0))) := ⟨blk_al (blk_al ((blk_set HO.out 0 _).trans rfl) _) _⟩
  have HM1 : Kp (MemAt (((w.setCell ⟨O, 0, none⟩ (.int .u32 ow)).alloc (.cells #[.pointer (some ⟨B, 0, none⟩), .pointer (some ⟨BB, 0, none⟩)] 127)).alloc (.cells #[.bool false, .int .i64 0, .slice none 0 0, .bool false, .int .i64 0, .bool false, .bool false, .bool false, .int .i64 0] 64)) B D ws) := ⟨((MemAt.setne HM.out (p := ⟨O, 0, none⟩) (by show B ≠ O; exact fun e => hn1 e.symm) (by show D ≠ O; exact fun e => hn2 e.symm) _).al _).al _⟩
  have HS1 : Kp (ButS [O, D] w (((w.setCell ⟨O, 0, none⟩ (.int .u32 ow)).alloc (.cells #[.pointer (some ⟨B, 0, none⟩), .pointer (some ⟨BB, 0, none⟩)] 127)).alloc (.cells #[.bool false, .int .i64 0, .slice none 0 0, .bool false, .int .i64 0, .bool false, .bool false, .bool false, .int .i64 0] 64))) := ⟨ButS.al (ButS.al ((ButS.refl _ _).set (p := ⟨O, 0, none⟩) (by simp) _) _) _⟩
  have HOB1 : Kp ((((w.setCell ⟨O, 0, none⟩ (.int .u32 ow)).alloc (.cells #[.pointer (some ⟨B, 0, none⟩), .pointer (some ⟨BB, 0, none⟩)] 127)).alloc (.cells #[.bool false, .int .i64 0, .slice none 0 0, .bool false, .int .i64 0, .bool false, .bool false, .bool false, .int .i64 0] 64)).heap[OB]? = some (.cells #[.pointer (some ⟨O, 0, none⟩)] 75 (0, 0))) := ⟨blk_al (blk_al (blk_set_ne (p := ⟨O, 0, none⟩) HOB.out (by show OB ≠ O; exact fun e => hn3 e.symm) _) _) _⟩
  have HQB1 : Kp ((((w.setCell ⟨O, 0, none⟩ (.int .u32 ow)).alloc (.cells #[.pointer (some ⟨B, 0, none⟩), .pointer (some ⟨BB, 0, none⟩)] 127)).alloc (.cells #[.bool false, .int .i64 0, .slice none 0 0, .bool false, .int .i64 0, .bool false, .bool false, .bool false, .int .i64 0] 64)).heap[QB]? = some (.cells q.cells 124 (0, 0))) := ⟨blk_al (blk_al (blk_set_ne (p := ⟨O, 0, none⟩) HQB.out (by show QB ≠ O; exact fun e => hn4 e.symm) _) _) _⟩
  have wb1 : Kp ((((w.setCell ⟨O, 0, none⟩ (.int .u32 ow)).alloc (.cells #[.pointer (some ⟨B, 0, none⟩), .pointer (some ⟨BB, 0, none⟩)] 127)).alloc (.cells #[.bool false, .int .i64 0, .slice none 0 0, .bool false, .int .i64 0, .bool false, .bool false, .bool false, .int .i64 0] 64)).heap[w.heap.size]? = some (.cells #[.pointer (some ⟨B, 0, none⟩), .pointer (some ⟨BB, 0, none⟩)] 127 (0, 0))) := ⟨blk_al (blk_at (w := (w.setCell ⟨O, 0, none⟩ (.int .u32 ow))) (by simp [World.setCell]) _) _⟩
  have d1 : Kp ((((w.setCell ⟨O, 0, none⟩ (.int .u32 ow)).alloc (.cells #[.pointer (some ⟨B, 0, none⟩), .pointer (some ⟨BB, 0, none⟩)] 127)).alloc (.cells #[.bool false, .int .i64 0, .slice none 0 0, .bool false, .int .i64 0, .bool false, .bool false, .bool false, .int .i64 0] 64)).heap[w.heap.size + 1]? = some (.cells #[.bool false, .int .i64 0, .slice none 0 0, .bool false, .int .i64 0, .bool false, .bool false, .bool false, .int .i64 0] 64 (0, 0))) := ⟨blk_at (w := (w.setCell ⟨O, 0, none⟩ (.int .u32 ow)).alloc (.cells #[.pointer (some ⟨B, 0, none⟩), .pointer (some ⟨BB, 0, none⟩)] 127)) (by simp [World.setCell]) _⟩
  have HDB1 : Kp ((((w.setCell ⟨O, 0, none⟩ (.int .u32 ow)).alloc (.cells #[.pointer (some ⟨B, 0, none⟩), .pointer (some ⟨BB, 0, none⟩)] 127)).alloc (.cells #[.bool false, .int .i64 0, .slice none 0 0, .bool false, .int .i64 0, .bool false, .bool false, .bool false, .int .i64 0] 64)).heap[DB]? = some (.cells #[.slice da dn dc] 44 (0, 0))) := ⟨blk_al (blk_al (blk_set_ne (p := ⟨O, 0, none⟩) HDB.out (by show DB ≠ O; exact fun e => hn5 e.symm) _) _) _⟩
  clear HO HM HOB HQB o0 o1 ob0 f0 qb0 qb1 qb2 qb3 qb4 qb5 HDB db0
  generalize (((w.setCell ⟨O, 0, none⟩ (.int .u32 ow)).alloc (.cells #[.pointer (some ⟨B, 0, none⟩), .pointer (some ⟨BB, 0, none⟩)] 127)).alloc (.cells #[.bool false, .int .i64 0, .slice none 0 0, .bool false, .int .i64 0, .bool false, .bool false, .bool false, .int .i64 0] 64)) = w1 at HO1 HM1 HS1 HOB1 HQB1 wb1 d1 HDB1 ⊢
  have hsz1 := HS1.out.size
  have s1 : w.heap.size + 1 < w1.heap.size := blk_lt d1.out
  have ob0 := cbk HOB1.out 0 (.pointer (some ⟨O, 0, none⟩)) rfl
  have o0 := cbk HO1.out 0 (.int .u32 ow) rfl
  have wb0 := cbk wb1.out 0 (.pointer (some ⟨B, 0, none⟩)) rfl
  have wbb := cbk wb1.out 1 (.pointer (some ⟨BB, 0, none⟩)) rfl
  have qb0 := cbk HQB1.out 0 (.int .i64 q.k) rfl
  have qb1 := cbk HQB1.out 1 (.int .i64 q.tail) rfl
  have qb2 := cbk HQB1.out 2 (.int .i64 q.head) rfl
  have qb3 := cbk HQB1.out 3 (.int .i64 q.cell) rfl
  have qb4 := cbk HQB1.out 4 (.int .i64 q.words) rfl
  have qb5 := cbk HQB1.out 5 (.int .i64 q.deep) rfl
  have ol := blk_lt HO1.out
  have obl := blk_lt HOB1.out
  have ql := blk_lt HQB1.out
  have wbl := blk_lt wb1.out
  refine held_start_gen (S := (fun w' : World => ButB (w1.heap.size) [D] w1 w' ∧ ∀ bb o, bb < w1.heap.size → bb ≠ D → w'.cell? ⟨bb, o, none⟩ = w1.cell? ⟨bb, o, none⟩)) (by kernel_rfl) (fun wz : World => Kp (wz.heap[O]? = some (.cells #[.int .u32 ow, lv] 132 (0, 0))) ∧ Kp (ButS [O, D] w wz) ∧ Kp (wz.heap[w.heap.size + 1]? = some (.cells #[.bool false, .int .i64 0, .slice none 0 0, .bool false, .int .i64 0, .bool false, .bool false, .bool false, .int .i64 0] 64 (0, 0))) ∧ Kp (MemAt wz B D ws) ∧ Kp (wz.heap[DB]? = some (.cells #[.slice da dn dc] 44 (0, 0))) ∧ w1.heap.size ≤ wz.heap.size) ⟨⟨blk_dr HO1.out⟩, ⟨ButS.dr HS1.out⟩, ⟨blk_dr d1.out⟩, ⟨HM1.out.below (below_dr (Below.refl _ _))⟩, ⟨blk_dr HDB1.out⟩, Nat.le_refl _⟩ (sx_of1 (ButB.dr (ButB.refl _ (by omega)))) (fun wd0 hRn hHeld => ?_)
  clear HO1 HS1 d1 HM1 HDB1
  obtain ⟨HO1, HS1, d1, HM1, HDB1, hsz⟩ := hRn
  refine wtk 0 ?_ rfl (.inl ⟨by rfl, ?_⟩) ?_
  rotate_left 1
  · (intro w hSw; go_simp; try with_reducible rfl)
  try simp only [Act.put, ls0, ls1, ls2]
  refine wtk 1 ?_ rfl (.inl ⟨by rfl, ?_⟩) ?_
  rotate_left 1
  · (intro w hSw; go_simp; try with_reducible rfl)
  try simp only [Act.put, ls0, ls1, ls2]
  refine wtk 2 ?_ rfl (.inl ⟨by rfl, ?_⟩) ?_
  rotate_left 1
  · (intro w hSw; go_simp; try with_reducible rfl)
  try simp only [Act.put, ls0, ls1, ls2]
  refine wtk 3 ?_ rfl (.inl ⟨by rfl, ?_⟩) ?_
  rotate_left 1
  · (intro w hSw; go_simp; try with_reducible rfl)
  try simp only [Act.put, ls0, ls1, ls2]
  refine wtk 4 ?_ rfl (.inl ⟨by rfl, ?_⟩) ?_
  rotate_left 1
  · (intro w hSw; go_simp; try with_reducible rfl)
  try simp only [Act.put, ls0, ls1, ls2]
  refine wtk 5 ?_ rfl (.inl ⟨by rfl, ?_⟩) ?_
  rotate_left 1
  · (intro w hSw; go_simp; try with_reducible rfl)
  try simp only [Act.put, ls0, ls1, ls2]
  refine wtk 6 ?_ rfl (.inl ⟨by rfl, ?_⟩) ?_
  rotate_left 1
  · (intro w hSw; go_simp; try with_reducible rfl)
  try simp only [Act.put, ls0, ls1, ls2]
  refine wrd [7] ?_
  refine (arc rfl (fun K hK => ?_) arn)
  go_simp
  go_at_call 66
  refine (rgstore_any B BB D ws q.head ow (by omega) (by omega) _ HM1.out).mono ?_
  rintro e w9 ⟨⟨r9, rfl⟩, hM9, hb⟩
  try go_wp2_with fail
  refine out_gen hK _ _ (fun wz : World => Kp (wz.heap[O]? = some (.cells #[.int .u32 ow, lv] 132 (0, 0))) ∧ Kp (ButS [O, D] w wz) ∧ Kp (wz.heap[w.heap.size + 1]? = some (.cells #[.bool false, .int .i64 0, .slice none 0 0, .bool false, .int .i64 0, .bool false, .bool false, .bool false, .int .i64 0] 64 (0, 0))) ∧ Kp (wz.heap[DB]? = some (.cells #[.slice da dn dc] 44 (0, 0))) ∧ Kp (MemAt wz B D (stW ws q.head ow)) ∧ wd0.heap.size ≤ wz.heap.size) ⟨⟨ButS.blk hb HO1.out (by simp only [List.mem_cons, List.not_mem_nil, or_false, not_or]; omega)⟩, ⟨HS1.out.trans (hb.mono (by simp))⟩, ⟨ButS.blk hb d1.out (by simp only [List.mem_cons, List.not_mem_nil, or_false, not_or]; omega)⟩, ⟨ButS.blk hb HDB1.out (by simp only [List.mem_cons, List.not_mem_nil, or_false, not_or]; omega)⟩, ⟨hM9⟩, hb.size⟩ (sx_of1 (ButB.callbut (And.left hHeld) hb (by intro k hk; simpa using hk))) (fun wd1 hRn hHn => ?_)
  clear hK K hHeld HO1 HS1 d1 HM1 HDB1 hb hM9
  obtain ⟨HO1, HS1, d1, HDB1, HM2, hsz1⟩ := hRn
  have hHeld := hHn
  clear hHn
  try simp only [Act.put, ls0, ls1, ls2]
  refine wpAnyH_done (by kernel_rfl) ?_ _
  clear hHeld
  have dc0 := cbk d1.out 0 (.bool false) rfl
  have df0 := frozen_blk d1.out 0
  have dc1 := cbk d1.out 1 (.int .i64 0) rfl
  have df1 := frozen_blk d1.out 1
  have dc2 := cbk d1.out 2 (.slice none 0 0) rfl
  have df2 := frozen_blk d1.out 2
  have dc3 := cbk d1.out 3 (.bool false) rfl
  have df3 := frozen_blk d1.out 3
  have dc4 := cbk d1.out 4 (.int .i64 0) rfl
  have df4 := frozen_blk d1.out 4
  have dc5 := cbk d1.out 5 (.bool false) rfl
  have df5 := frozen_blk d1.out 5
  have dc6 := cbk d1.out 6 (.bool false) rfl
  have df6 := frozen_blk d1.out 6
  have dc7 := cbk d1.out 7 (.bool false) rfl
  have df7 := frozen_blk d1.out 7
  have dc8 := cbk d1.out 8 (.int .i64 0) rfl
  have df8 := frozen_blk d1.out 8
  have dl := blk_lt d1.out
  have hsz8 := HS1.out.size
  have db0 := cbk HDB1.out 0 (.slice da dn dc) rfl
  have dbl := blk_lt HDB1.out
  go_wp2
  exact bodyPost_ret (v := .agg #[.bool true, .int .i64 0, .slice da dn dc, .bool false, .int .i64 0, .bool true, .bool false, .bool false, .int .i64 0]) (results_cell_row rfl _ _ _ _ _ _ _ rfl ((blk_set (blk_set (blk_set (blk_set (blk_set (blk_set (blk_set (blk_set (blk_set d1.out 0 (.bool true)) 1 (.int .i64 0)) 2 (.slice da dn dc)) 3 (.bool false)) 4 (.int .i64 0)) 5 (.bool true)) 6 (.bool false)) 7 (.bool false)) 8 (.int .i64 0)).trans rfl) Tryz.underlying64 rfl (by kernel_rfl)) rfl ⟨rfl, (MemAt.setne (MemAt.setne (MemAt.setne (MemAt.setne (MemAt.setne (MemAt.setne (MemAt.setne (MemAt.setne (MemAt.setne HM2.out (p := ⟨w.heap.size + 1, 0, none⟩) (by show B ≠ w.heap.size + 1; omega) (by show D ≠ w.heap.size + 1; omega) (.bool true)) (p := ⟨w.heap.size + 1, 1, none⟩) (by show B ≠ w.heap.size + 1; omega) (by show D ≠ w.heap.size + 1; omega) (.int .i64 0)) (p := ⟨w.heap.size + 1, 2, none⟩) (by show B ≠ w.heap.size + 1; omega) (by show D ≠ w.heap.size + 1; omega) (.slice da dn dc)) (p := ⟨w.heap.size + 1, 3, none⟩) (by show B ≠ w.heap.size + 1; omega) (by show D ≠ w.heap.size + 1; omega) (.bool false)) (p := ⟨w.heap.size + 1, 4, none⟩) (by show B ≠ w.heap.size + 1; omega) (by show D ≠ w.heap.size + 1; omega) (.int .i64 0)) (p := ⟨w.heap.size + 1, 5, none⟩) (by show B ≠ w.heap.size + 1; omega) (by show D ≠ w.heap.size + 1; omega) (.bool true)) (p := ⟨w.heap.size + 1, 6, none⟩) (by show B ≠ w.heap.size + 1; omega) (by show D ≠ w.heap.size + 1; omega) (.bool false)) (p := ⟨w.heap.size + 1, 7, none⟩) (by show B ≠ w.heap.size + 1; omega) (by show D ≠ w.heap.size + 1; omega) (.bool false)) (p := ⟨w.heap.size + 1, 8, none⟩) (by show B ≠ w.heap.size + 1; omega) (by show D ≠ w.heap.size + 1; omega) (.int .i64 0)), (blk_set_ne (p := ⟨w.heap.size + 1, 8, none⟩) (blk_set_ne (p := ⟨w.heap.size + 1, 7, none⟩) (blk_set_ne (p := ⟨w.heap.size + 1, 6, none⟩) (blk_set_ne (p := ⟨w.heap.size + 1, 5, none⟩) (blk_set_ne (p := ⟨w.heap.size + 1, 4, none⟩) (blk_set_ne (p := ⟨w.heap.size + 1, 3, none⟩) (blk_set_ne (p := ⟨w.heap.size + 1, 2, none⟩) (blk_set_ne (p := ⟨w.heap.size + 1, 1, none⟩) (blk_set_ne (p := ⟨w.heap.size + 1, 0, none⟩) HO1.out (by show O ≠ w.heap.size + 1; omega) (.bool true)) (by show O ≠ w.heap.size + 1; omega) (.int .i64 0)) (by show O ≠ w.heap.size + 1; omega) (.slice da dn dc)) (by show O ≠ w.heap.size + 1; omega) (.bool false)) (by show O ≠ w.heap.size + 1; omega) (.int .i64 0)) (by show O ≠ w.heap.size + 1; omega) (.bool true)) (by show O ≠ w.heap.size + 1; omega) (.bool false)) (by show O ≠ w.heap.size + 1; omega) (.bool false)) (by show O ≠ w.heap.size + 1; omega) (.int .i64 0)), (ButS.set' (ButS.set' (ButS.set' (ButS.set' (ButS.set' (ButS.set' (ButS.set' (ButS.set' (ButS.set' HS1.out (p := ⟨w.heap.size + 1, 0, none⟩) (by right; show w.heap.size ≤ w.heap.size + 1; omega) (.bool true)) (p := ⟨w.heap.size + 1, 1, none⟩) (by right; show w.heap.size ≤ w.heap.size + 1; omega) (.int .i64 0)) (p := ⟨w.heap.size + 1, 2, none⟩) (by right; show w.heap.size ≤ w.heap.size + 1; omega) (.slice da dn dc)) (p := ⟨w.heap.size + 1, 3, none⟩) (by right; show w.heap.size ≤ w.heap.size + 1; omega) (.bool false)) (p := ⟨w.heap.size + 1, 4, none⟩) (by right; show w.heap.size ≤ w.heap.size + 1; omega) (.int .i64 0)) (p := ⟨w.heap.size + 1, 5, none⟩) (by right; show w.heap.size ≤ w.heap.size + 1; omega) (.bool true)) (p := ⟨w.heap.size + 1, 6, none⟩) (by right; show w.heap.size ≤ w.heap.size + 1; omega) (.bool false)) (p := ⟨w.heap.size + 1, 7, none⟩) (by right; show w.heap.size ≤ w.heap.size + 1; omega) (.bool false)) (p := ⟨w.heap.size + 1, 8, none⟩) (by right; show w.heap.size ≤ w.heap.size + 1; omega) (.int .i64 0))⟩
theorem ButB.grownX {B : Nat} {S : List Nat} {W0 W W1 : World} {v : Value} (h : ButB B S W0 W) (hg : W.grownBy W1 v.ownBlock) (hs : ∀ k, v.ownBlock = some k → k ∈ S) : ButB B S W0 W1 :=
  ⟨h.le, hg.os.trans h.os, hg.tape.trans h.tape, hg.output.trans h.output, Nat.le_trans h.size hg.size, fun b hb0 hn => (hg.block b (by have := h.le; have := h.size; omega) fun he => hn (hs b he.symm)).trans (h.block b hb0 hn)⟩
theorem own_lt' {w : World} {base : Nat} {e : TypeId} {k : Nat} {v : Value} {n : Nat} {cs : List Value} (h : w.ownsRow base e k v n cs) (q : Nat) (hq : v.ownBlock = some q) : q < w.heap.size := by
  rcases h.2 with ⟨e, _⟩ | ⟨g, cap, cur, e, _, hg, _⟩
  · rw [e] at hq; cases hq
  · rw [e] at hq
    have h1 : g = q := by simpa [Value.ownBlock] using hq
    rw [← h1]
    exact blk_lt hg
set_option maxRecDepth 100000 in
set_option maxHeartbeats 4000000 in
theorem rgword_any (q : Qu) (B BB D DB QB : Nat) (da : Option Addr) (dn dc : Nat) (l : List Int) (bs : Nat) (ws : List Int) (hq : q.ok ws.length) (hdn : (dn : Int) < q.words) (w : World) (hM : MemAt w B D ws) (hDB : w.heap[DB]? = some (.cells #[.slice da dn dc] 44 (0, 0))) (hQB : w.heap[QB]? = some (.cells q.cells 124 (0, 0))) (hown : w.ownsRow bs 41 1 (.slice da dn dc) dn (u32s l)) (hBb : B < bs) (hDb : D < bs) (hDBb : DB < bs) (hQb : QB < bs) (hbs : bs ≤ w.heap.size) : Calls Tryz.prog 71 #[.agg #[.pointer (some ⟨B, 0, none⟩), .pointer (some ⟨BB, 0, none⟩)], .pointer (some ⟨DB, 0, none⟩), .pointer (some ⟨QB, 0, none⟩)] w fun e w' => ∃ g cap, e = .returned (.agg #[.bool false, .int .i64 0, .slice none 0 0, .bool false, .int .i64 0, .bool false, .bool false, .bool false, .int .i64 0]) ∧ MemAt w' B D ws ∧ w'.heap[DB]? = some (.cells #[.slice (some ⟨g, 0, none⟩) (dn + 1) cap] 44 (0, 0)) ∧ w'.ownsRow bs 41 1 (.slice (some ⟨g, 0, none⟩) (dn + 1) cap) (dn + 1) (u32s (l ++ [ldW ws (q.cell + 1 + dn)])) ∧ ButS (DB :: (Value.slice da dn dc).ownBlock.toList) w w' ∧ ((Value.slice da dn dc).ownBlock = some g ∨ w.heap.size < g) := by
  have HM := Kp.mk hM
  have lD := blk_lt hM.words
  have lB := blk_lt hM.head
  obtain ⟨i0, hi0, hz0, hz1, hz2⟩ := info_parts Tryz.infoU32
  have hgl : ∀ q, (Value.slice da dn dc).ownBlock = some q → q < w.heap.size := own_lt' hown
  have HGL := Kp.mk hgl
  obtain ⟨q0, hqd⟩ : ∃ q0, ((Value.slice da dn dc).ownBlock).getD DB = q0 := ⟨_, rfl⟩
  have hqn : q0 = DB ∨ (bs ≤ q0 ∧ q0 < w.heap.size) := by
    rw [← hqd]
    cases ho : (Value.slice da dn dc).ownBlock with
    | none => exact .inl rfl
    | some k => exact .inr ⟨(hown.lt k ho).1, hgl k ho⟩
  have hq0 : ∀ k, (Value.slice da dn dc).ownBlock = some k → k ∈ [DB, q0] := fun k hk => by
    rw [hk] at hqd
    simp [← hqd]
  clear hqd
  have hnq : QB ≠ DB := by
    rintro rfl
    rw [hDB] at hQB
    simp at hQB
  have hnd : DB ≠ D := by
    rintro rfl
    rw [hM.words] at hDB
    simp at hDB
  have hnb : DB ≠ B := by
    rintro rfl
    rw [hM.head] at hDB
    simp at hDB
  have hqc := hq.cell
  have hqw := hq.words
  have hlen := hM.len
  obtain ⟨v, hv⟩ : ∃ v, ldW ws (q.cell + 1 + dn) = v := ⟨_, rfl⟩
  rw [hv]
  have HV := Kp.mk hv
  have n1 : IntKind.i64.wrap (q.cell + 1) = q.cell + 1 := IntWalk.i64_in _ (by omega)
  have n2 : IntKind.i64.wrap (q.cell + 1 + dn) = q.cell + 1 + dn := IntWalk.i64_in _ (by omega)
  have hul : u32s (l ++ [v]) = u32s l ++ [.int .u32 v] := by simp [u32s]
  have HUL := Kp.mk hul
  have HDB := Kp.mk hDB
  have HQB := Kp.mk hQB
  have HO0 := Kp.mk hown
  have lDB := blk_lt hDB
  have lQB := blk_lt hQB
  clear hM hDB hQB hq hown hgl hv hul
  go_enter Tryz.func71, Tryz.ntmps71
  have HB0 : Kp (Below w.heap.size w w) := ⟨Below.refl _ _⟩
  go_wp2_with fail
  have wb1 : Kp (((w.alloc (.cells #[.pointer (some ⟨B, 0, none⟩), .pointer (some ⟨BB, 0, none⟩)] 127)).alloc (.cells #[.bool false, .int .i64 0, .slice none 0 0, .bool false, .int .i64 0, .bool false, .bool false, .bool false, .int .i64 0] 64)).heap[w.heap.size]? = some (.cells #[.pointer (some ⟨B, 0, none⟩), .pointer (some ⟨BB, 0, none⟩)] 127 (0, 0))) := ⟨(blk_al (blk_new _ _) _)⟩
  have d1 : Kp (((w.alloc (.cells #[.pointer (some ⟨B, 0, none⟩), .pointer (some ⟨BB, 0, none⟩)] 127)).alloc (.cells #[.bool false, .int .i64 0, .slice none 0 0, .bool false, .int .i64 0, .bool false, .bool false, .bool false, .int .i64 0] 64)).heap[w.heap.size + 1]? = some (.cells #[.bool false, .int .i64 0, .slice none 0 0, .bool false, .int .i64 0, .bool false, .bool false, .bool false, .int .i64 0] 64 (0, 0))) := ⟨(blk_at (w := (w.alloc (.cells #[.pointer (some ⟨B, 0, none⟩), .pointer (some ⟨BB, 0, none⟩)] 127))) (by simp) _)⟩
  have HB1 : Kp (Below w.heap.size w ((w.alloc (.cells #[.pointer (some ⟨B, 0, none⟩), .pointer (some ⟨BB, 0, none⟩)] 127)).alloc (.cells #[.bool false, .int .i64 0, .slice none 0 0, .bool false, .int .i64 0, .bool false, .bool false, .bool false, .int .i64 0] 64))) := ⟨(below_al (below_al HB0.out _) _)⟩
  have M1 : Kp (MemAt ((w.alloc (.cells #[.pointer (some ⟨B, 0, none⟩), .pointer (some ⟨BB, 0, none⟩)] 127)).alloc (.cells #[.bool false, .int .i64 0, .slice none 0 0, .bool false, .int .i64 0, .bool false, .bool false, .bool false, .int .i64 0] 64)) B D ws) := ⟨((HM.out.below (below_al (Below.refl _ _) _)).below (below_al (Below.refl _ _) _))⟩
  have B1 : Kp (((w.alloc (.cells #[.pointer (some ⟨B, 0, none⟩), .pointer (some ⟨BB, 0, none⟩)] 127)).alloc (.cells #[.bool false, .int .i64 0, .slice none 0 0, .bool false, .int .i64 0, .bool false, .bool false, .bool false, .int .i64 0] 64)).heap[DB]? = some (.cells #[.slice da dn dc] 44 (0, 0))) := ⟨(blk_al (blk_al HDB.out _) _)⟩
  have Q1 : Kp (((w.alloc (.cells #[.pointer (some ⟨B, 0, none⟩), .pointer (some ⟨BB, 0, none⟩)] 127)).alloc (.cells #[.bool false, .int .i64 0, .slice none 0 0, .bool false, .int .i64 0, .bool false, .bool false, .bool false, .int .i64 0] 64)).heap[QB]? = some (.cells q.cells 124 (0, 0))) := ⟨(blk_al (blk_al HQB.out _) _)⟩
  have O1 : Kp (((w.alloc (.cells #[.pointer (some ⟨B, 0, none⟩), .pointer (some ⟨BB, 0, none⟩)] 127)).alloc (.cells #[.bool false, .int .i64 0, .slice none 0 0, .bool false, .int .i64 0, .bool false, .bool false, .bool false, .int .i64 0] 64)).ownsRow (bs) 41 1 (.slice da dn dc) (dn) (u32s l)) := ⟨((HO0.out.alloc _).alloc _)⟩
  clear HB0 HM HDB HQB HO0
  generalize ((w.alloc (.cells #[.pointer (some ⟨B, 0, none⟩), .pointer (some ⟨BB, 0, none⟩)] 127)).alloc (.cells #[.bool false, .int .i64 0, .slice none 0 0, .bool false, .int .i64 0, .bool false, .bool false, .bool false, .int .i64 0] 64)) = w1 at wb1 d1 HB1 M1 B1 Q1 O1 ⊢
  have wbc0 := cbk wb1.out 0 (.pointer (some ⟨B, 0, none⟩)) rfl
  have wbc1 := cbk wb1.out 1 (.pointer (some ⟨BB, 0, none⟩)) rfl
  have wbl := blk_lt wb1.out
  have qb0 := cbk Q1.out 0 (.int .i64 q.k) rfl
  have qb1 := cbk Q1.out 1 (.int .i64 q.tail) rfl
  have qb2 := cbk Q1.out 2 (.int .i64 q.head) rfl
  have qb3 := cbk Q1.out 3 (.int .i64 q.cell) rfl
  have qb4 := cbk Q1.out 4 (.int .i64 q.words) rfl
  have qb5 := cbk Q1.out 5 (.int .i64 q.deep) rfl
  have ql := blk_lt Q1.out
  have dbl := blk_lt B1.out
  have HS1 : Kp (ButS (DB :: (Value.slice da dn dc).ownBlock.toList) w w1) := ⟨ButS.of_below HB1.out⟩
  have hsz0 : w.heap.size + 1 < w1.heap.size := blk_lt d1.out
  have hnw : w.heap.size ≠ DB := by omega
  have hbs1 : bs ≤ w1.heap.size := by omega
  have hnw0 : w.heap.size ≠ q0 := by omega
  have hnq0 : QB ≠ q0 := by omega
  refine held_start_gen (S := (fun w' : World => ButB (w1.heap.size) [DB, q0] w1 w' ∧ ∀ bb o, bb < w1.heap.size → bb ≠ DB → bb ≠ q0 → w'.cell? ⟨bb, o, none⟩ = w1.cell? ⟨bb, o, none⟩)) (by kernel_rfl) (fun wz : World => Kp (ButS (DB :: (Value.slice da dn dc).ownBlock.toList) w wz) ∧ Kp (wz.heap[DB]? = some (.cells #[.slice da dn dc] 44 (0, 0))) ∧ Kp (MemAt wz B D ws) ∧ Kp (wz.heap[w.heap.size + 1]? = some (.cells #[.bool false, .int .i64 0, .slice none 0 0, .bool false, .int .i64 0, .bool false, .bool false, .bool false, .int .i64 0] 64 (0, 0))) ∧ Kp (wz.ownsRow (bs) 41 1 (.slice da dn dc) (dn) (u32s l)) ∧ w1.heap.size ≤ wz.heap.size) ⟨⟨ButS.dr HS1.out⟩, ⟨blk_dr B1.out⟩, ⟨M1.out.below (below_dr (Below.refl _ _))⟩, ⟨blk_dr d1.out⟩, ⟨O1.out⟩, Nat.le_refl _⟩ (sx_of2 (ButB.dr (ButB.refl _ (by omega)))) (fun wd0 hRn hHeld => ?_)
  clear HS1 B1 M1 d1 O1
  obtain ⟨HS1, B1, M1, d1, O1, hsz⟩ := hRn
  refine wtk 1 ?_ rfl (.inl ⟨by rfl, ?_⟩) ?_
  rotate_left 1
  · (intro w hSw; go_simp; try with_reducible rfl)
  try simp only [Act.put, ls0, ls1, ls2]
  refine wtk 2 ?_ rfl (.inl ⟨by rfl, ?_⟩) ?_
  rotate_left 1
  · (intro w hSw; go_simp; try with_reducible rfl)
  try simp only [Act.put, ls0, ls1, ls2]
  refine wtk 3 ?_ rfl (.inl ⟨by rfl, ?_⟩) ?_
  rotate_left 1
  · (intro w hSw; go_simp; try with_reducible rfl)
  try simp only [Act.put, ls0, ls1, ls2]
  refine wtk 4 ?_ rfl (.inl ⟨by rfl, ?_⟩) ?_
  rotate_left 1
  · (intro w hSw; go_simp; try with_reducible rfl)
  try simp only [Act.put, ls0, ls1, ls2]
  refine wrd [0, 5] ?_
  refine (arc rfl (fun K hK => ?_) (arc rfl (fun K hK => ?_) arn))
  · have sd0 := cbk B1.out 0 (.slice da dn dc) rfl
    have sl := blk_lt B1.out
    go_simp
    try go_wp2_with fail
    refine out_gen hK _ _ (fun wz : World => Kp (ButS (DB :: (Value.slice da dn dc).ownBlock.toList) w wz) ∧ Kp (wz.heap[DB]? = some (.cells #[.slice da dn dc] 44 (0, 0))) ∧ Kp (MemAt wz B D ws) ∧ Kp (wz.heap[w.heap.size + 1]? = some (.cells #[.bool false, .int .i64 0, .slice none 0 0, .bool false, .int .i64 0, .bool false, .bool false, .bool false, .int .i64 0] 64 (0, 0))) ∧ Kp (wz.ownsRow (bs) 41 1 (.slice da dn dc) (dn) (u32s l)) ∧ wd0.heap.size ≤ wz.heap.size) ⟨⟨HS1.out⟩, ⟨B1.out⟩, ⟨M1.out⟩, ⟨d1.out⟩, ⟨O1.out⟩, Nat.le_refl _⟩ (sx_of2 ((And.left hHeld))) (fun wd1 hRn hHn => ?_)
    clear hK K hHeld HS1 B1 M1 d1 O1  sd0 sl
    obtain ⟨HS1, B1, M1, d1, O1, hsz1⟩ := hRn
    have hHeld := hHn
    clear hHn
    try simp only [Act.put, ls0, ls1, ls2]
    refine wrd [5] ?_
    refine (arc rfl (fun K hK => ?_) arn)
    have sd0 := cbk B1.out 0 (.slice da dn dc) rfl
    have sl := blk_lt B1.out
    go_simp
    try go_wp2_with fail
    refine out_gen hK _ _ (fun wz : World => Kp (ButS (DB :: (Value.slice da dn dc).ownBlock.toList) w wz) ∧ Kp (wz.heap[DB]? = some (.cells #[.slice da dn dc] 44 (0, 0))) ∧ Kp (MemAt wz B D ws) ∧ Kp (wz.heap[w.heap.size + 1]? = some (.cells #[.bool false, .int .i64 0, .slice none 0 0, .bool false, .int .i64 0, .bool false, .bool false, .bool false, .int .i64 0] 64 (0, 0))) ∧ Kp (wz.ownsRow (bs) 41 1 (.slice da dn dc) (dn) (u32s l)) ∧ wd1.heap.size ≤ wz.heap.size) ⟨⟨HS1.out⟩, ⟨B1.out⟩, ⟨M1.out⟩, ⟨d1.out⟩, ⟨O1.out⟩, Nat.le_refl _⟩ (sx_of2 ((And.left hHeld))) (fun wd2 hRn hHn => ?_)
    clear hK K hHeld HS1 B1 M1 d1 O1  sd0 sl
    obtain ⟨HS1, B1, M1, d1, O1, hsz2⟩ := hRn
    have hHeld := hHn
    clear hHn
    try simp only [Act.put, ls0, ls1, ls2]
    refine wtk 6 ?_ rfl (.inl ⟨by rfl, ?_⟩) ?_
    rotate_left 1
    · (intro w hSw; go_simp; try with_reducible rfl)
    try simp only [Act.put, ls0, ls1, ls2]
    refine wtk 7 ?_ rfl (.inl ⟨by rfl, ?_⟩) ?_
    rotate_left 1
    · (intro w hSw; go_simp; try with_reducible rfl)
    try simp only [Act.put, ls0, ls1, ls2]
    refine wrd [8] ?_
    refine (arc rfl (fun K hK => ?_) arn)
    go_simp
    go_at_call 61
    refine (rgload_any B BB D ws (q.cell + 1 + dn) (by omega) (by omega) _ M1.out).mono ?_
    rw [HV.out]
    rintro e w9 ⟨rfl, hb⟩
    try go_wp2_with fail
    refine out_gen hK _ _ (fun wz : World => Kp (ButS (DB :: (Value.slice da dn dc).ownBlock.toList) w wz) ∧ Kp (wz.heap[DB]? = some (.cells #[.slice da dn dc] 44 (0, 0))) ∧ Kp (MemAt wz B D ws) ∧ Kp (wz.heap[w.heap.size + 1]? = some (.cells #[.bool false, .int .i64 0, .slice none 0 0, .bool false, .int .i64 0, .bool false, .bool false, .bool false, .int .i64 0] 64 (0, 0))) ∧ Kp (wz.ownsRow (bs) 41 1 (.slice da dn dc) (dn) (u32s l)) ∧ wd2.heap.size ≤ wz.heap.size) ⟨⟨ButS.trans HS1.out (ButS.of_below hb)⟩, ⟨blk_below B1.out hb⟩, ⟨M1.out.below hb⟩, ⟨blk_below d1.out hb⟩, ⟨own_below O1.out hb⟩, hb.size⟩ (sx_of2 (ButB.call (And.left hHeld) hb)) (fun wd3 hRn hHn => ?_)
    clear hK K hHeld HS1 B1 M1 d1 O1 hb
    obtain ⟨HS1, B1, M1, d1, O1, hsz3⟩ := hRn
    have hHeld := hHn
    clear hHn
    try simp only [Act.put, ls0, ls1, ls2]
    refine wrd [9] ?_
    refine (arc rfl (fun K hK => ?_) arn)
    have ge_qa : w1.heap.size ≤ wd3.heap.size := (And.left hHeld).size
    go_simp
    try go_wp2_with fail
    refine out_gen hK _ _ (fun wz : World => Kp (ButS (DB :: (Value.slice da dn dc).ownBlock.toList) w wz) ∧ Kp (wz.heap[DB]? = some (.cells #[.slice da dn dc] 44 (0, 0))) ∧ Kp (MemAt wz B D ws) ∧ Kp (wz.heap[w.heap.size + 1]? = some (.cells #[.bool false, .int .i64 0, .slice none 0 0, .bool false, .int .i64 0, .bool false, .bool false, .bool false, .int .i64 0] 64 (0, 0))) ∧ Kp (wz.ownsRow (bs) 41 1 (.slice da dn dc) (dn) (u32s l)) ∧ Kp (wz.heap[wd3.heap.size]? = some (.cells #[.int .u32 v] 41 (0, 0))) ∧ wd3.heap.size < wz.heap.size) ⟨⟨ButS.al HS1.out _⟩, ⟨blk_al B1.out _⟩, ⟨M1.out.al _⟩, ⟨blk_al d1.out _⟩, ⟨O1.out.alloc _⟩, ⟨blk_new wd3 _⟩, (by simp)⟩ (sx_of2 (ButB.al (And.left hHeld) _)) (fun wd4 hRn hHn => ?_)
    clear hK K hHeld HS1 B1 M1 d1 O1
    obtain ⟨HS1, B1, M1, d1, O1, qa, hsz4⟩ := hRn
    have hHeld := hHn
    clear hHn
    try simp only [Act.put, ls0, ls1, ls2]
    have lt_qa := blk_lt qa.out
    refine wrd [10] ?_
    refine (arc rfl (fun K hK => ?_) arn)
    have hgl := HGL.out
    have hws := (And.left hHeld).size
    refine step_append_lies _ (by rfl) _ _ 44 (by rfl) (bs) 41 i0 (.int .u32 0) 1 4 Tryz.underlying44 hi0 hz0 hz1 hz2 (by rfl) (by decide) _ _ _ (by rfl) O1.out _ 1 _ [.int .u32 v] (by rfl) rfl (World.news_of_block qa.out) (by simp [Value.oneCell']) (by omega) (by unfold maxLen; omega) (by omega) (by have := hws; omega) _ rfl ?_
    intro g cap w9 hown hgrow hat hlt
    have hat2 : (Value.slice da dn dc).ownBlock = some g ∨ w.heap.size < g := by rcases hat with hh | hh; exact .inl hh; right; omega
    refine out_gen hK _ _ (fun wz : World => Kp (ButS (DB :: (Value.slice da dn dc).ownBlock.toList) w wz) ∧ Kp (wz.heap[DB]? = some (.cells #[.slice da dn dc] 44 (0, 0))) ∧ Kp (MemAt wz B D ws) ∧ Kp (wz.heap[w.heap.size + 1]? = some (.cells #[.bool false, .int .i64 0, .slice none 0 0, .bool false, .int .i64 0, .bool false, .bool false, .bool false, .int .i64 0] 64 (0, 0))) ∧ Kp (wz.ownsRow (bs) 41 1 (.slice (some ⟨g, 0, none⟩) (dn + 1) cap) (dn + 1) (u32s l ++ [.int .u32 v])) ∧ wd4.heap.size ≤ wz.heap.size) ⟨⟨ButS.grownV HS1.out hgrow (fun k hk => by simp [hk])⟩, ⟨blk_grownR B1.out O1.out hgrow (by first | (intro hq; have := (O1.out.lt _ hq).1; omega) | (intro hq; simp [Value.ownBlock] at hq; omega) | (intro hq; have := hgl _ hq; omega))⟩, ⟨(MemAt.grown M1.out O1.out hgrow hBb hDb)⟩, ⟨blk_grownR d1.out O1.out hgrow (by first | (intro hq; have := (O1.out.lt _ hq).1; omega) | (intro hq; simp [Value.ownBlock] at hq; omega) | (intro hq; have := hgl _ hq; omega))⟩, ⟨hown⟩, hgrow.size⟩ (sx_of2 ((ButB.grownX (And.left hHeld) hgrow hq0))) (fun wd5 hRn hHn => ?_)
    clear hK K hHeld HS1 B1 M1 d1 O1 qa hown hgrow hat hlt hws hgl
    obtain ⟨HS1, B1, M1, d1, O1, hsz5⟩ := hRn
    have hHeld := hHn
    clear hHn
    try simp only [Act.put, ls0, ls1, ls2]
    try simp only [Nat.zero_add]
    refine wrd [11] ?_
    refine (arc rfl (fun K hK => ?_) arn)
    have sd := cbk B1.out 0 (.slice da dn dc) rfl
    have sf := frozen_blk B1.out 0
    have sl := blk_lt B1.out
    go_simp
    try go_wp2_with fail
    refine out_gen hK _ _ (fun wz : World => Kp (ButS (DB :: (Value.slice da dn dc).ownBlock.toList) w wz) ∧ Kp (wz.heap[DB]? = some (.cells #[.slice (some ⟨g, 0, none⟩) (dn + 1) cap] 44 (0, 0))) ∧ Kp (MemAt wz B D ws) ∧ Kp (wz.heap[w.heap.size + 1]? = some (.cells #[.bool false, .int .i64 0, .slice none 0 0, .bool false, .int .i64 0, .bool false, .bool false, .bool false, .int .i64 0] 64 (0, 0))) ∧ Kp (wz.ownsRow (bs) 41 1 (.slice (some ⟨g, 0, none⟩) (dn + 1) cap) (dn + 1) (u32s l ++ [.int .u32 v])) ∧ wd5.heap.size ≤ wz.heap.size) ⟨⟨ButS.set' HS1.out (p := ⟨DB, 0, none⟩) (by first | (left; simp; done) | (right; show _ ≤ DB; omega)) _⟩, ⟨(blk_set B1.out 0 _).trans rfl⟩, ⟨MemAt.setne M1.out (p := ⟨DB, 0, none⟩) (by show B ≠ DB; omega) (by show D ≠ DB; omega) _⟩, ⟨blk_set_ne (p := ⟨DB, 0, none⟩) d1.out (by show w.heap.size + 1 ≠ DB; omega) _⟩, ⟨own_set_ne O1.out (p := ⟨DB, 0, none⟩) (by show DB < bs; omega) _⟩, (by simp [World.setCell])⟩ (sx_of2 (ButB.set (And.left hHeld) (p := ⟨DB, 0, none⟩) (by first | (left; simp; done) | (right; show _ ≤ DB; omega)) _)) (fun wd6 hRn hHn => ?_)
    clear hK K hHeld HS1 B1 M1 d1 O1 sd sf sl
    obtain ⟨HS1, B1, M1, d1, O1, hsz6⟩ := hRn
    have hHeld := hHn
    clear hHn
    try simp only [Act.put, ls0, ls1, ls2]
    refine wpAnyH_done (by kernel_rfl) ?_ _
    clear hHeld
    have HOW : Kp (wd6.ownsRow bs 41 1 (.slice (some ⟨g, 0, none⟩) (dn + 1) cap) (dn + 1) (u32s (l ++ [v]))) := ⟨HUL.out ▸ O1.out⟩
    have hgbs := (HOW.out.lt g rfl).1
    have hgD : g ≠ w.heap.size + 1 := by
      rintro rfl
      obtain ⟨_, ⟨h, _⟩ | ⟨g', c', cur, h, _, hh, _⟩⟩ := HOW.out
      · cases h
      · cases h
        rw [d1.out] at hh
        simp at hh
    have dc0 := cbk d1.out 0 (.bool false) rfl
    have df0 := frozen_blk d1.out 0
    have dc1 := cbk d1.out 1 (.int .i64 0) rfl
    have df1 := frozen_blk d1.out 1
    have dc2 := cbk d1.out 2 (.slice none 0 0) rfl
    have df2 := frozen_blk d1.out 2
    have dc3 := cbk d1.out 3 (.bool false) rfl
    have df3 := frozen_blk d1.out 3
    have dc4 := cbk d1.out 4 (.int .i64 0) rfl
    have df4 := frozen_blk d1.out 4
    have dc5 := cbk d1.out 5 (.bool false) rfl
    have df5 := frozen_blk d1.out 5
    have dc6 := cbk d1.out 6 (.bool false) rfl
    have df6 := frozen_blk d1.out 6
    have dc7 := cbk d1.out 7 (.bool false) rfl
    have df7 := frozen_blk d1.out 7
    have dc8 := cbk d1.out 8 (.int .i64 0) rfl
    have df8 := frozen_blk d1.out 8
    have ddl := blk_lt d1.out
    go_wp2
    exact bodyPost_ret (v := .agg #[.bool false, .int .i64 0, .slice none 0 0, .bool false, .int .i64 0, .bool false, .bool false, .bool false, .int .i64 0]) (results_cell_row rfl _ _ _ _ _ _ _ rfl ((blk_set (blk_set (blk_set (blk_set (blk_set (blk_set (blk_set (blk_set (blk_set d1.out 0 (.bool false)) 1 (.int .i64 0)) 2 (.slice none 0 0)) 3 (.bool false)) 4 (.int .i64 0)) 5 (.bool false)) 6 (.bool false)) 7 (.bool false)) 8 (.int .i64 0)).trans rfl) Tryz.underlying64 rfl (by kernel_rfl)) rfl ⟨g, cap, rfl, (MemAt.setne (MemAt.setne (MemAt.setne (MemAt.setne (MemAt.setne (MemAt.setne (MemAt.setne (MemAt.setne (MemAt.setne M1.out (p := ⟨w.heap.size + 1, 0, none⟩) (by show B ≠ w.heap.size + 1; omega) (by show D ≠ w.heap.size + 1; omega) (.bool false)) (p := ⟨w.heap.size + 1, 1, none⟩) (by show B ≠ w.heap.size + 1; omega) (by show D ≠ w.heap.size + 1; omega) (.int .i64 0)) (p := ⟨w.heap.size + 1, 2, none⟩) (by show B ≠ w.heap.size + 1; omega) (by show D ≠ w.heap.size + 1; omega) (.slice none 0 0)) (p := ⟨w.heap.size + 1, 3, none⟩) (by show B ≠ w.heap.size + 1; omega) (by show D ≠ w.heap.size + 1; omega) (.bool false)) (p := ⟨w.heap.size + 1, 4, none⟩) (by show B ≠ w.heap.size + 1; omega) (by show D ≠ w.heap.size + 1; omega) (.int .i64 0)) (p := ⟨w.heap.size + 1, 5, none⟩) (by show B ≠ w.heap.size + 1; omega) (by show D ≠ w.heap.size + 1; omega) (.bool false)) (p := ⟨w.heap.size + 1, 6, none⟩) (by show B ≠ w.heap.size + 1; omega) (by show D ≠ w.heap.size + 1; omega) (.bool false)) (p := ⟨w.heap.size + 1, 7, none⟩) (by show B ≠ w.heap.size + 1; omega) (by show D ≠ w.heap.size + 1; omega) (.bool false)) (p := ⟨w.heap.size + 1, 8, none⟩) (by show B ≠ w.heap.size + 1; omega) (by show D ≠ w.heap.size + 1; omega) (.int .i64 0)), (blk_set_ne (p := ⟨w.heap.size + 1, 8, none⟩) (blk_set_ne (p := ⟨w.heap.size + 1, 7, none⟩) (blk_set_ne (p := ⟨w.heap.size + 1, 6, none⟩) (blk_set_ne (p := ⟨w.heap.size + 1, 5, none⟩) (blk_set_ne (p := ⟨w.heap.size + 1, 4, none⟩) (blk_set_ne (p := ⟨w.heap.size + 1, 3, none⟩) (blk_set_ne (p := ⟨w.heap.size + 1, 2, none⟩) (blk_set_ne (p := ⟨w.heap.size + 1, 1, none⟩) (blk_set_ne (p := ⟨w.heap.size + 1, 0, none⟩) B1.out (by show DB ≠ w.heap.size + 1; omega) (.bool false)) (by show DB ≠ w.heap.size + 1; omega) (.int .i64 0)) (by show DB ≠ w.heap.size + 1; omega) (.slice none 0 0)) (by show DB ≠ w.heap.size + 1; omega) (.bool false)) (by show DB ≠ w.heap.size + 1; omega) (.int .i64 0)) (by show DB ≠ w.heap.size + 1; omega) (.bool false)) (by show DB ≠ w.heap.size + 1; omega) (.bool false)) (by show DB ≠ w.heap.size + 1; omega) (.bool false)) (by show DB ≠ w.heap.size + 1; omega) (.int .i64 0)), (own_set_blk (own_set_blk (own_set_blk (own_set_blk (own_set_blk (own_set_blk (own_set_blk (own_set_blk (own_set_blk HOW.out (p := ⟨w.heap.size + 1, 0, none⟩) (by show g ≠ w.heap.size + 1; exact hgD) (.bool false)) (p := ⟨w.heap.size + 1, 1, none⟩) (by show g ≠ w.heap.size + 1; exact hgD) (.int .i64 0)) (p := ⟨w.heap.size + 1, 2, none⟩) (by show g ≠ w.heap.size + 1; exact hgD) (.slice none 0 0)) (p := ⟨w.heap.size + 1, 3, none⟩) (by show g ≠ w.heap.size + 1; exact hgD) (.bool false)) (p := ⟨w.heap.size + 1, 4, none⟩) (by show g ≠ w.heap.size + 1; exact hgD) (.int .i64 0)) (p := ⟨w.heap.size + 1, 5, none⟩) (by show g ≠ w.heap.size + 1; exact hgD) (.bool false)) (p := ⟨w.heap.size + 1, 6, none⟩) (by show g ≠ w.heap.size + 1; exact hgD) (.bool false)) (p := ⟨w.heap.size + 1, 7, none⟩) (by show g ≠ w.heap.size + 1; exact hgD) (.bool false)) (p := ⟨w.heap.size + 1, 8, none⟩) (by show g ≠ w.heap.size + 1; exact hgD) (.int .i64 0)), (ButS.set' (ButS.set' (ButS.set' (ButS.set' (ButS.set' (ButS.set' (ButS.set' (ButS.set' (ButS.set' HS1.out (p := ⟨w.heap.size + 1, 0, none⟩) (by right; show w.heap.size ≤ w.heap.size + 1; omega) (.bool false)) (p := ⟨w.heap.size + 1, 1, none⟩) (by right; show w.heap.size ≤ w.heap.size + 1; omega) (.int .i64 0)) (p := ⟨w.heap.size + 1, 2, none⟩) (by right; show w.heap.size ≤ w.heap.size + 1; omega) (.slice none 0 0)) (p := ⟨w.heap.size + 1, 3, none⟩) (by right; show w.heap.size ≤ w.heap.size + 1; omega) (.bool false)) (p := ⟨w.heap.size + 1, 4, none⟩) (by right; show w.heap.size ≤ w.heap.size + 1; omega) (.int .i64 0)) (p := ⟨w.heap.size + 1, 5, none⟩) (by right; show w.heap.size ≤ w.heap.size + 1; omega) (.bool false)) (p := ⟨w.heap.size + 1, 6, none⟩) (by right; show w.heap.size ≤ w.heap.size + 1; omega) (.bool false)) (p := ⟨w.heap.size + 1, 7, none⟩) (by right; show w.heap.size ≤ w.heap.size + 1; omega) (.bool false)) (p := ⟨w.heap.size + 1, 8, none⟩) (by right; show w.heap.size ≤ w.heap.size + 1; omega) (.int .i64 0)), hat2⟩
  · have sd0 := cbk B1.out 0 (.slice da dn dc) rfl
    have sl := blk_lt B1.out
    go_simp
    try go_wp2_with fail
    refine out_gen hK _ _ (fun wz : World => Kp (ButS (DB :: (Value.slice da dn dc).ownBlock.toList) w wz) ∧ Kp (wz.heap[DB]? = some (.cells #[.slice da dn dc] 44 (0, 0))) ∧ Kp (MemAt wz B D ws) ∧ Kp (wz.heap[w.heap.size + 1]? = some (.cells #[.bool false, .int .i64 0, .slice none 0 0, .bool false, .int .i64 0, .bool false, .bool false, .bool false, .int .i64 0] 64 (0, 0))) ∧ Kp (wz.ownsRow (bs) 41 1 (.slice da dn dc) (dn) (u32s l)) ∧ wd0.heap.size ≤ wz.heap.size) ⟨⟨HS1.out⟩, ⟨B1.out⟩, ⟨M1.out⟩, ⟨d1.out⟩, ⟨O1.out⟩, Nat.le_refl _⟩ (sx_of2 ((And.left hHeld))) (fun wd7 hRn hHn => ?_)
    clear hK K hHeld HS1 B1 M1 d1 O1  sd0 sl
    obtain ⟨HS1, B1, M1, d1, O1, hsz7⟩ := hRn
    have hHeld := hHn
    clear hHn
    try simp only [Act.put, ls0, ls1, ls2]
    refine wtk 6 ?_ rfl (.inl ⟨by rfl, ?_⟩) ?_
    rotate_left 1
    · (intro w hSw; go_simp; try with_reducible rfl)
    try simp only [Act.put, ls0, ls1, ls2]
    refine wtk 7 ?_ rfl (.inl ⟨by rfl, ?_⟩) ?_
    rotate_left 1
    · (intro w hSw; go_simp; try with_reducible rfl)
    try simp only [Act.put, ls0, ls1, ls2]
    refine wrd [0, 8] ?_
    refine (arc rfl (fun K hK => ?_) (arc rfl (fun K hK => ?_) arn))
    · have sd0 := cbk B1.out 0 (.slice da dn dc) rfl
      have sl := blk_lt B1.out
      go_simp
      try go_wp2_with fail
      refine out_gen hK _ _ (fun wz : World => Kp (ButS (DB :: (Value.slice da dn dc).ownBlock.toList) w wz) ∧ Kp (wz.heap[DB]? = some (.cells #[.slice da dn dc] 44 (0, 0))) ∧ Kp (MemAt wz B D ws) ∧ Kp (wz.heap[w.heap.size + 1]? = some (.cells #[.bool false, .int .i64 0, .slice none 0 0, .bool false, .int .i64 0, .bool false, .bool false, .bool false, .int .i64 0] 64 (0, 0))) ∧ Kp (wz.ownsRow (bs) 41 1 (.slice da dn dc) (dn) (u32s l)) ∧ wd7.heap.size ≤ wz.heap.size) ⟨⟨HS1.out⟩, ⟨B1.out⟩, ⟨M1.out⟩, ⟨d1.out⟩, ⟨O1.out⟩, Nat.le_refl _⟩ (sx_of2 ((And.left hHeld))) (fun wd8 hRn hHn => ?_)
      clear hK K hHeld HS1 B1 M1 d1 O1  sd0 sl
      obtain ⟨HS1, B1, M1, d1, O1, hsz8⟩ := hRn
      have hHeld := hHn
      clear hHn
      try simp only [Act.put, ls0, ls1, ls2]
      refine wrd [8] ?_
      refine (arc rfl (fun K hK => ?_) arn)
      go_simp
      go_at_call 61
      refine (rgload_any B BB D ws (q.cell + 1 + dn) (by omega) (by omega) _ M1.out).mono ?_
      rw [HV.out]
      rintro e w9 ⟨rfl, hb⟩
      try go_wp2_with fail
      refine out_gen hK _ _ (fun wz : World => Kp (ButS (DB :: (Value.slice da dn dc).ownBlock.toList) w wz) ∧ Kp (wz.heap[DB]? = some (.cells #[.slice da dn dc] 44 (0, 0))) ∧ Kp (MemAt wz B D ws) ∧ Kp (wz.heap[w.heap.size + 1]? = some (.cells #[.bool false, .int .i64 0, .slice none 0 0, .bool false, .int .i64 0, .bool false, .bool false, .bool false, .int .i64 0] 64 (0, 0))) ∧ Kp (wz.ownsRow (bs) 41 1 (.slice da dn dc) (dn) (u32s l)) ∧ wd8.heap.size ≤ wz.heap.size) ⟨⟨ButS.trans HS1.out (ButS.of_below hb)⟩, ⟨blk_below B1.out hb⟩, ⟨M1.out.below hb⟩, ⟨blk_below d1.out hb⟩, ⟨own_below O1.out hb⟩, hb.size⟩ (sx_of2 (ButB.call (And.left hHeld) hb)) (fun wd9 hRn hHn => ?_)
      clear hK K hHeld HS1 B1 M1 d1 O1 hb
      obtain ⟨HS1, B1, M1, d1, O1, hsz9⟩ := hRn
      have hHeld := hHn
      clear hHn
      try simp only [Act.put, ls0, ls1, ls2]
      refine wrd [9] ?_
      refine (arc rfl (fun K hK => ?_) arn)
      have ge_qa : w1.heap.size ≤ wd9.heap.size := (And.left hHeld).size
      go_simp
      try go_wp2_with fail
      refine out_gen hK _ _ (fun wz : World => Kp (ButS (DB :: (Value.slice da dn dc).ownBlock.toList) w wz) ∧ Kp (wz.heap[DB]? = some (.cells #[.slice da dn dc] 44 (0, 0))) ∧ Kp (MemAt wz B D ws) ∧ Kp (wz.heap[w.heap.size + 1]? = some (.cells #[.bool false, .int .i64 0, .slice none 0 0, .bool false, .int .i64 0, .bool false, .bool false, .bool false, .int .i64 0] 64 (0, 0))) ∧ Kp (wz.ownsRow (bs) 41 1 (.slice da dn dc) (dn) (u32s l)) ∧ Kp (wz.heap[wd9.heap.size]? = some (.cells #[.int .u32 v] 41 (0, 0))) ∧ wd9.heap.size < wz.heap.size) ⟨⟨ButS.al HS1.out _⟩, ⟨blk_al B1.out _⟩, ⟨M1.out.al _⟩, ⟨blk_al d1.out _⟩, ⟨O1.out.alloc _⟩, ⟨blk_new wd9 _⟩, (by simp)⟩ (sx_of2 (ButB.al (And.left hHeld) _)) (fun wd10 hRn hHn => ?_)
      clear hK K hHeld HS1 B1 M1 d1 O1
      obtain ⟨HS1, B1, M1, d1, O1, qa, hsz10⟩ := hRn
      have hHeld := hHn
      clear hHn
      try simp only [Act.put, ls0, ls1, ls2]
      have lt_qa := blk_lt qa.out
      refine wrd [10] ?_
      refine (arc rfl (fun K hK => ?_) arn)
      have hgl := HGL.out
      have hws := (And.left hHeld).size
      refine step_append_lies _ (by rfl) _ _ 44 (by rfl) (bs) 41 i0 (.int .u32 0) 1 4 Tryz.underlying44 hi0 hz0 hz1 hz2 (by rfl) (by decide) _ _ _ (by rfl) O1.out _ 1 _ [.int .u32 v] (by rfl) rfl (World.news_of_block qa.out) (by simp [Value.oneCell']) (by omega) (by unfold maxLen; omega) (by omega) (by have := hws; omega) _ rfl ?_
      intro g cap w9 hown hgrow hat hlt
      have hat2 : (Value.slice da dn dc).ownBlock = some g ∨ w.heap.size < g := by rcases hat with hh | hh; exact .inl hh; right; omega
      refine out_gen hK _ _ (fun wz : World => Kp (ButS (DB :: (Value.slice da dn dc).ownBlock.toList) w wz) ∧ Kp (wz.heap[DB]? = some (.cells #[.slice da dn dc] 44 (0, 0))) ∧ Kp (MemAt wz B D ws) ∧ Kp (wz.heap[w.heap.size + 1]? = some (.cells #[.bool false, .int .i64 0, .slice none 0 0, .bool false, .int .i64 0, .bool false, .bool false, .bool false, .int .i64 0] 64 (0, 0))) ∧ Kp (wz.ownsRow (bs) 41 1 (.slice (some ⟨g, 0, none⟩) (dn + 1) cap) (dn + 1) (u32s l ++ [.int .u32 v])) ∧ wd10.heap.size ≤ wz.heap.size) ⟨⟨ButS.grownV HS1.out hgrow (fun k hk => by simp [hk])⟩, ⟨blk_grownR B1.out O1.out hgrow (by first | (intro hq; have := (O1.out.lt _ hq).1; omega) | (intro hq; simp [Value.ownBlock] at hq; omega) | (intro hq; have := hgl _ hq; omega))⟩, ⟨(MemAt.grown M1.out O1.out hgrow hBb hDb)⟩, ⟨blk_grownR d1.out O1.out hgrow (by first | (intro hq; have := (O1.out.lt _ hq).1; omega) | (intro hq; simp [Value.ownBlock] at hq; omega) | (intro hq; have := hgl _ hq; omega))⟩, ⟨hown⟩, hgrow.size⟩ (sx_of2 ((ButB.grownX (And.left hHeld) hgrow hq0))) (fun wd11 hRn hHn => ?_)
      clear hK K hHeld HS1 B1 M1 d1 O1 qa hown hgrow hat hlt hws hgl
      obtain ⟨HS1, B1, M1, d1, O1, hsz11⟩ := hRn
      have hHeld := hHn
      clear hHn
      try simp only [Act.put, ls0, ls1, ls2]
      try simp only [Nat.zero_add]
      refine wrd [11] ?_
      refine (arc rfl (fun K hK => ?_) arn)
      have sd := cbk B1.out 0 (.slice da dn dc) rfl
      have sf := frozen_blk B1.out 0
      have sl := blk_lt B1.out
      go_simp
      try go_wp2_with fail
      refine out_gen hK _ _ (fun wz : World => Kp (ButS (DB :: (Value.slice da dn dc).ownBlock.toList) w wz) ∧ Kp (wz.heap[DB]? = some (.cells #[.slice (some ⟨g, 0, none⟩) (dn + 1) cap] 44 (0, 0))) ∧ Kp (MemAt wz B D ws) ∧ Kp (wz.heap[w.heap.size + 1]? = some (.cells #[.bool false, .int .i64 0, .slice none 0 0, .bool false, .int .i64 0, .bool false, .bool false, .bool false, .int .i64 0] 64 (0, 0))) ∧ Kp (wz.ownsRow (bs) 41 1 (.slice (some ⟨g, 0, none⟩) (dn + 1) cap) (dn + 1) (u32s l ++ [.int .u32 v])) ∧ wd11.heap.size ≤ wz.heap.size) ⟨⟨ButS.set' HS1.out (p := ⟨DB, 0, none⟩) (by first | (left; simp; done) | (right; show _ ≤ DB; omega)) _⟩, ⟨(blk_set B1.out 0 _).trans rfl⟩, ⟨MemAt.setne M1.out (p := ⟨DB, 0, none⟩) (by show B ≠ DB; omega) (by show D ≠ DB; omega) _⟩, ⟨blk_set_ne (p := ⟨DB, 0, none⟩) d1.out (by show w.heap.size + 1 ≠ DB; omega) _⟩, ⟨own_set_ne O1.out (p := ⟨DB, 0, none⟩) (by show DB < bs; omega) _⟩, (by simp [World.setCell])⟩ (sx_of2 (ButB.set (And.left hHeld) (p := ⟨DB, 0, none⟩) (by first | (left; simp; done) | (right; show _ ≤ DB; omega)) _)) (fun wd12 hRn hHn => ?_)
      clear hK K hHeld HS1 B1 M1 d1 O1 sd sf sl
      obtain ⟨HS1, B1, M1, d1, O1, hsz12⟩ := hRn
      have hHeld := hHn
      clear hHn
      try simp only [Act.put, ls0, ls1, ls2]
      refine wpAnyH_done (by kernel_rfl) ?_ _
      clear hHeld
      have HOW : Kp (wd12.ownsRow bs 41 1 (.slice (some ⟨g, 0, none⟩) (dn + 1) cap) (dn + 1) (u32s (l ++ [v]))) := ⟨HUL.out ▸ O1.out⟩
      have hgbs := (HOW.out.lt g rfl).1
      have hgD : g ≠ w.heap.size + 1 := by
        rintro rfl
        obtain ⟨_, ⟨h, _⟩ | ⟨g', c', cur, h, _, hh, _⟩⟩ := HOW.out
        · cases h
        · cases h
          rw [d1.out] at hh
          simp at hh
      have dc0 := cbk d1.out 0 (.bool false) rfl
      have df0 := frozen_blk d1.out 0
      have dc1 := cbk d1.out 1 (.int .i64 0) rfl
      have df1 := frozen_blk d1.out 1
      have dc2 := cbk d1.out 2 (.slice none 0 0) rfl
      have df2 := frozen_blk d1.out 2
      have dc3 := cbk d1.out 3 (.bool false) rfl
      have df3 := frozen_blk d1.out 3
      have dc4 := cbk d1.out 4 (.int .i64 0) rfl
      have df4 := frozen_blk d1.out 4
      have dc5 := cbk d1.out 5 (.bool false) rfl
      have df5 := frozen_blk d1.out 5
      have dc6 := cbk d1.out 6 (.bool false) rfl
      have df6 := frozen_blk d1.out 6
      have dc7 := cbk d1.out 7 (.bool false) rfl
      have df7 := frozen_blk d1.out 7
      have dc8 := cbk d1.out 8 (.int .i64 0) rfl
      have df8 := frozen_blk d1.out 8
      have ddl := blk_lt d1.out
      go_wp2
      exact bodyPost_ret (v := .agg #[.bool false, .int .i64 0, .slice none 0 0, .bool false, .int .i64 0, .bool false, .bool false, .bool false, .int .i64 0]) (results_cell_row rfl _ _ _ _ _ _ _ rfl ((blk_set (blk_set (blk_set (blk_set (blk_set (blk_set (blk_set (blk_set (blk_set d1.out 0 (.bool false)) 1 (.int .i64 0)) 2 (.slice none 0 0)) 3 (.bool false)) 4 (.int .i64 0)) 5 (.bool false)) 6 (.bool false)) 7 (.bool false)) 8 (.int .i64 0)).trans rfl) Tryz.underlying64 rfl (by kernel_rfl)) rfl ⟨g, cap, rfl, (MemAt.setne (MemAt.setne (MemAt.setne (MemAt.setne (MemAt.setne (MemAt.setne (MemAt.setne (MemAt.setne (MemAt.setne M1.out (p := ⟨w.heap.size + 1, 0, none⟩) (by show B ≠ w.heap.size + 1; omega) (by show D ≠ w.heap.size + 1; omega) (.bool false)) (p := ⟨w.heap.size + 1, 1, none⟩) (by show B ≠ w.heap.size + 1; omega) (by show D ≠ w.heap.size + 1; omega) (.int .i64 0)) (p := ⟨w.heap.size + 1, 2, none⟩) (by show B ≠ w.heap.size + 1; omega) (by show D ≠ w.heap.size + 1; omega) (.slice none 0 0)) (p := ⟨w.heap.size + 1, 3, none⟩) (by show B ≠ w.heap.size + 1; omega) (by show D ≠ w.heap.size + 1; omega) (.bool false)) (p := ⟨w.heap.size + 1, 4, none⟩) (by show B ≠ w.heap.size + 1; omega) (by show D ≠ w.heap.size + 1; omega) (.int .i64 0)) (p := ⟨w.heap.size + 1, 5, none⟩) (by show B ≠ w.heap.size + 1; omega) (by show D ≠ w.heap.size + 1; omega) (.bool false)) (p := ⟨w.heap.size + 1, 6, none⟩) (by show B ≠ w.heap.size + 1; omega) (by show D ≠ w.heap.size + 1; omega) (.bool false)) (p := ⟨w.heap.size + 1, 7, none⟩) (by show B ≠ w.heap.size + 1; omega) (by show D ≠ w.heap.size + 1; omega) (.bool false)) (p := ⟨w.heap.size + 1, 8, none⟩) (by show B ≠ w.heap.size + 1; omega) (by show D ≠ w.heap.size + 1; omega) (.int .i64 0)), (blk_set_ne (p := ⟨w.heap.size + 1, 8, none⟩) (blk_set_ne (p := ⟨w.heap.size + 1, 7, none⟩) (blk_set_ne (p := ⟨w.heap.size + 1, 6, none⟩) (blk_set_ne (p := ⟨w.heap.size + 1, 5, none⟩) (blk_set_ne (p := ⟨w.heap.size + 1, 4, none⟩) (blk_set_ne (p := ⟨w.heap.size + 1, 3, none⟩) (blk_set_ne (p := ⟨w.heap.size + 1, 2, none⟩) (blk_set_ne (p := ⟨w.heap.size + 1, 1, none⟩) (blk_set_ne (p := ⟨w.heap.size + 1, 0, none⟩) B1.out (by show DB ≠ w.heap.size + 1; omega) (.bool false)) (by show DB ≠ w.heap.size + 1; omega) (.int .i64 0)) (by show DB ≠ w.heap.size + 1; omega) (.slice none 0 0)) (by show DB ≠ w.heap.size + 1; omega) (.bool false)) (by show DB ≠ w.heap.size + 1; omega) (.int .i64 0)) (by show DB ≠ w.heap.size + 1; omega) (.bool false)) (by show DB ≠ w.heap.size + 1; omega) (.bool false)) (by show DB ≠ w.heap.size + 1; omega) (.bool false)) (by show DB ≠ w.heap.size + 1; omega) (.int .i64 0)), (own_set_blk (own_set_blk (own_set_blk (own_set_blk (own_set_blk (own_set_blk (own_set_blk (own_set_blk (own_set_blk HOW.out (p := ⟨w.heap.size + 1, 0, none⟩) (by show g ≠ w.heap.size + 1; exact hgD) (.bool false)) (p := ⟨w.heap.size + 1, 1, none⟩) (by show g ≠ w.heap.size + 1; exact hgD) (.int .i64 0)) (p := ⟨w.heap.size + 1, 2, none⟩) (by show g ≠ w.heap.size + 1; exact hgD) (.slice none 0 0)) (p := ⟨w.heap.size + 1, 3, none⟩) (by show g ≠ w.heap.size + 1; exact hgD) (.bool false)) (p := ⟨w.heap.size + 1, 4, none⟩) (by show g ≠ w.heap.size + 1; exact hgD) (.int .i64 0)) (p := ⟨w.heap.size + 1, 5, none⟩) (by show g ≠ w.heap.size + 1; exact hgD) (.bool false)) (p := ⟨w.heap.size + 1, 6, none⟩) (by show g ≠ w.heap.size + 1; exact hgD) (.bool false)) (p := ⟨w.heap.size + 1, 7, none⟩) (by show g ≠ w.heap.size + 1; exact hgD) (.bool false)) (p := ⟨w.heap.size + 1, 8, none⟩) (by show g ≠ w.heap.size + 1; exact hgD) (.int .i64 0)), (ButS.set' (ButS.set' (ButS.set' (ButS.set' (ButS.set' (ButS.set' (ButS.set' (ButS.set' (ButS.set' HS1.out (p := ⟨w.heap.size + 1, 0, none⟩) (by right; show w.heap.size ≤ w.heap.size + 1; omega) (.bool false)) (p := ⟨w.heap.size + 1, 1, none⟩) (by right; show w.heap.size ≤ w.heap.size + 1; omega) (.int .i64 0)) (p := ⟨w.heap.size + 1, 2, none⟩) (by right; show w.heap.size ≤ w.heap.size + 1; omega) (.slice none 0 0)) (p := ⟨w.heap.size + 1, 3, none⟩) (by right; show w.heap.size ≤ w.heap.size + 1; omega) (.bool false)) (p := ⟨w.heap.size + 1, 4, none⟩) (by right; show w.heap.size ≤ w.heap.size + 1; omega) (.int .i64 0)) (p := ⟨w.heap.size + 1, 5, none⟩) (by right; show w.heap.size ≤ w.heap.size + 1; omega) (.bool false)) (p := ⟨w.heap.size + 1, 6, none⟩) (by right; show w.heap.size ≤ w.heap.size + 1; omega) (.bool false)) (p := ⟨w.heap.size + 1, 7, none⟩) (by right; show w.heap.size ≤ w.heap.size + 1; omega) (.bool false)) (p := ⟨w.heap.size + 1, 8, none⟩) (by right; show w.heap.size ≤ w.heap.size + 1; omega) (.int .i64 0)), hat2⟩
    · go_simp
      go_at_call 61
      refine (rgload_any B BB D ws (q.cell + 1 + dn) (by omega) (by omega) _ M1.out).mono ?_
      rw [HV.out]
      rintro e w9 ⟨rfl, hb⟩
      try go_wp2_with fail
      refine out_gen hK _ _ (fun wz : World => Kp (ButS (DB :: (Value.slice da dn dc).ownBlock.toList) w wz) ∧ Kp (wz.heap[DB]? = some (.cells #[.slice da dn dc] 44 (0, 0))) ∧ Kp (MemAt wz B D ws) ∧ Kp (wz.heap[w.heap.size + 1]? = some (.cells #[.bool false, .int .i64 0, .slice none 0 0, .bool false, .int .i64 0, .bool false, .bool false, .bool false, .int .i64 0] 64 (0, 0))) ∧ Kp (wz.ownsRow (bs) 41 1 (.slice da dn dc) (dn) (u32s l)) ∧ wd7.heap.size ≤ wz.heap.size) ⟨⟨ButS.trans HS1.out (ButS.of_below hb)⟩, ⟨blk_below B1.out hb⟩, ⟨M1.out.below hb⟩, ⟨blk_below d1.out hb⟩, ⟨own_below O1.out hb⟩, hb.size⟩ (sx_of2 (ButB.call (And.left hHeld) hb)) (fun wd13 hRn hHn => ?_)
      clear hK K hHeld HS1 B1 M1 d1 O1 hb
      obtain ⟨HS1, B1, M1, d1, O1, hsz13⟩ := hRn
      have hHeld := hHn
      clear hHn
      try simp only [Act.put, ls0, ls1, ls2]
      refine wrd [0, 9] ?_
      refine (arc rfl (fun K hK => ?_) (arc rfl (fun K hK => ?_) arn))
      · have sd0 := cbk B1.out 0 (.slice da dn dc) rfl
        have sl := blk_lt B1.out
        go_simp
        try go_wp2_with fail
        refine out_gen hK _ _ (fun wz : World => Kp (ButS (DB :: (Value.slice da dn dc).ownBlock.toList) w wz) ∧ Kp (wz.heap[DB]? = some (.cells #[.slice da dn dc] 44 (0, 0))) ∧ Kp (MemAt wz B D ws) ∧ Kp (wz.heap[w.heap.size + 1]? = some (.cells #[.bool false, .int .i64 0, .slice none 0 0, .bool false, .int .i64 0, .bool false, .bool false, .bool false, .int .i64 0] 64 (0, 0))) ∧ Kp (wz.ownsRow (bs) 41 1 (.slice da dn dc) (dn) (u32s l)) ∧ wd13.heap.size ≤ wz.heap.size) ⟨⟨HS1.out⟩, ⟨B1.out⟩, ⟨M1.out⟩, ⟨d1.out⟩, ⟨O1.out⟩, Nat.le_refl _⟩ (sx_of2 ((And.left hHeld))) (fun wd14 hRn hHn => ?_)
        clear hK K hHeld HS1 B1 M1 d1 O1  sd0 sl
        obtain ⟨HS1, B1, M1, d1, O1, hsz14⟩ := hRn
        have hHeld := hHn
        clear hHn
        try simp only [Act.put, ls0, ls1, ls2]
        refine wrd [9] ?_
        refine (arc rfl (fun K hK => ?_) arn)
        have ge_qa : w1.heap.size ≤ wd14.heap.size := (And.left hHeld).size
        go_simp
        try go_wp2_with fail
        refine out_gen hK _ _ (fun wz : World => Kp (ButS (DB :: (Value.slice da dn dc).ownBlock.toList) w wz) ∧ Kp (wz.heap[DB]? = some (.cells #[.slice da dn dc] 44 (0, 0))) ∧ Kp (MemAt wz B D ws) ∧ Kp (wz.heap[w.heap.size + 1]? = some (.cells #[.bool false, .int .i64 0, .slice none 0 0, .bool false, .int .i64 0, .bool false, .bool false, .bool false, .int .i64 0] 64 (0, 0))) ∧ Kp (wz.ownsRow (bs) 41 1 (.slice da dn dc) (dn) (u32s l)) ∧ Kp (wz.heap[wd14.heap.size]? = some (.cells #[.int .u32 v] 41 (0, 0))) ∧ wd14.heap.size < wz.heap.size) ⟨⟨ButS.al HS1.out _⟩, ⟨blk_al B1.out _⟩, ⟨M1.out.al _⟩, ⟨blk_al d1.out _⟩, ⟨O1.out.alloc _⟩, ⟨blk_new wd14 _⟩, (by simp)⟩ (sx_of2 (ButB.al (And.left hHeld) _)) (fun wd15 hRn hHn => ?_)
        clear hK K hHeld HS1 B1 M1 d1 O1
        obtain ⟨HS1, B1, M1, d1, O1, qa, hsz15⟩ := hRn
        have hHeld := hHn
        clear hHn
        try simp only [Act.put, ls0, ls1, ls2]
        have lt_qa := blk_lt qa.out
        refine wrd [10] ?_
        refine (arc rfl (fun K hK => ?_) arn)
        have hgl := HGL.out
        have hws := (And.left hHeld).size
        refine step_append_lies _ (by rfl) _ _ 44 (by rfl) (bs) 41 i0 (.int .u32 0) 1 4 Tryz.underlying44 hi0 hz0 hz1 hz2 (by rfl) (by decide) _ _ _ (by rfl) O1.out _ 1 _ [.int .u32 v] (by rfl) rfl (World.news_of_block qa.out) (by simp [Value.oneCell']) (by omega) (by unfold maxLen; omega) (by omega) (by have := hws; omega) _ rfl ?_
        intro g cap w9 hown hgrow hat hlt
        have hat2 : (Value.slice da dn dc).ownBlock = some g ∨ w.heap.size < g := by rcases hat with hh | hh; exact .inl hh; right; omega
        refine out_gen hK _ _ (fun wz : World => Kp (ButS (DB :: (Value.slice da dn dc).ownBlock.toList) w wz) ∧ Kp (wz.heap[DB]? = some (.cells #[.slice da dn dc] 44 (0, 0))) ∧ Kp (MemAt wz B D ws) ∧ Kp (wz.heap[w.heap.size + 1]? = some (.cells #[.bool false, .int .i64 0, .slice none 0 0, .bool false, .int .i64 0, .bool false, .bool false, .bool false, .int .i64 0] 64 (0, 0))) ∧ Kp (wz.ownsRow (bs) 41 1 (.slice (some ⟨g, 0, none⟩) (dn + 1) cap) (dn + 1) (u32s l ++ [.int .u32 v])) ∧ wd15.heap.size ≤ wz.heap.size) ⟨⟨ButS.grownV HS1.out hgrow (fun k hk => by simp [hk])⟩, ⟨blk_grownR B1.out O1.out hgrow (by first | (intro hq; have := (O1.out.lt _ hq).1; omega) | (intro hq; simp [Value.ownBlock] at hq; omega) | (intro hq; have := hgl _ hq; omega))⟩, ⟨(MemAt.grown M1.out O1.out hgrow hBb hDb)⟩, ⟨blk_grownR d1.out O1.out hgrow (by first | (intro hq; have := (O1.out.lt _ hq).1; omega) | (intro hq; simp [Value.ownBlock] at hq; omega) | (intro hq; have := hgl _ hq; omega))⟩, ⟨hown⟩, hgrow.size⟩ (sx_of2 ((ButB.grownX (And.left hHeld) hgrow hq0))) (fun wd16 hRn hHn => ?_)
        clear hK K hHeld HS1 B1 M1 d1 O1 qa hown hgrow hat hlt hws hgl
        obtain ⟨HS1, B1, M1, d1, O1, hsz16⟩ := hRn
        have hHeld := hHn
        clear hHn
        try simp only [Act.put, ls0, ls1, ls2]
        try simp only [Nat.zero_add]
        refine wrd [11] ?_
        refine (arc rfl (fun K hK => ?_) arn)
        have sd := cbk B1.out 0 (.slice da dn dc) rfl
        have sf := frozen_blk B1.out 0
        have sl := blk_lt B1.out
        go_simp
        try go_wp2_with fail
        refine out_gen hK _ _ (fun wz : World => Kp (ButS (DB :: (Value.slice da dn dc).ownBlock.toList) w wz) ∧ Kp (wz.heap[DB]? = some (.cells #[.slice (some ⟨g, 0, none⟩) (dn + 1) cap] 44 (0, 0))) ∧ Kp (MemAt wz B D ws) ∧ Kp (wz.heap[w.heap.size + 1]? = some (.cells #[.bool false, .int .i64 0, .slice none 0 0, .bool false, .int .i64 0, .bool false, .bool false, .bool false, .int .i64 0] 64 (0, 0))) ∧ Kp (wz.ownsRow (bs) 41 1 (.slice (some ⟨g, 0, none⟩) (dn + 1) cap) (dn + 1) (u32s l ++ [.int .u32 v])) ∧ wd16.heap.size ≤ wz.heap.size) ⟨⟨ButS.set' HS1.out (p := ⟨DB, 0, none⟩) (by first | (left; simp; done) | (right; show _ ≤ DB; omega)) _⟩, ⟨(blk_set B1.out 0 _).trans rfl⟩, ⟨MemAt.setne M1.out (p := ⟨DB, 0, none⟩) (by show B ≠ DB; omega) (by show D ≠ DB; omega) _⟩, ⟨blk_set_ne (p := ⟨DB, 0, none⟩) d1.out (by show w.heap.size + 1 ≠ DB; omega) _⟩, ⟨own_set_ne O1.out (p := ⟨DB, 0, none⟩) (by show DB < bs; omega) _⟩, (by simp [World.setCell])⟩ (sx_of2 (ButB.set (And.left hHeld) (p := ⟨DB, 0, none⟩) (by first | (left; simp; done) | (right; show _ ≤ DB; omega)) _)) (fun wd17 hRn hHn => ?_)
        clear hK K hHeld HS1 B1 M1 d1 O1 sd sf sl
        obtain ⟨HS1, B1, M1, d1, O1, hsz17⟩ := hRn
        have hHeld := hHn
        clear hHn
        try simp only [Act.put, ls0, ls1, ls2]
        refine wpAnyH_done (by kernel_rfl) ?_ _
        clear hHeld
        have HOW : Kp (wd17.ownsRow bs 41 1 (.slice (some ⟨g, 0, none⟩) (dn + 1) cap) (dn + 1) (u32s (l ++ [v]))) := ⟨HUL.out ▸ O1.out⟩
        have hgbs := (HOW.out.lt g rfl).1
        have hgD : g ≠ w.heap.size + 1 := by
          rintro rfl
          obtain ⟨_, ⟨h, _⟩ | ⟨g', c', cur, h, _, hh, _⟩⟩ := HOW.out
          · cases h
          · cases h
            rw [d1.out] at hh
            simp at hh
        have dc0 := cbk d1.out 0 (.bool false) rfl
        have df0 := frozen_blk d1.out 0
        have dc1 := cbk d1.out 1 (.int .i64 0) rfl
        have df1 := frozen_blk d1.out 1
        have dc2 := cbk d1.out 2 (.slice none 0 0) rfl
        have df2 := frozen_blk d1.out 2
        have dc3 := cbk d1.out 3 (.bool false) rfl
        have df3 := frozen_blk d1.out 3
        have dc4 := cbk d1.out 4 (.int .i64 0) rfl
        have df4 := frozen_blk d1.out 4
        have dc5 := cbk d1.out 5 (.bool false) rfl
        have df5 := frozen_blk d1.out 5
        have dc6 := cbk d1.out 6 (.bool false) rfl
        have df6 := frozen_blk d1.out 6
        have dc7 := cbk d1.out 7 (.bool false) rfl
        have df7 := frozen_blk d1.out 7
        have dc8 := cbk d1.out 8 (.int .i64 0) rfl
        have df8 := frozen_blk d1.out 8
        have ddl := blk_lt d1.out
        go_wp2
        exact bodyPost_ret (v := .agg #[.bool false, .int .i64 0, .slice none 0 0, .bool false, .int .i64 0, .bool false, .bool false, .bool false, .int .i64 0]) (results_cell_row rfl _ _ _ _ _ _ _ rfl ((blk_set (blk_set (blk_set (blk_set (blk_set (blk_set (blk_set (blk_set (blk_set d1.out 0 (.bool false)) 1 (.int .i64 0)) 2 (.slice none 0 0)) 3 (.bool false)) 4 (.int .i64 0)) 5 (.bool false)) 6 (.bool false)) 7 (.bool false)) 8 (.int .i64 0)).trans rfl) Tryz.underlying64 rfl (by kernel_rfl)) rfl ⟨g, cap, rfl, (MemAt.setne (MemAt.setne (MemAt.setne (MemAt.setne (MemAt.setne (MemAt.setne (MemAt.setne (MemAt.setne (MemAt.setne M1.out (p := ⟨w.heap.size + 1, 0, none⟩) (by show B ≠ w.heap.size + 1; omega) (by show D ≠ w.heap.size + 1; omega) (.bool false)) (p := ⟨w.heap.size + 1, 1, none⟩) (by show B ≠ w.heap.size + 1; omega) (by show D ≠ w.heap.size + 1; omega) (.int .i64 0)) (p := ⟨w.heap.size + 1, 2, none⟩) (by show B ≠ w.heap.size + 1; omega) (by show D ≠ w.heap.size + 1; omega) (.slice none 0 0)) (p := ⟨w.heap.size + 1, 3, none⟩) (by show B ≠ w.heap.size + 1; omega) (by show D ≠ w.heap.size + 1; omega) (.bool false)) (p := ⟨w.heap.size + 1, 4, none⟩) (by show B ≠ w.heap.size + 1; omega) (by show D ≠ w.heap.size + 1; omega) (.int .i64 0)) (p := ⟨w.heap.size + 1, 5, none⟩) (by show B ≠ w.heap.size + 1; omega) (by show D ≠ w.heap.size + 1; omega) (.bool false)) (p := ⟨w.heap.size + 1, 6, none⟩) (by show B ≠ w.heap.size + 1; omega) (by show D ≠ w.heap.size + 1; omega) (.bool false)) (p := ⟨w.heap.size + 1, 7, none⟩) (by show B ≠ w.heap.size + 1; omega) (by show D ≠ w.heap.size + 1; omega) (.bool false)) (p := ⟨w.heap.size + 1, 8, none⟩) (by show B ≠ w.heap.size + 1; omega) (by show D ≠ w.heap.size + 1; omega) (.int .i64 0)), (blk_set_ne (p := ⟨w.heap.size + 1, 8, none⟩) (blk_set_ne (p := ⟨w.heap.size + 1, 7, none⟩) (blk_set_ne (p := ⟨w.heap.size + 1, 6, none⟩) (blk_set_ne (p := ⟨w.heap.size + 1, 5, none⟩) (blk_set_ne (p := ⟨w.heap.size + 1, 4, none⟩) (blk_set_ne (p := ⟨w.heap.size + 1, 3, none⟩) (blk_set_ne (p := ⟨w.heap.size + 1, 2, none⟩) (blk_set_ne (p := ⟨w.heap.size + 1, 1, none⟩) (blk_set_ne (p := ⟨w.heap.size + 1, 0, none⟩) B1.out (by show DB ≠ w.heap.size + 1; omega) (.bool false)) (by show DB ≠ w.heap.size + 1; omega) (.int .i64 0)) (by show DB ≠ w.heap.size + 1; omega) (.slice none 0 0)) (by show DB ≠ w.heap.size + 1; omega) (.bool false)) (by show DB ≠ w.heap.size + 1; omega) (.int .i64 0)) (by show DB ≠ w.heap.size + 1; omega) (.bool false)) (by show DB ≠ w.heap.size + 1; omega) (.bool false)) (by show DB ≠ w.heap.size + 1; omega) (.bool false)) (by show DB ≠ w.heap.size + 1; omega) (.int .i64 0)), (own_set_blk (own_set_blk (own_set_blk (own_set_blk (own_set_blk (own_set_blk (own_set_blk (own_set_blk (own_set_blk HOW.out (p := ⟨w.heap.size + 1, 0, none⟩) (by show g ≠ w.heap.size + 1; exact hgD) (.bool false)) (p := ⟨w.heap.size + 1, 1, none⟩) (by show g ≠ w.heap.size + 1; exact hgD) (.int .i64 0)) (p := ⟨w.heap.size + 1, 2, none⟩) (by show g ≠ w.heap.size + 1; exact hgD) (.slice none 0 0)) (p := ⟨w.heap.size + 1, 3, none⟩) (by show g ≠ w.heap.size + 1; exact hgD) (.bool false)) (p := ⟨w.heap.size + 1, 4, none⟩) (by show g ≠ w.heap.size + 1; exact hgD) (.int .i64 0)) (p := ⟨w.heap.size + 1, 5, none⟩) (by show g ≠ w.heap.size + 1; exact hgD) (.bool false)) (p := ⟨w.heap.size + 1, 6, none⟩) (by show g ≠ w.heap.size + 1; exact hgD) (.bool false)) (p := ⟨w.heap.size + 1, 7, none⟩) (by show g ≠ w.heap.size + 1; exact hgD) (.bool false)) (p := ⟨w.heap.size + 1, 8, none⟩) (by show g ≠ w.heap.size + 1; exact hgD) (.int .i64 0)), (ButS.set' (ButS.set' (ButS.set' (ButS.set' (ButS.set' (ButS.set' (ButS.set' (ButS.set' (ButS.set' HS1.out (p := ⟨w.heap.size + 1, 0, none⟩) (by right; show w.heap.size ≤ w.heap.size + 1; omega) (.bool false)) (p := ⟨w.heap.size + 1, 1, none⟩) (by right; show w.heap.size ≤ w.heap.size + 1; omega) (.int .i64 0)) (p := ⟨w.heap.size + 1, 2, none⟩) (by right; show w.heap.size ≤ w.heap.size + 1; omega) (.slice none 0 0)) (p := ⟨w.heap.size + 1, 3, none⟩) (by right; show w.heap.size ≤ w.heap.size + 1; omega) (.bool false)) (p := ⟨w.heap.size + 1, 4, none⟩) (by right; show w.heap.size ≤ w.heap.size + 1; omega) (.int .i64 0)) (p := ⟨w.heap.size + 1, 5, none⟩) (by right; show w.heap.size ≤ w.heap.size + 1; omega) (.bool false)) (p := ⟨w.heap.size + 1, 6, none⟩) (by right; show w.heap.size ≤ w.heap.size + 1; omega) (.bool false)) (p := ⟨w.heap.size + 1, 7, none⟩) (by right; show w.heap.size ≤ w.heap.size + 1; omega) (.bool false)) (p := ⟨w.heap.size + 1, 8, none⟩) (by right; show w.heap.size ≤ w.heap.size + 1; omega) (.int .i64 0)), hat2⟩
      · have ge_qa : w1.heap.size ≤ wd13.heap.size := (And.left hHeld).size
        go_simp
        try go_wp2_with fail
        refine out_gen hK _ _ (fun wz : World => Kp (ButS (DB :: (Value.slice da dn dc).ownBlock.toList) w wz) ∧ Kp (wz.heap[DB]? = some (.cells #[.slice da dn dc] 44 (0, 0))) ∧ Kp (MemAt wz B D ws) ∧ Kp (wz.heap[w.heap.size + 1]? = some (.cells #[.bool false, .int .i64 0, .slice none 0 0, .bool false, .int .i64 0, .bool false, .bool false, .bool false, .int .i64 0] 64 (0, 0))) ∧ Kp (wz.ownsRow (bs) 41 1 (.slice da dn dc) (dn) (u32s l)) ∧ Kp (wz.heap[wd13.heap.size]? = some (.cells #[.int .u32 v] 41 (0, 0))) ∧ wd13.heap.size < wz.heap.size) ⟨⟨ButS.al HS1.out _⟩, ⟨blk_al B1.out _⟩, ⟨M1.out.al _⟩, ⟨blk_al d1.out _⟩, ⟨O1.out.alloc _⟩, ⟨blk_new wd13 _⟩, (by simp)⟩ (sx_of2 (ButB.al (And.left hHeld) _)) (fun wd18 hRn hHn => ?_)
        clear hK K hHeld HS1 B1 M1 d1 O1
        obtain ⟨HS1, B1, M1, d1, O1, qa, hsz18⟩ := hRn
        have hHeld := hHn
        clear hHn
        try simp only [Act.put, ls0, ls1, ls2]
        have lt_qa := blk_lt qa.out
        refine wrd [0] ?_
        refine (arc rfl (fun K hK => ?_) arn)
        have sd0 := cbk B1.out 0 (.slice da dn dc) rfl
        have sl := blk_lt B1.out
        go_simp
        try go_wp2_with fail
        refine out_gen hK _ _ (fun wz : World => Kp (ButS (DB :: (Value.slice da dn dc).ownBlock.toList) w wz) ∧ Kp (wz.heap[DB]? = some (.cells #[.slice da dn dc] 44 (0, 0))) ∧ Kp (MemAt wz B D ws) ∧ Kp (wz.heap[w.heap.size + 1]? = some (.cells #[.bool false, .int .i64 0, .slice none 0 0, .bool false, .int .i64 0, .bool false, .bool false, .bool false, .int .i64 0] 64 (0, 0))) ∧ Kp (wz.ownsRow (bs) 41 1 (.slice da dn dc) (dn) (u32s l)) ∧ Kp (wz.heap[wd13.heap.size]? = some (.cells #[.int .u32 v] 41 (0, 0))) ∧ wd18.heap.size ≤ wz.heap.size) ⟨⟨HS1.out⟩, ⟨B1.out⟩, ⟨M1.out⟩, ⟨d1.out⟩, ⟨O1.out⟩, ⟨qa.out⟩, Nat.le_refl _⟩ (sx_of2 ((And.left hHeld))) (fun wd19 hRn hHn => ?_)
        clear hK K hHeld HS1 B1 M1 d1 O1 qa  sd0 sl
        obtain ⟨HS1, B1, M1, d1, O1, qa, hsz19⟩ := hRn
        have hHeld := hHn
        clear hHn
        try simp only [Act.put, ls0, ls1, ls2]
        refine wrd [10] ?_
        refine (arc rfl (fun K hK => ?_) arn)
        have hgl := HGL.out
        have hws := (And.left hHeld).size
        refine step_append_lies _ (by rfl) _ _ 44 (by rfl) (bs) 41 i0 (.int .u32 0) 1 4 Tryz.underlying44 hi0 hz0 hz1 hz2 (by rfl) (by decide) _ _ _ (by rfl) O1.out _ 1 _ [.int .u32 v] (by rfl) rfl (World.news_of_block qa.out) (by simp [Value.oneCell']) (by omega) (by unfold maxLen; omega) (by omega) (by have := hws; omega) _ rfl ?_
        intro g cap w9 hown hgrow hat hlt
        have hat2 : (Value.slice da dn dc).ownBlock = some g ∨ w.heap.size < g := by rcases hat with hh | hh; exact .inl hh; right; omega
        refine out_gen hK _ _ (fun wz : World => Kp (ButS (DB :: (Value.slice da dn dc).ownBlock.toList) w wz) ∧ Kp (wz.heap[DB]? = some (.cells #[.slice da dn dc] 44 (0, 0))) ∧ Kp (MemAt wz B D ws) ∧ Kp (wz.heap[w.heap.size + 1]? = some (.cells #[.bool false, .int .i64 0, .slice none 0 0, .bool false, .int .i64 0, .bool false, .bool false, .bool false, .int .i64 0] 64 (0, 0))) ∧ Kp (wz.ownsRow (bs) 41 1 (.slice (some ⟨g, 0, none⟩) (dn + 1) cap) (dn + 1) (u32s l ++ [.int .u32 v])) ∧ wd19.heap.size ≤ wz.heap.size) ⟨⟨ButS.grownV HS1.out hgrow (fun k hk => by simp [hk])⟩, ⟨blk_grownR B1.out O1.out hgrow (by first | (intro hq; have := (O1.out.lt _ hq).1; omega) | (intro hq; simp [Value.ownBlock] at hq; omega) | (intro hq; have := hgl _ hq; omega))⟩, ⟨(MemAt.grown M1.out O1.out hgrow hBb hDb)⟩, ⟨blk_grownR d1.out O1.out hgrow (by first | (intro hq; have := (O1.out.lt _ hq).1; omega) | (intro hq; simp [Value.ownBlock] at hq; omega) | (intro hq; have := hgl _ hq; omega))⟩, ⟨hown⟩, hgrow.size⟩ (sx_of2 ((ButB.grownX (And.left hHeld) hgrow hq0))) (fun wd20 hRn hHn => ?_)
        clear hK K hHeld HS1 B1 M1 d1 O1 qa hown hgrow hat hlt hws hgl
        obtain ⟨HS1, B1, M1, d1, O1, hsz20⟩ := hRn
        have hHeld := hHn
        clear hHn
        try simp only [Act.put, ls0, ls1, ls2]
        try simp only [Nat.zero_add]
        refine wrd [11] ?_
        refine (arc rfl (fun K hK => ?_) arn)
        have sd := cbk B1.out 0 (.slice da dn dc) rfl
        have sf := frozen_blk B1.out 0
        have sl := blk_lt B1.out
        go_simp
        try go_wp2_with fail
        refine out_gen hK _ _ (fun wz : World => Kp (ButS (DB :: (Value.slice da dn dc).ownBlock.toList) w wz) ∧ Kp (wz.heap[DB]? = some (.cells #[.slice (some ⟨g, 0, none⟩) (dn + 1) cap] 44 (0, 0))) ∧ Kp (MemAt wz B D ws) ∧ Kp (wz.heap[w.heap.size + 1]? = some (.cells #[.bool false, .int .i64 0, .slice none 0 0, .bool false, .int .i64 0, .bool false, .bool false, .bool false, .int .i64 0] 64 (0, 0))) ∧ Kp (wz.ownsRow (bs) 41 1 (.slice (some ⟨g, 0, none⟩) (dn + 1) cap) (dn + 1) (u32s l ++ [.int .u32 v])) ∧ wd20.heap.size ≤ wz.heap.size) ⟨⟨ButS.set' HS1.out (p := ⟨DB, 0, none⟩) (by first | (left; simp; done) | (right; show _ ≤ DB; omega)) _⟩, ⟨(blk_set B1.out 0 _).trans rfl⟩, ⟨MemAt.setne M1.out (p := ⟨DB, 0, none⟩) (by show B ≠ DB; omega) (by show D ≠ DB; omega) _⟩, ⟨blk_set_ne (p := ⟨DB, 0, none⟩) d1.out (by show w.heap.size + 1 ≠ DB; omega) _⟩, ⟨own_set_ne O1.out (p := ⟨DB, 0, none⟩) (by show DB < bs; omega) _⟩, (by simp [World.setCell])⟩ (sx_of2 (ButB.set (And.left hHeld) (p := ⟨DB, 0, none⟩) (by first | (left; simp; done) | (right; show _ ≤ DB; omega)) _)) (fun wd21 hRn hHn => ?_)
        clear hK K hHeld HS1 B1 M1 d1 O1 sd sf sl
        obtain ⟨HS1, B1, M1, d1, O1, hsz21⟩ := hRn
        have hHeld := hHn
        clear hHn
        try simp only [Act.put, ls0, ls1, ls2]
        refine wpAnyH_done (by kernel_rfl) ?_ _
        clear hHeld
        have HOW : Kp (wd21.ownsRow bs 41 1 (.slice (some ⟨g, 0, none⟩) (dn + 1) cap) (dn + 1) (u32s (l ++ [v]))) := ⟨HUL.out ▸ O1.out⟩
        have hgbs := (HOW.out.lt g rfl).1
        have hgD : g ≠ w.heap.size + 1 := by
          rintro rfl
          obtain ⟨_, ⟨h, _⟩ | ⟨g', c', cur, h, _, hh, _⟩⟩ := HOW.out
          · cases h
          · cases h
            rw [d1.out] at hh
            simp at hh
        have dc0 := cbk d1.out 0 (.bool false) rfl
        have df0 := frozen_blk d1.out 0
        have dc1 := cbk d1.out 1 (.int .i64 0) rfl
        have df1 := frozen_blk d1.out 1
        have dc2 := cbk d1.out 2 (.slice none 0 0) rfl
        have df2 := frozen_blk d1.out 2
        have dc3 := cbk d1.out 3 (.bool false) rfl
        have df3 := frozen_blk d1.out 3
        have dc4 := cbk d1.out 4 (.int .i64 0) rfl
        have df4 := frozen_blk d1.out 4
        have dc5 := cbk d1.out 5 (.bool false) rfl
        have df5 := frozen_blk d1.out 5
        have dc6 := cbk d1.out 6 (.bool false) rfl
        have df6 := frozen_blk d1.out 6
        have dc7 := cbk d1.out 7 (.bool false) rfl
        have df7 := frozen_blk d1.out 7
        have dc8 := cbk d1.out 8 (.int .i64 0) rfl
        have df8 := frozen_blk d1.out 8
        have ddl := blk_lt d1.out
        go_wp2
        exact bodyPost_ret (v := .agg #[.bool false, .int .i64 0, .slice none 0 0, .bool false, .int .i64 0, .bool false, .bool false, .bool false, .int .i64 0]) (results_cell_row rfl _ _ _ _ _ _ _ rfl ((blk_set (blk_set (blk_set (blk_set (blk_set (blk_set (blk_set (blk_set (blk_set d1.out 0 (.bool false)) 1 (.int .i64 0)) 2 (.slice none 0 0)) 3 (.bool false)) 4 (.int .i64 0)) 5 (.bool false)) 6 (.bool false)) 7 (.bool false)) 8 (.int .i64 0)).trans rfl) Tryz.underlying64 rfl (by kernel_rfl)) rfl ⟨g, cap, rfl, (MemAt.setne (MemAt.setne (MemAt.setne (MemAt.setne (MemAt.setne (MemAt.setne (MemAt.setne (MemAt.setne (MemAt.setne M1.out (p := ⟨w.heap.size + 1, 0, none⟩) (by show B ≠ w.heap.size + 1; omega) (by show D ≠ w.heap.size + 1; omega) (.bool false)) (p := ⟨w.heap.size + 1, 1, none⟩) (by show B ≠ w.heap.size + 1; omega) (by show D ≠ w.heap.size + 1; omega) (.int .i64 0)) (p := ⟨w.heap.size + 1, 2, none⟩) (by show B ≠ w.heap.size + 1; omega) (by show D ≠ w.heap.size + 1; omega) (.slice none 0 0)) (p := ⟨w.heap.size + 1, 3, none⟩) (by show B ≠ w.heap.size + 1; omega) (by show D ≠ w.heap.size + 1; omega) (.bool false)) (p := ⟨w.heap.size + 1, 4, none⟩) (by show B ≠ w.heap.size + 1; omega) (by show D ≠ w.heap.size + 1; omega) (.int .i64 0)) (p := ⟨w.heap.size + 1, 5, none⟩) (by show B ≠ w.heap.size + 1; omega) (by show D ≠ w.heap.size + 1; omega) (.bool false)) (p := ⟨w.heap.size + 1, 6, none⟩) (by show B ≠ w.heap.size + 1; omega) (by show D ≠ w.heap.size + 1; omega) (.bool false)) (p := ⟨w.heap.size + 1, 7, none⟩) (by show B ≠ w.heap.size + 1; omega) (by show D ≠ w.heap.size + 1; omega) (.bool false)) (p := ⟨w.heap.size + 1, 8, none⟩) (by show B ≠ w.heap.size + 1; omega) (by show D ≠ w.heap.size + 1; omega) (.int .i64 0)), (blk_set_ne (p := ⟨w.heap.size + 1, 8, none⟩) (blk_set_ne (p := ⟨w.heap.size + 1, 7, none⟩) (blk_set_ne (p := ⟨w.heap.size + 1, 6, none⟩) (blk_set_ne (p := ⟨w.heap.size + 1, 5, none⟩) (blk_set_ne (p := ⟨w.heap.size + 1, 4, none⟩) (blk_set_ne (p := ⟨w.heap.size + 1, 3, none⟩) (blk_set_ne (p := ⟨w.heap.size + 1, 2, none⟩) (blk_set_ne (p := ⟨w.heap.size + 1, 1, none⟩) (blk_set_ne (p := ⟨w.heap.size + 1, 0, none⟩) B1.out (by show DB ≠ w.heap.size + 1; omega) (.bool false)) (by show DB ≠ w.heap.size + 1; omega) (.int .i64 0)) (by show DB ≠ w.heap.size + 1; omega) (.slice none 0 0)) (by show DB ≠ w.heap.size + 1; omega) (.bool false)) (by show DB ≠ w.heap.size + 1; omega) (.int .i64 0)) (by show DB ≠ w.heap.size + 1; omega) (.bool false)) (by show DB ≠ w.heap.size + 1; omega) (.bool false)) (by show DB ≠ w.heap.size + 1; omega) (.bool false)) (by show DB ≠ w.heap.size + 1; omega) (.int .i64 0)), (own_set_blk (own_set_blk (own_set_blk (own_set_blk (own_set_blk (own_set_blk (own_set_blk (own_set_blk (own_set_blk HOW.out (p := ⟨w.heap.size + 1, 0, none⟩) (by show g ≠ w.heap.size + 1; exact hgD) (.bool false)) (p := ⟨w.heap.size + 1, 1, none⟩) (by show g ≠ w.heap.size + 1; exact hgD) (.int .i64 0)) (p := ⟨w.heap.size + 1, 2, none⟩) (by show g ≠ w.heap.size + 1; exact hgD) (.slice none 0 0)) (p := ⟨w.heap.size + 1, 3, none⟩) (by show g ≠ w.heap.size + 1; exact hgD) (.bool false)) (p := ⟨w.heap.size + 1, 4, none⟩) (by show g ≠ w.heap.size + 1; exact hgD) (.int .i64 0)) (p := ⟨w.heap.size + 1, 5, none⟩) (by show g ≠ w.heap.size + 1; exact hgD) (.bool false)) (p := ⟨w.heap.size + 1, 6, none⟩) (by show g ≠ w.heap.size + 1; exact hgD) (.bool false)) (p := ⟨w.heap.size + 1, 7, none⟩) (by show g ≠ w.heap.size + 1; exact hgD) (.bool false)) (p := ⟨w.heap.size + 1, 8, none⟩) (by show g ≠ w.heap.size + 1; exact hgD) (.int .i64 0)), (ButS.set' (ButS.set' (ButS.set' (ButS.set' (ButS.set' (ButS.set' (ButS.set' (ButS.set' (ButS.set' HS1.out (p := ⟨w.heap.size + 1, 0, none⟩) (by right; show w.heap.size ≤ w.heap.size + 1; omega) (.bool false)) (p := ⟨w.heap.size + 1, 1, none⟩) (by right; show w.heap.size ≤ w.heap.size + 1; omega) (.int .i64 0)) (p := ⟨w.heap.size + 1, 2, none⟩) (by right; show w.heap.size ≤ w.heap.size + 1; omega) (.slice none 0 0)) (p := ⟨w.heap.size + 1, 3, none⟩) (by right; show w.heap.size ≤ w.heap.size + 1; omega) (.bool false)) (p := ⟨w.heap.size + 1, 4, none⟩) (by right; show w.heap.size ≤ w.heap.size + 1; omega) (.int .i64 0)) (p := ⟨w.heap.size + 1, 5, none⟩) (by right; show w.heap.size ≤ w.heap.size + 1; omega) (.bool false)) (p := ⟨w.heap.size + 1, 6, none⟩) (by right; show w.heap.size ≤ w.heap.size + 1; omega) (.bool false)) (p := ⟨w.heap.size + 1, 7, none⟩) (by right; show w.heap.size ≤ w.heap.size + 1; omega) (.bool false)) (p := ⟨w.heap.size + 1, 8, none⟩) (by right; show w.heap.size ≤ w.heap.size + 1; omega) (.int .i64 0)), hat2⟩
end Go.Proofs.YtmidcnfmphlneaaGreat

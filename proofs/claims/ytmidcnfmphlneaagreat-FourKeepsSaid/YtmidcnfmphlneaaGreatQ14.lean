/- Contracts of package four: the reader's steps. -/
import Derived.Test.YtmidcnfmphlneaaGreatQ12
namespace Go.Proofs.YtmidcnfmphlneaaGreat
open Go.RowKit
set_option linter.unusedSimpArgs false
set_option linter.unusedVariables false
set_option maxRecDepth 100000 in
set_option maxHeartbeats 4000000 in
theorem latest_any (p : Plc) (hp : p.low) (R B D : Nat) (ws : List Int) (x y : Int) (lf sp : Int) (da : Option Addr) (dn dc : Nat) (nx : Value) (now : Int) (hi : p.In ws.length) (hws : Words ws) (w : World) (hW : w.heap[R]? = some (.cells #[.int .i64 p.src, .int .i64 p.rd, .int .i64 p.words, .int .i64 p.period, .int .u32 x, .int .u32 y, .int .i64 lf, .int .u32 sp, .slice da dn dc, nx] 119 (0, 0))) (h : MemAt w B D ws) : Calls Tryz.prog 54 #[.pointer (some ⟨R, 0, none⟩), .pointer (some ⟨B, 0, none⟩), .int .i64 now] w fun e w' =>
    e = .returned (.tuple #[.agg #[.bool false, .int .i64 0, .slice none 0 0, .bool false, .int .i64 0, .bool false, .bool false, .bool false, .int .i64 0], .func (.func 85) #[.pointer (some ⟨R, 0, none⟩)] #[]]) ∧ w'.heap[R]? = some (.cells #[.int .i64 p.src, .int .i64 p.rd, .int .i64 p.words, .int .i64 p.period, .int .u32 (ldW ws p.src % 2), .int .u32 y, .int .i64 lf, .int .u32 sp, .slice da dn dc, nx] 119 (0, 0)) ∧ MemAt w' B D (ws) ∧ ButS [R, D] w w' := by
  have HM := Kp.mk h
  have HW := Kp.mk hW
  have lW := blk_lt hW
  have lD := blk_lt h.words
  have lB := blk_lt h.head
  have hWD : R ≠ D := by
    rintro rfl
    rw [h.words] at hW
    simp at hW
  have hWB : R ≠ B := by
    rintro rfl
    rw [h.head] at hW
    simp at hW
  have hBD := h.ne
  have hWr : R ≠ w.heap.size := by omega
  have hDr : D ≠ w.heap.size := by omega
  have hBr : B ≠ w.heap.size := by omega
  clear h hW
  obtain ⟨v, hv⟩ : ∃ v, ldW ws (p.src) = v := ⟨_, rfl⟩
  have hvw := ldW_word hws (p.src)
  rw [hv] at hvw ⊢
  have HV := Kp.mk hv
  have hb1 := and_one_u32 v hvw.1 hvw.2
  have hb2 : (1 - v % 2) % 4294967296 = 1 - v % 2 := by omega
  have hb3 : IntKind.u32.wrap (1 - v % 2) = 1 - v % 2 := IntWalk.u32_in _ (by omega)
  clear hv hvw
  have h1 := src_in hp hi
  have c0 := cbk HW.out 0 (.int .i64 p.src) rfl
  have c1 := cbk HW.out 1 (.int .i64 p.rd) rfl
  have c2 := cbk HW.out 2 (.int .i64 p.words) rfl
  have c3 := cbk HW.out 3 (.int .i64 p.period) rfl
  have c4 := cbk HW.out 4 (.int .u32 x) rfl
  have c5 := cbk HW.out 5 (.int .u32 y) rfl
  have c6 := cbk HW.out 6 (.int .i64 lf) rfl
  have c7 := cbk HW.out 7 (.int .u32 sp) rfl
  have c8 := cbk HW.out 8 (.slice da dn dc) rfl
  have c9 := cbk HW.out 9 (nx) rfl
  have cf4 := frozen_blk HW.out 4
  have cl := blk_lt HW.out
  clear hws
  go_enter Tryz.func54, Tryz.ntmps54
  go_wp2_with fail
  refine (fload_any B D ws (p.src) h1.1 h1.2 _ (HM.out.al _)).mono ?_
  rw [HV.out]
  rintro e w9 ⟨rfl, rfl⟩
  go_wp2
  (try simp only [Exit.inBlock, Exit.then])
  refine bodyPost_ret (v := .tuple #[.agg #[.bool false, .int .i64 0, .slice none 0 0, .bool false, .int .i64 0, .bool false, .bool false, .bool false, .int .i64 0], .func (.func 85) #[.pointer (some ⟨R, 0, none⟩)] #[]]) ?_ rfl ?_
  · refine (results_row_tmp (fn := Tryz.f54) (p := 6) (u := 7) (ty := 64) rfl _ _ w.heap.size 64 #[.bool false, .int .i64 0, .slice none 0 0, .bool false, .int .i64 0, .bool false, .bool false, .bool false, .int .i64 0] (0, 0) _ (by go_simp) (blk_at (w := w.setCell ⟨R, 4, none⟩ _) (by simp [World.setCell]) _) Tryz.underlying64 rfl (by kernel_rfl)).trans ?_
    rfl
  · exact ⟨rfl, blk_al ((blk_set HW.out 4 _).trans rfl) _, (HM.out.setne (p := ⟨R, 4, none⟩) (by show B ≠ R; omega) (by show D ≠ R; omega) _).al _, (ButS.set (ButS.refl [R, D] w) (p := ⟨R, 4, none⟩) (by simp) _).trans (ButS.of_below (below_al (Below.refl _ _) _))⟩
set_option maxRecDepth 100000 in
set_option maxHeartbeats 4000000 in
theorem tell_any (p : Plc) (hp : p.low) (R B D : Nat) (ws : List Int) (x y : Int) (lf sp : Int) (da : Option Addr) (dn dc : Nat) (nx : Value) (now : Int) (hi : p.In ws.length) (hws : Words ws) (hx : bit x) (w : World) (hW : w.heap[R]? = some (.cells #[.int .i64 p.src, .int .i64 p.rd, .int .i64 p.words, .int .i64 p.period, .int .u32 x, .int .u32 y, .int .i64 lf, .int .u32 sp, .slice da dn dc, nx] 119 (0, 0))) (h : MemAt w B D ws) : Calls Tryz.prog 85 #[.pointer (some ⟨R, 0, none⟩), .pointer (some ⟨B, 0, none⟩), .int .i64 now] w fun e w' =>
    e = .returned (.tuple #[.agg #[.bool false, .int .i64 0, .slice none 0 0, .bool false, .int .i64 0, .bool false, .bool false, .bool false, .int .i64 0], .func (.func 101) #[.pointer (some ⟨R, 0, none⟩)] #[]]) ∧ w'.heap[R]? = some (.cells #[.int .i64 p.src, .int .i64 p.rd, .int .i64 p.words, .int .i64 p.period, .int .u32 x, .int .u32 y, .int .i64 lf, .int .u32 sp, .slice da dn dc, nx] 119 (0, 0)) ∧ MemAt w' B D (stW ws p.rd x) ∧ ButS [R, D] w w' := by
  have HM := Kp.mk h
  have HW := Kp.mk hW
  have lW := blk_lt hW
  have lD := blk_lt h.words
  have lB := blk_lt h.head
  have hWD : R ≠ D := by
    rintro rfl
    rw [h.words] at hW
    simp at hW
  have hWB : R ≠ B := by
    rintro rfl
    rw [h.head] at hW
    simp at hW
  have hBD := h.ne
  have hWr : R ≠ w.heap.size := by omega
  have hDr : D ≠ w.heap.size := by omega
  have hBr : B ≠ w.heap.size := by omega
  clear h hW
  have h0 := hp.rd.1
  have h1 := hi.rd
  clear hws
  go_enter Tryz.func85, Tryz.ntmps85
  have HB0 : Kp (Below w.heap.size w w) := ⟨Below.refl _ _⟩
  go_wp2_with fail
  have r1 : Kp ((w.alloc (.cells #[.bool false, .int .i64 0, .slice none 0 0, .bool false, .int .i64 0, .bool false, .bool false, .bool false, .int .i64 0] 64)).heap[w.heap.size]? = some (.cells #[.bool false, .int .i64 0, .slice none 0 0, .bool false, .int .i64 0, .bool false, .bool false, .bool false, .int .i64 0] 64 (0, 0))) := ⟨(blk_new _ _)⟩
  have HB1 : Kp (Below w.heap.size w (w.alloc (.cells #[.bool false, .int .i64 0, .slice none 0 0, .bool false, .int .i64 0, .bool false, .bool false, .bool false, .int .i64 0] 64))) := ⟨(below_al HB0.out _)⟩
  have W1 : Kp ((w.alloc (.cells #[.bool false, .int .i64 0, .slice none 0 0, .bool false, .int .i64 0, .bool false, .bool false, .bool false, .int .i64 0] 64)).heap[R]? = some (.cells #[.int .i64 p.src, .int .i64 p.rd, .int .i64 p.words, .int .i64 p.period, .int .u32 x, .int .u32 y, .int .i64 lf, .int .u32 sp, .slice da dn dc, nx] 119 (0, 0))) := ⟨(blk_al HW.out _)⟩
  have M1 : Kp (MemAt (w.alloc (.cells #[.bool false, .int .i64 0, .slice none 0 0, .bool false, .int .i64 0, .bool false, .bool false, .bool false, .int .i64 0] 64)) B D (ws)) := ⟨(HM.out.below (below_al (Below.refl _ _) _))⟩
  clear HB0 HW HM
  generalize (w.alloc (.cells #[.bool false, .int .i64 0, .slice none 0 0, .bool false, .int .i64 0, .bool false, .bool false, .bool false, .int .i64 0] 64)) = w1 at r1 HB1 W1 M1 ⊢
  have HS1 : Kp (ButS [R, D] w w1) := ⟨ButS.of_below HB1.out⟩
  have hsz0 : w.heap.size < w1.heap.size := blk_lt r1.out
  have c0 := cbk W1.out 0 (.int .i64 p.src) rfl
  have c1 := cbk W1.out 1 (.int .i64 p.rd) rfl
  have c2 := cbk W1.out 2 (.int .i64 p.words) rfl
  have c3 := cbk W1.out 3 (.int .i64 p.period) rfl
  have c4 := cbk W1.out 4 (.int .u32 x) rfl
  have c5 := cbk W1.out 5 (.int .u32 y) rfl
  have c6 := cbk W1.out 6 (.int .i64 lf) rfl
  have c7 := cbk W1.out 7 (.int .u32 sp) rfl
  have c8 := cbk W1.out 8 (.slice da dn dc) rfl
  have c9 := cbk W1.out 9 (nx) rfl
  have cl := blk_lt W1.out
  refine held_start_gen (S := (fun w' : World => ButB (w1.heap.size) [D] w1 w' ∧ ∀ bb o, bb < w1.heap.size → bb ≠ D → w'.cell? ⟨bb, o, none⟩ = w1.cell? ⟨bb, o, none⟩)) (by kernel_rfl) (fun wz : World => Kp (ButS [R, D] w wz) ∧ Kp (wz.heap[R]? = some (.cells #[.int .i64 p.src, .int .i64 p.rd, .int .i64 p.words, .int .i64 p.period, .int .u32 x, .int .u32 y, .int .i64 lf, .int .u32 sp, .slice da dn dc, nx] 119 (0, 0))) ∧ Kp (MemAt wz B D (ws)) ∧ Kp (wz.heap[w.heap.size]? = some (.cells #[.bool false, .int .i64 0, .slice none 0 0, .bool false, .int .i64 0, .bool false, .bool false, .bool false, .int .i64 0] 64 (0, 0))) ∧ w1.heap.size ≤ wz.heap.size) ⟨⟨ButS.dr HS1.out⟩, ⟨blk_dr W1.out⟩, ⟨(M1.out.below (below_dr (Below.refl _ _)))⟩, ⟨blk_dr r1.out⟩, Nat.le_refl _⟩ (sx_of1 (ButB.dr (ButB.refl _ (by omega)))) (fun wd0 hRn hHeld => ?_)
  clear HS1 W1 M1 r1
  obtain ⟨HS1, W1, M1, r1, hsz⟩ := hRn
  refine wtk 0 ?_ rfl (.inl ⟨by rfl, ?_⟩) ?_
  rotate_left 1
  · (intro w hSw; go_simp; try with_reducible rfl)
  try simp only [Act.put, ls0, ls1, ls2]
  refine wtk 1 ?_ rfl (.inl ⟨by rfl, ?_⟩) ?_
  rotate_left 1
  · (intro w hSw; go_simp; try with_reducible rfl)
  try simp only [Act.put, ls0, ls1, ls2]
  refine wtk 2 ?_ rfl (.inl ⟨by rfl, ?_⟩) ?_
  rotate_left 1
  · (intro w hSw; go_simp; try with_reducible rfl)
  try simp only [Act.put, ls0, ls1, ls2]
  refine wtk 3 ?_ rfl (.inl ⟨by rfl, ?_⟩) ?_
  rotate_left 1
  · (intro w hSw; go_simp; try with_reducible rfl)
  try simp only [Act.put, ls0, ls1, ls2]
  refine wtk 4 ?_ rfl (.inl ⟨by rfl, ?_⟩) ?_
  rotate_left 1
  · (intro w hSw; go_simp; try with_reducible rfl)
  try simp only [Act.put, ls0, ls1, ls2]
  refine wtk 5 ?_ rfl (.inl ⟨by rfl, ?_⟩) ?_
  rotate_left 1
  · (intro w hSw; go_simp; try with_reducible rfl)
  try simp only [Act.put, ls0, ls1, ls2]
  refine wtk 6 ?_ rfl (.inl ⟨by rfl, ?_⟩) ?_
  rotate_left 1
  · (intro w hSw; go_simp; try with_reducible rfl)
  try simp only [Act.put, ls0, ls1, ls2]
  refine wtk 7 ?_ rfl (.inl ⟨by rfl, ?_⟩) ?_
  rotate_left 1
  · (intro w hSw; go_simp; try with_reducible rfl)
  try simp only [Act.put, ls0, ls1, ls2]
  refine wtk 8 ?_ rfl (.inl ⟨by rfl, ?_⟩) ?_
  rotate_left 1
  · (intro w hSw; go_simp; try with_reducible rfl)
  try simp only [Act.put, ls0, ls1, ls2]
  refine wtk 9 ?_ rfl (.inl ⟨by rfl, ?_⟩) ?_
  rotate_left 1
  · (intro w hSw; go_simp; try with_reducible rfl)
  try simp only [Act.put, ls0, ls1, ls2]
  refine wrd [10] ?_
  refine (arc rfl (fun K hK => ?_) arn)
  go_simp
  go_at_call 100
  refine (fstore_any B D (ws) (p.rd) (x) h0 h1 _ M1.out).mono ?_
  rintro e w9 ⟨⟨rr, rfl⟩, rfl⟩
  try go_wp2_with fail
  refine out_gen hK _ _ (fun wz : World => Kp (ButS [R, D] w wz) ∧ Kp (wz.heap[R]? = some (.cells #[.int .i64 p.src, .int .i64 p.rd, .int .i64 p.words, .int .i64 p.period, .int .u32 x, .int .u32 y, .int .i64 lf, .int .u32 sp, .slice da dn dc, nx] 119 (0, 0))) ∧ Kp (MemAt wz B D (stW (ws) (p.rd) (x))) ∧ Kp (wz.heap[w.heap.size]? = some (.cells #[.bool false, .int .i64 0, .slice none 0 0, .bool false, .int .i64 0, .bool false, .bool false, .bool false, .int .i64 0] 64 (0, 0))) ∧ wd0.heap.size ≤ wz.heap.size) ⟨⟨ButS.set' HS1.out (p := ⟨D, (p.rd).toNat, none⟩) (by first | (left; simp; done) | (right; show _ ≤ D; omega)) _⟩, ⟨blk_set_ne (p := ⟨D, (p.rd).toNat, none⟩) W1.out (by show R ≠ D; omega) _⟩, ⟨MemAt.st M1.out _ _⟩, ⟨blk_set_ne (p := ⟨D, (p.rd).toNat, none⟩) r1.out (by show w.heap.size ≠ D; omega) _⟩, (by simp [World.setCell])⟩ (sx_of1 (ButB.set (And.left hHeld) (p := ⟨D, (p.rd).toNat, none⟩) (by first | (left; simp; done) | (right; show _ ≤ D; omega)) _)) (fun wd1 hRn hHn => ?_)
  clear hK K hHeld HS1 W1 M1 r1
  obtain ⟨HS1, W1, M1, r1, hsz1⟩ := hRn
  have hHeld := hHn
  clear hHn
  try simp only [Act.put, ls0, ls1, ls2]
  refine wpAnyH_done (by kernel_rfl) ?_ _
  clear c0 c1 c2 c3 c4 c5 c6 c7 c8 c9 cl
  have q0 := cbk r1.out 0 (.bool false) rfl
  have q1 := cbk r1.out 1 (.int .i64 0) rfl
  have q2 := cbk r1.out 2 (.slice none 0 0) rfl
  have q3 := cbk r1.out 3 (.bool false) rfl
  have q4 := cbk r1.out 4 (.int .i64 0) rfl
  have q5 := cbk r1.out 5 (.bool false) rfl
  have q6 := cbk r1.out 6 (.bool false) rfl
  have q7 := cbk r1.out 7 (.bool false) rfl
  have q8 := cbk r1.out 8 (.int .i64 0) rfl
  have qf0 := frozen_blk r1.out 0
  have qf1 := frozen_blk r1.out 1
  have qf2 := frozen_blk r1.out 2
  have qf3 := frozen_blk r1.out 3
  have qf4 := frozen_blk r1.out 4
  have qf5 := frozen_blk r1.out 5
  have qf6 := frozen_blk r1.out 6
  have qf7 := frozen_blk r1.out 7
  have qf8 := frozen_blk r1.out 8
  have ql := blk_lt r1.out
  have u0 := cbk W1.out 0 (.int .i64 p.src) rfl
  have u1 := cbk W1.out 1 (.int .i64 p.rd) rfl
  have u2 := cbk W1.out 2 (.int .i64 p.words) rfl
  have u3 := cbk W1.out 3 (.int .i64 p.period) rfl
  have u4 := cbk W1.out 4 (.int .u32 x) rfl
  have u5 := cbk W1.out 5 (.int .u32 y) rfl
  have u6 := cbk W1.out 6 (.int .i64 lf) rfl
  have u7 := cbk W1.out 7 (.int .u32 sp) rfl
  have u8 := cbk W1.out 8 (.slice da dn dc) rfl
  have u9 := cbk W1.out 9 (nx) rfl
  have ul := blk_lt W1.out
  go_wp2
  refine bodyPost_ret (v := .tuple #[.agg #[.bool false, .int .i64 0, .slice none 0 0, .bool false, .int .i64 0, .bool false, .bool false, .bool false, .int .i64 0], .func (.func 101) #[.pointer (some ⟨R, 0, none⟩)] #[]]) ?_ rfl ?_
  · refine (results_row_tmp (fn := Tryz.f85) (p := 6) (u := 7) (ty := 64) rfl _ _ w.heap.size 64 #[.bool false, .int .i64 0, .slice none 0 0, .bool false, .int .i64 0, .bool false, .bool false, .bool false, .int .i64 0] (0, 0) _ (by go_simp) ((blk_set (blk_set (blk_set (blk_set (blk_set (blk_set (blk_set (blk_set (blk_set r1.out 0 _) 1 _) 2 _) 3 _) 4 _) 5 _) 6 _) 7 _) 8 _).trans (by rfl)) Tryz.underlying64 rfl (by kernel_rfl)).trans ?_
    rfl
  · exact ⟨rfl, (blk_set_ne (p := ⟨w.heap.size, 8, none⟩) (blk_set_ne (p := ⟨w.heap.size, 7, none⟩) (blk_set_ne (p := ⟨w.heap.size, 6, none⟩) (blk_set_ne (p := ⟨w.heap.size, 5, none⟩) (blk_set_ne (p := ⟨w.heap.size, 4, none⟩) (blk_set_ne (p := ⟨w.heap.size, 3, none⟩) (blk_set_ne (p := ⟨w.heap.size, 2, none⟩) (blk_set_ne (p := ⟨w.heap.size, 1, none⟩) (blk_set_ne (p := ⟨w.heap.size, 0, none⟩) W1.out (by show R ≠ w.heap.size; omega) _) (by show R ≠ w.heap.size; omega) _) (by show R ≠ w.heap.size; omega) _) (by show R ≠ w.heap.size; omega) _) (by show R ≠ w.heap.size; omega) _) (by show R ≠ w.heap.size; omega) _) (by show R ≠ w.heap.size; omega) _) (by show R ≠ w.heap.size; omega) _) (by show R ≠ w.heap.size; omega) _), (MemAt.setne (MemAt.setne (MemAt.setne (MemAt.setne (MemAt.setne (MemAt.setne (MemAt.setne (MemAt.setne (MemAt.setne M1.out (p := ⟨w.heap.size, 0, none⟩) (by show B ≠ w.heap.size; omega) (by show D ≠ w.heap.size; omega) _) (p := ⟨w.heap.size, 1, none⟩) (by show B ≠ w.heap.size; omega) (by show D ≠ w.heap.size; omega) _) (p := ⟨w.heap.size, 2, none⟩) (by show B ≠ w.heap.size; omega) (by show D ≠ w.heap.size; omega) _) (p := ⟨w.heap.size, 3, none⟩) (by show B ≠ w.heap.size; omega) (by show D ≠ w.heap.size; omega) _) (p := ⟨w.heap.size, 4, none⟩) (by show B ≠ w.heap.size; omega) (by show D ≠ w.heap.size; omega) _) (p := ⟨w.heap.size, 5, none⟩) (by show B ≠ w.heap.size; omega) (by show D ≠ w.heap.size; omega) _) (p := ⟨w.heap.size, 6, none⟩) (by show B ≠ w.heap.size; omega) (by show D ≠ w.heap.size; omega) _) (p := ⟨w.heap.size, 7, none⟩) (by show B ≠ w.heap.size; omega) (by show D ≠ w.heap.size; omega) _) (p := ⟨w.heap.size, 8, none⟩) (by show B ≠ w.heap.size; omega) (by show D ≠ w.heap.size; omega) _), (ButS.set' (ButS.set' (ButS.set' (ButS.set' (ButS.set' (ButS.set' (ButS.set' (ButS.set' (ButS.set' HS1.out (p := ⟨w.heap.size, 0, none⟩) (.inr (Nat.le_refl _)) _) (p := ⟨w.heap.size, 1, none⟩) (.inr (Nat.le_refl _)) _) (p := ⟨w.heap.size, 2, none⟩) (.inr (Nat.le_refl _)) _) (p := ⟨w.heap.size, 3, none⟩) (.inr (Nat.le_refl _)) _) (p := ⟨w.heap.size, 4, none⟩) (.inr (Nat.le_refl _)) _) (p := ⟨w.heap.size, 5, none⟩) (.inr (Nat.le_refl _)) _) (p := ⟨w.heap.size, 6, none⟩) (.inr (Nat.le_refl _)) _) (p := ⟨w.heap.size, 7, none⟩) (.inr (Nat.le_refl _)) _) (p := ⟨w.heap.size, 8, none⟩) (.inr (Nat.le_refl _)) _)⟩
set_option maxRecDepth 100000 in
set_option maxHeartbeats 4000000 in
theorem newer_any (p : Plc) (hp : p.low) (R B D : Nat) (ws : List Int) (x y : Int) (lf sp : Int) (da : Option Addr) (dn dc : Nat) (nx : Value) (now : Int) (hi : p.In ws.length) (hws : Words ws) (hx : bit x) (w : World) (hW : w.heap[R]? = some (.cells #[.int .i64 p.src, .int .i64 p.rd, .int .i64 p.words, .int .i64 p.period, .int .u32 x, .int .u32 y, .int .i64 lf, .int .u32 sp, .slice da dn dc, nx] 119 (0, 0))) (h : MemAt w B D ws) : Calls Tryz.prog 101 #[.pointer (some ⟨R, 0, none⟩), .pointer (some ⟨B, 0, none⟩), .int .i64 now] w fun e w' =>
    e = .returned (.tuple #[.agg #[.bool false, .int .i64 0, .slice none 0 0, .bool false, .int .i64 0, .bool false, .bool false, .bool false, .int .i64 0], .func (.func 110) #[.pointer (some ⟨R, 0, none⟩)] #[]]) ∧ w'.heap[R]? = some (.cells #[.int .i64 p.src, .int .i64 p.rd, .int .i64 p.words, .int .i64 p.period, .int .u32 x, .int .u32 (ldW ws (p.slot x) % 2), .int .i64 lf, .int .u32 sp, .slice da dn dc, nx] 119 (0, 0)) ∧ MemAt w' B D (ws) ∧ ButS [R, D] w w' := by
  have HM := Kp.mk h
  have HW := Kp.mk hW
  have lW := blk_lt hW
  have lD := blk_lt h.words
  have lB := blk_lt h.head
  have hWD : R ≠ D := by
    rintro rfl
    rw [h.words] at hW
    simp at hW
  have hWB : R ≠ B := by
    rintro rfl
    rw [h.head] at hW
    simp at hW
  have hBD := h.ne
  have hWr : R ≠ w.heap.size := by omega
  have hDr : D ≠ w.heap.size := by omega
  have hBr : B ≠ w.heap.size := by omega
  clear h hW
  obtain ⟨v, hv⟩ : ∃ v, ldW ws (p.slot x) = v := ⟨_, rfl⟩
  have hvw := ldW_word hws (p.slot x)
  rw [hv] at hvw ⊢
  have HV := Kp.mk hv
  have hb1 := and_one_u32 v hvw.1 hvw.2
  have hb2 : (1 - v % 2) % 4294967296 = 1 - v % 2 := by omega
  have hb3 : IntKind.u32.wrap (1 - v % 2) = 1 - v % 2 := IntWalk.u32_in _ (by omega)
  clear hv hvw
  have h1 := slot_in hp hi x hx
  clear hws
  go_enter Tryz.func101, Tryz.ntmps101
  have HB0 : Kp (Below w.heap.size w w) := ⟨Below.refl _ _⟩
  go_wp2_with fail
  have r1 : Kp ((w.alloc (.cells #[.bool false, .int .i64 0, .slice none 0 0, .bool false, .int .i64 0, .bool false, .bool false, .bool false, .int .i64 0] 64)).heap[w.heap.size]? = some (.cells #[.bool false, .int .i64 0, .slice none 0 0, .bool false, .int .i64 0, .bool false, .bool false, .bool false, .int .i64 0] 64 (0, 0))) := ⟨(blk_new _ _)⟩
  have HB1 : Kp (Below w.heap.size w (w.alloc (.cells #[.bool false, .int .i64 0, .slice none 0 0, .bool false, .int .i64 0, .bool false, .bool false, .bool false, .int .i64 0] 64))) := ⟨(below_al HB0.out _)⟩
  have W1 : Kp ((w.alloc (.cells #[.bool false, .int .i64 0, .slice none 0 0, .bool false, .int .i64 0, .bool false, .bool false, .bool false, .int .i64 0] 64)).heap[R]? = some (.cells #[.int .i64 p.src, .int .i64 p.rd, .int .i64 p.words, .int .i64 p.period, .int .u32 x, .int .u32 y, .int .i64 lf, .int .u32 sp, .slice da dn dc, nx] 119 (0, 0))) := ⟨(blk_al HW.out _)⟩
  have M1 : Kp (MemAt (w.alloc (.cells #[.bool false, .int .i64 0, .slice none 0 0, .bool false, .int .i64 0, .bool false, .bool false, .bool false, .int .i64 0] 64)) B D (ws)) := ⟨(HM.out.below (below_al (Below.refl _ _) _))⟩
  clear HB0 HW HM
  generalize (w.alloc (.cells #[.bool false, .int .i64 0, .slice none 0 0, .bool false, .int .i64 0, .bool false, .bool false, .bool false, .int .i64 0] 64)) = w1 at r1 HB1 W1 M1 ⊢
  have HS1 : Kp (ButS [R, D] w w1) := ⟨ButS.of_below HB1.out⟩
  have hsz0 : w.heap.size < w1.heap.size := blk_lt r1.out
  have c0 := cbk W1.out 0 (.int .i64 p.src) rfl
  have c1 := cbk W1.out 1 (.int .i64 p.rd) rfl
  have c2 := cbk W1.out 2 (.int .i64 p.words) rfl
  have c3 := cbk W1.out 3 (.int .i64 p.period) rfl
  have c4 := cbk W1.out 4 (.int .u32 x) rfl
  have c5 := cbk W1.out 5 (.int .u32 y) rfl
  have c6 := cbk W1.out 6 (.int .i64 lf) rfl
  have c7 := cbk W1.out 7 (.int .u32 sp) rfl
  have c8 := cbk W1.out 8 (.slice da dn dc) rfl
  have c9 := cbk W1.out 9 (nx) rfl
  have cl := blk_lt W1.out
  have HX0 : Kp (w1.heap[R]? = some (.cells #[.int .i64 p.src, .int .i64 p.rd, .int .i64 p.words, .int .i64 p.period, .int .u32 x, .int .u32 y, .int .i64 lf, .int .u32 sp, .slice da dn dc, nx] 119 (0, 0))) := ⟨W1.out⟩
  refine held_start_gen (S := (fun w' : World => ButB (w1.heap.size) [R] w1 w' ∧ (∀ bb o, bb < w1.heap.size → bb ≠ R → w'.cell? ⟨bb, o, none⟩ = w1.cell? ⟨bb, o, none⟩) ∧ ∀ o, o ≠ 5 → w'.cell? ⟨R, o, none⟩ = w1.cell? ⟨R, o, none⟩)) (by kernel_rfl) (fun wz : World => Kp (ButS [R, D] w wz) ∧ Kp (wz.heap[R]? = some (.cells #[.int .i64 p.src, .int .i64 p.rd, .int .i64 p.words, .int .i64 p.period, .int .u32 x, .int .u32 y, .int .i64 lf, .int .u32 sp, .slice da dn dc, nx] 119 (0, 0))) ∧ Kp (MemAt wz B D (ws)) ∧ Kp (wz.heap[w.heap.size]? = some (.cells #[.bool false, .int .i64 0, .slice none 0 0, .bool false, .int .i64 0, .bool false, .bool false, .bool false, .int .i64 0] 64 (0, 0))) ∧ w1.heap.size ≤ wz.heap.size) ⟨⟨ButS.dr HS1.out⟩, ⟨blk_dr W1.out⟩, ⟨(M1.out.below (below_dr (Below.refl _ _)))⟩, ⟨blk_dr r1.out⟩, Nat.le_refl _⟩ (sx3 (sx_of1 (ButB.dr (ButB.refl _ (by omega)))) (xc_of HX0.out (blk_dr W1.out) 5 (fun _ _ => rfl))) (fun wd0 hRn hHeld => ?_)
  clear HS1 W1 M1 r1
  obtain ⟨HS1, W1, M1, r1, hsz⟩ := hRn
  refine wtk 0 ?_ rfl (.inl ⟨by rfl, ?_⟩) ?_
  rotate_left 1
  · (intro w hSw; go_simp; try with_reducible rfl)
  try simp only [Act.put, ls0, ls1, ls2]
  refine wtk 1 ?_ rfl (.inl ⟨by rfl, ?_⟩) ?_
  rotate_left 1
  · (intro w hSw; go_simp; try with_reducible rfl)
  try simp only [Act.put, ls0, ls1, ls2]
  refine wtk 2 ?_ rfl (.inl ⟨by rfl, ?_⟩) ?_
  rotate_left 1
  · (intro w hSw; go_simp; try with_reducible rfl)
  try simp only [Act.put, ls0, ls1, ls2]
  refine wtk 3 ?_ rfl (.inl ⟨by rfl, ?_⟩) ?_
  rotate_left 1
  · (intro w hSw; go_simp; try with_reducible rfl)
  try simp only [Act.put, ls0, ls1, ls2]
  refine wtk 4 ?_ rfl (.inl ⟨by rfl, ?_⟩) ?_
  rotate_left 1
  · (intro w hSw; go_simp; try with_reducible rfl)
  try simp only [Act.put, ls0, ls1, ls2]
  refine wtk 5 ?_ rfl (.inl ⟨by rfl, ?_⟩) ?_
  rotate_left 1
  · (intro w hSw; go_simp; try with_reducible rfl)
  try simp only [Act.put, ls0, ls1, ls2]
  refine wtk 6 ?_ rfl (.inl ⟨by rfl, ?_⟩) ?_
  rotate_left 1
  · (intro w hSw; go_simp; try with_reducible rfl)
  try simp only [Act.put, ls0, ls1, ls2]
  refine wtk 7 ?_ rfl (.inl ⟨by rfl, ?_⟩) ?_
  rotate_left 1
  · (intro w hSw; go_simp; try with_reducible rfl)
  try simp only [Act.put, ls0, ls1, ls2]
  refine wtk 8 ?_ rfl (.inl ⟨by rfl, ?_⟩) ?_
  rotate_left 1
  · (intro w hSw; go_simp; try with_reducible rfl)
  try simp only [Act.put, ls0, ls1, ls2]
  refine wtk 9 ?_ rfl (.inl ⟨by rfl, ?_⟩) ?_
  rotate_left 1
  · (intro w hSw; go_simp; try with_reducible rfl)
  try simp only [Act.put, ls0, ls1, ls2]
  refine wrd [10] ?_
  refine (arc rfl (fun K hK => ?_) arn)
  go_simp
  go_at_call 98
  refine (slot_any p hp x hx _).mono ?_
  rintro e w9 ⟨rfl, hb⟩
  try go_wp2_with fail
  refine out_gen hK _ _ (fun wz : World => Kp (ButS [R, D] w wz) ∧ Kp (wz.heap[R]? = some (.cells #[.int .i64 p.src, .int .i64 p.rd, .int .i64 p.words, .int .i64 p.period, .int .u32 x, .int .u32 y, .int .i64 lf, .int .u32 sp, .slice da dn dc, nx] 119 (0, 0))) ∧ Kp (MemAt wz B D (ws)) ∧ Kp (wz.heap[w.heap.size]? = some (.cells #[.bool false, .int .i64 0, .slice none 0 0, .bool false, .int .i64 0, .bool false, .bool false, .bool false, .int .i64 0] 64 (0, 0))) ∧ wd0.heap.size ≤ wz.heap.size) ⟨⟨ButS.trans HS1.out (ButS.of_below hb)⟩, ⟨blk_below W1.out hb⟩, ⟨(M1.out.below hb)⟩, ⟨blk_below r1.out hb⟩, hb.size⟩ (sx3 (sx_of1 (ButB.call (And.left hHeld) hb)) (xc_of HX0.out (blk_below W1.out hb) 5 (fun _ _ => rfl))) (fun wd1 hRn hHn => ?_)
  clear hK K hHeld HS1 W1 M1 r1 hb
  obtain ⟨HS1, W1, M1, r1, hsz1⟩ := hRn
  have hHeld := hHn
  clear hHn
  try simp only [Act.put, ls0, ls1, ls2]
  refine wrd [11] ?_
  refine (arc rfl (fun K hK => ?_) arn)
  go_simp
  go_at_call 83
  refine (fload_any B D ws (p.slot x) h1.1 h1.2 _ M1.out).mono ?_
  rw [HV.out]
  rintro e w9 ⟨rfl, hw9⟩
  have hw8 := hw9.symm
  clear hw9
  subst hw8
  have hb : Below wd1.heap.size wd1 wd1 := Below.refl _ _
  try go_wp2_with fail
  refine out_gen hK _ _ (fun wz : World => Kp (ButS [R, D] w wz) ∧ Kp (wz.heap[R]? = some (.cells #[.int .i64 p.src, .int .i64 p.rd, .int .i64 p.words, .int .i64 p.period, .int .u32 x, .int .u32 y, .int .i64 lf, .int .u32 sp, .slice da dn dc, nx] 119 (0, 0))) ∧ Kp (MemAt wz B D (ws)) ∧ Kp (wz.heap[w.heap.size]? = some (.cells #[.bool false, .int .i64 0, .slice none 0 0, .bool false, .int .i64 0, .bool false, .bool false, .bool false, .int .i64 0] 64 (0, 0))) ∧ wd1.heap.size ≤ wz.heap.size) ⟨⟨ButS.trans HS1.out (ButS.of_below hb)⟩, ⟨blk_below W1.out hb⟩, ⟨(M1.out.below hb)⟩, ⟨blk_below r1.out hb⟩, hb.size⟩ (sx3 (sx_of1 (ButB.call (And.left hHeld) hb)) (xc_of HX0.out (blk_below W1.out hb) 5 (fun _ _ => rfl))) (fun wd2 hRn hHn => ?_)
  clear hK K hHeld HS1 W1 M1 r1 hb
  obtain ⟨HS1, W1, M1, r1, hsz2⟩ := hRn
  have hHeld := hHn
  clear hHn
  try simp only [Act.put, ls0, ls1, ls2]
  refine wtk 12 ?_ rfl (.inl ⟨by rfl, ?_⟩) ?_
  rotate_left 1
  · (intro w hSw; go_simp; try with_reducible rfl)
  try simp only [Act.put, ls0, ls1, ls2]
  refine wtk 13 ?_ rfl (.inl ⟨by rfl, ?_⟩) ?_
  rotate_left 1
  · (intro w hSw; go_simp; try with_reducible rfl)
  try simp only [Act.put, ls0, ls1, ls2]
  refine wtk 14 ?_ rfl (.inl ⟨by rfl, ?_⟩) ?_
  rotate_left 1
  · (intro w hSw; go_simp; try with_reducible rfl)
  try simp only [Act.put, ls0, ls1, ls2]
  refine wrd [15] ?_
  refine (arc rfl (fun K hK => ?_) arn)
  have sd := cbk W1.out 5 (.int .u32 y) rfl
  have sf := frozen_blk W1.out 5
  have sl := blk_lt W1.out
  go_simp
  try go_wp2_with fail
  refine out_gen hK _ _ (fun wz : World => Kp (ButS [R, D] w wz) ∧ Kp (wz.heap[R]? = some (.cells #[.int .i64 p.src, .int .i64 p.rd, .int .i64 p.words, .int .i64 p.period, .int .u32 x, .int .u32 (v % 2), .int .i64 lf, .int .u32 sp, .slice da dn dc, nx] 119 (0, 0))) ∧ Kp (MemAt wz B D (ws)) ∧ Kp (wz.heap[w.heap.size]? = some (.cells #[.bool false, .int .i64 0, .slice none 0 0, .bool false, .int .i64 0, .bool false, .bool false, .bool false, .int .i64 0] 64 (0, 0))) ∧ wd2.heap.size ≤ wz.heap.size) ⟨⟨ButS.set' HS1.out (p := ⟨R, 5, none⟩) (by first | (left; simp; done) | (right; show _ ≤ R; omega)) _⟩, ⟨(blk_set W1.out 5 _).trans rfl⟩, ⟨MemAt.setne M1.out (p := ⟨R, 5, none⟩) (by show B ≠ R; omega) (by show D ≠ R; omega) _⟩, ⟨blk_set_ne (p := ⟨R, 5, none⟩) r1.out (by show w.heap.size ≠ R; omega) _⟩, (by simp [World.setCell])⟩ (sx3 (sx_of1 (ButB.set (And.left hHeld) (p := ⟨R, 5, none⟩) (by first | (left; simp; done) | (right; show _ ≤ R; omega)) _)) (xc_of HX0.out ((blk_set W1.out 5 _).trans rfl) 5 (xc_ne (cs := #[.int .i64 p.src, .int .i64 p.rd, .int .i64 p.words, .int .i64 p.period, .int .u32 x, .int .u32 y, .int .i64 lf, .int .u32 sp, .slice da dn dc, nx]) 5 (.int .u32 (v % 2))))) (fun wd3 hRn hHn => ?_)
  clear hK K hHeld HS1 W1 M1 r1 sd sf sl
  obtain ⟨HS1, W1, M1, r1, hsz3⟩ := hRn
  have hHeld := hHn
  clear hHn
  try simp only [Act.put, ls0, ls1, ls2]
  refine wpAnyH_done (by kernel_rfl) ?_ _
  clear HX0
  clear c0 c1 c2 c3 c4 c5 c6 c7 c8 c9 cl
  have q0 := cbk r1.out 0 (.bool false) rfl
  have q1 := cbk r1.out 1 (.int .i64 0) rfl
  have q2 := cbk r1.out 2 (.slice none 0 0) rfl
  have q3 := cbk r1.out 3 (.bool false) rfl
  have q4 := cbk r1.out 4 (.int .i64 0) rfl
  have q5 := cbk r1.out 5 (.bool false) rfl
  have q6 := cbk r1.out 6 (.bool false) rfl
  have q7 := cbk r1.out 7 (.bool false) rfl
  have q8 := cbk r1.out 8 (.int .i64 0) rfl
  have qf0 := frozen_blk r1.out 0
  have qf1 := frozen_blk r1.out 1
  have qf2 := frozen_blk r1.out 2
  have qf3 := frozen_blk r1.out 3
  have qf4 := frozen_blk r1.out 4
  have qf5 := frozen_blk r1.out 5
  have qf6 := frozen_blk r1.out 6
  have qf7 := frozen_blk r1.out 7
  have qf8 := frozen_blk r1.out 8
  have ql := blk_lt r1.out
  have u0 := cbk W1.out 0 (.int .i64 p.src) rfl
  have u1 := cbk W1.out 1 (.int .i64 p.rd) rfl
  have u2 := cbk W1.out 2 (.int .i64 p.words) rfl
  have u3 := cbk W1.out 3 (.int .i64 p.period) rfl
  have u4 := cbk W1.out 4 (.int .u32 x) rfl
  have u5 := cbk W1.out 5 (.int .u32 (v % 2)) rfl
  have u6 := cbk W1.out 6 (.int .i64 lf) rfl
  have u7 := cbk W1.out 7 (.int .u32 sp) rfl
  have u8 := cbk W1.out 8 (.slice da dn dc) rfl
  have u9 := cbk W1.out 9 (nx) rfl
  have ul := blk_lt W1.out
  go_wp2
  refine bodyPost_ret (v := .tuple #[.agg #[.bool false, .int .i64 0, .slice none 0 0, .bool false, .int .i64 0, .bool false, .bool false, .bool false, .int .i64 0], .func (.func 110) #[.pointer (some ⟨R, 0, none⟩)] #[]]) ?_ rfl ?_
  · refine (results_row_tmp (fn := Tryz.f101) (p := 6) (u := 7) (ty := 64) rfl _ _ w.heap.size 64 #[.bool false, .int .i64 0, .slice none 0 0, .bool false, .int .i64 0, .bool false, .bool false, .bool false, .int .i64 0] (0, 0) _ (by go_simp) ((blk_set (blk_set (blk_set (blk_set (blk_set (blk_set (blk_set (blk_set (blk_set r1.out 0 _) 1 _) 2 _) 3 _) 4 _) 5 _) 6 _) 7 _) 8 _).trans (by rfl)) Tryz.underlying64 rfl (by kernel_rfl)).trans ?_
    rfl
  · exact ⟨rfl, (blk_set_ne (p := ⟨w.heap.size, 8, none⟩) (blk_set_ne (p := ⟨w.heap.size, 7, none⟩) (blk_set_ne (p := ⟨w.heap.size, 6, none⟩) (blk_set_ne (p := ⟨w.heap.size, 5, none⟩) (blk_set_ne (p := ⟨w.heap.size, 4, none⟩) (blk_set_ne (p := ⟨w.heap.size, 3, none⟩) (blk_set_ne (p := ⟨w.heap.size, 2, none⟩) (blk_set_ne (p := ⟨w.heap.size, 1, none⟩) (blk_set_ne (p := ⟨w.heap.size, 0, none⟩) W1.out (by show R ≠ w.heap.size; omega) _) (by show R ≠ w.heap.size; omega) _) (by show R ≠ w.heap.size; omega) _) (by show R ≠ w.heap.size; omega) _) (by show R ≠ w.heap.size; omega) _) (by show R ≠ w.heap.size; omega) _) (by show R ≠ w.heap.size; omega) _) (by show R ≠ w.heap.size; omega) _) (by show R ≠ w.heap.size; omega) _), (MemAt.setne (MemAt.setne (MemAt.setne (MemAt.setne (MemAt.setne (MemAt.setne (MemAt.setne (MemAt.setne (MemAt.setne M1.out (p := ⟨w.heap.size, 0, none⟩) (by show B ≠ w.heap.size; omega) (by show D ≠ w.heap.size; omega) _) (p := ⟨w.heap.size, 1, none⟩) (by show B ≠ w.heap.size; omega) (by show D ≠ w.heap.size; omega) _) (p := ⟨w.heap.size, 2, none⟩) (by show B ≠ w.heap.size; omega) (by show D ≠ w.heap.size; omega) _) (p := ⟨w.heap.size, 3, none⟩) (by show B ≠ w.heap.size; omega) (by show D ≠ w.heap.size; omega) _) (p := ⟨w.heap.size, 4, none⟩) (by show B ≠ w.heap.size; omega) (by show D ≠ w.heap.size; omega) _) (p := ⟨w.heap.size, 5, none⟩) (by show B ≠ w.heap.size; omega) (by show D ≠ w.heap.size; omega) _) (p := ⟨w.heap.size, 6, none⟩) (by show B ≠ w.heap.size; omega) (by show D ≠ w.heap.size; omega) _) (p := ⟨w.heap.size, 7, none⟩) (by show B ≠ w.heap.size; omega) (by show D ≠ w.heap.size; omega) _) (p := ⟨w.heap.size, 8, none⟩) (by show B ≠ w.heap.size; omega) (by show D ≠ w.heap.size; omega) _), (ButS.set' (ButS.set' (ButS.set' (ButS.set' (ButS.set' (ButS.set' (ButS.set' (ButS.set' (ButS.set' HS1.out (p := ⟨w.heap.size, 0, none⟩) (.inr (Nat.le_refl _)) _) (p := ⟨w.heap.size, 1, none⟩) (.inr (Nat.le_refl _)) _) (p := ⟨w.heap.size, 2, none⟩) (.inr (Nat.le_refl _)) _) (p := ⟨w.heap.size, 3, none⟩) (.inr (Nat.le_refl _)) _) (p := ⟨w.heap.size, 4, none⟩) (.inr (Nat.le_refl _)) _) (p := ⟨w.heap.size, 5, none⟩) (.inr (Nat.le_refl _)) _) (p := ⟨w.heap.size, 6, none⟩) (.inr (Nat.le_refl _)) _) (p := ⟨w.heap.size, 7, none⟩) (.inr (Nat.le_refl _)) _) (p := ⟨w.heap.size, 8, none⟩) (.inr (Nat.le_refl _)) _)⟩
set_option maxRecDepth 100000 in
set_option maxHeartbeats 4000000 in
theorem when_any (p : Plc) (hp : p.low) (R B D : Nat) (ws : List Int) (x y : Int) (lf sp : Int) (da : Option Addr) (dn dc : Nat) (nx : Value) (now : Int) (hi : p.In ws.length) (hws : Words ws) (hx : bit x) (hy : bit y) (w : World) (hW : w.heap[R]? = some (.cells #[.int .i64 p.src, .int .i64 p.rd, .int .i64 p.words, .int .i64 p.period, .int .u32 x, .int .u32 y, .int .i64 lf, .int .u32 sp, .slice da dn dc, nx] 119 (0, 0))) (h : MemAt w B D ws) : Calls Tryz.prog 113 #[.pointer (some ⟨R, 0, none⟩), .pointer (some ⟨B, 0, none⟩), .int .i64 now] w fun e w' =>
    e = .returned (.tuple #[.agg #[.bool false, .int .i64 0, .slice none 0 0, .bool false, .int .i64 0, .bool false, .bool false, .bool false, .int .i64 0], .func (.func 116) #[.pointer (some ⟨R, 0, none⟩)] #[]]) ∧ w'.heap[R]? = some (.cells #[.int .i64 p.src, .int .i64 p.rd, .int .i64 p.words, .int .i64 p.period, .int .u32 x, .int .u32 y, .int .i64 lf, .int .u32 (ldW ws (p.buf x y + 1)), .slice da dn dc, nx] 119 (0, 0)) ∧ MemAt w' B D (ws) ∧ ButS [R, D] w w' := by
  have HM := Kp.mk h
  have HW := Kp.mk hW
  have lW := blk_lt hW
  have lD := blk_lt h.words
  have lB := blk_lt h.head
  have hWD : R ≠ D := by
    rintro rfl
    rw [h.words] at hW
    simp at hW
  have hWB : R ≠ B := by
    rintro rfl
    rw [h.head] at hW
    simp at hW
  have hBD := h.ne
  have hWr : R ≠ w.heap.size := by omega
  have hDr : D ≠ w.heap.size := by omega
  have hBr : B ≠ w.heap.size := by omega
  clear h hW
  obtain ⟨v, hv⟩ : ∃ v, ldW ws (p.buf x y + 1) = v := ⟨_, rfl⟩
  have hvw := ldW_word hws (p.buf x y + 1)
  rw [hv] at hvw ⊢
  have HV := Kp.mk hv
  have hb1 := and_one_u32 v hvw.1 hvw.2
  have hb2 : (1 - v % 2) % 4294967296 = 1 - v % 2 := by omega
  have hb3 : IntKind.u32.wrap (1 - v % 2) = 1 - v % 2 := IntWalk.u32_in _ (by omega)
  clear hv hvw
  have h1 := buf_in hp hi x y hx hy 1 (by omega) (by have := hp.words; omega)
  have n1 : IntKind.i64.wrap (p.buf x y + 1) = p.buf x y + 1 := IntWalk.i64_in _ (by omega)
  clear hws
  go_enter Tryz.func113, Tryz.ntmps113
  have HB0 : Kp (Below w.heap.size w w) := ⟨Below.refl _ _⟩
  go_wp2_with fail
  have r1 : Kp ((w.alloc (.cells #[.bool false, .int .i64 0, .slice none 0 0, .bool false, .int .i64 0, .bool false, .bool false, .bool false, .int .i64 0] 64)).heap[w.heap.size]? = some (.cells #[.bool false, .int .i64 0, .slice none 0 0, .bool false, .int .i64 0, .bool false, .bool false, .bool false, .int .i64 0] 64 (0, 0))) := ⟨(blk_new _ _)⟩
  have HB1 : Kp (Below w.heap.size w (w.alloc (.cells #[.bool false, .int .i64 0, .slice none 0 0, .bool false, .int .i64 0, .bool false, .bool false, .bool false, .int .i64 0] 64))) := ⟨(below_al HB0.out _)⟩
  have W1 : Kp ((w.alloc (.cells #[.bool false, .int .i64 0, .slice none 0 0, .bool false, .int .i64 0, .bool false, .bool false, .bool false, .int .i64 0] 64)).heap[R]? = some (.cells #[.int .i64 p.src, .int .i64 p.rd, .int .i64 p.words, .int .i64 p.period, .int .u32 x, .int .u32 y, .int .i64 lf, .int .u32 sp, .slice da dn dc, nx] 119 (0, 0))) := ⟨(blk_al HW.out _)⟩
  have M1 : Kp (MemAt (w.alloc (.cells #[.bool false, .int .i64 0, .slice none 0 0, .bool false, .int .i64 0, .bool false, .bool false, .bool false, .int .i64 0] 64)) B D (ws)) := ⟨(HM.out.below (below_al (Below.refl _ _) _))⟩
  clear HB0 HW HM
  generalize (w.alloc (.cells #[.bool false, .int .i64 0, .slice none 0 0, .bool false, .int .i64 0, .bool false, .bool false, .bool false, .int .i64 0] 64)) = w1 at r1 HB1 W1 M1 ⊢
  have HS1 : Kp (ButS [R, D] w w1) := ⟨ButS.of_below HB1.out⟩
  have hsz0 : w.heap.size < w1.heap.size := blk_lt r1.out
  have c0 := cbk W1.out 0 (.int .i64 p.src) rfl
  have c1 := cbk W1.out 1 (.int .i64 p.rd) rfl
  have c2 := cbk W1.out 2 (.int .i64 p.words) rfl
  have c3 := cbk W1.out 3 (.int .i64 p.period) rfl
  have c4 := cbk W1.out 4 (.int .u32 x) rfl
  have c5 := cbk W1.out 5 (.int .u32 y) rfl
  have c6 := cbk W1.out 6 (.int .i64 lf) rfl
  have c7 := cbk W1.out 7 (.int .u32 sp) rfl
  have c8 := cbk W1.out 8 (.slice da dn dc) rfl
  have c9 := cbk W1.out 9 (nx) rfl
  have cl := blk_lt W1.out
  have HX0 : Kp (w1.heap[R]? = some (.cells #[.int .i64 p.src, .int .i64 p.rd, .int .i64 p.words, .int .i64 p.period, .int .u32 x, .int .u32 y, .int .i64 lf, .int .u32 sp, .slice da dn dc, nx] 119 (0, 0))) := ⟨W1.out⟩
  refine held_start_gen (S := (fun w' : World => ButB (w1.heap.size) [R] w1 w' ∧ (∀ bb o, bb < w1.heap.size → bb ≠ R → w'.cell? ⟨bb, o, none⟩ = w1.cell? ⟨bb, o, none⟩) ∧ ∀ o, o ≠ 7 → w'.cell? ⟨R, o, none⟩ = w1.cell? ⟨R, o, none⟩)) (by kernel_rfl) (fun wz : World => Kp (ButS [R, D] w wz) ∧ Kp (wz.heap[R]? = some (.cells #[.int .i64 p.src, .int .i64 p.rd, .int .i64 p.words, .int .i64 p.period, .int .u32 x, .int .u32 y, .int .i64 lf, .int .u32 sp, .slice da dn dc, nx] 119 (0, 0))) ∧ Kp (MemAt wz B D (ws)) ∧ Kp (wz.heap[w.heap.size]? = some (.cells #[.bool false, .int .i64 0, .slice none 0 0, .bool false, .int .i64 0, .bool false, .bool false, .bool false, .int .i64 0] 64 (0, 0))) ∧ w1.heap.size ≤ wz.heap.size) ⟨⟨ButS.dr HS1.out⟩, ⟨blk_dr W1.out⟩, ⟨(M1.out.below (below_dr (Below.refl _ _)))⟩, ⟨blk_dr r1.out⟩, Nat.le_refl _⟩ (sx3 (sx_of1 (ButB.dr (ButB.refl _ (by omega)))) (xc_of HX0.out (blk_dr W1.out) 7 (fun _ _ => rfl))) (fun wd0 hRn hHeld => ?_)
  clear HS1 W1 M1 r1
  obtain ⟨HS1, W1, M1, r1, hsz⟩ := hRn
  refine wtk 0 ?_ rfl (.inl ⟨by rfl, ?_⟩) ?_
  rotate_left 1
  · (intro w hSw; go_simp; try with_reducible rfl)
  try simp only [Act.put, ls0, ls1, ls2]
  refine wtk 1 ?_ rfl (.inl ⟨by rfl, ?_⟩) ?_
  rotate_left 1
  · (intro w hSw; go_simp; try with_reducible rfl)
  try simp only [Act.put, ls0, ls1, ls2]
  refine wtk 2 ?_ rfl (.inl ⟨by rfl, ?_⟩) ?_
  rotate_left 1
  · (intro w hSw; go_simp; try with_reducible rfl)
  try simp only [Act.put, ls0, ls1, ls2]
  refine wtk 3 ?_ rfl (.inl ⟨by rfl, ?_⟩) ?_
  rotate_left 1
  · (intro w hSw; go_simp; try with_reducible rfl)
  try simp only [Act.put, ls0, ls1, ls2]
  refine wtk 4 ?_ rfl (.inl ⟨by rfl, ?_⟩) ?_
  rotate_left 1
  · (intro w hSw; go_simp; try with_reducible rfl)
  try simp only [Act.put, ls0, ls1, ls2]
  refine wtk 5 ?_ rfl (.inl ⟨by rfl, ?_⟩) ?_
  rotate_left 1
  · (intro w hSw; go_simp; try with_reducible rfl)
  try simp only [Act.put, ls0, ls1, ls2]
  refine wtk 6 ?_ rfl (.inl ⟨by rfl, ?_⟩) ?_
  rotate_left 1
  · (intro w hSw; go_simp; try with_reducible rfl)
  try simp only [Act.put, ls0, ls1, ls2]
  refine wtk 7 ?_ rfl (.inl ⟨by rfl, ?_⟩) ?_
  rotate_left 1
  · (intro w hSw; go_simp; try with_reducible rfl)
  try simp only [Act.put, ls0, ls1, ls2]
  refine wtk 8 ?_ rfl (.inl ⟨by rfl, ?_⟩) ?_
  rotate_left 1
  · (intro w hSw; go_simp; try with_reducible rfl)
  try simp only [Act.put, ls0, ls1, ls2]
  refine wtk 9 ?_ rfl (.inl ⟨by rfl, ?_⟩) ?_
  rotate_left 1
  · (intro w hSw; go_simp; try with_reducible rfl)
  try simp only [Act.put, ls0, ls1, ls2]
  refine wtk 10 ?_ rfl (.inl ⟨by rfl, ?_⟩) ?_
  rotate_left 1
  · (intro w hSw; go_simp; try with_reducible rfl)
  try simp only [Act.put, ls0, ls1, ls2]
  refine wtk 11 ?_ rfl (.inl ⟨by rfl, ?_⟩) ?_
  rotate_left 1
  · (intro w hSw; go_simp; try with_reducible rfl)
  try simp only [Act.put, ls0, ls1, ls2]
  refine wtk 12 ?_ rfl (.inl ⟨by rfl, ?_⟩) ?_
  rotate_left 1
  · (intro w hSw; go_simp; try with_reducible rfl)
  try simp only [Act.put, ls0, ls1, ls2]
  refine wtk 13 ?_ rfl (.inl ⟨by rfl, ?_⟩) ?_
  rotate_left 1
  · (intro w hSw; go_simp; try with_reducible rfl)
  try simp only [Act.put, ls0, ls1, ls2]
  refine wrd [14] ?_
  refine (arc rfl (fun K hK => ?_) arn)
  go_simp
  go_at_call 108
  refine (fbuffer_any p hp x y hx hy _).mono ?_
  rintro e w9 ⟨rfl, hb⟩
  try go_wp2_with fail
  refine out_gen hK _ _ (fun wz : World => Kp (ButS [R, D] w wz) ∧ Kp (wz.heap[R]? = some (.cells #[.int .i64 p.src, .int .i64 p.rd, .int .i64 p.words, .int .i64 p.period, .int .u32 x, .int .u32 y, .int .i64 lf, .int .u32 sp, .slice da dn dc, nx] 119 (0, 0))) ∧ Kp (MemAt wz B D (ws)) ∧ Kp (wz.heap[w.heap.size]? = some (.cells #[.bool false, .int .i64 0, .slice none 0 0, .bool false, .int .i64 0, .bool false, .bool false, .bool false, .int .i64 0] 64 (0, 0))) ∧ wd0.heap.size ≤ wz.heap.size) ⟨⟨ButS.trans HS1.out (ButS.of_below hb)⟩, ⟨blk_below W1.out hb⟩, ⟨(M1.out.below hb)⟩, ⟨blk_below r1.out hb⟩, hb.size⟩ (sx3 (sx_of1 (ButB.call (And.left hHeld) hb)) (xc_of HX0.out (blk_below W1.out hb) 7 (fun _ _ => rfl))) (fun wd1 hRn hHn => ?_)
  clear hK K hHeld HS1 W1 M1 r1 hb
  obtain ⟨HS1, W1, M1, r1, hsz1⟩ := hRn
  have hHeld := hHn
  clear hHn
  try simp only [Act.put, ls0, ls1, ls2]
  refine wtk 15 ?_ rfl (.inl ⟨by rfl, ?_⟩) ?_
  rotate_left 1
  · (intro w hSw; go_simp; try with_reducible rfl)
  try simp only [Act.put, ls0, ls1, ls2]
  refine wrd [16] ?_
  refine (arc rfl (fun K hK => ?_) arn)
  go_simp
  go_at_call 83
  refine (fload_any B D ws (p.buf x y + 1) h1.1 h1.2.1 _ M1.out).mono ?_
  rw [HV.out]
  rintro e w9 ⟨rfl, hw9⟩
  have hw8 := hw9.symm
  clear hw9
  subst hw8
  have hb : Below wd1.heap.size wd1 wd1 := Below.refl _ _
  try go_wp2_with fail
  refine out_gen hK _ _ (fun wz : World => Kp (ButS [R, D] w wz) ∧ Kp (wz.heap[R]? = some (.cells #[.int .i64 p.src, .int .i64 p.rd, .int .i64 p.words, .int .i64 p.period, .int .u32 x, .int .u32 y, .int .i64 lf, .int .u32 sp, .slice da dn dc, nx] 119 (0, 0))) ∧ Kp (MemAt wz B D (ws)) ∧ Kp (wz.heap[w.heap.size]? = some (.cells #[.bool false, .int .i64 0, .slice none 0 0, .bool false, .int .i64 0, .bool false, .bool false, .bool false, .int .i64 0] 64 (0, 0))) ∧ wd1.heap.size ≤ wz.heap.size) ⟨⟨ButS.trans HS1.out (ButS.of_below hb)⟩, ⟨blk_below W1.out hb⟩, ⟨(M1.out.below hb)⟩, ⟨blk_below r1.out hb⟩, hb.size⟩ (sx3 (sx_of1 (ButB.call (And.left hHeld) hb)) (xc_of HX0.out (blk_below W1.out hb) 7 (fun _ _ => rfl))) (fun wd2 hRn hHn => ?_)
  clear hK K hHeld HS1 W1 M1 r1 hb
  obtain ⟨HS1, W1, M1, r1, hsz2⟩ := hRn
  have hHeld := hHn
  clear hHn
  try simp only [Act.put, ls0, ls1, ls2]
  refine wtk 17 ?_ rfl (.inl ⟨by rfl, ?_⟩) ?_
  rotate_left 1
  · (intro w hSw; go_simp; try with_reducible rfl)
  try simp only [Act.put, ls0, ls1, ls2]
  refine wtk 18 ?_ rfl (.inl ⟨by rfl, ?_⟩) ?_
  rotate_left 1
  · (intro w hSw; go_simp; try with_reducible rfl)
  try simp only [Act.put, ls0, ls1, ls2]
  refine wrd [19] ?_
  refine (arc rfl (fun K hK => ?_) arn)
  have sd := cbk W1.out 7 (.int .u32 sp) rfl
  have sf := frozen_blk W1.out 7
  have sl := blk_lt W1.out
  go_simp
  try go_wp2_with fail
  refine out_gen hK _ _ (fun wz : World => Kp (ButS [R, D] w wz) ∧ Kp (wz.heap[R]? = some (.cells #[.int .i64 p.src, .int .i64 p.rd, .int .i64 p.words, .int .i64 p.period, .int .u32 x, .int .u32 y, .int .i64 lf, .int .u32 v, .slice da dn dc, nx] 119 (0, 0))) ∧ Kp (MemAt wz B D (ws)) ∧ Kp (wz.heap[w.heap.size]? = some (.cells #[.bool false, .int .i64 0, .slice none 0 0, .bool false, .int .i64 0, .bool false, .bool false, .bool false, .int .i64 0] 64 (0, 0))) ∧ wd2.heap.size ≤ wz.heap.size) ⟨⟨ButS.set' HS1.out (p := ⟨R, 7, none⟩) (by first | (left; simp; done) | (right; show _ ≤ R; omega)) _⟩, ⟨(blk_set W1.out 7 _).trans rfl⟩, ⟨MemAt.setne M1.out (p := ⟨R, 7, none⟩) (by show B ≠ R; omega) (by show D ≠ R; omega) _⟩, ⟨blk_set_ne (p := ⟨R, 7, none⟩) r1.out (by show w.heap.size ≠ R; omega) _⟩, (by simp [World.setCell])⟩ (sx3 (sx_of1 (ButB.set (And.left hHeld) (p := ⟨R, 7, none⟩) (by first | (left; simp; done) | (right; show _ ≤ R; omega)) _)) (xc_of HX0.out ((blk_set W1.out 7 _).trans rfl) 7 (xc_ne (cs := #[.int .i64 p.src, .int .i64 p.rd, .int .i64 p.words, .int .i64 p.period, .int .u32 x, .int .u32 y, .int .i64 lf, .int .u32 sp, .slice da dn dc, nx]) 7 (.int .u32 v)))) (fun wd3 hRn hHn => ?_)
  clear hK K hHeld HS1 W1 M1 r1 sd sf sl
  obtain ⟨HS1, W1, M1, r1, hsz3⟩ := hRn
  have hHeld := hHn
  clear hHn
  try simp only [Act.put, ls0, ls1, ls2]
  refine wpAnyH_done (by kernel_rfl) ?_ _
  clear HX0
  clear c0 c1 c2 c3 c4 c5 c6 c7 c8 c9 cl
  have q0 := cbk r1.out 0 (.bool false) rfl
  have q1 := cbk r1.out 1 (.int .i64 0) rfl
  have q2 := cbk r1.out 2 (.slice none 0 0) rfl
  have q3 := cbk r1.out 3 (.bool false) rfl
  have q4 := cbk r1.out 4 (.int .i64 0) rfl
  have q5 := cbk r1.out 5 (.bool false) rfl
  have q6 := cbk r1.out 6 (.bool false) rfl
  have q7 := cbk r1.out 7 (.bool false) rfl
  have q8 := cbk r1.out 8 (.int .i64 0) rfl
  have qf0 := frozen_blk r1.out 0
  have qf1 := frozen_blk r1.out 1
  have qf2 := frozen_blk r1.out 2
  have qf3 := frozen_blk r1.out 3
  have qf4 := frozen_blk r1.out 4
  have qf5 := frozen_blk r1.out 5
  have qf6 := frozen_blk r1.out 6
  have qf7 := frozen_blk r1.out 7
  have qf8 := frozen_blk r1.out 8
  have ql := blk_lt r1.out
  have u0 := cbk W1.out 0 (.int .i64 p.src) rfl
  have u1 := cbk W1.out 1 (.int .i64 p.rd) rfl
  have u2 := cbk W1.out 2 (.int .i64 p.words) rfl
  have u3 := cbk W1.out 3 (.int .i64 p.period) rfl
  have u4 := cbk W1.out 4 (.int .u32 x) rfl
  have u5 := cbk W1.out 5 (.int .u32 y) rfl
  have u6 := cbk W1.out 6 (.int .i64 lf) rfl
  have u7 := cbk W1.out 7 (.int .u32 v) rfl
  have u8 := cbk W1.out 8 (.slice da dn dc) rfl
  have u9 := cbk W1.out 9 (nx) rfl
  have ul := blk_lt W1.out
  go_wp2
  refine bodyPost_ret (v := .tuple #[.agg #[.bool false, .int .i64 0, .slice none 0 0, .bool false, .int .i64 0, .bool false, .bool false, .bool false, .int .i64 0], .func (.func 116) #[.pointer (some ⟨R, 0, none⟩)] #[]]) ?_ rfl ?_
  · refine (results_row_tmp (fn := Tryz.f113) (p := 6) (u := 7) (ty := 64) rfl _ _ w.heap.size 64 #[.bool false, .int .i64 0, .slice none 0 0, .bool false, .int .i64 0, .bool false, .bool false, .bool false, .int .i64 0] (0, 0) _ (by go_simp) ((blk_set (blk_set (blk_set (blk_set (blk_set (blk_set (blk_set (blk_set (blk_set r1.out 0 _) 1 _) 2 _) 3 _) 4 _) 5 _) 6 _) 7 _) 8 _).trans (by rfl)) Tryz.underlying64 rfl (by kernel_rfl)).trans ?_
    rfl
  · exact ⟨rfl, (blk_set_ne (p := ⟨w.heap.size, 8, none⟩) (blk_set_ne (p := ⟨w.heap.size, 7, none⟩) (blk_set_ne (p := ⟨w.heap.size, 6, none⟩) (blk_set_ne (p := ⟨w.heap.size, 5, none⟩) (blk_set_ne (p := ⟨w.heap.size, 4, none⟩) (blk_set_ne (p := ⟨w.heap.size, 3, none⟩) (blk_set_ne (p := ⟨w.heap.size, 2, none⟩) (blk_set_ne (p := ⟨w.heap.size, 1, none⟩) (blk_set_ne (p := ⟨w.heap.size, 0, none⟩) W1.out (by show R ≠ w.heap.size; omega) _) (by show R ≠ w.heap.size; omega) _) (by show R ≠ w.heap.size; omega) _) (by show R ≠ w.heap.size; omega) _) (by show R ≠ w.heap.size; omega) _) (by show R ≠ w.heap.size; omega) _) (by show R ≠ w.heap.size; omega) _) (by show R ≠ w.heap.size; omega) _) (by show R ≠ w.heap.size; omega) _), (MemAt.setne (MemAt.setne (MemAt.setne (MemAt.setne (MemAt.setne (MemAt.setne (MemAt.setne (MemAt.setne (MemAt.setne M1.out (p := ⟨w.heap.size, 0, none⟩) (by show B ≠ w.heap.size; omega) (by show D ≠ w.heap.size; omega) _) (p := ⟨w.heap.size, 1, none⟩) (by show B ≠ w.heap.size; omega) (by show D ≠ w.heap.size; omega) _) (p := ⟨w.heap.size, 2, none⟩) (by show B ≠ w.heap.size; omega) (by show D ≠ w.heap.size; omega) _) (p := ⟨w.heap.size, 3, none⟩) (by show B ≠ w.heap.size; omega) (by show D ≠ w.heap.size; omega) _) (p := ⟨w.heap.size, 4, none⟩) (by show B ≠ w.heap.size; omega) (by show D ≠ w.heap.size; omega) _) (p := ⟨w.heap.size, 5, none⟩) (by show B ≠ w.heap.size; omega) (by show D ≠ w.heap.size; omega) _) (p := ⟨w.heap.size, 6, none⟩) (by show B ≠ w.heap.size; omega) (by show D ≠ w.heap.size; omega) _) (p := ⟨w.heap.size, 7, none⟩) (by show B ≠ w.heap.size; omega) (by show D ≠ w.heap.size; omega) _) (p := ⟨w.heap.size, 8, none⟩) (by show B ≠ w.heap.size; omega) (by show D ≠ w.heap.size; omega) _), (ButS.set' (ButS.set' (ButS.set' (ButS.set' (ButS.set' (ButS.set' (ButS.set' (ButS.set' (ButS.set' HS1.out (p := ⟨w.heap.size, 0, none⟩) (.inr (Nat.le_refl _)) _) (p := ⟨w.heap.size, 1, none⟩) (.inr (Nat.le_refl _)) _) (p := ⟨w.heap.size, 2, none⟩) (.inr (Nat.le_refl _)) _) (p := ⟨w.heap.size, 3, none⟩) (.inr (Nat.le_refl _)) _) (p := ⟨w.heap.size, 4, none⟩) (.inr (Nat.le_refl _)) _) (p := ⟨w.heap.size, 5, none⟩) (.inr (Nat.le_refl _)) _) (p := ⟨w.heap.size, 6, none⟩) (.inr (Nat.le_refl _)) _) (p := ⟨w.heap.size, 7, none⟩) (.inr (Nat.le_refl _)) _) (p := ⟨w.heap.size, 8, none⟩) (.inr (Nat.le_refl _)) _)⟩
set_option maxRecDepth 100000 in
set_option maxHeartbeats 4000000 in
theorem rlength0_any (p : Plc) (hp : p.low) (R B D : Nat) (ws : List Int) (x y : Int) (lf sp : Int) (da : Option Addr) (dn dc : Nat) (nx : Value) (now : Int) (hi : p.In ws.length) (hws : Words ws) (hx : bit x) (hy : bit y) (hv0 : ldW ws (p.buf x y) = 0) (w : World) (hW : w.heap[R]? = some (.cells #[.int .i64 p.src, .int .i64 p.rd, .int .i64 p.words, .int .i64 p.period, .int .u32 x, .int .u32 y, .int .i64 lf, .int .u32 sp, .slice da dn dc, nx] 119 (0, 0))) (h : MemAt w B D ws) : Calls Tryz.prog 110 #[.pointer (some ⟨R, 0, none⟩), .pointer (some ⟨B, 0, none⟩), .int .i64 now] w fun e w' =>
    e = .returned (.tuple #[.agg #[.bool true, .int .i64 1, .slice none 0 0, .bool false, .int .i64 0, .bool false, .bool false, .bool false, .int .i64 (1 + (2 * x + y))], .nilFunc]) ∧ w'.heap[R]? = some (.cells #[.int .i64 p.src, .int .i64 p.rd, .int .i64 p.words, .int .i64 p.period, .int .u32 x, .int .u32 y, .int .i64 lf, .int .u32 sp, .slice da dn dc, nx] 119 (0, 0)) ∧ MemAt w' B D (ws) ∧ ButS [R, D] w w' := by
  have HM := Kp.mk h
  have HW := Kp.mk hW
  have lW := blk_lt hW
  have lD := blk_lt h.words
  have lB := blk_lt h.head
  have hWD : R ≠ D := by
    rintro rfl
    rw [h.words] at hW
    simp at hW
  have hWB : R ≠ B := by
    rintro rfl
    rw [h.head] at hW
    simp at hW
  have hBD := h.ne
  have hWr : R ≠ w.heap.size := by omega
  have hDr : D ≠ w.heap.size := by omega
  have hBr : B ≠ w.heap.size := by omega
  clear h hW
  have bx := bit_two x hx
  have byy := bit_two y hy
  have h1 := buf_in hp hi x y hx hy 0 (by omega) (by have := hp.words; omega)
  rw [Int.add_zero] at h1
  have hw16 := hp.words
  have hvw := ldW_word hws (p.buf x y)
  obtain ⟨v, hv⟩ : ∃ v, ldW ws (p.buf x y) = v := ⟨_, rfl⟩
  rw [hv] at hvw hv0
  have HV := Kp.mk hv
  have n2 : IntKind.u32.wrap (2 * x) = 2 * x := IntWalk.u32_in _ (by omega)
  have n3 : IntKind.u32.wrap (2 * x + y) = 2 * x + y := IntWalk.u32_in _ (by omega)
  have n4 : IntKind.i64.wrap (2 * x + y) = 2 * x + y := IntWalk.i64_in _ (by omega)
  have n5 : IntKind.i64.wrap (1 + (2 * x + y)) = 1 + (2 * x + y) := IntWalk.i64_in _ (by omega)
  clear hws hv
  obtain rfl : v = 0 := hv0
  clear hvw
  go_enter Tryz.func110, Tryz.ntmps110
  have HB0 : Kp (Below w.heap.size w w) := ⟨Below.refl _ _⟩
  go_wp2_with fail
  have r1 : Kp ((w.alloc (.cells #[.bool false, .int .i64 0, .slice none 0 0, .bool false, .int .i64 0, .bool false, .bool false, .bool false, .int .i64 0] 64)).heap[w.heap.size]? = some (.cells #[.bool false, .int .i64 0, .slice none 0 0, .bool false, .int .i64 0, .bool false, .bool false, .bool false, .int .i64 0] 64 (0, 0))) := ⟨(blk_new _ _)⟩
  have HB1 : Kp (Below w.heap.size w (w.alloc (.cells #[.bool false, .int .i64 0, .slice none 0 0, .bool false, .int .i64 0, .bool false, .bool false, .bool false, .int .i64 0] 64))) := ⟨(below_al HB0.out _)⟩
  have W1 : Kp ((w.alloc (.cells #[.bool false, .int .i64 0, .slice none 0 0, .bool false, .int .i64 0, .bool false, .bool false, .bool false, .int .i64 0] 64)).heap[R]? = some (.cells #[.int .i64 p.src, .int .i64 p.rd, .int .i64 p.words, .int .i64 p.period, .int .u32 x, .int .u32 y, .int .i64 lf, .int .u32 sp, .slice da dn dc, nx] 119 (0, 0))) := ⟨(blk_al HW.out _)⟩
  have M1 : Kp (MemAt (w.alloc (.cells #[.bool false, .int .i64 0, .slice none 0 0, .bool false, .int .i64 0, .bool false, .bool false, .bool false, .int .i64 0] 64)) B D (ws)) := ⟨(HM.out.below (below_al (Below.refl _ _) _))⟩
  clear HB0 HW HM
  generalize (w.alloc (.cells #[.bool false, .int .i64 0, .slice none 0 0, .bool false, .int .i64 0, .bool false, .bool false, .bool false, .int .i64 0] 64)) = w1 at r1 HB1 W1 M1 ⊢
  have HS1 : Kp (ButS [R, D] w w1) := ⟨ButS.of_below HB1.out⟩
  have hsz0 : w.heap.size < w1.heap.size := blk_lt r1.out
  have c0 := cbk W1.out 0 (.int .i64 p.src) rfl
  have c1 := cbk W1.out 1 (.int .i64 p.rd) rfl
  have c2 := cbk W1.out 2 (.int .i64 p.words) rfl
  have c3 := cbk W1.out 3 (.int .i64 p.period) rfl
  have c4 := cbk W1.out 4 (.int .u32 x) rfl
  have c5 := cbk W1.out 5 (.int .u32 y) rfl
  have c6 := cbk W1.out 6 (.int .i64 lf) rfl
  have c7 := cbk W1.out 7 (.int .u32 sp) rfl
  have c8 := cbk W1.out 8 (.slice da dn dc) rfl
  have c9 := cbk W1.out 9 (nx) rfl
  have cl := blk_lt W1.out
  refine held_start_gen (S := (fun w' : World => ButB (w1.heap.size) [] w1 w' ∧ ∀ bb o, bb < w1.heap.size → w'.cell? ⟨bb, o, none⟩ = w1.cell? ⟨bb, o, none⟩)) (by kernel_rfl) (fun wz : World => Kp (ButS [R, D] w wz) ∧ Kp (wz.heap[R]? = some (.cells #[.int .i64 p.src, .int .i64 p.rd, .int .i64 p.words, .int .i64 p.period, .int .u32 x, .int .u32 y, .int .i64 lf, .int .u32 sp, .slice da dn dc, nx] 119 (0, 0))) ∧ Kp (MemAt wz B D (ws)) ∧ Kp (wz.heap[w.heap.size]? = some (.cells #[.bool false, .int .i64 0, .slice none 0 0, .bool false, .int .i64 0, .bool false, .bool false, .bool false, .int .i64 0] 64 (0, 0))) ∧ w1.heap.size ≤ wz.heap.size) ⟨⟨ButS.dr HS1.out⟩, ⟨blk_dr W1.out⟩, ⟨(M1.out.below (below_dr (Below.refl _ _)))⟩, ⟨blk_dr r1.out⟩, Nat.le_refl _⟩ (sx_of0 (ButB.dr (ButB.refl _ (by omega)))) (fun wd0 hRn hHeld => ?_)
  clear HS1 W1 M1 r1
  obtain ⟨HS1, W1, M1, r1, hsz⟩ := hRn
  refine wtk 0 ?_ rfl (.inl ⟨by rfl, ?_⟩) ?_
  rotate_left 1
  · (intro w hSw; go_simp; try with_reducible rfl)
  try simp only [Act.put, ls0, ls1, ls2]
  refine wtk 1 ?_ rfl (.inl ⟨by rfl, ?_⟩) ?_
  rotate_left 1
  · (intro w hSw; go_simp; try with_reducible rfl)
  try simp only [Act.put, ls0, ls1, ls2]
  refine wtk 2 ?_ rfl (.inl ⟨by rfl, ?_⟩) ?_
  rotate_left 1
  · (intro w hSw; go_simp; try with_reducible rfl)
  try simp only [Act.put, ls0, ls1, ls2]
  refine wtk 3 ?_ rfl (.inl ⟨by rfl, ?_⟩) ?_
  rotate_left 1
  · (intro w hSw; go_simp; try with_reducible rfl)
  try simp only [Act.put, ls0, ls1, ls2]
  refine wtk 4 ?_ rfl (.inl ⟨by rfl, ?_⟩) ?_
  rotate_left 1
  · (intro w hSw; go_simp; try with_reducible rfl)
  try simp only [Act.put, ls0, ls1, ls2]
  refine wtk 5 ?_ rfl (.inl ⟨by rfl, ?_⟩) ?_
  rotate_left 1
  · (intro w hSw; go_simp; try with_reducible rfl)
  try simp only [Act.put, ls0, ls1, ls2]
  refine wtk 6 ?_ rfl (.inl ⟨by rfl, ?_⟩) ?_
  rotate_left 1
  · (intro w hSw; go_simp; try with_reducible rfl)
  try simp only [Act.put, ls0, ls1, ls2]
  refine wtk 7 ?_ rfl (.inl ⟨by rfl, ?_⟩) ?_
  rotate_left 1
  · (intro w hSw; go_simp; try with_reducible rfl)
  try simp only [Act.put, ls0, ls1, ls2]
  refine wtk 8 ?_ rfl (.inl ⟨by rfl, ?_⟩) ?_
  rotate_left 1
  · (intro w hSw; go_simp; try with_reducible rfl)
  try simp only [Act.put, ls0, ls1, ls2]
  refine wtk 9 ?_ rfl (.inl ⟨by rfl, ?_⟩) ?_
  rotate_left 1
  · (intro w hSw; go_simp; try with_reducible rfl)
  try simp only [Act.put, ls0, ls1, ls2]
  refine wtk 10 ?_ rfl (.inl ⟨by rfl, ?_⟩) ?_
  rotate_left 1
  · (intro w hSw; go_simp; try with_reducible rfl)
  try simp only [Act.put, ls0, ls1, ls2]
  refine wtk 11 ?_ rfl (.inl ⟨by rfl, ?_⟩) ?_
  rotate_left 1
  · (intro w hSw; go_simp; try with_reducible rfl)
  try simp only [Act.put, ls0, ls1, ls2]
  refine wtk 12 ?_ rfl (.inl ⟨by rfl, ?_⟩) ?_
  rotate_left 1
  · (intro w hSw; go_simp; try with_reducible rfl)
  try simp only [Act.put, ls0, ls1, ls2]
  refine wrd [13] ?_
  refine (arc rfl (fun K hK => ?_) arn)
  go_simp
  go_at_call 108
  refine (fbuffer_any p hp x y hx hy _).mono ?_
  rintro e w9 ⟨rfl, hb⟩
  try go_wp2_with fail
  refine out_gen hK _ _ (fun wz : World => Kp (ButS [R, D] w wz) ∧ Kp (wz.heap[R]? = some (.cells #[.int .i64 p.src, .int .i64 p.rd, .int .i64 p.words, .int .i64 p.period, .int .u32 x, .int .u32 y, .int .i64 lf, .int .u32 sp, .slice da dn dc, nx] 119 (0, 0))) ∧ Kp (MemAt wz B D (ws)) ∧ Kp (wz.heap[w.heap.size]? = some (.cells #[.bool false, .int .i64 0, .slice none 0 0, .bool false, .int .i64 0, .bool false, .bool false, .bool false, .int .i64 0] 64 (0, 0))) ∧ wd0.heap.size ≤ wz.heap.size) ⟨⟨ButS.trans HS1.out (ButS.of_below hb)⟩, ⟨blk_below W1.out hb⟩, ⟨(M1.out.below hb)⟩, ⟨blk_below r1.out hb⟩, hb.size⟩ (sx_of0 (ButB.call (And.left hHeld) hb)) (fun wd1 hRn hHn => ?_)
  clear hK K hHeld HS1 W1 M1 r1 hb
  obtain ⟨HS1, W1, M1, r1, hsz1⟩ := hRn
  have hHeld := hHn
  clear hHn
  try simp only [Act.put, ls0, ls1, ls2]
  refine wrd [14] ?_
  refine (arc rfl (fun K hK => ?_) arn)
  go_simp
  go_at_call 83
  refine (fload_any B D ws (p.buf x y) h1.1 h1.2.1 _ M1.out).mono ?_
  rw [HV.out]
  rintro e w9 ⟨rfl, hw9⟩
  have hw8 := hw9.symm
  clear hw9
  subst hw8
  have hb : Below wd1.heap.size wd1 wd1 := Below.refl _ _
  try go_wp2_with fail
  refine out_gen hK _ _ (fun wz : World => Kp (ButS [R, D] w wz) ∧ Kp (wz.heap[R]? = some (.cells #[.int .i64 p.src, .int .i64 p.rd, .int .i64 p.words, .int .i64 p.period, .int .u32 x, .int .u32 y, .int .i64 lf, .int .u32 sp, .slice da dn dc, nx] 119 (0, 0))) ∧ Kp (MemAt wz B D (ws)) ∧ Kp (wz.heap[w.heap.size]? = some (.cells #[.bool false, .int .i64 0, .slice none 0 0, .bool false, .int .i64 0, .bool false, .bool false, .bool false, .int .i64 0] 64 (0, 0))) ∧ wd1.heap.size ≤ wz.heap.size) ⟨⟨ButS.trans HS1.out (ButS.of_below hb)⟩, ⟨blk_below W1.out hb⟩, ⟨(M1.out.below hb)⟩, ⟨blk_below r1.out hb⟩, hb.size⟩ (sx_of0 (ButB.call (And.left hHeld) hb)) (fun wd2 hRn hHn => ?_)
  clear hK K hHeld HS1 W1 M1 r1 hb
  obtain ⟨HS1, W1, M1, r1, hsz2⟩ := hRn
  have hHeld := hHn
  clear hHn
  try simp only [Act.put, ls0, ls1, ls2]
  refine wtk 15 ?_ rfl (.inl ⟨by rfl, ?_⟩) ?_
  rotate_left 1
  · (intro w hSw; go_simp; try with_reducible rfl)
  try simp only [Act.put, ls0, ls1, ls2]
  refine wpAnyH_done (by kernel_rfl) ?_ _
  clear c0 c1 c2 c3 c4 c5 c6 c7 c8 c9 cl
  clear hHeld
  have c0 := cbk W1.out 0 (.int .i64 p.src) rfl
  have c1 := cbk W1.out 1 (.int .i64 p.rd) rfl
  have c2 := cbk W1.out 2 (.int .i64 p.words) rfl
  have c3 := cbk W1.out 3 (.int .i64 p.period) rfl
  have c4 := cbk W1.out 4 (.int .u32 x) rfl
  have c5 := cbk W1.out 5 (.int .u32 y) rfl
  have c6 := cbk W1.out 6 (.int .i64 lf) rfl
  have c7 := cbk W1.out 7 (.int .u32 sp) rfl
  have c8 := cbk W1.out 8 (.slice da dn dc) rfl
  have c9 := cbk W1.out 9 (nx) rfl
  have cl := blk_lt W1.out
  go_wp2_with fail
  refine held_start_gen (S := (fun w' : World => ButB (wd2.heap.size) [] wd2 w' ∧ ∀ bb o, bb < wd2.heap.size → w'.cell? ⟨bb, o, none⟩ = wd2.cell? ⟨bb, o, none⟩)) (by kernel_rfl) (fun wz : World => Kp (ButS [R, D] w wz) ∧ Kp (wz.heap[R]? = some (.cells #[.int .i64 p.src, .int .i64 p.rd, .int .i64 p.words, .int .i64 p.period, .int .u32 x, .int .u32 y, .int .i64 lf, .int .u32 sp, .slice da dn dc, nx] 119 (0, 0))) ∧ Kp (MemAt wz B D (ws)) ∧ Kp (wz.heap[w.heap.size]? = some (.cells #[.bool false, .int .i64 0, .slice none 0 0, .bool false, .int .i64 0, .bool false, .bool false, .bool false, .int .i64 0] 64 (0, 0))) ∧ wd2.heap.size ≤ wz.heap.size) ⟨⟨ButS.dr HS1.out⟩, ⟨blk_dr W1.out⟩, ⟨(M1.out.below (below_dr (Below.refl _ _)))⟩, ⟨blk_dr r1.out⟩, Nat.le_refl _⟩ (sx_of0 (ButB.dr (ButB.refl _ (by omega)))) (fun wd0 hRn hHeld => ?_)
  clear HS1 W1 M1 r1
  obtain ⟨HS1, W1, M1, r1, hsz⟩ := hRn
  refine wtk 0 ?_ rfl (.inl ⟨by rfl, ?_⟩) ?_
  rotate_left 1
  · (intro w hSw; go_simp; try with_reducible rfl)
  try simp only [Act.put, ls0, ls1, ls2]
  refine wtk 1 ?_ rfl (.inl ⟨by rfl, ?_⟩) ?_
  rotate_left 1
  · (intro w hSw; go_simp; try with_reducible rfl)
  try simp only [Act.put, ls0, ls1, ls2]
  refine wtk 2 ?_ rfl (.inl ⟨by rfl, ?_⟩) ?_
  rotate_left 1
  · (intro w hSw; go_simp; try with_reducible rfl)
  try simp only [Act.put, ls0, ls1, ls2]
  refine wtk 3 ?_ rfl (.inl ⟨by rfl, ?_⟩) ?_
  rotate_left 1
  · (intro w hSw; go_simp; try with_reducible rfl)
  try simp only [Act.put, ls0, ls1, ls2]
  refine wtk 4 ?_ rfl (.inl ⟨by rfl, ?_⟩) ?_
  rotate_left 1
  · (intro w hSw; go_simp; try with_reducible rfl)
  try simp only [Act.put, ls0, ls1, ls2]
  refine wtk 5 ?_ rfl (.inl ⟨by rfl, ?_⟩) ?_
  rotate_left 1
  · (intro w hSw; go_simp; try with_reducible rfl)
  try simp only [Act.put, ls0, ls1, ls2]
  refine wtk 6 ?_ rfl (.inl ⟨by rfl, ?_⟩) ?_
  rotate_left 1
  · (intro w hSw; go_simp; try with_reducible rfl)
  try simp only [Act.put, ls0, ls1, ls2]
  refine wtk 7 ?_ rfl (.inl ⟨by rfl, ?_⟩) ?_
  rotate_left 1
  · (intro w hSw; go_simp; try with_reducible rfl)
  try simp only [Act.put, ls0, ls1, ls2]
  refine wtk 8 ?_ rfl (.inl ⟨by rfl, ?_⟩) ?_
  rotate_left 1
  · (intro w hSw; go_simp; try with_reducible rfl)
  try simp only [Act.put, ls0, ls1, ls2]
  refine wtk 9 ?_ rfl (.inl ⟨by rfl, ?_⟩) ?_
  rotate_left 1
  · (intro w hSw; go_simp; try with_reducible rfl)
  try simp only [Act.put, ls0, ls1, ls2]
  refine wtk 10 ?_ rfl (.inl ⟨by rfl, ?_⟩) ?_
  rotate_left 1
  · (intro w hSw; go_simp; try with_reducible rfl)
  try simp only [Act.put, ls0, ls1, ls2]
  refine wtk 11 ?_ rfl (.inl ⟨by rfl, ?_⟩) ?_
  rotate_left 1
  · (intro w hSw; go_simp; try with_reducible rfl)
  try simp only [Act.put, ls0, ls1, ls2]
  refine wtk 12 ?_ rfl (.inl ⟨by rfl, ?_⟩) ?_
  rotate_left 1
  · (intro w hSw; go_simp; try with_reducible rfl)
  try simp only [Act.put, ls0, ls1, ls2]
  refine wrd [13] ?_
  refine (arc rfl (fun K hK => ?_) arn)
  have ge_qb : wd2.heap.size ≤ wd0.heap.size := (And.left hHeld).size
  go_simp
  try go_wp2_with fail
  refine out_gen hK _ _ (fun wz : World => Kp (ButS [R, D] w wz) ∧ Kp (wz.heap[R]? = some (.cells #[.int .i64 p.src, .int .i64 p.rd, .int .i64 p.words, .int .i64 p.period, .int .u32 x, .int .u32 y, .int .i64 lf, .int .u32 sp, .slice da dn dc, nx] 119 (0, 0))) ∧ Kp (MemAt wz B D (ws)) ∧ Kp (wz.heap[w.heap.size]? = some (.cells #[.bool false, .int .i64 0, .slice none 0 0, .bool false, .int .i64 0, .bool false, .bool false, .bool false, .int .i64 0] 64 (0, 0))) ∧ Kp (wz.heap[wd0.heap.size]? = some (.cells #[.bool false, .int .i64 0, .slice none 0 0, .bool false, .int .i64 0, .bool false, .bool false, .bool false, .int .i64 0] 64 (0, 0))) ∧ wd0.heap.size < wz.heap.size) ⟨⟨ButS.al HS1.out _⟩, ⟨blk_al W1.out _⟩, ⟨(M1.out.al _)⟩, ⟨blk_al r1.out _⟩, ⟨blk_new wd0 _⟩, (by simp)⟩ (sx_of0 (ButB.al (And.left hHeld) _)) (fun wd1 hRn hHn => ?_)
  clear hK K hHeld HS1 W1 M1 r1
  obtain ⟨HS1, W1, M1, r1, qb, hsz1⟩ := hRn
  have hHeld := hHn
  clear hHn
  try simp only [Act.put, ls0, ls1, ls2]
  have lt_qb := blk_lt qb.out
  refine wrd [14] ?_
  refine (arc rfl (fun K hK => ?_) arn)
  have sd0 := cbk qb.out 0 (.bool false) rfl
  have sf0 := frozen_blk qb.out 0
  have sd1 := cbk qb.out 1 (.int .i64 0) rfl
  have sf1 := frozen_blk qb.out 1
  have sd2 := cbk qb.out 2 (.slice none 0 0) rfl
  have sf2 := frozen_blk qb.out 2
  have sd3 := cbk qb.out 3 (.bool false) rfl
  have sf3 := frozen_blk qb.out 3
  have sd4 := cbk qb.out 4 (.int .i64 0) rfl
  have sf4 := frozen_blk qb.out 4
  have sd5 := cbk qb.out 5 (.bool false) rfl
  have sf5 := frozen_blk qb.out 5
  have sd6 := cbk qb.out 6 (.bool false) rfl
  have sf6 := frozen_blk qb.out 6
  have sd7 := cbk qb.out 7 (.bool false) rfl
  have sf7 := frozen_blk qb.out 7
  have sd8 := cbk qb.out 8 (.int .i64 0) rfl
  have sf8 := frozen_blk qb.out 8
  have sl := blk_lt qb.out
  go_simp
  try go_wp2_with fail
  refine out_gen hK _ _ (fun wz : World => Kp (ButS [R, D] w wz) ∧ Kp (wz.heap[R]? = some (.cells #[.int .i64 p.src, .int .i64 p.rd, .int .i64 p.words, .int .i64 p.period, .int .u32 x, .int .u32 y, .int .i64 lf, .int .u32 sp, .slice da dn dc, nx] 119 (0, 0))) ∧ Kp (MemAt wz B D (ws)) ∧ Kp (wz.heap[w.heap.size]? = some (.cells #[.bool false, .int .i64 0, .slice none 0 0, .bool false, .int .i64 0, .bool false, .bool false, .bool false, .int .i64 0] 64 (0, 0))) ∧ Kp (wz.heap[wd0.heap.size]? = some (.cells #[.bool false, .int .i64 0, .slice none 0 0, .bool false, .int .i64 0, .bool false, .bool false, .bool false, .int .i64 (1 + (2 * x + y))] 64 (0, 0))) ∧ wd1.heap.size ≤ wz.heap.size) ⟨⟨(ButS.set' (ButS.set' (ButS.set' (ButS.set' (ButS.set' (ButS.set' (ButS.set' (ButS.set' (ButS.set' HS1.out (p := ⟨wd0.heap.size, 0, none⟩) (by first | (left; simp; done) | (right; show _ ≤ wd0.heap.size; omega)) _) (p := ⟨wd0.heap.size, 1, none⟩) (by first | (left; simp; done) | (right; show _ ≤ wd0.heap.size; omega)) _) (p := ⟨wd0.heap.size, 2, none⟩) (by first | (left; simp; done) | (right; show _ ≤ wd0.heap.size; omega)) _) (p := ⟨wd0.heap.size, 3, none⟩) (by first | (left; simp; done) | (right; show _ ≤ wd0.heap.size; omega)) _) (p := ⟨wd0.heap.size, 4, none⟩) (by first | (left; simp; done) | (right; show _ ≤ wd0.heap.size; omega)) _) (p := ⟨wd0.heap.size, 5, none⟩) (by first | (left; simp; done) | (right; show _ ≤ wd0.heap.size; omega)) _) (p := ⟨wd0.heap.size, 6, none⟩) (by first | (left; simp; done) | (right; show _ ≤ wd0.heap.size; omega)) _) (p := ⟨wd0.heap.size, 7, none⟩) (by first | (left; simp; done) | (right; show _ ≤ wd0.heap.size; omega)) _) (p := ⟨wd0.heap.size, 8, none⟩) (by first | (left; simp; done) | (right; show _ ≤ wd0.heap.size; omega)) _)⟩, ⟨(blk_set_ne (p := ⟨wd0.heap.size, 8, none⟩) (blk_set_ne (p := ⟨wd0.heap.size, 7, none⟩) (blk_set_ne (p := ⟨wd0.heap.size, 6, none⟩) (blk_set_ne (p := ⟨wd0.heap.size, 5, none⟩) (blk_set_ne (p := ⟨wd0.heap.size, 4, none⟩) (blk_set_ne (p := ⟨wd0.heap.size, 3, none⟩) (blk_set_ne (p := ⟨wd0.heap.size, 2, none⟩) (blk_set_ne (p := ⟨wd0.heap.size, 1, none⟩) (blk_set_ne (p := ⟨wd0.heap.size, 0, none⟩) W1.out (by show R ≠ wd0.heap.size; omega) _) (by show R ≠ wd0.heap.size; omega) _) (by show R ≠ wd0.heap.size; omega) _) (by show R ≠ wd0.heap.size; omega) _) (by show R ≠ wd0.heap.size; omega) _) (by show R ≠ wd0.heap.size; omega) _) (by show R ≠ wd0.heap.size; omega) _) (by show R ≠ wd0.heap.size; omega) _) (by show R ≠ wd0.heap.size; omega) _)⟩, ⟨(MemAt.setne (MemAt.setne (MemAt.setne (MemAt.setne (MemAt.setne (MemAt.setne (MemAt.setne (MemAt.setne (MemAt.setne M1.out (p := ⟨wd0.heap.size, 0, none⟩) (by show B ≠ wd0.heap.size; omega) (by show D ≠ wd0.heap.size; omega) _) (p := ⟨wd0.heap.size, 1, none⟩) (by show B ≠ wd0.heap.size; omega) (by show D ≠ wd0.heap.size; omega) _) (p := ⟨wd0.heap.size, 2, none⟩) (by show B ≠ wd0.heap.size; omega) (by show D ≠ wd0.heap.size; omega) _) (p := ⟨wd0.heap.size, 3, none⟩) (by show B ≠ wd0.heap.size; omega) (by show D ≠ wd0.heap.size; omega) _) (p := ⟨wd0.heap.size, 4, none⟩) (by show B ≠ wd0.heap.size; omega) (by show D ≠ wd0.heap.size; omega) _) (p := ⟨wd0.heap.size, 5, none⟩) (by show B ≠ wd0.heap.size; omega) (by show D ≠ wd0.heap.size; omega) _) (p := ⟨wd0.heap.size, 6, none⟩) (by show B ≠ wd0.heap.size; omega) (by show D ≠ wd0.heap.size; omega) _) (p := ⟨wd0.heap.size, 7, none⟩) (by show B ≠ wd0.heap.size; omega) (by show D ≠ wd0.heap.size; omega) _) (p := ⟨wd0.heap.size, 8, none⟩) (by show B ≠ wd0.heap.size; omega) (by show D ≠ wd0.heap.size; omega) _)⟩, ⟨(blk_set_ne (p := ⟨wd0.heap.size, 8, none⟩) (blk_set_ne (p := ⟨wd0.heap.size, 7, none⟩) (blk_set_ne (p := ⟨wd0.heap.size, 6, none⟩) (blk_set_ne (p := ⟨wd0.heap.size, 5, none⟩) (blk_set_ne (p := ⟨wd0.heap.size, 4, none⟩) (blk_set_ne (p := ⟨wd0.heap.size, 3, none⟩) (blk_set_ne (p := ⟨wd0.heap.size, 2, none⟩) (blk_set_ne (p := ⟨wd0.heap.size, 1, none⟩) (blk_set_ne (p := ⟨wd0.heap.size, 0, none⟩) r1.out (by show w.heap.size ≠ wd0.heap.size; omega) _) (by show w.heap.size ≠ wd0.heap.size; omega) _) (by show w.heap.size ≠ wd0.heap.size; omega) _) (by show w.heap.size ≠ wd0.heap.size; omega) _) (by show w.heap.size ≠ wd0.heap.size; omega) _) (by show w.heap.size ≠ wd0.heap.size; omega) _) (by show w.heap.size ≠ wd0.heap.size; omega) _) (by show w.heap.size ≠ wd0.heap.size; omega) _) (by show w.heap.size ≠ wd0.heap.size; omega) _)⟩, ⟨(blk_set (blk_set (blk_set (blk_set (blk_set (blk_set (blk_set (blk_set (blk_set qb.out 0 _) 1 _) 2 _) 3 _) 4 _) 5 _) 6 _) 7 _) 8 _).trans rfl⟩, (by simp [World.setCell])⟩ (sx_of0 ((ButB.set (ButB.set (ButB.set (ButB.set (ButB.set (ButB.set (ButB.set (ButB.set (ButB.set (And.left hHeld) (p := ⟨wd0.heap.size, 0, none⟩) (by first | (left; simp; done) | (right; show _ ≤ wd0.heap.size; omega)) _) (p := ⟨wd0.heap.size, 1, none⟩) (by first | (left; simp; done) | (right; show _ ≤ wd0.heap.size; omega)) _) (p := ⟨wd0.heap.size, 2, none⟩) (by first | (left; simp; done) | (right; show _ ≤ wd0.heap.size; omega)) _) (p := ⟨wd0.heap.size, 3, none⟩) (by first | (left; simp; done) | (right; show _ ≤ wd0.heap.size; omega)) _) (p := ⟨wd0.heap.size, 4, none⟩) (by first | (left; simp; done) | (right; show _ ≤ wd0.heap.size; omega)) _) (p := ⟨wd0.heap.size, 5, none⟩) (by first | (left; simp; done) | (right; show _ ≤ wd0.heap.size; omega)) _) (p := ⟨wd0.heap.size, 6, none⟩) (by first | (left; simp; done) | (right; show _ ≤ wd0.heap.size; omega)) _) (p := ⟨wd0.heap.size, 7, none⟩) (by first | (left; simp; done) | (right; show _ ≤ wd0.heap.size; omega)) _) (p := ⟨wd0.heap.size, 8, none⟩) (by first | (left; simp; done) | (right; show _ ≤ wd0.heap.size; omega)) _))) (fun wd2 hRn hHn => ?_)
  clear hK K hHeld HS1 W1 M1 r1 qb sd0 sf0 sd1 sf1 sd2 sf2 sd3 sf3 sd4 sf4 sd5 sf5 sd6 sf6 sd7 sf7 sd8 sf8 sl
  obtain ⟨HS1, W1, M1, r1, qb, hsz2⟩ := hRn
  have hHeld := hHn
  clear hHn
  try simp only [Act.put, ls0, ls1, ls2]
  refine wpAnyH_done (by kernel_rfl) ?_ _
  clear c0 c1 c2 c3 c4 c5 c6 c7 c8 c9 cl
  clear hHeld
  have hq1 : w.heap.size < wd0.heap.size := by omega
  have q0 := cbk r1.out 0 (.bool false) rfl
  have q1 := cbk r1.out 1 (.int .i64 0) rfl
  have q2 := cbk r1.out 2 (.slice none 0 0) rfl
  have q3 := cbk r1.out 3 (.bool false) rfl
  have q4 := cbk r1.out 4 (.int .i64 0) rfl
  have q5 := cbk r1.out 5 (.bool false) rfl
  have q6 := cbk r1.out 6 (.bool false) rfl
  have q7 := cbk r1.out 7 (.bool false) rfl
  have q8 := cbk r1.out 8 (.int .i64 0) rfl
  have qf0 := frozen_blk r1.out 0
  have qf1 := frozen_blk r1.out 1
  have qf2 := frozen_blk r1.out 2
  have qf3 := frozen_blk r1.out 3
  have qf4 := frozen_blk r1.out 4
  have qf5 := frozen_blk r1.out 5
  have qf6 := frozen_blk r1.out 6
  have qf7 := frozen_blk r1.out 7
  have qf8 := frozen_blk r1.out 8
  have ql := blk_lt r1.out
  have z0 := cbk qb.out 0 (.bool false) rfl
  have z1 := cbk qb.out 1 (.int .i64 0) rfl
  have z2 := cbk qb.out 2 (.slice none 0 0) rfl
  have z3 := cbk qb.out 3 (.bool false) rfl
  have z4 := cbk qb.out 4 (.int .i64 0) rfl
  have z5 := cbk qb.out 5 (.bool false) rfl
  have z6 := cbk qb.out 6 (.bool false) rfl
  have z7 := cbk qb.out 7 (.bool false) rfl
  have z8 := cbk qb.out 8 (.int .i64 (1 + (2 * x + y))) rfl
  have zf0 := frozen_blk qb.out 0
  have zf1 := frozen_blk qb.out 1
  have zl := blk_lt qb.out
  have u0 := cbk W1.out 0 (.int .i64 p.src) rfl
  have u1 := cbk W1.out 1 (.int .i64 p.rd) rfl
  have u2 := cbk W1.out 2 (.int .i64 p.words) rfl
  have u3 := cbk W1.out 3 (.int .i64 p.period) rfl
  have u4 := cbk W1.out 4 (.int .u32 x) rfl
  have u5 := cbk W1.out 5 (.int .u32 y) rfl
  have u6 := cbk W1.out 6 (.int .i64 lf) rfl
  have u7 := cbk W1.out 7 (.int .u32 sp) rfl
  have u8 := cbk W1.out 8 (.slice da dn dc) rfl
  have u9 := cbk W1.out 9 (nx) rfl
  have ul := blk_lt W1.out
  go_wp2
  refine bodyPost_ret (v := .tuple #[.agg #[.bool true, .int .i64 1, .slice none 0 0, .bool false, .int .i64 0, .bool false, .bool false, .bool false, .int .i64 (1 + (2 * x + y))], .nilFunc]) ?_ rfl ?_
  · refine (results_row_tmp (fn := Tryz.f110) (p := 6) (u := 7) (ty := 64) rfl _ _ w.heap.size 64 #[.bool true, .int .i64 1, .slice none 0 0, .bool false, .int .i64 0, .bool false, .bool false, .bool false, .int .i64 (1 + (2 * x + y))] (0, 0) _ (by go_simp) ((blk_set (blk_set (blk_set (blk_set (blk_set (blk_set (blk_set (blk_set (blk_set (blk_set_ne (p := ⟨wd0.heap.size, 1, none⟩) (blk_set_ne (p := ⟨wd0.heap.size, 0, none⟩) r1.out (by show w.heap.size ≠ wd0.heap.size; omega) _) (by show w.heap.size ≠ wd0.heap.size; omega) _) 0 _) 1 _) 2 _) 3 _) 4 _) 5 _) 6 _) 7 _) 8 _).trans (by rfl)) Tryz.underlying64 rfl (by kernel_rfl)).trans ?_
    rfl
  · exact ⟨rfl, (blk_set_ne (p := ⟨w.heap.size, 8, none⟩) (blk_set_ne (p := ⟨w.heap.size, 7, none⟩) (blk_set_ne (p := ⟨w.heap.size, 6, none⟩) (blk_set_ne (p := ⟨w.heap.size, 5, none⟩) (blk_set_ne (p := ⟨w.heap.size, 4, none⟩) (blk_set_ne (p := ⟨w.heap.size, 3, none⟩) (blk_set_ne (p := ⟨w.heap.size, 2, none⟩) (blk_set_ne (p := ⟨w.heap.size, 1, none⟩) (blk_set_ne (p := ⟨w.heap.size, 0, none⟩) (blk_set_ne (p := ⟨wd0.heap.size, 1, none⟩) (blk_set_ne (p := ⟨wd0.heap.size, 0, none⟩) W1.out (by show R ≠ wd0.heap.size; omega) _) (by show R ≠ wd0.heap.size; omega) _) (by show R ≠ w.heap.size; omega) _) (by show R ≠ w.heap.size; omega) _) (by show R ≠ w.heap.size; omega) _) (by show R ≠ w.heap.size; omega) _) (by show R ≠ w.heap.size; omega) _) (by show R ≠ w.heap.size; omega) _) (by show R ≠ w.heap.size; omega) _) (by show R ≠ w.heap.size; omega) _) (by show R ≠ w.heap.size; omega) _).trans (by rfl), (MemAt.setne (MemAt.setne (MemAt.setne (MemAt.setne (MemAt.setne (MemAt.setne (MemAt.setne (MemAt.setne (MemAt.setne (MemAt.setne (MemAt.setne M1.out (p := ⟨wd0.heap.size, 0, none⟩) (by show B ≠ wd0.heap.size; omega) (by show D ≠ wd0.heap.size; omega) _) (p := ⟨wd0.heap.size, 1, none⟩) (by show B ≠ wd0.heap.size; omega) (by show D ≠ wd0.heap.size; omega) _) (p := ⟨w.heap.size, 0, none⟩) (by show B ≠ w.heap.size; omega) (by show D ≠ w.heap.size; omega) _) (p := ⟨w.heap.size, 1, none⟩) (by show B ≠ w.heap.size; omega) (by show D ≠ w.heap.size; omega) _) (p := ⟨w.heap.size, 2, none⟩) (by show B ≠ w.heap.size; omega) (by show D ≠ w.heap.size; omega) _) (p := ⟨w.heap.size, 3, none⟩) (by show B ≠ w.heap.size; omega) (by show D ≠ w.heap.size; omega) _) (p := ⟨w.heap.size, 4, none⟩) (by show B ≠ w.heap.size; omega) (by show D ≠ w.heap.size; omega) _) (p := ⟨w.heap.size, 5, none⟩) (by show B ≠ w.heap.size; omega) (by show D ≠ w.heap.size; omega) _) (p := ⟨w.heap.size, 6, none⟩) (by show B ≠ w.heap.size; omega) (by show D ≠ w.heap.size; omega) _) (p := ⟨w.heap.size, 7, none⟩) (by show B ≠ w.heap.size; omega) (by show D ≠ w.heap.size; omega) _) (p := ⟨w.heap.size, 8, none⟩) (by show B ≠ w.heap.size; omega) (by show D ≠ w.heap.size; omega) _), (ButS.set' (ButS.set' (ButS.set' (ButS.set' (ButS.set' (ButS.set' (ButS.set' (ButS.set' (ButS.set' (ButS.set' (ButS.set' HS1.out (p := ⟨wd0.heap.size, 0, none⟩) (by first | (left; simp; done) | (right; show _ ≤ wd0.heap.size; omega)) _) (p := ⟨wd0.heap.size, 1, none⟩) (by first | (left; simp; done) | (right; show _ ≤ wd0.heap.size; omega)) _) (p := ⟨w.heap.size, 0, none⟩) (by first | (left; simp; done) | (right; show _ ≤ w.heap.size; omega)) _) (p := ⟨w.heap.size, 1, none⟩) (by first | (left; simp; done) | (right; show _ ≤ w.heap.size; omega)) _) (p := ⟨w.heap.size, 2, none⟩) (by first | (left; simp; done) | (right; show _ ≤ w.heap.size; omega)) _) (p := ⟨w.heap.size, 3, none⟩) (by first | (left; simp; done) | (right; show _ ≤ w.heap.size; omega)) _) (p := ⟨w.heap.size, 4, none⟩) (by first | (left; simp; done) | (right; show _ ≤ w.heap.size; omega)) _) (p := ⟨w.heap.size, 5, none⟩) (by first | (left; simp; done) | (right; show _ ≤ w.heap.size; omega)) _) (p := ⟨w.heap.size, 6, none⟩) (by first | (left; simp; done) | (right; show _ ≤ w.heap.size; omega)) _) (p := ⟨w.heap.size, 7, none⟩) (by first | (left; simp; done) | (right; show _ ≤ w.heap.size; omega)) _) (p := ⟨w.heap.size, 8, none⟩) (by first | (left; simp; done) | (right; show _ ≤ w.heap.size; omega)) _)⟩
set_option maxRecDepth 100000 in
set_option maxHeartbeats 4000000 in
theorem rlengthN_any (p : Plc) (hp : p.low) (R B D : Nat) (ws : List Int) (x y : Int) (lf sp : Int) (da : Option Addr) (dn dc : Nat) (nx : Value) (now : Int) (hi : p.In ws.length) (hws : Words ws) (hx : bit x) (hy : bit y) (hv0 : ldW ws (p.buf x y) ≠ 0) (m : Int) (hm : (ldW ws (p.buf x y) ≤ p.words ∧ ldW ws (p.buf x y) = m) ∨ (p.words < ldW ws (p.buf x y) ∧ p.words = m)) (w : World) (hW : w.heap[R]? = some (.cells #[.int .i64 p.src, .int .i64 p.rd, .int .i64 p.words, .int .i64 p.period, .int .u32 x, .int .u32 y, .int .i64 lf, .int .u32 sp, .slice da dn dc, nx] 119 (0, 0))) (h : MemAt w B D ws) : Calls Tryz.prog 110 #[.pointer (some ⟨R, 0, none⟩), .pointer (some ⟨B, 0, none⟩), .int .i64 now] w fun e w' =>
    e = .returned (.tuple #[.agg #[.bool false, .int .i64 0, .slice none 0 0, .bool false, .int .i64 0, .bool false, .bool false, .bool false, .int .i64 (1 + (2 * x + y))], .func (.func 113) #[.pointer (some ⟨R, 0, none⟩)] #[]]) ∧ w'.heap[R]? = some (.cells #[.int .i64 p.src, .int .i64 p.rd, .int .i64 p.words, .int .i64 p.period, .int .u32 x, .int .u32 y, .int .i64 m, .int .u32 sp, .slice da dn dc, nx] 119 (0, 0)) ∧ MemAt w' B D (ws) ∧ ButS [R, D] w w' := by
  have HM := Kp.mk h
  have HW := Kp.mk hW
  have lW := blk_lt hW
  have lD := blk_lt h.words
  have lB := blk_lt h.head
  have hWD : R ≠ D := by
    rintro rfl
    rw [h.words] at hW
    simp at hW
  have hWB : R ≠ B := by
    rintro rfl
    rw [h.head] at hW
    simp at hW
  have hBD := h.ne
  have hWr : R ≠ w.heap.size := by omega
  have hDr : D ≠ w.heap.size := by omega
  have hBr : B ≠ w.heap.size := by omega
  clear h hW
  have bx := bit_two x hx
  have byy := bit_two y hy
  have h1 := buf_in hp hi x y hx hy 0 (by omega) (by have := hp.words; omega)
  rw [Int.add_zero] at h1
  have hw16 := hp.words
  have hvw := ldW_word hws (p.buf x y)
  obtain ⟨v, hv⟩ : ∃ v, ldW ws (p.buf x y) = v := ⟨_, rfl⟩
  rw [hv] at hvw hv0 hm
  have HV := Kp.mk hv
  have n2 : IntKind.u32.wrap (2 * x) = 2 * x := IntWalk.u32_in _ (by omega)
  have n3 : IntKind.u32.wrap (2 * x + y) = 2 * x + y := IntWalk.u32_in _ (by omega)
  have n4 : IntKind.i64.wrap (2 * x + y) = 2 * x + y := IntWalk.i64_in _ (by omega)
  have n5 : IntKind.i64.wrap (1 + (2 * x + y)) = 1 + (2 * x + y) := IntWalk.i64_in _ (by omega)
  clear hws hv
  have hv1 : (v == 0) = false := by simpa using hv0
  have n6 : IntKind.u32.wrap p.words = p.words := IntWalk.u32_in _ (by omega)
  have n6' : p.words % 4294967296 = p.words := by omega
  have n7 : IntKind.i64.wrap v = v := IntWalk.i64_in _ (by omega)
  have n8 : IntKind.i64.wrap p.words = p.words := IntWalk.i64_in _ (by omega)
  have HM2 := Kp.mk hm
  clear hm
  go_enter Tryz.func110, Tryz.ntmps110
  have HB0 : Kp (Below w.heap.size w w) := ⟨Below.refl _ _⟩
  go_wp2_with fail
  have r1 : Kp ((w.alloc (.cells #[.bool false, .int .i64 0, .slice none 0 0, .bool false, .int .i64 0, .bool false, .bool false, .bool false, .int .i64 0] 64)).heap[w.heap.size]? = some (.cells #[.bool false, .int .i64 0, .slice none 0 0, .bool false, .int .i64 0, .bool false, .bool false, .bool false, .int .i64 0] 64 (0, 0))) := ⟨(blk_new _ _)⟩
  have HB1 : Kp (Below w.heap.size w (w.alloc (.cells #[.bool false, .int .i64 0, .slice none 0 0, .bool false, .int .i64 0, .bool false, .bool false, .bool false, .int .i64 0] 64))) := ⟨(below_al HB0.out _)⟩
  have W1 : Kp ((w.alloc (.cells #[.bool false, .int .i64 0, .slice none 0 0, .bool false, .int .i64 0, .bool false, .bool false, .bool false, .int .i64 0] 64)).heap[R]? = some (.cells #[.int .i64 p.src, .int .i64 p.rd, .int .i64 p.words, .int .i64 p.period, .int .u32 x, .int .u32 y, .int .i64 lf, .int .u32 sp, .slice da dn dc, nx] 119 (0, 0))) := ⟨(blk_al HW.out _)⟩
  have M1 : Kp (MemAt (w.alloc (.cells #[.bool false, .int .i64 0, .slice none 0 0, .bool false, .int .i64 0, .bool false, .bool false, .bool false, .int .i64 0] 64)) B D (ws)) := ⟨(HM.out.below (below_al (Below.refl _ _) _))⟩
  clear HB0 HW HM
  generalize (w.alloc (.cells #[.bool false, .int .i64 0, .slice none 0 0, .bool false, .int .i64 0, .bool false, .bool false, .bool false, .int .i64 0] 64)) = w1 at r1 HB1 W1 M1 ⊢
  have HS1 : Kp (ButS [R, D] w w1) := ⟨ButS.of_below HB1.out⟩
  have hsz0 : w.heap.size < w1.heap.size := blk_lt r1.out
  have c0 := cbk W1.out 0 (.int .i64 p.src) rfl
  have c1 := cbk W1.out 1 (.int .i64 p.rd) rfl
  have c2 := cbk W1.out 2 (.int .i64 p.words) rfl
  have c3 := cbk W1.out 3 (.int .i64 p.period) rfl
  have c4 := cbk W1.out 4 (.int .u32 x) rfl
  have c5 := cbk W1.out 5 (.int .u32 y) rfl
  have c6 := cbk W1.out 6 (.int .i64 lf) rfl
  have c7 := cbk W1.out 7 (.int .u32 sp) rfl
  have c8 := cbk W1.out 8 (.slice da dn dc) rfl
  have c9 := cbk W1.out 9 (nx) rfl
  have cl := blk_lt W1.out
  refine held_start_gen (S := (fun w' : World => ButB (w1.heap.size) [] w1 w' ∧ ∀ bb o, bb < w1.heap.size → w'.cell? ⟨bb, o, none⟩ = w1.cell? ⟨bb, o, none⟩)) (by kernel_rfl) (fun wz : World => Kp (ButS [R, D] w wz) ∧ Kp (wz.heap[R]? = some (.cells #[.int .i64 p.src, .int .i64 p.rd, .int .i64 p.words, .int .i64 p.period, .int .u32 x, .int .u32 y, .int .i64 lf, .int .u32 sp, .slice da dn dc, nx] 119 (0, 0))) ∧ Kp (MemAt wz B D (ws)) ∧ Kp (wz.heap[w.heap.size]? = some (.cells #[.bool false, .int .i64 0, .slice none 0 0, .bool false, .int .i64 0, .bool false, .bool false, .bool false, .int .i64 0] 64 (0, 0))) ∧ w1.heap.size ≤ wz.heap.size) ⟨⟨ButS.dr HS1.out⟩, ⟨blk_dr W1.out⟩, ⟨(M1.out.below (below_dr (Below.refl _ _)))⟩, ⟨blk_dr r1.out⟩, Nat.le_refl _⟩ (sx_of0 (ButB.dr (ButB.refl _ (by omega)))) (fun wd0 hRn hHeld => ?_)
  clear HS1 W1 M1 r1
  obtain ⟨HS1, W1, M1, r1, hsz⟩ := hRn
  refine wtk 0 ?_ rfl (.inl ⟨by rfl, ?_⟩) ?_
  rotate_left 1
  · (intro w hSw; go_simp; try with_reducible rfl)
  try simp only [Act.put, ls0, ls1, ls2]
  refine wtk 1 ?_ rfl (.inl ⟨by rfl, ?_⟩) ?_
  rotate_left 1
  · (intro w hSw; go_simp; try with_reducible rfl)
  try simp only [Act.put, ls0, ls1, ls2]
  refine wtk 2 ?_ rfl (.inl ⟨by rfl, ?_⟩) ?_
  rotate_left 1
  · (intro w hSw; go_simp; try with_reducible rfl)
  try simp only [Act.put, ls0, ls1, ls2]
  refine wtk 3 ?_ rfl (.inl ⟨by rfl, ?_⟩) ?_
  rotate_left 1
  · (intro w hSw; go_simp; try with_reducible rfl)
  try simp only [Act.put, ls0, ls1, ls2]
  refine wtk 4 ?_ rfl (.inl ⟨by rfl, ?_⟩) ?_
  rotate_left 1
  · (intro w hSw; go_simp; try with_reducible rfl)
  try simp only [Act.put, ls0, ls1, ls2]
  refine wtk 5 ?_ rfl (.inl ⟨by rfl, ?_⟩) ?_
  rotate_left 1
  · (intro w hSw; go_simp; try with_reducible rfl)
  try simp only [Act.put, ls0, ls1, ls2]
  refine wtk 6 ?_ rfl (.inl ⟨by rfl, ?_⟩) ?_
  rotate_left 1
  · (intro w hSw; go_simp; try with_reducible rfl)
  try simp only [Act.put, ls0, ls1, ls2]
  refine wtk 7 ?_ rfl (.inl ⟨by rfl, ?_⟩) ?_
  rotate_left 1
  · (intro w hSw; go_simp; try with_reducible rfl)
  try simp only [Act.put, ls0, ls1, ls2]
  refine wtk 8 ?_ rfl (.inl ⟨by rfl, ?_⟩) ?_
  rotate_left 1
  · (intro w hSw; go_simp; try with_reducible rfl)
  try simp only [Act.put, ls0, ls1, ls2]
  refine wtk 9 ?_ rfl (.inl ⟨by rfl, ?_⟩) ?_
  rotate_left 1
  · (intro w hSw; go_simp; try with_reducible rfl)
  try simp only [Act.put, ls0, ls1, ls2]
  refine wtk 10 ?_ rfl (.inl ⟨by rfl, ?_⟩) ?_
  rotate_left 1
  · (intro w hSw; go_simp; try with_reducible rfl)
  try simp only [Act.put, ls0, ls1, ls2]
  refine wtk 11 ?_ rfl (.inl ⟨by rfl, ?_⟩) ?_
  rotate_left 1
  · (intro w hSw; go_simp; try with_reducible rfl)
  try simp only [Act.put, ls0, ls1, ls2]
  refine wtk 12 ?_ rfl (.inl ⟨by rfl, ?_⟩) ?_
  rotate_left 1
  · (intro w hSw; go_simp; try with_reducible rfl)
  try simp only [Act.put, ls0, ls1, ls2]
  refine wrd [13] ?_
  refine (arc rfl (fun K hK => ?_) arn)
  go_simp
  go_at_call 108
  refine (fbuffer_any p hp x y hx hy _).mono ?_
  rintro e w9 ⟨rfl, hb⟩
  try go_wp2_with fail
  refine out_gen hK _ _ (fun wz : World => Kp (ButS [R, D] w wz) ∧ Kp (wz.heap[R]? = some (.cells #[.int .i64 p.src, .int .i64 p.rd, .int .i64 p.words, .int .i64 p.period, .int .u32 x, .int .u32 y, .int .i64 lf, .int .u32 sp, .slice da dn dc, nx] 119 (0, 0))) ∧ Kp (MemAt wz B D (ws)) ∧ Kp (wz.heap[w.heap.size]? = some (.cells #[.bool false, .int .i64 0, .slice none 0 0, .bool false, .int .i64 0, .bool false, .bool false, .bool false, .int .i64 0] 64 (0, 0))) ∧ wd0.heap.size ≤ wz.heap.size) ⟨⟨ButS.trans HS1.out (ButS.of_below hb)⟩, ⟨blk_below W1.out hb⟩, ⟨(M1.out.below hb)⟩, ⟨blk_below r1.out hb⟩, hb.size⟩ (sx_of0 (ButB.call (And.left hHeld) hb)) (fun wd1 hRn hHn => ?_)
  clear hK K hHeld HS1 W1 M1 r1 hb
  obtain ⟨HS1, W1, M1, r1, hsz1⟩ := hRn
  have hHeld := hHn
  clear hHn
  try simp only [Act.put, ls0, ls1, ls2]
  refine wrd [14] ?_
  refine (arc rfl (fun K hK => ?_) arn)
  go_simp
  go_at_call 83
  refine (fload_any B D ws (p.buf x y) h1.1 h1.2.1 _ M1.out).mono ?_
  rw [HV.out]
  rintro e w9 ⟨rfl, hw9⟩
  have hw8 := hw9.symm
  clear hw9
  subst hw8
  have hb : Below wd1.heap.size wd1 wd1 := Below.refl _ _
  try go_wp2_with fail
  refine out_gen hK _ _ (fun wz : World => Kp (ButS [R, D] w wz) ∧ Kp (wz.heap[R]? = some (.cells #[.int .i64 p.src, .int .i64 p.rd, .int .i64 p.words, .int .i64 p.period, .int .u32 x, .int .u32 y, .int .i64 lf, .int .u32 sp, .slice da dn dc, nx] 119 (0, 0))) ∧ Kp (MemAt wz B D (ws)) ∧ Kp (wz.heap[w.heap.size]? = some (.cells #[.bool false, .int .i64 0, .slice none 0 0, .bool false, .int .i64 0, .bool false, .bool false, .bool false, .int .i64 0] 64 (0, 0))) ∧ wd1.heap.size ≤ wz.heap.size) ⟨⟨ButS.trans HS1.out (ButS.of_below hb)⟩, ⟨blk_below W1.out hb⟩, ⟨(M1.out.below hb)⟩, ⟨blk_below r1.out hb⟩, hb.size⟩ (sx_of0 (ButB.call (And.left hHeld) hb)) (fun wd2 hRn hHn => ?_)
  clear hK K hHeld HS1 W1 M1 r1 hb
  obtain ⟨HS1, W1, M1, r1, hsz2⟩ := hRn
  have hHeld := hHn
  clear hHn
  try simp only [Act.put, ls0, ls1, ls2]
  refine wtk 15 ?_ rfl (.inl ⟨by rfl, ?_⟩) ?_
  rotate_left 1
  · (intro w hSw; go_simp; try with_reducible rfl)
  try simp only [Act.put, ls0, ls1, ls2]
  refine wpAnyH_done (by kernel_rfl) ?_ _
  clear c0 c1 c2 c3 c4 c5 c6 c7 c8 c9 cl
  clear hHeld
  have c0 := cbk W1.out 0 (.int .i64 p.src) rfl
  have c1 := cbk W1.out 1 (.int .i64 p.rd) rfl
  have c2 := cbk W1.out 2 (.int .i64 p.words) rfl
  have c3 := cbk W1.out 3 (.int .i64 p.period) rfl
  have c4 := cbk W1.out 4 (.int .u32 x) rfl
  have c5 := cbk W1.out 5 (.int .u32 y) rfl
  have c6 := cbk W1.out 6 (.int .i64 lf) rfl
  have c7 := cbk W1.out 7 (.int .u32 sp) rfl
  have c8 := cbk W1.out 8 (.slice da dn dc) rfl
  have c9 := cbk W1.out 9 (nx) rfl
  have cl := blk_lt W1.out
  go_wp2_with fail
  refine held_start_gen (S := (fun w' : World => ButB (wd2.heap.size) [] wd2 w' ∧ ∀ bb o, bb < wd2.heap.size → w'.cell? ⟨bb, o, none⟩ = wd2.cell? ⟨bb, o, none⟩)) (by kernel_rfl) (fun wz : World => Kp (ButS [R, D] w wz) ∧ Kp (wz.heap[R]? = some (.cells #[.int .i64 p.src, .int .i64 p.rd, .int .i64 p.words, .int .i64 p.period, .int .u32 x, .int .u32 y, .int .i64 lf, .int .u32 sp, .slice da dn dc, nx] 119 (0, 0))) ∧ Kp (MemAt wz B D (ws)) ∧ Kp (wz.heap[w.heap.size]? = some (.cells #[.bool false, .int .i64 0, .slice none 0 0, .bool false, .int .i64 0, .bool false, .bool false, .bool false, .int .i64 0] 64 (0, 0))) ∧ wd2.heap.size ≤ wz.heap.size) ⟨⟨ButS.dr HS1.out⟩, ⟨blk_dr W1.out⟩, ⟨(M1.out.below (below_dr (Below.refl _ _)))⟩, ⟨blk_dr r1.out⟩, Nat.le_refl _⟩ (sx_of0 (ButB.dr (ButB.refl _ (by omega)))) (fun wd0 hRn hHeld => ?_)
  clear HS1 W1 M1 r1
  obtain ⟨HS1, W1, M1, r1, hsz⟩ := hRn
  refine wtk 0 ?_ rfl (.inl ⟨by rfl, ?_⟩) ?_
  rotate_left 1
  · (intro w hSw; go_simp; try with_reducible rfl)
  try simp only [Act.put, ls0, ls1, ls2]
  refine wtk 1 ?_ rfl (.inl ⟨by rfl, ?_⟩) ?_
  rotate_left 1
  · (intro w hSw; go_simp; try with_reducible rfl)
  try simp only [Act.put, ls0, ls1, ls2]
  refine wtk 2 ?_ rfl (.inl ⟨by rfl, ?_⟩) ?_
  rotate_left 1
  · (intro w hSw; go_simp; try with_reducible rfl)
  try simp only [Act.put, ls0, ls1, ls2]
  refine wtk 3 ?_ rfl (.inl ⟨by rfl, ?_⟩) ?_
  rotate_left 1
  · (intro w hSw; go_simp; try with_reducible rfl)
  try simp only [Act.put, ls0, ls1, ls2]
  refine wtk 4 ?_ rfl (.inl ⟨by rfl, ?_⟩) ?_
  rotate_left 1
  · (intro w hSw; go_simp; try with_reducible rfl)
  try simp only [Act.put, ls0, ls1, ls2]
  refine wtk 5 ?_ rfl (.inl ⟨by rfl, ?_⟩) ?_
  rotate_left 1
  · (intro w hSw; go_simp; try with_reducible rfl)
  try simp only [Act.put, ls0, ls1, ls2]
  refine wtk 6 ?_ rfl (.inl ⟨by rfl, ?_⟩) ?_
  rotate_left 1
  · (intro w hSw; go_simp; try with_reducible rfl)
  try simp only [Act.put, ls0, ls1, ls2]
  refine wtk 7 ?_ rfl (.inl ⟨by rfl, ?_⟩) ?_
  rotate_left 1
  · (intro w hSw; go_simp; try with_reducible rfl)
  try simp only [Act.put, ls0, ls1, ls2]
  refine wtk 8 ?_ rfl (.inl ⟨by rfl, ?_⟩) ?_
  rotate_left 1
  · (intro w hSw; go_simp; try with_reducible rfl)
  try simp only [Act.put, ls0, ls1, ls2]
  refine wtk 9 ?_ rfl (.inl ⟨by rfl, ?_⟩) ?_
  rotate_left 1
  · (intro w hSw; go_simp; try with_reducible rfl)
  try simp only [Act.put, ls0, ls1, ls2]
  refine wtk 10 ?_ rfl (.inl ⟨by rfl, ?_⟩) ?_
  rotate_left 1
  · (intro w hSw; go_simp; try with_reducible rfl)
  try simp only [Act.put, ls0, ls1, ls2]
  refine wtk 11 ?_ rfl (.inl ⟨by rfl, ?_⟩) ?_
  rotate_left 1
  · (intro w hSw; go_simp; try with_reducible rfl)
  try simp only [Act.put, ls0, ls1, ls2]
  refine wtk 12 ?_ rfl (.inl ⟨by rfl, ?_⟩) ?_
  rotate_left 1
  · (intro w hSw; go_simp; try with_reducible rfl)
  try simp only [Act.put, ls0, ls1, ls2]
  refine wrd [13] ?_
  refine (arc rfl (fun K hK => ?_) arn)
  have ge_qb : wd2.heap.size ≤ wd0.heap.size := (And.left hHeld).size
  go_simp
  try go_wp2_with fail
  refine out_gen hK _ _ (fun wz : World => Kp (ButS [R, D] w wz) ∧ Kp (wz.heap[R]? = some (.cells #[.int .i64 p.src, .int .i64 p.rd, .int .i64 p.words, .int .i64 p.period, .int .u32 x, .int .u32 y, .int .i64 lf, .int .u32 sp, .slice da dn dc, nx] 119 (0, 0))) ∧ Kp (MemAt wz B D (ws)) ∧ Kp (wz.heap[w.heap.size]? = some (.cells #[.bool false, .int .i64 0, .slice none 0 0, .bool false, .int .i64 0, .bool false, .bool false, .bool false, .int .i64 0] 64 (0, 0))) ∧ Kp (wz.heap[wd0.heap.size]? = some (.cells #[.bool false, .int .i64 0, .slice none 0 0, .bool false, .int .i64 0, .bool false, .bool false, .bool false, .int .i64 0] 64 (0, 0))) ∧ wd0.heap.size < wz.heap.size) ⟨⟨ButS.al HS1.out _⟩, ⟨blk_al W1.out _⟩, ⟨(M1.out.al _)⟩, ⟨blk_al r1.out _⟩, ⟨blk_new wd0 _⟩, (by simp)⟩ (sx_of0 (ButB.al (And.left hHeld) _)) (fun wd1 hRn hHn => ?_)
  clear hK K hHeld HS1 W1 M1 r1
  obtain ⟨HS1, W1, M1, r1, qb, hsz1⟩ := hRn
  have hHeld := hHn
  clear hHn
  try simp only [Act.put, ls0, ls1, ls2]
  have lt_qb := blk_lt qb.out
  refine wrd [14] ?_
  refine (arc rfl (fun K hK => ?_) arn)
  have sd0 := cbk qb.out 0 (.bool false) rfl
  have sf0 := frozen_blk qb.out 0
  have sd1 := cbk qb.out 1 (.int .i64 0) rfl
  have sf1 := frozen_blk qb.out 1
  have sd2 := cbk qb.out 2 (.slice none 0 0) rfl
  have sf2 := frozen_blk qb.out 2
  have sd3 := cbk qb.out 3 (.bool false) rfl
  have sf3 := frozen_blk qb.out 3
  have sd4 := cbk qb.out 4 (.int .i64 0) rfl
  have sf4 := frozen_blk qb.out 4
  have sd5 := cbk qb.out 5 (.bool false) rfl
  have sf5 := frozen_blk qb.out 5
  have sd6 := cbk qb.out 6 (.bool false) rfl
  have sf6 := frozen_blk qb.out 6
  have sd7 := cbk qb.out 7 (.bool false) rfl
  have sf7 := frozen_blk qb.out 7
  have sd8 := cbk qb.out 8 (.int .i64 0) rfl
  have sf8 := frozen_blk qb.out 8
  have sl := blk_lt qb.out
  go_simp
  try go_wp2_with fail
  refine out_gen hK _ _ (fun wz : World => Kp (ButS [R, D] w wz) ∧ Kp (wz.heap[R]? = some (.cells #[.int .i64 p.src, .int .i64 p.rd, .int .i64 p.words, .int .i64 p.period, .int .u32 x, .int .u32 y, .int .i64 lf, .int .u32 sp, .slice da dn dc, nx] 119 (0, 0))) ∧ Kp (MemAt wz B D (ws)) ∧ Kp (wz.heap[w.heap.size]? = some (.cells #[.bool false, .int .i64 0, .slice none 0 0, .bool false, .int .i64 0, .bool false, .bool false, .bool false, .int .i64 0] 64 (0, 0))) ∧ Kp (wz.heap[wd0.heap.size]? = some (.cells #[.bool false, .int .i64 0, .slice none 0 0, .bool false, .int .i64 0, .bool false, .bool false, .bool false, .int .i64 (1 + (2 * x + y))] 64 (0, 0))) ∧ wd1.heap.size ≤ wz.heap.size) ⟨⟨(ButS.set' (ButS.set' (ButS.set' (ButS.set' (ButS.set' (ButS.set' (ButS.set' (ButS.set' (ButS.set' HS1.out (p := ⟨wd0.heap.size, 0, none⟩) (by first | (left; simp; done) | (right; show _ ≤ wd0.heap.size; omega)) _) (p := ⟨wd0.heap.size, 1, none⟩) (by first | (left; simp; done) | (right; show _ ≤ wd0.heap.size; omega)) _) (p := ⟨wd0.heap.size, 2, none⟩) (by first | (left; simp; done) | (right; show _ ≤ wd0.heap.size; omega)) _) (p := ⟨wd0.heap.size, 3, none⟩) (by first | (left; simp; done) | (right; show _ ≤ wd0.heap.size; omega)) _) (p := ⟨wd0.heap.size, 4, none⟩) (by first | (left; simp; done) | (right; show _ ≤ wd0.heap.size; omega)) _) (p := ⟨wd0.heap.size, 5, none⟩) (by first | (left; simp; done) | (right; show _ ≤ wd0.heap.size; omega)) _) (p := ⟨wd0.heap.size, 6, none⟩) (by first | (left; simp; done) | (right; show _ ≤ wd0.heap.size; omega)) _) (p := ⟨wd0.heap.size, 7, none⟩) (by first | (left; simp; done) | (right; show _ ≤ wd0.heap.size; omega)) _) (p := ⟨wd0.heap.size, 8, none⟩) (by first | (left; simp; done) | (right; show _ ≤ wd0.heap.size; omega)) _)⟩, ⟨(blk_set_ne (p := ⟨wd0.heap.size, 8, none⟩) (blk_set_ne (p := ⟨wd0.heap.size, 7, none⟩) (blk_set_ne (p := ⟨wd0.heap.size, 6, none⟩) (blk_set_ne (p := ⟨wd0.heap.size, 5, none⟩) (blk_set_ne (p := ⟨wd0.heap.size, 4, none⟩) (blk_set_ne (p := ⟨wd0.heap.size, 3, none⟩) (blk_set_ne (p := ⟨wd0.heap.size, 2, none⟩) (blk_set_ne (p := ⟨wd0.heap.size, 1, none⟩) (blk_set_ne (p := ⟨wd0.heap.size, 0, none⟩) W1.out (by show R ≠ wd0.heap.size; omega) _) (by show R ≠ wd0.heap.size; omega) _) (by show R ≠ wd0.heap.size; omega) _) (by show R ≠ wd0.heap.size; omega) _) (by show R ≠ wd0.heap.size; omega) _) (by show R ≠ wd0.heap.size; omega) _) (by show R ≠ wd0.heap.size; omega) _) (by show R ≠ wd0.heap.size; omega) _) (by show R ≠ wd0.heap.size; omega) _)⟩, ⟨(MemAt.setne (MemAt.setne (MemAt.setne (MemAt.setne (MemAt.setne (MemAt.setne (MemAt.setne (MemAt.setne (MemAt.setne M1.out (p := ⟨wd0.heap.size, 0, none⟩) (by show B ≠ wd0.heap.size; omega) (by show D ≠ wd0.heap.size; omega) _) (p := ⟨wd0.heap.size, 1, none⟩) (by show B ≠ wd0.heap.size; omega) (by show D ≠ wd0.heap.size; omega) _) (p := ⟨wd0.heap.size, 2, none⟩) (by show B ≠ wd0.heap.size; omega) (by show D ≠ wd0.heap.size; omega) _) (p := ⟨wd0.heap.size, 3, none⟩) (by show B ≠ wd0.heap.size; omega) (by show D ≠ wd0.heap.size; omega) _) (p := ⟨wd0.heap.size, 4, none⟩) (by show B ≠ wd0.heap.size; omega) (by show D ≠ wd0.heap.size; omega) _) (p := ⟨wd0.heap.size, 5, none⟩) (by show B ≠ wd0.heap.size; omega) (by show D ≠ wd0.heap.size; omega) _) (p := ⟨wd0.heap.size, 6, none⟩) (by show B ≠ wd0.heap.size; omega) (by show D ≠ wd0.heap.size; omega) _) (p := ⟨wd0.heap.size, 7, none⟩) (by show B ≠ wd0.heap.size; omega) (by show D ≠ wd0.heap.size; omega) _) (p := ⟨wd0.heap.size, 8, none⟩) (by show B ≠ wd0.heap.size; omega) (by show D ≠ wd0.heap.size; omega) _)⟩, ⟨(blk_set_ne (p := ⟨wd0.heap.size, 8, none⟩) (blk_set_ne (p := ⟨wd0.heap.size, 7, none⟩) (blk_set_ne (p := ⟨wd0.heap.size, 6, none⟩) (blk_set_ne (p := ⟨wd0.heap.size, 5, none⟩) (blk_set_ne (p := ⟨wd0.heap.size, 4, none⟩) (blk_set_ne (p := ⟨wd0.heap.size, 3, none⟩) (blk_set_ne (p := ⟨wd0.heap.size, 2, none⟩) (blk_set_ne (p := ⟨wd0.heap.size, 1, none⟩) (blk_set_ne (p := ⟨wd0.heap.size, 0, none⟩) r1.out (by show w.heap.size ≠ wd0.heap.size; omega) _) (by show w.heap.size ≠ wd0.heap.size; omega) _) (by show w.heap.size ≠ wd0.heap.size; omega) _) (by show w.heap.size ≠ wd0.heap.size; omega) _) (by show w.heap.size ≠ wd0.heap.size; omega) _) (by show w.heap.size ≠ wd0.heap.size; omega) _) (by show w.heap.size ≠ wd0.heap.size; omega) _) (by show w.heap.size ≠ wd0.heap.size; omega) _) (by show w.heap.size ≠ wd0.heap.size; omega) _)⟩, ⟨(blk_set (blk_set (blk_set (blk_set (blk_set (blk_set (blk_set (blk_set (blk_set qb.out 0 _) 1 _) 2 _) 3 _) 4 _) 5 _) 6 _) 7 _) 8 _).trans rfl⟩, (by simp [World.setCell])⟩ (sx_of0 ((ButB.set (ButB.set (ButB.set (ButB.set (ButB.set (ButB.set (ButB.set (ButB.set (ButB.set (And.left hHeld) (p := ⟨wd0.heap.size, 0, none⟩) (by first | (left; simp; done) | (right; show _ ≤ wd0.heap.size; omega)) _) (p := ⟨wd0.heap.size, 1, none⟩) (by first | (left; simp; done) | (right; show _ ≤ wd0.heap.size; omega)) _) (p := ⟨wd0.heap.size, 2, none⟩) (by first | (left; simp; done) | (right; show _ ≤ wd0.heap.size; omega)) _) (p := ⟨wd0.heap.size, 3, none⟩) (by first | (left; simp; done) | (right; show _ ≤ wd0.heap.size; omega)) _) (p := ⟨wd0.heap.size, 4, none⟩) (by first | (left; simp; done) | (right; show _ ≤ wd0.heap.size; omega)) _) (p := ⟨wd0.heap.size, 5, none⟩) (by first | (left; simp; done) | (right; show _ ≤ wd0.heap.size; omega)) _) (p := ⟨wd0.heap.size, 6, none⟩) (by first | (left; simp; done) | (right; show _ ≤ wd0.heap.size; omega)) _) (p := ⟨wd0.heap.size, 7, none⟩) (by first | (left; simp; done) | (right; show _ ≤ wd0.heap.size; omega)) _) (p := ⟨wd0.heap.size, 8, none⟩) (by first | (left; simp; done) | (right; show _ ≤ wd0.heap.size; omega)) _))) (fun wd2 hRn hHn => ?_)
  clear hK K hHeld HS1 W1 M1 r1 qb sd0 sf0 sd1 sf1 sd2 sf2 sd3 sf3 sd4 sf4 sd5 sf5 sd6 sf6 sd7 sf7 sd8 sf8 sl
  obtain ⟨HS1, W1, M1, r1, qb, hsz2⟩ := hRn
  have hHeld := hHn
  clear hHn
  try simp only [Act.put, ls0, ls1, ls2]
  refine wpAnyH_done (by kernel_rfl) ?_ _
  clear c0 c1 c2 c3 c4 c5 c6 c7 c8 c9 cl
  clear hHeld
  have hq1 : w.heap.size < wd0.heap.size := by omega
  rcases HM2.out with ⟨hle, hmm⟩ | ⟨hle, hmm⟩
  · subst hmm
    have hle2 : ¬ (p.words < v) := by omega
    have q0 := cbk r1.out 0 (.bool false) rfl
    have q1 := cbk r1.out 1 (.int .i64 0) rfl
    have q2 := cbk r1.out 2 (.slice none 0 0) rfl
    have q3 := cbk r1.out 3 (.bool false) rfl
    have q4 := cbk r1.out 4 (.int .i64 0) rfl
    have q5 := cbk r1.out 5 (.bool false) rfl
    have q6 := cbk r1.out 6 (.bool false) rfl
    have q7 := cbk r1.out 7 (.bool false) rfl
    have q8 := cbk r1.out 8 (.int .i64 0) rfl
    have qf0 := frozen_blk r1.out 0
    have qf1 := frozen_blk r1.out 1
    have qf2 := frozen_blk r1.out 2
    have qf3 := frozen_blk r1.out 3
    have qf4 := frozen_blk r1.out 4
    have qf5 := frozen_blk r1.out 5
    have qf6 := frozen_blk r1.out 6
    have qf7 := frozen_blk r1.out 7
    have qf8 := frozen_blk r1.out 8
    have ql := blk_lt r1.out
    have u0 := cbk W1.out 0 (.int .i64 p.src) rfl
    have u1 := cbk W1.out 1 (.int .i64 p.rd) rfl
    have u2 := cbk W1.out 2 (.int .i64 p.words) rfl
    have u3 := cbk W1.out 3 (.int .i64 p.period) rfl
    have u4 := cbk W1.out 4 (.int .u32 x) rfl
    have u5 := cbk W1.out 5 (.int .u32 y) rfl
    have u6 := cbk W1.out 6 (.int .i64 lf) rfl
    have u7 := cbk W1.out 7 (.int .u32 sp) rfl
    have u8 := cbk W1.out 8 (.slice da dn dc) rfl
    have u9 := cbk W1.out 9 (nx) rfl
    have uf6 := frozen_blk W1.out 6
    have ul := blk_lt W1.out
    have z0 := cbk qb.out 0 (.bool false) rfl
    have z1 := cbk qb.out 1 (.int .i64 0) rfl
    have z2 := cbk qb.out 2 (.slice none 0 0) rfl
    have z3 := cbk qb.out 3 (.bool false) rfl
    have z4 := cbk qb.out 4 (.int .i64 0) rfl
    have z5 := cbk qb.out 5 (.bool false) rfl
    have z6 := cbk qb.out 6 (.bool false) rfl
    have z7 := cbk qb.out 7 (.bool false) rfl
    have z8 := cbk qb.out 8 (.int .i64 (1 + (2 * x + y))) rfl
    have zl := blk_lt qb.out
    go_wp2
    refine bodyPost_ret (v := .tuple #[.agg #[.bool false, .int .i64 0, .slice none 0 0, .bool false, .int .i64 0, .bool false, .bool false, .bool false, .int .i64 (1 + (2 * x + y))], .func (.func 113) #[.pointer (some ⟨R, 0, none⟩)] #[]]) ?_ rfl ?_
    · refine (results_row_tmp (fn := Tryz.f110) (p := 6) (u := 7) (ty := 64) rfl _ _ w.heap.size 64 #[.bool false, .int .i64 0, .slice none 0 0, .bool false, .int .i64 0, .bool false, .bool false, .bool false, .int .i64 (1 + (2 * x + y))] (0, 0) _ (by go_simp) ((blk_set (blk_set (blk_set (blk_set (blk_set (blk_set (blk_set (blk_set (blk_set (blk_set_ne (p := ⟨R, 6, none⟩) r1.out (by show w.heap.size ≠ R; omega) _) 0 _) 1 _) 2 _) 3 _) 4 _) 5 _) 6 _) 7 _) 8 _).trans (by rfl)) Tryz.underlying64 rfl (by kernel_rfl)).trans ?_
      rfl
    · exact ⟨rfl, (blk_set_ne (p := ⟨w.heap.size, 8, none⟩) (blk_set_ne (p := ⟨w.heap.size, 7, none⟩) (blk_set_ne (p := ⟨w.heap.size, 6, none⟩) (blk_set_ne (p := ⟨w.heap.size, 5, none⟩) (blk_set_ne (p := ⟨w.heap.size, 4, none⟩) (blk_set_ne (p := ⟨w.heap.size, 3, none⟩) (blk_set_ne (p := ⟨w.heap.size, 2, none⟩) (blk_set_ne (p := ⟨w.heap.size, 1, none⟩) (blk_set_ne (p := ⟨w.heap.size, 0, none⟩) (blk_set W1.out 6 _) (by show R ≠ w.heap.size; omega) _) (by show R ≠ w.heap.size; omega) _) (by show R ≠ w.heap.size; omega) _) (by show R ≠ w.heap.size; omega) _) (by show R ≠ w.heap.size; omega) _) (by show R ≠ w.heap.size; omega) _) (by show R ≠ w.heap.size; omega) _) (by show R ≠ w.heap.size; omega) _) (by show R ≠ w.heap.size; omega) _).trans (by rfl), (MemAt.setne (MemAt.setne (MemAt.setne (MemAt.setne (MemAt.setne (MemAt.setne (MemAt.setne (MemAt.setne (MemAt.setne (MemAt.setne M1.out (p := ⟨R, 6, none⟩) (by show B ≠ R; omega) (by show D ≠ R; omega) _) (p := ⟨w.heap.size, 0, none⟩) (by show B ≠ w.heap.size; omega) (by show D ≠ w.heap.size; omega) _) (p := ⟨w.heap.size, 1, none⟩) (by show B ≠ w.heap.size; omega) (by show D ≠ w.heap.size; omega) _) (p := ⟨w.heap.size, 2, none⟩) (by show B ≠ w.heap.size; omega) (by show D ≠ w.heap.size; omega) _) (p := ⟨w.heap.size, 3, none⟩) (by show B ≠ w.heap.size; omega) (by show D ≠ w.heap.size; omega) _) (p := ⟨w.heap.size, 4, none⟩) (by show B ≠ w.heap.size; omega) (by show D ≠ w.heap.size; omega) _) (p := ⟨w.heap.size, 5, none⟩) (by show B ≠ w.heap.size; omega) (by show D ≠ w.heap.size; omega) _) (p := ⟨w.heap.size, 6, none⟩) (by show B ≠ w.heap.size; omega) (by show D ≠ w.heap.size; omega) _) (p := ⟨w.heap.size, 7, none⟩) (by show B ≠ w.heap.size; omega) (by show D ≠ w.heap.size; omega) _) (p := ⟨w.heap.size, 8, none⟩) (by show B ≠ w.heap.size; omega) (by show D ≠ w.heap.size; omega) _), (ButS.set' (ButS.set' (ButS.set' (ButS.set' (ButS.set' (ButS.set' (ButS.set' (ButS.set' (ButS.set' (ButS.set' HS1.out (p := ⟨R, 6, none⟩) (by first | (left; simp; done) | (right; show _ ≤ R; omega)) _) (p := ⟨w.heap.size, 0, none⟩) (by first | (left; simp; done) | (right; show _ ≤ w.heap.size; omega)) _) (p := ⟨w.heap.size, 1, none⟩) (by first | (left; simp; done) | (right; show _ ≤ w.heap.size; omega)) _) (p := ⟨w.heap.size, 2, none⟩) (by first | (left; simp; done) | (right; show _ ≤ w.heap.size; omega)) _) (p := ⟨w.heap.size, 3, none⟩) (by first | (left; simp; done) | (right; show _ ≤ w.heap.size; omega)) _) (p := ⟨w.heap.size, 4, none⟩) (by first | (left; simp; done) | (right; show _ ≤ w.heap.size; omega)) _) (p := ⟨w.heap.size, 5, none⟩) (by first | (left; simp; done) | (right; show _ ≤ w.heap.size; omega)) _) (p := ⟨w.heap.size, 6, none⟩) (by first | (left; simp; done) | (right; show _ ≤ w.heap.size; omega)) _) (p := ⟨w.heap.size, 7, none⟩) (by first | (left; simp; done) | (right; show _ ≤ w.heap.size; omega)) _) (p := ⟨w.heap.size, 8, none⟩) (by first | (left; simp; done) | (right; show _ ≤ w.heap.size; omega)) _)⟩
  · subst hmm
    have hle2 : ¬ (v ≤ p.words) := by omega
    have hle3 : ¬ (v < p.words) := by omega
    have q0 := cbk r1.out 0 (.bool false) rfl
    have q1 := cbk r1.out 1 (.int .i64 0) rfl
    have q2 := cbk r1.out 2 (.slice none 0 0) rfl
    have q3 := cbk r1.out 3 (.bool false) rfl
    have q4 := cbk r1.out 4 (.int .i64 0) rfl
    have q5 := cbk r1.out 5 (.bool false) rfl
    have q6 := cbk r1.out 6 (.bool false) rfl
    have q7 := cbk r1.out 7 (.bool false) rfl
    have q8 := cbk r1.out 8 (.int .i64 0) rfl
    have qf0 := frozen_blk r1.out 0
    have qf1 := frozen_blk r1.out 1
    have qf2 := frozen_blk r1.out 2
    have qf3 := frozen_blk r1.out 3
    have qf4 := frozen_blk r1.out 4
    have qf5 := frozen_blk r1.out 5
    have qf6 := frozen_blk r1.out 6
    have qf7 := frozen_blk r1.out 7
    have qf8 := frozen_blk r1.out 8
    have ql := blk_lt r1.out
    have u0 := cbk W1.out 0 (.int .i64 p.src) rfl
    have u1 := cbk W1.out 1 (.int .i64 p.rd) rfl
    have u2 := cbk W1.out 2 (.int .i64 p.words) rfl
    have u3 := cbk W1.out 3 (.int .i64 p.period) rfl
    have u4 := cbk W1.out 4 (.int .u32 x) rfl
    have u5 := cbk W1.out 5 (.int .u32 y) rfl
    have u6 := cbk W1.out 6 (.int .i64 lf) rfl
    have u7 := cbk W1.out 7 (.int .u32 sp) rfl
    have u8 := cbk W1.out 8 (.slice da dn dc) rfl
    have u9 := cbk W1.out 9 (nx) rfl
    have uf6 := frozen_blk W1.out 6
    have ul := blk_lt W1.out
    have z0 := cbk qb.out 0 (.bool false) rfl
    have z1 := cbk qb.out 1 (.int .i64 0) rfl
    have z2 := cbk qb.out 2 (.slice none 0 0) rfl
    have z3 := cbk qb.out 3 (.bool false) rfl
    have z4 := cbk qb.out 4 (.int .i64 0) rfl
    have z5 := cbk qb.out 5 (.bool false) rfl
    have z6 := cbk qb.out 6 (.bool false) rfl
    have z7 := cbk qb.out 7 (.bool false) rfl
    have z8 := cbk qb.out 8 (.int .i64 (1 + (2 * x + y))) rfl
    have zl := blk_lt qb.out
    go_wp2
    refine bodyPost_ret (v := .tuple #[.agg #[.bool false, .int .i64 0, .slice none 0 0, .bool false, .int .i64 0, .bool false, .bool false, .bool false, .int .i64 (1 + (2 * x + y))], .func (.func 113) #[.pointer (some ⟨R, 0, none⟩)] #[]]) ?_ rfl ?_
    · refine (results_row_tmp (fn := Tryz.f110) (p := 6) (u := 7) (ty := 64) rfl _ _ w.heap.size 64 #[.bool false, .int .i64 0, .slice none 0 0, .bool false, .int .i64 0, .bool false, .bool false, .bool false, .int .i64 (1 + (2 * x + y))] (0, 0) _ (by go_simp) ((blk_set (blk_set (blk_set (blk_set (blk_set (blk_set (blk_set (blk_set (blk_set (blk_set_ne (p := ⟨R, 6, none⟩) r1.out (by show w.heap.size ≠ R; omega) _) 0 _) 1 _) 2 _) 3 _) 4 _) 5 _) 6 _) 7 _) 8 _).trans (by rfl)) Tryz.underlying64 rfl (by kernel_rfl)).trans ?_
      rfl
    · exact ⟨rfl, (blk_set_ne (p := ⟨w.heap.size, 8, none⟩) (blk_set_ne (p := ⟨w.heap.size, 7, none⟩) (blk_set_ne (p := ⟨w.heap.size, 6, none⟩) (blk_set_ne (p := ⟨w.heap.size, 5, none⟩) (blk_set_ne (p := ⟨w.heap.size, 4, none⟩) (blk_set_ne (p := ⟨w.heap.size, 3, none⟩) (blk_set_ne (p := ⟨w.heap.size, 2, none⟩) (blk_set_ne (p := ⟨w.heap.size, 1, none⟩) (blk_set_ne (p := ⟨w.heap.size, 0, none⟩) (blk_set W1.out 6 _) (by show R ≠ w.heap.size; omega) _) (by show R ≠ w.heap.size; omega) _) (by show R ≠ w.heap.size; omega) _) (by show R ≠ w.heap.size; omega) _) (by show R ≠ w.heap.size; omega) _) (by show R ≠ w.heap.size; omega) _) (by show R ≠ w.heap.size; omega) _) (by show R ≠ w.heap.size; omega) _) (by show R ≠ w.heap.size; omega) _).trans (by rfl), (MemAt.setne (MemAt.setne (MemAt.setne (MemAt.setne (MemAt.setne (MemAt.setne (MemAt.setne (MemAt.setne (MemAt.setne (MemAt.setne M1.out (p := ⟨R, 6, none⟩) (by show B ≠ R; omega) (by show D ≠ R; omega) _) (p := ⟨w.heap.size, 0, none⟩) (by show B ≠ w.heap.size; omega) (by show D ≠ w.heap.size; omega) _) (p := ⟨w.heap.size, 1, none⟩) (by show B ≠ w.heap.size; omega) (by show D ≠ w.heap.size; omega) _) (p := ⟨w.heap.size, 2, none⟩) (by show B ≠ w.heap.size; omega) (by show D ≠ w.heap.size; omega) _) (p := ⟨w.heap.size, 3, none⟩) (by show B ≠ w.heap.size; omega) (by show D ≠ w.heap.size; omega) _) (p := ⟨w.heap.size, 4, none⟩) (by show B ≠ w.heap.size; omega) (by show D ≠ w.heap.size; omega) _) (p := ⟨w.heap.size, 5, none⟩) (by show B ≠ w.heap.size; omega) (by show D ≠ w.heap.size; omega) _) (p := ⟨w.heap.size, 6, none⟩) (by show B ≠ w.heap.size; omega) (by show D ≠ w.heap.size; omega) _) (p := ⟨w.heap.size, 7, none⟩) (by show B ≠ w.heap.size; omega) (by show D ≠ w.heap.size; omega) _) (p := ⟨w.heap.size, 8, none⟩) (by show B ≠ w.heap.size; omega) (by show D ≠ w.heap.size; omega) _), (ButS.set' (ButS.set' (ButS.set' (ButS.set' (ButS.set' (ButS.set' (ButS.set' (ButS.set' (ButS.set' (ButS.set' HS1.out (p := ⟨R, 6, none⟩) (by first | (left; simp; done) | (right; show _ ≤ R; omega)) _) (p := ⟨w.heap.size, 0, none⟩) (by first | (left; simp; done) | (right; show _ ≤ w.heap.size; omega)) _) (p := ⟨w.heap.size, 1, none⟩) (by first | (left; simp; done) | (right; show _ ≤ w.heap.size; omega)) _) (p := ⟨w.heap.size, 2, none⟩) (by first | (left; simp; done) | (right; show _ ≤ w.heap.size; omega)) _) (p := ⟨w.heap.size, 3, none⟩) (by first | (left; simp; done) | (right; show _ ≤ w.heap.size; omega)) _) (p := ⟨w.heap.size, 4, none⟩) (by first | (left; simp; done) | (right; show _ ≤ w.heap.size; omega)) _) (p := ⟨w.heap.size, 5, none⟩) (by first | (left; simp; done) | (right; show _ ≤ w.heap.size; omega)) _) (p := ⟨w.heap.size, 6, none⟩) (by first | (left; simp; done) | (right; show _ ≤ w.heap.size; omega)) _) (p := ⟨w.heap.size, 7, none⟩) (by first | (left; simp; done) | (right; show _ ≤ w.heap.size; omega)) _) (p := ⟨w.heap.size, 8, none⟩) (by first | (left; simp; done) | (right; show _ ≤ w.heap.size; omega)) _)⟩
def rcs (p : Plc) (x y lf sp : Int) (d nx : Value) : Array Value := #[.int .i64 p.src, .int .i64 p.rd, .int .i64 p.words, .int .i64 p.period, .int .u32 x, .int .u32 y, .int .i64 lf, .int .u32 sp, d, nx]
def dz : Array Value := #[.bool false, .int .i64 0, .slice none 0 0, .bool false, .int .i64 0, .bool false, .bool false, .bool false, .int .i64 0]
theorem own_drN {w : World} {n0 : Nat} {base : Nat} {e : TypeId} {k : Nat} {v : Value} {n : Nat} {cs : List Value} (h : w.ownsRow base e k v n cs) : (w.drewN n0).ownsRow base e k v n cs := h
theorem own_set_blk {w : World} {base : Nat} {e : TypeId} {k : Nat} {g n0 cap n : Nat} {cs : List Value} (h : w.ownsRow base e k (.slice (some ⟨g, 0, none⟩) n0 cap) n cs) {p : Addr} (hp : g ≠ p.block) (u : Value) : (w.setCell p u).ownsRow base e k (.slice (some ⟨g, 0, none⟩) n0 cap) n cs := by
  obtain ⟨h0, h | ⟨g', cap', cur, h1, h2, h3, r⟩⟩ := h
  · exact ⟨h0, .inl h⟩
  · have h1' := h1
    simp only [Value.slice.injEq, Option.some.injEq, Addr.mk.injEq] at h1'
    have e1 : g = g' := h1'.1.1
    exact ⟨h0, .inr ⟨g', cap', cur, h1, h2, blk_set_ne h3 (by rw [← e1]; exact hp) u, r⟩⟩
end Go.Proofs.YtmidcnfmphlneaaGreat

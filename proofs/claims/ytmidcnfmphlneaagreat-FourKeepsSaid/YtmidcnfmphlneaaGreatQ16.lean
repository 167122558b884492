/- Contracts of package four: the reader's last word. -/
import Derived.Test.YtmidcnfmphlneaaGreatQ14
import Derived.Test.YtmidcnfmphlneaaGreatQ15
namespace Go.Proofs.YtmidcnfmphlneaaGreat
open Go.RowKit
set_option linter.unusedSimpArgs false
set_option linter.unusedVariables false
set_option maxRecDepth 100000 in
set_option maxHeartbeats 4000000 in
theorem rwordL_any (p : Plc) (hp : p.low) (R B D : Nat) (ws : List Int) (x y : Int) (lf sp : Int) (da : Option Addr) (dn dc : Nat) (nx : Value) (now : Int) (hi : p.In ws.length) (hws : Words ws) (hx : bit x) (hy : bit y) (hdw : (dn : Int) + 1 ≤ p.words) (l : List Int) (bs : Nat) (hlf : decide (((dn : Int) + 1) < lf) = false) (hsp : 0 ≤ sp ∧ sp < 4294967296) (hnow : 0 ≤ now ∧ now ≤ 1099511627776) (w : World) (hW : w.heap[R]? = some (.cells #[.int .i64 p.src, .int .i64 p.rd, .int .i64 p.words, .int .i64 p.period, .int .u32 x, .int .u32 y, .int .i64 lf, .int .u32 sp, .slice da dn dc, nx] 119 (0, 0))) (h : MemAt w B D ws) (hown : w.ownsRow bs 41 1 (.slice da dn dc) dn (u32s l)) (hRb : R < bs) (hBb : B < bs) (hDb : D < bs) (hbs : bs ≤ w.heap.size) : Calls Tryz.prog 116 #[.pointer (some ⟨R, 0, none⟩), .pointer (some ⟨B, 0, none⟩), .int .i64 now] w fun e w' =>
    ∃ g cap, e = .returned (.tuple #[.agg #[.bool true, .int .i64 0, .slice (some ⟨g, 0, none⟩) (dn + 1) cap, .bool (decide (now - sp ≤ p.period)), .int .i64 0, .bool false, .bool false, .bool false, .int .i64 0], .nilFunc]) ∧ w'.heap[R]? = some (.cells #[.int .i64 p.src, .int .i64 p.rd, .int .i64 p.words, .int .i64 p.period, .int .u32 x, .int .u32 y, .int .i64 lf, .int .u32 sp, .slice (some ⟨g, 0, none⟩) (dn + 1) cap, nx] 119 (0, 0)) ∧ MemAt w' B D ws ∧ ButS (R :: D :: (Value.slice da dn dc).ownBlock.toList) w w' ∧ w'.ownsRow bs 41 1 (.slice (some ⟨g, 0, none⟩) (dn + 1) cap) (dn + 1) (u32s (l ++ [ldW ws (p.buf x y + 2 + dn)])) ∧ ((Value.slice da dn dc).ownBlock = some g ∨ w.heap.size < g) := by
  obtain ⟨i0, hi0, hz0, hz1, hz2⟩ := info_parts Tryz.infoU32
  have HM := Kp.mk h
  have HW := Kp.mk hW
  have HO0 := Kp.mk hown
  have lW := blk_lt hW
  have lD := blk_lt h.words
  have lB := blk_lt h.head
  have hgl : ∀ q, (Value.slice da dn dc).ownBlock = some q → q < w.heap.size := fun q hq => by
    rcases hown.2 with ⟨e, _⟩ | ⟨g, cap, cur, e, _, hg, _⟩
    · rw [e] at hq; cases hq
    · rw [e] at hq
      have h1 : g = q := by simpa [Value.ownBlock] using hq
      rw [← h1]
      exact blk_lt hg
  have HGL := Kp.mk hgl
  have hWD : R ≠ D := by
    rintro rfl
    rw [h.words] at hW
    simp at hW
  have hWB : R ≠ B := by
    rintro rfl
    rw [h.head] at hW
    simp at hW
  have hBD := h.ne
  have hWr : R ≠ w.heap.size := by omega
  have hDr : D ≠ w.heap.size := by omega
  have hBr : B ≠ w.heap.size := by omega
  have lBb := hBb
  have lDb := hDb
  have bx := bit_two x hx
  have byy := bit_two y hy
  have hwd := hp.words
  have h1 := buf_in hp hi x y hx hy (2 + dn) (by omega) (by omega)
  have hq : p.buf x y + (2 + (dn : Int)) = p.buf x y + 2 + dn := by omega
  rw [hq] at h1
  obtain ⟨v, hv⟩ : ∃ v, ldW ws (p.buf x y + 2 + dn) = v := ⟨_, rfl⟩
  rw [hv]
  have HV := Kp.mk hv
  have n1 : IntKind.i64.wrap (p.buf x y + 2) = p.buf x y + 2 := IntWalk.i64_in _ (by omega)
  have n2 : IntKind.i64.wrap (p.buf x y + 2 + dn) = p.buf x y + 2 + dn := IntWalk.i64_in _ (by omega)
  have hul : u32s (l ++ [v]) = u32s l ++ [.int .u32 v] := by simp [u32s]
  have HUL := Kp.mk hul
  have n3 : IntKind.i64.wrap sp = sp := IntWalk.i64_in _ (by omega)
  have n4 : IntKind.i64.wrap (now - sp) = now - sp := IntWalk.i64_in _ (by omega)
  clear h hW hown hgl hws hq hv hul
  go_enter Tryz.func116, Tryz.ntmps116
  have HB0 : Kp (Below w.heap.size w w) := ⟨Below.refl _ _⟩
  go_wp2_with fail
  have r1 : Kp ((w.alloc (.cells #[.bool false, .int .i64 0, .slice none 0 0, .bool false, .int .i64 0, .bool false, .bool false, .bool false, .int .i64 0] 64)).heap[w.heap.size]? = some (.cells #[.bool false, .int .i64 0, .slice none 0 0, .bool false, .int .i64 0, .bool false, .bool false, .bool false, .int .i64 0] 64 (0, 0))) := ⟨(blk_new _ _)⟩
  have HB1 : Kp (Below w.heap.size w (w.alloc (.cells #[.bool false, .int .i64 0, .slice none 0 0, .bool false, .int .i64 0, .bool false, .bool false, .bool false, .int .i64 0] 64))) := ⟨(below_al HB0.out _)⟩
  have W1 : Kp ((w.alloc (.cells #[.bool false, .int .i64 0, .slice none 0 0, .bool false, .int .i64 0, .bool false, .bool false, .bool false, .int .i64 0] 64)).heap[R]? = some (.cells #[.int .i64 p.src, .int .i64 p.rd, .int .i64 p.words, .int .i64 p.period, .int .u32 x, .int .u32 y, .int .i64 lf, .int .u32 sp, .slice da dn dc, nx] 119 (0, 0))) := ⟨(blk_al HW.out _)⟩
  have M1 : Kp (MemAt (w.alloc (.cells #[.bool false, .int .i64 0, .slice none 0 0, .bool false, .int .i64 0, .bool false, .bool false, .bool false, .int .i64 0] 64)) B D (ws)) := ⟨(HM.out.below (below_al (Below.refl _ _) _))⟩
  have O1 : Kp ((w.alloc (.cells #[.bool false, .int .i64 0, .slice none 0 0, .bool false, .int .i64 0, .bool false, .bool false, .bool false, .int .i64 0] 64)).ownsRow (bs) 41 1 (.slice da dn dc) (dn) (u32s l)) := ⟨(HO0.out.alloc _)⟩
  clear HB0 HW HM HO0
  generalize (w.alloc (.cells #[.bool false, .int .i64 0, .slice none 0 0, .bool false, .int .i64 0, .bool false, .bool false, .bool false, .int .i64 0] 64)) = w1 at r1 HB1 W1 M1 O1 ⊢
  have HS1 : Kp (ButS (R :: D :: (Value.slice da dn dc).ownBlock.toList) w w1) := ⟨ButS.of_below HB1.out⟩
  have hsz0 : w.heap.size < w1.heap.size := blk_lt r1.out
  have hbs1 : bs ≤ w1.heap.size := by omega
  have c0 := cbk W1.out 0 (.int .i64 p.src) rfl
  have c1 := cbk W1.out 1 (.int .i64 p.rd) rfl
  have c2 := cbk W1.out 2 (.int .i64 p.words) rfl
  have c3 := cbk W1.out 3 (.int .i64 p.period) rfl
  have c4 := cbk W1.out 4 (.int .u32 x) rfl
  have c5 := cbk W1.out 5 (.int .u32 y) rfl
  have c6 := cbk W1.out 6 (.int .i64 lf) rfl
  have c7 := cbk W1.out 7 (.int .u32 sp) rfl
  have c8 := cbk W1.out 8 (.slice da dn dc) rfl
  have c9 := cbk W1.out 9 (nx) rfl
  have cl := blk_lt W1.out
  refine JQ.region (fun a wj => ∃ (g cap : Nat) (u8 u9 u10 u11 u12 u13 u14 u15 u16 u17 u18 u19 u20 u21 u22 u23 u24 u25 u26 u27 u28 u29 u30 u31 u32 u33 u34 u35 u36 u37 u38 : Value), a = ⟨#[.pointer (some ⟨R, 0, none⟩), .pointer (some ⟨B, 0, none⟩), .int .i64 now, undef, undef, undef, .pointer (some ⟨w.heap.size, 0, none⟩), .nilFunc, u8, u9, u10, u11, u12, u13, u14, u15, u16, u17, u18, u19, u20, u21, u22, u23, u24, u25, u26, u27, u28, u29, u30, u31, u32, u33, u34, u35, u36, u37, u38, undef, undef, undef, undef, undef, undef, undef, undef, undef, undef, undef, undef, undef, undef, undef, undef, undef, undef, undef, undef, undef, undef, undef, undef, undef, undef, undef, undef, undef, undef, undef, undef], []⟩ ∧ Kp (ButS (R :: D :: (Value.slice da dn dc).ownBlock.toList) w wj) ∧ Kp (wj.heap[R]? = some (.cells (rcs p x y lf sp (.slice (some ⟨g, 0, none⟩) (dn + 1) cap) nx) 119 (0, 0))) ∧ Kp (MemAt wj B D (ws)) ∧ Kp (wj.heap[w.heap.size]? = some (.cells dz 64 (0, 0))) ∧ Kp (wj.ownsRow (bs) 41 1 (.slice (some ⟨g, 0, none⟩) (dn + 1) cap) (dn + 1) (u32s l ++ [.int .u32 v])) ∧ Kp ((Value.slice da dn dc).ownBlock = some g ∨ w.heap.size < g) ∧ Kp (w1.heap.size ≤ wj.heap.size)) ?_ ?_
  · have HX0 : Kp (w1.heap[R]? = some (.cells (rcs p x y lf sp (.slice da dn dc) nx) 119 (0, 0))) := ⟨W1.out⟩
    refine held_start_gen (S := (fun w' : World => ButB (bs) [R] w1 w' ∧ (∀ bb o, bb < bs → bb ≠ R → w'.cell? ⟨bb, o, none⟩ = w1.cell? ⟨bb, o, none⟩) ∧ ∀ o, o ≠ 8 → w'.cell? ⟨R, o, none⟩ = w1.cell? ⟨R, o, none⟩)) (by kernel_rfl) (fun wz : World => Kp (ButS (R :: D :: (Value.slice da dn dc).ownBlock.toList) w wz) ∧ Kp (wz.heap[R]? = some (.cells (rcs p x y lf sp (.slice da dn dc) nx) 119 (0, 0))) ∧ Kp (MemAt wz B D (ws)) ∧ Kp (wz.heap[w.heap.size]? = some (.cells dz 64 (0, 0))) ∧ Kp (wz.ownsRow (bs) 41 1 (.slice da dn dc) (dn) (u32s l)) ∧ w1.heap.size ≤ wz.heap.size) ⟨⟨ButS.dr HS1.out⟩, ⟨blk_dr W1.out⟩, ⟨(M1.out.below (below_dr (Below.refl _ _)))⟩, ⟨blk_dr r1.out⟩, ⟨O1.out⟩, Nat.le_refl _⟩ (sx3 (sx_of1 (ButB.dr (ButB.refl _ (by omega)))) (xc_of HX0.out (blk_dr W1.out) 8 (fun _ _ => rfl))) (fun wd0 hRn hHeld => ?_)
    clear HS1 W1 M1 r1 O1
    obtain ⟨HS1, W1, M1, r1, O1, hsz⟩ := hRn
    refine wtk 0 ?_ rfl (.inl ⟨by rfl, ?_⟩) ?_
    rotate_left 1
    · (intro w hSw; go_simp; try with_reducible rfl)
    try simp only [Act.put, ls0, ls1, ls2]
    refine wtk 1 ?_ rfl (.inl ⟨by rfl, ?_⟩) ?_
    rotate_left 1
    · (intro w hSw; go_simp; try with_reducible rfl)
    try simp only [Act.put, ls0, ls1, ls2]
    refine wtk 2 ?_ rfl (.inl ⟨by rfl, ?_⟩) ?_
    rotate_left 1
    · (intro w hSw; go_simp; try with_reducible rfl)
    try simp only [Act.put, ls0, ls1, ls2]
    refine wtk 3 ?_ rfl (.inl ⟨by rfl, ?_⟩) ?_
    rotate_left 1
    · (intro w hSw; go_simp; try with_reducible rfl)
    try simp only [Act.put, ls0, ls1, ls2]
    refine wtk 5 ?_ rfl (.inl ⟨by rfl, ?_⟩) ?_
    rotate_left 1
    · (intro w hSw; go_simp; try with_reducible rfl)
    try simp only [Act.put, ls0, ls1, ls2]
    refine wtk 6 ?_ rfl (.inl ⟨by rfl, ?_⟩) ?_
    rotate_left 1
    · (intro w hSw; go_simp; try with_reducible rfl)
    try simp only [Act.put, ls0, ls1, ls2]
    refine wtk 7 ?_ rfl (.inl ⟨by rfl, ?_⟩) ?_
    rotate_left 1
    · (intro w hSw; go_simp; try with_reducible rfl)
    try simp only [Act.put, ls0, ls1, ls2]
    refine wtk 8 ?_ rfl (.inl ⟨by rfl, ?_⟩) ?_
    rotate_left 1
    · (intro w hSw; go_simp; try with_reducible rfl)
    try simp only [Act.put, ls0, ls1, ls2]
    refine wtk 9 ?_ rfl (.inl ⟨by rfl, ?_⟩) ?_
    rotate_left 1
    · (intro w hSw; go_simp; try with_reducible rfl)
    try simp only [Act.put, ls0, ls1, ls2]
    refine wtk 10 ?_ rfl (.inl ⟨by rfl, ?_⟩) ?_
    rotate_left 1
    · (intro w hSw; go_simp; try with_reducible rfl)
    try simp only [Act.put, ls0, ls1, ls2]
    refine wtk 11 ?_ rfl (.inl ⟨by rfl, ?_⟩) ?_
    rotate_left 1
    · (intro w hSw; go_simp; try with_reducible rfl)
    try simp only [Act.put, ls0, ls1, ls2]
    refine wtk 12 ?_ rfl (.inl ⟨by rfl, ?_⟩) ?_
    rotate_left 1
    · (intro w hSw; go_simp; try with_reducible rfl)
    try simp only [Act.put, ls0, ls1, ls2]
    refine wtk 13 ?_ rfl (.inl ⟨by rfl, ?_⟩) ?_
    rotate_left 1
    · (intro w hSw; go_simp; try with_reducible rfl)
    try simp only [Act.put, ls0, ls1, ls2]
    refine wtk 14 ?_ rfl (.inl ⟨by rfl, ?_⟩) ?_
    rotate_left 1
    · (intro w hSw; go_simp; try with_reducible rfl)
    try simp only [Act.put, ls0, ls1, ls2]
    refine wtk 15 ?_ rfl (.inl ⟨by rfl, ?_⟩) ?_
    rotate_left 1
    · (intro w hSw; go_simp; try with_reducible rfl)
    try simp only [Act.put, ls0, ls1, ls2]
    refine wtk 16 ?_ rfl (.inl ⟨by rfl, ?_⟩) ?_
    rotate_left 1
    · (intro w hSw; go_simp; try with_reducible rfl)
    try simp only [Act.put, ls0, ls1, ls2]
    refine wtk 17 ?_ rfl (.inl ⟨by rfl, ?_⟩) ?_
    rotate_left 1
    · (intro w hSw; go_simp; try with_reducible rfl)
    try simp only [Act.put, ls0, ls1, ls2]
    refine wtk 20 ?_ rfl (.inl ⟨by rfl, ?_⟩) ?_
    rotate_left 1
    · (intro w hSw; go_simp; try with_reducible rfl)
    try simp only [Act.put, ls0, ls1, ls2]
    refine wtk 21 ?_ rfl (.inl ⟨by rfl, ?_⟩) ?_
    rotate_left 1
    · (intro w hSw; go_simp; try with_reducible rfl)
    try simp only [Act.put, ls0, ls1, ls2]
    refine wtk 22 ?_ rfl (.inl ⟨by rfl, ?_⟩) ?_
    rotate_left 1
    · (intro w hSw; go_simp; try with_reducible rfl)
    try simp only [Act.put, ls0, ls1, ls2]
    refine wrd [4, 18, 23] ?_
    refine (arc rfl (fun K hK => ?_) (arc rfl (fun K hK => ?_) (arc rfl (fun K hK => ?_) arn)))
    · have sd8 := cbk W1.out 8 (.slice da dn dc) rfl
      have sl := blk_lt W1.out
      go_simp
      try go_wp2_with fail
      refine out_gen hK _ _ (fun wz : World => Kp (ButS (R :: D :: (Value.slice da dn dc).ownBlock.toList) w wz) ∧ Kp (wz.heap[R]? = some (.cells (rcs p x y lf sp (.slice da dn dc) nx) 119 (0, 0))) ∧ Kp (MemAt wz B D (ws)) ∧ Kp (wz.heap[w.heap.size]? = some (.cells dz 64 (0, 0))) ∧ Kp (wz.ownsRow (bs) 41 1 (.slice da dn dc) (dn) (u32s l)) ∧ wd0.heap.size ≤ wz.heap.size) ⟨⟨HS1.out⟩, ⟨W1.out⟩, ⟨M1.out⟩, ⟨r1.out⟩, ⟨O1.out⟩, Nat.le_refl _⟩ (sx3 (sx_of1 ((And.left hHeld))) (xc_of HX0.out (W1.out) 8 (fun _ _ => rfl))) (fun wd1 hRn hHn => ?_)
      clear hK K hHeld HS1 W1 M1 r1 O1  sd8 sl
      obtain ⟨HS1, W1, M1, r1, O1, hsz1⟩ := hRn
      have hHeld := hHn
      clear hHn
      try simp only [Act.put, ls0, ls1, ls2]
      refine wrd [18, 23] ?_
      refine (arc rfl (fun K hK => ?_) (arc rfl (fun K hK => ?_) arn))
      · go_simp
        go_at_call 108
        refine (fbuffer_any p hp x y hx hy _).mono ?_
        rintro e w9 ⟨rfl, hb⟩
        try go_wp2_with fail
        refine out_gen hK _ _ (fun wz : World => Kp (ButS (R :: D :: (Value.slice da dn dc).ownBlock.toList) w wz) ∧ Kp (wz.heap[R]? = some (.cells (rcs p x y lf sp (.slice da dn dc) nx) 119 (0, 0))) ∧ Kp (MemAt wz B D (ws)) ∧ Kp (wz.heap[w.heap.size]? = some (.cells dz 64 (0, 0))) ∧ Kp (wz.ownsRow (bs) 41 1 (.slice da dn dc) (dn) (u32s l)) ∧ wd1.heap.size ≤ wz.heap.size) ⟨⟨ButS.trans HS1.out (ButS.of_below hb)⟩, ⟨blk_below W1.out hb⟩, ⟨(M1.out.below hb)⟩, ⟨blk_below r1.out hb⟩, ⟨own_below O1.out hb⟩, hb.size⟩ (sx3 (sx_of1 (ButB.call (And.left hHeld) hb)) (xc_of HX0.out (blk_below W1.out hb) 8 (fun _ _ => rfl))) (fun wd2 hRn hHn => ?_)
        clear hK K hHeld HS1 W1 M1 r1 O1 hb
        obtain ⟨HS1, W1, M1, r1, O1, hsz2⟩ := hRn
        have hHeld := hHn
        clear hHn
        try simp only [Act.put, ls0, ls1, ls2]
        refine wtk 19 ?_ rfl (.inl ⟨by rfl, ?_⟩) ?_
        rotate_left 1
        · (intro w hSw; go_simp; try with_reducible rfl)
        try simp only [Act.put, ls0, ls1, ls2]
        refine wrd [23] ?_
        refine (arc rfl (fun K hK => ?_) arn)
        have sd8 := cbk W1.out 8 (.slice da dn dc) rfl
        have sl := blk_lt W1.out
        go_simp
        try go_wp2_with fail
        refine out_gen hK _ _ (fun wz : World => Kp (ButS (R :: D :: (Value.slice da dn dc).ownBlock.toList) w wz) ∧ Kp (wz.heap[R]? = some (.cells (rcs p x y lf sp (.slice da dn dc) nx) 119 (0, 0))) ∧ Kp (MemAt wz B D (ws)) ∧ Kp (wz.heap[w.heap.size]? = some (.cells dz 64 (0, 0))) ∧ Kp (wz.ownsRow (bs) 41 1 (.slice da dn dc) (dn) (u32s l)) ∧ wd2.heap.size ≤ wz.heap.size) ⟨⟨HS1.out⟩, ⟨W1.out⟩, ⟨M1.out⟩, ⟨r1.out⟩, ⟨O1.out⟩, Nat.le_refl _⟩ (sx3 (sx_of1 ((And.left hHeld))) (xc_of HX0.out (W1.out) 8 (fun _ _ => rfl))) (fun wd3 hRn hHn => ?_)
        clear hK K hHeld HS1 W1 M1 r1 O1  sd8 sl
        obtain ⟨HS1, W1, M1, r1, O1, hsz3⟩ := hRn
        have hHeld := hHn
        clear hHn
        try simp only [Act.put, ls0, ls1, ls2]
        refine wtk 24 ?_ rfl (.inl ⟨by rfl, ?_⟩) ?_
        rotate_left 1
        · (intro w hSw; go_simp; try with_reducible rfl)
        try simp only [Act.put, ls0, ls1, ls2]
        refine wtk 25 ?_ rfl (.inl ⟨by rfl, ?_⟩) ?_
        rotate_left 1
        · (intro w hSw; go_simp; try with_reducible rfl)
        try simp only [Act.put, ls0, ls1, ls2]
        refine wrd [26] ?_
        refine (arc rfl (fun K hK => ?_) arn)
        go_simp
        go_at_call 83
        refine (fload_any B D ws (p.buf x y + 2 + dn) (by omega) h1.2.1 _ M1.out).mono ?_
        rw [HV.out]
        rintro e w9 ⟨rfl, hw9⟩
        have hw8 := hw9.symm
        clear hw9
        subst hw8
        have hb : Below wd3.heap.size wd3 wd3 := Below.refl _ _
        try go_wp2_with fail
        refine out_gen hK _ _ (fun wz : World => Kp (ButS (R :: D :: (Value.slice da dn dc).ownBlock.toList) w wz) ∧ Kp (wz.heap[R]? = some (.cells (rcs p x y lf sp (.slice da dn dc) nx) 119 (0, 0))) ∧ Kp (MemAt wz B D (ws)) ∧ Kp (wz.heap[w.heap.size]? = some (.cells dz 64 (0, 0))) ∧ Kp (wz.ownsRow (bs) 41 1 (.slice da dn dc) (dn) (u32s l)) ∧ wd3.heap.size ≤ wz.heap.size) ⟨⟨ButS.trans HS1.out (ButS.of_below hb)⟩, ⟨blk_below W1.out hb⟩, ⟨(M1.out.below hb)⟩, ⟨blk_below r1.out hb⟩, ⟨own_below O1.out hb⟩, hb.size⟩ (sx3 (sx_of1 (ButB.call (And.left hHeld) hb)) (xc_of HX0.out (blk_below W1.out hb) 8 (fun _ _ => rfl))) (fun wd4 hRn hHn => ?_)
        clear hK K hHeld HS1 W1 M1 r1 O1 hb
        obtain ⟨HS1, W1, M1, r1, O1, hsz4⟩ := hRn
        have hHeld := hHn
        clear hHn
        try simp only [Act.put, ls0, ls1, ls2]
        refine wrd [27] ?_
        refine (arc rfl (fun K hK => ?_) arn)
        have ge_qa : w1.heap.size ≤ wd4.heap.size := (And.left hHeld).size
        go_simp
        try go_wp2_with fail
        refine out_gen hK _ _ (fun wz : World => Kp (ButS (R :: D :: (Value.slice da dn dc).ownBlock.toList) w wz) ∧ Kp (wz.heap[R]? = some (.cells (rcs p x y lf sp (.slice da dn dc) nx) 119 (0, 0))) ∧ Kp (MemAt wz B D (ws)) ∧ Kp (wz.heap[w.heap.size]? = some (.cells dz 64 (0, 0))) ∧ Kp (wz.ownsRow (bs) 41 1 (.slice da dn dc) (dn) (u32s l)) ∧ Kp (wz.heap[wd4.heap.size]? = some (.cells #[.int .u32 v] 41 (0, 0))) ∧ wd4.heap.size < wz.heap.size) ⟨⟨ButS.al HS1.out _⟩, ⟨blk_al W1.out _⟩, ⟨(M1.out.al _)⟩, ⟨blk_al r1.out _⟩, ⟨O1.out.alloc _⟩, ⟨blk_new wd4 _⟩, (by simp)⟩ (sx3 (sx_of1 (ButB.al (And.left hHeld) _)) (xc_of HX0.out (blk_al W1.out _) 8 (fun _ _ => rfl))) (fun wd5 hRn hHn => ?_)
        clear hK K hHeld HS1 W1 M1 r1 O1
        obtain ⟨HS1, W1, M1, r1, O1, qa, hsz5⟩ := hRn
        have hHeld := hHn
        clear hHn
        try simp only [Act.put, ls0, ls1, ls2]
        have lt_qa := blk_lt qa.out
        refine wrd [28] ?_
        refine (arc rfl (fun K hK => ?_) arn)
        have hgl := HGL.out
        have hws := (And.left hHeld).size
        refine step_append_lies _ (by rfl) _ _ 44 (by rfl) (bs) 41 i0 (.int .u32 0) 1 4 Tryz.underlying44 hi0 hz0 hz1 hz2 (by rfl) (by decide) _ _ _ (by rfl) O1.out _ 1 _ [.int .u32 v] (by rfl) rfl (World.news_of_block qa.out) (by simp [Value.oneCell']) (by omega) (by unfold maxLen; omega) (by omega) (by have := hws; omega) _ rfl ?_
        intro g cap w9 hown hgrow hat hlt
        have hat2 : (Value.slice da dn dc).ownBlock = some g ∨ w.heap.size < g := by rcases hat with hh | hh; exact .inl hh; right; omega
        refine out_gen hK _ _ (fun wz : World => Kp (ButS (R :: D :: (Value.slice da dn dc).ownBlock.toList) w wz) ∧ Kp (wz.heap[R]? = some (.cells (rcs p x y lf sp (.slice da dn dc) nx) 119 (0, 0))) ∧ Kp (MemAt wz B D (ws)) ∧ Kp (wz.heap[w.heap.size]? = some (.cells dz 64 (0, 0))) ∧ Kp (wz.ownsRow (bs) 41 1 (.slice (some ⟨g, 0, none⟩) (dn + 1) cap) (dn + 1) (u32s l ++ [.int .u32 v])) ∧ wd5.heap.size ≤ wz.heap.size) ⟨⟨ButS.grownV HS1.out hgrow (fun k hk => by simp [hk])⟩, ⟨blk_grownR W1.out O1.out hgrow (by first | (intro hq; have := (O1.out.lt _ hq).1; omega) | (intro hq; simp [Value.ownBlock] at hq; omega) | (intro hq; have := hgl _ hq; omega))⟩, ⟨(MemAt.grown M1.out O1.out hgrow lBb lDb)⟩, ⟨blk_grownR r1.out O1.out hgrow (by first | (intro hq; have := (O1.out.lt _ hq).1; omega) | (intro hq; simp [Value.ownBlock] at hq; omega) | (intro hq; have := hgl _ hq; omega))⟩, ⟨hown⟩, hgrow.size⟩ (sx3 (sx_of1 (ButB.grown (And.left hHeld) O1.out hgrow (by omega))) (xc_of HX0.out (blk_grownR W1.out O1.out hgrow (by first | (intro hq; have := (O1.out.lt _ hq).1; omega) | (intro hq; simp [Value.ownBlock] at hq; omega) | (intro hq; have := hgl _ hq; omega))) 8 (fun _ _ => rfl))) (fun wd6 hRn hHn => ?_)
        clear hK K hHeld HS1 W1 M1 r1 O1 qa hown hgrow hat hlt hws hgl
        obtain ⟨HS1, W1, M1, r1, O1, hsz6⟩ := hRn
        have hHeld := hHn
        clear hHn
        try simp only [Act.put, ls0, ls1, ls2]
        try simp only [Nat.zero_add]
        refine wtk 29 ?_ rfl (.inl ⟨by rfl, ?_⟩) ?_
        rotate_left 1
        · (intro w hSw; go_simp; try with_reducible rfl)
        try simp only [Act.put, ls0, ls1, ls2]
        refine wtk 30 ?_ rfl (.inl ⟨by rfl, ?_⟩) ?_
        rotate_left 1
        · (intro w hSw; go_simp; try with_reducible rfl)
        try simp only [Act.put, ls0, ls1, ls2]
        refine wrd [31] ?_
        refine (arc rfl (fun K hK => ?_) arn)
        have sd := cbk W1.out 8 (.slice da dn dc) rfl
        have sf := frozen_blk W1.out 8
        have sl := blk_lt W1.out
        go_simp
        try go_wp2_with fail
        refine out_gen hK _ _ (fun wz : World => Kp (ButS (R :: D :: (Value.slice da dn dc).ownBlock.toList) w wz) ∧ Kp (wz.heap[R]? = some (.cells (rcs p x y lf sp (.slice (some ⟨g, 0, none⟩) (dn + 1) cap) nx) 119 (0, 0))) ∧ Kp (MemAt wz B D (ws)) ∧ Kp (wz.heap[w.heap.size]? = some (.cells dz 64 (0, 0))) ∧ Kp (wz.ownsRow (bs) 41 1 (.slice (some ⟨g, 0, none⟩) (dn + 1) cap) (dn + 1) (u32s l ++ [.int .u32 v])) ∧ wd6.heap.size ≤ wz.heap.size) ⟨⟨ButS.set' HS1.out (p := ⟨R, 8, none⟩) (by first | (left; simp; done) | (right; show _ ≤ R; omega)) _⟩, ⟨(blk_set W1.out 8 _).trans rfl⟩, ⟨MemAt.setne M1.out (p := ⟨R, 8, none⟩) (by show B ≠ R; omega) (by show D ≠ R; omega) _⟩, ⟨blk_set_ne (p := ⟨R, 8, none⟩) r1.out (by show w.heap.size ≠ R; omega) _⟩, ⟨own_set_ne O1.out (p := ⟨R, 8, none⟩) (by show R < bs; omega) _⟩, (by simp [World.setCell])⟩ (sx3 (sx_of1 (ButB.set (And.left hHeld) (p := ⟨R, 8, none⟩) (by first | (left; simp; done) | (right; show _ ≤ R; omega)) _)) (xc_of HX0.out ((blk_set W1.out 8 _).trans rfl) 8 (xc_ne (cs := #[.int .i64 p.src, .int .i64 p.rd, .int .i64 p.words, .int .i64 p.period, .int .u32 x, .int .u32 y, .int .i64 lf, .int .u32 sp, .slice da dn dc, nx]) 8 (.slice (some ⟨g, 0, none⟩) (dn + 1) cap)))) (fun wd7 hRn hHn => ?_)
        clear hK K hHeld HS1 W1 M1 r1 O1 sd sf sl
        obtain ⟨HS1, W1, M1, r1, O1, hsz7⟩ := hRn
        have hHeld := hHn
        clear hHn
        try simp only [Act.put, ls0, ls1, ls2]
        refine wpAnyH_done (by kernel_rfl) ?_ _
        clear HX0
        exact JQ.mk ⟨g, cap, _, _, _, _, _, _, _, _, _, _, _, _, _, _, _, _, _, _, _, _, _, _, _, _, _, _, _, _, _, _, _, rfl, HS1, W1, M1, r1, O1, ⟨hat2⟩, ⟨by omega⟩⟩
      · have sd8 := cbk W1.out 8 (.slice da dn dc) rfl
        have sl := blk_lt W1.out
        go_simp
        try go_wp2_with fail
        refine out_gen hK _ _ (fun wz : World => Kp (ButS (R :: D :: (Value.slice da dn dc).ownBlock.toList) w wz) ∧ Kp (wz.heap[R]? = some (.cells (rcs p x y lf sp (.slice da dn dc) nx) 119 (0, 0))) ∧ Kp (MemAt wz B D (ws)) ∧ Kp (wz.heap[w.heap.size]? = some (.cells dz 64 (0, 0))) ∧ Kp (wz.ownsRow (bs) 41 1 (.slice da dn dc) (dn) (u32s l)) ∧ wd1.heap.size ≤ wz.heap.size) ⟨⟨HS1.out⟩, ⟨W1.out⟩, ⟨M1.out⟩, ⟨r1.out⟩, ⟨O1.out⟩, Nat.le_refl _⟩ (sx3 (sx_of1 ((And.left hHeld))) (xc_of HX0.out (W1.out) 8 (fun _ _ => rfl))) (fun wd8 hRn hHn => ?_)
        clear hK K hHeld HS1 W1 M1 r1 O1  sd8 sl
        obtain ⟨HS1, W1, M1, r1, O1, hsz8⟩ := hRn
        have hHeld := hHn
        clear hHn
        try simp only [Act.put, ls0, ls1, ls2]
        refine wtk 24 ?_ rfl (.inl ⟨by rfl, ?_⟩) ?_
        rotate_left 1
        · (intro w hSw; go_simp; try with_reducible rfl)
        try simp only [Act.put, ls0, ls1, ls2]
        refine wrd [18] ?_
        refine (arc rfl (fun K hK => ?_) arn)
        go_simp
        go_at_call 108
        refine (fbuffer_any p hp x y hx hy _).mono ?_
        rintro e w9 ⟨rfl, hb⟩
        try go_wp2_with fail
        refine out_gen hK _ _ (fun wz : World => Kp (ButS (R :: D :: (Value.slice da dn dc).ownBlock.toList) w wz) ∧ Kp (wz.heap[R]? = some (.cells (rcs p x y lf sp (.slice da dn dc) nx) 119 (0, 0))) ∧ Kp (MemAt wz B D (ws)) ∧ Kp (wz.heap[w.heap.size]? = some (.cells dz 64 (0, 0))) ∧ Kp (wz.ownsRow (bs) 41 1 (.slice da dn dc) (dn) (u32s l)) ∧ wd8.heap.size ≤ wz.heap.size) ⟨⟨ButS.trans HS1.out (ButS.of_below hb)⟩, ⟨blk_below W1.out hb⟩, ⟨(M1.out.below hb)⟩, ⟨blk_below r1.out hb⟩, ⟨own_below O1.out hb⟩, hb.size⟩ (sx3 (sx_of1 (ButB.call (And.left hHeld) hb)) (xc_of HX0.out (blk_below W1.out hb) 8 (fun _ _ => rfl))) (fun wd9 hRn hHn => ?_)
        clear hK K hHeld HS1 W1 M1 r1 O1 hb
        obtain ⟨HS1, W1, M1, r1, O1, hsz9⟩ := hRn
        have hHeld := hHn
        clear hHn
        try simp only [Act.put, ls0, ls1, ls2]
        refine wtk 19 ?_ rfl (.inl ⟨by rfl, ?_⟩) ?_
        rotate_left 1
        · (intro w hSw; go_simp; try with_reducible rfl)
        try simp only [Act.put, ls0, ls1, ls2]
        refine wtk 25 ?_ rfl (.inl ⟨by rfl, ?_⟩) ?_
        rotate_left 1
        · (intro w hSw; go_simp; try with_reducible rfl)
        try simp only [Act.put, ls0, ls1, ls2]
        refine wrd [26] ?_
        refine (arc rfl (fun K hK => ?_) arn)
        go_simp
        go_at_call 83
        refine (fload_any B D ws (p.buf x y + 2 + dn) (by omega) h1.2.1 _ M1.out).mono ?_
        rw [HV.out]
        rintro e w9 ⟨rfl, hw9⟩
        have hw8 := hw9.symm
        clear hw9
        subst hw8
        have hb : Below wd9.heap.size wd9 wd9 := Below.refl _ _
        try go_wp2_with fail
        refine out_gen hK _ _ (fun wz : World => Kp (ButS (R :: D :: (Value.slice da dn dc).ownBlock.toList) w wz) ∧ Kp (wz.heap[R]? = some (.cells (rcs p x y lf sp (.slice da dn dc) nx) 119 (0, 0))) ∧ Kp (MemAt wz B D (ws)) ∧ Kp (wz.heap[w.heap.size]? = some (.cells dz 64 (0, 0))) ∧ Kp (wz.ownsRow (bs) 41 1 (.slice da dn dc) (dn) (u32s l)) ∧ wd9.heap.size ≤ wz.heap.size) ⟨⟨ButS.trans HS1.out (ButS.of_below hb)⟩, ⟨blk_below W1.out hb⟩, ⟨(M1.out.below hb)⟩, ⟨blk_below r1.out hb⟩, ⟨own_below O1.out hb⟩, hb.size⟩ (sx3 (sx_of1 (ButB.call (And.left hHeld) hb)) (xc_of HX0.out (blk_below W1.out hb) 8 (fun _ _ => rfl))) (fun wd10 hRn hHn => ?_)
        clear hK K hHeld HS1 W1 M1 r1 O1 hb
        obtain ⟨HS1, W1, M1, r1, O1, hsz10⟩ := hRn
        have hHeld := hHn
        clear hHn
        try simp only [Act.put, ls0, ls1, ls2]
        refine wrd [27] ?_
        refine (arc rfl (fun K hK => ?_) arn)
        have ge_qa : w1.heap.size ≤ wd10.heap.size := (And.left hHeld).size
        go_simp
        try go_wp2_with fail
        refine out_gen hK _ _ (fun wz : World => Kp (ButS (R :: D :: (Value.slice da dn dc).ownBlock.toList) w wz) ∧ Kp (wz.heap[R]? = some (.cells (rcs p x y lf sp (.slice da dn dc) nx) 119 (0, 0))) ∧ Kp (MemAt wz B D (ws)) ∧ Kp (wz.heap[w.heap.size]? = some (.cells dz 64 (0, 0))) ∧ Kp (wz.ownsRow (bs) 41 1 (.slice da dn dc) (dn) (u32s l)) ∧ Kp (wz.heap[wd10.heap.size]? = some (.cells #[.int .u32 v] 41 (0, 0))) ∧ wd10.heap.size < wz.heap.size) ⟨⟨ButS.al HS1.out _⟩, ⟨blk_al W1.out _⟩, ⟨(M1.out.al _)⟩, ⟨blk_al r1.out _⟩, ⟨O1.out.alloc _⟩, ⟨blk_new wd10 _⟩, (by simp)⟩ (sx3 (sx_of1 (ButB.al (And.left hHeld) _)) (xc_of HX0.out (blk_al W1.out _) 8 (fun _ _ => rfl))) (fun wd11 hRn hHn => ?_)
        clear hK K hHeld HS1 W1 M1 r1 O1
        obtain ⟨HS1, W1, M1, r1, O1, qa, hsz11⟩ := hRn
        have hHeld := hHn
        clear hHn
        try simp only [Act.put, ls0, ls1, ls2]
        have lt_qa := blk_lt qa.out
        refine wrd [28] ?_
        refine (arc rfl (fun K hK => ?_) arn)
        have hgl := HGL.out
        have hws := (And.left hHeld).size
        refine step_append_lies _ (by rfl) _ _ 44 (by rfl) (bs) 41 i0 (.int .u32 0) 1 4 Tryz.underlying44 hi0 hz0 hz1 hz2 (by rfl) (by decide) _ _ _ (by rfl) O1.out _ 1 _ [.int .u32 v] (by rfl) rfl (World.news_of_block qa.out) (by simp [Value.oneCell']) (by omega) (by unfold maxLen; omega) (by omega) (by have := hws; omega) _ rfl ?_
        intro g cap w9 hown hgrow hat hlt
        have hat2 : (Value.slice da dn dc).ownBlock = some g ∨ w.heap.size < g := by rcases hat with hh | hh; exact .inl hh; right; omega
        refine out_gen hK _ _ (fun wz : World => Kp (ButS (R :: D :: (Value.slice da dn dc).ownBlock.toList) w wz) ∧ Kp (wz.heap[R]? = some (.cells (rcs p x y lf sp (.slice da dn dc) nx) 119 (0, 0))) ∧ Kp (MemAt wz B D (ws)) ∧ Kp (wz.heap[w.heap.size]? = some (.cells dz 64 (0, 0))) ∧ Kp (wz.ownsRow (bs) 41 1 (.slice (some ⟨g, 0, none⟩) (dn + 1) cap) (dn + 1) (u32s l ++ [.int .u32 v])) ∧ wd11.heap.size ≤ wz.heap.size) ⟨⟨ButS.grownV HS1.out hgrow (fun k hk => by simp [hk])⟩, ⟨blk_grownR W1.out O1.out hgrow (by first | (intro hq; have := (O1.out.lt _ hq).1; omega) | (intro hq; simp [Value.ownBlock] at hq; omega) | (intro hq; have := hgl _ hq; omega))⟩, ⟨(MemAt.grown M1.out O1.out hgrow lBb lDb)⟩, ⟨blk_grownR r1.out O1.out hgrow (by first | (intro hq; have := (O1.out.lt _ hq).1; omega) | (intro hq; simp [Value.ownBlock] at hq; omega) | (intro hq; have := hgl _ hq; omega))⟩, ⟨hown⟩, hgrow.size⟩ (sx3 (sx_of1 (ButB.grown (And.left hHeld) O1.out hgrow (by omega))) (xc_of HX0.out (blk_grownR W1.out O1.out hgrow (by first | (intro hq; have := (O1.out.lt _ hq).1; omega) | (intro hq; simp [Value.ownBlock] at hq; omega) | (intro hq; have := hgl _ hq; omega))) 8 (fun _ _ => rfl))) (fun wd12 hRn hHn => ?_)
        clear hK K hHeld HS1 W1 M1 r1 O1 qa hown hgrow hat hlt hws hgl
        obtain ⟨HS1, W1, M1, r1, O1, hsz12⟩ := hRn
        have hHeld := hHn
        clear hHn
        try simp only [Act.put, ls0, ls1, ls2]
        try simp only [Nat.zero_add]
        refine wtk 29 ?_ rfl (.inl ⟨by rfl, ?_⟩) ?_
        rotate_left 1
        · (intro w hSw; go_simp; try with_reducible rfl)
        try simp only [Act.put, ls0, ls1, ls2]
        refine wtk 30 ?_ rfl (.inl ⟨by rfl, ?_⟩) ?_
        rotate_left 1
        · (intro w hSw; go_simp; try with_reducible rfl)
        try simp only [Act.put, ls0, ls1, ls2]
        refine wrd [31] ?_
        refine (arc rfl (fun K hK => ?_) arn)
        have sd := cbk W1.out 8 (.slice da dn dc) rfl
        have sf := frozen_blk W1.out 8
        have sl := blk_lt W1.out
        go_simp
        try go_wp2_with fail
        refine out_gen hK _ _ (fun wz : World => Kp (ButS (R :: D :: (Value.slice da dn dc).ownBlock.toList) w wz) ∧ Kp (wz.heap[R]? = some (.cells (rcs p x y lf sp (.slice (some ⟨g, 0, none⟩) (dn + 1) cap) nx) 119 (0, 0))) ∧ Kp (MemAt wz B D (ws)) ∧ Kp (wz.heap[w.heap.size]? = some (.cells dz 64 (0, 0))) ∧ Kp (wz.ownsRow (bs) 41 1 (.slice (some ⟨g, 0, none⟩) (dn + 1) cap) (dn + 1) (u32s l ++ [.int .u32 v])) ∧ wd12.heap.size ≤ wz.heap.size) ⟨⟨ButS.set' HS1.out (p := ⟨R, 8, none⟩) (by first | (left; simp; done) | (right; show _ ≤ R; omega)) _⟩, ⟨(blk_set W1.out 8 _).trans rfl⟩, ⟨MemAt.setne M1.out (p := ⟨R, 8, none⟩) (by show B ≠ R; omega) (by show D ≠ R; omega) _⟩, ⟨blk_set_ne (p := ⟨R, 8, none⟩) r1.out (by show w.heap.size ≠ R; omega) _⟩, ⟨own_set_ne O1.out (p := ⟨R, 8, none⟩) (by show R < bs; omega) _⟩, (by simp [World.setCell])⟩ (sx3 (sx_of1 (ButB.set (And.left hHeld) (p := ⟨R, 8, none⟩) (by first | (left; simp; done) | (right; show _ ≤ R; omega)) _)) (xc_of HX0.out ((blk_set W1.out 8 _).trans rfl) 8 (xc_ne (cs := #[.int .i64 p.src, .int .i64 p.rd, .int .i64 p.words, .int .i64 p.period, .int .u32 x, .int .u32 y, .int .i64 lf, .int .u32 sp, .slice da dn dc, nx]) 8 (.slice (some ⟨g, 0, none⟩) (dn + 1) cap)))) (fun wd13 hRn hHn => ?_)
        clear hK K hHeld HS1 W1 M1 r1 O1 sd sf sl
        obtain ⟨HS1, W1, M1, r1, O1, hsz13⟩ := hRn
        have hHeld := hHn
        clear hHn
        try simp only [Act.put, ls0, ls1, ls2]
        refine wpAnyH_done (by kernel_rfl) ?_ _
        clear HX0
        exact JQ.mk ⟨g, cap, _, _, _, _, _, _, _, _, _, _, _, _, _, _, _, _, _, _, _, _, _, _, _, _, _, _, _, _, _, _, _, rfl, HS1, W1, M1, r1, O1, ⟨hat2⟩, ⟨by omega⟩⟩
    · go_simp
      go_at_call 108
      refine (fbuffer_any p hp x y hx hy _).mono ?_
      rintro e w9 ⟨rfl, hb⟩
      try go_wp2_with fail
      refine out_gen hK _ _ (fun wz : World => Kp (ButS (R :: D :: (Value.slice da dn dc).ownBlock.toList) w wz) ∧ Kp (wz.heap[R]? = some (.cells (rcs p x y lf sp (.slice da dn dc) nx) 119 (0, 0))) ∧ Kp (MemAt wz B D (ws)) ∧ Kp (wz.heap[w.heap.size]? = some (.cells dz 64 (0, 0))) ∧ Kp (wz.ownsRow (bs) 41 1 (.slice da dn dc) (dn) (u32s l)) ∧ wd0.heap.size ≤ wz.heap.size) ⟨⟨ButS.trans HS1.out (ButS.of_below hb)⟩, ⟨blk_below W1.out hb⟩, ⟨(M1.out.below hb)⟩, ⟨blk_below r1.out hb⟩, ⟨own_below O1.out hb⟩, hb.size⟩ (sx3 (sx_of1 (ButB.call (And.left hHeld) hb)) (xc_of HX0.out (blk_below W1.out hb) 8 (fun _ _ => rfl))) (fun wd14 hRn hHn => ?_)
      clear hK K hHeld HS1 W1 M1 r1 O1 hb
      obtain ⟨HS1, W1, M1, r1, O1, hsz14⟩ := hRn
      have hHeld := hHn
      clear hHn
      try simp only [Act.put, ls0, ls1, ls2]
      refine wtk 19 ?_ rfl (.inl ⟨by rfl, ?_⟩) ?_
      rotate_left 1
      · (intro w hSw; go_simp; try with_reducible rfl)
      try simp only [Act.put, ls0, ls1, ls2]
      refine wrd [4, 23] ?_
      refine (arc rfl (fun K hK => ?_) (arc rfl (fun K hK => ?_) arn))
      · have sd8 := cbk W1.out 8 (.slice da dn dc) rfl
        have sl := blk_lt W1.out
        go_simp
        try go_wp2_with fail
        refine out_gen hK _ _ (fun wz : World => Kp (ButS (R :: D :: (Value.slice da dn dc).ownBlock.toList) w wz) ∧ Kp (wz.heap[R]? = some (.cells (rcs p x y lf sp (.slice da dn dc) nx) 119 (0, 0))) ∧ Kp (MemAt wz B D (ws)) ∧ Kp (wz.heap[w.heap.size]? = some (.cells dz 64 (0, 0))) ∧ Kp (wz.ownsRow (bs) 41 1 (.slice da dn dc) (dn) (u32s l)) ∧ wd14.heap.size ≤ wz.heap.size) ⟨⟨HS1.out⟩, ⟨W1.out⟩, ⟨M1.out⟩, ⟨r1.out⟩, ⟨O1.out⟩, Nat.le_refl _⟩ (sx3 (sx_of1 ((And.left hHeld))) (xc_of HX0.out (W1.out) 8 (fun _ _ => rfl))) (fun wd15 hRn hHn => ?_)
        clear hK K hHeld HS1 W1 M1 r1 O1  sd8 sl
        obtain ⟨HS1, W1, M1, r1, O1, hsz15⟩ := hRn
        have hHeld := hHn
        clear hHn
        try simp only [Act.put, ls0, ls1, ls2]
        refine wrd [23] ?_
        refine (arc rfl (fun K hK => ?_) arn)
        have sd8 := cbk W1.out 8 (.slice da dn dc) rfl
        have sl := blk_lt W1.out
        go_simp
        try go_wp2_with fail
        refine out_gen hK _ _ (fun wz : World => Kp (ButS (R :: D :: (Value.slice da dn dc).ownBlock.toList) w wz) ∧ Kp (wz.heap[R]? = some (.cells (rcs p x y lf sp (.slice da dn dc) nx) 119 (0, 0))) ∧ Kp (MemAt wz B D (ws)) ∧ Kp (wz.heap[w.heap.size]? = some (.cells dz 64 (0, 0))) ∧ Kp (wz.ownsRow (bs) 41 1 (.slice da dn dc) (dn) (u32s l)) ∧ wd15.heap.size ≤ wz.heap.size) ⟨⟨HS1.out⟩, ⟨W1.out⟩, ⟨M1.out⟩, ⟨r1.out⟩, ⟨O1.out⟩, Nat.le_refl _⟩ (sx3 (sx_of1 ((And.left hHeld))) (xc_of HX0.out (W1.out) 8 (fun _ _ => rfl))) (fun wd16 hRn hHn => ?_)
        clear hK K hHeld HS1 W1 M1 r1 O1  sd8 sl
        obtain ⟨HS1, W1, M1, r1, O1, hsz16⟩ := hRn
        have hHeld := hHn
        clear hHn
        try simp only [Act.put, ls0, ls1, ls2]
        refine wtk 24 ?_ rfl (.inl ⟨by rfl, ?_⟩) ?_
        rotate_left 1
        · (intro w hSw; go_simp; try with_reducible rfl)
        try simp only [Act.put, ls0, ls1, ls2]
        refine wtk 25 ?_ rfl (.inl ⟨by rfl, ?_⟩) ?_
        rotate_left 1
        · (intro w hSw; go_simp; try with_reducible rfl)
        try simp only [Act.put, ls0, ls1, ls2]
        refine wrd [26] ?_
        refine (arc rfl (fun K hK => ?_) arn)
        go_simp
        go_at_call 83
        refine (fload_any B D ws (p.buf x y + 2 + dn) (by omega) h1.2.1 _ M1.out).mono ?_
        rw [HV.out]
        rintro e w9 ⟨rfl, hw9⟩
        have hw8 := hw9.symm
        clear hw9
        subst hw8
        have hb : Below wd16.heap.size wd16 wd16 := Below.refl _ _
        try go_wp2_with fail
        refine out_gen hK _ _ (fun wz : World => Kp (ButS (R :: D :: (Value.slice da dn dc).ownBlock.toList) w wz) ∧ Kp (wz.heap[R]? = some (.cells (rcs p x y lf sp (.slice da dn dc) nx) 119 (0, 0))) ∧ Kp (MemAt wz B D (ws)) ∧ Kp (wz.heap[w.heap.size]? = some (.cells dz 64 (0, 0))) ∧ Kp (wz.ownsRow (bs) 41 1 (.slice da dn dc) (dn) (u32s l)) ∧ wd16.heap.size ≤ wz.heap.size) ⟨⟨ButS.trans HS1.out (ButS.of_below hb)⟩, ⟨blk_below W1.out hb⟩, ⟨(M1.out.below hb)⟩, ⟨blk_below r1.out hb⟩, ⟨own_below O1.out hb⟩, hb.size⟩ (sx3 (sx_of1 (ButB.call (And.left hHeld) hb)) (xc_of HX0.out (blk_below W1.out hb) 8 (fun _ _ => rfl))) (fun wd17 hRn hHn => ?_)
        clear hK K hHeld HS1 W1 M1 r1 O1 hb
        obtain ⟨HS1, W1, M1, r1, O1, hsz17⟩ := hRn
        have hHeld := hHn
        clear hHn
        try simp only [Act.put, ls0, ls1, ls2]
        refine wrd [27] ?_
        refine (arc rfl (fun K hK => ?_) arn)
        have ge_qa : w1.heap.size ≤ wd17.heap.size := (And.left hHeld).size
        go_simp
        try go_wp2_with fail
        refine out_gen hK _ _ (fun wz : World => Kp (ButS (R :: D :: (Value.slice da dn dc).ownBlock.toList) w wz) ∧ Kp (wz.heap[R]? = some (.cells (rcs p x y lf sp (.slice da dn dc) nx) 119 (0, 0))) ∧ Kp (MemAt wz B D (ws)) ∧ Kp (wz.heap[w.heap.size]? = some (.cells dz 64 (0, 0))) ∧ Kp (wz.ownsRow (bs) 41 1 (.slice da dn dc) (dn) (u32s l)) ∧ Kp (wz.heap[wd17.heap.size]? = some (.cells #[.int .u32 v] 41 (0, 0))) ∧ wd17.heap.size < wz.heap.size) ⟨⟨ButS.al HS1.out _⟩, ⟨blk_al W1.out _⟩, ⟨(M1.out.al _)⟩, ⟨blk_al r1.out _⟩, ⟨O1.out.alloc _⟩, ⟨blk_new wd17 _⟩, (by simp)⟩ (sx3 (sx_of1 (ButB.al (And.left hHeld) _)) (xc_of HX0.out (blk_al W1.out _) 8 (fun _ _ => rfl))) (fun wd18 hRn hHn => ?_)
        clear hK K hHeld HS1 W1 M1 r1 O1
        obtain ⟨HS1, W1, M1, r1, O1, qa, hsz18⟩ := hRn
        have hHeld := hHn
        clear hHn
        try simp only [Act.put, ls0, ls1, ls2]
        have lt_qa := blk_lt qa.out
        refine wrd [28] ?_
        refine (arc rfl (fun K hK => ?_) arn)
        have hgl := HGL.out
        have hws := (And.left hHeld).size
        refine step_append_lies _ (by rfl) _ _ 44 (by rfl) (bs) 41 i0 (.int .u32 0) 1 4 Tryz.underlying44 hi0 hz0 hz1 hz2 (by rfl) (by decide) _ _ _ (by rfl) O1.out _ 1 _ [.int .u32 v] (by rfl) rfl (World.news_of_block qa.out) (by simp [Value.oneCell']) (by omega) (by unfold maxLen; omega) (by omega) (by have := hws; omega) _ rfl ?_
        intro g cap w9 hown hgrow hat hlt
        have hat2 : (Value.slice da dn dc).ownBlock = some g ∨ w.heap.size < g := by rcases hat with hh | hh; exact .inl hh; right; omega
        refine out_gen hK _ _ (fun wz : World => Kp (ButS (R :: D :: (Value.slice da dn dc).ownBlock.toList) w wz) ∧ Kp (wz.heap[R]? = some (.cells (rcs p x y lf sp (.slice da dn dc) nx) 119 (0, 0))) ∧ Kp (MemAt wz B D (ws)) ∧ Kp (wz.heap[w.heap.size]? = some (.cells dz 64 (0, 0))) ∧ Kp (wz.ownsRow (bs) 41 1 (.slice (some ⟨g, 0, none⟩) (dn + 1) cap) (dn + 1) (u32s l ++ [.int .u32 v])) ∧ wd18.heap.size ≤ wz.heap.size) ⟨⟨ButS.grownV HS1.out hgrow (fun k hk => by simp [hk])⟩, ⟨blk_grownR W1.out O1.out hgrow (by first | (intro hq; have := (O1.out.lt _ hq).1; omega) | (intro hq; simp [Value.ownBlock] at hq; omega) | (intro hq; have := hgl _ hq; omega))⟩, ⟨(MemAt.grown M1.out O1.out hgrow lBb lDb)⟩, ⟨blk_grownR r1.out O1.out hgrow (by first | (intro hq; have := (O1.out.lt _ hq).1; omega) | (intro hq; simp [Value.ownBlock] at hq; omega) | (intro hq; have := hgl _ hq; omega))⟩, ⟨hown⟩, hgrow.size⟩ (sx3 (sx_of1 (ButB.grown (And.left hHeld) O1.out hgrow (by omega))) (xc_of HX0.out (blk_grownR W1.out O1.out hgrow (by first | (intro hq; have := (O1.out.lt _ hq).1; omega) | (intro hq; simp [Value.ownBlock] at hq; omega) | (intro hq; have := hgl _ hq; omega))) 8 (fun _ _ => rfl))) (fun wd19 hRn hHn => ?_)
        clear hK K hHeld HS1 W1 M1 r1 O1 qa hown hgrow hat hlt hws hgl
        obtain ⟨HS1, W1, M1, r1, O1, hsz19⟩ := hRn
        have hHeld := hHn
        clear hHn
        try simp only [Act.put, ls0, ls1, ls2]
        try simp only [Nat.zero_add]
        refine wtk 29 ?_ rfl (.inl ⟨by rfl, ?_⟩) ?_
        rotate_left 1
        · (intro w hSw; go_simp; try with_reducible rfl)
        try simp only [Act.put, ls0, ls1, ls2]
        refine wtk 30 ?_ rfl (.inl ⟨by rfl, ?_⟩) ?_
        rotate_left 1
        · (intro w hSw; go_simp; try with_reducible rfl)
        try simp only [Act.put, ls0, ls1, ls2]
        refine wrd [31] ?_
        refine (arc rfl (fun K hK => ?_) arn)
        have sd := cbk W1.out 8 (.slice da dn dc) rfl
        have sf := frozen_blk W1.out 8
        have sl := blk_lt W1.out
        go_simp
        try go_wp2_with fail
        refine out_gen hK _ _ (fun wz : World => Kp (ButS (R :: D :: (Value.slice da dn dc).ownBlock.toList) w wz) ∧ Kp (wz.heap[R]? = some (.cells (rcs p x y lf sp (.slice (some ⟨g, 0, none⟩) (dn + 1) cap) nx) 119 (0, 0))) ∧ Kp (MemAt wz B D (ws)) ∧ Kp (wz.heap[w.heap.size]? = some (.cells dz 64 (0, 0))) ∧ Kp (wz.ownsRow (bs) 41 1 (.slice (some ⟨g, 0, none⟩) (dn + 1) cap) (dn + 1) (u32s l ++ [.int .u32 v])) ∧ wd19.heap.size ≤ wz.heap.size) ⟨⟨ButS.set' HS1.out (p := ⟨R, 8, none⟩) (by first | (left; simp; done) | (right; show _ ≤ R; omega)) _⟩, ⟨(blk_set W1.out 8 _).trans rfl⟩, ⟨MemAt.setne M1.out (p := ⟨R, 8, none⟩) (by show B ≠ R; omega) (by show D ≠ R; omega) _⟩, ⟨blk_set_ne (p := ⟨R, 8, none⟩) r1.out (by show w.heap.size ≠ R; omega) _⟩, ⟨own_set_ne O1.out (p := ⟨R, 8, none⟩) (by show R < bs; omega) _⟩, (by simp [World.setCell])⟩ (sx3 (sx_of1 (ButB.set (And.left hHeld) (p := ⟨R, 8, none⟩) (by first | (left; simp; done) | (right; show _ ≤ R; omega)) _)) (xc_of HX0.out ((blk_set W1.out 8 _).trans rfl) 8 (xc_ne (cs := #[.int .i64 p.src, .int .i64 p.rd, .int .i64 p.words, .int .i64 p.period, .int .u32 x, .int .u32 y, .int .i64 lf, .int .u32 sp, .slice da dn dc, nx]) 8 (.slice (some ⟨g, 0, none⟩) (dn + 1) cap)))) (fun wd20 hRn hHn => ?_)
        clear hK K hHeld HS1 W1 M1 r1 O1 sd sf sl
        obtain ⟨HS1, W1, M1, r1, O1, hsz20⟩ := hRn
        have hHeld := hHn
        clear hHn
        try simp only [Act.put, ls0, ls1, ls2]
        refine wpAnyH_done (by kernel_rfl) ?_ _
        clear HX0
        exact JQ.mk ⟨g, cap, _, _, _, _, _, _, _, _, _, _, _, _, _, _, _, _, _, _, _, _, _, _, _, _, _, _, _, _, _, _, _, rfl, HS1, W1, M1, r1, O1, ⟨hat2⟩, ⟨by omega⟩⟩
      · have sd8 := cbk W1.out 8 (.slice da dn dc) rfl
        have sl := blk_lt W1.out
        go_simp
        try go_wp2_with fail
        refine out_gen hK _ _ (fun wz : World => Kp (ButS (R :: D :: (Value.slice da dn dc).ownBlock.toList) w wz) ∧ Kp (wz.heap[R]? = some (.cells (rcs p x y lf sp (.slice da dn dc) nx) 119 (0, 0))) ∧ Kp (MemAt wz B D (ws)) ∧ Kp (wz.heap[w.heap.size]? = some (.cells dz 64 (0, 0))) ∧ Kp (wz.ownsRow (bs) 41 1 (.slice da dn dc) (dn) (u32s l)) ∧ wd14.heap.size ≤ wz.heap.size) ⟨⟨HS1.out⟩, ⟨W1.out⟩, ⟨M1.out⟩, ⟨r1.out⟩, ⟨O1.out⟩, Nat.le_refl _⟩ (sx3 (sx_of1 ((And.left hHeld))) (xc_of HX0.out (W1.out) 8 (fun _ _ => rfl))) (fun wd21 hRn hHn => ?_)
        clear hK K hHeld HS1 W1 M1 r1 O1  sd8 sl
        obtain ⟨HS1, W1, M1, r1, O1, hsz21⟩ := hRn
        have hHeld := hHn
        clear hHn
        try simp only [Act.put, ls0, ls1, ls2]
        refine wtk 24 ?_ rfl (.inl ⟨by rfl, ?_⟩) ?_
        rotate_left 1
        · (intro w hSw; go_simp; try with_reducible rfl)
        try simp only [Act.put, ls0, ls1, ls2]
        refine wtk 25 ?_ rfl (.inl ⟨by rfl, ?_⟩) ?_
        rotate_left 1
        · (intro w hSw; go_simp; try with_reducible rfl)
        try simp only [Act.put, ls0, ls1, ls2]
        refine wrd [4, 26] ?_
        refine (arc rfl (fun K hK => ?_) (arc rfl (fun K hK => ?_) arn))
        · have sd8 := cbk W1.out 8 (.slice da dn dc) rfl
          have sl := blk_lt W1.out
          go_simp
          try go_wp2_with fail
          refine out_gen hK _ _ (fun wz : World => Kp (ButS (R :: D :: (Value.slice da dn dc).ownBlock.toList) w wz) ∧ Kp (wz.heap[R]? = some (.cells (rcs p x y lf sp (.slice da dn dc) nx) 119 (0, 0))) ∧ Kp (MemAt wz B D (ws)) ∧ Kp (wz.heap[w.heap.size]? = some (.cells dz 64 (0, 0))) ∧ Kp (wz.ownsRow (bs) 41 1 (.slice da dn dc) (dn) (u32s l)) ∧ wd21.heap.size ≤ wz.heap.size) ⟨⟨HS1.out⟩, ⟨W1.out⟩, ⟨M1.out⟩, ⟨r1.out⟩, ⟨O1.out⟩, Nat.le_refl _⟩ (sx3 (sx_of1 ((And.left hHeld))) (xc_of HX0.out (W1.out) 8 (fun _ _ => rfl))) (fun wd22 hRn hHn => ?_)
          clear hK K hHeld HS1 W1 M1 r1 O1  sd8 sl
          obtain ⟨HS1, W1, M1, r1, O1, hsz22⟩ := hRn
          have hHeld := hHn
          clear hHn
          try simp only [Act.put, ls0, ls1, ls2]
          refine wrd [26] ?_
          refine (arc rfl (fun K hK => ?_) arn)
          go_simp
          go_at_call 83
          refine (fload_any B D ws (p.buf x y + 2 + dn) (by omega) h1.2.1 _ M1.out).mono ?_
          rw [HV.out]
          rintro e w9 ⟨rfl, hw9⟩
          have hw8 := hw9.symm
          clear hw9
          subst hw8
          have hb : Below wd22.heap.size wd22 wd22 := Below.refl _ _
          try go_wp2_with fail
          refine out_gen hK _ _ (fun wz : World => Kp (ButS (R :: D :: (Value.slice da dn dc).ownBlock.toList) w wz) ∧ Kp (wz.heap[R]? = some (.cells (rcs p x y lf sp (.slice da dn dc) nx) 119 (0, 0))) ∧ Kp (MemAt wz B D (ws)) ∧ Kp (wz.heap[w.heap.size]? = some (.cells dz 64 (0, 0))) ∧ Kp (wz.ownsRow (bs) 41 1 (.slice da dn dc) (dn) (u32s l)) ∧ wd22.heap.size ≤ wz.heap.size) ⟨⟨ButS.trans HS1.out (ButS.of_below hb)⟩, ⟨blk_below W1.out hb⟩, ⟨(M1.out.below hb)⟩, ⟨blk_below r1.out hb⟩, ⟨own_below O1.out hb⟩, hb.size⟩ (sx3 (sx_of1 (ButB.call (And.left hHeld) hb)) (xc_of HX0.out (blk_below W1.out hb) 8 (fun _ _ => rfl))) (fun wd23 hRn hHn => ?_)
          clear hK K hHeld HS1 W1 M1 r1 O1 hb
          obtain ⟨HS1, W1, M1, r1, O1, hsz23⟩ := hRn
          have hHeld := hHn
          clear hHn
          try simp only [Act.put, ls0, ls1, ls2]
          refine wrd [27] ?_
          refine (arc rfl (fun K hK => ?_) arn)
          have ge_qa : w1.heap.size ≤ wd23.heap.size := (And.left hHeld).size
          go_simp
          try go_wp2_with fail
          refine out_gen hK _ _ (fun wz : World => Kp (ButS (R :: D :: (Value.slice da dn dc).ownBlock.toList) w wz) ∧ Kp (wz.heap[R]? = some (.cells (rcs p x y lf sp (.slice da dn dc) nx) 119 (0, 0))) ∧ Kp (MemAt wz B D (ws)) ∧ Kp (wz.heap[w.heap.size]? = some (.cells dz 64 (0, 0))) ∧ Kp (wz.ownsRow (bs) 41 1 (.slice da dn dc) (dn) (u32s l)) ∧ Kp (wz.heap[wd23.heap.size]? = some (.cells #[.int .u32 v] 41 (0, 0))) ∧ wd23.heap.size < wz.heap.size) ⟨⟨ButS.al HS1.out _⟩, ⟨blk_al W1.out _⟩, ⟨(M1.out.al _)⟩, ⟨blk_al r1.out _⟩, ⟨O1.out.alloc _⟩, ⟨blk_new wd23 _⟩, (by simp)⟩ (sx3 (sx_of1 (ButB.al (And.left hHeld) _)) (xc_of HX0.out (blk_al W1.out _) 8 (fun _ _ => rfl))) (fun wd24 hRn hHn => ?_)
          clear hK K hHeld HS1 W1 M1 r1 O1
          obtain ⟨HS1, W1, M1, r1, O1, qa, hsz24⟩ := hRn
          have hHeld := hHn
          clear hHn
          try simp only [Act.put, ls0, ls1, ls2]
          have lt_qa := blk_lt qa.out
          refine wrd [28] ?_
          refine (arc rfl (fun K hK => ?_) arn)
          have hgl := HGL.out
          have hws := (And.left hHeld).size
          refine step_append_lies _ (by rfl) _ _ 44 (by rfl) (bs) 41 i0 (.int .u32 0) 1 4 Tryz.underlying44 hi0 hz0 hz1 hz2 (by rfl) (by decide) _ _ _ (by rfl) O1.out _ 1 _ [.int .u32 v] (by rfl) rfl (World.news_of_block qa.out) (by simp [Value.oneCell']) (by omega) (by unfold maxLen; omega) (by omega) (by have := hws; omega) _ rfl ?_
          intro g cap w9 hown hgrow hat hlt
          have hat2 : (Value.slice da dn dc).ownBlock = some g ∨ w.heap.size < g := by rcases hat with hh | hh; exact .inl hh; right; omega
          refine out_gen hK _ _ (fun wz : World => Kp (ButS (R :: D :: (Value.slice da dn dc).ownBlock.toList) w wz) ∧ Kp (wz.heap[R]? = some (.cells (rcs p x y lf sp (.slice da dn dc) nx) 119 (0, 0))) ∧ Kp (MemAt wz B D (ws)) ∧ Kp (wz.heap[w.heap.size]? = some (.cells dz 64 (0, 0))) ∧ Kp (wz.ownsRow (bs) 41 1 (.slice (some ⟨g, 0, none⟩) (dn + 1) cap) (dn + 1) (u32s l ++ [.int .u32 v])) ∧ wd24.heap.size ≤ wz.heap.size) ⟨⟨ButS.grownV HS1.out hgrow (fun k hk => by simp [hk])⟩, ⟨blk_grownR W1.out O1.out hgrow (by first | (intro hq; have := (O1.out.lt _ hq).1; omega) | (intro hq; simp [Value.ownBlock] at hq; omega) | (intro hq; have := hgl _ hq; omega))⟩, ⟨(MemAt.grown M1.out O1.out hgrow lBb lDb)⟩, ⟨blk_grownR r1.out O1.out hgrow (by first | (intro hq; have := (O1.out.lt _ hq).1; omega) | (intro hq; simp [Value.ownBlock] at hq; omega) | (intro hq; have := hgl _ hq; omega))⟩, ⟨hown⟩, hgrow.size⟩ (sx3 (sx_of1 (ButB.grown (And.left hHeld) O1.out hgrow (by omega))) (xc_of HX0.out (blk_grownR W1.out O1.out hgrow (by first | (intro hq; have := (O1.out.lt _ hq).1; omega) | (intro hq; simp [Value.ownBlock] at hq; omega) | (intro hq; have := hgl _ hq; omega))) 8 (fun _ _ => rfl))) (fun wd25 hRn hHn => ?_)
          clear hK K hHeld HS1 W1 M1 r1 O1 qa hown hgrow hat hlt hws hgl
          obtain ⟨HS1, W1, M1, r1, O1, hsz25⟩ := hRn
          have hHeld := hHn
          clear hHn
          try simp only [Act.put, ls0, ls1, ls2]
          try simp only [Nat.zero_add]
          refine wtk 29 ?_ rfl (.inl ⟨by rfl, ?_⟩) ?_
          rotate_left 1
          · (intro w hSw; go_simp; try with_reducible rfl)
          try simp only [Act.put, ls0, ls1, ls2]
          refine wtk 30 ?_ rfl (.inl ⟨by rfl, ?_⟩) ?_
          rotate_left 1
          · (intro w hSw; go_simp; try with_reducible rfl)
          try simp only [Act.put, ls0, ls1, ls2]
          refine wrd [31] ?_
          refine (arc rfl (fun K hK => ?_) arn)
          have sd := cbk W1.out 8 (.slice da dn dc) rfl
          have sf := frozen_blk W1.out 8
          have sl := blk_lt W1.out
          go_simp
          try go_wp2_with fail
          refine out_gen hK _ _ (fun wz : World => Kp (ButS (R :: D :: (Value.slice da dn dc).ownBlock.toList) w wz) ∧ Kp (wz.heap[R]? = some (.cells (rcs p x y lf sp (.slice (some ⟨g, 0, none⟩) (dn + 1) cap) nx) 119 (0, 0))) ∧ Kp (MemAt wz B D (ws)) ∧ Kp (wz.heap[w.heap.size]? = some (.cells dz 64 (0, 0))) ∧ Kp (wz.ownsRow (bs) 41 1 (.slice (some ⟨g, 0, none⟩) (dn + 1) cap) (dn + 1) (u32s l ++ [.int .u32 v])) ∧ wd25.heap.size ≤ wz.heap.size) ⟨⟨ButS.set' HS1.out (p := ⟨R, 8, none⟩) (by first | (left; simp; done) | (right; show _ ≤ R; omega)) _⟩, ⟨(blk_set W1.out 8 _).trans rfl⟩, ⟨MemAt.setne M1.out (p := ⟨R, 8, none⟩) (by show B ≠ R; omega) (by show D ≠ R; omega) _⟩, ⟨blk_set_ne (p := ⟨R, 8, none⟩) r1.out (by show w.heap.size ≠ R; omega) _⟩, ⟨own_set_ne O1.out (p := ⟨R, 8, none⟩) (by show R < bs; omega) _⟩, (by simp [World.setCell])⟩ (sx3 (sx_of1 (ButB.set (And.left hHeld) (p := ⟨R, 8, none⟩) (by first | (left; simp; done) | (right; show _ ≤ R; omega)) _)) (xc_of HX0.out ((blk_set W1.out 8 _).trans rfl) 8 (xc_ne (cs := #[.int .i64 p.src, .int .i64 p.rd, .int .i64 p.words, .int .i64 p.period, .int .u32 x, .int .u32 y, .int .i64 lf, .int .u32 sp, .slice da dn dc, nx]) 8 (.slice (some ⟨g, 0, none⟩) (dn + 1) cap)))) (fun wd26 hRn hHn => ?_)
          clear hK K hHeld HS1 W1 M1 r1 O1 sd sf sl
          obtain ⟨HS1, W1, M1, r1, O1, hsz26⟩ := hRn
          have hHeld := hHn
          clear hHn
          try simp only [Act.put, ls0, ls1, ls2]
          refine wpAnyH_done (by kernel_rfl) ?_ _
          clear HX0
          exact JQ.mk ⟨g, cap, _, _, _, _, _, _, _, _, _, _, _, _, _, _, _, _, _, _, _, _, _, _, _, _, _, _, _, _, _, _, _, rfl, HS1, W1, M1, r1, O1, ⟨hat2⟩, ⟨by omega⟩⟩
        · go_simp
          go_at_call 83
          refine (fload_any B D ws (p.buf x y + 2 + dn) (by omega) h1.2.1 _ M1.out).mono ?_
          rw [HV.out]
          rintro e w9 ⟨rfl, hw9⟩
          have hw8 := hw9.symm
          clear hw9
          subst hw8
          have hb : Below wd21.heap.size wd21 wd21 := Below.refl _ _
          try go_wp2_with fail
          refine out_gen hK _ _ (fun wz : World => Kp (ButS (R :: D :: (Value.slice da dn dc).ownBlock.toList) w wz) ∧ Kp (wz.heap[R]? = some (.cells (rcs p x y lf sp (.slice da dn dc) nx) 119 (0, 0))) ∧ Kp (MemAt wz B D (ws)) ∧ Kp (wz.heap[w.heap.size]? = some (.cells dz 64 (0, 0))) ∧ Kp (wz.ownsRow (bs) 41 1 (.slice da dn dc) (dn) (u32s l)) ∧ wd21.heap.size ≤ wz.heap.size) ⟨⟨ButS.trans HS1.out (ButS.of_below hb)⟩, ⟨blk_below W1.out hb⟩, ⟨(M1.out.below hb)⟩, ⟨blk_below r1.out hb⟩, ⟨own_below O1.out hb⟩, hb.size⟩ (sx3 (sx_of1 (ButB.call (And.left hHeld) hb)) (xc_of HX0.out (blk_below W1.out hb) 8 (fun _ _ => rfl))) (fun wd27 hRn hHn => ?_)
          clear hK K hHeld HS1 W1 M1 r1 O1 hb
          obtain ⟨HS1, W1, M1, r1, O1, hsz27⟩ := hRn
          have hHeld := hHn
          clear hHn
          try simp only [Act.put, ls0, ls1, ls2]
          refine wrd [4, 27] ?_
          refine (arc rfl (fun K hK => ?_) (arc rfl (fun K hK => ?_) arn))
          · have sd8 := cbk W1.out 8 (.slice da dn dc) rfl
            have sl := blk_lt W1.out
            go_simp
            try go_wp2_with fail
            refine out_gen hK _ _ (fun wz : World => Kp (ButS (R :: D :: (Value.slice da dn dc).ownBlock.toList) w wz) ∧ Kp (wz.heap[R]? = some (.cells (rcs p x y lf sp (.slice da dn dc) nx) 119 (0, 0))) ∧ Kp (MemAt wz B D (ws)) ∧ Kp (wz.heap[w.heap.size]? = some (.cells dz 64 (0, 0))) ∧ Kp (wz.ownsRow (bs) 41 1 (.slice da dn dc) (dn) (u32s l)) ∧ wd27.heap.size ≤ wz.heap.size) ⟨⟨HS1.out⟩, ⟨W1.out⟩, ⟨M1.out⟩, ⟨r1.out⟩, ⟨O1.out⟩, Nat.le_refl _⟩ (sx3 (sx_of1 ((And.left hHeld))) (xc_of HX0.out (W1.out) 8 (fun _ _ => rfl))) (fun wd28 hRn hHn => ?_)
            clear hK K hHeld HS1 W1 M1 r1 O1  sd8 sl
            obtain ⟨HS1, W1, M1, r1, O1, hsz28⟩ := hRn
            have hHeld := hHn
            clear hHn
            try simp only [Act.put, ls0, ls1, ls2]
            refine wrd [27] ?_
            refine (arc rfl (fun K hK => ?_) arn)
            have ge_qa : w1.heap.size ≤ wd28.heap.size := (And.left hHeld).size
            go_simp
            try go_wp2_with fail
            refine out_gen hK _ _ (fun wz : World => Kp (ButS (R :: D :: (Value.slice da dn dc).ownBlock.toList) w wz) ∧ Kp (wz.heap[R]? = some (.cells (rcs p x y lf sp (.slice da dn dc) nx) 119 (0, 0))) ∧ Kp (MemAt wz B D (ws)) ∧ Kp (wz.heap[w.heap.size]? = some (.cells dz 64 (0, 0))) ∧ Kp (wz.ownsRow (bs) 41 1 (.slice da dn dc) (dn) (u32s l)) ∧ Kp (wz.heap[wd28.heap.size]? = some (.cells #[.int .u32 v] 41 (0, 0))) ∧ wd28.heap.size < wz.heap.size) ⟨⟨ButS.al HS1.out _⟩, ⟨blk_al W1.out _⟩, ⟨(M1.out.al _)⟩, ⟨blk_al r1.out _⟩, ⟨O1.out.alloc _⟩, ⟨blk_new wd28 _⟩, (by simp)⟩ (sx3 (sx_of1 (ButB.al (And.left hHeld) _)) (xc_of HX0.out (blk_al W1.out _) 8 (fun _ _ => rfl))) (fun wd29 hRn hHn => ?_)
            clear hK K hHeld HS1 W1 M1 r1 O1
            obtain ⟨HS1, W1, M1, r1, O1, qa, hsz29⟩ := hRn
            have hHeld := hHn
            clear hHn
            try simp only [Act.put, ls0, ls1, ls2]
            have lt_qa := blk_lt qa.out
            refine wrd [28] ?_
            refine (arc rfl (fun K hK => ?_) arn)
            have hgl := HGL.out
            have hws := (And.left hHeld).size
            refine step_append_lies _ (by rfl) _ _ 44 (by rfl) (bs) 41 i0 (.int .u32 0) 1 4 Tryz.underlying44 hi0 hz0 hz1 hz2 (by rfl) (by decide) _ _ _ (by rfl) O1.out _ 1 _ [.int .u32 v] (by rfl) rfl (World.news_of_block qa.out) (by simp [Value.oneCell']) (by omega) (by unfold maxLen; omega) (by omega) (by have := hws; omega) _ rfl ?_
            intro g cap w9 hown hgrow hat hlt
            have hat2 : (Value.slice da dn dc).ownBlock = some g ∨ w.heap.size < g := by rcases hat with hh | hh; exact .inl hh; right; omega
            refine out_gen hK _ _ (fun wz : World => Kp (ButS (R :: D :: (Value.slice da dn dc).ownBlock.toList) w wz) ∧ Kp (wz.heap[R]? = some (.cells (rcs p x y lf sp (.slice da dn dc) nx) 119 (0, 0))) ∧ Kp (MemAt wz B D (ws)) ∧ Kp (wz.heap[w.heap.size]? = some (.cells dz 64 (0, 0))) ∧ Kp (wz.ownsRow (bs) 41 1 (.slice (some ⟨g, 0, none⟩) (dn + 1) cap) (dn + 1) (u32s l ++ [.int .u32 v])) ∧ wd29.heap.size ≤ wz.heap.size) ⟨⟨ButS.grownV HS1.out hgrow (fun k hk => by simp [hk])⟩, ⟨blk_grownR W1.out O1.out hgrow (by first | (intro hq; have := (O1.out.lt _ hq).1; omega) | (intro hq; simp [Value.ownBlock] at hq; omega) | (intro hq; have := hgl _ hq; omega))⟩, ⟨(MemAt.grown M1.out O1.out hgrow lBb lDb)⟩, ⟨blk_grownR r1.out O1.out hgrow (by first | (intro hq; have := (O1.out.lt _ hq).1; omega) | (intro hq; simp [Value.ownBlock] at hq; omega) | (intro hq; have := hgl _ hq; omega))⟩, ⟨hown⟩, hgrow.size⟩ (sx3 (sx_of1 (ButB.grown (And.left hHeld) O1.out hgrow (by omega))) (xc_of HX0.out (blk_grownR W1.out O1.out hgrow (by first | (intro hq; have := (O1.out.lt _ hq).1; omega) | (intro hq; simp [Value.ownBlock] at hq; omega) | (intro hq; have := hgl _ hq; omega))) 8 (fun _ _ => rfl))) (fun wd30 hRn hHn => ?_)
            clear hK K hHeld HS1 W1 M1 r1 O1 qa hown hgrow hat hlt hws hgl
            obtain ⟨HS1, W1, M1, r1, O1, hsz30⟩ := hRn
            have hHeld := hHn
            clear hHn
            try simp only [Act.put, ls0, ls1, ls2]
            try simp only [Nat.zero_add]
            refine wtk 29 ?_ rfl (.inl ⟨by rfl, ?_⟩) ?_
            rotate_left 1
            · (intro w hSw; go_simp; try with_reducible rfl)
            try simp only [Act.put, ls0, ls1, ls2]
            refine wtk 30 ?_ rfl (.inl ⟨by rfl, ?_⟩) ?_
            rotate_left 1
            · (intro w hSw; go_simp; try with_reducible rfl)
            try simp only [Act.put, ls0, ls1, ls2]
            refine wrd [31] ?_
            refine (arc rfl (fun K hK => ?_) arn)
            have sd := cbk W1.out 8 (.slice da dn dc) rfl
            have sf := frozen_blk W1.out 8
            have sl := blk_lt W1.out
            go_simp
            try go_wp2_with fail
            refine out_gen hK _ _ (fun wz : World => Kp (ButS (R :: D :: (Value.slice da dn dc).ownBlock.toList) w wz) ∧ Kp (wz.heap[R]? = some (.cells (rcs p x y lf sp (.slice (some ⟨g, 0, none⟩) (dn + 1) cap) nx) 119 (0, 0))) ∧ Kp (MemAt wz B D (ws)) ∧ Kp (wz.heap[w.heap.size]? = some (.cells dz 64 (0, 0))) ∧ Kp (wz.ownsRow (bs) 41 1 (.slice (some ⟨g, 0, none⟩) (dn + 1) cap) (dn + 1) (u32s l ++ [.int .u32 v])) ∧ wd30.heap.size ≤ wz.heap.size) ⟨⟨ButS.set' HS1.out (p := ⟨R, 8, none⟩) (by first | (left; simp; done) | (right; show _ ≤ R; omega)) _⟩, ⟨(blk_set W1.out 8 _).trans rfl⟩, ⟨MemAt.setne M1.out (p := ⟨R, 8, none⟩) (by show B ≠ R; omega) (by show D ≠ R; omega) _⟩, ⟨blk_set_ne (p := ⟨R, 8, none⟩) r1.out (by show w.heap.size ≠ R; omega) _⟩, ⟨own_set_ne O1.out (p := ⟨R, 8, none⟩) (by show R < bs; omega) _⟩, (by simp [World.setCell])⟩ (sx3 (sx_of1 (ButB.set (And.left hHeld) (p := ⟨R, 8, none⟩) (by first | (left; simp; done) | (right; show _ ≤ R; omega)) _)) (xc_of HX0.out ((blk_set W1.out 8 _).trans rfl) 8 (xc_ne (cs := #[.int .i64 p.src, .int .i64 p.rd, .int .i64 p.words, .int .i64 p.period, .int .u32 x, .int .u32 y, .int .i64 lf, .int .u32 sp, .slice da dn dc, nx]) 8 (.slice (some ⟨g, 0, none⟩) (dn + 1) cap)))) (fun wd31 hRn hHn => ?_)
            clear hK K hHeld HS1 W1 M1 r1 O1 sd sf sl
            obtain ⟨HS1, W1, M1, r1, O1, hsz31⟩ := hRn
            have hHeld := hHn
            clear hHn
            try simp only [Act.put, ls0, ls1, ls2]
            refine wpAnyH_done (by kernel_rfl) ?_ _
            clear HX0
            exact JQ.mk ⟨g, cap, _, _, _, _, _, _, _, _, _, _, _, _, _, _, _, _, _, _, _, _, _, _, _, _, _, _, _, _, _, _, _, rfl, HS1, W1, M1, r1, O1, ⟨hat2⟩, ⟨by omega⟩⟩
          · have ge_qa : w1.heap.size ≤ wd27.heap.size := (And.left hHeld).size
            go_simp
            try go_wp2_with fail
            refine out_gen hK _ _ (fun wz : World => Kp (ButS (R :: D :: (Value.slice da dn dc).ownBlock.toList) w wz) ∧ Kp (wz.heap[R]? = some (.cells (rcs p x y lf sp (.slice da dn dc) nx) 119 (0, 0))) ∧ Kp (MemAt wz B D (ws)) ∧ Kp (wz.heap[w.heap.size]? = some (.cells dz 64 (0, 0))) ∧ Kp (wz.ownsRow (bs) 41 1 (.slice da dn dc) (dn) (u32s l)) ∧ Kp (wz.heap[wd27.heap.size]? = some (.cells #[.int .u32 v] 41 (0, 0))) ∧ wd27.heap.size < wz.heap.size) ⟨⟨ButS.al HS1.out _⟩, ⟨blk_al W1.out _⟩, ⟨(M1.out.al _)⟩, ⟨blk_al r1.out _⟩, ⟨O1.out.alloc _⟩, ⟨blk_new wd27 _⟩, (by simp)⟩ (sx3 (sx_of1 (ButB.al (And.left hHeld) _)) (xc_of HX0.out (blk_al W1.out _) 8 (fun _ _ => rfl))) (fun wd32 hRn hHn => ?_)
            clear hK K hHeld HS1 W1 M1 r1 O1
            obtain ⟨HS1, W1, M1, r1, O1, qa, hsz32⟩ := hRn
            have hHeld := hHn
            clear hHn
            try simp only [Act.put, ls0, ls1, ls2]
            have lt_qa := blk_lt qa.out
            refine wrd [4] ?_
            refine (arc rfl (fun K hK => ?_) arn)
            have sd8 := cbk W1.out 8 (.slice da dn dc) rfl
            have sl := blk_lt W1.out
            go_simp
            try go_wp2_with fail
            refine out_gen hK _ _ (fun wz : World => Kp (ButS (R :: D :: (Value.slice da dn dc).ownBlock.toList) w wz) ∧ Kp (wz.heap[R]? = some (.cells (rcs p x y lf sp (.slice da dn dc) nx) 119 (0, 0))) ∧ Kp (MemAt wz B D (ws)) ∧ Kp (wz.heap[w.heap.size]? = some (.cells dz 64 (0, 0))) ∧ Kp (wz.ownsRow (bs) 41 1 (.slice da dn dc) (dn) (u32s l)) ∧ Kp (wz.heap[wd27.heap.size]? = some (.cells #[.int .u32 v] 41 (0, 0))) ∧ wd32.heap.size ≤ wz.heap.size) ⟨⟨HS1.out⟩, ⟨W1.out⟩, ⟨M1.out⟩, ⟨r1.out⟩, ⟨O1.out⟩, ⟨qa.out⟩, Nat.le_refl _⟩ (sx3 (sx_of1 ((And.left hHeld))) (xc_of HX0.out (W1.out) 8 (fun _ _ => rfl))) (fun wd33 hRn hHn => ?_)
            clear hK K hHeld HS1 W1 M1 r1 O1 qa  sd8 sl
            obtain ⟨HS1, W1, M1, r1, O1, qa, hsz33⟩ := hRn
            have hHeld := hHn
            clear hHn
            try simp only [Act.put, ls0, ls1, ls2]
            refine wrd [28] ?_
            refine (arc rfl (fun K hK => ?_) arn)
            have hgl := HGL.out
            have hws := (And.left hHeld).size
            refine step_append_lies _ (by rfl) _ _ 44 (by rfl) (bs) 41 i0 (.int .u32 0) 1 4 Tryz.underlying44 hi0 hz0 hz1 hz2 (by rfl) (by decide) _ _ _ (by rfl) O1.out _ 1 _ [.int .u32 v] (by rfl) rfl (World.news_of_block qa.out) (by simp [Value.oneCell']) (by omega) (by unfold maxLen; omega) (by omega) (by have := hws; omega) _ rfl ?_
            intro g cap w9 hown hgrow hat hlt
            have hat2 : (Value.slice da dn dc).ownBlock = some g ∨ w.heap.size < g := by rcases hat with hh | hh; exact .inl hh; right; omega
            refine out_gen hK _ _ (fun wz : World => Kp (ButS (R :: D :: (Value.slice da dn dc).ownBlock.toList) w wz) ∧ Kp (wz.heap[R]? = some (.cells (rcs p x y lf sp (.slice da dn dc) nx) 119 (0, 0))) ∧ Kp (MemAt wz B D (ws)) ∧ Kp (wz.heap[w.heap.size]? = some (.cells dz 64 (0, 0))) ∧ Kp (wz.ownsRow (bs) 41 1 (.slice (some ⟨g, 0, none⟩) (dn + 1) cap) (dn + 1) (u32s l ++ [.int .u32 v])) ∧ wd33.heap.size ≤ wz.heap.size) ⟨⟨ButS.grownV HS1.out hgrow (fun k hk => by simp [hk])⟩, ⟨blk_grownR W1.out O1.out hgrow (by first | (intro hq; have := (O1.out.lt _ hq).1; omega) | (intro hq; simp [Value.ownBlock] at hq; omega) | (intro hq; have := hgl _ hq; omega))⟩, ⟨(MemAt.grown M1.out O1.out hgrow lBb lDb)⟩, ⟨blk_grownR r1.out O1.out hgrow (by first | (intro hq; have := (O1.out.lt _ hq).1; omega) | (intro hq; simp [Value.ownBlock] at hq; omega) | (intro hq; have := hgl _ hq; omega))⟩, ⟨hown⟩, hgrow.size⟩ (sx3 (sx_of1 (ButB.grown (And.left hHeld) O1.out hgrow (by omega))) (xc_of HX0.out (blk_grownR W1.out O1.out hgrow (by first | (intro hq; have := (O1.out.lt _ hq).1; omega) | (intro hq; simp [Value.ownBlock] at hq; omega) | (intro hq; have := hgl _ hq; omega))) 8 (fun _ _ => rfl))) (fun wd34 hRn hHn => ?_)
            clear hK K hHeld HS1 W1 M1 r1 O1 qa hown hgrow hat hlt hws hgl
            obtain ⟨HS1, W1, M1, r1, O1, hsz34⟩ := hRn
            have hHeld := hHn
            clear hHn
            try simp only [Act.put, ls0, ls1, ls2]
            try simp only [Nat.zero_add]
            refine wtk 29 ?_ rfl (.inl ⟨by rfl, ?_⟩) ?_
            rotate_left 1
            · (intro w hSw; go_simp; try with_reducible rfl)
            try simp only [Act.put, ls0, ls1, ls2]
            refine wtk 30 ?_ rfl (.inl ⟨by rfl, ?_⟩) ?_
            rotate_left 1
            · (intro w hSw; go_simp; try with_reducible rfl)
            try simp only [Act.put, ls0, ls1, ls2]
            refine wrd [31] ?_
            refine (arc rfl (fun K hK => ?_) arn)
            have sd := cbk W1.out 8 (.slice da dn dc) rfl
            have sf := frozen_blk W1.out 8
            have sl := blk_lt W1.out
            go_simp
            try go_wp2_with fail
            refine out_gen hK _ _ (fun wz : World => Kp (ButS (R :: D :: (Value.slice da dn dc).ownBlock.toList) w wz) ∧ Kp (wz.heap[R]? = some (.cells (rcs p x y lf sp (.slice (some ⟨g, 0, none⟩) (dn + 1) cap) nx) 119 (0, 0))) ∧ Kp (MemAt wz B D (ws)) ∧ Kp (wz.heap[w.heap.size]? = some (.cells dz 64 (0, 0))) ∧ Kp (wz.ownsRow (bs) 41 1 (.slice (some ⟨g, 0, none⟩) (dn + 1) cap) (dn + 1) (u32s l ++ [.int .u32 v])) ∧ wd34.heap.size ≤ wz.heap.size) ⟨⟨ButS.set' HS1.out (p := ⟨R, 8, none⟩) (by first | (left; simp; done) | (right; show _ ≤ R; omega)) _⟩, ⟨(blk_set W1.out 8 _).trans rfl⟩, ⟨MemAt.setne M1.out (p := ⟨R, 8, none⟩) (by show B ≠ R; omega) (by show D ≠ R; omega) _⟩, ⟨blk_set_ne (p := ⟨R, 8, none⟩) r1.out (by show w.heap.size ≠ R; omega) _⟩, ⟨own_set_ne O1.out (p := ⟨R, 8, none⟩) (by show R < bs; omega) _⟩, (by simp [World.setCell])⟩ (sx3 (sx_of1 (ButB.set (And.left hHeld) (p := ⟨R, 8, none⟩) (by first | (left; simp; done) | (right; show _ ≤ R; omega)) _)) (xc_of HX0.out ((blk_set W1.out 8 _).trans rfl) 8 (xc_ne (cs := #[.int .i64 p.src, .int .i64 p.rd, .int .i64 p.words, .int .i64 p.period, .int .u32 x, .int .u32 y, .int .i64 lf, .int .u32 sp, .slice da dn dc, nx]) 8 (.slice (some ⟨g, 0, none⟩) (dn + 1) cap)))) (fun wd35 hRn hHn => ?_)
            clear hK K hHeld HS1 W1 M1 r1 O1 sd sf sl
            obtain ⟨HS1, W1, M1, r1, O1, hsz35⟩ := hRn
            have hHeld := hHn
            clear hHn
            try simp only [Act.put, ls0, ls1, ls2]
            refine wpAnyH_done (by kernel_rfl) ?_ _
            clear HX0
            exact JQ.mk ⟨g, cap, _, _, _, _, _, _, _, _, _, _, _, _, _, _, _, _, _, _, _, _, _, _, _, _, _, _, _, _, _, _, _, rfl, HS1, W1, M1, r1, O1, ⟨hat2⟩, ⟨by omega⟩⟩
    · have sd8 := cbk W1.out 8 (.slice da dn dc) rfl
      have sl := blk_lt W1.out
      go_simp
      try go_wp2_with fail
      refine out_gen hK _ _ (fun wz : World => Kp (ButS (R :: D :: (Value.slice da dn dc).ownBlock.toList) w wz) ∧ Kp (wz.heap[R]? = some (.cells (rcs p x y lf sp (.slice da dn dc) nx) 119 (0, 0))) ∧ Kp (MemAt wz B D (ws)) ∧ Kp (wz.heap[w.heap.size]? = some (.cells dz 64 (0, 0))) ∧ Kp (wz.ownsRow (bs) 41 1 (.slice da dn dc) (dn) (u32s l)) ∧ wd0.heap.size ≤ wz.heap.size) ⟨⟨HS1.out⟩, ⟨W1.out⟩, ⟨M1.out⟩, ⟨r1.out⟩, ⟨O1.out⟩, Nat.le_refl _⟩ (sx3 (sx_of1 ((And.left hHeld))) (xc_of HX0.out (W1.out) 8 (fun _ _ => rfl))) (fun wd36 hRn hHn => ?_)
      clear hK K hHeld HS1 W1 M1 r1 O1  sd8 sl
      obtain ⟨HS1, W1, M1, r1, O1, hsz36⟩ := hRn
      have hHeld := hHn
      clear hHn
      try simp only [Act.put, ls0, ls1, ls2]
      refine wtk 24 ?_ rfl (.inl ⟨by rfl, ?_⟩) ?_
      rotate_left 1
      · (intro w hSw; go_simp; try with_reducible rfl)
      try simp only [Act.put, ls0, ls1, ls2]
      refine wrd [4, 18] ?_
      refine (arc rfl (fun K hK => ?_) (arc rfl (fun K hK => ?_) arn))
      · have sd8 := cbk W1.out 8 (.slice da dn dc) rfl
        have sl := blk_lt W1.out
        go_simp
        try go_wp2_with fail
        refine out_gen hK _ _ (fun wz : World => Kp (ButS (R :: D :: (Value.slice da dn dc).ownBlock.toList) w wz) ∧ Kp (wz.heap[R]? = some (.cells (rcs p x y lf sp (.slice da dn dc) nx) 119 (0, 0))) ∧ Kp (MemAt wz B D (ws)) ∧ Kp (wz.heap[w.heap.size]? = some (.cells dz 64 (0, 0))) ∧ Kp (wz.ownsRow (bs) 41 1 (.slice da dn dc) (dn) (u32s l)) ∧ wd36.heap.size ≤ wz.heap.size) ⟨⟨HS1.out⟩, ⟨W1.out⟩, ⟨M1.out⟩, ⟨r1.out⟩, ⟨O1.out⟩, Nat.le_refl _⟩ (sx3 (sx_of1 ((And.left hHeld))) (xc_of HX0.out (W1.out) 8 (fun _ _ => rfl))) (fun wd37 hRn hHn => ?_)
        clear hK K hHeld HS1 W1 M1 r1 O1  sd8 sl
        obtain ⟨HS1, W1, M1, r1, O1, hsz37⟩ := hRn
        have hHeld := hHn
        clear hHn
        try simp only [Act.put, ls0, ls1, ls2]
        refine wrd [18] ?_
        refine (arc rfl (fun K hK => ?_) arn)
        go_simp
        go_at_call 108
        refine (fbuffer_any p hp x y hx hy _).mono ?_
        rintro e w9 ⟨rfl, hb⟩
        try go_wp2_with fail
        refine out_gen hK _ _ (fun wz : World => Kp (ButS (R :: D :: (Value.slice da dn dc).ownBlock.toList) w wz) ∧ Kp (wz.heap[R]? = some (.cells (rcs p x y lf sp (.slice da dn dc) nx) 119 (0, 0))) ∧ Kp (MemAt wz B D (ws)) ∧ Kp (wz.heap[w.heap.size]? = some (.cells dz 64 (0, 0))) ∧ Kp (wz.ownsRow (bs) 41 1 (.slice da dn dc) (dn) (u32s l)) ∧ wd37.heap.size ≤ wz.heap.size) ⟨⟨ButS.trans HS1.out (ButS.of_below hb)⟩, ⟨blk_below W1.out hb⟩, ⟨(M1.out.below hb)⟩, ⟨blk_below r1.out hb⟩, ⟨own_below O1.out hb⟩, hb.size⟩ (sx3 (sx_of1 (ButB.call (And.left hHeld) hb)) (xc_of HX0.out (blk_below W1.out hb) 8 (fun _ _ => rfl))) (fun wd38 hRn hHn => ?_)
        clear hK K hHeld HS1 W1 M1 r1 O1 hb
        obtain ⟨HS1, W1, M1, r1, O1, hsz38⟩ := hRn
        have hHeld := hHn
        clear hHn
        try simp only [Act.put, ls0, ls1, ls2]
        refine wtk 19 ?_ rfl (.inl ⟨by rfl, ?_⟩) ?_
        rotate_left 1
        · (intro w hSw; go_simp; try with_reducible rfl)
        try simp only [Act.put, ls0, ls1, ls2]
        refine wtk 25 ?_ rfl (.inl ⟨by rfl, ?_⟩) ?_
        rotate_left 1
        · (intro w hSw; go_simp; try with_reducible rfl)
        try simp only [Act.put, ls0, ls1, ls2]
        refine wrd [26] ?_
        refine (arc rfl (fun K hK => ?_) arn)
        go_simp
        go_at_call 83
        refine (fload_any B D ws (p.buf x y + 2 + dn) (by omega) h1.2.1 _ M1.out).mono ?_
        rw [HV.out]
        rintro e w9 ⟨rfl, hw9⟩
        have hw8 := hw9.symm
        clear hw9
        subst hw8
        have hb : Below wd38.heap.size wd38 wd38 := Below.refl _ _
        try go_wp2_with fail
        refine out_gen hK _ _ (fun wz : World => Kp (ButS (R :: D :: (Value.slice da dn dc).ownBlock.toList) w wz) ∧ Kp (wz.heap[R]? = some (.cells (rcs p x y lf sp (.slice da dn dc) nx) 119 (0, 0))) ∧ Kp (MemAt wz B D (ws)) ∧ Kp (wz.heap[w.heap.size]? = some (.cells dz 64 (0, 0))) ∧ Kp (wz.ownsRow (bs) 41 1 (.slice da dn dc) (dn) (u32s l)) ∧ wd38.heap.size ≤ wz.heap.size) ⟨⟨ButS.trans HS1.out (ButS.of_below hb)⟩, ⟨blk_below W1.out hb⟩, ⟨(M1.out.below hb)⟩, ⟨blk_below r1.out hb⟩, ⟨own_below O1.out hb⟩, hb.size⟩ (sx3 (sx_of1 (ButB.call (And.left hHeld) hb)) (xc_of HX0.out (blk_below W1.out hb) 8 (fun _ _ => rfl))) (fun wd39 hRn hHn => ?_)
        clear hK K hHeld HS1 W1 M1 r1 O1 hb
        obtain ⟨HS1, W1, M1, r1, O1, hsz39⟩ := hRn
        have hHeld := hHn
        clear hHn
        try simp only [Act.put, ls0, ls1, ls2]
        refine wrd [27] ?_
        refine (arc rfl (fun K hK => ?_) arn)
        have ge_qa : w1.heap.size ≤ wd39.heap.size := (And.left hHeld).size
        go_simp
        try go_wp2_with fail
        refine out_gen hK _ _ (fun wz : World => Kp (ButS (R :: D :: (Value.slice da dn dc).ownBlock.toList) w wz) ∧ Kp (wz.heap[R]? = some (.cells (rcs p x y lf sp (.slice da dn dc) nx) 119 (0, 0))) ∧ Kp (MemAt wz B D (ws)) ∧ Kp (wz.heap[w.heap.size]? = some (.cells dz 64 (0, 0))) ∧ Kp (wz.ownsRow (bs) 41 1 (.slice da dn dc) (dn) (u32s l)) ∧ Kp (wz.heap[wd39.heap.size]? = some (.cells #[.int .u32 v] 41 (0, 0))) ∧ wd39.heap.size < wz.heap.size) ⟨⟨ButS.al HS1.out _⟩, ⟨blk_al W1.out _⟩, ⟨(M1.out.al _)⟩, ⟨blk_al r1.out _⟩, ⟨O1.out.alloc _⟩, ⟨blk_new wd39 _⟩, (by simp)⟩ (sx3 (sx_of1 (ButB.al (And.left hHeld) _)) (xc_of HX0.out (blk_al W1.out _) 8 (fun _ _ => rfl))) (fun wd40 hRn hHn => ?_)
        clear hK K hHeld HS1 W1 M1 r1 O1
        obtain ⟨HS1, W1, M1, r1, O1, qa, hsz40⟩ := hRn
        have hHeld := hHn
        clear hHn
        try simp only [Act.put, ls0, ls1, ls2]
        have lt_qa := blk_lt qa.out
        refine wrd [28] ?_
        refine (arc rfl (fun K hK => ?_) arn)
        have hgl := HGL.out
        have hws := (And.left hHeld).size
        refine step_append_lies _ (by rfl) _ _ 44 (by rfl) (bs) 41 i0 (.int .u32 0) 1 4 Tryz.underlying44 hi0 hz0 hz1 hz2 (by rfl) (by decide) _ _ _ (by rfl) O1.out _ 1 _ [.int .u32 v] (by rfl) rfl (World.news_of_block qa.out) (by simp [Value.oneCell']) (by omega) (by unfold maxLen; omega) (by omega) (by have := hws; omega) _ rfl ?_
        intro g cap w9 hown hgrow hat hlt
        have hat2 : (Value.slice da dn dc).ownBlock = some g ∨ w.heap.size < g := by rcases hat with hh | hh; exact .inl hh; right; omega
        refine out_gen hK _ _ (fun wz : World => Kp (ButS (R :: D :: (Value.slice da dn dc).ownBlock.toList) w wz) ∧ Kp (wz.heap[R]? = some (.cells (rcs p x y lf sp (.slice da dn dc) nx) 119 (0, 0))) ∧ Kp (MemAt wz B D (ws)) ∧ Kp (wz.heap[w.heap.size]? = some (.cells dz 64 (0, 0))) ∧ Kp (wz.ownsRow (bs) 41 1 (.slice (some ⟨g, 0, none⟩) (dn + 1) cap) (dn + 1) (u32s l ++ [.int .u32 v])) ∧ wd40.heap.size ≤ wz.heap.size) ⟨⟨ButS.grownV HS1.out hgrow (fun k hk => by simp [hk])⟩, ⟨blk_grownR W1.out O1.out hgrow (by first | (intro hq; have := (O1.out.lt _ hq).1; omega) | (intro hq; simp [Value.ownBlock] at hq; omega) | (intro hq; have := hgl _ hq; omega))⟩, ⟨(MemAt.grown M1.out O1.out hgrow lBb lDb)⟩, ⟨blk_grownR r1.out O1.out hgrow (by first | (intro hq; have := (O1.out.lt _ hq).1; omega) | (intro hq; simp [Value.ownBlock] at hq; omega) | (intro hq; have := hgl _ hq; omega))⟩, ⟨hown⟩, hgrow.size⟩ (sx3 (sx_of1 (ButB.grown (And.left hHeld) O1.out hgrow (by omega))) (xc_of HX0.out (blk_grownR W1.out O1.out hgrow (by first | (intro hq; have := (O1.out.lt _ hq).1; omega) | (intro hq; simp [Value.ownBlock] at hq; omega) | (intro hq; have := hgl _ hq; omega))) 8 (fun _ _ => rfl))) (fun wd41 hRn hHn => ?_)
        clear hK K hHeld HS1 W1 M1 r1 O1 qa hown hgrow hat hlt hws hgl
        obtain ⟨HS1, W1, M1, r1, O1, hsz41⟩ := hRn
        have hHeld := hHn
        clear hHn
        try simp only [Act.put, ls0, ls1, ls2]
        try simp only [Nat.zero_add]
        refine wtk 29 ?_ rfl (.inl ⟨by rfl, ?_⟩) ?_
        rotate_left 1
        · (intro w hSw; go_simp; try with_reducible rfl)
        try simp only [Act.put, ls0, ls1, ls2]
        refine wtk 30 ?_ rfl (.inl ⟨by rfl, ?_⟩) ?_
        rotate_left 1
        · (intro w hSw; go_simp; try with_reducible rfl)
        try simp only [Act.put, ls0, ls1, ls2]
        refine wrd [31] ?_
        refine (arc rfl (fun K hK => ?_) arn)
        have sd := cbk W1.out 8 (.slice da dn dc) rfl
        have sf := frozen_blk W1.out 8
        have sl := blk_lt W1.out
        go_simp
        try go_wp2_with fail
        refine out_gen hK _ _ (fun wz : World => Kp (ButS (R :: D :: (Value.slice da dn dc).ownBlock.toList) w wz) ∧ Kp (wz.heap[R]? = some (.cells (rcs p x y lf sp (.slice (some ⟨g, 0, none⟩) (dn + 1) cap) nx) 119 (0, 0))) ∧ Kp (MemAt wz B D (ws)) ∧ Kp (wz.heap[w.heap.size]? = some (.cells dz 64 (0, 0))) ∧ Kp (wz.ownsRow (bs) 41 1 (.slice (some ⟨g, 0, none⟩) (dn + 1) cap) (dn + 1) (u32s l ++ [.int .u32 v])) ∧ wd41.heap.size ≤ wz.heap.size) ⟨⟨ButS.set' HS1.out (p := ⟨R, 8, none⟩) (by first | (left; simp; done) | (right; show _ ≤ R; omega)) _⟩, ⟨(blk_set W1.out 8 _).trans rfl⟩, ⟨MemAt.setne M1.out (p := ⟨R, 8, none⟩) (by show B ≠ R; omega) (by show D ≠ R; omega) _⟩, ⟨blk_set_ne (p := ⟨R, 8, none⟩) r1.out (by show w.heap.size ≠ R; omega) _⟩, ⟨own_set_ne O1.out (p := ⟨R, 8, none⟩) (by show R < bs; omega) _⟩, (by simp [World.setCell])⟩ (sx3 (sx_of1 (ButB.set (And.left hHeld) (p := ⟨R, 8, none⟩) (by first | (left; simp; done) | (right; show _ ≤ R; omega)) _)) (xc_of HX0.out ((blk_set W1.out 8 _).trans rfl) 8 (xc_ne (cs := #[.int .i64 p.src, .int .i64 p.rd, .int .i64 p.words, .int .i64 p.period, .int .u32 x, .int .u32 y, .int .i64 lf, .int .u32 sp, .slice da dn dc, nx]) 8 (.slice (some ⟨g, 0, none⟩) (dn + 1) cap)))) (fun wd42 hRn hHn => ?_)
        clear hK K hHeld HS1 W1 M1 r1 O1 sd sf sl
        obtain ⟨HS1, W1, M1, r1, O1, hsz42⟩ := hRn
        have hHeld := hHn
        clear hHn
        try simp only [Act.put, ls0, ls1, ls2]
        refine wpAnyH_done (by kernel_rfl) ?_ _
        clear HX0
        exact JQ.mk ⟨g, cap, _, _, _, _, _, _, _, _, _, _, _, _, _, _, _, _, _, _, _, _, _, _, _, _, _, _, _, _, _, _, _, rfl, HS1, W1, M1, r1, O1, ⟨hat2⟩, ⟨by omega⟩⟩
      · go_simp
        go_at_call 108
        refine (fbuffer_any p hp x y hx hy _).mono ?_
        rintro e w9 ⟨rfl, hb⟩
        try go_wp2_with fail
        refine out_gen hK _ _ (fun wz : World => Kp (ButS (R :: D :: (Value.slice da dn dc).ownBlock.toList) w wz) ∧ Kp (wz.heap[R]? = some (.cells (rcs p x y lf sp (.slice da dn dc) nx) 119 (0, 0))) ∧ Kp (MemAt wz B D (ws)) ∧ Kp (wz.heap[w.heap.size]? = some (.cells dz 64 (0, 0))) ∧ Kp (wz.ownsRow (bs) 41 1 (.slice da dn dc) (dn) (u32s l)) ∧ wd36.heap.size ≤ wz.heap.size) ⟨⟨ButS.trans HS1.out (ButS.of_below hb)⟩, ⟨blk_below W1.out hb⟩, ⟨(M1.out.below hb)⟩, ⟨blk_below r1.out hb⟩, ⟨own_below O1.out hb⟩, hb.size⟩ (sx3 (sx_of1 (ButB.call (And.left hHeld) hb)) (xc_of HX0.out (blk_below W1.out hb) 8 (fun _ _ => rfl))) (fun wd43 hRn hHn => ?_)
        clear hK K hHeld HS1 W1 M1 r1 O1 hb
        obtain ⟨HS1, W1, M1, r1, O1, hsz43⟩ := hRn
        have hHeld := hHn
        clear hHn
        try simp only [Act.put, ls0, ls1, ls2]
        refine wtk 19 ?_ rfl (.inl ⟨by rfl, ?_⟩) ?_
        rotate_left 1
        · (intro w hSw; go_simp; try with_reducible rfl)
        try simp only [Act.put, ls0, ls1, ls2]
        refine wtk 25 ?_ rfl (.inl ⟨by rfl, ?_⟩) ?_
        rotate_left 1
        · (intro w hSw; go_simp; try with_reducible rfl)
        try simp only [Act.put, ls0, ls1, ls2]
        refine wrd [4, 26] ?_
        refine (arc rfl (fun K hK => ?_) (arc rfl (fun K hK => ?_) arn))
        · have sd8 := cbk W1.out 8 (.slice da dn dc) rfl
          have sl := blk_lt W1.out
          go_simp
          try go_wp2_with fail
          refine out_gen hK _ _ (fun wz : World => Kp (ButS (R :: D :: (Value.slice da dn dc).ownBlock.toList) w wz) ∧ Kp (wz.heap[R]? = some (.cells (rcs p x y lf sp (.slice da dn dc) nx) 119 (0, 0))) ∧ Kp (MemAt wz B D (ws)) ∧ Kp (wz.heap[w.heap.size]? = some (.cells dz 64 (0, 0))) ∧ Kp (wz.ownsRow (bs) 41 1 (.slice da dn dc) (dn) (u32s l)) ∧ wd43.heap.size ≤ wz.heap.size) ⟨⟨HS1.out⟩, ⟨W1.out⟩, ⟨M1.out⟩, ⟨r1.out⟩, ⟨O1.out⟩, Nat.le_refl _⟩ (sx3 (sx_of1 ((And.left hHeld))) (xc_of HX0.out (W1.out) 8 (fun _ _ => rfl))) (fun wd44 hRn hHn => ?_)
          clear hK K hHeld HS1 W1 M1 r1 O1  sd8 sl
          obtain ⟨HS1, W1, M1, r1, O1, hsz44⟩ := hRn
          have hHeld := hHn
          clear hHn
          try simp only [Act.put, ls0, ls1, ls2]
          refine wrd [26] ?_
          refine (arc rfl (fun K hK => ?_) arn)
          go_simp
          go_at_call 83
          refine (fload_any B D ws (p.buf x y + 2 + dn) (by omega) h1.2.1 _ M1.out).mono ?_
          rw [HV.out]
          rintro e w9 ⟨rfl, hw9⟩
          have hw8 := hw9.symm
          clear hw9
          subst hw8
          have hb : Below wd44.heap.size wd44 wd44 := Below.refl _ _
          try go_wp2_with fail
          refine out_gen hK _ _ (fun wz : World => Kp (ButS (R :: D :: (Value.slice da dn dc).ownBlock.toList) w wz) ∧ Kp (wz.heap[R]? = some (.cells (rcs p x y lf sp (.slice da dn dc) nx) 119 (0, 0))) ∧ Kp (MemAt wz B D (ws)) ∧ Kp (wz.heap[w.heap.size]? = some (.cells dz 64 (0, 0))) ∧ Kp (wz.ownsRow (bs) 41 1 (.slice da dn dc) (dn) (u32s l)) ∧ wd44.heap.size ≤ wz.heap.size) ⟨⟨ButS.trans HS1.out (ButS.of_below hb)⟩, ⟨blk_below W1.out hb⟩, ⟨(M1.out.below hb)⟩, ⟨blk_below r1.out hb⟩, ⟨own_below O1.out hb⟩, hb.size⟩ (sx3 (sx_of1 (ButB.call (And.left hHeld) hb)) (xc_of HX0.out (blk_below W1.out hb) 8 (fun _ _ => rfl))) (fun wd45 hRn hHn => ?_)
          clear hK K hHeld HS1 W1 M1 r1 O1 hb
          obtain ⟨HS1, W1, M1, r1, O1, hsz45⟩ := hRn
          have hHeld := hHn
          clear hHn
          try simp only [Act.put, ls0, ls1, ls2]
          refine wrd [27] ?_
          refine (arc rfl (fun K hK => ?_) arn)
          have ge_qa : w1.heap.size ≤ wd45.heap.size := (And.left hHeld).size
          go_simp
          try go_wp2_with fail
          refine out_gen hK _ _ (fun wz : World => Kp (ButS (R :: D :: (Value.slice da dn dc).ownBlock.toList) w wz) ∧ Kp (wz.heap[R]? = some (.cells (rcs p x y lf sp (.slice da dn dc) nx) 119 (0, 0))) ∧ Kp (MemAt wz B D (ws)) ∧ Kp (wz.heap[w.heap.size]? = some (.cells dz 64 (0, 0))) ∧ Kp (wz.ownsRow (bs) 41 1 (.slice da dn dc) (dn) (u32s l)) ∧ Kp (wz.heap[wd45.heap.size]? = some (.cells #[.int .u32 v] 41 (0, 0))) ∧ wd45.heap.size < wz.heap.size) ⟨⟨ButS.al HS1.out _⟩, ⟨blk_al W1.out _⟩, ⟨(M1.out.al _)⟩, ⟨blk_al r1.out _⟩, ⟨O1.out.alloc _⟩, ⟨blk_new wd45 _⟩, (by simp)⟩ (sx3 (sx_of1 (ButB.al (And.left hHeld) _)) (xc_of HX0.out (blk_al W1.out _) 8 (fun _ _ => rfl))) (fun wd46 hRn hHn => ?_)
          clear hK K hHeld HS1 W1 M1 r1 O1
          obtain ⟨HS1, W1, M1, r1, O1, qa, hsz46⟩ := hRn
          have hHeld := hHn
          clear hHn
          try simp only [Act.put, ls0, ls1, ls2]
          have lt_qa := blk_lt qa.out
          refine wrd [28] ?_
          refine (arc rfl (fun K hK => ?_) arn)
          have hgl := HGL.out
          have hws := (And.left hHeld).size
          refine step_append_lies _ (by rfl) _ _ 44 (by rfl) (bs) 41 i0 (.int .u32 0) 1 4 Tryz.underlying44 hi0 hz0 hz1 hz2 (by rfl) (by decide) _ _ _ (by rfl) O1.out _ 1 _ [.int .u32 v] (by rfl) rfl (World.news_of_block qa.out) (by simp [Value.oneCell']) (by omega) (by unfold maxLen; omega) (by omega) (by have := hws; omega) _ rfl ?_
          intro g cap w9 hown hgrow hat hlt
          have hat2 : (Value.slice da dn dc).ownBlock = some g ∨ w.heap.size < g := by rcases hat with hh | hh; exact .inl hh; right; omega
          refine out_gen hK _ _ (fun wz : World => Kp (ButS (R :: D :: (Value.slice da dn dc).ownBlock.toList) w wz) ∧ Kp (wz.heap[R]? = some (.cells (rcs p x y lf sp (.slice da dn dc) nx) 119 (0, 0))) ∧ Kp (MemAt wz B D (ws)) ∧ Kp (wz.heap[w.heap.size]? = some (.cells dz 64 (0, 0))) ∧ Kp (wz.ownsRow (bs) 41 1 (.slice (some ⟨g, 0, none⟩) (dn + 1) cap) (dn + 1) (u32s l ++ [.int .u32 v])) ∧ wd46.heap.size ≤ wz.heap.size) ⟨⟨ButS.grownV HS1.out hgrow (fun k hk => by simp [hk])⟩, ⟨blk_grownR W1.out O1.out hgrow (by first | (intro hq; have := (O1.out.lt _ hq).1; omega) | (intro hq; simp [Value.ownBlock] at hq; omega) | (intro hq; have := hgl _ hq; omega))⟩, ⟨(MemAt.grown M1.out O1.out hgrow lBb lDb)⟩, ⟨blk_grownR r1.out O1.out hgrow (by first | (intro hq; have := (O1.out.lt _ hq).1; omega) | (intro hq; simp [Value.ownBlock] at hq; omega) | (intro hq; have := hgl _ hq; omega))⟩, ⟨hown⟩, hgrow.size⟩ (sx3 (sx_of1 (ButB.grown (And.left hHeld) O1.out hgrow (by omega))) (xc_of HX0.out (blk_grownR W1.out O1.out hgrow (by first | (intro hq; have := (O1.out.lt _ hq).1; omega) | (intro hq; simp [Value.ownBlock] at hq; omega) | (intro hq; have := hgl _ hq; omega))) 8 (fun _ _ => rfl))) (fun wd47 hRn hHn => ?_)
          clear hK K hHeld HS1 W1 M1 r1 O1 qa hown hgrow hat hlt hws hgl
          obtain ⟨HS1, W1, M1, r1, O1, hsz47⟩ := hRn
          have hHeld := hHn
          clear hHn
          try simp only [Act.put, ls0, ls1, ls2]
          try simp only [Nat.zero_add]
          refine wtk 29 ?_ rfl (.inl ⟨by rfl, ?_⟩) ?_
          rotate_left 1
          · (intro w hSw; go_simp; try with_reducible rfl)
          try simp only [Act.put, ls0, ls1, ls2]
          refine wtk 30 ?_ rfl (.inl ⟨by rfl, ?_⟩) ?_
          rotate_left 1
          · (intro w hSw; go_simp; try with_reducible rfl)
          try simp only [Act.put, ls0, ls1, ls2]
          refine wrd [31] ?_
          refine (arc rfl (fun K hK => ?_) arn)
          have sd := cbk W1.out 8 (.slice da dn dc) rfl
          have sf := frozen_blk W1.out 8
          have sl := blk_lt W1.out
          go_simp
          try go_wp2_with fail
          refine out_gen hK _ _ (fun wz : World => Kp (ButS (R :: D :: (Value.slice da dn dc).ownBlock.toList) w wz) ∧ Kp (wz.heap[R]? = some (.cells (rcs p x y lf sp (.slice (some ⟨g, 0, none⟩) (dn + 1) cap) nx) 119 (0, 0))) ∧ Kp (MemAt wz B D (ws)) ∧ Kp (wz.heap[w.heap.size]? = some (.cells dz 64 (0, 0))) ∧ Kp (wz.ownsRow (bs) 41 1 (.slice (some ⟨g, 0, none⟩) (dn + 1) cap) (dn + 1) (u32s l ++ [.int .u32 v])) ∧ wd47.heap.size ≤ wz.heap.size) ⟨⟨ButS.set' HS1.out (p := ⟨R, 8, none⟩) (by first | (left; simp; done) | (right; show _ ≤ R; omega)) _⟩, ⟨(blk_set W1.out 8 _).trans rfl⟩, ⟨MemAt.setne M1.out (p := ⟨R, 8, none⟩) (by show B ≠ R; omega) (by show D ≠ R; omega) _⟩, ⟨blk_set_ne (p := ⟨R, 8, none⟩) r1.out (by show w.heap.size ≠ R; omega) _⟩, ⟨own_set_ne O1.out (p := ⟨R, 8, none⟩) (by show R < bs; omega) _⟩, (by simp [World.setCell])⟩ (sx3 (sx_of1 (ButB.set (And.left hHeld) (p := ⟨R, 8, none⟩) (by first | (left; simp; done) | (right; show _ ≤ R; omega)) _)) (xc_of HX0.out ((blk_set W1.out 8 _).trans rfl) 8 (xc_ne (cs := #[.int .i64 p.src, .int .i64 p.rd, .int .i64 p.words, .int .i64 p.period, .int .u32 x, .int .u32 y, .int .i64 lf, .int .u32 sp, .slice da dn dc, nx]) 8 (.slice (some ⟨g, 0, none⟩) (dn + 1) cap)))) (fun wd48 hRn hHn => ?_)
          clear hK K hHeld HS1 W1 M1 r1 O1 sd sf sl
          obtain ⟨HS1, W1, M1, r1, O1, hsz48⟩ := hRn
          have hHeld := hHn
          clear hHn
          try simp only [Act.put, ls0, ls1, ls2]
          refine wpAnyH_done (by kernel_rfl) ?_ _
          clear HX0
          exact JQ.mk ⟨g, cap, _, _, _, _, _, _, _, _, _, _, _, _, _, _, _, _, _, _, _, _, _, _, _, _, _, _, _, _, _, _, _, rfl, HS1, W1, M1, r1, O1, ⟨hat2⟩, ⟨by omega⟩⟩
        · go_simp
          go_at_call 83
          refine (fload_any B D ws (p.buf x y + 2 + dn) (by omega) h1.2.1 _ M1.out).mono ?_
          rw [HV.out]
          rintro e w9 ⟨rfl, hw9⟩
          have hw8 := hw9.symm
          clear hw9
          subst hw8
          have hb : Below wd43.heap.size wd43 wd43 := Below.refl _ _
          try go_wp2_with fail
          refine out_gen hK _ _ (fun wz : World => Kp (ButS (R :: D :: (Value.slice da dn dc).ownBlock.toList) w wz) ∧ Kp (wz.heap[R]? = some (.cells (rcs p x y lf sp (.slice da dn dc) nx) 119 (0, 0))) ∧ Kp (MemAt wz B D (ws)) ∧ Kp (wz.heap[w.heap.size]? = some (.cells dz 64 (0, 0))) ∧ Kp (wz.ownsRow (bs) 41 1 (.slice da dn dc) (dn) (u32s l)) ∧ wd43.heap.size ≤ wz.heap.size) ⟨⟨ButS.trans HS1.out (ButS.of_below hb)⟩, ⟨blk_below W1.out hb⟩, ⟨(M1.out.below hb)⟩, ⟨blk_below r1.out hb⟩, ⟨own_below O1.out hb⟩, hb.size⟩ (sx3 (sx_of1 (ButB.call (And.left hHeld) hb)) (xc_of HX0.out (blk_below W1.out hb) 8 (fun _ _ => rfl))) (fun wd49 hRn hHn => ?_)
          clear hK K hHeld HS1 W1 M1 r1 O1 hb
          obtain ⟨HS1, W1, M1, r1, O1, hsz49⟩ := hRn
          have hHeld := hHn
          clear hHn
          try simp only [Act.put, ls0, ls1, ls2]
          refine wrd [4, 27] ?_
          refine (arc rfl (fun K hK => ?_) (arc rfl (fun K hK => ?_) arn))
          · have sd8 := cbk W1.out 8 (.slice da dn dc) rfl
            have sl := blk_lt W1.out
            go_simp
            try go_wp2_with fail
            refine out_gen hK _ _ (fun wz : World => Kp (ButS (R :: D :: (Value.slice da dn dc).ownBlock.toList) w wz) ∧ Kp (wz.heap[R]? = some (.cells (rcs p x y lf sp (.slice da dn dc) nx) 119 (0, 0))) ∧ Kp (MemAt wz B D (ws)) ∧ Kp (wz.heap[w.heap.size]? = some (.cells dz 64 (0, 0))) ∧ Kp (wz.ownsRow (bs) 41 1 (.slice da dn dc) (dn) (u32s l)) ∧ wd49.heap.size ≤ wz.heap.size) ⟨⟨HS1.out⟩, ⟨W1.out⟩, ⟨M1.out⟩, ⟨r1.out⟩, ⟨O1.out⟩, Nat.le_refl _⟩ (sx3 (sx_of1 ((And.left hHeld))) (xc_of HX0.out (W1.out) 8 (fun _ _ => rfl))) (fun wd50 hRn hHn => ?_)
            clear hK K hHeld HS1 W1 M1 r1 O1  sd8 sl
            obtain ⟨HS1, W1, M1, r1, O1, hsz50⟩ := hRn
            have hHeld := hHn
            clear hHn
            try simp only [Act.put, ls0, ls1, ls2]
            refine wrd [27] ?_
            refine (arc rfl (fun K hK => ?_) arn)
            have ge_qa : w1.heap.size ≤ wd50.heap.size := (And.left hHeld).size
            go_simp
            try go_wp2_with fail
            refine out_gen hK _ _ (fun wz : World => Kp (ButS (R :: D :: (Value.slice da dn dc).ownBlock.toList) w wz) ∧ Kp (wz.heap[R]? = some (.cells (rcs p x y lf sp (.slice da dn dc) nx) 119 (0, 0))) ∧ Kp (MemAt wz B D (ws)) ∧ Kp (wz.heap[w.heap.size]? = some (.cells dz 64 (0, 0))) ∧ Kp (wz.ownsRow (bs) 41 1 (.slice da dn dc) (dn) (u32s l)) ∧ Kp (wz.heap[wd50.heap.size]? = some (.cells #[.int .u32 v] 41 (0, 0))) ∧ wd50.heap.size < wz.heap.size) ⟨⟨ButS.al HS1.out _⟩, ⟨blk_al W1.out _⟩, ⟨(M1.out.al _)⟩, ⟨blk_al r1.out _⟩, ⟨O1.out.alloc _⟩, ⟨blk_new wd50 _⟩, (by simp)⟩ (sx3 (sx_of1 (ButB.al (And.left hHeld) _)) (xc_of HX0.out (blk_al W1.out _) 8 (fun _ _ => rfl))) (fun wd51 hRn hHn => ?_)
            clear hK K hHeld HS1 W1 M1 r1 O1
            obtain ⟨HS1, W1, M1, r1, O1, qa, hsz51⟩ := hRn
            have hHeld := hHn
            clear hHn
            try simp only [Act.put, ls0, ls1, ls2]
            have lt_qa := blk_lt qa.out
            refine wrd [28] ?_
            refine (arc rfl (fun K hK => ?_) arn)
            have hgl := HGL.out
            have hws := (And.left hHeld).size
            refine step_append_lies _ (by rfl) _ _ 44 (by rfl) (bs) 41 i0 (.int .u32 0) 1 4 Tryz.underlying44 hi0 hz0 hz1 hz2 (by rfl) (by decide) _ _ _ (by rfl) O1.out _ 1 _ [.int .u32 v] (by rfl) rfl (World.news_of_block qa.out) (by simp [Value.oneCell']) (by omega) (by unfold maxLen; omega) (by omega) (by have := hws; omega) _ rfl ?_
            intro g cap w9 hown hgrow hat hlt
            have hat2 : (Value.slice da dn dc).ownBlock = some g ∨ w.heap.size < g := by rcases hat with hh | hh; exact .inl hh; right; omega
            refine out_gen hK _ _ (fun wz : World => Kp (ButS (R :: D :: (Value.slice da dn dc).ownBlock.toList) w wz) ∧ Kp (wz.heap[R]? = some (.cells (rcs p x y lf sp (.slice da dn dc) nx) 119 (0, 0))) ∧ Kp (MemAt wz B D (ws)) ∧ Kp (wz.heap[w.heap.size]? = some (.cells dz 64 (0, 0))) ∧ Kp (wz.ownsRow (bs) 41 1 (.slice (some ⟨g, 0, none⟩) (dn + 1) cap) (dn + 1) (u32s l ++ [.int .u32 v])) ∧ wd51.heap.size ≤ wz.heap.size) ⟨⟨ButS.grownV HS1.out hgrow (fun k hk => by simp [hk])⟩, ⟨blk_grownR W1.out O1.out hgrow (by first | (intro hq; have := (O1.out.lt _ hq).1; omega) | (intro hq; simp [Value.ownBlock] at hq; omega) | (intro hq; have := hgl _ hq; omega))⟩, ⟨(MemAt.grown M1.out O1.out hgrow lBb lDb)⟩, ⟨blk_grownR r1.out O1.out hgrow (by first | (intro hq; have := (O1.out.lt _ hq).1; omega) | (intro hq; simp [Value.ownBlock] at hq; omega) | (intro hq; have := hgl _ hq; omega))⟩, ⟨hown⟩, hgrow.size⟩ (sx3 (sx_of1 (ButB.grown (And.left hHeld) O1.out hgrow (by omega))) (xc_of HX0.out (blk_grownR W1.out O1.out hgrow (by first | (intro hq; have := (O1.out.lt _ hq).1; omega) | (intro hq; simp [Value.ownBlock] at hq; omega) | (intro hq; have := hgl _ hq; omega))) 8 (fun _ _ => rfl))) (fun wd52 hRn hHn => ?_)
            clear hK K hHeld HS1 W1 M1 r1 O1 qa hown hgrow hat hlt hws hgl
            obtain ⟨HS1, W1, M1, r1, O1, hsz52⟩ := hRn
            have hHeld := hHn
            clear hHn
            try simp only [Act.put, ls0, ls1, ls2]
            try simp only [Nat.zero_add]
            refine wtk 29 ?_ rfl (.inl ⟨by rfl, ?_⟩) ?_
            rotate_left 1
            · (intro w hSw; go_simp; try with_reducible rfl)
            try simp only [Act.put, ls0, ls1, ls2]
            refine wtk 30 ?_ rfl (.inl ⟨by rfl, ?_⟩) ?_
            rotate_left 1
            · (intro w hSw; go_simp; try with_reducible rfl)
            try simp only [Act.put, ls0, ls1, ls2]
            refine wrd [31] ?_
            refine (arc rfl (fun K hK => ?_) arn)
            have sd := cbk W1.out 8 (.slice da dn dc) rfl
            have sf := frozen_blk W1.out 8
            have sl := blk_lt W1.out
            go_simp
            try go_wp2_with fail
            refine out_gen hK _ _ (fun wz : World => Kp (ButS (R :: D :: (Value.slice da dn dc).ownBlock.toList) w wz) ∧ Kp (wz.heap[R]? = some (.cells (rcs p x y lf sp (.slice (some ⟨g, 0, none⟩) (dn + 1) cap) nx) 119 (0, 0))) ∧ Kp (MemAt wz B D (ws)) ∧ Kp (wz.heap[w.heap.size]? = some (.cells dz 64 (0, 0))) ∧ Kp (wz.ownsRow (bs) 41 1 (.slice (some ⟨g, 0, none⟩) (dn + 1) cap) (dn + 1) (u32s l ++ [.int .u32 v])) ∧ wd52.heap.size ≤ wz.heap.size) ⟨⟨ButS.set' HS1.out (p := ⟨R, 8, none⟩) (by first | (left; simp; done) | (right; show _ ≤ R; omega)) _⟩, ⟨(blk_set W1.out 8 _).trans rfl⟩, ⟨MemAt.setne M1.out (p := ⟨R, 8, none⟩) (by show B ≠ R; omega) (by show D ≠ R; omega) _⟩, ⟨blk_set_ne (p := ⟨R, 8, none⟩) r1.out (by show w.heap.size ≠ R; omega) _⟩, ⟨own_set_ne O1.out (p := ⟨R, 8, none⟩) (by show R < bs; omega) _⟩, (by simp [World.setCell])⟩ (sx3 (sx_of1 (ButB.set (And.left hHeld) (p := ⟨R, 8, none⟩) (by first | (left; simp; done) | (right; show _ ≤ R; omega)) _)) (xc_of HX0.out ((blk_set W1.out 8 _).trans rfl) 8 (xc_ne (cs := #[.int .i64 p.src, .int .i64 p.rd, .int .i64 p.words, .int .i64 p.period, .int .u32 x, .int .u32 y, .int .i64 lf, .int .u32 sp, .slice da dn dc, nx]) 8 (.slice (some ⟨g, 0, none⟩) (dn + 1) cap)))) (fun wd53 hRn hHn => ?_)
            clear hK K hHeld HS1 W1 M1 r1 O1 sd sf sl
            obtain ⟨HS1, W1, M1, r1, O1, hsz53⟩ := hRn
            have hHeld := hHn
            clear hHn
            try simp only [Act.put, ls0, ls1, ls2]
            refine wpAnyH_done (by kernel_rfl) ?_ _
            clear HX0
            exact JQ.mk ⟨g, cap, _, _, _, _, _, _, _, _, _, _, _, _, _, _, _, _, _, _, _, _, _, _, _, _, _, _, _, _, _, _, _, rfl, HS1, W1, M1, r1, O1, ⟨hat2⟩, ⟨by omega⟩⟩
          · have ge_qa : w1.heap.size ≤ wd49.heap.size := (And.left hHeld).size
            go_simp
            try go_wp2_with fail
            refine out_gen hK _ _ (fun wz : World => Kp (ButS (R :: D :: (Value.slice da dn dc).ownBlock.toList) w wz) ∧ Kp (wz.heap[R]? = some (.cells (rcs p x y lf sp (.slice da dn dc) nx) 119 (0, 0))) ∧ Kp (MemAt wz B D (ws)) ∧ Kp (wz.heap[w.heap.size]? = some (.cells dz 64 (0, 0))) ∧ Kp (wz.ownsRow (bs) 41 1 (.slice da dn dc) (dn) (u32s l)) ∧ Kp (wz.heap[wd49.heap.size]? = some (.cells #[.int .u32 v] 41 (0, 0))) ∧ wd49.heap.size < wz.heap.size) ⟨⟨ButS.al HS1.out _⟩, ⟨blk_al W1.out _⟩, ⟨(M1.out.al _)⟩, ⟨blk_al r1.out _⟩, ⟨O1.out.alloc _⟩, ⟨blk_new wd49 _⟩, (by simp)⟩ (sx3 (sx_of1 (ButB.al (And.left hHeld) _)) (xc_of HX0.out (blk_al W1.out _) 8 (fun _ _ => rfl))) (fun wd54 hRn hHn => ?_)
            clear hK K hHeld HS1 W1 M1 r1 O1
            obtain ⟨HS1, W1, M1, r1, O1, qa, hsz54⟩ := hRn
            have hHeld := hHn
            clear hHn
            try simp only [Act.put, ls0, ls1, ls2]
            have lt_qa := blk_lt qa.out
            refine wrd [4] ?_
            refine (arc rfl (fun K hK => ?_) arn)
            have sd8 := cbk W1.out 8 (.slice da dn dc) rfl
            have sl := blk_lt W1.out
            go_simp
            try go_wp2_with fail
            refine out_gen hK _ _ (fun wz : World => Kp (ButS (R :: D :: (Value.slice da dn dc).ownBlock.toList) w wz) ∧ Kp (wz.heap[R]? = some (.cells (rcs p x y lf sp (.slice da dn dc) nx) 119 (0, 0))) ∧ Kp (MemAt wz B D (ws)) ∧ Kp (wz.heap[w.heap.size]? = some (.cells dz 64 (0, 0))) ∧ Kp (wz.ownsRow (bs) 41 1 (.slice da dn dc) (dn) (u32s l)) ∧ Kp (wz.heap[wd49.heap.size]? = some (.cells #[.int .u32 v] 41 (0, 0))) ∧ wd54.heap.size ≤ wz.heap.size) ⟨⟨HS1.out⟩, ⟨W1.out⟩, ⟨M1.out⟩, ⟨r1.out⟩, ⟨O1.out⟩, ⟨qa.out⟩, Nat.le_refl _⟩ (sx3 (sx_of1 ((And.left hHeld))) (xc_of HX0.out (W1.out) 8 (fun _ _ => rfl))) (fun wd55 hRn hHn => ?_)
            clear hK K hHeld HS1 W1 M1 r1 O1 qa  sd8 sl
            obtain ⟨HS1, W1, M1, r1, O1, qa, hsz55⟩ := hRn
            have hHeld := hHn
            clear hHn
            try simp only [Act.put, ls0, ls1, ls2]
            refine wrd [28] ?_
            refine (arc rfl (fun K hK => ?_) arn)
            have hgl := HGL.out
            have hws := (And.left hHeld).size
            refine step_append_lies _ (by rfl) _ _ 44 (by rfl) (bs) 41 i0 (.int .u32 0) 1 4 Tryz.underlying44 hi0 hz0 hz1 hz2 (by rfl) (by decide) _ _ _ (by rfl) O1.out _ 1 _ [.int .u32 v] (by rfl) rfl (World.news_of_block qa.out) (by simp [Value.oneCell']) (by omega) (by unfold maxLen; omega) (by omega) (by have := hws; omega) _ rfl ?_
            intro g cap w9 hown hgrow hat hlt
            have hat2 : (Value.slice da dn dc).ownBlock = some g ∨ w.heap.size < g := by rcases hat with hh | hh; exact .inl hh; right; omega
            refine out_gen hK _ _ (fun wz : World => Kp (ButS (R :: D :: (Value.slice da dn dc).ownBlock.toList) w wz) ∧ Kp (wz.heap[R]? = some (.cells (rcs p x y lf sp (.slice da dn dc) nx) 119 (0, 0))) ∧ Kp (MemAt wz B D (ws)) ∧ Kp (wz.heap[w.heap.size]? = some (.cells dz 64 (0, 0))) ∧ Kp (wz.ownsRow (bs) 41 1 (.slice (some ⟨g, 0, none⟩) (dn + 1) cap) (dn + 1) (u32s l ++ [.int .u32 v])) ∧ wd55.heap.size ≤ wz.heap.size) ⟨⟨ButS.grownV HS1.out hgrow (fun k hk => by simp [hk])⟩, ⟨blk_grownR W1.out O1.out hgrow (by first | (intro hq; have := (O1.out.lt _ hq).1; omega) | (intro hq; simp [Value.ownBlock] at hq; omega) | (intro hq; have := hgl _ hq; omega))⟩, ⟨(MemAt.grown M1.out O1.out hgrow lBb lDb)⟩, ⟨blk_grownR r1.out O1.out hgrow (by first | (intro hq; have := (O1.out.lt _ hq).1; omega) | (intro hq; simp [Value.ownBlock] at hq; omega) | (intro hq; have := hgl _ hq; omega))⟩, ⟨hown⟩, hgrow.size⟩ (sx3 (sx_of1 (ButB.grown (And.left hHeld) O1.out hgrow (by omega))) (xc_of HX0.out (blk_grownR W1.out O1.out hgrow (by first | (intro hq; have := (O1.out.lt _ hq).1; omega) | (intro hq; simp [Value.ownBlock] at hq; omega) | (intro hq; have := hgl _ hq; omega))) 8 (fun _ _ => rfl))) (fun wd56 hRn hHn => ?_)
            clear hK K hHeld HS1 W1 M1 r1 O1 qa hown hgrow hat hlt hws hgl
            obtain ⟨HS1, W1, M1, r1, O1, hsz56⟩ := hRn
            have hHeld := hHn
            clear hHn
            try simp only [Act.put, ls0, ls1, ls2]
            try simp only [Nat.zero_add]
            refine wtk 29 ?_ rfl (.inl ⟨by rfl, ?_⟩) ?_
            rotate_left 1
            · (intro w hSw; go_simp; try with_reducible rfl)
            try simp only [Act.put, ls0, ls1, ls2]
            refine wtk 30 ?_ rfl (.inl ⟨by rfl, ?_⟩) ?_
            rotate_left 1
            · (intro w hSw; go_simp; try with_reducible rfl)
            try simp only [Act.put, ls0, ls1, ls2]
            refine wrd [31] ?_
            refine (arc rfl (fun K hK => ?_) arn)
            have sd := cbk W1.out 8 (.slice da dn dc) rfl
            have sf := frozen_blk W1.out 8
            have sl := blk_lt W1.out
            go_simp
            try go_wp2_with fail
            refine out_gen hK _ _ (fun wz : World => Kp (ButS (R :: D :: (Value.slice da dn dc).ownBlock.toList) w wz) ∧ Kp (wz.heap[R]? = some (.cells (rcs p x y lf sp (.slice (some ⟨g, 0, none⟩) (dn + 1) cap) nx) 119 (0, 0))) ∧ Kp (MemAt wz B D (ws)) ∧ Kp (wz.heap[w.heap.size]? = some (.cells dz 64 (0, 0))) ∧ Kp (wz.ownsRow (bs) 41 1 (.slice (some ⟨g, 0, none⟩) (dn + 1) cap) (dn + 1) (u32s l ++ [.int .u32 v])) ∧ wd56.heap.size ≤ wz.heap.size) ⟨⟨ButS.set' HS1.out (p := ⟨R, 8, none⟩) (by first | (left; simp; done) | (right; show _ ≤ R; omega)) _⟩, ⟨(blk_set W1.out 8 _).trans rfl⟩, ⟨MemAt.setne M1.out (p := ⟨R, 8, none⟩) (by show B ≠ R; omega) (by show D ≠ R; omega) _⟩, ⟨blk_set_ne (p := ⟨R, 8, none⟩) r1.out (by show w.heap.size ≠ R; omega) _⟩, ⟨own_set_ne O1.out (p := ⟨R, 8, none⟩) (by show R < bs; omega) _⟩, (by simp [World.setCell])⟩ (sx3 (sx_of1 (ButB.set (And.left hHeld) (p := ⟨R, 8, none⟩) (by first | (left; simp; done) | (right; show _ ≤ R; omega)) _)) (xc_of HX0.out ((blk_set W1.out 8 _).trans rfl) 8 (xc_ne (cs := #[.int .i64 p.src, .int .i64 p.rd, .int .i64 p.words, .int .i64 p.period, .int .u32 x, .int .u32 y, .int .i64 lf, .int .u32 sp, .slice da dn dc, nx]) 8 (.slice (some ⟨g, 0, none⟩) (dn + 1) cap)))) (fun wd57 hRn hHn => ?_)
            clear hK K hHeld HS1 W1 M1 r1 O1 sd sf sl
            obtain ⟨HS1, W1, M1, r1, O1, hsz57⟩ := hRn
            have hHeld := hHn
            clear hHn
            try simp only [Act.put, ls0, ls1, ls2]
            refine wpAnyH_done (by kernel_rfl) ?_ _
            clear HX0
            exact JQ.mk ⟨g, cap, _, _, _, _, _, _, _, _, _, _, _, _, _, _, _, _, _, _, _, _, _, _, _, _, _, _, _, _, _, _, _, rfl, HS1, W1, M1, r1, O1, ⟨hat2⟩, ⟨by omega⟩⟩
  · rintro a wj ⟨g, cap, u8, u9, u10, u11, u12, u13, u14, u15, u16, u17, u18, u19, u20, u21, u22, u23, u24, u25, u26, u27, u28, u29, u30, u31, u32, u33, u34, u35, u36, u37, u38, rfl, HS1, W1, M1, r1, O1, HAT, HSZ⟩
    have hat2 := HAT.out
    have hszj := HSZ.out
    clear c0 c1 c2 c3 c4 c5 c6 c7 c8 c9 cl
    have hgR : g ≠ w.heap.size := by
      rcases hat2 with hh | hh
      · have := HGL.out _ hh; omega
      · omega
    have HOW : Kp (wj.ownsRow (bs) 41 1 (.slice (some ⟨g, 0, none⟩) (dn + 1) cap) ((dn + 1)) (u32s (l ++ [v]))) := ⟨HUL.out ▸ O1.out⟩
    have hgbs := ((HOW.out).lt g rfl).1
    clear O1
    have c0 := cbk W1.out 0 (.int .i64 p.src) rfl
    have c1 := cbk W1.out 1 (.int .i64 p.rd) rfl
    have c2 := cbk W1.out 2 (.int .i64 p.words) rfl
    have c3 := cbk W1.out 3 (.int .i64 p.period) rfl
    have c4 := cbk W1.out 4 (.int .u32 x) rfl
    have c5 := cbk W1.out 5 (.int .u32 y) rfl
    have c6 := cbk W1.out 6 (.int .i64 lf) rfl
    have c7 := cbk W1.out 7 (.int .u32 sp) rfl
    have c8 := cbk W1.out 8 (.slice (some ⟨g, 0, none⟩) (dn + 1) cap) rfl
    have c9 := cbk W1.out 9 (nx) rfl
    have cl := blk_lt W1.out
    go_wp2_with fail
    go_quiet (fail)
    go_wp2_with fail
    generalize hwq : wj.drewN _ = wq
    have HS2 : Kp (ButS (R :: D :: (Value.slice da dn dc).ownBlock.toList) w wq) := ⟨hwq ▸ ButS.drN HS1.out⟩
    have HW2 : Kp (wq.heap[R]? = some (.cells #[.int .i64 p.src, .int .i64 p.rd, .int .i64 p.words, .int .i64 p.period, .int .u32 x, .int .u32 y, .int .i64 lf, .int .u32 sp, .slice (some ⟨g, 0, none⟩) (dn + 1) cap, nx] 119 (0, 0))) := ⟨hwq ▸ blk_drN W1.out⟩
    have HM2 : Kp (MemAt wq B D ws) := ⟨hwq ▸ MemAt.drN M1.out⟩
    have HR2 : Kp (wq.heap[w.heap.size]? = some (.cells #[.bool false, .int .i64 0, .slice none 0 0, .bool false, .int .i64 0, .bool false, .bool false, .bool false, .int .i64 0] 64 (0, 0))) := ⟨hwq ▸ blk_drN r1.out⟩
    have HO2 : Kp (wq.ownsRow bs 41 1 (.slice (some ⟨g, 0, none⟩) (dn + 1) cap) (dn + 1) (u32s (l ++ [v]))) := ⟨hwq ▸ own_drN HOW.out⟩
    clear c0 c1 c2 c3 c4 c5 c6 c7 c8 c9 cl
    have c0 := cbk HW2.out 0 (.int .i64 p.src) rfl
    have c1 := cbk HW2.out 1 (.int .i64 p.rd) rfl
    have c2 := cbk HW2.out 2 (.int .i64 p.words) rfl
    have c3 := cbk HW2.out 3 (.int .i64 p.period) rfl
    have c4 := cbk HW2.out 4 (.int .u32 x) rfl
    have c5 := cbk HW2.out 5 (.int .u32 y) rfl
    have c6 := cbk HW2.out 6 (.int .i64 lf) rfl
    have c7 := cbk HW2.out 7 (.int .u32 sp) rfl
    have c8 := cbk HW2.out 8 (.slice (some ⟨g, 0, none⟩) (dn + 1) cap) rfl
    have c9 := cbk HW2.out 9 (nx) rfl
    have cl := blk_lt HW2.out
    have hsq := blk_lt HR2.out
    refine held_start_gen (S := (fun w' : World => ButB (wq.heap.size) [w.heap.size] wq w' ∧ ∀ bb o, bb < wq.heap.size → bb ≠ w.heap.size → w'.cell? ⟨bb, o, none⟩ = wq.cell? ⟨bb, o, none⟩)) (by kernel_rfl) (fun wz : World => Kp (ButS (R :: D :: (Value.slice da dn dc).ownBlock.toList) w wz) ∧ Kp (wz.heap[R]? = some (.cells (rcs p x y lf sp (.slice (some ⟨g, 0, none⟩) (dn + 1) cap) nx) 119 (0, 0))) ∧ Kp (MemAt wz B D (ws)) ∧ Kp (wz.heap[w.heap.size]? = some (.cells dz 64 (0, 0))) ∧ Kp (wz.ownsRow bs 41 1 (.slice (some ⟨g, 0, none⟩) (dn + 1) cap) (dn + 1) (u32s (l ++ [v]))) ∧ wq.heap.size ≤ wz.heap.size) ⟨⟨ButS.dr HS2.out⟩, ⟨blk_dr HW2.out⟩, ⟨(HM2.out.below (below_dr (Below.refl _ _)))⟩, ⟨blk_dr HR2.out⟩, ⟨HO2.out⟩, Nat.le_refl _⟩ (sx_of1 (ButB.dr (ButB.refl _ (by omega)))) (fun wd0 hRn hHeld => ?_)
    clear HS2 HW2 HM2 HR2 HO2
    obtain ⟨HS2, HW2, HM2, HR2, HO2, hsz⟩ := hRn
    refine wtk 0 ?_ rfl (.inl ⟨by rfl, ?_⟩) ?_
    rotate_left 1
    · (intro w hSw; go_simp; try with_reducible rfl)
    try simp only [Act.put, ls0, ls1, ls2]
    refine wtk 1 ?_ rfl (.inl ⟨by rfl, ?_⟩) ?_
    rotate_left 1
    · (intro w hSw; go_simp; try with_reducible rfl)
    try simp only [Act.put, ls0, ls1, ls2]
    refine wtk 2 ?_ rfl (.inl ⟨by rfl, ?_⟩) ?_
    rotate_left 1
    · (intro w hSw; go_simp; try with_reducible rfl)
    try simp only [Act.put, ls0, ls1, ls2]
    refine wtk 3 ?_ rfl (.inl ⟨by rfl, ?_⟩) ?_
    rotate_left 1
    · (intro w hSw; go_simp; try with_reducible rfl)
    try simp only [Act.put, ls0, ls1, ls2]
    refine wtk 4 ?_ rfl (.inl ⟨by rfl, ?_⟩) ?_
    rotate_left 1
    · (intro w hSw; go_simp; try with_reducible rfl)
    try simp only [Act.put, ls0, ls1, ls2]
    refine wtk 5 ?_ rfl (.inl ⟨by rfl, ?_⟩) ?_
    rotate_left 1
    · (intro w hSw; go_simp; try with_reducible rfl)
    try simp only [Act.put, ls0, ls1, ls2]
    refine wtk 6 ?_ rfl (.inl ⟨by rfl, ?_⟩) ?_
    rotate_left 1
    · (intro w hSw; go_simp; try with_reducible rfl)
    try simp only [Act.put, ls0, ls1, ls2]
    refine wtk 7 ?_ rfl (.inl ⟨by rfl, ?_⟩) ?_
    rotate_left 1
    · (intro w hSw; go_simp; try with_reducible rfl)
    try simp only [Act.put, ls0, ls1, ls2]
    refine wtk 8 ?_ rfl (.inl ⟨by rfl, ?_⟩) ?_
    rotate_left 1
    · (intro w hSw; go_simp; try with_reducible rfl)
    try simp only [Act.put, ls0, ls1, ls2]
    refine wtk 9 ?_ rfl (.inl ⟨by rfl, ?_⟩) ?_
    rotate_left 1
    · (intro w hSw; go_simp; try with_reducible rfl)
    try simp only [Act.put, ls0, ls1, ls2]
    refine wtk 10 ?_ rfl (.inl ⟨by rfl, ?_⟩) ?_
    rotate_left 1
    · (intro w hSw; go_simp; try with_reducible rfl)
    try simp only [Act.put, ls0, ls1, ls2]
    refine wtk 11 ?_ rfl (.inl ⟨by rfl, ?_⟩) ?_
    rotate_left 1
    · (intro w hSw; go_simp; try with_reducible rfl)
    try simp only [Act.put, ls0, ls1, ls2]
    refine wtk 12 ?_ rfl (.inl ⟨by rfl, ?_⟩) ?_
    rotate_left 1
    · (intro w hSw; go_simp; try with_reducible rfl)
    try simp only [Act.put, ls0, ls1, ls2]
    refine wtk 13 ?_ rfl (.inl ⟨by rfl, ?_⟩) ?_
    rotate_left 1
    · (intro w hSw; go_simp; try with_reducible rfl)
    try simp only [Act.put, ls0, ls1, ls2]
    refine wtk 14 ?_ rfl (.inl ⟨by rfl, ?_⟩) ?_
    rotate_left 1
    · (intro w hSw; go_simp; try with_reducible rfl)
    try simp only [Act.put, ls0, ls1, ls2]
    refine wtk 15 ?_ rfl (.inl ⟨by rfl, ?_⟩) ?_
    rotate_left 1
    · (intro w hSw; go_simp; try with_reducible rfl)
    try simp only [Act.put, ls0, ls1, ls2]
    refine wtk 16 ?_ rfl (.inl ⟨by rfl, ?_⟩) ?_
    rotate_left 1
    · (intro w hSw; go_simp; try with_reducible rfl)
    try simp only [Act.put, ls0, ls1, ls2]
    refine wtk 17 ?_ rfl (.inl ⟨by rfl, ?_⟩) ?_
    rotate_left 1
    · (intro w hSw; go_simp; try with_reducible rfl)
    try simp only [Act.put, ls0, ls1, ls2]
    refine wtk 18 ?_ rfl (.inl ⟨by rfl, ?_⟩) ?_
    rotate_left 1
    · (intro w hSw; go_simp; try with_reducible rfl)
    try simp only [Act.put, ls0, ls1, ls2]
    refine wrd [19] ?_
    refine (arc rfl (fun K hK => ?_) arn)
    have sd0 := cbk HR2.out 0 (.bool false) rfl
    have sf0 := frozen_blk HR2.out 0
    have sd1 := cbk HR2.out 1 (.int .i64 0) rfl
    have sf1 := frozen_blk HR2.out 1
    have sd2 := cbk HR2.out 2 (.slice none 0 0) rfl
    have sf2 := frozen_blk HR2.out 2
    have sd3 := cbk HR2.out 3 (.bool false) rfl
    have sf3 := frozen_blk HR2.out 3
    have sd4 := cbk HR2.out 4 (.int .i64 0) rfl
    have sf4 := frozen_blk HR2.out 4
    have sd5 := cbk HR2.out 5 (.bool false) rfl
    have sf5 := frozen_blk HR2.out 5
    have sd6 := cbk HR2.out 6 (.bool false) rfl
    have sf6 := frozen_blk HR2.out 6
    have sd7 := cbk HR2.out 7 (.bool false) rfl
    have sf7 := frozen_blk HR2.out 7
    have sd8 := cbk HR2.out 8 (.int .i64 0) rfl
    have sf8 := frozen_blk HR2.out 8
    have sl := blk_lt HR2.out
    go_simp
    try go_wp2_with fail
    refine out_gen hK _ _ (fun wz : World => Kp (ButS (R :: D :: (Value.slice da dn dc).ownBlock.toList) w wz) ∧ Kp (wz.heap[R]? = some (.cells (rcs p x y lf sp (.slice (some ⟨g, 0, none⟩) (dn + 1) cap) nx) 119 (0, 0))) ∧ Kp (MemAt wz B D (ws)) ∧ Kp (wz.heap[w.heap.size]? = some (.cells #[.bool true, .int .i64 0, .slice (some ⟨g, 0, none⟩) (dn + 1) cap, .bool (decide (now - sp ≤ p.period)), .int .i64 0, .bool false, .bool false, .bool false, .int .i64 0] 64 (0, 0))) ∧ Kp (wz.ownsRow bs 41 1 (.slice (some ⟨g, 0, none⟩) (dn + 1) cap) (dn + 1) (u32s (l ++ [v]))) ∧ wd0.heap.size ≤ wz.heap.size) ⟨⟨(ButS.set' (ButS.set' (ButS.set' (ButS.set' (ButS.set' (ButS.set' (ButS.set' (ButS.set' (ButS.set' HS2.out (p := ⟨w.heap.size, 0, none⟩) (by first | (left; simp; done) | (right; show _ ≤ w.heap.size; omega)) _) (p := ⟨w.heap.size, 1, none⟩) (by first | (left; simp; done) | (right; show _ ≤ w.heap.size; omega)) _) (p := ⟨w.heap.size, 2, none⟩) (by first | (left; simp; done) | (right; show _ ≤ w.heap.size; omega)) _) (p := ⟨w.heap.size, 3, none⟩) (by first | (left; simp; done) | (right; show _ ≤ w.heap.size; omega)) _) (p := ⟨w.heap.size, 4, none⟩) (by first | (left; simp; done) | (right; show _ ≤ w.heap.size; omega)) _) (p := ⟨w.heap.size, 5, none⟩) (by first | (left; simp; done) | (right; show _ ≤ w.heap.size; omega)) _) (p := ⟨w.heap.size, 6, none⟩) (by first | (left; simp; done) | (right; show _ ≤ w.heap.size; omega)) _) (p := ⟨w.heap.size, 7, none⟩) (by first | (left; simp; done) | (right; show _ ≤ w.heap.size; omega)) _) (p := ⟨w.heap.size, 8, none⟩) (by first | (left; simp; done) | (right; show _ ≤ w.heap.size; omega)) _)⟩, ⟨(blk_set_ne (p := ⟨w.heap.size, 8, none⟩) (blk_set_ne (p := ⟨w.heap.size, 7, none⟩) (blk_set_ne (p := ⟨w.heap.size, 6, none⟩) (blk_set_ne (p := ⟨w.heap.size, 5, none⟩) (blk_set_ne (p := ⟨w.heap.size, 4, none⟩) (blk_set_ne (p := ⟨w.heap.size, 3, none⟩) (blk_set_ne (p := ⟨w.heap.size, 2, none⟩) (blk_set_ne (p := ⟨w.heap.size, 1, none⟩) (blk_set_ne (p := ⟨w.heap.size, 0, none⟩) HW2.out (by show R ≠ w.heap.size; omega) _) (by show R ≠ w.heap.size; omega) _) (by show R ≠ w.heap.size; omega) _) (by show R ≠ w.heap.size; omega) _) (by show R ≠ w.heap.size; omega) _) (by show R ≠ w.heap.size; omega) _) (by show R ≠ w.heap.size; omega) _) (by show R ≠ w.heap.size; omega) _) (by show R ≠ w.heap.size; omega) _)⟩, ⟨(MemAt.setne (MemAt.setne (MemAt.setne (MemAt.setne (MemAt.setne (MemAt.setne (MemAt.setne (MemAt.setne (MemAt.setne HM2.out (p := ⟨w.heap.size, 0, none⟩) (by show B ≠ w.heap.size; omega) (by show D ≠ w.heap.size; omega) _) (p := ⟨w.heap.size, 1, none⟩) (by show B ≠ w.heap.size; omega) (by show D ≠ w.heap.size; omega) _) (p := ⟨w.heap.size, 2, none⟩) (by show B ≠ w.heap.size; omega) (by show D ≠ w.heap.size; omega) _) (p := ⟨w.heap.size, 3, none⟩) (by show B ≠ w.heap.size; omega) (by show D ≠ w.heap.size; omega) _) (p := ⟨w.heap.size, 4, none⟩) (by show B ≠ w.heap.size; omega) (by show D ≠ w.heap.size; omega) _) (p := ⟨w.heap.size, 5, none⟩) (by show B ≠ w.heap.size; omega) (by show D ≠ w.heap.size; omega) _) (p := ⟨w.heap.size, 6, none⟩) (by show B ≠ w.heap.size; omega) (by show D ≠ w.heap.size; omega) _) (p := ⟨w.heap.size, 7, none⟩) (by show B ≠ w.heap.size; omega) (by show D ≠ w.heap.size; omega) _) (p := ⟨w.heap.size, 8, none⟩) (by show B ≠ w.heap.size; omega) (by show D ≠ w.heap.size; omega) _)⟩, ⟨(blk_set (blk_set (blk_set (blk_set (blk_set (blk_set (blk_set (blk_set (blk_set HR2.out 0 _) 1 _) 2 _) 3 _) 4 _) 5 _) 6 _) 7 _) 8 _).trans rfl⟩, ⟨(own_set_blk (own_set_blk (own_set_blk (own_set_blk (own_set_blk (own_set_blk (own_set_blk (own_set_blk (own_set_blk HO2.out (p := ⟨w.heap.size, 0, none⟩) (by show g ≠ w.heap.size; exact hgR) _) (p := ⟨w.heap.size, 1, none⟩) (by show g ≠ w.heap.size; exact hgR) _) (p := ⟨w.heap.size, 2, none⟩) (by show g ≠ w.heap.size; exact hgR) _) (p := ⟨w.heap.size, 3, none⟩) (by show g ≠ w.heap.size; exact hgR) _) (p := ⟨w.heap.size, 4, none⟩) (by show g ≠ w.heap.size; exact hgR) _) (p := ⟨w.heap.size, 5, none⟩) (by show g ≠ w.heap.size; exact hgR) _) (p := ⟨w.heap.size, 6, none⟩) (by show g ≠ w.heap.size; exact hgR) _) (p := ⟨w.heap.size, 7, none⟩) (by show g ≠ w.heap.size; exact hgR) _) (p := ⟨w.heap.size, 8, none⟩) (by show g ≠ w.heap.size; exact hgR) _)⟩, (by simp [World.setCell])⟩ (sx_of1 ((ButB.set (ButB.set (ButB.set (ButB.set (ButB.set (ButB.set (ButB.set (ButB.set (ButB.set (And.left hHeld) (p := ⟨w.heap.size, 0, none⟩) (by first | (left; simp; done) | (right; show _ ≤ w.heap.size; omega)) _) (p := ⟨w.heap.size, 1, none⟩) (by first | (left; simp; done) | (right; show _ ≤ w.heap.size; omega)) _) (p := ⟨w.heap.size, 2, none⟩) (by first | (left; simp; done) | (right; show _ ≤ w.heap.size; omega)) _) (p := ⟨w.heap.size, 3, none⟩) (by first | (left; simp; done) | (right; show _ ≤ w.heap.size; omega)) _) (p := ⟨w.heap.size, 4, none⟩) (by first | (left; simp; done) | (right; show _ ≤ w.heap.size; omega)) _) (p := ⟨w.heap.size, 5, none⟩) (by first | (left; simp; done) | (right; show _ ≤ w.heap.size; omega)) _) (p := ⟨w.heap.size, 6, none⟩) (by first | (left; simp; done) | (right; show _ ≤ w.heap.size; omega)) _) (p := ⟨w.heap.size, 7, none⟩) (by first | (left; simp; done) | (right; show _ ≤ w.heap.size; omega)) _) (p := ⟨w.heap.size, 8, none⟩) (by first | (left; simp; done) | (right; show _ ≤ w.heap.size; omega)) _))) (fun wd1 hRn hHn => ?_)
    clear hK K hHeld HS2 HW2 HM2 HR2 HO2 sd0 sf0 sd1 sf1 sd2 sf2 sd3 sf3 sd4 sf4 sd5 sf5 sd6 sf6 sd7 sf7 sd8 sf8 sl
    obtain ⟨HS2, HW2, HM2, HR2, HO2, hsz1⟩ := hRn
    have hHeld := hHn
    clear hHn
    try simp only [Act.put, ls0, ls1, ls2]
    refine wtk 20 ?_ rfl (.inl ⟨by rfl, ?_⟩) ?_
    rotate_left 1
    · (intro w hSw; go_simp; try with_reducible rfl)
    try simp only [Act.put, ls0, ls1, ls2]
    refine wpAnyH_done (by kernel_rfl) ?_ _
    go_wp2
    refine bodyPost_ret (v := .tuple #[.agg #[.bool true, .int .i64 0, .slice (some ⟨g, 0, none⟩) (dn + 1) cap, .bool (decide (now - sp ≤ p.period)), .int .i64 0, .bool false, .bool false, .bool false, .int .i64 0], .nilFunc]) ?_ rfl ?_
    · refine (results_row_tmp (fn := Tryz.f116) (p := 6) (u := 7) (ty := 64) rfl _ _ w.heap.size 64 #[.bool true, .int .i64 0, .slice (some ⟨g, 0, none⟩) (dn + 1) cap, .bool (decide (now - sp ≤ p.period)), .int .i64 0, .bool false, .bool false, .bool false, .int .i64 0] (0, 0) _ (by go_simp) HR2.out Tryz.underlying64 rfl (by kernel_rfl)).trans ?_
      rfl
    · exact ⟨g, cap, rfl, HW2.out, HM2.out, HS2.out, HO2.out, hat2⟩
end Go.Proofs.YtmidcnfmphlneaaGreat

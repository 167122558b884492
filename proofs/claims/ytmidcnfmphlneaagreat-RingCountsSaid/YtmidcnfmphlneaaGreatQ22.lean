/- Contracts of package ring: a send that has done nothing. -/
import Derived.Test.YtmidcnfmphlneaaGreatQ16
import Derived.RangeFuncNested
import Derived.RangeFuncBound
import Derived.RangeFuncCalls
import Derived.RangeFuncLeaves
import Derived.Shelf.Abstract
import Derived.Shelf.RegionOpen
import Derived.WalkKit
import Derived.OwnWalkIn
import Derived.TacticsInMore
import Derived.LoopNIn
import Derived.LoopIn
namespace Go.Proofs.YtmidcnfmphlneaaGreat
open Go.RowKit
set_option linter.unusedSimpArgs false
set_option linter.unusedVariables false
open Go.Shelf
attribute [local go_sem] Oper.semAt_some
set_option maxRecDepth 100000 in
set_option maxHeartbeats 4000000 in
theorem rgSend_any (cv : Value) (C : Cfg) (hsm : C.small) (k : Nat) (hk : k < C.chans.length) (x : Chn) (hx : C.chans[k] = x) (own : Int) (hown : 0 ≤ own ∧ own < 4294967296) (hdp : 1 ≤ x.depth ∧ x.depth ≤ 8) (s1 s2 d1 d2 l1 l2 : Int) (hs : srcB C k = (s1, s2)) (hd : dstB C k = (d1, d2)) (hcl : cellB C k (own % x.depth) = (l1, l2)) (dv : Value) (l : List Int) (hl : 0 < l.length ∧ l.length ≤ 16) (hcb : 0 ≤ l1 ∧ l1 ≤ 100000) (w : World) (h : CfgAt w cv C) (hdv : RowAt w 1 dv l.length (u32s l)) : Calls Tryz.prog 38 #[cv, .int .i64 k, .int .u32 own, dv] w fun e w' => ∃ (O QB OBB bs g cap : Nat) (ps : List (Nat × Nat)), e = .returned (.pointer (some ⟨O, 0, none⟩)) ∧ SendNew w' w.heap.size O QB OBB bs g cap ps own (⟨k, s1, d1, l1, x.words, x.depth⟩ : Qu) l ∧ Below w.heap.size w w' := by
  obtain ⟨ho, pa, pc, ca, cc, a0, c0, a1, c1, rfl, bp, bc, b0, b1, hp, hc, hw0, hw1⟩ := h
  have h := (show CfgAt w _ C from ⟨ho, pa, pc, ca, cc, a0, c0, a1, c1, rfl, bp, bc, b0, b1, hp, hc, hw0, hw1⟩)
  have HC := Kp.mk h
  clear ho hp hc hw0 hw1 h
  obtain ⟨ra, rc, rfl, _, _⟩ := hdv.shape
  have HDV := Kp.mk hdv
  obtain ⟨i0, hi0, hz0, hz1, hz2⟩ := info_parts Tryz.infoStep
  clear hdv
  refine (callsIn_wide (n := 3)).1 (callsIn_of_wp_marks Tryz.func38 rfl trivial (wpIn_wide.2 ?_) rfl)
  simp only [Tryz.ntmps38, List.size_toArray, List.length_cons, List.length_nil, Nat.reduceAdd, Nat.reduceSub, Array.replicate_succ, Array.replicate_zero, List.push_toArray, List.append_toArray, List.nil_append, List.cons_append]
  have HB0 : Kp (Below w.heap.size w w) := ⟨Below.refl _ _⟩
  go_wp2_with fail
  refine (rgof_any _ C hsm k hk x hx own hown hdp s1 s2 d1 d2 l1 l2 hs hd hcl _ (HC.out.below ((below_al HB0.out _)))).mono ?_
  rintro e w1 ⟨rfl, hb⟩
  have cb1 : Kp (w1.heap[w.heap.size]? = some (.cells #[.slice pa C.parts.length pc, .slice ca C.chans.length cc, .int .i64 C.l0, .slice a0 C.w0.length c0, .int .i64 C.l1, .slice a1 C.w1.length c1] 31 (0, 0))) := ⟨blk_below (blk_new _ _) hb⟩
  have HB1 : Kp (Below w.heap.size w w1) := ⟨below_call (below_al HB0.out _) hb⟩
  clear HB0 hb
  have cbc0 := cbk cb1.out 0 (.slice pa C.parts.length pc) rfl
  have cbc1 := cbk cb1.out 1 (.slice ca C.chans.length cc) rfl
  have cbc2 := cbk cb1.out 2 (.int .i64 C.l0) rfl
  have cbc3 := cbk cb1.out 3 (.slice a0 C.w0.length c0) rfl
  have cbc4 := cbk cb1.out 4 (.int .i64 C.l1) rfl
  have cbc5 := cbk cb1.out 5 (.slice a1 C.w1.length c1) rfl
  have cbl := blk_lt cb1.out
  have hszw : w.heap.size ≤ w1.heap.size := HB1.out.size
  go_wp2_with fail
  have qb2 : Kp ((((w1.alloc (.cells #[.int .i64 (k : Int), .int .i64 s1, .int .i64 d1, .int .i64 l1, .int .i64 x.words, .int .i64 x.depth] 124)).alloc (.cells #[.int .u32 own, .slice none 0 0] 132)).alloc (.cells #[.pointer (some ⟨w1.heap.size + 1, 0, none⟩)] 75)).heap[w1.heap.size]? = some (.cells #[.int .i64 (k : Int), .int .i64 s1, .int .i64 d1, .int .i64 l1, .int .i64 x.words, .int .i64 x.depth] 124 (0, 0))) := ⟨(blk_al (blk_al (blk_new _ _) _) _)⟩
  have op2 : Kp ((((w1.alloc (.cells #[.int .i64 (k : Int), .int .i64 s1, .int .i64 d1, .int .i64 l1, .int .i64 x.words, .int .i64 x.depth] 124)).alloc (.cells #[.int .u32 own, .slice none 0 0] 132)).alloc (.cells #[.pointer (some ⟨w1.heap.size + 1, 0, none⟩)] 75)).heap[w1.heap.size + 1]? = some (.cells #[.int .u32 own, .slice none 0 0] 132 (0, 0))) := ⟨(blk_al (blk_at (w := (w1.alloc (.cells #[.int .i64 (k : Int), .int .i64 s1, .int .i64 d1, .int .i64 l1, .int .i64 x.words, .int .i64 x.depth] 124))) (by simp) _) _)⟩
  have ob2 : Kp ((((w1.alloc (.cells #[.int .i64 (k : Int), .int .i64 s1, .int .i64 d1, .int .i64 l1, .int .i64 x.words, .int .i64 x.depth] 124)).alloc (.cells #[.int .u32 own, .slice none 0 0] 132)).alloc (.cells #[.pointer (some ⟨w1.heap.size + 1, 0, none⟩)] 75)).heap[w1.heap.size + 1 + 1]? = some (.cells #[.pointer (some ⟨w1.heap.size + 1, 0, none⟩)] 75 (0, 0))) := ⟨(blk_at (w := ((w1.alloc (.cells #[.int .i64 (k : Int), .int .i64 s1, .int .i64 d1, .int .i64 l1, .int .i64 x.words, .int .i64 x.depth] 124)).alloc (.cells #[.int .u32 own, .slice none 0 0] 132))) (by simp) _)⟩
  have cb2 : Kp ((((w1.alloc (.cells #[.int .i64 (k : Int), .int .i64 s1, .int .i64 d1, .int .i64 l1, .int .i64 x.words, .int .i64 x.depth] 124)).alloc (.cells #[.int .u32 own, .slice none 0 0] 132)).alloc (.cells #[.pointer (some ⟨w1.heap.size + 1, 0, none⟩)] 75)).heap[w.heap.size]? = some (.cells #[.slice pa C.parts.length pc, .slice ca C.chans.length cc, .int .i64 C.l0, .slice a0 C.w0.length c0, .int .i64 C.l1, .slice a1 C.w1.length c1] 31 (0, 0))) := ⟨(blk_al (blk_al (blk_al cb1.out _) _) _)⟩
  have HB2 : Kp (Below w.heap.size w (((w1.alloc (.cells #[.int .i64 (k : Int), .int .i64 s1, .int .i64 d1, .int .i64 l1, .int .i64 x.words, .int .i64 x.depth] 124)).alloc (.cells #[.int .u32 own, .slice none 0 0] 132)).alloc (.cells #[.pointer (some ⟨w1.heap.size + 1, 0, none⟩)] 75))) := ⟨(below_al (below_al (below_al HB1.out _) _) _)⟩
  clear cbc0 cbc1 cbc2 cbc3 cbc4 cbc5 cbl cb1 HB1
  generalize (((w1.alloc (.cells #[.int .i64 (k : Int), .int .i64 s1, .int .i64 d1, .int .i64 l1, .int .i64 x.words, .int .i64 x.depth] 124)).alloc (.cells #[.int .u32 own, .slice none 0 0] 132)).alloc (.cells #[.pointer (some ⟨w1.heap.size + 1, 0, none⟩)] 75)) = w2 at qb2 op2 ob2 cb2 HB2 ⊢
  have qbc0 := cbk qb2.out 0 (.int .i64 (k : Int)) rfl
  have qbc1 := cbk qb2.out 1 (.int .i64 s1) rfl
  have qbc2 := cbk qb2.out 2 (.int .i64 d1) rfl
  have qbc3 := cbk qb2.out 3 (.int .i64 l1) rfl
  have qbc4 := cbk qb2.out 4 (.int .i64 x.words) rfl
  have qbc5 := cbk qb2.out 5 (.int .i64 x.depth) rfl
  have qbl := blk_lt qb2.out
  have opc0 := cbk op2.out 0 (.int .u32 own) rfl
  have opc1 := cbk op2.out 1 (.slice none 0 0) rfl
  have opl := blk_lt op2.out
  have obc0 := cbk ob2.out 0 (.pointer (some ⟨w1.heap.size + 1, 0, none⟩)) rfl
  have obl := blk_lt ob2.out
  have cbc0 := cbk cb2.out 0 (.slice pa C.parts.length pc) rfl
  have cbc1 := cbk cb2.out 1 (.slice ca C.chans.length cc) rfl
  have cbc2 := cbk cb2.out 2 (.int .i64 C.l0) rfl
  have cbc3 := cbk cb2.out 3 (.slice a0 C.w0.length c0) rfl
  have cbc4 := cbk cb2.out 4 (.int .i64 C.l1) rfl
  have cbc5 := cbk cb2.out 5 (.slice a1 C.w1.length c1) rfl
  have cbl := blk_lt cb2.out
  obtain ⟨bs, hbs⟩ : ∃ bs, w2.heap.size = bs := ⟨_, rfl⟩
  have hbl := blk_lt ob2.out
  have hszq : w.heap.size ≤ w2.heap.size := HB2.out.size
  rw [hbs] at hbl hszq
  have LX : Kp (LeftX w2 bs 133 1 (.slice none 0 0) 0 [] none) := ⟨.inr ⟨World.ownsRow_nil _ _ _ _, rfl⟩⟩
  have hobg := LX.out.ge
  refine JQ.region (fun a wj => ∃ (g cap : Nat) (u5 u6 u7 u11 u12 u13 u14 u15 u16 u17 u18 u19 u20 u21 u22 u23 u24 u25 u26 u27 u28 u29 u30 u31 u32 u33 u34 u35 u36 u37 u38 u39 u40 u41 u42 u43 u44 u45 u46 u47 u48 u49 u50 u51 u52 u53 u54 u55 u56 u57 : Value), a = ⟨#[.agg #[.slice pa C.parts.length pc, .slice ca C.chans.length cc, .int .i64 C.l0, .slice a0 C.w0.length c0, .int .i64 C.l1, .slice a1 C.w1.length c1], .int .i64 (k : Int), .int .u32 own, .slice ra l.length rc, .pointer (some ⟨w.heap.size, 0, none⟩), u5, u6, u7, .pointer none, .pointer (some ⟨w1.heap.size, 0, none⟩), .pointer (some ⟨w1.heap.size + 1 + 1, 0, none⟩), u11, u12, u13, u14, u15, u16, u17, u18, u19, u20, u21, u22, u23, u24, u25, u26, u27, u28, u29, u30, u31, u32, u33, u34, u35, u36, u37, u38, u39, u40, u41, u42, u43, u44, u45, u46, u47, u48, u49, u50, u51, u52, u53, u54, u55, u56, u57], []⟩ ∧ Kp (wj.heap[w1.heap.size + 1]? = some (.cells #[.int .u32 own, .slice (some ⟨g, 0, none⟩) (0 + 1) cap] 132 (0, 0))) ∧ Kp (wj.heap[w1.heap.size + 1 + 1]? = some (.cells #[.pointer (some ⟨w1.heap.size + 1, 0, none⟩)] 75 (0, 0))) ∧ Kp (wj.heap[w1.heap.size]? = some (.cells #[.int .i64 (k : Int), .int .i64 s1, .int .i64 d1, .int .i64 l1, .int .i64 x.words, .int .i64 x.depth] 124 (0, 0))) ∧ Kp (wj.ownsRow (bs) 133 1 (.slice (some ⟨g, 0, none⟩) (0 + 1) cap) (0 + 1) ([FV 62 #[.pointer (some ⟨w1.heap.size + 1 + 1, 0, none⟩), .pointer (some ⟨w1.heap.size, 0, none⟩)]])) ∧ Kp (Below w.heap.size w wj)) ?_ ?_
  · refine held_start_gen (S := (fun w' : World => ButB (bs) [w1.heap.size + 1] w2 w' ∧ ∀ bb o, bb < bs → bb ≠ w1.heap.size + 1 → w'.cell? ⟨bb, o, none⟩ = w2.cell? ⟨bb, o, none⟩)) (by kernel_rfl) (fun wz : World => Kp (wz.heap[w1.heap.size + 1]? = some (.cells #[.int .u32 own, .slice none 0 0] 132 (0, 0))) ∧ Kp (wz.heap[w1.heap.size + 1 + 1]? = some (.cells #[.pointer (some ⟨w1.heap.size + 1, 0, none⟩)] 75 (0, 0))) ∧ Kp (wz.heap[w1.heap.size]? = some (.cells #[.int .i64 (k : Int), .int .i64 s1, .int .i64 d1, .int .i64 l1, .int .i64 x.words, .int .i64 x.depth] 124 (0, 0))) ∧ Kp (LeftX wz bs 133 1 (.slice none 0 0) 0 [] none) ∧ Kp (Below w.heap.size w wz) ∧ w2.heap.size ≤ wz.heap.size) ⟨⟨blk_dr op2.out⟩, ⟨blk_dr ob2.out⟩, ⟨blk_dr qb2.out⟩, ⟨LX.out.below (below_dr (Below.refl _ _))⟩, ⟨below_dr HB2.out⟩, Nat.le_refl _⟩ (sx_of1 (ButB.dr (ButB.refl _ (by omega)))) (fun wd0 hRn hHeld => ?_)
    clear op2 ob2 qb2 LX HB2
    obtain ⟨op2, ob2, qb2, LX, HB2, hsz⟩ := hRn
    refine wtk 0 ?_ rfl (.inl ⟨by rfl, ?_⟩) ?_
    rotate_left 1
    · (intro w hSw; go_simp; try with_reducible rfl)
    try simp only [Act.put, ls0, ls1, ls2]
    refine wtk 1 ?_ rfl (.inl ⟨by rfl, ?_⟩) ?_
    rotate_left 1
    · (intro w hSw; go_simp; try with_reducible rfl)
    try simp only [Act.put, ls0, ls1, ls2]
    refine wtk 2 ?_ rfl (.inl ⟨by rfl, ?_⟩) ?_
    rotate_left 1
    · (intro w hSw; go_simp; try with_reducible rfl)
    try simp only [Act.put, ls0, ls1, ls2]
    refine wtk 3 ?_ rfl (.inl ⟨by rfl, ?_⟩) ?_
    rotate_left 1
    · (intro w hSw; go_simp; try with_reducible rfl)
    try simp only [Act.put, ls0, ls1, ls2]
    refine wtk 5 ?_ rfl (.inl ⟨by rfl, ?_⟩) ?_
    rotate_left 1
    · (intro w hSw; go_simp; try with_reducible rfl)
    try simp only [Act.put, ls0, ls1, ls2]
    refine wrd [4, 6] ?_
    refine (arc rfl (fun K hK => ?_) (arc rfl (fun K hK => ?_) arn))
    · have sd1 := cbk op2.out 1 (.slice none 0 0) rfl
      have sl := blk_lt op2.out
      go_simp
      try go_wp2_with fail
      refine out_gen hK _ _ (fun wz : World => Kp (wz.heap[w1.heap.size + 1]? = some (.cells #[.int .u32 own, .slice none 0 0] 132 (0, 0))) ∧ Kp (wz.heap[w1.heap.size + 1 + 1]? = some (.cells #[.pointer (some ⟨w1.heap.size + 1, 0, none⟩)] 75 (0, 0))) ∧ Kp (wz.heap[w1.heap.size]? = some (.cells #[.int .i64 (k : Int), .int .i64 s1, .int .i64 d1, .int .i64 l1, .int .i64 x.words, .int .i64 x.depth] 124 (0, 0))) ∧ Kp (LeftX wz bs 133 1 (.slice none 0 0) 0 [] none) ∧ Kp (Below w.heap.size w wz) ∧ wd0.heap.size ≤ wz.heap.size) ⟨⟨op2.out⟩, ⟨ob2.out⟩, ⟨qb2.out⟩, ⟨LX.out⟩, ⟨HB2.out⟩, Nat.le_refl _⟩ (sx_of1 ((And.left hHeld))) (fun wd1 hRn hHn => ?_)
      clear hK K hHeld op2 ob2 qb2 LX HB2  sd1 sl
      obtain ⟨op2, ob2, qb2, LX, HB2, hsz1⟩ := hRn
      have hHeld := hHn
      clear hHn
      try simp only [Act.put, ls0, ls1, ls2]
      refine wrd [6] ?_
      refine (arc rfl (fun K hK => ?_) arn)
      have ge_qa : w2.heap.size ≤ wd1.heap.size := (And.left hHeld).size
      go_simp
      try go_wp2_with fail
      refine out_gen hK _ _ (fun wz : World => Kp (wz.heap[w1.heap.size + 1]? = some (.cells #[.int .u32 own, .slice none 0 0] 132 (0, 0))) ∧ Kp (wz.heap[w1.heap.size + 1 + 1]? = some (.cells #[.pointer (some ⟨w1.heap.size + 1, 0, none⟩)] 75 (0, 0))) ∧ Kp (wz.heap[w1.heap.size]? = some (.cells #[.int .i64 (k : Int), .int .i64 s1, .int .i64 d1, .int .i64 l1, .int .i64 x.words, .int .i64 x.depth] 124 (0, 0))) ∧ Kp (LeftX wz bs 133 1 (.slice none 0 0) 0 [] none) ∧ Kp (Below w.heap.size w wz) ∧ Kp (wz.heap[wd1.heap.size]? = some (.cells #[FV 62 #[.pointer (some ⟨w1.heap.size + 1 + 1, 0, none⟩), .pointer (some ⟨w1.heap.size, 0, none⟩)]] 133 (0, 0))) ∧ wd1.heap.size < wz.heap.size) ⟨⟨blk_al op2.out _⟩, ⟨blk_al ob2.out _⟩, ⟨blk_al qb2.out _⟩, ⟨LX.out.below (below_al (Below.refl _ _) _)⟩, ⟨below_al HB2.out _⟩, ⟨blk_new wd1 _⟩, (by simp)⟩ (sx_of1 (ButB.al (And.left hHeld) _)) (fun wd2 hRn hHn => ?_)
      clear hK K hHeld op2 ob2 qb2 LX HB2
      obtain ⟨op2, ob2, qb2, LX, HB2, qa, hsz2⟩ := hRn
      have hHeld := hHn
      clear hHn
      try simp only [Act.put, ls0, ls1, ls2]
      have lt_qa := blk_lt qa.out
      refine wrd [7] ?_
      refine (arc rfl (fun K hK => ?_) arn)
      have hws := (And.left hHeld).size
      refine step_append_X _ (by rfl) _ _ 130 (by rfl) (bs) 133 i0 .nilFunc 1 8 Tryz.underlying130 hi0 hz0 hz1 hz2 (by rfl) (by decide) _ _ _ _ (by rfl) LX.out _ 1 _ [FV 62 #[.pointer (some ⟨w1.heap.size + 1 + 1, 0, none⟩), .pointer (some ⟨w1.heap.size, 0, none⟩)]] (by rfl) rfl (World.news_of_block qa.out) (by simp [Value.oneCell', FV]) (by decide) (by unfold maxLen; omega) (by omega) (by omega) ?_
      intro g cap w9 hown hgrow hob
      refine out_gen hK _ _ (fun wz : World => Kp (wz.heap[w1.heap.size + 1]? = some (.cells #[.int .u32 own, .slice none 0 0] 132 (0, 0))) ∧ Kp (wz.heap[w1.heap.size + 1 + 1]? = some (.cells #[.pointer (some ⟨w1.heap.size + 1, 0, none⟩)] 75 (0, 0))) ∧ Kp (wz.heap[w1.heap.size]? = some (.cells #[.int .i64 (k : Int), .int .i64 s1, .int .i64 d1, .int .i64 l1, .int .i64 x.words, .int .i64 x.depth] 124 (0, 0))) ∧ Kp (wz.ownsRow (bs) 133 1 (.slice (some ⟨g, 0, none⟩) (0 + 1) cap) (0 + 1) ([FV 62 #[.pointer (some ⟨w1.heap.size + 1 + 1, 0, none⟩), .pointer (some ⟨w1.heap.size, 0, none⟩)]])) ∧ Kp (Below w.heap.size w wz) ∧ wd2.heap.size ≤ wz.heap.size) ⟨⟨blk_grownO op2.out hgrow (fun q hq => by have := hobg q hq; omega)⟩, ⟨blk_grownO ob2.out hgrow (fun q hq => by have := hobg q hq; omega)⟩, ⟨blk_grownO qb2.out hgrow (fun q hq => by have := hobg q hq; omega)⟩, ⟨by have h := hown; exact h⟩, ⟨below_grownO HB2.out hgrow (fun q hq => by have := hobg q hq; omega)⟩, hgrow.size⟩ (sx_of1 (ButB.grownO (And.left hHeld) hgrow hobg)) (fun wd3 hRn hHn => ?_)
      clear hK K hHeld op2 ob2 qb2 LX HB2 qa hown hgrow hws hob
      obtain ⟨op2, ob2, qb2, LX, HB2, hsz3⟩ := hRn
      have hHeld := hHn
      clear hHn
      try simp only [Act.put, ls0, ls1, ls2]
      refine wtk 8 ?_ rfl (.inl ⟨by rfl, ?_⟩) ?_
      rotate_left 1
      · (intro w hSw; go_simp; try with_reducible rfl)
      try simp only [Act.put, ls0, ls1, ls2]
      refine wtk 9 ?_ rfl (.inl ⟨by rfl, ?_⟩) ?_
      rotate_left 1
      · (intro w hSw; go_simp; try with_reducible rfl)
      try simp only [Act.put, ls0, ls1, ls2]
      refine wrd [10] ?_
      refine (arc rfl (fun K hK => ?_) arn)
      have sd := cbk op2.out 1 (.slice none 0 0) rfl
      have sf := frozen_blk op2.out 1
      have sl := blk_lt op2.out
      go_simp
      try go_wp2_with fail
      refine out_gen hK _ _ (fun wz : World => Kp (wz.heap[w1.heap.size + 1]? = some (.cells #[.int .u32 own, .slice (some ⟨g, 0, none⟩) (0 + 1) cap] 132 (0, 0))) ∧ Kp (wz.heap[w1.heap.size + 1 + 1]? = some (.cells #[.pointer (some ⟨w1.heap.size + 1, 0, none⟩)] 75 (0, 0))) ∧ Kp (wz.heap[w1.heap.size]? = some (.cells #[.int .i64 (k : Int), .int .i64 s1, .int .i64 d1, .int .i64 l1, .int .i64 x.words, .int .i64 x.depth] 124 (0, 0))) ∧ Kp (wz.ownsRow (bs) 133 1 (.slice (some ⟨g, 0, none⟩) (0 + 1) cap) (0 + 1) ([FV 62 #[.pointer (some ⟨w1.heap.size + 1 + 1, 0, none⟩), .pointer (some ⟨w1.heap.size, 0, none⟩)]])) ∧ Kp (Below w.heap.size w wz) ∧ wd3.heap.size ≤ wz.heap.size) ⟨⟨(blk_set op2.out 1 _).trans rfl⟩, ⟨blk_set_ne (p := ⟨w1.heap.size + 1, 1, none⟩) ob2.out (by show w1.heap.size + 1 + 1 ≠ w1.heap.size + 1; omega) _⟩, ⟨blk_set_ne (p := ⟨w1.heap.size + 1, 1, none⟩) qb2.out (by show w1.heap.size ≠ w1.heap.size + 1; omega) _⟩, ⟨own_set_ne LX.out (p := ⟨w1.heap.size + 1, 1, none⟩) (by show w1.heap.size + 1 < bs; omega) _⟩, ⟨HB2.out.setCell (p := ⟨w1.heap.size + 1, 1, none⟩) (by show w.heap.size ≤ w1.heap.size + 1; omega) _⟩, (by simp [World.setCell])⟩ (sx_of1 (ButB.set (And.left hHeld) (p := ⟨w1.heap.size + 1, 1, none⟩) (by first | (left; simp; done) | (right; show _ ≤ w1.heap.size + 1; omega)) _)) (fun wd4 hRn hHn => ?_)
      clear hK K hHeld op2 ob2 qb2 LX HB2 sd sf sl
      obtain ⟨op2, ob2, qb2, LX, HB2, hsz4⟩ := hRn
      have hHeld := hHn
      clear hHn
      try simp only [Act.put, ls0, ls1, ls2]
      refine wpAnyH_done (by kernel_rfl) ?_ _
      exact JQ.mk ⟨g, cap, _, _, _, _, _, _, _, _, _, _, _, _, _, _, _, _, _, _, _, _, _, _, _, _, _, _, _, _, _, _, _, _, _, _, _, _, _, _, _, _, _, _, _, _, _, _, _, _, _, _, rfl, op2, ob2, qb2, LX, HB2⟩
    · have ge_qa : w2.heap.size ≤ wd0.heap.size := (And.left hHeld).size
      go_simp
      try go_wp2_with fail
      refine out_gen hK _ _ (fun wz : World => Kp (wz.heap[w1.heap.size + 1]? = some (.cells #[.int .u32 own, .slice none 0 0] 132 (0, 0))) ∧ Kp (wz.heap[w1.heap.size + 1 + 1]? = some (.cells #[.pointer (some ⟨w1.heap.size + 1, 0, none⟩)] 75 (0, 0))) ∧ Kp (wz.heap[w1.heap.size]? = some (.cells #[.int .i64 (k : Int), .int .i64 s1, .int .i64 d1, .int .i64 l1, .int .i64 x.words, .int .i64 x.depth] 124 (0, 0))) ∧ Kp (LeftX wz bs 133 1 (.slice none 0 0) 0 [] none) ∧ Kp (Below w.heap.size w wz) ∧ Kp (wz.heap[wd0.heap.size]? = some (.cells #[FV 62 #[.pointer (some ⟨w1.heap.size + 1 + 1, 0, none⟩), .pointer (some ⟨w1.heap.size, 0, none⟩)]] 133 (0, 0))) ∧ wd0.heap.size < wz.heap.size) ⟨⟨blk_al op2.out _⟩, ⟨blk_al ob2.out _⟩, ⟨blk_al qb2.out _⟩, ⟨LX.out.below (below_al (Below.refl _ _) _)⟩, ⟨below_al HB2.out _⟩, ⟨blk_new wd0 _⟩, (by simp)⟩ (sx_of1 (ButB.al (And.left hHeld) _)) (fun wd5 hRn hHn => ?_)
      clear hK K hHeld op2 ob2 qb2 LX HB2
      obtain ⟨op2, ob2, qb2, LX, HB2, qa, hsz5⟩ := hRn
      have hHeld := hHn
      clear hHn
      try simp only [Act.put, ls0, ls1, ls2]
      have lt_qa := blk_lt qa.out
      refine wrd [4] ?_
      refine (arc rfl (fun K hK => ?_) arn)
      have sd1 := cbk op2.out 1 (.slice none 0 0) rfl
      have sl := blk_lt op2.out
      go_simp
      try go_wp2_with fail
      refine out_gen hK _ _ (fun wz : World => Kp (wz.heap[w1.heap.size + 1]? = some (.cells #[.int .u32 own, .slice none 0 0] 132 (0, 0))) ∧ Kp (wz.heap[w1.heap.size + 1 + 1]? = some (.cells #[.pointer (some ⟨w1.heap.size + 1, 0, none⟩)] 75 (0, 0))) ∧ Kp (wz.heap[w1.heap.size]? = some (.cells #[.int .i64 (k : Int), .int .i64 s1, .int .i64 d1, .int .i64 l1, .int .i64 x.words, .int .i64 x.depth] 124 (0, 0))) ∧ Kp (LeftX wz bs 133 1 (.slice none 0 0) 0 [] none) ∧ Kp (Below w.heap.size w wz) ∧ Kp (wz.heap[wd0.heap.size]? = some (.cells #[FV 62 #[.pointer (some ⟨w1.heap.size + 1 + 1, 0, none⟩), .pointer (some ⟨w1.heap.size, 0, none⟩)]] 133 (0, 0))) ∧ wd5.heap.size ≤ wz.heap.size) ⟨⟨op2.out⟩, ⟨ob2.out⟩, ⟨qb2.out⟩, ⟨LX.out⟩, ⟨HB2.out⟩, ⟨qa.out⟩, Nat.le_refl _⟩ (sx_of1 ((And.left hHeld))) (fun wd6 hRn hHn => ?_)
      clear hK K hHeld op2 ob2 qb2 LX HB2 qa  sd1 sl
      obtain ⟨op2, ob2, qb2, LX, HB2, qa, hsz6⟩ := hRn
      have hHeld := hHn
      clear hHn
      try simp only [Act.put, ls0, ls1, ls2]
      refine wrd [7] ?_
      refine (arc rfl (fun K hK => ?_) arn)
      have hws := (And.left hHeld).size
      refine step_append_X _ (by rfl) _ _ 130 (by rfl) (bs) 133 i0 .nilFunc 1 8 Tryz.underlying130 hi0 hz0 hz1 hz2 (by rfl) (by decide) _ _ _ _ (by rfl) LX.out _ 1 _ [FV 62 #[.pointer (some ⟨w1.heap.size + 1 + 1, 0, none⟩), .pointer (some ⟨w1.heap.size, 0, none⟩)]] (by rfl) rfl (World.news_of_block qa.out) (by simp [Value.oneCell', FV]) (by decide) (by unfold maxLen; omega) (by omega) (by omega) ?_
      intro g cap w9 hown hgrow hob
      refine out_gen hK _ _ (fun wz : World => Kp (wz.heap[w1.heap.size + 1]? = some (.cells #[.int .u32 own, .slice none 0 0] 132 (0, 0))) ∧ Kp (wz.heap[w1.heap.size + 1 + 1]? = some (.cells #[.pointer (some ⟨w1.heap.size + 1, 0, none⟩)] 75 (0, 0))) ∧ Kp (wz.heap[w1.heap.size]? = some (.cells #[.int .i64 (k : Int), .int .i64 s1, .int .i64 d1, .int .i64 l1, .int .i64 x.words, .int .i64 x.depth] 124 (0, 0))) ∧ Kp (wz.ownsRow (bs) 133 1 (.slice (some ⟨g, 0, none⟩) (0 + 1) cap) (0 + 1) ([FV 62 #[.pointer (some ⟨w1.heap.size + 1 + 1, 0, none⟩), .pointer (some ⟨w1.heap.size, 0, none⟩)]])) ∧ Kp (Below w.heap.size w wz) ∧ wd6.heap.size ≤ wz.heap.size) ⟨⟨blk_grownO op2.out hgrow (fun q hq => by have := hobg q hq; omega)⟩, ⟨blk_grownO ob2.out hgrow (fun q hq => by have := hobg q hq; omega)⟩, ⟨blk_grownO qb2.out hgrow (fun q hq => by have := hobg q hq; omega)⟩, ⟨by have h := hown; exact h⟩, ⟨below_grownO HB2.out hgrow (fun q hq => by have := hobg q hq; omega)⟩, hgrow.size⟩ (sx_of1 (ButB.grownO (And.left hHeld) hgrow hobg)) (fun wd7 hRn hHn => ?_)
      clear hK K hHeld op2 ob2 qb2 LX HB2 qa hown hgrow hws hob
      obtain ⟨op2, ob2, qb2, LX, HB2, hsz7⟩ := hRn
      have hHeld := hHn
      clear hHn
      try simp only [Act.put, ls0, ls1, ls2]
      refine wtk 8 ?_ rfl (.inl ⟨by rfl, ?_⟩) ?_
      rotate_left 1
      · (intro w hSw; go_simp; try with_reducible rfl)
      try simp only [Act.put, ls0, ls1, ls2]
      refine wtk 9 ?_ rfl (.inl ⟨by rfl, ?_⟩) ?_
      rotate_left 1
      · (intro w hSw; go_simp; try with_reducible rfl)
      try simp only [Act.put, ls0, ls1, ls2]
      refine wrd [10] ?_
      refine (arc rfl (fun K hK => ?_) arn)
      have sd := cbk op2.out 1 (.slice none 0 0) rfl
      have sf := frozen_blk op2.out 1
      have sl := blk_lt op2.out
      go_simp
      try go_wp2_with fail
      refine out_gen hK _ _ (fun wz : World => Kp (wz.heap[w1.heap.size + 1]? = some (.cells #[.int .u32 own, .slice (some ⟨g, 0, none⟩) (0 + 1) cap] 132 (0, 0))) ∧ Kp (wz.heap[w1.heap.size + 1 + 1]? = some (.cells #[.pointer (some ⟨w1.heap.size + 1, 0, none⟩)] 75 (0, 0))) ∧ Kp (wz.heap[w1.heap.size]? = some (.cells #[.int .i64 (k : Int), .int .i64 s1, .int .i64 d1, .int .i64 l1, .int .i64 x.words, .int .i64 x.depth] 124 (0, 0))) ∧ Kp (wz.ownsRow (bs) 133 1 (.slice (some ⟨g, 0, none⟩) (0 + 1) cap) (0 + 1) ([FV 62 #[.pointer (some ⟨w1.heap.size + 1 + 1, 0, none⟩), .pointer (some ⟨w1.heap.size, 0, none⟩)]])) ∧ Kp (Below w.heap.size w wz) ∧ wd7.heap.size ≤ wz.heap.size) ⟨⟨(blk_set op2.out 1 _).trans rfl⟩, ⟨blk_set_ne (p := ⟨w1.heap.size + 1, 1, none⟩) ob2.out (by show w1.heap.size + 1 + 1 ≠ w1.heap.size + 1; omega) _⟩, ⟨blk_set_ne (p := ⟨w1.heap.size + 1, 1, none⟩) qb2.out (by show w1.heap.size ≠ w1.heap.size + 1; omega) _⟩, ⟨own_set_ne LX.out (p := ⟨w1.heap.size + 1, 1, none⟩) (by show w1.heap.size + 1 < bs; omega) _⟩, ⟨HB2.out.setCell (p := ⟨w1.heap.size + 1, 1, none⟩) (by show w.heap.size ≤ w1.heap.size + 1; omega) _⟩, (by simp [World.setCell])⟩ (sx_of1 (ButB.set (And.left hHeld) (p := ⟨w1.heap.size + 1, 1, none⟩) (by first | (left; simp; done) | (right; show _ ≤ w1.heap.size + 1; omega)) _)) (fun wd8 hRn hHn => ?_)
      clear hK K hHeld op2 ob2 qb2 LX HB2 sd sf sl
      obtain ⟨op2, ob2, qb2, LX, HB2, hsz8⟩ := hRn
      have hHeld := hHn
      clear hHn
      try simp only [Act.put, ls0, ls1, ls2]
      refine wpAnyH_done (by kernel_rfl) ?_ _
      exact JQ.mk ⟨g, cap, _, _, _, _, _, _, _, _, _, _, _, _, _, _, _, _, _, _, _, _, _, _, _, _, _, _, _, _, _, _, _, _, _, _, _, _, _, _, _, _, _, _, _, _, _, _, _, _, _, _, rfl, op2, ob2, qb2, LX, HB2⟩
  · rintro a wj ⟨g, cap, u5, u6, u7, u11, u12, u13, u14, u15, u16, u17, u18, u19, u20, u21, u22, u23, u24, u25, u26, u27, u28, u29, u30, u31, u32, u33, u34, u35, u36, u37, u38, u39, u40, u41, u42, u43, u44, u45, u46, u47, u48, u49, u50, u51, u52, u53, u54, u55, u56, u57, rfl, op2, ob2, qb2, LX, HB2⟩
    have hbj := blk_lt ob2.out
    have hszj := HB2.out.size
    have ql : w1.heap.size < wj.heap.size := blk_lt qb2.out
    have qv0 := cbk qb2.out 0 (.int .i64 (k : Int)) rfl
    have qv1 := cbk qb2.out 1 (.int .i64 s1) rfl
    have qv2 := cbk qb2.out 2 (.int .i64 d1) rfl
    have qv3 := cbk qb2.out 3 (.int .i64 l1) rfl
    have qv4 := cbk qb2.out 4 (.int .i64 x.words) rfl
    have qv5 := cbk qb2.out 5 (.int .i64 x.depth) rfl
    go_wp2_with fail
    have HDW : Kp (RowAt wj 1 (.slice ra l.length rc) l.length (u32s l)) := ⟨HDV.out.below HB2.out⟩
    refine JQ.region (fun a wk => ∃ (gd dc nq : Nat) , a = ⟨#[.agg #[.slice pa C.parts.length pc, .slice ca C.chans.length cc, .int .i64 C.l0, .slice a0 C.w0.length c0, .int .i64 C.l1, .slice a1 C.w1.length c1], .int .i64 (k : Int), .int .u32 own, .slice ra l.length rc, .pointer (some ⟨w.heap.size, 0, none⟩), u5, u6, u7, .pointer none, .pointer (some ⟨w1.heap.size, 0, none⟩), .pointer (some ⟨w1.heap.size + 1 + 1, 0, none⟩), u11, u12, u13, u14, u15, u16, u17, u18, u19, u20, u21, u22, u23, u24, u25, u26, u27, u28, u29, .agg (⟨k, s1, d1, l1, x.words, x.depth⟩ : Qu).cells, .slice ra l.length rc, .slice (some ⟨gd, 0, none⟩) l.length dc, FV 90 #[.pointer (some ⟨nq, 0, none⟩), .pointer (some ⟨(nq + 1), 0, none⟩)], u34, u35, u36, u37, u38, u39, u40, u41, u42, u43, u44, u45, u46, u47, u48, u49, u50, u51, u52, u53, u54, u55, u56, u57], []⟩ ∧ Kp (wk.heap[w1.heap.size + 1]? = some (.cells #[.int .u32 own, .slice (some ⟨g, 0, none⟩) (0 + 1) cap] 132 (0, 0))) ∧ Kp (wk.heap[w1.heap.size + 1 + 1]? = some (.cells #[.pointer (some ⟨w1.heap.size + 1, 0, none⟩)] 75 (0, 0))) ∧ Kp (wk.heap[w1.heap.size]? = some (.cells #[.int .i64 (k : Int), .int .i64 s1, .int .i64 d1, .int .i64 l1, .int .i64 x.words, .int .i64 x.depth] 124 (0, 0))) ∧ Kp (wk.ownsRow (bs) 133 1 (.slice (some ⟨g, 0, none⟩) (0 + 1) cap) (0 + 1) ([FV 62 #[.pointer (some ⟨w1.heap.size + 1 + 1, 0, none⟩), .pointer (some ⟨w1.heap.size, 0, none⟩)]])) ∧ Kp (Below w.heap.size w wk) ∧ Kp (wk.ownsRow (wj.heap.size) 41 1 (.slice (some ⟨gd, 0, none⟩) l.length dc) (l.length) (u32s l)) ∧ Kp (wk.heap[nq]? = some (.cells #[.int .i64 (k : Int), .int .i64 s1, .int .i64 d1, .int .i64 l1, .int .i64 x.words, .int .i64 x.depth] 124 (0, 0))) ∧ Kp (wk.heap[nq + 1]? = some (.cells #[.slice (some ⟨gd, 0, none⟩) l.length dc] 44 (0, 0)))) ?_ ?_
    · refine held_start_gen (S := (fun w' : World => ButB (wj.heap.size) [] wj w' ∧ ∀ bb o, bb < wj.heap.size → w'.cell? ⟨bb, o, none⟩ = wj.cell? ⟨bb, o, none⟩)) (by kernel_rfl) (fun wz : World => Kp (wz.heap[w1.heap.size + 1]? = some (.cells #[.int .u32 own, .slice (some ⟨g, 0, none⟩) (0 + 1) cap] 132 (0, 0))) ∧ Kp (wz.heap[w1.heap.size + 1 + 1]? = some (.cells #[.pointer (some ⟨w1.heap.size + 1, 0, none⟩)] 75 (0, 0))) ∧ Kp (wz.heap[w1.heap.size]? = some (.cells #[.int .i64 (k : Int), .int .i64 s1, .int .i64 d1, .int .i64 l1, .int .i64 x.words, .int .i64 x.depth] 124 (0, 0))) ∧ Kp (wz.ownsRow (bs) 133 1 (.slice (some ⟨g, 0, none⟩) (0 + 1) cap) (0 + 1) ([FV 62 #[.pointer (some ⟨w1.heap.size + 1 + 1, 0, none⟩), .pointer (some ⟨w1.heap.size, 0, none⟩)]])) ∧ Kp (Below w.heap.size w wz) ∧ Kp (RowAt wz 1 (.slice ra l.length rc) l.length (u32s l)) ∧ wj.heap.size ≤ wz.heap.size) ⟨⟨blk_dr op2.out⟩, ⟨blk_dr ob2.out⟩, ⟨blk_dr qb2.out⟩, ⟨LX.out⟩, ⟨below_dr HB2.out⟩, ⟨HDW.out.below (below_dr (Below.refl _ _))⟩, Nat.le_refl _⟩ (sx_of0 (ButB.dr (ButB.refl _ (by omega)))) (fun wd0 hRn hHeld => ?_)
      clear op2 ob2 qb2 LX HB2 HDW
      obtain ⟨op2, ob2, qb2, LX, HB2, HDW, hsz⟩ := hRn
      refine wtk 0 ?_ rfl (.inl ⟨by rfl, ?_⟩) ?_
      rotate_left 1
      · (intro w hSw; go_simp; try with_reducible rfl)
      try simp only [Act.put, ls0, ls1, ls2]
      refine wtk 1 ?_ rfl (.inl ⟨by rfl, ?_⟩) ?_
      rotate_left 1
      · (intro w hSw; go_simp; try with_reducible rfl)
      try simp only [Act.put, ls0, ls1, ls2]
      refine wrd [2] ?_
      refine (arc rfl (fun K hK => ?_) arn)
      go_simp
      go_at_call 52
      refine (clone_any ra l.length rc (u32s l) hl.1 (u32s_one _) _ HDW.out (by omega)).mono ?_
      rintro e w9 ⟨gd, dc, rfl, hrow, hb, hgd⟩
      try go_wp2_with fail
      refine out_gen hK _ _ (fun wz : World => Kp (wz.heap[w1.heap.size + 1]? = some (.cells #[.int .u32 own, .slice (some ⟨g, 0, none⟩) (0 + 1) cap] 132 (0, 0))) ∧ Kp (wz.heap[w1.heap.size + 1 + 1]? = some (.cells #[.pointer (some ⟨w1.heap.size + 1, 0, none⟩)] 75 (0, 0))) ∧ Kp (wz.heap[w1.heap.size]? = some (.cells #[.int .i64 (k : Int), .int .i64 s1, .int .i64 d1, .int .i64 l1, .int .i64 x.words, .int .i64 x.depth] 124 (0, 0))) ∧ Kp (wz.ownsRow (bs) 133 1 (.slice (some ⟨g, 0, none⟩) (0 + 1) cap) (0 + 1) ([FV 62 #[.pointer (some ⟨w1.heap.size + 1 + 1, 0, none⟩), .pointer (some ⟨w1.heap.size, 0, none⟩)]])) ∧ Kp (Below w.heap.size w wz) ∧ Kp (RowAt wz 1 (.slice ra l.length rc) l.length (u32s l)) ∧ Kp (wz.ownsRow (wj.heap.size) 41 1 (.slice (some ⟨gd, 0, none⟩) l.length dc) (l.length) (u32s l)) ∧ wd0.heap.size ≤ wz.heap.size) ⟨⟨blk_below op2.out hb⟩, ⟨blk_below ob2.out hb⟩, ⟨blk_below qb2.out hb⟩, ⟨own_below LX.out hb⟩, ⟨below_call HB2.out hb⟩, ⟨HDW.out.below hb⟩, ⟨own_base hrow.out (by omega)⟩, hb.size⟩ (sx_of0 (ButB.call (And.left hHeld) hb)) (fun wd1 hRn hHn => ?_)
      clear hK K hHeld op2 ob2 qb2 LX HB2 HDW hb hrow
      obtain ⟨op2, ob2, qb2, LX, HB2, HDW, DR, hsz1⟩ := hRn
      have hHeld := hHn
      clear hHn
      try simp only [Act.put, ls0, ls1, ls2]
      refine wrd [3] ?_
      refine (arc rfl (fun K hK => ?_) arn)
      go_simp
      go_at_call 64
      refine (message_any (⟨k, s1, d1, l1, x.words, x.depth⟩ : Qu) (some ⟨gd, 0, none⟩) l.length dc _).mono ?_
      rintro e w9 ⟨rfl, rfl⟩
      have hb := below_al (below_al (Below.refl (wd1).heap.size wd1) (.cells (⟨k, s1, d1, l1, x.words, x.depth⟩ : Qu).cells 124)) (.cells #[.slice (some ⟨gd, 0, none⟩) l.length dc] 44)
      try go_wp2_with fail
      refine out_gen hK _ _ (fun wz : World => Kp (wz.heap[w1.heap.size + 1]? = some (.cells #[.int .u32 own, .slice (some ⟨g, 0, none⟩) (0 + 1) cap] 132 (0, 0))) ∧ Kp (wz.heap[w1.heap.size + 1 + 1]? = some (.cells #[.pointer (some ⟨w1.heap.size + 1, 0, none⟩)] 75 (0, 0))) ∧ Kp (wz.heap[w1.heap.size]? = some (.cells #[.int .i64 (k : Int), .int .i64 s1, .int .i64 d1, .int .i64 l1, .int .i64 x.words, .int .i64 x.depth] 124 (0, 0))) ∧ Kp (wz.ownsRow (bs) 133 1 (.slice (some ⟨g, 0, none⟩) (0 + 1) cap) (0 + 1) ([FV 62 #[.pointer (some ⟨w1.heap.size + 1 + 1, 0, none⟩), .pointer (some ⟨w1.heap.size, 0, none⟩)]])) ∧ Kp (Below w.heap.size w wz) ∧ Kp (RowAt wz 1 (.slice ra l.length rc) l.length (u32s l)) ∧ Kp (wz.ownsRow (wj.heap.size) 41 1 (.slice (some ⟨gd, 0, none⟩) l.length dc) (l.length) (u32s l)) ∧ Kp (wz.heap[wd1.heap.size]? = some (.cells #[.int .i64 (k : Int), .int .i64 s1, .int .i64 d1, .int .i64 l1, .int .i64 x.words, .int .i64 x.depth] 124 (0, 0))) ∧ Kp (wz.heap[wd1.heap.size + 1]? = some (.cells #[.slice (some ⟨gd, 0, none⟩) l.length dc] 44 (0, 0))) ∧ wd1.heap.size ≤ wz.heap.size) ⟨⟨blk_below op2.out hb⟩, ⟨blk_below ob2.out hb⟩, ⟨blk_below qb2.out hb⟩, ⟨own_below LX.out hb⟩, ⟨below_call HB2.out hb⟩, ⟨HDW.out.below hb⟩, ⟨own_below DR.out hb⟩, ⟨blk_al (blk_new _ _) _⟩, ⟨blk_at (by simp) _⟩, hb.size⟩ (sx_of0 (ButB.call (And.left hHeld) hb)) (fun wd2 hRn hHn => ?_)
      clear hK K hHeld op2 ob2 qb2 LX HB2 HDW DR hb
      obtain ⟨op2, ob2, qb2, LX, HB2, HDW, DR, MQ, MD, hsz2⟩ := hRn
      have hHeld := hHn
      clear hHn
      try simp only [Act.put, ls0, ls1, ls2]
      refine wpAnyH_done (by kernel_rfl) ?_ _
      exact JQ.mk ⟨gd, dc, wd1.heap.size, rfl, op2, ob2, qb2, LX, HB2, DR, MQ, MD⟩
    · rintro a wk ⟨gd, dc, nq, rfl, op2, ob2, qb2, LX, HB2, DR, MQ, MD⟩
      obtain ⟨_, ⟨hbad, _⟩ | ⟨gd', dc', cur, he9, hge9, hgd9, hnc9, hcm9, hcs9, htk9⟩⟩ := DR.out
      · cases hbad
      have hgc9 : ∀ i, i < l.length → cur[i]? = (u32s l)[i]? := fun i hi => by
        rw [← htk9, List.getElem?_take, if_pos (by omega), Array.getElem?_toList]
      cases he9
      have hs4 := HB2.out.size
      have hbk := LX.out.lt g rfl
      have lq4 := blk_lt qb2.out
      have HST := Kp.mk (message_stops 2 (by omega) nq (nq + 1) w.heap.size gd dc (⟨k, s1, d1, l1, x.words, x.depth⟩ : Qu) l (by omega) hcb cur (0, 0) wk MQ.out MD.out hgd9 hgc9)
      clear hge9 hgd9 hnc9 hcm9 hcs9 htk9 hgc9
      go_wp2_with fail
      refine wp_rangeS rfl (enters_of Tryz.func90 (by kernel_rfl) rfl) HST.out KeepU.trans (KeepU.put hs4) (fun _ => rfl)
        (SendI w.heap.size (w1.heap.size + 1) (w1.heap.size) (w1.heap.size + 1 + 1) bs own (⟨k, s1, d1, l1, x.words, x.depth⟩ : Qu) w) (fun _ _ _ => False)
        (fun s A B row hs hg hr => SendI_calm hs (B := wk.heap.size) hs4 (Nat.le_refl _) hg hr)
        (fun c s A B row hs hg hr => hs)
        ⟨g, cap, [], rfl, op2.out, LX.out, (fun i p x hp _ => by simp at hp), ob2.out, qb2.out, HB2.out⟩
        (fun y a' W => ∃ a b, a' = { tmps := #[.agg #[.slice pa C.parts.length pc, .slice ca C.chans.length cc, .int .i64 C.l0, .slice a0 C.w0.length c0, .int .i64 C.l1, .slice a1 C.w1.length c1], .int .i64 (k : Int), .int .u32 own, .slice ra l.length rc, .pointer (some ⟨w.heap.size, 0, none⟩), u5, u6, u7, .pointer none, .pointer (some ⟨w1.heap.size, 0, none⟩), .pointer (some ⟨w1.heap.size + 1 + 1, 0, none⟩), .pointer (some ⟨a, 0, none⟩), .pointer (some ⟨b, 0, none⟩), u13, u14, u15, u16, u17, u18, u19, u20, u21, u22, u23, u24, u25, u26, u27, u28, u29, .agg (⟨k, s1, d1, l1, x.words, x.depth⟩ : Qu).cells, .slice ra l.length rc, .slice (some ⟨gd, 0, none⟩) l.length dc, FV 90 #[.pointer (some ⟨nq, 0, none⟩), .pointer (some ⟨(nq + 1), 0, none⟩)], .int .i64 y.1, .int .u32 y.2, u36, u37, u38, u39, u40, u41, u42, u43, u44, u45, u46, u47, u48, u49, u50, u51, u52, u53, u54, u55, u56, u57], defers := [] } ∧ (w.heap.size ≤ a ∧ w.heap.size ≤ b) ∧ W.heap[a]? = some (.cells #[.int .i64 y.1] 3 (0, 0)) ∧ W.heap[b]? = some (.cells #[.int .u32 y.2] 41 (0, 0)))
        (fun x a' _ A B row hs hg hr => hs.imp fun a h => h.imp fun b h => ⟨h.1, h.2.1, blk_calm h.2.2.1 hg hr, blk_calm h.2.2.2 hg hr⟩) ?assign ?body ?done ?stop
      case assign =>
        intro li pre y W K hi0 hK
        have hI0 := Kp.mk hi0
        have hnW : w.heap.size ≤ W.heap.size := by
          obtain ⟨_, _, _, _, _, _, _, _, _, hb⟩ := hi0
          exact hb.size
        clear hi0
        gi_wp2_with fail
        refine hK _ _ ?_ ?_ ?_ ⟨W.heap.size, W.heap.size + 1, rfl, ⟨hnW, by omega⟩, blk_al (blk_new _ _) _, blk_at (by simp) _⟩
        · exact kf_al2 _ _ _ _
        · exact KeepU.of_below (by omega) (below_al (below_al (Below.refl _ _) _) _)
        · exact SendI_calm (SendI_calm hI0.out (B := w.heap.size) (Nat.le_refl _) (Nat.le_refl _) (World.grownBy_alloc _ _ none) (fun r e => by cases e)) (B := w.heap.size) (Nat.le_refl _) (Nat.le_refl _) (World.grownBy_alloc _ _ none) (fun r e => by cases e)
      case body =>
        rintro li pre y a' W hi ⟨a, b, rfl, hab, hA, hX⟩ hlt
        obtain ⟨g1, cap1, ps, hps, h2, h3, h4, h5, h6, h7⟩ := hi
        have op3 := Kp.mk h2
        have LX3 := Kp.mk h3
        have BX3 := Kp.mk h4
        have ob3 := Kp.mk h5
        have qb3 := Kp.mk h6
        have HB3 := Kp.mk h7
        have hszW := h7.size
        have hbW := h3.lt g1 rfl
        have ocW := cbk h5 0 (.pointer (some ⟨w1.heap.size + 1, 0, none⟩)) rfl
        have olW := blk_lt h5
        have AX3 := Kp.mk hA
        have XX3 := Kp.mk hX
        have RN3 : Kp (∀ t : TypeId, 133 ≠ t → 132 ≠ t → Rnd t w.heap.size wk.heap.size W W) := ⟨fun t _ _ => Rnd.refl _ _ _ _⟩
        clear h2 h3 h4 h5 h6 h7 hA hX op2 LX ob2 qb2 HB2 DR MQ MD HST
        gi_wp2_with fail
        refine JQ.regionIn (fun _ wj => ∃ g2 cap2 : Nat, Kp (wj.heap[w1.heap.size + 1]? = some (.cells #[.int .u32 own, .slice (some ⟨g2, 0, none⟩) (pre.length + 1 + 1) cap2] 132 (0, 0))) ∧ Kp (wj.heap[w1.heap.size + 1 + 1]? = some (.cells #[.pointer (some ⟨w1.heap.size + 1, 0, none⟩)] 75 (0, 0))) ∧ Kp (wj.heap[w1.heap.size]? = some (.cells #[.int .i64 (k : Int), .int .i64 s1, .int .i64 d1, .int .i64 l1, .int .i64 x.words, .int .i64 x.depth] 124 (0, 0))) ∧ Kp (wj.ownsRow (bs) 133 1 (.slice (some ⟨g2, 0, none⟩) (pre.length + 1 + 1) cap2) (pre.length + 1 + 1) (((FV 62 #[.pointer (some ⟨w1.heap.size + 1 + 1, 0, none⟩), .pointer (some ⟨w1.heap.size, 0, none⟩)]) :: ps.map fun p : Nat × Nat => FV 65 #[.pointer (some ⟨p.1, 0, none⟩), .pointer (some ⟨p.2, 0, none⟩)]) ++ [FV 65 #[.pointer (some ⟨a, 0, none⟩), .pointer (some ⟨b, 0, none⟩)]])) ∧ Kp (Below w.heap.size w wj) ∧ Kp (StepBoxes wj w.heap.size ps pre) ∧ Kp (wj.heap[a]? = some (.cells #[.int .i64 y.1] 3 (0, 0))) ∧ Kp (wj.heap[b]? = some (.cells #[.int .u32 y.2] 41 (0, 0))) ∧ Kp (∀ t : TypeId, 133 ≠ t → 132 ≠ t → Rnd t w.heap.size wk.heap.size W wj)) ?_ ?_
        · refine held_start_in (S := (fun w' : World => ButB (bs) [w1.heap.size + 1] W w' ∧ ∀ bb o, bb < bs → bb ≠ w1.heap.size + 1 → w'.cell? ⟨bb, o, none⟩ = W.cell? ⟨bb, o, none⟩)) (by kernel_rfl) (by kernel_rfl) (fun wz : World => Kp (wz.heap[w1.heap.size + 1]? = some (.cells #[.int .u32 own, .slice (some ⟨g1, 0, none⟩) (pre.length + 1) cap1] 132 (0, 0))) ∧ Kp (wz.heap[w1.heap.size + 1 + 1]? = some (.cells #[.pointer (some ⟨w1.heap.size + 1, 0, none⟩)] 75 (0, 0))) ∧ Kp (wz.heap[w1.heap.size]? = some (.cells #[.int .i64 (k : Int), .int .i64 s1, .int .i64 d1, .int .i64 l1, .int .i64 x.words, .int .i64 x.depth] 124 (0, 0))) ∧ Kp (wz.ownsRow (bs) 133 1 (.slice (some ⟨g1, 0, none⟩) (pre.length + 1) cap1) (pre.length + 1) ((FV 62 #[.pointer (some ⟨w1.heap.size + 1 + 1, 0, none⟩), .pointer (some ⟨w1.heap.size, 0, none⟩)] :: ps.map fun p : Nat × Nat => FV 65 #[.pointer (some ⟨p.1, 0, none⟩), .pointer (some ⟨p.2, 0, none⟩)]))) ∧ Kp (Below w.heap.size w wz) ∧ Kp (StepBoxes wz w.heap.size ps pre) ∧ Kp (wz.heap[a]? = some (.cells #[.int .i64 y.1] 3 (0, 0))) ∧ Kp (wz.heap[b]? = some (.cells #[.int .u32 y.2] 41 (0, 0))) ∧ Kp (∀ t : TypeId, 133 ≠ t → 132 ≠ t → Rnd t w.heap.size wk.heap.size W wz) ∧ W.heap.size ≤ wz.heap.size) ⟨⟨blk_dr op3.out⟩, ⟨blk_dr ob3.out⟩, ⟨blk_dr qb3.out⟩, ⟨LX3.out⟩, ⟨below_dr HB3.out⟩, ⟨BX3.out.map fun _ _ _ _ _ _ h => blk_dr h⟩, ⟨blk_dr AX3.out⟩, ⟨blk_dr XX3.out⟩, ⟨fun t t1 t2 => (RN3.out t t1 t2).trans (Rnd.dr _)⟩, Nat.le_refl _⟩ (sx_of1 (ButB.dr (ButB.refl _ (by omega)))) (fun wd0 hRn hHeld => ?_)
          clear op3 ob3 qb3 LX3 HB3 BX3 AX3 XX3 RN3
          obtain ⟨op3, ob3, qb3, LX3, HB3, BX3, AX3, XX3, RN3, hsz⟩ := hRn
          refine wtk 0 ?_ rfl (.inl ⟨by rfl, ?_⟩) ?_
          rotate_left 1
          · (intro w hSw; go_simp; try with_reducible rfl)
          try simp only [Act.put, ls0, ls1, ls2]
          refine wtk 1 ?_ rfl (.inl ⟨by rfl, ?_⟩) ?_
          rotate_left 1
          · (intro w hSw; go_simp; try with_reducible rfl)
          try simp only [Act.put, ls0, ls1, ls2]
          refine wtk 2 ?_ rfl (.inl ⟨by rfl, ?_⟩) ?_
          rotate_left 1
          · (intro w hSw; go_simp; try with_reducible rfl)
          try simp only [Act.put, ls0, ls1, ls2]
          refine wtk 3 ?_ rfl (.inl ⟨by rfl, ?_⟩) ?_
          rotate_left 1
          · (intro w hSw; go_simp; try with_reducible rfl)
          try simp only [Act.put, ls0, ls1, ls2]
          refine wtk 5 ?_ rfl (.inl ⟨by rfl, ?_⟩) ?_
          rotate_left 1
          · (intro w hSw; go_simp; try with_reducible rfl)
          try simp only [Act.put, ls0, ls1, ls2]
          refine wrd [4, 6] ?_
          refine (arc rfl (fun K hK => ?_) (arc rfl (fun K hK => ?_) arn))
          · have sd1 := cbk op3.out 1 (.slice (some ⟨g1, 0, none⟩) (pre.length + 1) cap1) rfl
            have sl := blk_lt op3.out
            go_simp
            try go_wp2_with fail
            refine out_gen hK _ _ (fun wz : World => Kp (wz.heap[w1.heap.size + 1]? = some (.cells #[.int .u32 own, .slice (some ⟨g1, 0, none⟩) (pre.length + 1) cap1] 132 (0, 0))) ∧ Kp (wz.heap[w1.heap.size + 1 + 1]? = some (.cells #[.pointer (some ⟨w1.heap.size + 1, 0, none⟩)] 75 (0, 0))) ∧ Kp (wz.heap[w1.heap.size]? = some (.cells #[.int .i64 (k : Int), .int .i64 s1, .int .i64 d1, .int .i64 l1, .int .i64 x.words, .int .i64 x.depth] 124 (0, 0))) ∧ Kp (wz.ownsRow (bs) 133 1 (.slice (some ⟨g1, 0, none⟩) (pre.length + 1) cap1) (pre.length + 1) ((FV 62 #[.pointer (some ⟨w1.heap.size + 1 + 1, 0, none⟩), .pointer (some ⟨w1.heap.size, 0, none⟩)] :: ps.map fun p : Nat × Nat => FV 65 #[.pointer (some ⟨p.1, 0, none⟩), .pointer (some ⟨p.2, 0, none⟩)]))) ∧ Kp (Below w.heap.size w wz) ∧ Kp (StepBoxes wz w.heap.size ps pre) ∧ Kp (wz.heap[a]? = some (.cells #[.int .i64 y.1] 3 (0, 0))) ∧ Kp (wz.heap[b]? = some (.cells #[.int .u32 y.2] 41 (0, 0))) ∧ Kp (∀ t : TypeId, 133 ≠ t → 132 ≠ t → Rnd t w.heap.size wk.heap.size W wz) ∧ wd0.heap.size ≤ wz.heap.size) ⟨⟨op3.out⟩, ⟨ob3.out⟩, ⟨qb3.out⟩, ⟨LX3.out⟩, ⟨HB3.out⟩, ⟨BX3.out⟩, ⟨AX3.out⟩, ⟨XX3.out⟩, ⟨RN3.out⟩, Nat.le_refl _⟩ (sx_of1 ((And.left hHeld))) (fun wd21 hRn hHn => ?_)
            clear hK K hHeld op3 ob3 qb3 LX3 HB3 BX3 AX3 XX3 RN3  sd1 sl
            obtain ⟨op3, ob3, qb3, LX3, HB3, BX3, AX3, XX3, RN3, hsz21⟩ := hRn
            have hHeld := hHn
            clear hHn
            try simp only [Act.put, ls0, ls1, ls2]
            refine wrd [6] ?_
            refine (arc rfl (fun K hK => ?_) arn)
            have ge_qa : W.heap.size ≤ wd21.heap.size := (And.left hHeld).size
            go_simp
            try go_wp2_with fail
            refine out_gen hK _ _ (fun wz : World => Kp (wz.heap[w1.heap.size + 1]? = some (.cells #[.int .u32 own, .slice (some ⟨g1, 0, none⟩) (pre.length + 1) cap1] 132 (0, 0))) ∧ Kp (wz.heap[w1.heap.size + 1 + 1]? = some (.cells #[.pointer (some ⟨w1.heap.size + 1, 0, none⟩)] 75 (0, 0))) ∧ Kp (wz.heap[w1.heap.size]? = some (.cells #[.int .i64 (k : Int), .int .i64 s1, .int .i64 d1, .int .i64 l1, .int .i64 x.words, .int .i64 x.depth] 124 (0, 0))) ∧ Kp (wz.ownsRow (bs) 133 1 (.slice (some ⟨g1, 0, none⟩) (pre.length + 1) cap1) (pre.length + 1) ((FV 62 #[.pointer (some ⟨w1.heap.size + 1 + 1, 0, none⟩), .pointer (some ⟨w1.heap.size, 0, none⟩)] :: ps.map fun p : Nat × Nat => FV 65 #[.pointer (some ⟨p.1, 0, none⟩), .pointer (some ⟨p.2, 0, none⟩)]))) ∧ Kp (Below w.heap.size w wz) ∧ Kp (StepBoxes wz w.heap.size ps pre) ∧ Kp (wz.heap[a]? = some (.cells #[.int .i64 y.1] 3 (0, 0))) ∧ Kp (wz.heap[b]? = some (.cells #[.int .u32 y.2] 41 (0, 0))) ∧ Kp (∀ t : TypeId, 133 ≠ t → 132 ≠ t → Rnd t w.heap.size wk.heap.size W wz) ∧ Kp (wz.heap[wd21.heap.size]? = some (.cells #[FV 65 #[.pointer (some ⟨a, 0, none⟩), .pointer (some ⟨b, 0, none⟩)]] 133 (0, 0))) ∧ wd21.heap.size < wz.heap.size) ⟨⟨blk_al op3.out _⟩, ⟨blk_al ob3.out _⟩, ⟨blk_al qb3.out _⟩, ⟨LX3.out.alloc _⟩, ⟨below_al HB3.out _⟩, ⟨BX3.out.map fun _ _ _ _ _ _ h => blk_al h _⟩, ⟨blk_al AX3.out _⟩, ⟨blk_al XX3.out _⟩, ⟨fun t t1 t2 => (RN3.out t t1 t2).trans (Rnd.al (by omega) _)⟩, ⟨blk_new wd21 _⟩, (by simp)⟩ (sx_of1 (ButB.al (And.left hHeld) _)) (fun wd22 hRn hHn => ?_)
            clear hK K hHeld op3 ob3 qb3 LX3 HB3 BX3 AX3 XX3 RN3
            obtain ⟨op3, ob3, qb3, LX3, HB3, BX3, AX3, XX3, RN3, qa, hsz22⟩ := hRn
            have hHeld := hHn
            clear hHn
            try simp only [Act.put, ls0, ls1, ls2]
            have lt_qa := blk_lt qa.out
            refine wrd [7] ?_
            refine (arc rfl (fun K hK => ?_) arn)
            have hws := (And.left hHeld).size
            refine step_append_lies _ (by rfl) _ _ 130 (by rfl) (bs) 133 i0 .nilFunc 1 8 Tryz.underlying130 hi0 hz0 hz1 hz2 (by rfl) (by decide) _ _ _ (by rfl) LX3.out _ 1 _ [FV 65 #[.pointer (some ⟨a, 0, none⟩), .pointer (some ⟨b, 0, none⟩)]] (by rfl) rfl (World.news_of_block qa.out) (by simp [Value.oneCell', FV]) (by omega) (by unfold maxLen; omega) (by omega) (by have := hws; omega) _ rfl ?_
            intro g2 cap2 w9 hown hgrow hat hlt
            refine out_gen hK _ _ (fun wz : World => Kp (wz.heap[w1.heap.size + 1]? = some (.cells #[.int .u32 own, .slice (some ⟨g1, 0, none⟩) (pre.length + 1) cap1] 132 (0, 0))) ∧ Kp (wz.heap[w1.heap.size + 1 + 1]? = some (.cells #[.pointer (some ⟨w1.heap.size + 1, 0, none⟩)] 75 (0, 0))) ∧ Kp (wz.heap[w1.heap.size]? = some (.cells #[.int .i64 (k : Int), .int .i64 s1, .int .i64 d1, .int .i64 l1, .int .i64 x.words, .int .i64 x.depth] 124 (0, 0))) ∧ Kp (wz.ownsRow (bs) 133 1 (.slice (some ⟨g2, 0, none⟩) (pre.length + 1 + 1) cap2) (pre.length + 1 + 1) ((FV 62 #[.pointer (some ⟨w1.heap.size + 1 + 1, 0, none⟩), .pointer (some ⟨w1.heap.size, 0, none⟩)] :: ps.map fun p : Nat × Nat => FV 65 #[.pointer (some ⟨p.1, 0, none⟩), .pointer (some ⟨p.2, 0, none⟩)]) ++ [FV 65 #[.pointer (some ⟨a, 0, none⟩), .pointer (some ⟨b, 0, none⟩)]])) ∧ Kp (Below w.heap.size w wz) ∧ Kp (StepBoxes wz w.heap.size ps pre) ∧ Kp (wz.heap[a]? = some (.cells #[.int .i64 y.1] 3 (0, 0))) ∧ Kp (wz.heap[b]? = some (.cells #[.int .u32 y.2] 41 (0, 0))) ∧ Kp (∀ t : TypeId, 133 ≠ t → 132 ≠ t → Rnd t w.heap.size wk.heap.size W wz) ∧ wd22.heap.size ≤ wz.heap.size) ⟨⟨blk_grownR op3.out LX3.out hgrow (by first | (intro hq; have := (LX3.out.lt _ hq).1; omega) | (intro hq; simp [Value.ownBlock] at hq; omega) | (intro hq; have := hgl _ hq; omega))⟩, ⟨blk_grownR ob3.out LX3.out hgrow (by first | (intro hq; have := (LX3.out.lt _ hq).1; omega) | (intro hq; simp [Value.ownBlock] at hq; omega) | (intro hq; have := hgl _ hq; omega))⟩, ⟨blk_grownR qb3.out LX3.out hgrow (by first | (intro hq; have := (LX3.out.lt _ hq).1; omega) | (intro hq; simp [Value.ownBlock] at hq; omega) | (intro hq; have := hgl _ hq; omega))⟩, ⟨hown⟩, ⟨below_own2 HB3.out (by have := HB3.out.size; omega) (by omega) LX3.out hgrow⟩, ⟨BX3.out.map fun _ _ _ _ _ ht h => blk_grownT h LX3.out hgrow (by rcases ht with rfl | rfl <;> decide)⟩, ⟨blk_grownT AX3.out LX3.out hgrow (by decide)⟩, ⟨blk_grownT XX3.out LX3.out hgrow (by decide)⟩, ⟨fun t t1 t2 => (RN3.out t t1 t2).trans (Rnd.own LX3.out t1 (by omega) (by omega) hgrow)⟩, hgrow.size⟩ (sx_of1 (ButB.grown (And.left hHeld) LX3.out hgrow (by omega))) (fun wd23 hRn hHn => ?_)
            clear hK K hHeld op3 ob3 qb3 LX3 HB3 BX3 AX3 XX3 RN3 qa hown hgrow hat hlt hws
            obtain ⟨op3, ob3, qb3, LX3, HB3, BX3, AX3, XX3, RN3, hsz23⟩ := hRn
            have hHeld := hHn
            clear hHn
            try simp only [Act.put, ls0, ls1, ls2]
            try simp only [Nat.zero_add]
            refine wtk 8 ?_ rfl (.inl ⟨by rfl, ?_⟩) ?_
            rotate_left 1
            · (intro w hSw; go_simp; try with_reducible rfl)
            try simp only [Act.put, ls0, ls1, ls2]
            refine wtk 9 ?_ rfl (.inl ⟨by rfl, ?_⟩) ?_
            rotate_left 1
            · (intro w hSw; go_simp; try with_reducible rfl)
            try simp only [Act.put, ls0, ls1, ls2]
            refine wrd [10] ?_
            refine (arc rfl (fun K hK => ?_) arn)
            have sd := cbk op3.out 1 (.slice (some ⟨g1, 0, none⟩) (pre.length + 1) cap1) rfl
            have sf := frozen_blk op3.out 1
            have sl := blk_lt op3.out
            go_simp
            try go_wp2_with fail
            refine out_gen hK _ _ (fun wz : World => Kp (wz.heap[w1.heap.size + 1]? = some (.cells #[.int .u32 own, .slice (some ⟨g2, 0, none⟩) (pre.length + 1 + 1) cap2] 132 (0, 0))) ∧ Kp (wz.heap[w1.heap.size + 1 + 1]? = some (.cells #[.pointer (some ⟨w1.heap.size + 1, 0, none⟩)] 75 (0, 0))) ∧ Kp (wz.heap[w1.heap.size]? = some (.cells #[.int .i64 (k : Int), .int .i64 s1, .int .i64 d1, .int .i64 l1, .int .i64 x.words, .int .i64 x.depth] 124 (0, 0))) ∧ Kp (wz.ownsRow (bs) 133 1 (.slice (some ⟨g2, 0, none⟩) (pre.length + 1 + 1) cap2) (pre.length + 1 + 1) ((FV 62 #[.pointer (some ⟨w1.heap.size + 1 + 1, 0, none⟩), .pointer (some ⟨w1.heap.size, 0, none⟩)] :: ps.map fun p : Nat × Nat => FV 65 #[.pointer (some ⟨p.1, 0, none⟩), .pointer (some ⟨p.2, 0, none⟩)]) ++ [FV 65 #[.pointer (some ⟨a, 0, none⟩), .pointer (some ⟨b, 0, none⟩)]])) ∧ Kp (Below w.heap.size w wz) ∧ Kp (StepBoxes wz w.heap.size ps pre) ∧ Kp (wz.heap[a]? = some (.cells #[.int .i64 y.1] 3 (0, 0))) ∧ Kp (wz.heap[b]? = some (.cells #[.int .u32 y.2] 41 (0, 0))) ∧ Kp (∀ t : TypeId, 133 ≠ t → 132 ≠ t → Rnd t w.heap.size wk.heap.size W wz) ∧ wd23.heap.size ≤ wz.heap.size) ⟨⟨(blk_set op3.out 1 _).trans rfl⟩, ⟨blk_set_ne (p := ⟨w1.heap.size + 1, 1, none⟩) ob3.out (by show w1.heap.size + 1 + 1 ≠ w1.heap.size + 1; omega) _⟩, ⟨blk_set_ne (p := ⟨w1.heap.size + 1, 1, none⟩) qb3.out (by show w1.heap.size ≠ w1.heap.size + 1; omega) _⟩, ⟨own_set_ne LX3.out (p := ⟨w1.heap.size + 1, 1, none⟩) (by show w1.heap.size + 1 < bs; omega) _⟩, ⟨HB3.out.setCell (p := ⟨w1.heap.size + 1, 1, none⟩) (by show w.heap.size ≤ w1.heap.size + 1; omega) _⟩, ⟨BX3.out.map fun _ _ _ _ _ ht h => blk_setT h op3.out (by rcases ht with rfl | rfl <;> decide) 1 _⟩, ⟨blk_setT AX3.out op3.out (by decide) 1 _⟩, ⟨blk_setT XX3.out op3.out (by decide) 1 _⟩, ⟨fun t t1 t2 => (RN3.out t t1 t2).trans (Rnd.set op3.out t2 (by omega) 1 _)⟩, (by simp [World.setCell])⟩ (sx_of1 (ButB.set (And.left hHeld) (p := ⟨w1.heap.size + 1, 1, none⟩) (by first | (left; simp; done) | (right; show _ ≤ w1.heap.size + 1; omega)) _)) (fun wd24 hRn hHn => ?_)
            clear hK K hHeld op3 ob3 qb3 LX3 HB3 BX3 AX3 XX3 RN3 sd sf sl
            obtain ⟨op3, ob3, qb3, LX3, HB3, BX3, AX3, XX3, RN3, hsz24⟩ := hRn
            have hHeld := hHn
            clear hHn
            try simp only [Act.put, ls0, ls1, ls2]
            refine wpAnyH_done (by kernel_rfl) ?_ _
            exact JQ.mk ⟨g2, cap2, op3, ob3, qb3, LX3, HB3, BX3, AX3, XX3, RN3⟩
          · have ge_qa : W.heap.size ≤ wd0.heap.size := (And.left hHeld).size
            go_simp
            try go_wp2_with fail
            refine out_gen hK _ _ (fun wz : World => Kp (wz.heap[w1.heap.size + 1]? = some (.cells #[.int .u32 own, .slice (some ⟨g1, 0, none⟩) (pre.length + 1) cap1] 132 (0, 0))) ∧ Kp (wz.heap[w1.heap.size + 1 + 1]? = some (.cells #[.pointer (some ⟨w1.heap.size + 1, 0, none⟩)] 75 (0, 0))) ∧ Kp (wz.heap[w1.heap.size]? = some (.cells #[.int .i64 (k : Int), .int .i64 s1, .int .i64 d1, .int .i64 l1, .int .i64 x.words, .int .i64 x.depth] 124 (0, 0))) ∧ Kp (wz.ownsRow (bs) 133 1 (.slice (some ⟨g1, 0, none⟩) (pre.length + 1) cap1) (pre.length + 1) ((FV 62 #[.pointer (some ⟨w1.heap.size + 1 + 1, 0, none⟩), .pointer (some ⟨w1.heap.size, 0, none⟩)] :: ps.map fun p : Nat × Nat => FV 65 #[.pointer (some ⟨p.1, 0, none⟩), .pointer (some ⟨p.2, 0, none⟩)]))) ∧ Kp (Below w.heap.size w wz) ∧ Kp (StepBoxes wz w.heap.size ps pre) ∧ Kp (wz.heap[a]? = some (.cells #[.int .i64 y.1] 3 (0, 0))) ∧ Kp (wz.heap[b]? = some (.cells #[.int .u32 y.2] 41 (0, 0))) ∧ Kp (∀ t : TypeId, 133 ≠ t → 132 ≠ t → Rnd t w.heap.size wk.heap.size W wz) ∧ Kp (wz.heap[wd0.heap.size]? = some (.cells #[FV 65 #[.pointer (some ⟨a, 0, none⟩), .pointer (some ⟨b, 0, none⟩)]] 133 (0, 0))) ∧ wd0.heap.size < wz.heap.size) ⟨⟨blk_al op3.out _⟩, ⟨blk_al ob3.out _⟩, ⟨blk_al qb3.out _⟩, ⟨LX3.out.alloc _⟩, ⟨below_al HB3.out _⟩, ⟨BX3.out.map fun _ _ _ _ _ _ h => blk_al h _⟩, ⟨blk_al AX3.out _⟩, ⟨blk_al XX3.out _⟩, ⟨fun t t1 t2 => (RN3.out t t1 t2).trans (Rnd.al (by omega) _)⟩, ⟨blk_new wd0 _⟩, (by simp)⟩ (sx_of1 (ButB.al (And.left hHeld) _)) (fun wd25 hRn hHn => ?_)
            clear hK K hHeld op3 ob3 qb3 LX3 HB3 BX3 AX3 XX3 RN3
            obtain ⟨op3, ob3, qb3, LX3, HB3, BX3, AX3, XX3, RN3, qa, hsz25⟩ := hRn
            have hHeld := hHn
            clear hHn
            try simp only [Act.put, ls0, ls1, ls2]
            have lt_qa := blk_lt qa.out
            refine wrd [4] ?_
            refine (arc rfl (fun K hK => ?_) arn)
            have sd1 := cbk op3.out 1 (.slice (some ⟨g1, 0, none⟩) (pre.length + 1) cap1) rfl
            have sl := blk_lt op3.out
            go_simp
            try go_wp2_with fail
            refine out_gen hK _ _ (fun wz : World => Kp (wz.heap[w1.heap.size + 1]? = some (.cells #[.int .u32 own, .slice (some ⟨g1, 0, none⟩) (pre.length + 1) cap1] 132 (0, 0))) ∧ Kp (wz.heap[w1.heap.size + 1 + 1]? = some (.cells #[.pointer (some ⟨w1.heap.size + 1, 0, none⟩)] 75 (0, 0))) ∧ Kp (wz.heap[w1.heap.size]? = some (.cells #[.int .i64 (k : Int), .int .i64 s1, .int .i64 d1, .int .i64 l1, .int .i64 x.words, .int .i64 x.depth] 124 (0, 0))) ∧ Kp (wz.ownsRow (bs) 133 1 (.slice (some ⟨g1, 0, none⟩) (pre.length + 1) cap1) (pre.length + 1) ((FV 62 #[.pointer (some ⟨w1.heap.size + 1 + 1, 0, none⟩), .pointer (some ⟨w1.heap.size, 0, none⟩)] :: ps.map fun p : Nat × Nat => FV 65 #[.pointer (some ⟨p.1, 0, none⟩), .pointer (some ⟨p.2, 0, none⟩)]))) ∧ Kp (Below w.heap.size w wz) ∧ Kp (StepBoxes wz w.heap.size ps pre) ∧ Kp (wz.heap[a]? = some (.cells #[.int .i64 y.1] 3 (0, 0))) ∧ Kp (wz.heap[b]? = some (.cells #[.int .u32 y.2] 41 (0, 0))) ∧ Kp (∀ t : TypeId, 133 ≠ t → 132 ≠ t → Rnd t w.heap.size wk.heap.size W wz) ∧ Kp (wz.heap[wd0.heap.size]? = some (.cells #[FV 65 #[.pointer (some ⟨a, 0, none⟩), .pointer (some ⟨b, 0, none⟩)]] 133 (0, 0))) ∧ wd25.heap.size ≤ wz.heap.size) ⟨⟨op3.out⟩, ⟨ob3.out⟩, ⟨qb3.out⟩, ⟨LX3.out⟩, ⟨HB3.out⟩, ⟨BX3.out⟩, ⟨AX3.out⟩, ⟨XX3.out⟩, ⟨RN3.out⟩, ⟨qa.out⟩, Nat.le_refl _⟩ (sx_of1 ((And.left hHeld))) (fun wd26 hRn hHn => ?_)
            clear hK K hHeld op3 ob3 qb3 LX3 HB3 BX3 AX3 XX3 RN3 qa  sd1 sl
            obtain ⟨op3, ob3, qb3, LX3, HB3, BX3, AX3, XX3, RN3, qa, hsz26⟩ := hRn
            have hHeld := hHn
            clear hHn
            try simp only [Act.put, ls0, ls1, ls2]
            refine wrd [7] ?_
            refine (arc rfl (fun K hK => ?_) arn)
            have hws := (And.left hHeld).size
            refine step_append_lies _ (by rfl) _ _ 130 (by rfl) (bs) 133 i0 .nilFunc 1 8 Tryz.underlying130 hi0 hz0 hz1 hz2 (by rfl) (by decide) _ _ _ (by rfl) LX3.out _ 1 _ [FV 65 #[.pointer (some ⟨a, 0, none⟩), .pointer (some ⟨b, 0, none⟩)]] (by rfl) rfl (World.news_of_block qa.out) (by simp [Value.oneCell', FV]) (by omega) (by unfold maxLen; omega) (by omega) (by have := hws; omega) _ rfl ?_
            intro g2 cap2 w9 hown hgrow hat hlt
            refine out_gen hK _ _ (fun wz : World => Kp (wz.heap[w1.heap.size + 1]? = some (.cells #[.int .u32 own, .slice (some ⟨g1, 0, none⟩) (pre.length + 1) cap1] 132 (0, 0))) ∧ Kp (wz.heap[w1.heap.size + 1 + 1]? = some (.cells #[.pointer (some ⟨w1.heap.size + 1, 0, none⟩)] 75 (0, 0))) ∧ Kp (wz.heap[w1.heap.size]? = some (.cells #[.int .i64 (k : Int), .int .i64 s1, .int .i64 d1, .int .i64 l1, .int .i64 x.words, .int .i64 x.depth] 124 (0, 0))) ∧ Kp (wz.ownsRow (bs) 133 1 (.slice (some ⟨g2, 0, none⟩) (pre.length + 1 + 1) cap2) (pre.length + 1 + 1) ((FV 62 #[.pointer (some ⟨w1.heap.size + 1 + 1, 0, none⟩), .pointer (some ⟨w1.heap.size, 0, none⟩)] :: ps.map fun p : Nat × Nat => FV 65 #[.pointer (some ⟨p.1, 0, none⟩), .pointer (some ⟨p.2, 0, none⟩)]) ++ [FV 65 #[.pointer (some ⟨a, 0, none⟩), .pointer (some ⟨b, 0, none⟩)]])) ∧ Kp (Below w.heap.size w wz) ∧ Kp (StepBoxes wz w.heap.size ps pre) ∧ Kp (wz.heap[a]? = some (.cells #[.int .i64 y.1] 3 (0, 0))) ∧ Kp (wz.heap[b]? = some (.cells #[.int .u32 y.2] 41 (0, 0))) ∧ Kp (∀ t : TypeId, 133 ≠ t → 132 ≠ t → Rnd t w.heap.size wk.heap.size W wz) ∧ wd26.heap.size ≤ wz.heap.size) ⟨⟨blk_grownR op3.out LX3.out hgrow (by first | (intro hq; have := (LX3.out.lt _ hq).1; omega) | (intro hq; simp [Value.ownBlock] at hq; omega) | (intro hq; have := hgl _ hq; omega))⟩, ⟨blk_grownR ob3.out LX3.out hgrow (by first | (intro hq; have := (LX3.out.lt _ hq).1; omega) | (intro hq; simp [Value.ownBlock] at hq; omega) | (intro hq; have := hgl _ hq; omega))⟩, ⟨blk_grownR qb3.out LX3.out hgrow (by first | (intro hq; have := (LX3.out.lt _ hq).1; omega) | (intro hq; simp [Value.ownBlock] at hq; omega) | (intro hq; have := hgl _ hq; omega))⟩, ⟨hown⟩, ⟨below_own2 HB3.out (by have := HB3.out.size; omega) (by omega) LX3.out hgrow⟩, ⟨BX3.out.map fun _ _ _ _ _ ht h => blk_grownT h LX3.out hgrow (by rcases ht with rfl | rfl <;> decide)⟩, ⟨blk_grownT AX3.out LX3.out hgrow (by decide)⟩, ⟨blk_grownT XX3.out LX3.out hgrow (by decide)⟩, ⟨fun t t1 t2 => (RN3.out t t1 t2).trans (Rnd.own LX3.out t1 (by omega) (by omega) hgrow)⟩, hgrow.size⟩ (sx_of1 (ButB.grown (And.left hHeld) LX3.out hgrow (by omega))) (fun wd27 hRn hHn => ?_)
            clear hK K hHeld op3 ob3 qb3 LX3 HB3 BX3 AX3 XX3 RN3 qa hown hgrow hat hlt hws
            obtain ⟨op3, ob3, qb3, LX3, HB3, BX3, AX3, XX3, RN3, hsz27⟩ := hRn
            have hHeld := hHn
            clear hHn
            try simp only [Act.put, ls0, ls1, ls2]
            try simp only [Nat.zero_add]
            refine wtk 8 ?_ rfl (.inl ⟨by rfl, ?_⟩) ?_
            rotate_left 1
            · (intro w hSw; go_simp; try with_reducible rfl)
            try simp only [Act.put, ls0, ls1, ls2]
            refine wtk 9 ?_ rfl (.inl ⟨by rfl, ?_⟩) ?_
            rotate_left 1
            · (intro w hSw; go_simp; try with_reducible rfl)
            try simp only [Act.put, ls0, ls1, ls2]
            refine wrd [10] ?_
            refine (arc rfl (fun K hK => ?_) arn)
            have sd := cbk op3.out 1 (.slice (some ⟨g1, 0, none⟩) (pre.length + 1) cap1) rfl
            have sf := frozen_blk op3.out 1
            have sl := blk_lt op3.out
            go_simp
            try go_wp2_with fail
            refine out_gen hK _ _ (fun wz : World => Kp (wz.heap[w1.heap.size + 1]? = some (.cells #[.int .u32 own, .slice (some ⟨g2, 0, none⟩) (pre.length + 1 + 1) cap2] 132 (0, 0))) ∧ Kp (wz.heap[w1.heap.size + 1 + 1]? = some (.cells #[.pointer (some ⟨w1.heap.size + 1, 0, none⟩)] 75 (0, 0))) ∧ Kp (wz.heap[w1.heap.size]? = some (.cells #[.int .i64 (k : Int), .int .i64 s1, .int .i64 d1, .int .i64 l1, .int .i64 x.words, .int .i64 x.depth] 124 (0, 0))) ∧ Kp (wz.ownsRow (bs) 133 1 (.slice (some ⟨g2, 0, none⟩) (pre.length + 1 + 1) cap2) (pre.length + 1 + 1) ((FV 62 #[.pointer (some ⟨w1.heap.size + 1 + 1, 0, none⟩), .pointer (some ⟨w1.heap.size, 0, none⟩)] :: ps.map fun p : Nat × Nat => FV 65 #[.pointer (some ⟨p.1, 0, none⟩), .pointer (some ⟨p.2, 0, none⟩)]) ++ [FV 65 #[.pointer (some ⟨a, 0, none⟩), .pointer (some ⟨b, 0, none⟩)]])) ∧ Kp (Below w.heap.size w wz) ∧ Kp (StepBoxes wz w.heap.size ps pre) ∧ Kp (wz.heap[a]? = some (.cells #[.int .i64 y.1] 3 (0, 0))) ∧ Kp (wz.heap[b]? = some (.cells #[.int .u32 y.2] 41 (0, 0))) ∧ Kp (∀ t : TypeId, 133 ≠ t → 132 ≠ t → Rnd t w.heap.size wk.heap.size W wz) ∧ wd27.heap.size ≤ wz.heap.size) ⟨⟨(blk_set op3.out 1 _).trans rfl⟩, ⟨blk_set_ne (p := ⟨w1.heap.size + 1, 1, none⟩) ob3.out (by show w1.heap.size + 1 + 1 ≠ w1.heap.size + 1; omega) _⟩, ⟨blk_set_ne (p := ⟨w1.heap.size + 1, 1, none⟩) qb3.out (by show w1.heap.size ≠ w1.heap.size + 1; omega) _⟩, ⟨own_set_ne LX3.out (p := ⟨w1.heap.size + 1, 1, none⟩) (by show w1.heap.size + 1 < bs; omega) _⟩, ⟨HB3.out.setCell (p := ⟨w1.heap.size + 1, 1, none⟩) (by show w.heap.size ≤ w1.heap.size + 1; omega) _⟩, ⟨BX3.out.map fun _ _ _ _ _ ht h => blk_setT h op3.out (by rcases ht with rfl | rfl <;> decide) 1 _⟩, ⟨blk_setT AX3.out op3.out (by decide) 1 _⟩, ⟨blk_setT XX3.out op3.out (by decide) 1 _⟩, ⟨fun t t1 t2 => (RN3.out t t1 t2).trans (Rnd.set op3.out t2 (by omega) 1 _)⟩, (by simp [World.setCell])⟩ (sx_of1 (ButB.set (And.left hHeld) (p := ⟨w1.heap.size + 1, 1, none⟩) (by first | (left; simp; done) | (right; show _ ≤ w1.heap.size + 1; omega)) _)) (fun wd28 hRn hHn => ?_)
            clear hK K hHeld op3 ob3 qb3 LX3 HB3 BX3 AX3 XX3 RN3 sd sf sl
            obtain ⟨op3, ob3, qb3, LX3, HB3, BX3, AX3, XX3, RN3, hsz28⟩ := hRn
            have hHeld := hHn
            clear hHn
            try simp only [Act.put, ls0, ls1, ls2]
            refine wpAnyH_done (by kernel_rfl) ?_ _
            exact JQ.mk ⟨g2, cap2, op3, ob3, qb3, LX3, HB3, BX3, AX3, XX3, RN3⟩
        · rintro _ wj5 ⟨g2, cap2, op3, ob3, qb3, LX3, HB3, BX3, AX3, XX3, RN3⟩
          have hl1 : (pre ++ [y]).length = pre.length + 1 := by simp
          have RU := RndU.of (Ts := [124, 44, 41]) 3 (RN3.out 3 (by decide) (by decide)) (fun t ht => RN3.out t (fun e => absurd (e ▸ ht : 133 ∈ [124, 44, 41]) (by decide)) (fun e => absurd (e ▸ ht : 132 ∈ [124, 44, 41]) (by decide)))
          refine ⟨RU.2, RU.1, ?_⟩
          unfold SendI
          rw [hl1]
          exact ⟨g2, cap2, ps ++ [(a, b)], by simp; omega, op3.out, by rw [List.map_append]; exact LX3.out, BX3.out.snoc hps a b y hab.1 hab.2 AX3.out XX3.out, ob3.out, qb3.out, HB3.out⟩
      case done =>
        rintro Dd ys W hDd rfl hi hK
        obtain ⟨g1, cap1, ps, hps, h2, h3, h4, h5, h6, h7⟩ := hi
        have op3 := Kp.mk h2
        have LX3 := Kp.mk h3
        have BX3 := Kp.mk h4
        have ob3 := Kp.mk h5
        have qb3 := Kp.mk h6
        have HB3 := Kp.mk h7
        have hszW := h7.size
        have hbW := h3.lt g1 rfl
        have ocW := cbk h5 0 (.pointer (some ⟨w1.heap.size + 1, 0, none⟩)) rfl
        have olW := blk_lt h5
        have HKD := Kp.mk hK
        obtain ⟨nL, hnL⟩ : ∃ nL, (uptoS l1 l l.length).length = nL := ⟨_, rfl⟩
        have HNL : Kp (nL = l.length + 1) := ⟨by rw [← hnL, uptoS_len]⟩
        have hnl17 : nL ≤ 17 := by rw [HNL.out]; omega
        have hps' : ps.length = nL := hps.trans hnL
        rw [hnL] at op3 LX3 hps
        clear h2 h3 h4 h5 h6 h7 hK op2 LX ob2 qb2 HB2 DR MQ MD HST hnL
        go_wp2_with fail
        refine JQ.region (fun a wj5 => ∃ (g2 cap2 : Nat) (u0 u1 u2 u3 u4 u5 u6 u7 u8 u9 u11 u12 u13 u14 u15 u16 u17 u18 u19 u20 u21 u22 u23 u24 u25 u26 u27 u28 u29 u30 u31 u32 u33 u34 u35 u36 u37 u38 u39 u40 u41 u42 u43 u44 u45 u46 u47 u48 u49 u50 u51 u52 u53 u54 u55 u56 u57 : Value), a = ⟨#[u0, u1, u2, u3, u4, u5, u6, u7, u8, u9, .pointer (some ⟨w1.heap.size + 1 + 1, 0, none⟩), u11, u12, u13, u14, u15, u16, u17, u18, u19, u20, u21, u22, u23, u24, u25, u26, u27, u28, u29, u30, u31, u32, u33, u34, u35, u36, u37, u38, u39, u40, u41, u42, u43, u44, u45, u46, u47, u48, u49, u50, u51, u52, u53, u54, u55, u56, u57], [{ target := .collected Dd, args := #[] }]⟩ ∧ Kp (wj5.heap[w1.heap.size + 1]? = some (.cells #[.int .u32 own, .slice (some ⟨g2, 0, none⟩) (nL + 1 + 2) cap2] 132 (0, 0))) ∧ Kp (wj5.heap[w1.heap.size + 1 + 1]? = some (.cells #[.pointer (some ⟨w1.heap.size + 1, 0, none⟩)] 75 (0, 0))) ∧ Kp (wj5.heap[w1.heap.size]? = some (.cells #[.int .i64 (k : Int), .int .i64 s1, .int .i64 d1, .int .i64 l1, .int .i64 x.words, .int .i64 x.depth] 124 (0, 0))) ∧ Kp (wj5.ownsRow (bs) 133 1 (.slice (some ⟨g2, 0, none⟩) (nL + 1 + 2) cap2) (nL + 1 + 2) (((FV 62 #[.pointer (some ⟨w1.heap.size + 1 + 1, 0, none⟩), .pointer (some ⟨w1.heap.size, 0, none⟩)]) :: ps.map fun p : Nat × Nat => FV 65 #[.pointer (some ⟨p.1, 0, none⟩), .pointer (some ⟨p.2, 0, none⟩)]) ++ [FV 67 #[.pointer (some ⟨w1.heap.size + 1 + 1, 0, none⟩), .pointer (some ⟨w1.heap.size, 0, none⟩)], FV 68 #[.pointer (some ⟨w1.heap.size, 0, none⟩)]])) ∧ Kp (Below w.heap.size w wj5) ∧ Kp (StepBoxes wj5 w.heap.size ps (uptoS l1 l l.length)) ∧ Kp (wj5.heap[Dd]? = some (.deferred (some [])))) ?_ ?_
        · refine held_start_gen (S := (fun w' : World => ButB (bs) [w1.heap.size + 1] W w' ∧ ∀ bb o, bb < bs → bb ≠ w1.heap.size + 1 → w'.cell? ⟨bb, o, none⟩ = W.cell? ⟨bb, o, none⟩)) (by kernel_rfl) (fun wz : World => Kp (wz.heap[w1.heap.size + 1]? = some (.cells #[.int .u32 own, .slice (some ⟨g1, 0, none⟩) (nL + 1) cap1] 132 (0, 0))) ∧ Kp (wz.heap[w1.heap.size + 1 + 1]? = some (.cells #[.pointer (some ⟨w1.heap.size + 1, 0, none⟩)] 75 (0, 0))) ∧ Kp (wz.heap[w1.heap.size]? = some (.cells #[.int .i64 (k : Int), .int .i64 s1, .int .i64 d1, .int .i64 l1, .int .i64 x.words, .int .i64 x.depth] 124 (0, 0))) ∧ Kp (wz.ownsRow (bs) 133 1 (.slice (some ⟨g1, 0, none⟩) (nL + 1) cap1) (nL + 1) ((FV 62 #[.pointer (some ⟨w1.heap.size + 1 + 1, 0, none⟩), .pointer (some ⟨w1.heap.size, 0, none⟩)] :: ps.map fun p : Nat × Nat => FV 65 #[.pointer (some ⟨p.1, 0, none⟩), .pointer (some ⟨p.2, 0, none⟩)]))) ∧ Kp (Below w.heap.size w wz) ∧ Kp (StepBoxes wz w.heap.size ps (uptoS l1 l l.length)) ∧ Kp (wz.heap[Dd]? = some (.deferred (some []))) ∧ W.heap.size ≤ wz.heap.size) ⟨⟨blk_dr op3.out⟩, ⟨blk_dr ob3.out⟩, ⟨blk_dr qb3.out⟩, ⟨LX3.out⟩, ⟨below_dr HB3.out⟩, ⟨BX3.out.map fun _ _ _ _ _ _ h => blk_dr h⟩, ⟨blk_dr HKD.out⟩, Nat.le_refl _⟩ (sx_of1 (ButB.dr (ButB.refl _ (by omega)))) (fun wd0 hRn hHeld => ?_)
          clear op3 ob3 qb3 LX3 HB3 BX3 HKD
          obtain ⟨op3, ob3, qb3, LX3, HB3, BX3, HKD, hsz⟩ := hRn
          refine wtk 0 ?_ rfl (.inl ⟨by rfl, ?_⟩) ?_
          rotate_left 1
          · (intro w hSw; go_simp; try with_reducible rfl)
          try simp only [Act.put, ls0, ls1, ls2]
          refine wtk 1 ?_ rfl (.inl ⟨by rfl, ?_⟩) ?_
          rotate_left 1
          · (intro w hSw; go_simp; try with_reducible rfl)
          try simp only [Act.put, ls0, ls1, ls2]
          refine wtk 2 ?_ rfl (.inl ⟨by rfl, ?_⟩) ?_
          rotate_left 1
          · (intro w hSw; go_simp; try with_reducible rfl)
          try simp only [Act.put, ls0, ls1, ls2]
          refine wtk 3 ?_ rfl (.inl ⟨by rfl, ?_⟩) ?_
          rotate_left 1
          · (intro w hSw; go_simp; try with_reducible rfl)
          try simp only [Act.put, ls0, ls1, ls2]
          refine wtk 5 ?_ rfl (.inl ⟨by rfl, ?_⟩) ?_
          rotate_left 1
          · (intro w hSw; go_simp; try with_reducible rfl)
          try simp only [Act.put, ls0, ls1, ls2]
          refine wtk 6 ?_ rfl (.inl ⟨by rfl, ?_⟩) ?_
          rotate_left 1
          · (intro w hSw; go_simp; try with_reducible rfl)
          try simp only [Act.put, ls0, ls1, ls2]
          refine wrd [4, 7] ?_
          refine (arc rfl (fun K hK => ?_) (arc rfl (fun K hK => ?_) arn))
          · have sd1 := cbk op3.out 1 (.slice (some ⟨g1, 0, none⟩) (nL + 1) cap1) rfl
            have sl := blk_lt op3.out
            go_simp
            try go_wp2_with fail
            refine out_gen hK _ _ (fun wz : World => Kp (wz.heap[w1.heap.size + 1]? = some (.cells #[.int .u32 own, .slice (some ⟨g1, 0, none⟩) (nL + 1) cap1] 132 (0, 0))) ∧ Kp (wz.heap[w1.heap.size + 1 + 1]? = some (.cells #[.pointer (some ⟨w1.heap.size + 1, 0, none⟩)] 75 (0, 0))) ∧ Kp (wz.heap[w1.heap.size]? = some (.cells #[.int .i64 (k : Int), .int .i64 s1, .int .i64 d1, .int .i64 l1, .int .i64 x.words, .int .i64 x.depth] 124 (0, 0))) ∧ Kp (wz.ownsRow (bs) 133 1 (.slice (some ⟨g1, 0, none⟩) (nL + 1) cap1) (nL + 1) ((FV 62 #[.pointer (some ⟨w1.heap.size + 1 + 1, 0, none⟩), .pointer (some ⟨w1.heap.size, 0, none⟩)] :: ps.map fun p : Nat × Nat => FV 65 #[.pointer (some ⟨p.1, 0, none⟩), .pointer (some ⟨p.2, 0, none⟩)]))) ∧ Kp (Below w.heap.size w wz) ∧ Kp (StepBoxes wz w.heap.size ps (uptoS l1 l l.length)) ∧ Kp (wz.heap[Dd]? = some (.deferred (some []))) ∧ wd0.heap.size ≤ wz.heap.size) ⟨⟨op3.out⟩, ⟨ob3.out⟩, ⟨qb3.out⟩, ⟨LX3.out⟩, ⟨HB3.out⟩, ⟨BX3.out⟩, ⟨HKD.out⟩, Nat.le_refl _⟩ (sx_of1 ((And.left hHeld))) (fun wd41 hRn hHn => ?_)
            clear hK K hHeld op3 ob3 qb3 LX3 HB3 BX3 HKD  sd1 sl
            obtain ⟨op3, ob3, qb3, LX3, HB3, BX3, HKD, hsz41⟩ := hRn
            have hHeld := hHn
            clear hHn
            try simp only [Act.put, ls0, ls1, ls2]
            refine wrd [7] ?_
            refine (arc rfl (fun K hK => ?_) arn)
            have ge_qa : W.heap.size ≤ wd41.heap.size := (And.left hHeld).size
            go_simp
            try go_wp2_with fail
            refine out_gen hK _ _ (fun wz : World => Kp (wz.heap[w1.heap.size + 1]? = some (.cells #[.int .u32 own, .slice (some ⟨g1, 0, none⟩) (nL + 1) cap1] 132 (0, 0))) ∧ Kp (wz.heap[w1.heap.size + 1 + 1]? = some (.cells #[.pointer (some ⟨w1.heap.size + 1, 0, none⟩)] 75 (0, 0))) ∧ Kp (wz.heap[w1.heap.size]? = some (.cells #[.int .i64 (k : Int), .int .i64 s1, .int .i64 d1, .int .i64 l1, .int .i64 x.words, .int .i64 x.depth] 124 (0, 0))) ∧ Kp (wz.ownsRow (bs) 133 1 (.slice (some ⟨g1, 0, none⟩) (nL + 1) cap1) (nL + 1) ((FV 62 #[.pointer (some ⟨w1.heap.size + 1 + 1, 0, none⟩), .pointer (some ⟨w1.heap.size, 0, none⟩)] :: ps.map fun p : Nat × Nat => FV 65 #[.pointer (some ⟨p.1, 0, none⟩), .pointer (some ⟨p.2, 0, none⟩)]))) ∧ Kp (Below w.heap.size w wz) ∧ Kp (StepBoxes wz w.heap.size ps (uptoS l1 l l.length)) ∧ Kp (wz.heap[Dd]? = some (.deferred (some []))) ∧ Kp (wz.heap[wd41.heap.size]? = some (.cells #[FV 67 #[.pointer (some ⟨w1.heap.size + 1 + 1, 0, none⟩), .pointer (some ⟨w1.heap.size, 0, none⟩)], FV 68 #[.pointer (some ⟨w1.heap.size, 0, none⟩)]] 133 (0, 0))) ∧ wd41.heap.size < wz.heap.size) ⟨⟨blk_al op3.out _⟩, ⟨blk_al ob3.out _⟩, ⟨blk_al qb3.out _⟩, ⟨LX3.out.alloc _⟩, ⟨below_al HB3.out _⟩, ⟨BX3.out.map fun _ _ _ _ _ _ h => blk_al h _⟩, ⟨blk_al HKD.out _⟩, ⟨blk_new wd41 _⟩, (by simp)⟩ (sx_of1 (ButB.al (And.left hHeld) _)) (fun wd42 hRn hHn => ?_)
            clear hK K hHeld op3 ob3 qb3 LX3 HB3 BX3 HKD
            obtain ⟨op3, ob3, qb3, LX3, HB3, BX3, HKD, qa, hsz42⟩ := hRn
            have hHeld := hHn
            clear hHn
            try simp only [Act.put, ls0, ls1, ls2]
            have lt_qa := blk_lt qa.out
            refine wrd [8] ?_
            refine (arc rfl (fun K hK => ?_) arn)
            have hws := (And.left hHeld).size
            refine step_append_lies _ (by rfl) _ _ 130 (by rfl) (bs) 133 i0 .nilFunc 1 8 Tryz.underlying130 hi0 hz0 hz1 hz2 (by rfl) (by decide) _ _ _ (by rfl) LX3.out _ 2 _ [FV 67 #[.pointer (some ⟨w1.heap.size + 1 + 1, 0, none⟩), .pointer (some ⟨w1.heap.size, 0, none⟩)], FV 68 #[.pointer (some ⟨w1.heap.size, 0, none⟩)]] (by rfl) rfl (World.news_of_block qa.out) (by simp [Value.oneCell', FV]) (by omega) (by unfold maxLen; omega) (by omega) (by have := hws; omega) _ rfl ?_
            intro g2 cap2 w9 hown hgrow hat hlt
            refine out_gen hK _ _ (fun wz : World => Kp (wz.heap[w1.heap.size + 1]? = some (.cells #[.int .u32 own, .slice (some ⟨g1, 0, none⟩) (nL + 1) cap1] 132 (0, 0))) ∧ Kp (wz.heap[w1.heap.size + 1 + 1]? = some (.cells #[.pointer (some ⟨w1.heap.size + 1, 0, none⟩)] 75 (0, 0))) ∧ Kp (wz.heap[w1.heap.size]? = some (.cells #[.int .i64 (k : Int), .int .i64 s1, .int .i64 d1, .int .i64 l1, .int .i64 x.words, .int .i64 x.depth] 124 (0, 0))) ∧ Kp (wz.ownsRow (bs) 133 1 (.slice (some ⟨g2, 0, none⟩) (nL + 1 + 2) cap2) (nL + 1 + 2) ((FV 62 #[.pointer (some ⟨w1.heap.size + 1 + 1, 0, none⟩), .pointer (some ⟨w1.heap.size, 0, none⟩)] :: ps.map fun p : Nat × Nat => FV 65 #[.pointer (some ⟨p.1, 0, none⟩), .pointer (some ⟨p.2, 0, none⟩)]) ++ [FV 67 #[.pointer (some ⟨w1.heap.size + 1 + 1, 0, none⟩), .pointer (some ⟨w1.heap.size, 0, none⟩)], FV 68 #[.pointer (some ⟨w1.heap.size, 0, none⟩)]])) ∧ Kp (Below w.heap.size w wz) ∧ Kp (StepBoxes wz w.heap.size ps (uptoS l1 l l.length)) ∧ Kp (wz.heap[Dd]? = some (.deferred (some []))) ∧ wd42.heap.size ≤ wz.heap.size) ⟨⟨blk_grownR op3.out LX3.out hgrow (by first | (intro hq; have := (LX3.out.lt _ hq).1; omega) | (intro hq; simp [Value.ownBlock] at hq; omega) | (intro hq; have := hgl _ hq; omega))⟩, ⟨blk_grownR ob3.out LX3.out hgrow (by first | (intro hq; have := (LX3.out.lt _ hq).1; omega) | (intro hq; simp [Value.ownBlock] at hq; omega) | (intro hq; have := hgl _ hq; omega))⟩, ⟨blk_grownR qb3.out LX3.out hgrow (by first | (intro hq; have := (LX3.out.lt _ hq).1; omega) | (intro hq; simp [Value.ownBlock] at hq; omega) | (intro hq; have := hgl _ hq; omega))⟩, ⟨hown⟩, ⟨below_own2 HB3.out (by have := HB3.out.size; omega) (by omega) LX3.out hgrow⟩, ⟨BX3.out.map fun _ _ _ _ _ ht h => blk_grownT h LX3.out hgrow (by rcases ht with rfl | rfl <;> decide)⟩, ⟨blk_grownN HKD.out rfl LX3.out hgrow⟩, hgrow.size⟩ (sx_of1 (ButB.grown (And.left hHeld) LX3.out hgrow (by omega))) (fun wd43 hRn hHn => ?_)
            clear hK K hHeld op3 ob3 qb3 LX3 HB3 BX3 HKD qa hown hgrow hat hlt hws
            obtain ⟨op3, ob3, qb3, LX3, HB3, BX3, HKD, hsz43⟩ := hRn
            have hHeld := hHn
            clear hHn
            try simp only [Act.put, ls0, ls1, ls2]
            try simp only [Nat.zero_add]
            refine wtk 9 ?_ rfl (.inl ⟨by rfl, ?_⟩) ?_
            rotate_left 1
            · (intro w hSw; go_simp; try with_reducible rfl)
            try simp only [Act.put, ls0, ls1, ls2]
            refine wtk 10 ?_ rfl (.inl ⟨by rfl, ?_⟩) ?_
            rotate_left 1
            · (intro w hSw; go_simp; try with_reducible rfl)
            try simp only [Act.put, ls0, ls1, ls2]
            refine wrd [11] ?_
            refine (arc rfl (fun K hK => ?_) arn)
            have sd := cbk op3.out 1 (.slice (some ⟨g1, 0, none⟩) (nL + 1) cap1) rfl
            have sf := frozen_blk op3.out 1
            have sl := blk_lt op3.out
            go_simp
            try go_wp2_with fail
            refine out_gen hK _ _ (fun wz : World => Kp (wz.heap[w1.heap.size + 1]? = some (.cells #[.int .u32 own, .slice (some ⟨g2, 0, none⟩) (nL + 1 + 2) cap2] 132 (0, 0))) ∧ Kp (wz.heap[w1.heap.size + 1 + 1]? = some (.cells #[.pointer (some ⟨w1.heap.size + 1, 0, none⟩)] 75 (0, 0))) ∧ Kp (wz.heap[w1.heap.size]? = some (.cells #[.int .i64 (k : Int), .int .i64 s1, .int .i64 d1, .int .i64 l1, .int .i64 x.words, .int .i64 x.depth] 124 (0, 0))) ∧ Kp (wz.ownsRow (bs) 133 1 (.slice (some ⟨g2, 0, none⟩) (nL + 1 + 2) cap2) (nL + 1 + 2) ((FV 62 #[.pointer (some ⟨w1.heap.size + 1 + 1, 0, none⟩), .pointer (some ⟨w1.heap.size, 0, none⟩)] :: ps.map fun p : Nat × Nat => FV 65 #[.pointer (some ⟨p.1, 0, none⟩), .pointer (some ⟨p.2, 0, none⟩)]) ++ [FV 67 #[.pointer (some ⟨w1.heap.size + 1 + 1, 0, none⟩), .pointer (some ⟨w1.heap.size, 0, none⟩)], FV 68 #[.pointer (some ⟨w1.heap.size, 0, none⟩)]])) ∧ Kp (Below w.heap.size w wz) ∧ Kp (StepBoxes wz w.heap.size ps (uptoS l1 l l.length)) ∧ Kp (wz.heap[Dd]? = some (.deferred (some []))) ∧ wd43.heap.size ≤ wz.heap.size) ⟨⟨(blk_set op3.out 1 _).trans rfl⟩, ⟨blk_set_ne (p := ⟨w1.heap.size + 1, 1, none⟩) ob3.out (by show w1.heap.size + 1 + 1 ≠ w1.heap.size + 1; omega) _⟩, ⟨blk_set_ne (p := ⟨w1.heap.size + 1, 1, none⟩) qb3.out (by show w1.heap.size ≠ w1.heap.size + 1; omega) _⟩, ⟨own_set_ne LX3.out (p := ⟨w1.heap.size + 1, 1, none⟩) (by show w1.heap.size + 1 < bs; omega) _⟩, ⟨HB3.out.setCell (p := ⟨w1.heap.size + 1, 1, none⟩) (by show w.heap.size ≤ w1.heap.size + 1; omega) _⟩, ⟨BX3.out.map fun _ _ _ _ _ ht h => blk_setT h op3.out (by rcases ht with rfl | rfl <;> decide) 1 _⟩, ⟨blk_set_ne (p := ⟨w1.heap.size + 1, 1, none⟩) HKD.out (by show Dd ≠ w1.heap.size + 1; omega) _⟩, (by simp [World.setCell])⟩ (sx_of1 (ButB.set (And.left hHeld) (p := ⟨w1.heap.size + 1, 1, none⟩) (by first | (left; simp; done) | (right; show _ ≤ w1.heap.size + 1; omega)) _)) (fun wd44 hRn hHn => ?_)
            clear hK K hHeld op3 ob3 qb3 LX3 HB3 BX3 HKD sd sf sl
            obtain ⟨op3, ob3, qb3, LX3, HB3, BX3, HKD, hsz44⟩ := hRn
            have hHeld := hHn
            clear hHn
            try simp only [Act.put, ls0, ls1, ls2]
            refine wpAnyH_done (by kernel_rfl) ?_ _
            exact JQ.mk ⟨g2, cap2, _, _, _, _, _, _, _, _, _, _, _, _, _, _, _, _, _, _, _, _, _, _, _, _, _, _, _, _, _, _, _, _, _, _, _, _, _, _, _, _, _, _, _, _, _, _, _, _, _, _, _, _, _, _, _, _, _, rfl, op3, ob3, qb3, LX3, HB3, BX3, HKD⟩
          · have ge_qa : W.heap.size ≤ wd0.heap.size := (And.left hHeld).size
            go_simp
            try go_wp2_with fail
            refine out_gen hK _ _ (fun wz : World => Kp (wz.heap[w1.heap.size + 1]? = some (.cells #[.int .u32 own, .slice (some ⟨g1, 0, none⟩) (nL + 1) cap1] 132 (0, 0))) ∧ Kp (wz.heap[w1.heap.size + 1 + 1]? = some (.cells #[.pointer (some ⟨w1.heap.size + 1, 0, none⟩)] 75 (0, 0))) ∧ Kp (wz.heap[w1.heap.size]? = some (.cells #[.int .i64 (k : Int), .int .i64 s1, .int .i64 d1, .int .i64 l1, .int .i64 x.words, .int .i64 x.depth] 124 (0, 0))) ∧ Kp (wz.ownsRow (bs) 133 1 (.slice (some ⟨g1, 0, none⟩) (nL + 1) cap1) (nL + 1) ((FV 62 #[.pointer (some ⟨w1.heap.size + 1 + 1, 0, none⟩), .pointer (some ⟨w1.heap.size, 0, none⟩)] :: ps.map fun p : Nat × Nat => FV 65 #[.pointer (some ⟨p.1, 0, none⟩), .pointer (some ⟨p.2, 0, none⟩)]))) ∧ Kp (Below w.heap.size w wz) ∧ Kp (StepBoxes wz w.heap.size ps (uptoS l1 l l.length)) ∧ Kp (wz.heap[Dd]? = some (.deferred (some []))) ∧ Kp (wz.heap[wd0.heap.size]? = some (.cells #[FV 67 #[.pointer (some ⟨w1.heap.size + 1 + 1, 0, none⟩), .pointer (some ⟨w1.heap.size, 0, none⟩)], FV 68 #[.pointer (some ⟨w1.heap.size, 0, none⟩)]] 133 (0, 0))) ∧ wd0.heap.size < wz.heap.size) ⟨⟨blk_al op3.out _⟩, ⟨blk_al ob3.out _⟩, ⟨blk_al qb3.out _⟩, ⟨LX3.out.alloc _⟩, ⟨below_al HB3.out _⟩, ⟨BX3.out.map fun _ _ _ _ _ _ h => blk_al h _⟩, ⟨blk_al HKD.out _⟩, ⟨blk_new wd0 _⟩, (by simp)⟩ (sx_of1 (ButB.al (And.left hHeld) _)) (fun wd45 hRn hHn => ?_)
            clear hK K hHeld op3 ob3 qb3 LX3 HB3 BX3 HKD
            obtain ⟨op3, ob3, qb3, LX3, HB3, BX3, HKD, qa, hsz45⟩ := hRn
            have hHeld := hHn
            clear hHn
            try simp only [Act.put, ls0, ls1, ls2]
            have lt_qa := blk_lt qa.out
            refine wrd [4] ?_
            refine (arc rfl (fun K hK => ?_) arn)
            have sd1 := cbk op3.out 1 (.slice (some ⟨g1, 0, none⟩) (nL + 1) cap1) rfl
            have sl := blk_lt op3.out
            go_simp
            try go_wp2_with fail
            refine out_gen hK _ _ (fun wz : World => Kp (wz.heap[w1.heap.size + 1]? = some (.cells #[.int .u32 own, .slice (some ⟨g1, 0, none⟩) (nL + 1) cap1] 132 (0, 0))) ∧ Kp (wz.heap[w1.heap.size + 1 + 1]? = some (.cells #[.pointer (some ⟨w1.heap.size + 1, 0, none⟩)] 75 (0, 0))) ∧ Kp (wz.heap[w1.heap.size]? = some (.cells #[.int .i64 (k : Int), .int .i64 s1, .int .i64 d1, .int .i64 l1, .int .i64 x.words, .int .i64 x.depth] 124 (0, 0))) ∧ Kp (wz.ownsRow (bs) 133 1 (.slice (some ⟨g1, 0, none⟩) (nL + 1) cap1) (nL + 1) ((FV 62 #[.pointer (some ⟨w1.heap.size + 1 + 1, 0, none⟩), .pointer (some ⟨w1.heap.size, 0, none⟩)] :: ps.map fun p : Nat × Nat => FV 65 #[.pointer (some ⟨p.1, 0, none⟩), .pointer (some ⟨p.2, 0, none⟩)]))) ∧ Kp (Below w.heap.size w wz) ∧ Kp (StepBoxes wz w.heap.size ps (uptoS l1 l l.length)) ∧ Kp (wz.heap[Dd]? = some (.deferred (some []))) ∧ Kp (wz.heap[wd0.heap.size]? = some (.cells #[FV 67 #[.pointer (some ⟨w1.heap.size + 1 + 1, 0, none⟩), .pointer (some ⟨w1.heap.size, 0, none⟩)], FV 68 #[.pointer (some ⟨w1.heap.size, 0, none⟩)]] 133 (0, 0))) ∧ wd45.heap.size ≤ wz.heap.size) ⟨⟨op3.out⟩, ⟨ob3.out⟩, ⟨qb3.out⟩, ⟨LX3.out⟩, ⟨HB3.out⟩, ⟨BX3.out⟩, ⟨HKD.out⟩, ⟨qa.out⟩, Nat.le_refl _⟩ (sx_of1 ((And.left hHeld))) (fun wd46 hRn hHn => ?_)
            clear hK K hHeld op3 ob3 qb3 LX3 HB3 BX3 HKD qa  sd1 sl
            obtain ⟨op3, ob3, qb3, LX3, HB3, BX3, HKD, qa, hsz46⟩ := hRn
            have hHeld := hHn
            clear hHn
            try simp only [Act.put, ls0, ls1, ls2]
            refine wrd [8] ?_
            refine (arc rfl (fun K hK => ?_) arn)
            have hws := (And.left hHeld).size
            refine step_append_lies _ (by rfl) _ _ 130 (by rfl) (bs) 133 i0 .nilFunc 1 8 Tryz.underlying130 hi0 hz0 hz1 hz2 (by rfl) (by decide) _ _ _ (by rfl) LX3.out _ 2 _ [FV 67 #[.pointer (some ⟨w1.heap.size + 1 + 1, 0, none⟩), .pointer (some ⟨w1.heap.size, 0, none⟩)], FV 68 #[.pointer (some ⟨w1.heap.size, 0, none⟩)]] (by rfl) rfl (World.news_of_block qa.out) (by simp [Value.oneCell', FV]) (by omega) (by unfold maxLen; omega) (by omega) (by have := hws; omega) _ rfl ?_
            intro g2 cap2 w9 hown hgrow hat hlt
            refine out_gen hK _ _ (fun wz : World => Kp (wz.heap[w1.heap.size + 1]? = some (.cells #[.int .u32 own, .slice (some ⟨g1, 0, none⟩) (nL + 1) cap1] 132 (0, 0))) ∧ Kp (wz.heap[w1.heap.size + 1 + 1]? = some (.cells #[.pointer (some ⟨w1.heap.size + 1, 0, none⟩)] 75 (0, 0))) ∧ Kp (wz.heap[w1.heap.size]? = some (.cells #[.int .i64 (k : Int), .int .i64 s1, .int .i64 d1, .int .i64 l1, .int .i64 x.words, .int .i64 x.depth] 124 (0, 0))) ∧ Kp (wz.ownsRow (bs) 133 1 (.slice (some ⟨g2, 0, none⟩) (nL + 1 + 2) cap2) (nL + 1 + 2) ((FV 62 #[.pointer (some ⟨w1.heap.size + 1 + 1, 0, none⟩), .pointer (some ⟨w1.heap.size, 0, none⟩)] :: ps.map fun p : Nat × Nat => FV 65 #[.pointer (some ⟨p.1, 0, none⟩), .pointer (some ⟨p.2, 0, none⟩)]) ++ [FV 67 #[.pointer (some ⟨w1.heap.size + 1 + 1, 0, none⟩), .pointer (some ⟨w1.heap.size, 0, none⟩)], FV 68 #[.pointer (some ⟨w1.heap.size, 0, none⟩)]])) ∧ Kp (Below w.heap.size w wz) ∧ Kp (StepBoxes wz w.heap.size ps (uptoS l1 l l.length)) ∧ Kp (wz.heap[Dd]? = some (.deferred (some []))) ∧ wd46.heap.size ≤ wz.heap.size) ⟨⟨blk_grownR op3.out LX3.out hgrow (by first | (intro hq; have := (LX3.out.lt _ hq).1; omega) | (intro hq; simp [Value.ownBlock] at hq; omega) | (intro hq; have := hgl _ hq; omega))⟩, ⟨blk_grownR ob3.out LX3.out hgrow (by first | (intro hq; have := (LX3.out.lt _ hq).1; omega) | (intro hq; simp [Value.ownBlock] at hq; omega) | (intro hq; have := hgl _ hq; omega))⟩, ⟨blk_grownR qb3.out LX3.out hgrow (by first | (intro hq; have := (LX3.out.lt _ hq).1; omega) | (intro hq; simp [Value.ownBlock] at hq; omega) | (intro hq; have := hgl _ hq; omega))⟩, ⟨hown⟩, ⟨below_own2 HB3.out (by have := HB3.out.size; omega) (by omega) LX3.out hgrow⟩, ⟨BX3.out.map fun _ _ _ _ _ ht h => blk_grownT h LX3.out hgrow (by rcases ht with rfl | rfl <;> decide)⟩, ⟨blk_grownN HKD.out rfl LX3.out hgrow⟩, hgrow.size⟩ (sx_of1 (ButB.grown (And.left hHeld) LX3.out hgrow (by omega))) (fun wd47 hRn hHn => ?_)
            clear hK K hHeld op3 ob3 qb3 LX3 HB3 BX3 HKD qa hown hgrow hat hlt hws
            obtain ⟨op3, ob3, qb3, LX3, HB3, BX3, HKD, hsz47⟩ := hRn
            have hHeld := hHn
            clear hHn
            try simp only [Act.put, ls0, ls1, ls2]
            try simp only [Nat.zero_add]
            refine wtk 9 ?_ rfl (.inl ⟨by rfl, ?_⟩) ?_
            rotate_left 1
            · (intro w hSw; go_simp; try with_reducible rfl)
            try simp only [Act.put, ls0, ls1, ls2]
            refine wtk 10 ?_ rfl (.inl ⟨by rfl, ?_⟩) ?_
            rotate_left 1
            · (intro w hSw; go_simp; try with_reducible rfl)
            try simp only [Act.put, ls0, ls1, ls2]
            refine wrd [11] ?_
            refine (arc rfl (fun K hK => ?_) arn)
            have sd := cbk op3.out 1 (.slice (some ⟨g1, 0, none⟩) (nL + 1) cap1) rfl
            have sf := frozen_blk op3.out 1
            have sl := blk_lt op3.out
            go_simp
            try go_wp2_with fail
            refine out_gen hK _ _ (fun wz : World => Kp (wz.heap[w1.heap.size + 1]? = some (.cells #[.int .u32 own, .slice (some ⟨g2, 0, none⟩) (nL + 1 + 2) cap2] 132 (0, 0))) ∧ Kp (wz.heap[w1.heap.size + 1 + 1]? = some (.cells #[.pointer (some ⟨w1.heap.size + 1, 0, none⟩)] 75 (0, 0))) ∧ Kp (wz.heap[w1.heap.size]? = some (.cells #[.int .i64 (k : Int), .int .i64 s1, .int .i64 d1, .int .i64 l1, .int .i64 x.words, .int .i64 x.depth] 124 (0, 0))) ∧ Kp (wz.ownsRow (bs) 133 1 (.slice (some ⟨g2, 0, none⟩) (nL + 1 + 2) cap2) (nL + 1 + 2) ((FV 62 #[.pointer (some ⟨w1.heap.size + 1 + 1, 0, none⟩), .pointer (some ⟨w1.heap.size, 0, none⟩)] :: ps.map fun p : Nat × Nat => FV 65 #[.pointer (some ⟨p.1, 0, none⟩), .pointer (some ⟨p.2, 0, none⟩)]) ++ [FV 67 #[.pointer (some ⟨w1.heap.size + 1 + 1, 0, none⟩), .pointer (some ⟨w1.heap.size, 0, none⟩)], FV 68 #[.pointer (some ⟨w1.heap.size, 0, none⟩)]])) ∧ Kp (Below w.heap.size w wz) ∧ Kp (StepBoxes wz w.heap.size ps (uptoS l1 l l.length)) ∧ Kp (wz.heap[Dd]? = some (.deferred (some []))) ∧ wd47.heap.size ≤ wz.heap.size) ⟨⟨(blk_set op3.out 1 _).trans rfl⟩, ⟨blk_set_ne (p := ⟨w1.heap.size + 1, 1, none⟩) ob3.out (by show w1.heap.size + 1 + 1 ≠ w1.heap.size + 1; omega) _⟩, ⟨blk_set_ne (p := ⟨w1.heap.size + 1, 1, none⟩) qb3.out (by show w1.heap.size ≠ w1.heap.size + 1; omega) _⟩, ⟨own_set_ne LX3.out (p := ⟨w1.heap.size + 1, 1, none⟩) (by show w1.heap.size + 1 < bs; omega) _⟩, ⟨HB3.out.setCell (p := ⟨w1.heap.size + 1, 1, none⟩) (by show w.heap.size ≤ w1.heap.size + 1; omega) _⟩, ⟨BX3.out.map fun _ _ _ _ _ ht h => blk_setT h op3.out (by rcases ht with rfl | rfl <;> decide) 1 _⟩, ⟨blk_set_ne (p := ⟨w1.heap.size + 1, 1, none⟩) HKD.out (by show Dd ≠ w1.heap.size + 1; omega) _⟩, (by simp [World.setCell])⟩ (sx_of1 (ButB.set (And.left hHeld) (p := ⟨w1.heap.size + 1, 1, none⟩) (by first | (left; simp; done) | (right; show _ ≤ w1.heap.size + 1; omega)) _)) (fun wd48 hRn hHn => ?_)
            clear hK K hHeld op3 ob3 qb3 LX3 HB3 BX3 HKD sd sf sl
            obtain ⟨op3, ob3, qb3, LX3, HB3, BX3, HKD, hsz48⟩ := hRn
            have hHeld := hHn
            clear hHn
            try simp only [Act.put, ls0, ls1, ls2]
            refine wpAnyH_done (by kernel_rfl) ?_ _
            exact JQ.mk ⟨g2, cap2, _, _, _, _, _, _, _, _, _, _, _, _, _, _, _, _, _, _, _, _, _, _, _, _, _, _, _, _, _, _, _, _, _, _, _, _, _, _, _, _, _, _, _, _, _, _, _, _, _, _, _, _, _, _, _, _, _, rfl, op3, ob3, qb3, LX3, HB3, BX3, HKD⟩
        · rintro a wj5 ⟨g2, cap2, u0, u1, u2, u3, u4, u5, u6, u7, u8, u9, u11, u12, u13, u14, u15, u16, u17, u18, u19, u20, u21, u22, u23, u24, u25, u26, u27, u28, u29, u30, u31, u32, u33, u34, u35, u36, u37, u38, u39, u40, u41, u42, u43, u44, u45, u46, u47, u48, u49, u50, u51, u52, u53, u54, u55, u56, u57, rfl, op3, ob3, qb3, LX3, HB3, BX3, HKD⟩
          have oc5 := cbk ob3.out 0 (.pointer (some ⟨w1.heap.size + 1, 0, none⟩)) rfl
          have ol5 := blk_lt ob3.out
          go_wp2
          refine ⟨by simp, .inl ⟨_, _, rfl, run_takeDeferred HKD.out, ?_⟩⟩
          refine ⟨_, results_tmp rfl _ _ _, w1.heap.size + 1, w1.heap.size, w1.heap.size + 1 + 1, bs, g2, cap2, ps, rfl, ?_, ?_⟩
          · have hgp := grownBy_putObj' wj5 Dd (.deferred none)
            have hrp : ∀ r, some Dd = some r → Dd ≤ r ∧ ∃ o : Obj, wj5.heap[r]? = some o ∧ o.isCells = false := fun r e => by cases e; exact ⟨Nat.le_refl _, _, HKD.out, rfl⟩
            rw [HNL.out] at op3 LX3
            exact ⟨by rw [hps, HNL.out], blk_calm op3.out hgp hrp, own_calm LX3.out hgp hrp, BX3.out.map fun b c t f _ _ h => blk_calm h hgp hrp, blk_calm ob3.out hgp hrp, blk_calm qb3.out hgp hrp, by omega⟩
          · exact HB3.out.grown (grownBy_putObj' wj5 Dd _) (by have := HB3.out.size; omega) (fun k e => by cases e; omega)
      case stop =>
        rintro Dd c pre W hDd hpre hi hK
        exact hi.elim
end Go.Proofs.YtmidcnfmphlneaaGreat

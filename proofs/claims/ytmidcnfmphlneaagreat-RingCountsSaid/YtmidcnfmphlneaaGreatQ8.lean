/- Contracts of package layout: the plan. -/
import Derived.Test.YtmidcnfmphlneaaGreatQ7
namespace Go.Proofs.YtmidcnfmphlneaaGreat
open Go.RowKit
set_option linter.unusedSimpArgs false
set_option linter.unusedVariables false
theorem Tryz.infoSpan : (Tryz.prog.info? 105).map (fun i => (i.zero, i.size, i.bytes)) = some (some (.agg #[.int .i64 0, .int .i64 0]), 2, 16) := by kernel_rfl
theorem ButB.below {B n : Nat} {S : List Nat} {w W0 W : World} (h : ButB B S W0 W) (hb : Below n w W0) (hS : ∀ k, k ∈ S → n ≤ k) (hn : n ≤ B) : Below n w W :=
  ⟨h.os.trans hb.os, h.tape.trans hb.tape, h.output.trans hb.output, Nat.le_trans hb.size h.size, fun k hk => (h.block k (by omega) fun hm => by have := hS k hm; omega).trans (hb.block k hk)⟩
theorem ButB.blk {B : Nat} {S : List Nat} {W0 W : World} (h : ButB B S W0 W) {b : Nat} {o : Obj} (hk : W0.heap[b]? = some o) (hb : b < B) (hn : b ∉ S) : W.heap[b]? = some o := (h.block b hb hn).trans hk
set_option maxHeartbeats 400000 in
theorem sized_any (x : Chn) (h1 : 1 ≤ x.words) (h2 : x.words ≤ 16) (h3 : 0 ≤ x.depth) (h4 : x.depth ≤ 8) (w : World) : Calls Tryz.prog 107 #[.agg #[.int .i64 x.kind, .int .i64 x.frm, .int .i64 x.to, .int .i64 x.words, .int .i64 x.depth, .int .i64 x.period, .int .u32 x.boot]] w fun e w' => e = .returned (.int .i64 (sizedC x)) ∧ Below w.heap.size w w' := by
  obtain ⟨kd, fr, to, wd, dp, pe, bo⟩ := x
  dsimp only at h1 h2 h3 h4
  by_cases hk : kd = 1
  · have HS : Kp (sizedC ⟨kd, fr, to, wd, dp, pe, bo⟩ = 3 + 4 * (2 + wd)) := ⟨if_pos hk⟩
    have s1 : IntKind.i64.wrap (2 + wd) = 2 + wd := IntWalk.i64_in _ (by omega)
    have s2 : IntKind.i64.wrap (4 * (2 + wd)) = 4 * (2 + wd) := IntWalk.i64_in _ (by omega)
    have s3 : IntKind.i64.wrap (3 + 4 * (2 + wd)) = 3 + 4 * (2 + wd) := IntWalk.i64_in _ (by omega)
    subst hk
    go_enter Tryz.func107, Tryz.ntmps107
    go_wp2
    go_ret
    exact ⟨ret_int HS.out.symm, (by repeat (first | exact Below.refl _ _ | apply below_al))⟩
  · have HS : Kp (sizedC ⟨kd, fr, to, wd, dp, pe, bo⟩ = 1 + dp * (1 + wd)) := ⟨if_neg hk⟩
    have hk' : (kd == 1) = false := by simpa using hk
    have hm1 : 0 ≤ dp * (1 + wd) := Int.mul_nonneg h3 (by omega)
    have hm2 : dp * (1 + wd) ≤ 8 * 17 := Int.mul_le_mul h4 (by omega) (by omega) (by omega)
    have s1 : IntKind.i64.wrap (1 + wd) = 1 + wd := IntWalk.i64_in _ (by omega)
    have s2 : IntKind.i64.wrap (dp * (1 + wd)) = dp * (1 + wd) := IntWalk.i64_in _ (by omega)
    have s3 : IntKind.i64.wrap (1 + dp * (1 + wd)) = 1 + dp * (1 + wd) := IntWalk.i64_in _ (by omega)
    go_enter Tryz.func107, Tryz.ntmps107
    go_wp2
    go_ret
    exact ⟨ret_int HS.out.symm, (by repeat (first | exact Below.refl _ _ | apply below_al))⟩
set_option maxRecDepth 100000 in
set_option maxHeartbeats 4000000 in
theorem put_any (b base : Nat) (n e s : Int) (v : Value) (k : Nat) (xs : List Value) (w : World) (hX : w.heap[b]? = some (.cells #[.int .i64 n, v, .int .i64 e] 157 (0, 0))) (hO : w.ownsRow base 105 2 v k xs) (hb : b < base) (hbw : base ≤ w.heap.size)
    (hk : k ≤ 30) (he : 0 ≤ e ∧ e ≤ 5000) (hs : 0 ≤ s ∧ s ≤ 200) :
    Calls Tryz.prog 106 #[.pointer (some ⟨b, 0, none⟩), .int .i64 s] w fun r w' => (∃ u, r = .returned u) ∧ ∃ v', w'.heap[b]? = some (.cells #[.int .i64 n, v', .int .i64 (e + s)] 157 (0, 0)) ∧ w'.ownsRow base 105 2 v' (k + 1) (xs ++ [.int .i64 e, .int .i64 s]) ∧ ButB base [b] w w' := by
  obtain ⟨i0, hi, hz0, hz1, hz2⟩ := info_parts Tryz.infoSpan
  have HX := Kp.mk hX
  have HO := Kp.mk hO
  have HBU : Kp (ButB base [b] w w) := ⟨ButB.refl _ hbw⟩
  have s1 : IntKind.i64.wrap (e + s) = e + s := IntWalk.i64_in _ (by omega)
  obtain ⟨av, cv, rfl, hv1, hv2⟩ := (RowAt.of_own hO).shape
  clear hX hO
  go_enter Tryz.func106, Tryz.ntmps106
  go_wp2_with fail
  refine held_start_gen (S := (fun w' : World => ButB (base) [b] w w' ∧ ∀ bb o, bb < base → bb ≠ b → w'.cell? ⟨bb, o, none⟩ = w.cell? ⟨bb, o, none⟩)) (by kernel_rfl) (fun wz : World => Kp (wz.heap[b]? = some (.cells #[.int .i64 n, .slice av k cv, .int .i64 e] 157 (0, 0))) ∧ Kp (ButB base [b] w wz) ∧ Kp (wz.ownsRow (base) 105 2 (.slice av k cv) (k) (xs)) ∧ w.heap.size ≤ wz.heap.size) ⟨⟨blk_dr HX.out⟩, ⟨ButB.dr HBU.out⟩, ⟨HO.out⟩, Nat.le_refl _⟩ (sx_of1 (ButB.dr (ButB.refl _ (by omega)))) (fun wd0 hRn hHeld => ?_)
  clear HX HBU HO
  obtain ⟨HX, HBU, HO, hsz⟩ := hRn
  refine wtk 0 ?_ rfl (.inl ⟨by rfl, ?_⟩) ?_
  rotate_left 1
  · (intro w hSw; go_simp; try with_reducible rfl)
  try simp only [Act.put, ls0, ls1, ls2]
  refine wtk 1 ?_ rfl (.inl ⟨by rfl, ?_⟩) ?_
  rotate_left 1
  · (intro w hSw; go_simp; try with_reducible rfl)
  try simp only [Act.put, ls0, ls1, ls2]
  refine wtk 2 ?_ rfl (.inl ⟨by rfl, ?_⟩) ?_
  rotate_left 1
  · (intro w hSw; go_simp; try with_reducible rfl)
  try simp only [Act.put, ls0, ls1, ls2]
  refine wtk 3 ?_ rfl (.inl ⟨by rfl, ?_⟩) ?_
  rotate_left 1
  · (intro w hSw; go_simp; try with_reducible rfl)
  try simp only [Act.put, ls0, ls1, ls2]
  refine wtk 5 ?_ rfl (.inl ⟨by rfl, ?_⟩) ?_
  rotate_left 1
  · (intro w hSw; go_simp; try with_reducible rfl)
  try simp only [Act.put, ls0, ls1, ls2]
  refine wtk 6 ?_ rfl (.inl ⟨by rfl, ?_⟩) ?_
  rotate_left 1
  · (intro w hSw; go_simp; try with_reducible rfl)
  try simp only [Act.put, ls0, ls1, ls2]
  refine wtk 7 ?_ rfl (.inl ⟨by rfl, ?_⟩) ?_
  rotate_left 1
  · (intro w hSw; go_simp; try with_reducible rfl)
  try simp only [Act.put, ls0, ls1, ls2]
  refine wtk 9 ?_ rfl (.inl ⟨by rfl, ?_⟩) ?_
  rotate_left 1
  · (intro w hSw; go_simp; try with_reducible rfl)
  try simp only [Act.put, ls0, ls1, ls2]
  refine wrd [4, 8] ?_
  refine (arc rfl (fun K hK => ?_) (arc rfl (fun K hK => ?_) arn))
  · have sd1 := cbk HX.out 1 (.slice av k cv) rfl
    have sl := blk_lt HX.out
    go_simp
    try go_wp2_with fail
    refine out_gen hK _ _ (fun wz : World => Kp (wz.heap[b]? = some (.cells #[.int .i64 n, .slice av k cv, .int .i64 e] 157 (0, 0))) ∧ Kp (ButB base [b] w wz) ∧ Kp (wz.ownsRow (base) 105 2 (.slice av k cv) (k) (xs)) ∧ wd0.heap.size ≤ wz.heap.size) ⟨⟨HX.out⟩, ⟨HBU.out⟩, ⟨HO.out⟩, Nat.le_refl _⟩ (sx_of1 ((And.left hHeld))) (fun wd1 hRn hHn => ?_)
    clear hK K hHeld HX HBU HO  sd1 sl
    obtain ⟨HX, HBU, HO, hsz1⟩ := hRn
    have hHeld := hHn
    clear hHn
    try simp only [Act.put, ls0, ls1, ls2]
    refine wrd [8] ?_
    refine (arc rfl (fun K hK => ?_) arn)
    have sd2 := cbk HX.out 2 (.int .i64 e) rfl
    have sl := blk_lt HX.out
    go_simp
    try go_wp2_with fail
    refine out_gen hK _ _ (fun wz : World => Kp (wz.heap[b]? = some (.cells #[.int .i64 n, .slice av k cv, .int .i64 e] 157 (0, 0))) ∧ Kp (ButB base [b] w wz) ∧ Kp (wz.ownsRow (base) 105 2 (.slice av k cv) (k) (xs)) ∧ wd1.heap.size ≤ wz.heap.size) ⟨⟨HX.out⟩, ⟨HBU.out⟩, ⟨HO.out⟩, Nat.le_refl _⟩ (sx_of1 ((And.left hHeld))) (fun wd2 hRn hHn => ?_)
    clear hK K hHeld HX HBU HO  sd2 sl
    obtain ⟨HX, HBU, HO, hsz2⟩ := hRn
    have hHeld := hHn
    clear hHn
    try simp only [Act.put, ls0, ls1, ls2]
    refine wtk 10 ?_ rfl (.inl ⟨by rfl, ?_⟩) ?_
    rotate_left 1
    · (intro w hSw; go_simp; try with_reducible rfl)
    try simp only [Act.put, ls0, ls1, ls2]
    refine wrd [11] ?_
    refine (arc rfl (fun K hK => ?_) arn)
    have ge_HE : w.heap.size ≤ wd2.heap.size := (And.left hHeld).size
    go_simp
    try go_wp2_with fail
    refine out_gen hK _ _ (fun wz : World => Kp (wz.heap[b]? = some (.cells #[.int .i64 n, .slice av k cv, .int .i64 e] 157 (0, 0))) ∧ Kp (ButB base [b] w wz) ∧ Kp (wz.ownsRow (base) 105 2 (.slice av k cv) (k) (xs)) ∧ Kp (wz.heap[wd2.heap.size]? = some (.cells #[.int .i64 e, .int .i64 s] 105 (0, 0))) ∧ wd2.heap.size < wz.heap.size) ⟨⟨blk_al HX.out _⟩, ⟨ButB.al HBU.out _⟩, ⟨HO.out.alloc _⟩, ⟨blk_new wd2 _⟩, (by simp)⟩ (sx_of1 (ButB.al (And.left hHeld) _)) (fun wd3 hRn hHn => ?_)
    clear hK K hHeld HX HBU HO
    obtain ⟨HX, HBU, HO, HE, hsz3⟩ := hRn
    have hHeld := hHn
    clear hHn
    try simp only [Act.put, ls0, ls1, ls2]
    have lt_HE := blk_lt HE.out
    refine wrd [12] ?_
    refine (arc rfl (fun K hK => ?_) arn)
    have hws := (And.left hHeld).size
    refine step_append_lies _ (by rfl) _ _ 155 (by rfl) (base) 105 i0 (.agg #[.int .i64 0, .int .i64 0]) 2 16 Tryz.underlying155 hi hz0 hz1 hz2 (by rfl) (by decide) _ _ _ (by rfl) HO.out _ 1 _ [.int .i64 e, .int .i64 s] (by rfl) rfl (World.news_of_block HE.out) (by simp [Value.oneCell']) (by omega) (by unfold maxLen; omega) (by omega) (by have := hws; omega) _ rfl ?_
    intro g3 k3 w9 hown hgrow hat hlt
    refine out_gen hK _ _ (fun wz : World => Kp (wz.heap[b]? = some (.cells #[.int .i64 n, .slice av k cv, .int .i64 e] 157 (0, 0))) ∧ Kp (ButB base [b] w wz) ∧ Kp (wz.ownsRow (base) 105 2 (.slice (some ⟨g3, 0, none⟩) (k + 1) k3) (k + 1) (xs ++ [.int .i64 e, .int .i64 s])) ∧ wd3.heap.size ≤ wz.heap.size) ⟨⟨blk_grownR HX.out HO.out hgrow (by first | (intro hq; have := (HO.out.lt _ hq).1; omega) | (intro hq; simp [Value.ownBlock] at hq; omega))⟩, ⟨ButB.grown HBU.out HO.out hgrow (by omega)⟩, ⟨hown⟩, hgrow.size⟩ (sx_of1 (ButB.grown (And.left hHeld) HO.out hgrow (by omega))) (fun wd4 hRn hHn => ?_)
    clear hK K hHeld HX HBU HO HE hown hgrow hat hlt hws
    obtain ⟨HX, HBU, HO, hsz4⟩ := hRn
    have hHeld := hHn
    clear hHn
    try simp only [Act.put, ls0, ls1, ls2]
    try simp only [Nat.zero_add]
    refine wtk 13 ?_ rfl (.inl ⟨by rfl, ?_⟩) ?_
    rotate_left 1
    · (intro w hSw; go_simp; try with_reducible rfl)
    try simp only [Act.put, ls0, ls1, ls2]
    refine wtk 14 ?_ rfl (.inl ⟨by rfl, ?_⟩) ?_
    rotate_left 1
    · (intro w hSw; go_simp; try with_reducible rfl)
    try simp only [Act.put, ls0, ls1, ls2]
    refine wrd [15] ?_
    refine (arc rfl (fun K hK => ?_) arn)
    have sd := cbk HX.out 1 (.slice av k cv) rfl
    have sf := frozen_blk HX.out 1
    have sl := blk_lt HX.out
    go_simp
    try go_wp2_with fail
    refine out_gen hK _ _ (fun wz : World => Kp (wz.heap[b]? = some (.cells #[.int .i64 n, .slice (some ⟨g3, 0, none⟩) (k + 1) k3, .int .i64 e] 157 (0, 0))) ∧ Kp (ButB base [b] w wz) ∧ Kp (wz.ownsRow (base) 105 2 (.slice (some ⟨g3, 0, none⟩) (k + 1) k3) (k + 1) (xs ++ [.int .i64 e, .int .i64 s])) ∧ wd4.heap.size ≤ wz.heap.size) ⟨⟨(blk_set HX.out 1 _).trans rfl⟩, ⟨ButB.set HBU.out (by left; simp) _⟩, ⟨own_set_ne HO.out (p := ⟨b, 1, none⟩) (by show b < base; omega) _⟩, (by simp [World.setCell])⟩ (sx_of1 (ButB.set (And.left hHeld) (p := ⟨b, 1, none⟩) (by first | (left; simp; done) | (right; show _ ≤ b; omega)) _)) (fun wd5 hRn hHn => ?_)
    clear hK K hHeld HX HBU HO sd sf sl
    obtain ⟨HX, HBU, HO, hsz5⟩ := hRn
    have hHeld := hHn
    clear hHn
    try simp only [Act.put, ls0, ls1, ls2]
    refine wpAnyH_done (by kernel_rfl) ?_ _
    have c1 := cbk HX.out 2 (.int .i64 e) rfl
    have c2 := frozen_blk HX.out 2
    have c3 := blk_lt HX.out
    go_wp2
    go_end0
    exact ⟨⟨_, rfl⟩, _, (blk_set HX.out 2 _).trans rfl, own_set_ne HO.out (p := ⟨b, 2, none⟩) (by show b < base; omega) _, ButB.set HBU.out (p := ⟨b, 2, none⟩) (by left; simp) _⟩
  · have sd2 := cbk HX.out 2 (.int .i64 e) rfl
    have sl := blk_lt HX.out
    go_simp
    try go_wp2_with fail
    refine out_gen hK _ _ (fun wz : World => Kp (wz.heap[b]? = some (.cells #[.int .i64 n, .slice av k cv, .int .i64 e] 157 (0, 0))) ∧ Kp (ButB base [b] w wz) ∧ Kp (wz.ownsRow (base) 105 2 (.slice av k cv) (k) (xs)) ∧ wd0.heap.size ≤ wz.heap.size) ⟨⟨HX.out⟩, ⟨HBU.out⟩, ⟨HO.out⟩, Nat.le_refl _⟩ (sx_of1 ((And.left hHeld))) (fun wd6 hRn hHn => ?_)
    clear hK K hHeld HX HBU HO  sd2 sl
    obtain ⟨HX, HBU, HO, hsz6⟩ := hRn
    have hHeld := hHn
    clear hHn
    try simp only [Act.put, ls0, ls1, ls2]
    refine wtk 10 ?_ rfl (.inl ⟨by rfl, ?_⟩) ?_
    rotate_left 1
    · (intro w hSw; go_simp; try with_reducible rfl)
    try simp only [Act.put, ls0, ls1, ls2]
    refine wrd [4, 11] ?_
    refine (arc rfl (fun K hK => ?_) (arc rfl (fun K hK => ?_) arn))
    · have sd1 := cbk HX.out 1 (.slice av k cv) rfl
      have sl := blk_lt HX.out
      go_simp
      try go_wp2_with fail
      refine out_gen hK _ _ (fun wz : World => Kp (wz.heap[b]? = some (.cells #[.int .i64 n, .slice av k cv, .int .i64 e] 157 (0, 0))) ∧ Kp (ButB base [b] w wz) ∧ Kp (wz.ownsRow (base) 105 2 (.slice av k cv) (k) (xs)) ∧ wd6.heap.size ≤ wz.heap.size) ⟨⟨HX.out⟩, ⟨HBU.out⟩, ⟨HO.out⟩, Nat.le_refl _⟩ (sx_of1 ((And.left hHeld))) (fun wd7 hRn hHn => ?_)
      clear hK K hHeld HX HBU HO  sd1 sl
      obtain ⟨HX, HBU, HO, hsz7⟩ := hRn
      have hHeld := hHn
      clear hHn
      try simp only [Act.put, ls0, ls1, ls2]
      refine wrd [11] ?_
      refine (arc rfl (fun K hK => ?_) arn)
      have ge_HE : w.heap.size ≤ wd7.heap.size := (And.left hHeld).size
      go_simp
      try go_wp2_with fail
      refine out_gen hK _ _ (fun wz : World => Kp (wz.heap[b]? = some (.cells #[.int .i64 n, .slice av k cv, .int .i64 e] 157 (0, 0))) ∧ Kp (ButB base [b] w wz) ∧ Kp (wz.ownsRow (base) 105 2 (.slice av k cv) (k) (xs)) ∧ Kp (wz.heap[wd7.heap.size]? = some (.cells #[.int .i64 e, .int .i64 s] 105 (0, 0))) ∧ wd7.heap.size < wz.heap.size) ⟨⟨blk_al HX.out _⟩, ⟨ButB.al HBU.out _⟩, ⟨HO.out.alloc _⟩, ⟨blk_new wd7 _⟩, (by simp)⟩ (sx_of1 (ButB.al (And.left hHeld) _)) (fun wd8 hRn hHn => ?_)
      clear hK K hHeld HX HBU HO
      obtain ⟨HX, HBU, HO, HE, hsz8⟩ := hRn
      have hHeld := hHn
      clear hHn
      try simp only [Act.put, ls0, ls1, ls2]
      have lt_HE := blk_lt HE.out
      refine wrd [12] ?_
      refine (arc rfl (fun K hK => ?_) arn)
      have hws := (And.left hHeld).size
      refine step_append_lies _ (by rfl) _ _ 155 (by rfl) (base) 105 i0 (.agg #[.int .i64 0, .int .i64 0]) 2 16 Tryz.underlying155 hi hz0 hz1 hz2 (by rfl) (by decide) _ _ _ (by rfl) HO.out _ 1 _ [.int .i64 e, .int .i64 s] (by rfl) rfl (World.news_of_block HE.out) (by simp [Value.oneCell']) (by omega) (by unfold maxLen; omega) (by omega) (by have := hws; omega) _ rfl ?_
      intro g3 k3 w9 hown hgrow hat hlt
      refine out_gen hK _ _ (fun wz : World => Kp (wz.heap[b]? = some (.cells #[.int .i64 n, .slice av k cv, .int .i64 e] 157 (0, 0))) ∧ Kp (ButB base [b] w wz) ∧ Kp (wz.ownsRow (base) 105 2 (.slice (some ⟨g3, 0, none⟩) (k + 1) k3) (k + 1) (xs ++ [.int .i64 e, .int .i64 s])) ∧ wd8.heap.size ≤ wz.heap.size) ⟨⟨blk_grownR HX.out HO.out hgrow (by first | (intro hq; have := (HO.out.lt _ hq).1; omega) | (intro hq; simp [Value.ownBlock] at hq; omega))⟩, ⟨ButB.grown HBU.out HO.out hgrow (by omega)⟩, ⟨hown⟩, hgrow.size⟩ (sx_of1 (ButB.grown (And.left hHeld) HO.out hgrow (by omega))) (fun wd9 hRn hHn => ?_)
      clear hK K hHeld HX HBU HO HE hown hgrow hat hlt hws
      obtain ⟨HX, HBU, HO, hsz9⟩ := hRn
      have hHeld := hHn
      clear hHn
      try simp only [Act.put, ls0, ls1, ls2]
      try simp only [Nat.zero_add]
      refine wtk 13 ?_ rfl (.inl ⟨by rfl, ?_⟩) ?_
      rotate_left 1
      · (intro w hSw; go_simp; try with_reducible rfl)
      try simp only [Act.put, ls0, ls1, ls2]
      refine wtk 14 ?_ rfl (.inl ⟨by rfl, ?_⟩) ?_
      rotate_left 1
      · (intro w hSw; go_simp; try with_reducible rfl)
      try simp only [Act.put, ls0, ls1, ls2]
      refine wrd [15] ?_
      refine (arc rfl (fun K hK => ?_) arn)
      have sd := cbk HX.out 1 (.slice av k cv) rfl
      have sf := frozen_blk HX.out 1
      have sl := blk_lt HX.out
      go_simp
      try go_wp2_with fail
      refine out_gen hK _ _ (fun wz : World => Kp (wz.heap[b]? = some (.cells #[.int .i64 n, .slice (some ⟨g3, 0, none⟩) (k + 1) k3, .int .i64 e] 157 (0, 0))) ∧ Kp (ButB base [b] w wz) ∧ Kp (wz.ownsRow (base) 105 2 (.slice (some ⟨g3, 0, none⟩) (k + 1) k3) (k + 1) (xs ++ [.int .i64 e, .int .i64 s])) ∧ wd9.heap.size ≤ wz.heap.size) ⟨⟨(blk_set HX.out 1 _).trans rfl⟩, ⟨ButB.set HBU.out (by left; simp) _⟩, ⟨own_set_ne HO.out (p := ⟨b, 1, none⟩) (by show b < base; omega) _⟩, (by simp [World.setCell])⟩ (sx_of1 (ButB.set (And.left hHeld) (p := ⟨b, 1, none⟩) (by first | (left; simp; done) | (right; show _ ≤ b; omega)) _)) (fun wd10 hRn hHn => ?_)
      clear hK K hHeld HX HBU HO sd sf sl
      obtain ⟨HX, HBU, HO, hsz10⟩ := hRn
      have hHeld := hHn
      clear hHn
      try simp only [Act.put, ls0, ls1, ls2]
      refine wpAnyH_done (by kernel_rfl) ?_ _
      have c1 := cbk HX.out 2 (.int .i64 e) rfl
      have c2 := frozen_blk HX.out 2
      have c3 := blk_lt HX.out
      go_wp2
      go_end0
      exact ⟨⟨_, rfl⟩, _, (blk_set HX.out 2 _).trans rfl, own_set_ne HO.out (p := ⟨b, 2, none⟩) (by show b < base; omega) _, ButB.set HBU.out (p := ⟨b, 2, none⟩) (by left; simp) _⟩
    · have ge_HE : w.heap.size ≤ wd6.heap.size := (And.left hHeld).size
      go_simp
      try go_wp2_with fail
      refine out_gen hK _ _ (fun wz : World => Kp (wz.heap[b]? = some (.cells #[.int .i64 n, .slice av k cv, .int .i64 e] 157 (0, 0))) ∧ Kp (ButB base [b] w wz) ∧ Kp (wz.ownsRow (base) 105 2 (.slice av k cv) (k) (xs)) ∧ Kp (wz.heap[wd6.heap.size]? = some (.cells #[.int .i64 e, .int .i64 s] 105 (0, 0))) ∧ wd6.heap.size < wz.heap.size) ⟨⟨blk_al HX.out _⟩, ⟨ButB.al HBU.out _⟩, ⟨HO.out.alloc _⟩, ⟨blk_new wd6 _⟩, (by simp)⟩ (sx_of1 (ButB.al (And.left hHeld) _)) (fun wd11 hRn hHn => ?_)
      clear hK K hHeld HX HBU HO
      obtain ⟨HX, HBU, HO, HE, hsz11⟩ := hRn
      have hHeld := hHn
      clear hHn
      try simp only [Act.put, ls0, ls1, ls2]
      have lt_HE := blk_lt HE.out
      refine wrd [4] ?_
      refine (arc rfl (fun K hK => ?_) arn)
      have sd1 := cbk HX.out 1 (.slice av k cv) rfl
      have sl := blk_lt HX.out
      go_simp
      try go_wp2_with fail
      refine out_gen hK _ _ (fun wz : World => Kp (wz.heap[b]? = some (.cells #[.int .i64 n, .slice av k cv, .int .i64 e] 157 (0, 0))) ∧ Kp (ButB base [b] w wz) ∧ Kp (wz.ownsRow (base) 105 2 (.slice av k cv) (k) (xs)) ∧ Kp (wz.heap[wd6.heap.size]? = some (.cells #[.int .i64 e, .int .i64 s] 105 (0, 0))) ∧ wd11.heap.size ≤ wz.heap.size) ⟨⟨HX.out⟩, ⟨HBU.out⟩, ⟨HO.out⟩, ⟨HE.out⟩, Nat.le_refl _⟩ (sx_of1 ((And.left hHeld))) (fun wd12 hRn hHn => ?_)
      clear hK K hHeld HX HBU HO HE  sd1 sl
      obtain ⟨HX, HBU, HO, HE, hsz12⟩ := hRn
      have hHeld := hHn
      clear hHn
      try simp only [Act.put, ls0, ls1, ls2]
      refine wrd [12] ?_
      refine (arc rfl (fun K hK => ?_) arn)
      have hws := (And.left hHeld).size
      refine step_append_lies _ (by rfl) _ _ 155 (by rfl) (base) 105 i0 (.agg #[.int .i64 0, .int .i64 0]) 2 16 Tryz.underlying155 hi hz0 hz1 hz2 (by rfl) (by decide) _ _ _ (by rfl) HO.out _ 1 _ [.int .i64 e, .int .i64 s] (by rfl) rfl (World.news_of_block HE.out) (by simp [Value.oneCell']) (by omega) (by unfold maxLen; omega) (by omega) (by have := hws; omega) _ rfl ?_
      intro g3 k3 w9 hown hgrow hat hlt
      refine out_gen hK _ _ (fun wz : World => Kp (wz.heap[b]? = some (.cells #[.int .i64 n, .slice av k cv, .int .i64 e] 157 (0, 0))) ∧ Kp (ButB base [b] w wz) ∧ Kp (wz.ownsRow (base) 105 2 (.slice (some ⟨g3, 0, none⟩) (k + 1) k3) (k + 1) (xs ++ [.int .i64 e, .int .i64 s])) ∧ wd12.heap.size ≤ wz.heap.size) ⟨⟨blk_grownR HX.out HO.out hgrow (by first | (intro hq; have := (HO.out.lt _ hq).1; omega) | (intro hq; simp [Value.ownBlock] at hq; omega))⟩, ⟨ButB.grown HBU.out HO.out hgrow (by omega)⟩, ⟨hown⟩, hgrow.size⟩ (sx_of1 (ButB.grown (And.left hHeld) HO.out hgrow (by omega))) (fun wd13 hRn hHn => ?_)
      clear hK K hHeld HX HBU HO HE hown hgrow hat hlt hws
      obtain ⟨HX, HBU, HO, hsz13⟩ := hRn
      have hHeld := hHn
      clear hHn
      try simp only [Act.put, ls0, ls1, ls2]
      try simp only [Nat.zero_add]
      refine wtk 13 ?_ rfl (.inl ⟨by rfl, ?_⟩) ?_
      rotate_left 1
      · (intro w hSw; go_simp; try with_reducible rfl)
      try simp only [Act.put, ls0, ls1, ls2]
      refine wtk 14 ?_ rfl (.inl ⟨by rfl, ?_⟩) ?_
      rotate_left 1
      · (intro w hSw; go_simp; try with_reducible rfl)
      try simp only [Act.put, ls0, ls1, ls2]
      refine wrd [15] ?_
      refine (arc rfl (fun K hK => ?_) arn)
      have sd := cbk HX.out 1 (.slice av k cv) rfl
      have sf := frozen_blk HX.out 1
      have sl := blk_lt HX.out
      go_simp
      try go_wp2_with fail
      refine out_gen hK _ _ (fun wz : World => Kp (wz.heap[b]? = some (.cells #[.int .i64 n, .slice (some ⟨g3, 0, none⟩) (k + 1) k3, .int .i64 e] 157 (0, 0))) ∧ Kp (ButB base [b] w wz) ∧ Kp (wz.ownsRow (base) 105 2 (.slice (some ⟨g3, 0, none⟩) (k + 1) k3) (k + 1) (xs ++ [.int .i64 e, .int .i64 s])) ∧ wd13.heap.size ≤ wz.heap.size) ⟨⟨(blk_set HX.out 1 _).trans rfl⟩, ⟨ButB.set HBU.out (by left; simp) _⟩, ⟨own_set_ne HO.out (p := ⟨b, 1, none⟩) (by show b < base; omega) _⟩, (by simp [World.setCell])⟩ (sx_of1 (ButB.set (And.left hHeld) (p := ⟨b, 1, none⟩) (by first | (left; simp; done) | (right; show _ ≤ b; omega)) _)) (fun wd14 hRn hHn => ?_)
      clear hK K hHeld HX HBU HO sd sf sl
      obtain ⟨HX, HBU, HO, hsz14⟩ := hRn
      have hHeld := hHn
      clear hHn
      try simp only [Act.put, ls0, ls1, ls2]
      refine wpAnyH_done (by kernel_rfl) ?_ _
      have c1 := cbk HX.out 2 (.int .i64 e) rfl
      have c2 := frozen_blk HX.out 2
      have c3 := blk_lt HX.out
      go_wp2
      go_end0
      exact ⟨⟨_, rfl⟩, _, (blk_set HX.out 2 _).trans rfl, own_set_ne HO.out (p := ⟨b, 2, none⟩) (by show b < base; omega) _, ButB.set HBU.out (p := ⟨b, 2, none⟩) (by left; simp) _⟩
set_option maxRecDepth 100000 in
set_option maxHeartbeats 4000000 in
theorem of_no (cv : Value) (C : Cfg) (hsm : C.small) (ha : accB C = false) (w : World) (h : CfgAt w cv C) : Calls Tryz.prog 95 #[cv] w fun e w' => e = .returned (.agg #[.int .i64 0, .slice none 0 0, .int .i64 0]) ∧ Below w.heap.size w w' := by
  have HC := Kp.mk h
  obtain ⟨ho, pa, pc, ca, cc, a0, c0, a1, c1, rfl, bp, bc, b0, b1, hp, hc, hw0, hw1⟩ := h
  clear ho hp hc hw0 hw1
  go_enter Tryz.func95, Tryz.ntmps95
  have HB0 : Kp (Below w.heap.size w w) := ⟨Below.refl _ _⟩
  go_wp2_with fail
  refine (accepts_any _ C hsm _ (HC.out.below (below_al (below_al HB0.out _) _))).mono ?_
  rw [accB_first, ha]
  rintro e w1 ⟨rfl, hb⟩
  have q1 : Kp (w1.heap[w.heap.size]? = some (.cells #[.slice pa C.parts.length pc, .slice ca C.chans.length cc, .int .i64 C.l0, .slice a0 C.w0.length c0, .int .i64 C.l1, .slice a1 C.w1.length c1] 31 (0, 0))) := ⟨blk_below (blk_al (blk_new _ _) _) hb⟩
  have r1 : Kp (w1.heap[w.heap.size + 1]? = some (.cells #[.int .i64 0, .slice none 0 0, .int .i64 0] 157 (0, 0))) := ⟨blk_below (blk_at (w := (w.alloc (.cells #[.slice pa C.parts.length pc, .slice ca C.chans.length cc, .int .i64 C.l0, .slice a0 C.w0.length c0, .int .i64 C.l1, .slice a1 C.w1.length c1] 31))) (by simp) _) hb⟩
  have HB1 : Kp (Below w.heap.size w w1) := ⟨below_call (below_al (below_al HB0.out _) _) hb⟩
  clear HB0 hb
  have qc0 := cbk q1.out 0 (.slice pa C.parts.length pc) rfl
  have qc1 := cbk q1.out 1 (.slice ca C.chans.length cc) rfl
  have qc2 := cbk q1.out 2 (.int .i64 C.l0) rfl
  have qc3 := cbk q1.out 3 (.slice a0 C.w0.length c0) rfl
  have qc4 := cbk q1.out 4 (.int .i64 C.l1) rfl
  have qc5 := cbk q1.out 5 (.slice a1 C.w1.length c1) rfl
  have ql := blk_lt q1.out
  have rc0 := cbk r1.out 0 (.int .i64 0) rfl
  have rc1 := cbk r1.out 1 (.slice none 0 0) rfl
  have rc2 := cbk r1.out 2 (.int .i64 0) rfl
  have rl := blk_lt r1.out
  have rf0 := frozen_blk r1.out 0
  have rf1 := frozen_blk r1.out 1
  have rf2 := frozen_blk r1.out 2
  go_wp2
  exact bodyPost_ret (v := .agg #[.int .i64 0, .slice none 0 0, .int .i64 0]) (results_cell_row rfl _ _ _ _ _ _ _ rfl ((blk_set (blk_set (blk_set r1.out 0 _) 1 _) 2 _).trans rfl) Tryz.underlying157 rfl (by kernel_rfl)) rfl ⟨rfl, (Below.setCell (Below.setCell (Below.setCell HB1.out (p := ⟨w.heap.size + 1, 0, none⟩) (by show w.heap.size ≤ w.heap.size + 1; omega) _) (p := ⟨w.heap.size + 1, 1, none⟩) (by show w.heap.size ≤ w.heap.size + 1; omega) _) (p := ⟨w.heap.size + 1, 2, none⟩) (by show w.heap.size ≤ w.heap.size + 1; omega) _)⟩
theorem spans_row (l : List Int) (s : Int) : (spansF 0 (l ++ [s])).flatMap spanC = (spansF 0 l).flatMap spanC ++ [.int .i64 l.sum, .int .i64 s] := by
  rw [spansF_snoc, List.flatMap_append]; simp [spanC]
set_option maxRecDepth 100000 in
set_option maxHeartbeats 8000000 in
theorem of_yes (cv : Value) (C : Cfg) (hsm : C.small) (ha : accB C = true) (w : World) (h : CfgAt w cv C) : Calls Tryz.prog 95 #[cv] w fun e w' => (∃ v, e = .returned (.agg #[.int .i64 C.parts.length, v, .int .i64 (planE C)]) ∧ w'.ownsRow w.heap.size 105 2 v (planL C).length ((planL C).flatMap spanC)) ∧ Below w.heap.size w w' := by
  have HC := Kp.mk h
  have hs1 := hsm.1
  have hs2 := hsm.2.1
  obtain ⟨ho, pa, pc, ca, cc, a0, c0, a1, c1, rfl, bp, bc, b0, b1, hp, hc, hw0, hw1⟩ := h
  have HP := Kp.mk hp
  have HCH := Kp.mk hc
  have hACC := acc_of ha
  have hnp := hACC.np
  have hnc := hACC.nc
  have HPA := Kp.mk hACC.parts
  clear hp hc hw0 hw1 ho hACC
  go_enter Tryz.func95, Tryz.ntmps95
  have HB0 : Kp (Below w.heap.size w w) := ⟨Below.refl _ _⟩
  go_wp2_with fail
  refine (accepts_any _ C hsm _ (HC.out.below (below_al (below_al HB0.out _) _))).mono ?_
  rw [accB_first, ha]
  rintro e w1 ⟨rfl, hb⟩
  have q1 : Kp (w1.heap[w.heap.size]? = some (.cells #[.slice pa C.parts.length pc, .slice ca C.chans.length cc, .int .i64 C.l0, .slice a0 C.w0.length c0, .int .i64 C.l1, .slice a1 C.w1.length c1] 31 (0, 0))) := ⟨blk_below (blk_al (blk_new _ _) _) hb⟩
  have r1 : Kp (w1.heap[w.heap.size + 1]? = some (.cells #[.int .i64 0, .slice none 0 0, .int .i64 0] 157 (0, 0))) := ⟨blk_below (blk_at (w := (w.alloc (.cells #[.slice pa C.parts.length pc, .slice ca C.chans.length cc, .int .i64 C.l0, .slice a0 C.w0.length c0, .int .i64 C.l1, .slice a1 C.w1.length c1] 31))) (by simp) _) hb⟩
  have HB1 : Kp (Below w.heap.size w w1) := ⟨below_call (below_al (below_al HB0.out _) _) hb⟩
  clear HB0 hb
  have qc0 := cbk q1.out 0 (.slice pa C.parts.length pc) rfl
  have qc1 := cbk q1.out 1 (.slice ca C.chans.length cc) rfl
  have qc2 := cbk q1.out 2 (.int .i64 C.l0) rfl
  have qc3 := cbk q1.out 3 (.slice a0 C.w0.length c0) rfl
  have qc4 := cbk q1.out 4 (.int .i64 C.l1) rfl
  have qc5 := cbk q1.out 5 (.slice a1 C.w1.length c1) rfl
  have ql := blk_lt q1.out
  have rc0 := cbk r1.out 0 (.int .i64 0) rfl
  have rc1 := cbk r1.out 1 (.slice none 0 0) rfl
  have rc2 := cbk r1.out 2 (.int .i64 0) rfl
  have rl := blk_lt r1.out
  have hw1 := HB1.out.size
  go_wp2_with fail
  generalize hbp : w1.heap.size = bp
  have HBP : Kp (w1.heap.size = bp) := ⟨hbp⟩
  have hl1 : w.heap.size + 1 < bp := by omega
  clear hbp
  obtain ⟨base, hbase⟩ : ∃ n, bp + 1 = n := ⟨_, rfl⟩
  have HBA := Kp.mk hbase
  have hb1 : bp < base := by omega
  clear hbase
  go_loopw [21] (fun i wr => ∃ (k : Nat) (v : Value), k ≤ C.parts.length ∧ i = .int .i64 k ∧ base ≤ wr.heap.size ∧ Kp (Below w.heap.size w wr) ∧ Kp (wr.heap[w.heap.size]? = some (.cells #[.slice pa C.parts.length pc, .slice ca C.chans.length cc, .int .i64 C.l0, .slice a0 C.w0.length c0, .int .i64 C.l1, .slice a1 C.w1.length c1] 31 (0, 0))) ∧ Kp (wr.heap[w.heap.size + 1]? = some (.cells #[.int .i64 0, .slice none 0 0, .int .i64 0] 157 (0, 0))) ∧ Kp (wr.heap[bp]? = some (.cells #[.int .i64 C.parts.length, v, .int .i64 (privS C k)] 157 (0, 0))) ∧ Kp (wr.ownsRow base 105 2 v (k) ((spansF 0 ((C.parts.take k).map (·.2))).flatMap spanC))) (fun i wr => C.parts.length - (intOf i).toNat)
  case atStart => exact ⟨0, .slice none 0 0, Nat.zero_le _, rfl, by simp; have := HBP.out; have := HBA.out; omega, ⟨below_al HB1.out _⟩, ⟨blk_al q1.out _⟩, ⟨blk_al r1.out _⟩, ⟨by rw [← HBP.out]; exact blk_new w1 _⟩, ⟨World.ownsRow_nil _ _ _ _⟩⟩
  case round =>
    obtain ⟨k, v, hk, rfl, hbw, HB, HK, HR, HX, HO⟩ := hrel
    have q0 := cbk HK.out 0 (.slice pa C.parts.length pc) rfl
    have q1 := cbk HK.out 1 (.slice ca C.chans.length cc) rfl
    have lq := blk_lt HK.out
    by_cases hlt : k < C.parts.length
    · obtain ⟨g, o, ha', hg, hcc⟩ := HP.out.at (by omega)
      obtain ⟨x, hx⟩ : ∃ x, C.parts[k] = x := ⟨_, rfl⟩
      have hcu : ∀ j, j < 2 → wr.cell? ⟨g, o + k * 2 + j, none⟩ = (partC x)[j]? := fun j hj => by
        have h1 := hcc (k * 2 + j) (by omega)
        rw [flat_at partC 2 partC_len C.parts k j hlt hj, hx] at h1
        rw [Nat.add_assoc]
        exact (HB.out.cell (p := ⟨g, o + (k * 2 + j), none⟩) hg).trans h1
      have e0 : wr.cell? ⟨g, o + k * 2, none⟩ = some (.int .i64 x.1) := hcu 0 (by omega)
      have e1 : wr.cell? ⟨g, o + k * 2 + 1, none⟩ = some (.int .i64 x.2) := hcu 1 (by omega)
      have hxs : 0 ≤ x.2 ∧ x.2 ≤ 64 := hx ▸ (HPA.out _ (List.getElem_mem hlt)).2
      have hps := privS_small ha k
      have HNS : Kp (privS C (k + 1) = privS C k + x.2) := ⟨by rw [privS_succ C k hlt, hx]⟩
      have HNR : Kp ((spansF 0 ((C.parts.take (k + 1)).map (·.2))).flatMap spanC = (spansF 0 ((C.parts.take k).map (·.2))).flatMap spanC ++ [.int .i64 (privS C k), .int .i64 x.2]) := ⟨by
        rw [List.take_succ_eq_append_getElem hlt, List.map_append, hx]
        exact spans_row _ _⟩
      obtain ⟨p1, p2⟩ := x
      dsimp only at e0 e1 hxs HNS HNR
      subst ha'
      have hgr : g < wr.heap.size := Nat.lt_of_lt_of_le hg HB.out.size
      clear hcu hcc hx
      obtain ⟨ex, hex⟩ : ∃ ex, privS C k = ex := ⟨_, rfl⟩
      rw [hex] at HX hps
      have HEX := Kp.mk hex
      clear hex
      go_wp2_with fail
      refine (put_any bp base (C.parts.length : Int) ex p2 _ k _ _ (blk_al HX.out _) (HO.out.alloc _) (by omega) (by simp; omega) (by omega) (by omega) (by omega)).mono ?_
      rintro e w9 ⟨⟨u, rfl⟩, v', hX, hO, hBu⟩
      have HB' : Kp (Below w.heap.size w w9) := ⟨hBu.below (below_al HB.out _) (by simp; omega) (by omega)⟩
      have HK' := Kp.mk (hBu.blk (blk_al HK.out _) (by omega) (by simp; omega))
      have HR' := Kp.mk (hBu.blk (blk_al HR.out _) (by omega) (by simp; omega))
      have HX' := Kp.mk hX
      have HO' := Kp.mk hO
      have HSZ' := hBu.size
      clear hX hO hBu HB HK HR HX HO q0 q1 lq
      have hsz : wr.heap.size < w9.heap.size := by have h := HSZ'; simp at h; omega
      clear HSZ'
      go_wp2
      go_roundw
      case rel => exact ⟨k + 1, _, by omega, by go_num, by omega, HB', HK', HR', ⟨by rw [HNS.out, HEX.out]; exact HX'.out⟩, ⟨by rw [HNR.out, HEX.out]; exact HO'.out⟩⟩
      case measure => simp [intOf]; omega
    · obtain rfl : k = C.parts.length := by omega
      obtain ⟨wo, rfl⟩ : ∃ wo : World, wo = wr := ⟨_, rfl⟩
      go_wp2_with fail
      clear q0 q1 lq
      go_loopw [33] (fun i wr => ∃ (m : Nat) (v : Value), m ≤ C.chans.length ∧ i = .int .i64 m ∧ base ≤ wr.heap.size ∧ Kp (Below w.heap.size w wr) ∧ Kp (wr.heap[w.heap.size]? = some (.cells #[.slice pa C.parts.length pc, .slice ca C.chans.length cc, .int .i64 C.l0, .slice a0 C.w0.length c0, .int .i64 C.l1, .slice a1 C.w1.length c1] 31 (0, 0))) ∧ Kp (wr.heap[w.heap.size + 1]? = some (.cells #[.int .i64 0, .slice none 0 0, .int .i64 0] 157 (0, 0))) ∧ Kp (wr.heap[bp]? = some (.cells #[.int .i64 C.parts.length, v, .int .i64 (befC C m)] 157 (0, 0))) ∧ Kp (wr.ownsRow base 105 2 v (C.parts.length + m * 2) ((spansF 0 (privL C ++ (C.chans.take m).flatMap pairL)).flatMap spanC))) (fun i wr => C.chans.length - (intOf i).toNat)
      case atStart => exact ⟨0, _, Nat.zero_le _, rfl, hbw, HB, HK, HR, ⟨by rw [show befC C 0 = privS C C.parts.length from by simp [befC]]; exact HX.out⟩, ⟨by
        have h := HO.out
        rw [List.take_length] at h
        simpa [privL] using h⟩⟩
      case round =>
        clear HB HK HR HX HO hbw
        obtain ⟨m, v, hm, rfl, hbw, HB, HK, HR, HX, HO⟩ := hrel
        have q0 := cbk HK.out 0 (.slice pa C.parts.length pc) rfl
        have q1 := cbk HK.out 1 (.slice ca C.chans.length cc) rfl
        have lq := blk_lt HK.out
        by_cases hlt : m < C.chans.length
        · obtain ⟨g, o, ha', hg, hcc⟩ := HCH.out.at (by omega)
          obtain ⟨x, hx⟩ : ∃ x, C.chans[m] = x := ⟨_, rfl⟩
          have hcu : ∀ j, j < 7 → wr.cell? ⟨g, o + m * 7 + j, none⟩ = (chanC x)[j]? := fun j hj => by
            have h1 := hcc (m * 7 + j) (by omega)
            rw [flat_at chanC 7 chanC_len C.chans m j hlt hj, hx] at h1
            rw [Nat.add_assoc]
            exact (HB.out.cell (p := ⟨g, o + (m * 7 + j), none⟩) hg).trans h1
          have e0 : wr.cell? ⟨g, o + m * 7, none⟩ = some (.int .i64 x.kind) := hcu 0 (by omega)
          have e1 : wr.cell? ⟨g, o + m * 7 + 1, none⟩ = some (.int .i64 x.frm) := hcu 1 (by omega)
          have e2 : wr.cell? ⟨g, o + m * 7 + 2, none⟩ = some (.int .i64 x.to) := hcu 2 (by omega)
          have e3 : wr.cell? ⟨g, o + m * 7 + 3, none⟩ = some (.int .i64 x.words) := hcu 3 (by omega)
          have e4 : wr.cell? ⟨g, o + m * 7 + 4, none⟩ = some (.int .i64 x.depth) := hcu 4 (by omega)
          have e5 : wr.cell? ⟨g, o + m * 7 + 5, none⟩ = some (.int .i64 x.period) := hcu 5 (by omega)
          have e6 : wr.cell? ⟨g, o + m * 7 + 6, none⟩ = some (.int .u32 x.boot) := hcu 6 (by omega)
          have hcs := chn_small ha (hx ▸ List.getElem_mem hlt)
          have hps := befC_small ha m
          have HNS : Kp (befC C (m + 1) = befC C m + sizedC x + 1) := ⟨by rw [befC_succ C m hlt, hx]; omega⟩
          have HNR : Kp ((spansF 0 (privL C ++ (C.chans.take (m + 1)).flatMap pairL)).flatMap spanC = (spansF 0 (privL C ++ (C.chans.take m).flatMap pairL)).flatMap spanC ++ [.int .i64 (befC C m), .int .i64 (sizedC x)] ++ [.int .i64 (befC C m + sizedC x), .int .i64 1]) := ⟨by
            rw [List.take_succ_eq_append_getElem hlt, List.flatMap_append, hx]
            have h1 : ([x].flatMap pairL) = [sizedC x] ++ [1] := rfl
            have h2 : (privL C ++ (C.chans.take m).flatMap pairL).sum = befC C m := by
              rw [List.sum_append, pairs_sum, befC, privS, List.take_length]; rfl
            have h3 : (privL C ++ (C.chans.take m).flatMap pairL ++ [sizedC x]).sum = befC C m + sizedC x := by rw [List.sum_append, h2]; simp
            rw [h1, ← List.append_assoc, ← List.append_assoc, spans_row, spans_row, h2, h3]⟩
          subst ha'
          have hgr : g < wr.heap.size := Nat.lt_of_lt_of_le hg HB.out.size
          clear hcu hcc hx
          obtain ⟨ex, hex⟩ : ∃ ex, befC C m = ex := ⟨_, rfl⟩
          rw [hex] at HX hps
          have HEX := Kp.mk hex
          clear hex
          have HBA1 : Kp (Below w.heap.size w (wr.alloc (.cells #[.int .i64 x.kind, .int .i64 x.frm, .int .i64 x.to, .int .i64 x.words, .int .i64 x.depth, .int .i64 x.period, .int .u32 x.boot] 52))) := ⟨below_al HB.out _⟩
          have HKA : Kp ((wr.alloc (.cells #[.int .i64 x.kind, .int .i64 x.frm, .int .i64 x.to, .int .i64 x.words, .int .i64 x.depth, .int .i64 x.period, .int .u32 x.boot] 52)).heap[w.heap.size]? = _) := ⟨blk_al HK.out _⟩
          have HRA : Kp ((wr.alloc (.cells #[.int .i64 x.kind, .int .i64 x.frm, .int .i64 x.to, .int .i64 x.words, .int .i64 x.depth, .int .i64 x.period, .int .u32 x.boot] 52)).heap[w.heap.size + 1]? = _) := ⟨blk_al HR.out _⟩
          have HXA : Kp ((wr.alloc (.cells #[.int .i64 x.kind, .int .i64 x.frm, .int .i64 x.to, .int .i64 x.words, .int .i64 x.depth, .int .i64 x.period, .int .u32 x.boot] 52)).heap[bp]? = _) := ⟨blk_al HX.out _⟩
          have HOA : Kp ((wr.alloc (.cells #[.int .i64 x.kind, .int .i64 x.frm, .int .i64 x.to, .int .i64 x.words, .int .i64 x.depth, .int .i64 x.period, .int .u32 x.boot] 52)).ownsRow _ _ _ _ _ _) := ⟨HO.out.alloc _⟩
          go_wp2_with fail
          refine (sized_any x (by omega) (by omega) (by omega) (by omega) _).mono ?_
          rintro e w3 ⟨rfl, hb3⟩
          have HB3 := Kp.mk (below_call HBA1.out hb3)
          have HK3 := Kp.mk (blk_below HKA.out hb3)
          have HR3 := Kp.mk (blk_below HRA.out hb3)
          have HX3 := Kp.mk (blk_below HXA.out hb3)
          have HO3 := Kp.mk (own_below HOA.out hb3)
          have hw3 : wr.heap.size < w3.heap.size := by have h := hb3.size; simp at h; omega
          clear HBA1 HKA HRA HXA HOA hb3 HB HK HR HX HO q0 q1 lq e0 e1 e2 e3 e4 e5 e6
          obtain ⟨sz, hszd⟩ : ∃ sz, sizedC x = sz := ⟨_, rfl⟩
          rw [hszd] at HNS HNR hcs ⊢
          clear hszd
          go_wp2_with fail
          refine (put_any bp base (C.parts.length : Int) ex sz _ (C.parts.length + m * 2) _ _ HX3.out HO3.out (by omega) (by omega) (by omega) (by omega) (by omega)).mono ?_
          rintro e w4 ⟨⟨u, rfl⟩, v', hX, hO, hBu⟩
          have HB' : Kp (Below w.heap.size w w4) := ⟨hBu.below HB3.out (by simp; omega) (by omega)⟩
          have HK' := Kp.mk (hBu.blk HK3.out (by omega) (by simp; omega))
          have HR' := Kp.mk (hBu.blk HR3.out (by omega) (by simp; omega))
          have HX' := Kp.mk hX
          have HO' := Kp.mk hO
          have HSZ' := hBu.size
          clear hX hO hBu HB3 HK3 HR3 HX3 HO3
          go_wp2_with fail
          refine (put_any bp base (C.parts.length : Int) (ex + sz) 1 _ (C.parts.length + m * 2 + 1) _ _ HX'.out HO'.out (by omega) (by omega) (by omega) (by omega) (by omega)).mono ?_
          rintro e w5 ⟨⟨u, rfl⟩, v', hX, hO, hBu⟩
          have HB5 : Kp (Below w.heap.size w w5) := ⟨hBu.below HB'.out (by simp; omega) (by omega)⟩
          have HK5 := Kp.mk (hBu.blk HK'.out (by omega) (by simp; omega))
          have HR5 := Kp.mk (hBu.blk HR'.out (by omega) (by simp; omega))
          have HX5 := Kp.mk hX
          have HO5 := Kp.mk hO
          have HSZ5 := hBu.size
          clear hX hO hBu 
          have hsz5 : wr.heap.size < w5.heap.size := by omega
          clear HSZ' HSZ5 HB' HK' HR' HX' HO'
          go_wp2
          go_roundw
          case rel => exact ⟨m + 1, _, by omega, by go_num, by omega, HB5, HK5, HR5, ⟨by rw [HNS.out, HEX.out]; exact HX5.out⟩, ⟨by
            have h := HO5.out
            rw [HNR.out, HEX.out, show C.parts.length + (m + 1) * 2 = C.parts.length + m * 2 + 1 + 1 by omega]
            exact h⟩⟩
          case measure => simp [intOf]; omega
        · obtain rfl : m = C.chans.length := by omega
          have HE : Kp (planE C = befC C C.chans.length) := ⟨planE_acc C ha⟩
          have HLL : Kp (planL C = spansF 0 (privL C ++ (C.chans.take C.chans.length).flatMap pairL)) := ⟨by rw [planL, if_pos ha, List.take_length]; rfl⟩
          have HLN := Kp.mk (planL_len C ha)
          have z0 := frozen_blk HR.out 0
          have z1 := frozen_blk HR.out 1
          have z2 := frozen_blk HR.out 2
          have r0 := cbk HR.out 0 (.int .i64 0) rfl
          have r1 := cbk HR.out 1 (.slice none 0 0) rfl
          have r2 := cbk HR.out 2 (.int .i64 0) rfl
          have lr := blk_lt HR.out
          have p0 := cbk HX.out 0 (.int .i64 C.parts.length) rfl
          have p1 : wr.cell? ⟨bp, 1, none⟩ = some v := (cell_blk HX.out 1).trans rfl
          have p2 := cbk HX.out 2 (.int .i64 (befC C C.chans.length)) rfl
          have lp := blk_lt HX.out
          have nbp : ¬ w.heap.size + 1 = bp := by omega
          obtain ⟨av, cv', rfl, hv1, hv2⟩ := (RowAt.of_own HO.out).shape
          go_wp2
          exact bodyPost_ret (v := .agg #[.int .i64 C.parts.length, _, .int .i64 (befC C C.chans.length)]) (results_cell_row rfl _ _ _ _ _ _ _ rfl ((blk_set (blk_set (blk_set HR.out 0 _) 1 _) 2 _).trans rfl) Tryz.underlying157 rfl (by kernel_rfl)) rfl
            ⟨⟨_, by rw [HE.out], by
              rw [HLN.out, HLL.out]
              exact own_base (own_set_ne (own_set_ne (own_set_ne HO.out (p := ⟨w.heap.size + 1, 0, none⟩) (by show w.heap.size + 1 < base; omega) _) (p := ⟨w.heap.size + 1, 1, none⟩) (by show w.heap.size + 1 < base; omega) _) (p := ⟨w.heap.size + 1, 2, none⟩) (by show w.heap.size + 1 < base; omega) _) (by omega)⟩,
             ((HB.out.setCell (p := ⟨w.heap.size + 1, 0, none⟩) (by show w.heap.size ≤ w.heap.size + 1; omega) _).setCell (p := ⟨w.heap.size + 1, 1, none⟩) (by show w.heap.size ≤ w.heap.size + 1; omega) _).setCell (p := ⟨w.heap.size + 1, 2, none⟩) (by show w.heap.size ≤ w.heap.size + 1; omega) _⟩
end Go.Proofs.YtmidcnfmphlneaaGreat

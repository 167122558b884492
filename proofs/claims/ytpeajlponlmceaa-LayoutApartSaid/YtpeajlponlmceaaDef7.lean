/- What defects are told, as far as so many; the law's example; 'the same numbers?'. -/
import Derived.Test.YtpeajlponlmceaaDef6
import Derived.Test.YtpeajlponlmceaaSl
namespace Go.Proofs.Ytpeajlponlmceaa
open Go.RowKit
set_option linter.unusedSimpArgs false
set_option linter.unusedVariables false
open Go.Shelf
theorem Try.infoInt : (Try.prog.info? 3).map (fun i => (i.zero, i.size, i.bytes)) = some (some (.int .i64 0), 1, 8) := by kernel_rfl
theorem row_new (w : World) (vs : List Value) (t : TypeId) (n : Nat) (hn : vs.length = n) (h0 : 0 < n) (hm : n ≤ maxLen) : RowAt (w.alloc (.cells vs.toArray t)) 1 (.slice (some ⟨w.heap.size, 0, none⟩) n n) n vs := by
  refine ⟨by omega, .inr ⟨w.heap.size, 0, n, rfl, Nat.le_refl _, hm, by simp, fun j hj => ?_⟩⟩
  rw [cell_blk (blk_new w _)]
  simp

set_option maxHeartbeats 1000000 in
theorem rsame_any (va vb : Value) (xs ys : List Int) (b : Bool) (hb : decide (xs = ys) = b) (w : World) (h1 : RowAt w 1 va xs.length (xs.map (Value.int .i64))) (h2 : RowAt w 1 vb ys.length (ys.map (Value.int .i64))) :
    Calls Try.prog 15 #[va, vb] w fun e w' => e = .returned (.bool b) ∧ Below w.heap.size w w' := by
  subst hb
  obtain ⟨a, ca, rfl, h3, h4⟩ := h1.shape
  obtain ⟨a', cb, rfl, h5, h6⟩ := h2.shape
  unfold maxLen at h4 h6
  have H1 := Kp.mk h1
  have H2 := Kp.mk h2
  clear h1 h2
  by_cases hl : xs.length = ys.length
  · have hl1 : (xs.length != ys.length) = false := by simp [hl]
    have hl2 : ((xs.length : Int) != (ys.length : Int)) = false := by simp [hl]
    have HL := Kp.mk hl
    clear hl
    go_enter Try.func15, Try.ntmps15
    go_wp2_with fail
    go_loopw [5] (fun i wr => ∃ k : Nat, k ≤ xs.length ∧ i = .int .i64 k ∧ Kp (Below w.heap.size w wr) ∧ Kp (xs.take k = ys.take k)) (fun i wr => xs.length - (intOf i).toNat)
    case atStart => exact ⟨0, Nat.zero_le _, rfl, ⟨Below.refl _ _⟩, ⟨by simp⟩⟩
    case round =>
      obtain ⟨k, hk, rfl, HB, HT⟩ := hrel
      by_cases hlt : k < xs.length
      · have hlt' : k < ys.length := HL.out ▸ hlt
        obtain ⟨g, o, rfl, hg, hc⟩ := H1.out.at (by omega)
        obtain ⟨g', o', rfl, hg', hc'⟩ := H2.out.at (by omega)
        have c0 : wr.cell? ⟨g, o + k, none⟩ = some (.int .i64 xs[k]) := (HB.out.cell (p := ⟨g, o + k, none⟩) hg).trans ((hc k (by omega)).trans (by simp [hlt]))
        have c1 : wr.cell? ⟨g', o' + k, none⟩ = some (.int .i64 ys[k]) := (HB.out.cell (p := ⟨g', o' + k, none⟩) hg').trans ((hc' k (by omega)).trans (by simp [hlt']))
        clear hc hc'
        have hz : (0 : Int) ≤ (k : Int) := by omega
        by_cases hq : xs[k] = ys[k]
        · have HQ := Kp.mk hq
          rw [hq] at c0
          clear hq
          go_wp2_with fail
          go_quiet (fail)
          go_wp2
          go_roundw
          case rel => exact ⟨k + 1, by omega, by go_num, ⟨below_drN HB.out⟩, ⟨by rw [List.take_succ_eq_append_getElem hlt, List.take_succ_eq_append_getElem hlt', HT.out, HQ.out]⟩⟩
          case measure => simp [intOf]; omega
        · have hq1 : (xs[k] != ys[k]) = true := by simpa using hq
          go_wp2_with fail
          go_quiet (fail)
          go_wp2
          go_ret
          exact ⟨ret_bool (decide_eq_false fun h => hq (by simp [h])).symm, below_drN HB.out⟩
      · obtain rfl : k = xs.length := by omega
        go_wp2
        go_ret
        exact ⟨ret_bool (decide_eq_true (by
          have h := HT.out
          rw [List.take_length, HL.out, List.take_length] at h
          exact h)).symm, HB.out⟩
  · have hl1 : (xs.length != ys.length) = true := by simpa using hl
    have hl2 : ((xs.length : Int) != (ys.length : Int)) = true := by rw [bne_iff_ne]; omega
    go_enter Try.func15, Try.ntmps15
    go_wp2
    go_ret
    exact ⟨ret_bool (decide_eq_false fun h => hl (by rw [h])).symm, Below.refl _ _⟩

attribute [local go_sem] Oper.semAt_some

/-- Between two rounds: what the bound's box, the row's box and the row hold. -/
def told7cI (nb n0 : Nat) (W0 : World) (most : Int) (pre : List Int) (W : World) : Prop :=
  ∃ v, W.heap[n0]? = some (.cells #[.int .i64 most] 3 (0, 0)) ∧ W.heap[n0 + 1]? = some (.cells #[v] 35 (0, 0)) ∧ W.ownsRow (n0 + 1 + 1) 3 1 v pre.length (i64s pre) ∧ pre.length ≤ most.toNat ∧ Below nb W0 W
/-- A round has left: nothing was put any more. -/
def told7cX (nb n0 : Nat) (W0 : World) (most : Int) (c : Code) (pre : List Int) (W : World) : Prop := c = .exit 0 ∧ ∃ pre0 x, pre = pre0 ++ [x] ∧ told7cI nb n0 W0 most pre0 W ∧ most ≤ (pre0.length : Int)
theorem told7cI_calm {nb n0 : Nat} {W0 W W' : World} {most : Int} {pre : List Int} {B : Nat} {row : Option Nat} (h : told7cI nb n0 W0 most pre W) (hB : nb ≤ B) (h0 : nb ≤ W0.heap.size) (hg : W.grownBy W' row) (hr : ∀ r, row = some r → B ≤ r ∧ ∃ o : Obj, W.heap[r]? = some o ∧ o.isCells = false) : told7cI nb n0 W0 most pre W' := by
  obtain ⟨v, h1, h2, h3, h4, h5⟩ := h
  exact ⟨v, blk_calm h1 hg hr, blk_calm h2 hg hr, own_calm h3 hg hr, h4, h5.grown hg (Nat.le_trans h0 h5.size) fun k e => Nat.le_trans hB (hr k e).1⟩

set_option maxRecDepth 100000 in
set_option maxHeartbeats 2000000 in
theorem told7c_any (most : Int) (C : Cfg) (hsm : C.small) (pa ca a0 a1 : Option Addr) (pc cc c0 c1 : Nat) (w : World) (h : CfgAt w (.agg #[.slice pa C.parts.length pc, .slice ca C.chans.length cc, .int .i64 C.l0, .slice a0 C.w0.length c0, .int .i64 C.l1, .slice a1 C.w1.length c1]) C) :
    Calls Try.prog 16 #[.agg #[.slice pa C.parts.length pc, .slice ca C.chans.length cc, .int .i64 C.l0, .slice a0 C.w0.length c0, .int .i64 C.l1, .slice a1 C.w1.length c1], .int .i64 most] w fun e w' => ∃ v, e = .returned v ∧ w'.ownsRow w.heap.size 3 1 v ((defsB C).take most.toNat).length (i64s ((defsB C).take most.toNat)) ∧ Below w.heap.size w w' := by
  obtain ⟨i0, hi, hz0, hz1, hz2⟩ := info_parts Try.infoInt
  have HQ := Kp.mk h
  clear h
  obtain ⟨l, hl⟩ : ∃ l, defsB C = l := ⟨_, rfl⟩
  have HL := Kp.mk hl
  have HN : Kp (l.length ≤ 5000) := ⟨hl ▸ (Nat.le_trans (defsK_le C 17) (by decide))⟩
  clear hl
  have qF := fun (w : World) fn fi ca => run_neq_func_nil (P := Try.prog) w 65 fn fi ca Try.underlying65
  refine (callsIn_wide (n := 3)).1 (callsIn_of_wp_marks Try.func16 rfl trivial (wpIn_wide.2 ?_) rfl)
  simp only [Try.ntmps16, List.size_toArray, List.length_cons, List.length_nil, Nat.reduceAdd, Nat.reduceSub, Array.replicate_succ, Array.replicate_zero, List.push_toArray, List.append_toArray, List.nil_append, List.cons_append]
  go_wp2_with fail
  refine (defAll_any _ _ _ _ _ _ _).mono ?_
  rintro e w4 ⟨rfl, rfl⟩
  go_wp2_with fail
  clear qF
  have HB3 : Kp (Below w.heap.size w ((((w.alloc (.cells #[.slice pa C.parts.length pc, .slice ca C.chans.length cc, .int .i64 C.l0, .slice a0 C.w0.length c0, .int .i64 C.l1, .slice a1 C.w1.length c1] 29)).alloc (.cells #[.int .i64 most] 3)).alloc (.cells #[.slice none 0 0] 35)).alloc (.cells #[.slice pa C.parts.length pc, .slice ca C.chans.length cc, .int .i64 C.l0, .slice a0 C.w0.length c0, .int .i64 C.l1, .slice a1 C.w1.length c1] 29))) := ⟨below_al (below_al (below_al (below_al (Below.refl w.heap.size w) _) _) _) _⟩
  have k0 : Kp (((((w.alloc (.cells #[.slice pa C.parts.length pc, .slice ca C.chans.length cc, .int .i64 C.l0, .slice a0 C.w0.length c0, .int .i64 C.l1, .slice a1 C.w1.length c1] 29)).alloc (.cells #[.int .i64 most] 3)).alloc (.cells #[.slice none 0 0] 35)).alloc (.cells #[.slice pa C.parts.length pc, .slice ca C.chans.length cc, .int .i64 C.l0, .slice a0 C.w0.length c0, .int .i64 C.l1, .slice a1 C.w1.length c1] 29)).heap[w.heap.size + 1]? = some (.cells #[.int .i64 most] 3 (0, 0))) := ⟨blk_al (blk_al (blk_at (w := (w.alloc (.cells #[.slice pa C.parts.length pc, .slice ca C.chans.length cc, .int .i64 C.l0, .slice a0 C.w0.length c0, .int .i64 C.l1, .slice a1 C.w1.length c1] 29))) (by simp) _) _) _⟩
  have k1 : Kp (((((w.alloc (.cells #[.slice pa C.parts.length pc, .slice ca C.chans.length cc, .int .i64 C.l0, .slice a0 C.w0.length c0, .int .i64 C.l1, .slice a1 C.w1.length c1] 29)).alloc (.cells #[.int .i64 most] 3)).alloc (.cells #[.slice none 0 0] 35)).alloc (.cells #[.slice pa C.parts.length pc, .slice ca C.chans.length cc, .int .i64 C.l0, .slice a0 C.w0.length c0, .int .i64 C.l1, .slice a1 C.w1.length c1] 29)).heap[w.heap.size + 1 + 1]? = some (.cells #[.slice none 0 0] 35 (0, 0))) := ⟨blk_al (blk_at (w := ((w.alloc (.cells #[.slice pa C.parts.length pc, .slice ca C.chans.length cc, .int .i64 C.l0, .slice a0 C.w0.length c0, .int .i64 C.l1, .slice a1 C.w1.length c1] 29)).alloc (.cells #[.int .i64 most] 3))) (by simp) _) _⟩
  have k2 : Kp (((((w.alloc (.cells #[.slice pa C.parts.length pc, .slice ca C.chans.length cc, .int .i64 C.l0, .slice a0 C.w0.length c0, .int .i64 C.l1, .slice a1 C.w1.length c1] 29)).alloc (.cells #[.int .i64 most] 3)).alloc (.cells #[.slice none 0 0] 35)).alloc (.cells #[.slice pa C.parts.length pc, .slice ca C.chans.length cc, .int .i64 C.l0, .slice a0 C.w0.length c0, .int .i64 C.l1, .slice a1 C.w1.length c1] 29)).heap[w.heap.size + 1 + 1 + 1]? = some (.cells #[.slice pa C.parts.length pc, .slice ca C.chans.length cc, .int .i64 C.l0, .slice a0 C.w0.length c0, .int .i64 C.l1, .slice a1 C.w1.length c1] 29 (0, 0))) := ⟨blk_at (w := (((w.alloc (.cells #[.slice pa C.parts.length pc, .slice ca C.chans.length cc, .int .i64 C.l0, .slice a0 C.w0.length c0, .int .i64 C.l1, .slice a1 C.w1.length c1] 29)).alloc (.cells #[.int .i64 most] 3)).alloc (.cells #[.slice none 0 0] 35))) (by simp) _⟩
  have HSZ : Kp (((((w.alloc (.cells #[.slice pa C.parts.length pc, .slice ca C.chans.length cc, .int .i64 C.l0, .slice a0 C.w0.length c0, .int .i64 C.l1, .slice a1 C.w1.length c1] 29)).alloc (.cells #[.int .i64 most] 3)).alloc (.cells #[.slice none 0 0] 35)).alloc (.cells #[.slice pa C.parts.length pc, .slice ca C.chans.length cc, .int .i64 C.l0, .slice a0 C.w0.length c0, .int .i64 C.l1, .slice a1 C.w1.length c1] 29)).heap.size = w.heap.size + 1 + 1 + 1 + 1) := ⟨by simp⟩
  generalize ((((w.alloc (.cells #[.slice pa C.parts.length pc, .slice ca C.chans.length cc, .int .i64 C.l0, .slice a0 C.w0.length c0, .int .i64 C.l1, .slice a1 C.w1.length c1] 29)).alloc (.cells #[.int .i64 most] 3)).alloc (.cells #[.slice none 0 0] 35)).alloc (.cells #[.slice pa C.parts.length pc, .slice ca C.chans.length cc, .int .i64 C.l0, .slice a0 C.w0.length c0, .int .i64 C.l1, .slice a1 C.w1.length c1] 29)) = W0 at HB3 k0 k1 k2 HSZ ⊢
  have HST := Kp.mk (defAll_stops 2 (by omega) (w.heap.size + 1 + 1 + 1) C hsm _ w W0 HQ.out HB3.out k2.out)
  rw [HL.out] at HST
  obtain ⟨nn, hnn⟩ : ∃ nn, w.heap.size = nn := ⟨_, rfl⟩
  have HNN := Kp.mk hnn
  rw [hnn] at k0 k1 k2 HSZ HB3 HST ⊢
  have hW0 : nn + 1 + 1 + 1 + 1 ≤ W0.heap.size := Nat.le_of_eq HSZ.out.symm
  clear hnn
  refine wp_range (fun t x => (t.setIfInBounds 13 (.int .i64 x)).setIfInBounds 7 (.int .i64 x)) rfl (enters_of Try.func64 (by kernel_rfl) rfl)
    HST.out KeepU.trans (KeepU.put (by omega)) (fun _ => rfl)
    (told7cI nn (nn + 1) w most) (told7cX nn (nn + 1) w most)
    (fun s A B row hs hg hr => told7cI_calm hs (B := W0.heap.size) (by omega) (Nat.le_of_eq HNN.out.symm) hg hr)
    (fun c s A B row hs hg hr => ⟨hs.1, hs.2.imp fun _ h => h.imp fun _ h => ⟨h.1, told7cI_calm h.2.1 (B := W0.heap.size) (by omega) (Nat.le_of_eq HNN.out.symm) hg hr, h.2.2⟩⟩)
    ⟨_, k0.out, k1.out, World.ownsRow_nil _ _ _ _, Nat.zero_le _, HB3.out⟩ ?assign ?body ?done ?stop
  case assign =>
    intro l x W K hK
    gi_wp2
    exact hK
  case body =>
    rintro l pre x W ⟨v, g0, g1, hown, hle, hB⟩ hlt
    obtain ⟨a', c', rfl, hc1, hc2⟩ := (RowAt.of_own hown).shape
    have c0 : W.cell? ⟨nn + 1, 0, none⟩ = some (.int .i64 most) := (cell_blk g0 0).trans rfl
    have c1 : W.cell? ⟨nn + 1 + 1, 0, none⟩ = some (.slice a' pre.length c') := (cell_blk g1 0).trans rfl
    have G0 := Kp.mk g0
    have G1 := Kp.mk g1
    have HB := Kp.mk hB
    have f1 : W.frozen? ⟨nn + 1 + 1, 0, none⟩ = false := frozen_blk g1 0
    have l1 := blk_lt g1
    clear g0 g1 hB
    dsimp only
    by_cases hm : most ≤ (pre.length : Int)
    · gi_wp2
      exact ⟨KeepsFrom.refl _ _, rfl, pre, _, rfl, ⟨_, G0.out, G1.out, hown, hle, HB.out⟩, hm⟩
    · gi_wp2_with (gi_at_builtin; refine wpListIn_append_own _ rfl _ _ 35 rfl (nn + 1 + 1 + 1) 3 i0 (.int .i64 0) 1 8 Try.underlying35 hi hz0 hz1 hz2 rfl (by decide) _ _ _ rfl (hown.alloc _) ⟨W.heap.size, 0, none⟩ 1 1 [.int .i64 x] rfl rfl (cell_one_new _ _ _) (by simp [Value.oneCell']) (by have := HN.out; unfold maxLen; omega) (by have := HN.out; omega) (by simp; omega) ?_; intro v' w1 hown' hgrow _; obtain ⟨g', cap', rfl⟩ := ownsRow_succ hown'; have e1 := blk_grown (blk_al G1.out _) (b := nn + 1 + 1) (by omega) (hown.alloc _) hgrow; have d1 : w1.cell? ⟨nn + 1 + 1, 0, none⟩ = some (.slice a' pre.length c') := (cell_blk e1 0).trans rfl; have d2 : w1.frozen? ⟨nn + 1 + 1, 0, none⟩ = false := frozen_blk e1 0)
      have e0 := blk_grown (blk_al G0.out _) (b := nn + 1) (by omega) (hown.alloc _) hgrow
      have hR : ∀ t : TypeId, 3 ≠ t → 35 ≠ t → Rnd t nn W0.heap.size W (w1.setCell ⟨nn + 1 + 1, 0, none⟩ (.slice (some ⟨g', 0, none⟩) (pre.length + 1) cap')) := fun t ht1 ht2 =>
        ((Rnd.al (Nat.le_trans (by omega) (Nat.le_of_lt l1)) _).trans (Rnd.own (hown.alloc _) ht1 (by omega) (by simp; omega) hgrow)).trans (Rnd.set (T := t) (n₀ := nn) (B := W0.heap.size) e1 ht2 (by omega) 0 (.slice (some ⟨g', 0, none⟩) (pre.length + 1) cap'))
      have hR2 : RndU UT nn W0.heap.size W (w1.setCell ⟨nn + 1 + 1, 0, none⟩ (.slice (some ⟨g', 0, none⟩) (pre.length + 1) cap')) := RndU.of 29 (hR 29 (by decide) (by decide)) fun t ht => hR t (fun e => absurd (e ▸ ht : 3 ∈ UT) (by decide)) (fun e => absurd (e ▸ ht : 35 ∈ UT) (by decide))
      refine ⟨kf_mono hR2.2 (by omega), hR2.1, _, blk_set_ne e0 (by simp) _, (blk_set e1 0 _).trans rfl, own_set_ne (by simpa [i64s] using hown') (by simp) _, by simp; omega, ?_⟩
      exact (below_own2 (HB.out.alloc (by omega) _) (by simp; omega) (by omega) (hown.alloc _) hgrow).setCell (by simp; omega) _
  case done =>
    rintro D ys W hD rfl ⟨v, g0, g1, hown, hle, hB⟩ hK
    have c1 : W.cell? ⟨nn + 1 + 1, 0, none⟩ = some v := (cell_blk g1 0).trans rfl
    obtain ⟨a', c', rfl, hc1, hc2⟩ := (RowAt.of_own hown).shape
    go_wp2
    refine ⟨by simp, .inl ⟨_, _, rfl, run_takeDeferred hK, ?_⟩⟩
    refine ⟨_, results_tmp rfl _ _ _, _, rfl, ?_, ?_⟩
    · rw [HL.out, List.take_of_length_le hle]
      exact own_base (ownsRow_putObj hown _ hK rfl) (by have := HNN.out; omega)
    · rw [HNN.out]
      exact hB.grown (grownBy_putObj' W D _) (by have := hB.size; have := HNN.out; omega) (fun k e => by cases e; omega)
  case stop =>
    rintro D c pre W hD hpre ⟨rfl, pre0, x, rfl, ⟨v, g0, g1, hown, hle, hB⟩, hmost⟩ hK
    have c1 : W.cell? ⟨nn + 1 + 1, 0, none⟩ = some v := (cell_blk g1 0).trans rfl
    obtain ⟨a', c', rfl, hc1, hc2⟩ := (RowAt.of_own hown).shape
    have hp : l.take most.toNat = pre0 := by
      have h1 : pre0 <+: l := List.IsPrefix.trans (List.prefix_append _ _) hpre
      have h2 : most.toNat = pre0.length := by omega
      rw [h2]
      exact (List.prefix_iff_eq_take.1 h1).symm
    go_wp2
    refine ⟨by simp, .inl ⟨_, _, rfl, run_takeDeferred hK, ?_⟩⟩
    refine ⟨_, results_tmp rfl _ _ _, _, rfl, ?_, ?_⟩
    · rw [HL.out, hp]
      exact own_base (ownsRow_putObj hown _ hK rfl) (by have := HNN.out; omega)
    · rw [HNN.out]
      exact hB.grown (grownBy_putObj' W D _) (by have := hB.size; have := HNN.out; omega) (fun k e => by cases e; omega)

theorem told7_any (most : Int) (cv : Value) (C : Cfg) (hsm : C.small) (w : World) (h : CfgAt w cv C) : Calls Try.prog 16 #[cv, .int .i64 most] w fun e w' => ∃ v, e = .returned v ∧ w'.ownsRow w.heap.size 3 1 v ((defsB C).take most.toNat).length (i64s ((defsB C).take most.toNat)) ∧ Below w.heap.size w w' := by
  have h' := h
  obtain ⟨ho, pa, pc, ca, cc, a0, c0, a1, c1, rfl, bp, bc, b0, b1, hp, hc, hw0, hw1⟩ := h
  exact told7c_any most C hsm pa ca a0 a1 pc cc c0 c1 w h'
end Go.Proofs.Ytpeajlponlmceaa

/- Contracts of the layout's reference: all spans; the same spans? -/
import Derived.Test.YtpeajlponlmceaaLay10
namespace Go.Proofs.Ytpeajlponlmceaa
open Go.RowKit
set_option linter.unusedSimpArgs false
set_option linter.unusedVariables false

theorem planL_take (C : Cfg) (k : Nat) (s : Int × Int) (h : (planL C)[k]? = some s) : ((planL C).take (k + 1)).flatMap spanC = ((planL C).take k).flatMap spanC ++ spanC s := by
  obtain ⟨hk, hs⟩ := List.getElem?_eq_some_iff.1 h
  rw [List.take_succ_eq_append_getElem hk, List.flatMap_append, hs]; simp
theorem spans_one (l : List (Int × Int)) : ∀ u ∈ l.flatMap spanC, u.oneCell' = true := fun u hu => by
  obtain ⟨x, _, hx⟩ := List.mem_flatMap.1 hu
  simp [spanC] at hx
  rcases hx with rfl | rfl <;> rfl
theorem srcB_plan (C : Cfg) (h : accB C = true) (k : Nat) (hk : k < C.chans.length) : (planL C)[C.parts.length + k * 2]? = some (srcB C k) := by
  rw [planL_src C h k hk, srcB, if_pos ⟨h, by omega, by omega⟩, Int.toNat_natCast, getD_at _ _ _ hk]
theorem dstB_plan (C : Cfg) (h : accB C = true) (k : Nat) (hk : k < C.chans.length) : (planL C)[C.parts.length + k * 2 + 1]? = some (dstB C k) := by
  rw [planL_dst C h k hk, dstB, if_pos ⟨h, by omega, by omega⟩, Int.toNat_natCast, getD_at _ _ _ hk]
set_option maxRecDepth 100000 in
set_option maxHeartbeats 8000000 in
theorem rall_yes (cv : Value) (C : Cfg) (hsm : C.small) (ha : accB C = true) (w : World) (h : CfgAt w cv C) : Calls Try.prog 31 #[cv] w fun e w' => ∃ v, e = .returned v ∧ w'.ownsRow w.heap.size 49 2 v (planL C).length ((planL C).flatMap spanC) ∧ Below w.heap.size w w' := by
  obtain ⟨i0, hi, hz0, hz1, hz2⟩ := info_parts Try.infoSpan
  have HC := Kp.mk h
  have hs1 := hsm.1
  have hs2 := hsm.2.1
  have HPL := Kp.mk (planL_len C ha)
  have hnp := (acc_of ha).np
  have hnc := (acc_of ha).nc
  obtain ⟨ho, pa, pc, ca, cc, a0, c0, a1, c1, rfl, bp, bc, b0, b1, hp, hc, hw0, hw1⟩ := h
  clear hp hc hw0 hw1 ho
  go_enter Try.func31, Try.ntmps31
  have HB0 : Kp (Below w.heap.size w w) := ⟨Below.refl _ _⟩
  go_wp2_with fail
  refine (refAccepts_any _ C hsm _ (HC.out.below (below_al HB0.out _))).mono ?_
  rw [ha]
  rintro e w1 ⟨rfl, hb⟩
  have q1 : Kp (w1.heap[w.heap.size]? = some (.cells #[.slice pa C.parts.length pc, .slice ca C.chans.length cc, .int .i64 C.l0, .slice a0 C.w0.length c0, .int .i64 C.l1, .slice a1 C.w1.length c1] 29 (0, 0))) := ⟨blk_below (blk_new _ _) hb⟩
  have HB1 : Kp (Below w.heap.size w w1) := ⟨below_call (below_al HB0.out _) hb⟩
  clear HB0 hb
  have qc0 : w1.cell? ⟨w.heap.size, 0, none⟩ = some (.slice pa C.parts.length pc) := (cell_blk q1.out 0).trans rfl
  have qc1 : w1.cell? ⟨w.heap.size, 1, none⟩ = some (.slice ca C.chans.length cc) := (cell_blk q1.out 1).trans rfl
  have qc2 : w1.cell? ⟨w.heap.size, 2, none⟩ = some (.int .i64 C.l0) := (cell_blk q1.out 2).trans rfl
  have qc3 : w1.cell? ⟨w.heap.size, 3, none⟩ = some (.slice a0 C.w0.length c0) := (cell_blk q1.out 3).trans rfl
  have qc4 : w1.cell? ⟨w.heap.size, 4, none⟩ = some (.int .i64 C.l1) := (cell_blk q1.out 4).trans rfl
  have qc5 : w1.cell? ⟨w.heap.size, 5, none⟩ = some (.slice a1 C.w1.length c1) := (cell_blk q1.out 5).trans rfl
  have ql := blk_lt q1.out
  have hw1 := HB1.out.size
  have lw1 := ql
  go_wp2_with fail
  clear qc0 qc1 qc2 qc3 qc4 qc5 ql
  go_loopw [3, 4] (fun v i wr => ∃ k : Nat, k ≤ C.parts.length ∧ i = .int .i64 k ∧ Kp (Below w.heap.size w wr) ∧ Kp (wr.heap[w.heap.size]? = some (.cells #[.slice pa C.parts.length pc, .slice ca C.chans.length cc, .int .i64 C.l0, .slice a0 C.w0.length c0, .int .i64 C.l1, .slice a1 C.w1.length c1] 29 (0, 0))) ∧ w.heap.size + 1 ≤ wr.heap.size ∧ Kp (wr.ownsRow (w.heap.size + 1) 49 2 v k (((planL C).take k).flatMap spanC))) (fun v i wr => C.parts.length - (intOf i).toNat)
  case atStart => exact ⟨0, Nat.zero_le _, rfl, HB1, q1, by omega, ⟨World.ownsRow_nil _ _ _ _⟩⟩
  case round =>
    obtain ⟨k, hk, rfl, HB, HK, hbw, HO⟩ := hrel
    obtain ⟨av, cv, rfl, hv1, hv2⟩ := (RowAt.of_own HO.out).shape
    have q0 : wr.cell? ⟨w.heap.size, 0, none⟩ = some (.slice pa C.parts.length pc) := (cell_blk HK.out 0).trans rfl
    have q1 : wr.cell? ⟨w.heap.size, 1, none⟩ = some (.slice ca C.chans.length cc) := (cell_blk HK.out 1).trans rfl
    have q2 : wr.cell? ⟨w.heap.size, 2, none⟩ = some (.int .i64 C.l0) := (cell_blk HK.out 2).trans rfl
    have q3 : wr.cell? ⟨w.heap.size, 3, none⟩ = some (.slice a0 C.w0.length c0) := (cell_blk HK.out 3).trans rfl
    have q4 : wr.cell? ⟨w.heap.size, 4, none⟩ = some (.int .i64 C.l1) := (cell_blk HK.out 4).trans rfl
    have q5 : wr.cell? ⟨w.heap.size, 5, none⟩ = some (.slice a1 C.w1.length c1) := (cell_blk HK.out 5).trans rfl
    have lq := blk_lt HK.out
    by_cases hlt : k < C.parts.length
    · have HN := Kp.mk (planL_take C k (privB C k) (by have h := privB_yes C ha k hlt; rw [Nat.zero_add] at h; exact h))
      go_wp2_with fail
      refine (rprivate_any _ C hsm k _ (HC.out.below HB.out)).mono ?_
      rintro e w2 ⟨rfl, hb⟩
      have HB2 := Kp.mk (below_call HB.out hb)
      have HK2 := Kp.mk (blk_below HK.out hb)
      have HO2 := Kp.mk (own_below HO.out hb)
      have hw2 := hb.size
      clear hb HB HK HO q0 q1 q2 q3 q4 q5 lq
      obtain ⟨s, hs⟩ : ∃ s, privB C k = s := ⟨_, rfl⟩
      rw [hs] at HN ⊢
      clear hs
      go_wp2_with (at_builtin; refine wpList_append_own _ rfl _ _ 53 rfl (w.heap.size + 1) 49 i0 (.agg #[.int .i64 0, .int .i64 0]) 2 16 Try.underlying53 hi hz0 hz1 hz2 rfl (by decide) _ _ _ rfl (HO2.out.alloc _) ⟨w2.heap.size, 0, none⟩ 1 1 [.int .i64 s.1, .int .i64 s.2] rfl rfl (cells_new_at w2 w2.heap.size rfl (spanC s) 49) (by simp [spanC, Value.oneCell']) (by unfold maxLen; omega) (by omega) (by simp; omega) ?_; intro v' w9 hown' hgrow _; obtain ⟨g', cap', rfl⟩ := ownsRow_succ hown')
      have HK9 := Kp.mk (blk_grown (blk_al HK2.out _) (b := w.heap.size) (by omega) (HO2.out.alloc _) hgrow)
      have HB9 : Kp (Below w.heap.size w w9) := ⟨below_own2 (below_al HB2.out _) (by simp; omega) (by omega) (HO2.out.alloc _) hgrow⟩
      have hw9 : w2.heap.size < w9.heap.size := by have h := hgrow.size; simp at h; omega
      go_roundw
      case rel => exact ⟨k + 1, by omega, by go_num, HB9, HK9, by omega, ⟨by rw [HN.out]; exact hown'⟩⟩
      case measure => simp [intOf]; omega
    · obtain rfl : k = C.parts.length := by omega
      obtain ⟨wo, rfl⟩ : ∃ wo : World, wo = wr := ⟨_, rfl⟩
      go_wp2_with fail
      clear q0 q1 q2 q3 q4 q5 lq
      go_loopw [3, 5] (fun v i wr => ∃ m : Nat, m ≤ C.chans.length ∧ i = .int .i64 m ∧ Kp (Below w.heap.size w wr) ∧ Kp (wr.heap[w.heap.size]? = some (.cells #[.slice pa C.parts.length pc, .slice ca C.chans.length cc, .int .i64 C.l0, .slice a0 C.w0.length c0, .int .i64 C.l1, .slice a1 C.w1.length c1] 29 (0, 0))) ∧ w.heap.size + 1 ≤ wr.heap.size ∧ Kp (wr.ownsRow (w.heap.size + 1) 49 2 v (C.parts.length + m * 2) (((planL C).take (C.parts.length + m * 2)).flatMap spanC))) (fun v i wr => C.chans.length - (intOf i).toNat)
      case atStart => exact ⟨0, Nat.zero_le _, rfl, HB, HK, hbw, HO⟩
      case round =>
        clear HB HK HO hbw
        obtain ⟨m, hm, rfl, HB, HK, hbw, HO⟩ := hrel
        obtain ⟨av, cv, rfl, hv1, hv2⟩ := (RowAt.of_own HO.out).shape
        have q0 : wr.cell? ⟨w.heap.size, 0, none⟩ = some (.slice pa C.parts.length pc) := (cell_blk HK.out 0).trans rfl
        have q1 : wr.cell? ⟨w.heap.size, 1, none⟩ = some (.slice ca C.chans.length cc) := (cell_blk HK.out 1).trans rfl
        have q2 : wr.cell? ⟨w.heap.size, 2, none⟩ = some (.int .i64 C.l0) := (cell_blk HK.out 2).trans rfl
        have q3 : wr.cell? ⟨w.heap.size, 3, none⟩ = some (.slice a0 C.w0.length c0) := (cell_blk HK.out 3).trans rfl
        have q4 : wr.cell? ⟨w.heap.size, 4, none⟩ = some (.int .i64 C.l1) := (cell_blk HK.out 4).trans rfl
        have q5 : wr.cell? ⟨w.heap.size, 5, none⟩ = some (.slice a1 C.w1.length c1) := (cell_blk HK.out 5).trans rfl
        have lq := blk_lt HK.out
        by_cases hlt : m < C.chans.length
        · have HN : Kp (((planL C).take (C.parts.length + (m + 1) * 2)).flatMap spanC = ((planL C).take (C.parts.length + m * 2)).flatMap spanC ++ [.int .i64 (srcB C m).1, .int .i64 (srcB C m).2, .int .i64 (dstB C m).1, .int .i64 (dstB C m).2]) := ⟨by
            rw [show C.parts.length + (m + 1) * 2 = C.parts.length + m * 2 + 1 + 1 by omega, planL_take C _ _ (dstB_plan C ha m hlt), planL_take C _ _ (srcB_plan C ha m hlt), List.append_assoc]; rfl⟩
          go_wp2_with fail
          refine held_start_gen (S := (fun w' : World => ButB (w.heap.size + 1) [] wr w' ∧ ∀ bb o, bb < w.heap.size + 1 → w'.cell? ⟨bb, o, none⟩ = wr.cell? ⟨bb, o, none⟩)) (by kernel_rfl) (fun wz : World => Kp (Below w.heap.size w wz) ∧ Kp (wz.heap[w.heap.size]? = some (.cells #[.slice pa C.parts.length pc, .slice ca C.chans.length cc, .int .i64 C.l0, .slice a0 C.w0.length c0, .int .i64 C.l1, .slice a1 C.w1.length c1] 29 (0, 0))) ∧ Kp (wz.ownsRow (w.heap.size + 1) 49 2 (.slice av (C.parts.length + m * 2) cv) (C.parts.length + m * 2) (((planL C).take (C.parts.length + m * 2)).flatMap spanC)) ∧ wr.heap.size ≤ wz.heap.size) ⟨⟨below_dr HB.out⟩, ⟨blk_dr HK.out⟩, ⟨HO.out⟩, Nat.le_refl _⟩ (sx_of0 (ButB.dr (ButB.refl _ (by omega)))) (fun wd0 hRn hHeld => ?_)
          clear HB HK HO
          obtain ⟨HB, HK, HO, hsz⟩ := hRn
          refine wpAnyH_take (i := 0) (oi := ⟨_, _, _, _, _, _⟩) (v := ?_) rfl (by kernel_rfl) (by kernel_rfl) (by kernel_rfl) (fun _ _ _ h => h) (Or.inl ⟨by rfl, ?_⟩) (by assumption) ?_
          rotate_left 1
          · (intro w hSw; go_simp; try with_reducible rfl)
          try simp only [Act.put, List.setIfInBounds_toArray, List.set_cons_zero, List.set_cons_succ]
          refine wpAnyH_take (i := 1) (oi := ⟨_, _, _, _, _, _⟩) (v := ?_) rfl (by kernel_rfl) (by kernel_rfl) (by kernel_rfl) (fun _ _ _ h => h) (Or.inl ⟨by rfl, ?_⟩) (by assumption) ?_
          rotate_left 1
          · (intro w hSw; go_simp; try with_reducible rfl)
          try simp only [Act.put, List.setIfInBounds_toArray, List.set_cons_zero, List.set_cons_succ]
          refine wpAnyH_take (i := 2) (oi := ⟨_, _, _, _, _, _⟩) (v := ?_) rfl (by kernel_rfl) (by kernel_rfl) (by kernel_rfl) (fun _ _ _ h => h) (Or.inl ⟨by rfl, ?_⟩) (by assumption) ?_
          rotate_left 1
          · (intro w hSw; go_simp; try with_reducible rfl)
          try simp only [Act.put, List.setIfInBounds_toArray, List.set_cons_zero, List.set_cons_succ]
          refine wpAnyH_take (i := 4) (oi := ⟨_, _, _, _, _, _⟩) (v := ?_) rfl (by kernel_rfl) (by kernel_rfl) (by kernel_rfl) (fun _ _ _ h => h) (Or.inl ⟨by rfl, ?_⟩) (by assumption) ?_
          rotate_left 1
          · (intro w hSw; go_simp; try with_reducible rfl)
          try simp only [Act.put, List.setIfInBounds_toArray, List.set_cons_zero, List.set_cons_succ]
          refine wpAnyH_take (i := 5) (oi := ⟨_, _, _, _, _, _⟩) (v := ?_) rfl (by kernel_rfl) (by kernel_rfl) (by kernel_rfl) (fun _ _ _ h => h) (Or.inl ⟨by rfl, ?_⟩) (by assumption) ?_
          rotate_left 1
          · (intro w hSw; go_simp; try with_reducible rfl)
          try simp only [Act.put, List.setIfInBounds_toArray, List.set_cons_zero, List.set_cons_succ]
          refine wpAnyH_ready (rs := [3]) (by kernel_rfl) (by simp) ?_
          refine (AllReadyH.cons (o := ⟨_, _, _, _, _, _⟩) rfl (fun K hK => ?_) AllReadyH.nil)
          go_simp
          go_at_call 36
          refine (rsource0_any _ C hsm m _ (HC.out.below HB.out)).mono ?_
          rintro e w9 ⟨rfl, hb⟩
          try go_wp2_with fail
          refine out_gen hK _ _ (fun wz : World => Kp (Below w.heap.size w wz) ∧ Kp (wz.heap[w.heap.size]? = some (.cells #[.slice pa C.parts.length pc, .slice ca C.chans.length cc, .int .i64 C.l0, .slice a0 C.w0.length c0, .int .i64 C.l1, .slice a1 C.w1.length c1] 29 (0, 0))) ∧ Kp (wz.ownsRow (w.heap.size + 1) 49 2 (.slice av (C.parts.length + m * 2) cv) (C.parts.length + m * 2) (((planL C).take (C.parts.length + m * 2)).flatMap spanC)) ∧ wd0.heap.size ≤ wz.heap.size) ⟨⟨below_call HB.out hb⟩, ⟨blk_below HK.out hb⟩, ⟨own_below HO.out hb⟩, hb.size⟩ (sx_of0 (ButB.call (And.left hHeld) hb)) (fun wd1 hRn hHn => ?_)
          clear hK K hHeld HB HK HO hb
          obtain ⟨HB, HK, HO, hsz1⟩ := hRn
          have hHeld := hHn
          clear hHn
          try simp only [Act.put, List.setIfInBounds_toArray, List.set_cons_zero, List.set_cons_succ]
          refine wpAnyH_ready (rs := [6]) (by kernel_rfl) (by simp) ?_
          refine (AllReadyH.cons (o := ⟨_, _, _, _, _, _⟩) rfl (fun K hK => ?_) AllReadyH.nil)
          go_simp
          go_at_call 38
          refine (rdest_any _ C hsm m _ (HC.out.below HB.out)).mono ?_
          rintro e w9 ⟨rfl, hb⟩
          try go_wp2_with fail
          refine out_gen hK _ _ (fun wz : World => Kp (Below w.heap.size w wz) ∧ Kp (wz.heap[w.heap.size]? = some (.cells #[.slice pa C.parts.length pc, .slice ca C.chans.length cc, .int .i64 C.l0, .slice a0 C.w0.length c0, .int .i64 C.l1, .slice a1 C.w1.length c1] 29 (0, 0))) ∧ Kp (wz.ownsRow (w.heap.size + 1) 49 2 (.slice av (C.parts.length + m * 2) cv) (C.parts.length + m * 2) (((planL C).take (C.parts.length + m * 2)).flatMap spanC)) ∧ wd1.heap.size ≤ wz.heap.size) ⟨⟨below_call HB.out hb⟩, ⟨blk_below HK.out hb⟩, ⟨own_below HO.out hb⟩, hb.size⟩ (sx_of0 (ButB.call (And.left hHeld) hb)) (fun wd2 hRn hHn => ?_)
          clear hK K hHeld HB HK HO hb
          obtain ⟨HB, HK, HO, hsz2⟩ := hRn
          have hHeld := hHn
          clear hHn
          try simp only [Act.put, List.setIfInBounds_toArray, List.set_cons_zero, List.set_cons_succ]
          refine wpAnyH_ready (rs := [7]) (by kernel_rfl) (by simp) ?_
          refine (AllReadyH.cons (o := ⟨_, _, _, _, _, _⟩) rfl (fun K hK => ?_) AllReadyH.nil)
          have ge_HE : wr.heap.size ≤ wd2.heap.size := (And.left hHeld).size
          go_simp
          try go_wp2_with fail
          refine out_gen hK _ _ (fun wz : World => Kp (Below w.heap.size w wz) ∧ Kp (wz.heap[w.heap.size]? = some (.cells #[.slice pa C.parts.length pc, .slice ca C.chans.length cc, .int .i64 C.l0, .slice a0 C.w0.length c0, .int .i64 C.l1, .slice a1 C.w1.length c1] 29 (0, 0))) ∧ Kp (wz.ownsRow (w.heap.size + 1) 49 2 (.slice av (C.parts.length + m * 2) cv) (C.parts.length + m * 2) (((planL C).take (C.parts.length + m * 2)).flatMap spanC)) ∧ Kp (wz.heap[wd2.heap.size]? = some (.cells #[.int .i64 (srcB C m).1, .int .i64 (srcB C m).2, .int .i64 (dstB C m).1, .int .i64 (dstB C m).2] 49 (0, 0))) ∧ wd2.heap.size < wz.heap.size) ⟨⟨below_al HB.out _⟩, ⟨blk_al HK.out _⟩, ⟨HO.out.alloc _⟩, ⟨blk_new wd2 _⟩, (by simp)⟩ (sx_of0 (ButB.al (And.left hHeld) _)) (fun wd3 hRn hHn => ?_)
          clear hK K hHeld HB HK HO
          obtain ⟨HB, HK, HO, HE, hsz3⟩ := hRn
          have hHeld := hHn
          clear hHn
          try simp only [Act.put, List.setIfInBounds_toArray, List.set_cons_zero, List.set_cons_succ]
          have lt_HE := blk_lt HE.out
          refine wpAnyH_ready (rs := [8]) (by kernel_rfl) (by simp) ?_
          refine (AllReadyH.cons (o := ⟨_, _, _, _, _, _⟩) rfl (fun K hK => ?_) AllReadyH.nil)
          have hws := (And.left hHeld).size
          refine step_append_lies _ (by rfl) _ _ 53 (by rfl) (w.heap.size + 1) 49 i0 (.agg #[.int .i64 0, .int .i64 0]) 2 16 Try.underlying53 hi hz0 hz1 hz2 (by rfl) (by decide) _ _ _ (by rfl) HO.out _ 2 _ [.int .i64 (srcB C m).1, .int .i64 (srcB C m).2, .int .i64 (dstB C m).1, .int .i64 (dstB C m).2] (by rfl) rfl (World.news_of_block HE.out) (by simp [Value.oneCell']) (by omega) (by unfold maxLen; omega) (by omega) (by have := hws; omega) _ rfl ?_
          intro g3 k3 w9 hown hgrow hat hlt
          refine out_gen hK _ _ (fun wz : World => Kp (Below w.heap.size w wz) ∧ Kp (wz.heap[w.heap.size]? = some (.cells #[.slice pa C.parts.length pc, .slice ca C.chans.length cc, .int .i64 C.l0, .slice a0 C.w0.length c0, .int .i64 C.l1, .slice a1 C.w1.length c1] 29 (0, 0))) ∧ Kp (wz.ownsRow (w.heap.size + 1) 49 2 (.slice (some ⟨g3, 0, none⟩) (C.parts.length + m * 2 + 2) k3) (C.parts.length + m * 2 + 2) (((planL C).take (C.parts.length + (m + 1) * 2)).flatMap spanC)) ∧ wd3.heap.size ≤ wz.heap.size) ⟨⟨below_own2 HB.out (by have := HB.out.size; omega) (by omega) HO.out hgrow⟩, ⟨blk_grownR HK.out HO.out hgrow (by first | (intro hq; have := (HO.out.lt _ hq).1; omega) | (intro hq; simp [Value.ownBlock] at hq; omega))⟩, ⟨by rw [HN.out]; exact hown⟩, hgrow.size⟩ (sx_of0 (ButB.grown (And.left hHeld) HO.out hgrow (by omega))) (fun wd4 hRn hHn => ?_)
          clear hK K hHeld HB HK HO HE hown hgrow hat hlt hws
          obtain ⟨HB, HK, HO, hsz4⟩ := hRn
          have hHeld := hHn
          clear hHn
          try simp only [Act.put, List.setIfInBounds_toArray, List.set_cons_zero, List.set_cons_succ]
          try simp only [Nat.zero_add]
          refine wpAnyH_take (i := 9) (oi := ⟨_, _, _, _, _, _⟩) (v := ?_) rfl (by kernel_rfl) (by kernel_rfl) (by kernel_rfl) (fun _ _ _ h => h) (Or.inl ⟨by rfl, ?_⟩) (by assumption) ?_
          rotate_left 1
          · (intro w hSw; go_simp; try with_reducible rfl)
          try simp only [Act.put, List.setIfInBounds_toArray, List.set_cons_zero, List.set_cons_succ]
          refine wpAnyH_done (by kernel_rfl) ?_ _
          have hwz : w.heap.size + 1 ≤ wd4.heap.size := by have := (And.left hHeld).size; omega
          go_wp2
          go_roundw
          case rel => exact ⟨m + 1, by omega, by go_num, HB, HK, hwz, ⟨by rw [show C.parts.length + (m + 1) * 2 = C.parts.length + m * 2 + 2 by omega] at HO ⊢; exact HO.out⟩⟩
          case measure => simp [intOf]; omega
        · obtain rfl : m = C.chans.length := by omega
          go_wp2
          go_ret
          have hlen : C.parts.length + C.chans.length * 2 = (planL C).length := HPL.out.symm
          refine ⟨_, rfl, ?_, HB.out⟩
          have h := own_base HO.out (Nat.le_succ w.heap.size)
          rw [hlen, List.take_length] at h
          rw [← hlen] at h ⊢
          exact h
set_option maxRecDepth 100000 in
set_option maxHeartbeats 1000000 in
theorem rall_no (cv : Value) (C : Cfg) (hsm : C.small) (ha : accB C = false) (w : World) (h : CfgAt w cv C) : Calls Try.prog 31 #[cv] w fun e w' => ∃ v, e = .returned v ∧ w'.ownsRow w.heap.size 49 2 v (planL C).length ((planL C).flatMap spanC) ∧ Below w.heap.size w w' := by
  have HC := Kp.mk h
  have HPL := Kp.mk (planL_no C ha)
  obtain ⟨ho, pa, pc, ca, cc, a0, c0, a1, c1, rfl, bp, bc, b0, b1, hp, hc, hw0, hw1⟩ := h
  clear hp hc hw0 hw1 ho
  go_enter Try.func31, Try.ntmps31
  have HB0 : Kp (Below w.heap.size w w) := ⟨Below.refl _ _⟩
  go_wp2_with fail
  refine (refAccepts_any _ C hsm _ (HC.out.below (below_al HB0.out _))).mono ?_
  rw [ha]
  rintro e w1 ⟨rfl, hb⟩
  have q1 : Kp (w1.heap[w.heap.size]? = some (.cells #[.slice pa C.parts.length pc, .slice ca C.chans.length cc, .int .i64 C.l0, .slice a0 C.w0.length c0, .int .i64 C.l1, .slice a1 C.w1.length c1] 29 (0, 0))) := ⟨blk_below (blk_new _ _) hb⟩
  have HB1 : Kp (Below w.heap.size w w1) := ⟨below_call (below_al HB0.out _) hb⟩
  clear HB0 hb
  have qc0 : w1.cell? ⟨w.heap.size, 0, none⟩ = some (.slice pa C.parts.length pc) := (cell_blk q1.out 0).trans rfl
  have qc1 : w1.cell? ⟨w.heap.size, 1, none⟩ = some (.slice ca C.chans.length cc) := (cell_blk q1.out 1).trans rfl
  have qc2 : w1.cell? ⟨w.heap.size, 2, none⟩ = some (.int .i64 C.l0) := (cell_blk q1.out 2).trans rfl
  have qc3 : w1.cell? ⟨w.heap.size, 3, none⟩ = some (.slice a0 C.w0.length c0) := (cell_blk q1.out 3).trans rfl
  have qc4 : w1.cell? ⟨w.heap.size, 4, none⟩ = some (.int .i64 C.l1) := (cell_blk q1.out 4).trans rfl
  have qc5 : w1.cell? ⟨w.heap.size, 5, none⟩ = some (.slice a1 C.w1.length c1) := (cell_blk q1.out 5).trans rfl
  have ql := blk_lt q1.out
  go_wp2
  go_ret
  exact ⟨_, rfl, by rw [HPL.out]; exact World.ownsRow_nil _ _ _ _, HB1.out⟩
theorem rall_any (cv : Value) (C : Cfg) (hsm : C.small) (w : World) (h : CfgAt w cv C) : Calls Try.prog 31 #[cv] w fun e w' => ∃ v, e = .returned v ∧ w'.ownsRow w.heap.size 49 2 v (planL C).length ((planL C).flatMap spanC) ∧ Below w.heap.size w w' := by
  cases ha : accB C with
  | true => exact rall_yes cv C hsm ha w h
  | false => exact rall_no cv C hsm ha w h

set_option maxRecDepth 100000 in
set_option maxHeartbeats 4000000 in
theorem rsame8_any (va vb : Value) (xs ys : List (Int × Int)) (b : Bool) (hb : decide (xs = ys) = b) (hx5 : xs.length ≤ 5000) (hy5 : ys.length ≤ 5000) (w : World) (h1 : RowAt w 2 va xs.length (xs.flatMap spanC)) (h2 : RowAt w 2 vb ys.length (ys.flatMap spanC)) :
    Calls Try.prog 29 #[va, vb] w fun e w' => e = .returned (.bool b) ∧ Below w.heap.size w w' := by
  subst hb
  obtain ⟨a, ca, rfl, h3, h4⟩ := h1.shape
  obtain ⟨a', cb, rfl, h5, h6⟩ := h2.shape
  have neqs := neq_span
  have H1 := Kp.mk h1
  have H2 := Kp.mk h2
  clear h1 h2
  by_cases hl : xs.length = ys.length
  · have hl1 : (xs.length != ys.length) = false := by simp [hl]
    have hl2 : ((xs.length : Int) != (ys.length : Int)) = false := by simp [hl]
    have HL := Kp.mk hl
    clear hl
    go_enter Try.func29, Try.ntmps29
    go_wp2_with fail
    go_loopw [5] (fun i wr => ∃ k : Nat, k ≤ xs.length ∧ i = .int .i64 k ∧ Kp (Below w.heap.size w wr) ∧ Kp (xs.take k = ys.take k)) (fun i wr => xs.length - (intOf i).toNat)
    case atStart => exact ⟨0, Nat.zero_le _, rfl, ⟨Below.refl _ _⟩, ⟨by simp⟩⟩
    case round =>
      obtain ⟨k, hk, rfl, HB, HT⟩ := hrel
      by_cases hlt : k < xs.length
      · have hlt' : k < ys.length := HL.out ▸ hlt
        obtain ⟨g, o, rfl, hgg, hc⟩ := H1.out.at (by omega)
        obtain ⟨g', o', rfl, hgg', hc'⟩ := H2.out.at (by omega)
        obtain ⟨x, hx⟩ : ∃ x, xs[k] = x := ⟨_, rfl⟩
        obtain ⟨y, hy⟩ : ∃ y, ys[k] = y := ⟨_, rfl⟩
        have c0 : wr.cell? ⟨g, o + k * 2, none⟩ = some (.int .i64 x.1) := by
          have h1 := hc (k * 2 + 0) (by omega)
          rw [flat_at spanC 2 spanC_len xs k 0 (by omega) (by omega), hx] at h1
          exact (HB.out.cell (p := ⟨g, o + k * 2, none⟩) hgg).trans h1
        have c1 : wr.cell? ⟨g, o + k * 2 + 1, none⟩ = some (.int .i64 x.2) := by
          have h1 := hc (k * 2 + 1) (by omega)
          rw [flat_at spanC 2 spanC_len xs k 1 (by omega) (by omega), hx] at h1
          exact (HB.out.cell (p := ⟨g, o + (k * 2 + 1), none⟩) hgg).trans h1
        have d0 : wr.cell? ⟨g', o' + k * 2, none⟩ = some (.int .i64 y.1) := by
          have h1 := hc' (k * 2 + 0) (by omega)
          rw [flat_at spanC 2 spanC_len ys k 0 (by omega) (by omega), hy] at h1
          exact (HB.out.cell (p := ⟨g', o' + k * 2, none⟩) hgg').trans h1
        have d1 : wr.cell? ⟨g', o' + k * 2 + 1, none⟩ = some (.int .i64 y.2) := by
          have h1 := hc' (k * 2 + 1) (by omega)
          rw [flat_at spanC 2 spanC_len ys k 1 (by omega) (by omega), hy] at h1
          exact (HB.out.cell (p := ⟨g', o' + (k * 2 + 1), none⟩) hgg').trans h1
        clear hc hc'
        have hz : (0 : Int) ≤ (k : Int) := by omega
        have hgr : g < wr.heap.size := Nat.lt_of_lt_of_le hgg HB.out.size
        have hgr' : g' < wr.heap.size := Nat.lt_of_lt_of_le hgg' HB.out.size
        have HX := Kp.mk hx
        have HY := Kp.mk hy
        clear hx hy
        by_cases hq : x = y
        · subst hq
          go_wp2_with fail
          go_quiet (fail)
          go_wp2
          go_roundw
          case rel => exact ⟨k + 1, by omega, by go_num, ⟨below_drN HB.out⟩, ⟨by rw [List.take_succ_eq_append_getElem hlt, List.take_succ_eq_append_getElem hlt', HT.out, HX.out, HY.out]⟩⟩
          case measure => simp [intOf]; omega
        · have hq1 : (x.1 == y.1 && x.2 == y.2) = false := by
            rw [← Bool.not_eq_true, Bool.and_eq_true, beq_iff_eq, beq_iff_eq]
            exact fun h => hq (Prod.ext h.1 h.2)
          have HQ := Kp.mk hq
          clear hq
          go_wp2_with fail
          go_quiet (fail)
          go_wp2
          go_ret
          exact ⟨ret_bool (decide_eq_false fun h => HQ.out (by rw [← HX.out, ← HY.out]; simp [h])).symm, below_drN HB.out⟩
      · obtain rfl : k = xs.length := by omega
        go_wp2
        go_ret
        exact ⟨ret_bool (decide_eq_true (by
          have h := HT.out
          rw [List.take_length, HL.out, List.take_length] at h
          exact h)).symm, HB.out⟩
  · have hl1 : (xs.length != ys.length) = true := by simpa using hl
    have hl2 : ((xs.length : Int) != (ys.length : Int)) = true := by rw [bne_iff_ne]; omega
    go_enter Try.func29, Try.ntmps29
    go_wp2
    go_ret
    exact ⟨ret_bool (decide_eq_false fun h => hl (by rw [h])).symm, Below.refl _ _⟩
end Go.Proofs.Ytpeajlponlmceaa

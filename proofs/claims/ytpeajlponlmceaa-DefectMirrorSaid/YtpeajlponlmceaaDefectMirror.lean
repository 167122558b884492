/- The law DefectMirror: its walk. -/
import Derived.Test.YtpeajlponlmceaaMirror
import Derived.Test.YtpeajlponlmceaaSl
import Derived.StillTailTactics
namespace Go.Proofs.Ytpeajlponlmceaa
open Go.RowKit
set_option linter.unusedSimpArgs false
set_option linter.unusedVariables false

theorem Try.infoPart : (Try.prog.info? 33).map (fun i => (i.zero, i.size, i.bytes)) = some (some (.agg #[.int .i64 0, .int .i64 0]), 2, 16) := by kernel_rfl
theorem cells_new_at (w : World) (n : Nat) (hn : w.heap.size = n) (vs : List Value) (t : TypeId) (j : Nat) (u : Value) (h : vs[j]? = some u) : (w.alloc (.cells vs.toArray t)).cell? ((⟨n, 0, none⟩ : Addr).add j) = some u := by
  rw [add_at, cell_blk (blk_at hn _), Nat.zero_add, List.getElem?_toArray]
  exact h
def partsK (C : Cfg) (k : Nat) : List Value := ((C.parts.take k).map swP).flatMap partC
theorem partsK_succ (C : Cfg) (k : Nat) (h : k < C.parts.length) (p1 p2 : Int) (hx : C.parts[k] = (p1, p2)) : partsK C (k + 1) = partsK C k ++ [.int .i64 (swC p1), .int .i64 p2] := by
  rw [partsK, List.take_succ_eq_append_getElem h, List.map_append, List.flatMap_append, hx]
  simp [partsK, swP, partC]

set_option maxRecDepth 100000 in
set_option maxHeartbeats 8000000 in
theorem defectMirror_core (cv : Value) (C : Cfg) (hg : C.great = false) (w : World) (h : CfgAt w cv C) : Calls Try.prog 3 #[cv] w fun e w' => e = .returned (.bool true) ∧ Below w.heap.size w w' := by
  have HC := Kp.mk h
  have hsm := small_of_great hg
  have hs1 := hsm.1
  obtain ⟨i0, hi, hz0, hz1, hz2⟩ := info_parts Try.infoPart
  obtain ⟨ho, pa, pc, ca, cc, a0, c0, a1, c1, rfl, bp, bc, b0, b1, hp, hc, hw0, hw1⟩ := h
  have HP := Kp.mk hp
  have HCH := Kp.mk hc
  have HW0 := Kp.mk hw0
  have HW1 := Kp.mk hw1
  go_enter Try.func3, Try.ntmps3
  go_wp2_with fail
  refine (wakes7_any _).mono ?_
  rintro e w1 ⟨rfl, hb1⟩
  have K0 : w1.heap[w.heap.size]? = some (.cells #[.slice pa C.parts.length pc, .slice ca C.chans.length cc, .int .i64 C.l0, .slice a0 C.w0.length c0, .int .i64 C.l1, .slice a1 C.w1.length c1] 29 (0, 0)) := blk_below (blk_new w _) hb1
  have HB1 : Kp (Below w.heap.size w w1) := ⟨below_call (by repeat (first | exact Below.refl _ _ | apply below_al)) hb1⟩
  have HK1 := Kp.mk K0
  have q0 : w1.cell? ⟨w.heap.size, 0, none⟩ = some (.slice pa C.parts.length pc) := (cell_blk K0 0).trans rfl
  have q1 : w1.cell? ⟨w.heap.size, 1, none⟩ = some (.slice ca C.chans.length cc) := (cell_blk K0 1).trans rfl
  have q2 : w1.cell? ⟨w.heap.size, 2, none⟩ = some (.int .i64 C.l0) := (cell_blk K0 2).trans rfl
  have q3 : w1.cell? ⟨w.heap.size, 3, none⟩ = some (.slice a0 C.w0.length c0) := (cell_blk K0 3).trans rfl
  have q4 : w1.cell? ⟨w.heap.size, 4, none⟩ = some (.int .i64 C.l1) := (cell_blk K0 4).trans rfl
  have q5 : w1.cell? ⟨w.heap.size, 5, none⟩ = some (.slice a1 C.w1.length c1) := (cell_blk K0 5).trans rfl
  have l0 := blk_lt K0
  clear hb1 K0 hp hc hw0 hw1 ho
  go_wp2_with fail
  refine (great_any _ C _ (HC.out.below HB1.out)).mono ?_
  rw [hg]
  rintro e w2 ⟨rfl, hb2⟩
  have HB2 := Kp.mk (below_call HB1.out hb2)
  have HK2 := Kp.mk (blk_below HK1.out hb2)
  have r0 : w2.cell? ⟨w.heap.size, 0, none⟩ = some (.slice pa C.parts.length pc) := (cell_blk HK2.out 0).trans rfl
  have r1 : w2.cell? ⟨w.heap.size, 1, none⟩ = some (.slice ca C.chans.length cc) := (cell_blk HK2.out 1).trans rfl
  have r2 : w2.cell? ⟨w.heap.size, 2, none⟩ = some (.int .i64 C.l0) := (cell_blk HK2.out 2).trans rfl
  have r3 : w2.cell? ⟨w.heap.size, 3, none⟩ = some (.slice a0 C.w0.length c0) := (cell_blk HK2.out 3).trans rfl
  have r4 : w2.cell? ⟨w.heap.size, 4, none⟩ = some (.int .i64 C.l1) := (cell_blk HK2.out 4).trans rfl
  have r5 : w2.cell? ⟨w.heap.size, 5, none⟩ = some (.slice a1 C.w1.length c1) := (cell_blk HK2.out 5).trans rfl
  have l2 := blk_lt HK2.out
  clear hb2 q0 q1 q2 q3 q4 q5 l0
  go_wp2_with fail
  generalize hbx : w2.heap.size = bx
  have HBX : Kp (w2.heap.size = bx) := ⟨hbx⟩
  have hbx1 : w.heap.size < bx := by omega
  have hw2 := HB2.out.size
  clear hbx
  go_loopw [15] (fun i wr => ∃ (k : Nat) (vp : Value), k ≤ C.parts.length ∧ i = .int .i64 k ∧ Kp (Below w.heap.size w wr) ∧ Kp (wr.heap[w.heap.size]? = some (.cells #[.slice pa C.parts.length pc, .slice ca C.chans.length cc, .int .i64 C.l0, .slice a0 C.w0.length c0, .int .i64 C.l1, .slice a1 C.w1.length c1] 29 (0, 0))) ∧ Kp (wr.heap[bx]? = some (.cells #[vp, .slice ca C.chans.length cc, .int .i64 C.l0, .slice a0 C.w0.length c0, .int .i64 C.l1, .slice a1 C.w1.length c1] 29 (0, 0))) ∧ Kp (wr.ownsRow (bx + 1) 33 2 vp k (partsK C k))) (fun i wr => C.parts.length - (intOf i).toNat)
  case atStart =>
    refine ⟨0, .slice none 0 0, Nat.zero_le _, rfl, ⟨by repeat (first | exact HB2.out | apply below_al | (refine Below.setCell ?_ (by simp; omega) _))⟩, ⟨blk_al HK2.out _⟩, ⟨by rw [← HBX.out]; exact blk_new w2 _⟩, ⟨World.ownsRow_nil _ _ _ _⟩⟩
  case round =>
    obtain ⟨k, vp, hk, rfl, HB, HK, HX, HO⟩ := hrel
    obtain ⟨av, cv', rfl, hv1, hv2⟩ := (RowAt.of_own HO.out).shape
    have q0 : wr.cell? ⟨w.heap.size, 0, none⟩ = some (.slice pa C.parts.length pc) := (cell_blk HK.out 0).trans rfl
    have q1 : wr.cell? ⟨w.heap.size, 1, none⟩ = some (.slice ca C.chans.length cc) := (cell_blk HK.out 1).trans rfl
    have q2 : wr.cell? ⟨w.heap.size, 2, none⟩ = some (.int .i64 C.l0) := (cell_blk HK.out 2).trans rfl
    have q3 : wr.cell? ⟨w.heap.size, 3, none⟩ = some (.slice a0 C.w0.length c0) := (cell_blk HK.out 3).trans rfl
    have q4 : wr.cell? ⟨w.heap.size, 4, none⟩ = some (.int .i64 C.l1) := (cell_blk HK.out 4).trans rfl
    have q5 : wr.cell? ⟨w.heap.size, 5, none⟩ = some (.slice a1 C.w1.length c1) := (cell_blk HK.out 5).trans rfl
    have l0 := blk_lt HK.out
    have d0 : wr.cell? ⟨bx, 0, none⟩ = some (.slice av k cv') := (cell_blk HX.out 0).trans rfl
    have l1 := blk_lt HX.out
    have hwr := HB.out.size
    by_cases hlt : k < C.parts.length
    · obtain ⟨g, o, ha, hg, hcc⟩ := HP.out.at (by omega)
      obtain ⟨x, hx⟩ : ∃ x, C.parts[k] = x := ⟨_, rfl⟩
      have hcu : ∀ j, j < 2 → wr.cell? ⟨g, o + k * 2 + j, none⟩ = (partC x)[j]? := fun j hj => by
        have h1 := hcc (k * 2 + j) (by omega)
        rw [flat_at partC 2 partC_len C.parts k j hlt hj, hx] at h1
        rw [Nat.add_assoc]
        exact (HB.out.cell (p := ⟨g, o + (k * 2 + j), none⟩) hg).trans h1
      have e0 : wr.cell? ⟨g, o + k * 2, none⟩ = some (.int .i64 x.1) := hcu 0 (by omega)
      have e1 : wr.cell? ⟨g, o + k * 2 + 1, none⟩ = some (.int .i64 x.2) := hcu 1 (by omega)
      obtain ⟨p1, p2⟩ := x
      dsimp only at e0 e1
      have HN0 := Kp.mk (partsK_succ C k hlt p1 p2 hx)
      subst ha
      clear hcu hcc hx
      by_cases h0 : p1 = 0
      · subst h0
        have HN : Kp (partsK C (k + 1) = partsK C k ++ [.int .i64 1, .int .i64 p2]) := HN0
        go_wp2_with (at_builtin; refine wpList_append_own _ rfl _ _ 22 rfl (bx + 1) 33 i0 (.agg #[.int .i64 0, .int .i64 0]) 2 16 Try.underlying22 hi hz0 hz1 hz2 rfl (by decide) _ _ _ rfl ((HO.out.alloc _).alloc _) ⟨wr.heap.size + 1, 0, none⟩ 1 1 [.int .i64 1, .int .i64 p2] rfl rfl (cells_new_at (wr.alloc (.cells #[.int .i64 1, .int .i64 p2] 33)) (wr.heap.size + 1) (by simp) [.int .i64 1, .int .i64 p2] 33) (by simp [Value.oneCell']) (by unfold maxLen; omega) (by omega) (by simp; omega) ?_; intro v' w9 hown' hgrow _; obtain ⟨g', cap', rfl⟩ := ownsRow_succ hown'; have x9 := blk_grown (blk_al (blk_al HX.out _) _) (b := bx) (by omega) ((HO.out.alloc _).alloc _) hgrow; have d9 : w9.cell? ⟨bx, 0, none⟩ = some (.slice av k cv') := (cell_blk x9 0).trans rfl; have f9 : w9.frozen? ⟨bx, 0, none⟩ = false := frozen_blk x9 0)
        have c9 := blk_grown (blk_al (blk_al HK.out _) _) (b := w.heap.size) (by omega) ((HO.out.alloc _).alloc _) hgrow
        have HB9 : Kp (Below w.heap.size w w9) := ⟨below_own2 (below_al (below_al HB.out _) _) (by simp; omega) (by omega) ((HO.out.alloc _).alloc _) hgrow⟩
        go_roundw
        case rel => exact ⟨k + 1, _, by omega, by go_num, ⟨HB9.out.setCell (by show w.heap.size ≤ bx; omega) _⟩, ⟨blk_set_ne (p := ⟨bx, 0, none⟩) c9 (by show w.heap.size ≠ bx; omega) _⟩, ⟨(blk_set x9 0 _).trans rfl⟩, ⟨by
          rw [HN.out]
          exact own_set_ne hown' (by show bx < bx + 1; omega) _⟩⟩
        case measure => simp [intOf]; omega
      · by_cases h1 : p1 = 1
        · subst h1
          have HN : Kp (partsK C (k + 1) = partsK C k ++ [.int .i64 0, .int .i64 p2]) := HN0
          go_wp2_with (at_builtin; refine wpList_append_own _ rfl _ _ 22 rfl (bx + 1) 33 i0 (.agg #[.int .i64 0, .int .i64 0]) 2 16 Try.underlying22 hi hz0 hz1 hz2 rfl (by decide) _ _ _ rfl ((HO.out.alloc _).alloc _) ⟨wr.heap.size + 1, 0, none⟩ 1 1 [.int .i64 0, .int .i64 p2] rfl rfl (cells_new_at (wr.alloc (.cells #[.int .i64 0, .int .i64 p2] 33)) (wr.heap.size + 1) (by simp) [.int .i64 0, .int .i64 p2] 33) (by simp [Value.oneCell']) (by unfold maxLen; omega) (by omega) (by simp; omega) ?_; intro v' w9 hown' hgrow _; obtain ⟨g', cap', rfl⟩ := ownsRow_succ hown'; have x9 := blk_grown (blk_al (blk_al HX.out _) _) (b := bx) (by omega) ((HO.out.alloc _).alloc _) hgrow; have d9 : w9.cell? ⟨bx, 0, none⟩ = some (.slice av k cv') := (cell_blk x9 0).trans rfl; have f9 : w9.frozen? ⟨bx, 0, none⟩ = false := frozen_blk x9 0)
          have c9 := blk_grown (blk_al (blk_al HK.out _) _) (b := w.heap.size) (by omega) ((HO.out.alloc _).alloc _) hgrow
          have HB9 : Kp (Below w.heap.size w w9) := ⟨below_own2 (below_al (below_al HB.out _) _) (by simp; omega) (by omega) ((HO.out.alloc _).alloc _) hgrow⟩
          go_roundw
          case rel => exact ⟨k + 1, _, by omega, by go_num, ⟨HB9.out.setCell (by show w.heap.size ≤ bx; omega) _⟩, ⟨blk_set_ne (p := ⟨bx, 0, none⟩) c9 (by show w.heap.size ≠ bx; omega) _⟩, ⟨(blk_set x9 0 _).trans rfl⟩, ⟨by
            rw [HN.out]
            exact own_set_ne hown' (by show bx < bx + 1; omega) _⟩⟩
          case measure => simp [intOf]; omega
        · have hsw : swC p1 = p1 := by rw [swC, if_neg h0, if_neg h1]
          have HN : Kp (partsK C (k + 1) = partsK C k ++ [.int .i64 p1, .int .i64 p2]) := ⟨by rw [HN0.out, hsw]⟩
          have h0' : (p1 == 0) = false := by simpa using h0
          have h1' : (p1 == 1) = false := by simpa using h1
          go_wp2_with (at_builtin; refine wpList_append_own _ rfl _ _ 22 rfl (bx + 1) 33 i0 (.agg #[.int .i64 0, .int .i64 0]) 2 16 Try.underlying22 hi hz0 hz1 hz2 rfl (by decide) _ _ _ rfl ((HO.out.alloc _).alloc _) ⟨wr.heap.size + 1, 0, none⟩ 1 1 [.int .i64 p1, .int .i64 p2] rfl rfl (cells_new_at (wr.alloc (.cells #[.int .i64 p1, .int .i64 p2] 33)) (wr.heap.size + 1) (by simp) [.int .i64 p1, .int .i64 p2] 33) (by simp [Value.oneCell']) (by unfold maxLen; omega) (by omega) (by simp; omega) ?_; intro v' w9 hown' hgrow _; obtain ⟨g', cap', rfl⟩ := ownsRow_succ hown'; have x9 := blk_grown (blk_al (blk_al HX.out _) _) (b := bx) (by omega) ((HO.out.alloc _).alloc _) hgrow; have d9 : w9.cell? ⟨bx, 0, none⟩ = some (.slice av k cv') := (cell_blk x9 0).trans rfl; have f9 : w9.frozen? ⟨bx, 0, none⟩ = false := frozen_blk x9 0)
          have c9 := blk_grown (blk_al (blk_al HK.out _) _) (b := w.heap.size) (by omega) ((HO.out.alloc _).alloc _) hgrow
          have HB9 : Kp (Below w.heap.size w w9) := ⟨below_own2 (below_al (below_al HB.out _) _) (by simp; omega) (by omega) ((HO.out.alloc _).alloc _) hgrow⟩
          go_roundw
          case rel => exact ⟨k + 1, _, by omega, by go_num, ⟨HB9.out.setCell (by show w.heap.size ≤ bx; omega) _⟩, ⟨blk_set_ne (p := ⟨bx, 0, none⟩) c9 (by show w.heap.size ≠ bx; omega) _⟩, ⟨(blk_set x9 0 _).trans rfl⟩, ⟨by
            rw [HN.out]
            exact own_set_ne hown' (by show bx < bx + 1; omega) _⟩⟩
          case measure => simp [intOf]; omega
    · obtain rfl : k = C.parts.length := by omega
      have d2 : wr.cell? ⟨bx, 2, none⟩ = some (.int .i64 C.l0) := (cell_blk HX.out 2).trans rfl
      have f2 : wr.frozen? ⟨bx, 2, none⟩ = false := frozen_blk HX.out 2
      have d3 : wr.cell? ⟨bx, 3, none⟩ = some (.slice a0 C.w0.length c0) := (cell_blk HX.out 3).trans rfl
      have f3 : wr.frozen? ⟨bx, 3, none⟩ = false := frozen_blk HX.out 3
      have d4 : wr.cell? ⟨bx, 4, none⟩ = some (.int .i64 C.l1) := (cell_blk HX.out 4).trans rfl
      have f4 : wr.frozen? ⟨bx, 4, none⟩ = false := frozen_blk HX.out 4
      have d5 : wr.cell? ⟨bx, 5, none⟩ = some (.slice a1 C.w1.length c1) := (cell_blk HX.out 5).trans rfl
      have f5 : wr.frozen? ⟨bx, 5, none⟩ = false := frozen_blk HX.out 5
      go_wp2_with fail
      refine wp_region_held_drew (S := (fun w9 : World => ∀ o, w9.cell? ⟨w.heap.size, o, none⟩ = wr.cell? ⟨w.heap.size, o, none⟩)) (by kernel_rfl) (fun o => rfl) (fun hHeld => ?_)
      refine wpAnyH_take (i := 0) (oi := ⟨_, _, _, _, _, _⟩) (v := ?_) rfl (by kernel_rfl) (by kernel_rfl) (by kernel_rfl) (fun _ _ _ h => h) (Or.inl ⟨by rfl, ?_⟩) (by assumption) ?_
      rotate_left 1
      · (intro w hSw; go_simp; try with_reducible rfl)
      try simp only [Act.put, List.setIfInBounds_toArray, List.set_cons_zero, List.set_cons_succ]
      refine wpAnyH_take (i := 1) (oi := ⟨_, _, _, _, _, _⟩) (v := ?_) rfl (by kernel_rfl) (by kernel_rfl) (by kernel_rfl) (fun _ _ _ h => h) (Or.inl ⟨by rfl, ?_⟩) (by assumption) ?_
      rotate_left 1
      · (intro w hSw; go_simp; try with_reducible rfl)
      try simp only [Act.put, List.setIfInBounds_toArray, List.set_cons_zero, List.set_cons_succ]
      refine wpAnyH_take (i := 2) (oi := ⟨_, _, _, _, _, _⟩) (v := ?_) rfl (by kernel_rfl) (by kernel_rfl) (by kernel_rfl) (fun _ _ _ h => h) (Or.inl ⟨by rfl, ?_⟩) (by assumption) ?_
      rotate_left 1
      · (intro w hSw; go_simp; try with_reducible rfl)
      try simp only [Act.put, List.setIfInBounds_toArray, List.set_cons_zero, List.set_cons_succ]
      refine wpAnyH_take (i := 3) (oi := ⟨_, _, _, _, _, _⟩) (v := ?_) rfl (by kernel_rfl) (by kernel_rfl) (by kernel_rfl) (fun _ _ _ h => h) (Or.inl ⟨by rfl, ?_⟩) (by assumption) ?_
      rotate_left 1
      · (intro w hSw; go_simp; try with_reducible rfl)
      try simp only [Act.put, List.setIfInBounds_toArray, List.set_cons_zero, List.set_cons_succ]
      refine wpAnyH_take (i := 4) (oi := ⟨_, _, _, _, _, _⟩) (v := ?_) rfl (by kernel_rfl) (by kernel_rfl) (by kernel_rfl) (fun _ _ _ h => h) (Or.inl ⟨by rfl, ?_⟩) (by assumption) ?_
      rotate_left 1
      · (intro w hSw; go_simp; try with_reducible rfl)
      try simp only [Act.put, List.setIfInBounds_toArray, List.set_cons_zero, List.set_cons_succ]
      refine wpAnyH_take (i := 5) (oi := ⟨_, _, _, _, _, _⟩) (v := ?_) rfl (by kernel_rfl) (by kernel_rfl) (by kernel_rfl) (fun _ _ _ h => h) (Or.inl ⟨by rfl, ?_⟩) (by assumption) ?_
      rotate_left 1
      · (intro w hSw; go_simp; try with_reducible rfl)
      try simp only [Act.put, List.setIfInBounds_toArray, List.set_cons_zero, List.set_cons_succ]
      refine wpAnyH_take (i := 6) (oi := ⟨_, _, _, _, _, _⟩) (v := ?_) rfl (by kernel_rfl) (by kernel_rfl) (by kernel_rfl) (fun _ _ _ h => h) (Or.inl ⟨by rfl, ?_⟩) (by assumption) ?_
      rotate_left 1
      · (intro w hSw; go_simp; try with_reducible rfl)
      try simp only [Act.put, List.setIfInBounds_toArray, List.set_cons_zero, List.set_cons_succ]
      refine wpAnyH_take (i := 7) (oi := ⟨_, _, _, _, _, _⟩) (v := ?_) rfl (by kernel_rfl) (by kernel_rfl) (by kernel_rfl) (fun _ _ _ h => h) (Or.inl ⟨by rfl, ?_⟩) (by assumption) ?_
      rotate_left 1
      · (intro w hSw; go_simp; try with_reducible rfl)
      try simp only [Act.put, List.setIfInBounds_toArray, List.set_cons_zero, List.set_cons_succ]
      refine wpAnyH_take (i := 9) (oi := ⟨_, _, _, _, _, _⟩) (v := ?_) rfl (by kernel_rfl) (by kernel_rfl) (by kernel_rfl) (fun _ _ _ h => h) (Or.inl ⟨by rfl, ?_⟩) (by assumption) ?_
      rotate_left 1
      · (intro w hSw; go_simp; try with_reducible rfl)
      try simp only [Act.put, List.setIfInBounds_toArray, List.set_cons_zero, List.set_cons_succ]
      refine wpAnyH_ready (rs := [8]) (by kernel_rfl) (by simp) ?_
      refine AllReadyH.cons (o := ⟨_, _, _, _, _, _⟩) rfl (fun K hK => ?_) AllReadyH.nil
      go_simp
      try go_wp2_with fail
      refine hK.out _ _ ?_ (fun hHeld => ?_)
      case refine_1 => exact fun o => (World.cell?_of_block (a := ⟨w.heap.size, o, none⟩) ((Below.heap_setCell _ _ _ _ (by show w.heap.size ≠ bx; omega)).trans (Below.heap_setCell _ _ _ _ (by show w.heap.size ≠ bx; omega)))).trans (hHeld o)
      clear hK K
      try simp only [Act.put, List.setIfInBounds_toArray, List.set_cons_zero, List.set_cons_succ]
      refine wpAnyH_take (i := 10) (oi := ⟨_, _, _, _, _, _⟩) (v := ?_) rfl (by kernel_rfl) (by kernel_rfl) (by kernel_rfl) (fun _ _ _ h => h) (Or.inl ⟨by rfl, ?_⟩) (by assumption) ?_
      rotate_left 1
      · (intro w hSw; go_simp; try with_reducible rfl)
      try simp only [Act.put, List.setIfInBounds_toArray, List.set_cons_zero, List.set_cons_succ]
      refine wpAnyH_ready (rs := [11]) (by kernel_rfl) (by simp) ?_
      refine AllReadyH.cons (o := ⟨_, _, _, _, _, _⟩) rfl (fun K hK => ?_) AllReadyH.nil
      go_simp
      try go_wp2_with fail
      refine hK.out _ _ ?_ (fun hHeld => ?_)
      case refine_1 => exact fun o => (World.cell?_of_block (a := ⟨w.heap.size, o, none⟩) ((Below.heap_setCell _ _ _ _ (by show w.heap.size ≠ bx; omega)).trans (Below.heap_setCell _ _ _ _ (by show w.heap.size ≠ bx; omega)))).trans (hHeld o)
      clear hK K
      try simp only [Act.put, List.setIfInBounds_toArray, List.set_cons_zero, List.set_cons_succ]
      refine wpAnyH_done (by kernel_rfl) ?_ _
      have W5B : Below w.heap.size w ((((wr.setCell ⟨bx, 2, none⟩ (.int .i64 C.l1)).setCell ⟨bx, 3, none⟩ (.slice a1 C.w1.length c1)).setCell ⟨bx, 4, none⟩ (.int .i64 C.l0)).setCell ⟨bx, 5, none⟩ (.slice a0 C.w0.length c0)).drew := below_dr ((((HB.out.setCell (by show w.heap.size ≤ bx; omega) _).setCell (by show w.heap.size ≤ bx; omega) _).setCell (by show w.heap.size ≤ bx; omega) _).setCell (by show w.heap.size ≤ bx; omega) _)
      have W5K : ((((wr.setCell ⟨bx, 2, none⟩ (.int .i64 C.l1)).setCell ⟨bx, 3, none⟩ (.slice a1 C.w1.length c1)).setCell ⟨bx, 4, none⟩ (.int .i64 C.l0)).setCell ⟨bx, 5, none⟩ (.slice a0 C.w0.length c0)).drew.heap[w.heap.size]? = some (.cells #[.slice pa C.parts.length pc, .slice ca C.chans.length cc, .int .i64 C.l0, .slice a0 C.w0.length c0, .int .i64 C.l1, .slice a1 C.w1.length c1] 29 (0, 0)) := blk_dr (blk_set_ne (blk_set_ne (blk_set_ne (blk_set_ne HK.out (p := ⟨bx, 2, none⟩) (by show w.heap.size ≠ bx; omega) _) (p := ⟨bx, 3, none⟩) (by show w.heap.size ≠ bx; omega) _) (p := ⟨bx, 4, none⟩) (by show w.heap.size ≠ bx; omega) _) (p := ⟨bx, 5, none⟩) (by show w.heap.size ≠ bx; omega) _)
      have W5X : ((((wr.setCell ⟨bx, 2, none⟩ (.int .i64 C.l1)).setCell ⟨bx, 3, none⟩ (.slice a1 C.w1.length c1)).setCell ⟨bx, 4, none⟩ (.int .i64 C.l0)).setCell ⟨bx, 5, none⟩ (.slice a0 C.w0.length c0)).drew.heap[bx]? = some (.cells #[Value.slice av C.parts.length cv', Value.slice ca C.chans.length cc, Value.int .i64 C.l1, Value.slice a1 C.w1.length c1, Value.int .i64 C.l0, Value.slice a0 C.w0.length c0] 29 (0, 0)) := blk_dr ((blk_set (blk_set (blk_set (blk_set HX.out 2 _) 3 _) 4 _) 5 _).trans rfl)
      have W5O : ((((wr.setCell ⟨bx, 2, none⟩ (.int .i64 C.l1)).setCell ⟨bx, 3, none⟩ (.slice a1 C.w1.length c1)).setCell ⟨bx, 4, none⟩ (.int .i64 C.l0)).setCell ⟨bx, 5, none⟩ (.slice a0 C.w0.length c0)).drew.ownsRow (bx + 1) 33 2 (.slice av C.parts.length cv') C.parts.length (partsK C C.parts.length) := own_set_ne (own_set_ne (own_set_ne (own_set_ne HO.out (p := ⟨bx, 2, none⟩) (by show bx < bx + 1; omega) _) (p := ⟨bx, 3, none⟩) (by show bx < bx + 1; omega) _) (p := ⟨bx, 4, none⟩) (by show bx < bx + 1; omega) _) (p := ⟨bx, 5, none⟩) (by show bx < bx + 1; omega) _
      have HB5 := Kp.mk W5B
      have HK5 := Kp.mk W5K
      have HX5 := Kp.mk W5X
      have HO5 := Kp.mk W5O
      clear W5B W5K W5X W5O hHeld q0 q1 q2 q3 q4 q5 l0 l1 d0 d2 d3 d4 d5 f2 f3 f4 f5
      generalize ((((wr.setCell ⟨bx, 2, none⟩ (.int .i64 C.l1)).setCell ⟨bx, 3, none⟩ (.slice a1 C.w1.length c1)).setCell ⟨bx, 4, none⟩ (.int .i64 C.l0)).setCell ⟨bx, 5, none⟩ (.slice a0 C.w0.length c0)).drew = w5 at HB5 HK5 HX5 HO5 ⊢
      have q0 : w5.cell? ⟨w.heap.size, 0, none⟩ = some (.slice pa C.parts.length pc) := (cell_blk HK5.out 0).trans rfl
      have q1 : w5.cell? ⟨w.heap.size, 1, none⟩ = some (.slice ca C.chans.length cc) := (cell_blk HK5.out 1).trans rfl
      have q2 : w5.cell? ⟨w.heap.size, 2, none⟩ = some (.int .i64 C.l0) := (cell_blk HK5.out 2).trans rfl
      have q3 : w5.cell? ⟨w.heap.size, 3, none⟩ = some (.slice a0 C.w0.length c0) := (cell_blk HK5.out 3).trans rfl
      have q4 : w5.cell? ⟨w.heap.size, 4, none⟩ = some (.int .i64 C.l1) := (cell_blk HK5.out 4).trans rfl
      have q5 : w5.cell? ⟨w.heap.size, 5, none⟩ = some (.slice a1 C.w1.length c1) := (cell_blk HK5.out 5).trans rfl
      have x0 : w5.cell? ⟨bx, 0, none⟩ = some (Value.slice av C.parts.length cv') := (cell_blk HX5.out 0).trans rfl
      have x1 : w5.cell? ⟨bx, 1, none⟩ = some (Value.slice ca C.chans.length cc) := (cell_blk HX5.out 1).trans rfl
      have x2 : w5.cell? ⟨bx, 2, none⟩ = some (Value.int .i64 C.l1) := (cell_blk HX5.out 2).trans rfl
      have x3 : w5.cell? ⟨bx, 3, none⟩ = some (Value.slice a1 C.w1.length c1) := (cell_blk HX5.out 3).trans rfl
      have x4 : w5.cell? ⟨bx, 4, none⟩ = some (Value.int .i64 C.l0) := (cell_blk HX5.out 4).trans rfl
      have x5 : w5.cell? ⟨bx, 5, none⟩ = some (Value.slice a0 C.w0.length c0) := (cell_blk HX5.out 5).trans rfl
      have l5 := blk_lt HK5.out
      have l6 := blk_lt HX5.out
      have HCX : Kp (CfgAt w5 (.agg #[Value.slice av C.parts.length cv', Value.slice ca C.chans.length cc, Value.int .i64 C.l1, Value.slice a1 C.w1.length c1, Value.int .i64 C.l0, Value.slice a0 C.w0.length c0]) (mirror C)) := ⟨by
        have hr : RowAt w5 2 (.slice av C.parts.length cv') C.parts.length (partsK C C.parts.length) := RowAt.of_own HO5.out
        have hpk : partsK C C.parts.length = (mirror C).parts.flatMap partC := by rw [partsK, List.take_length]; rfl
        rw [hpk] at hr
        have hml := mirror_len C
        refine ⟨mirror_ok HC.out.1, av, cv', ca, cc, a1, c1, a0, c0, by rw [hml]; rfl, ⟨by rw [hml]; exact hv1, hv2⟩, bc, b1, b0, by rw [hml]; exact hr, HCH.out.below HB5.out, HW1.out.below HB5.out, HW0.out.below HB5.out⟩⟩
      have H99 : Kp ((defsB (mirror C)).take (99 : Int).toNat = (defsB C).take (99 : Int).toNat) := ⟨by rw [mirror_defs]⟩
      obtain ⟨q, HQ⟩ : ∃ q, Kp ((defsB C).take (99 : Int).toNat = q) := ⟨_, ⟨rfl⟩⟩
      go_wp2_with fail
      refine wp_region_held_drew (S := (fun w' : World => Below (w5).heap.size (w5) w' ∧ ∀ b o, b < (w5).heap.size → w'.cell? ⟨b, o, none⟩ = (w5).cell? ⟨b, o, none⟩)) (by kernel_rfl) (old_drew _) (fun hHeld => ?_)
      refine wpAnyH_take (i := 0) (oi := ⟨_, _, _, _, _, _⟩) (v := ?_) rfl (by kernel_rfl) (by kernel_rfl) (by kernel_rfl) (fun _ _ _ h => h) (Or.inl ⟨by rfl, ?_⟩) (by assumption) ?_
      rotate_left 1
      · (intro w hSw; go_simp; try with_reducible rfl)
      try simp only [Act.put, List.setIfInBounds_toArray, List.set_cons_zero, List.set_cons_succ]
      refine wpAnyH_take (i := 2) (oi := ⟨_, _, _, _, _, _⟩) (v := ?_) rfl (by kernel_rfl) (by kernel_rfl) (by kernel_rfl) (fun _ _ _ h => h) (Or.inl ⟨by rfl, ?_⟩) (by assumption) ?_
      rotate_left 1
      · (intro w hSw; go_simp; try with_reducible rfl)
      try simp only [Act.put, List.setIfInBounds_toArray, List.set_cons_zero, List.set_cons_succ]
      refine wpAnyH_ready (rs := [1]) (by kernel_rfl) (by simp) ?_
      refine AllReadyH.cons (o := ⟨_, _, _, _, _, _⟩) rfl (fun K hK => ?_) AllReadyH.nil
      go_simp
      go_at_call 16
      refine (told7_any 99 _ (mirror C) (mirror_small hsm) _ (HCX.out.below (And.left hHeld))).mono ?_
      rw [H99.out, HQ.out]
      rintro e w9 ⟨vt, rfl, hown, hb⟩
      have OW := Kp.mk (RowAt.of_own hown)
      clear hown
      have OW2 := Kp.mk (OW.out.below (Below.refl _ _))
      have hK1 := old_call hHeld hb
      clear hHeld hb
      go_wp2_with fail
      refine hK.out _ _ ?_ (fun hHeld => ?_)
      case refine_1 => exact hK1
      clear hK K
      try simp only [Act.put, List.setIfInBounds_toArray, List.set_cons_zero, List.set_cons_succ]
      refine wpAnyH_ready (rs := [3]) (by kernel_rfl) (by simp) ?_
      refine AllReadyH.cons (o := ⟨_, _, _, _, _, _⟩) rfl (fun K hK => ?_) AllReadyH.nil
      go_simp
      go_at_call 16
      refine (told7_any 99 _ C hsm _ (HC.out.below (below_call HB5.out (And.left hHeld)))).mono ?_
      rw [HQ.out]
      rintro e w9 ⟨vt2, rfl, hown, hb⟩
      have OZ := Kp.mk (RowAt.of_own hown)
      have OW3 := Kp.mk (OW.out.below hb)
      clear hown
      have hK1 := old_call hHeld hb
      clear hHeld hb
      go_wp2_with fail
      refine hK.out _ _ ?_ (fun hHeld => ?_)
      case refine_1 => exact hK1
      clear hK K
      try simp only [Act.put, List.setIfInBounds_toArray, List.set_cons_zero, List.set_cons_succ]
      refine wpAnyH_ready (rs := [4]) (by kernel_rfl) (by simp) ?_
      refine AllReadyH.cons (o := ⟨_, _, _, _, _, _⟩) rfl (fun K hK => ?_) AllReadyH.nil
      go_simp
      go_at_call 15
      refine (rsame_any _ _ q q true (by simp) _ OW3.out OZ.out).mono ?_
      rintro e w9 ⟨rfl, hb⟩
      have hK1 := old_call hHeld hb
      clear hHeld hb
      go_wp2_with fail
      refine hK.out _ _ ?_ (fun hHeld => ?_)
      case refine_1 => exact hK1
      clear hK K
      try simp only [Act.put, List.setIfInBounds_toArray, List.set_cons_zero, List.set_cons_succ]
      refine wpAnyH_take (i := 5) (oi := ⟨_, _, _, _, _, _⟩) (v := ?_) rfl (by kernel_rfl) (by kernel_rfl) (by kernel_rfl) (fun _ _ _ h => h) (Or.inl ⟨by rfl, ?_⟩) (by assumption) ?_
      rotate_left 1
      · (intro w hSw; go_simp; try with_reducible rfl)
      try simp only [Act.put, List.setIfInBounds_toArray, List.set_cons_zero, List.set_cons_succ]
      refine wpAnyH_done (by kernel_rfl) ?_ _
      have hb := And.left hHeld
      go_wp2
      go_ret
      exact ⟨rfl, below_call HB5.out hb⟩
end Go.Proofs.Ytpeajlponlmceaa

/- Contracts of May, of what is not accepted, and of the reference's May. -/
import Derived.Test.YtpeajlponlmceaaLay11
namespace Go.Proofs.Ytpeajlponlmceaa
open Go.RowKit
set_option linter.unusedSimpArgs false
set_option linter.unusedVariables false

set_option maxRecDepth 100000 in
set_option maxHeartbeats 8000000 in
theorem may_none (cv : Value) (C : Cfg) (hsm : C.small) (ha : accB C = false) (p a : Int) (w : World) (h : CfgAt w cv C) : Calls Try.prog 39 #[cv, .int .i64 p, .int .i64 a] w fun e w' => e = .returned (.bool (mayB C p a)) ∧ Below w.heap.size w w' := by
  have HC := Kp.mk h
  have HM : Kp (mayB C p a = false) := ⟨mayB_no ha p a⟩
  have HZ := Kp.mk (hasS_zero a)
  obtain ⟨ho, pa, pc, ca, cc, a0, c0, a1, c1, rfl, bp, bc, b0, b1, hp, hc, hw0, hw1⟩ := h
  clear ho hp hc hw0 hw1
  go_enter Try.func39, Try.ntmps39
  have HB0 : Kp (Below w.heap.size w w) := ⟨Below.refl _ _⟩
  go_wp2_with fail
  refine (of_no _ C hsm ha _ (HC.out.below (below_al HB0.out _))).mono ?_
  rintro e w1 ⟨rfl, hb⟩
  have q1 : Kp (w1.heap[w.heap.size]? = some (.cells #[.slice pa C.parts.length pc, .slice ca C.chans.length cc, .int .i64 C.l0, .slice a0 C.w0.length c0, .int .i64 C.l1, .slice a1 C.w1.length c1] 29 (0, 0))) := ⟨blk_below (blk_new _ _) hb⟩
  have HB1 : Kp (Below w.heap.size w w1) := ⟨below_call (below_al HB0.out _) hb⟩
  clear HB0 hb
  have qc0 : w1.cell? ⟨w.heap.size, 0, none⟩ = some (.slice pa C.parts.length pc) := (cell_blk q1.out 0).trans rfl
  have qc1 : w1.cell? ⟨w.heap.size, 1, none⟩ = some (.slice ca C.chans.length cc) := (cell_blk q1.out 1).trans rfl
  have qc2 : w1.cell? ⟨w.heap.size, 2, none⟩ = some (.int .i64 C.l0) := (cell_blk q1.out 2).trans rfl
  have qc3 : w1.cell? ⟨w.heap.size, 3, none⟩ = some (.slice a0 C.w0.length c0) := (cell_blk q1.out 3).trans rfl
  have qc4 : w1.cell? ⟨w.heap.size, 4, none⟩ = some (.int .i64 C.l1) := (cell_blk q1.out 4).trans rfl
  have qc5 : w1.cell? ⟨w.heap.size, 5, none⟩ = some (.slice a1 C.w1.length c1) := (cell_blk q1.out 5).trans rfl
  have ql := blk_lt q1.out
  go_wp2_with fail
  refine (at_no 0 0 _ 0 p 0 (by omega) _).mono ?_
  rintro e w2 ⟨rfl, hb⟩
  have p2 : Kp (w2.heap[w1.heap.size]? = some (.cells #[.int .i64 0, .slice none 0 0, .int .i64 0] 79 (0, 0))) := ⟨blk_below (blk_new _ _) hb⟩
  have q2 : Kp (w2.heap[w.heap.size]? = some (.cells #[.slice pa C.parts.length pc, .slice ca C.chans.length cc, .int .i64 C.l0, .slice a0 C.w0.length c0, .int .i64 C.l1, .slice a1 C.w1.length c1] 29 (0, 0))) := ⟨blk_below (blk_al q1.out _) hb⟩
  have HB2 : Kp (Below w.heap.size w w2) := ⟨below_call (below_al HB1.out _) hb⟩
  clear qc0 qc1 qc2 qc3 qc4 qc5 ql q1 HB1 hb
  have pc0 : w2.cell? ⟨w1.heap.size, 0, none⟩ = some (.int .i64 0) := (cell_blk p2.out 0).trans rfl
  have pc1 : w2.cell? ⟨w1.heap.size, 1, none⟩ = some (.slice none 0 0) := (cell_blk p2.out 1).trans rfl
  have pc2 : w2.cell? ⟨w1.heap.size, 2, none⟩ = some (.int .i64 0) := (cell_blk p2.out 2).trans rfl
  have pl := blk_lt p2.out
  have qc0 : w2.cell? ⟨w.heap.size, 0, none⟩ = some (.slice pa C.parts.length pc) := (cell_blk q2.out 0).trans rfl
  have qc1 : w2.cell? ⟨w.heap.size, 1, none⟩ = some (.slice ca C.chans.length cc) := (cell_blk q2.out 1).trans rfl
  have qc2 : w2.cell? ⟨w.heap.size, 2, none⟩ = some (.int .i64 C.l0) := (cell_blk q2.out 2).trans rfl
  have qc3 : w2.cell? ⟨w.heap.size, 3, none⟩ = some (.slice a0 C.w0.length c0) := (cell_blk q2.out 3).trans rfl
  have qc4 : w2.cell? ⟨w.heap.size, 4, none⟩ = some (.int .i64 C.l1) := (cell_blk q2.out 4).trans rfl
  have qc5 : w2.cell? ⟨w.heap.size, 5, none⟩ = some (.slice a1 C.w1.length c1) := (cell_blk q2.out 5).trans rfl
  have ql := blk_lt q2.out
  go_wp2_with fail
  refine (hasS_any (0, 0) a false HZ.out _).mono ?_
  rintro e w3 ⟨rfl, hb⟩
  have p3 : Kp (w3.heap[w1.heap.size]? = some (.cells #[.int .i64 0, .slice none 0 0, .int .i64 0] 79 (0, 0))) := ⟨blk_below p2.out hb⟩
  have q3 : Kp (w3.heap[w.heap.size]? = some (.cells #[.slice pa C.parts.length pc, .slice ca C.chans.length cc, .int .i64 C.l0, .slice a0 C.w0.length c0, .int .i64 C.l1, .slice a1 C.w1.length c1] 29 (0, 0))) := ⟨blk_below q2.out hb⟩
  have HB3 : Kp (Below w.heap.size w w3) := ⟨below_call HB2.out hb⟩
  clear pc0 pc1 pc2 pl qc0 qc1 qc2 qc3 qc4 qc5 ql p2 q2 HB2 hb
  have pc0 : w3.cell? ⟨w1.heap.size, 0, none⟩ = some (.int .i64 0) := (cell_blk p3.out 0).trans rfl
  have pc1 : w3.cell? ⟨w1.heap.size, 1, none⟩ = some (.slice none 0 0) := (cell_blk p3.out 1).trans rfl
  have pc2 : w3.cell? ⟨w1.heap.size, 2, none⟩ = some (.int .i64 0) := (cell_blk p3.out 2).trans rfl
  have pl := blk_lt p3.out
  have qc0 : w3.cell? ⟨w.heap.size, 0, none⟩ = some (.slice pa C.parts.length pc) := (cell_blk q3.out 0).trans rfl
  have qc1 : w3.cell? ⟨w.heap.size, 1, none⟩ = some (.slice ca C.chans.length cc) := (cell_blk q3.out 1).trans rfl
  have qc2 : w3.cell? ⟨w.heap.size, 2, none⟩ = some (.int .i64 C.l0) := (cell_blk q3.out 2).trans rfl
  have qc3 : w3.cell? ⟨w.heap.size, 3, none⟩ = some (.slice a0 C.w0.length c0) := (cell_blk q3.out 3).trans rfl
  have qc4 : w3.cell? ⟨w.heap.size, 4, none⟩ = some (.int .i64 C.l1) := (cell_blk q3.out 4).trans rfl
  have qc5 : w3.cell? ⟨w.heap.size, 5, none⟩ = some (.slice a1 C.w1.length c1) := (cell_blk q3.out 5).trans rfl
  have ql := blk_lt q3.out
  go_upto_region 4 with fail
  go_cut [8, 9] (fun s8 s9 wx => ∃ (bs bd : Nat) (v3 : Option Addr) (c3 : Nat), s8 = .pointer (some ⟨bs, 0, none⟩) ∧ s9 = .pointer (some ⟨bd, 0, none⟩) ∧ Kp (Below w.heap.size w wx) ∧ Kp (wx.heap[bs]? = some (.cells #[.int .i64 0, .slice v3 0 c3, .int .i64 0] 79 (0, 0))))
  case first =>
    refine held_start_gen (S := (fun w' : World => ButB (w3.heap.size) [] w3 w' ∧ ∀ bb o, bb < w3.heap.size → w'.cell? ⟨bb, o, none⟩ = w3.cell? ⟨bb, o, none⟩)) (by kernel_rfl) (fun wz : World => Kp (wz.heap[w1.heap.size]? = some (.cells #[.int .i64 0, .slice none 0 0, .int .i64 0] 79 (0, 0))) ∧ Kp (wz.heap[w.heap.size]? = some (.cells #[.slice pa C.parts.length pc, .slice ca C.chans.length cc, .int .i64 C.l0, .slice a0 C.w0.length c0, .int .i64 C.l1, .slice a1 C.w1.length c1] 29 (0, 0))) ∧ Kp (Below w.heap.size w wz) ∧ w3.heap.size ≤ wz.heap.size) ⟨⟨blk_dr p3.out⟩, ⟨blk_dr q3.out⟩, ⟨below_dr HB3.out⟩, Nat.le_refl _⟩ (sx_of0 (ButB.dr (ButB.refl _ (by omega)))) (fun wd0 hRn hHeld => ?_)
    clear p3 q3 HB3
    obtain ⟨p3, q3, HB3, hsz⟩ := hRn
    refine wpAnyH_take (i := 0) (oi := ⟨_, _, _, _, _, _⟩) (v := ?_) rfl (by kernel_rfl) (by kernel_rfl) (by kernel_rfl) (fun _ _ _ h => h) (Or.inl ⟨by rfl, ?_⟩) (by assumption) ?_
    rotate_left 1
    · (intro w hSw; go_simp; try with_reducible rfl)
    try simp only [Act.put, List.setIfInBounds_toArray, List.set_cons_zero, List.set_cons_succ]
    refine wpAnyH_take (i := 2) (oi := ⟨_, _, _, _, _, _⟩) (v := ?_) rfl (by kernel_rfl) (by kernel_rfl) (by kernel_rfl) (fun _ _ _ h => h) (Or.inl ⟨by rfl, ?_⟩) (by assumption) ?_
    rotate_left 1
    · (intro w hSw; go_simp; try with_reducible rfl)
    try simp only [Act.put, List.setIfInBounds_toArray, List.set_cons_zero, List.set_cons_succ]
    refine wpAnyH_ready (rs := [1, 4, 5]) (by kernel_rfl) (by simp) ?_
    refine (AllReadyH.cons (o := ⟨_, _, _, _, _, _⟩) rfl (fun K hK => ?_) (AllReadyH.cons (o := ⟨_, _, _, _, _, _⟩) rfl (fun K hK => ?_) (AllReadyH.cons (o := ⟨_, _, _, _, _, _⟩) rfl (fun K hK => ?_) AllReadyH.nil)))
    · go_simp
      go_at_call 57
      refine (chans_any 0 0 0 0 (.slice none 0 0) [] (by omega) (by omega) (by omega) rfl _ (no_row _ 0)).mono ?_
      rintro e w9 ⟨vv, rfl, hO, hb⟩
      obtain ⟨v3, c3, rfl, hx1, hx2⟩ := (RowAt.of_own hO).shape
      try go_wp2_with fail
      refine out_gen hK _ _ (fun wz : World => Kp (wz.heap[w1.heap.size]? = some (.cells #[.int .i64 0, .slice none 0 0, .int .i64 0] 79 (0, 0))) ∧ Kp (wz.heap[w.heap.size]? = some (.cells #[.slice pa C.parts.length pc, .slice ca C.chans.length cc, .int .i64 C.l0, .slice a0 C.w0.length c0, .int .i64 C.l1, .slice a1 C.w1.length c1] 29 (0, 0))) ∧ Kp (Below w.heap.size w wz) ∧ wd0.heap.size ≤ wz.heap.size) ⟨⟨blk_below p3.out hb⟩, ⟨blk_below q3.out hb⟩, ⟨below_call HB3.out hb⟩, hb.size⟩ (sx_of0 (ButB.call (And.left hHeld) hb)) (fun wd1 hRn hHn => ?_)
      clear hK K hHeld p3 q3 HB3 hO hb hx1 hx2
      obtain ⟨p3, q3, HB3, hsz1⟩ := hRn
      have hHeld := hHn
      clear hHn
      try simp only [Act.put, List.setIfInBounds_toArray, List.set_cons_zero, List.set_cons_succ]
      refine wpAnyH_ready (rs := [3, 4, 5]) (by kernel_rfl) (by simp) ?_
      refine (AllReadyH.cons (o := ⟨_, _, _, _, _, _⟩) rfl (fun K hK => ?_) (AllReadyH.cons (o := ⟨_, _, _, _, _, _⟩) rfl (fun K hK => ?_) (AllReadyH.cons (o := ⟨_, _, _, _, _, _⟩) rfl (fun K hK => ?_) AllReadyH.nil)))
      · go_simp
        go_at_call 57
        refine (chans_any 0 0 1 0 (.slice none 0 0) [] (by omega) (by omega) (by omega) rfl _ (no_row _ 0)).mono ?_
        rintro e w9 ⟨vv, rfl, hO, hb⟩
        obtain ⟨v4, c4, rfl, hx1, hx2⟩ := (RowAt.of_own hO).shape
        try go_wp2_with fail
        refine out_gen hK _ _ (fun wz : World => Kp (wz.heap[w1.heap.size]? = some (.cells #[.int .i64 0, .slice none 0 0, .int .i64 0] 79 (0, 0))) ∧ Kp (wz.heap[w.heap.size]? = some (.cells #[.slice pa C.parts.length pc, .slice ca C.chans.length cc, .int .i64 C.l0, .slice a0 C.w0.length c0, .int .i64 C.l1, .slice a1 C.w1.length c1] 29 (0, 0))) ∧ Kp (Below w.heap.size w wz) ∧ wd1.heap.size ≤ wz.heap.size) ⟨⟨blk_below p3.out hb⟩, ⟨blk_below q3.out hb⟩, ⟨below_call HB3.out hb⟩, hb.size⟩ (sx_of0 (ButB.call (And.left hHeld) hb)) (fun wd2 hRn hHn => ?_)
        clear hK K hHeld p3 q3 HB3 hO hb hx1 hx2
        obtain ⟨p3, q3, HB3, hsz2⟩ := hRn
        have hHeld := hHn
        clear hHn
        try simp only [Act.put, List.setIfInBounds_toArray, List.set_cons_zero, List.set_cons_succ]
        refine wpAnyH_ready (rs := [4, 5]) (by kernel_rfl) (by simp) ?_
        refine (AllReadyH.cons (o := ⟨_, _, _, _, _, _⟩) rfl (fun K hK => ?_) (AllReadyH.cons (o := ⟨_, _, _, _, _, _⟩) rfl (fun K hK => ?_) AllReadyH.nil))
        · have ge_BS : w3.heap.size ≤ wd2.heap.size := (And.left hHeld).size
          go_simp
          try go_wp2_with fail
          refine out_gen hK _ _ (fun wz : World => Kp (wz.heap[w1.heap.size]? = some (.cells #[.int .i64 0, .slice none 0 0, .int .i64 0] 79 (0, 0))) ∧ Kp (wz.heap[w.heap.size]? = some (.cells #[.slice pa C.parts.length pc, .slice ca C.chans.length cc, .int .i64 C.l0, .slice a0 C.w0.length c0, .int .i64 C.l1, .slice a1 C.w1.length c1] 29 (0, 0))) ∧ Kp (Below w.heap.size w wz) ∧ Kp (wz.heap[wd2.heap.size]? = some (.cells #[.int .i64 0, .slice none 0 0, .int .i64 0] 79 (0, 0))) ∧ wd2.heap.size < wz.heap.size) ⟨⟨blk_al p3.out _⟩, ⟨blk_al q3.out _⟩, ⟨below_al HB3.out _⟩, ⟨blk_new wd2 _⟩, (by simp)⟩ (sx_of0 (ButB.al (And.left hHeld) _)) (fun wd3 hRn hHn => ?_)
          clear hK K hHeld p3 q3 HB3
          obtain ⟨p3, q3, HB3, BS, hsz3⟩ := hRn
          have hHeld := hHn
          clear hHn
          try simp only [Act.put, List.setIfInBounds_toArray, List.set_cons_zero, List.set_cons_succ]
          have lt_BS := blk_lt BS.out
          refine wpAnyH_ready (rs := [5]) (by kernel_rfl) (by simp) ?_
          refine (AllReadyH.cons (o := ⟨_, _, _, _, _, _⟩) rfl (fun K hK => ?_) AllReadyH.nil)
          have ge_BD : w3.heap.size ≤ wd3.heap.size := (And.left hHeld).size
          go_simp
          try go_wp2_with fail
          refine out_gen hK _ _ (fun wz : World => Kp (wz.heap[w1.heap.size]? = some (.cells #[.int .i64 0, .slice none 0 0, .int .i64 0] 79 (0, 0))) ∧ Kp (wz.heap[w.heap.size]? = some (.cells #[.slice pa C.parts.length pc, .slice ca C.chans.length cc, .int .i64 C.l0, .slice a0 C.w0.length c0, .int .i64 C.l1, .slice a1 C.w1.length c1] 29 (0, 0))) ∧ Kp (Below w.heap.size w wz) ∧ Kp (wz.heap[wd2.heap.size]? = some (.cells #[.int .i64 0, .slice none 0 0, .int .i64 0] 79 (0, 0))) ∧ Kp (wz.heap[wd3.heap.size]? = some (.cells #[.int .i64 0, .slice none 0 0, .int .i64 0] 79 (0, 0))) ∧ wd3.heap.size < wz.heap.size) ⟨⟨blk_al p3.out _⟩, ⟨blk_al q3.out _⟩, ⟨below_al HB3.out _⟩, ⟨blk_al BS.out _⟩, ⟨blk_new wd3 _⟩, (by simp)⟩ (sx_of0 (ButB.al (And.left hHeld) _)) (fun wd4 hRn hHn => ?_)
          clear hK K hHeld p3 q3 HB3 BS
          obtain ⟨p3, q3, HB3, BS, BD, hsz4⟩ := hRn
          have hHeld := hHn
          clear hHn
          try simp only [Act.put, List.setIfInBounds_toArray, List.set_cons_zero, List.set_cons_succ]
          have lt_BD := blk_lt BD.out
          refine wpAnyH_ready (rs := [6]) (by kernel_rfl) (by simp) ?_
          refine (AllReadyH.cons (o := ⟨_, _, _, _, _, _⟩) rfl (fun K hK => ?_) AllReadyH.nil)
          have sd0 : wd4.cell? ⟨wd2.heap.size, 0, none⟩ = some (.int .i64 0) := (cell_blk BS.out 0).trans rfl
          have sf0 : wd4.frozen? ⟨wd2.heap.size, 0, none⟩ = false := frozen_blk BS.out 0
          have sd1 : wd4.cell? ⟨wd2.heap.size, 1, none⟩ = some (.slice none 0 0) := (cell_blk BS.out 1).trans rfl
          have sf1 : wd4.frozen? ⟨wd2.heap.size, 1, none⟩ = false := frozen_blk BS.out 1
          have sd2 : wd4.cell? ⟨wd2.heap.size, 2, none⟩ = some (.int .i64 0) := (cell_blk BS.out 2).trans rfl
          have sf2 : wd4.frozen? ⟨wd2.heap.size, 2, none⟩ = false := frozen_blk BS.out 2
          have sl := blk_lt BS.out
          go_simp
          try go_wp2_with fail
          refine out_gen hK _ _ (fun wz : World => Kp (wz.heap[w1.heap.size]? = some (.cells #[.int .i64 0, .slice none 0 0, .int .i64 0] 79 (0, 0))) ∧ Kp (wz.heap[w.heap.size]? = some (.cells #[.slice pa C.parts.length pc, .slice ca C.chans.length cc, .int .i64 C.l0, .slice a0 C.w0.length c0, .int .i64 C.l1, .slice a1 C.w1.length c1] 29 (0, 0))) ∧ Kp (Below w.heap.size w wz) ∧ Kp (wz.heap[wd2.heap.size]? = some (.cells #[.int .i64 0, .slice v3 0 c3, .int .i64 0] 79 (0, 0))) ∧ Kp (wz.heap[wd3.heap.size]? = some (.cells #[.int .i64 0, .slice none 0 0, .int .i64 0] 79 (0, 0))) ∧ wd4.heap.size ≤ wz.heap.size) ⟨⟨(blk_set_ne (p := ⟨wd2.heap.size, 2, none⟩) (blk_set_ne (p := ⟨wd2.heap.size, 1, none⟩) (blk_set_ne (p := ⟨wd2.heap.size, 0, none⟩) p3.out (by show w1.heap.size ≠ wd2.heap.size; omega) _) (by show w1.heap.size ≠ wd2.heap.size; omega) _) (by show w1.heap.size ≠ wd2.heap.size; omega) _)⟩, ⟨(blk_set_ne (p := ⟨wd2.heap.size, 2, none⟩) (blk_set_ne (p := ⟨wd2.heap.size, 1, none⟩) (blk_set_ne (p := ⟨wd2.heap.size, 0, none⟩) q3.out (by show w.heap.size ≠ wd2.heap.size; omega) _) (by show w.heap.size ≠ wd2.heap.size; omega) _) (by show w.heap.size ≠ wd2.heap.size; omega) _)⟩, ⟨(((HB3.out.setCell (p := ⟨wd2.heap.size, 0, none⟩) (by show w.heap.size ≤ wd2.heap.size; omega) _).setCell (p := ⟨wd2.heap.size, 1, none⟩) (by show w.heap.size ≤ wd2.heap.size; omega) _).setCell (p := ⟨wd2.heap.size, 2, none⟩) (by show w.heap.size ≤ wd2.heap.size; omega) _)⟩, ⟨(blk_set (blk_set (blk_set BS.out 0 _) 1 _) 2 _).trans rfl⟩, ⟨(blk_set_ne (p := ⟨wd2.heap.size, 2, none⟩) (blk_set_ne (p := ⟨wd2.heap.size, 1, none⟩) (blk_set_ne (p := ⟨wd2.heap.size, 0, none⟩) BD.out (by show wd3.heap.size ≠ wd2.heap.size; omega) _) (by show wd3.heap.size ≠ wd2.heap.size; omega) _) (by show wd3.heap.size ≠ wd2.heap.size; omega) _)⟩, (by simp [World.setCell])⟩ (sx_of0 ((ButB.set (ButB.set (ButB.set (And.left hHeld) (p := ⟨wd2.heap.size, 0, none⟩) (by first | (left; simp; done) | (right; show w3.heap.size ≤ wd2.heap.size; omega)) _) (p := ⟨wd2.heap.size, 1, none⟩) (by first | (left; simp; done) | (right; show w3.heap.size ≤ wd2.heap.size; omega)) _) (p := ⟨wd2.heap.size, 2, none⟩) (by first | (left; simp; done) | (right; show w3.heap.size ≤ wd2.heap.size; omega)) _))) (fun wd5 hRn hHn => ?_)
          clear hK K hHeld p3 q3 HB3 BS BD sd0 sf0 sd1 sf1 sd2 sf2 sl
          obtain ⟨p3, q3, HB3, BS, BD, hsz5⟩ := hRn
          have hHeld := hHn
          clear hHn
          try simp only [Act.put, List.setIfInBounds_toArray, List.set_cons_zero, List.set_cons_succ]
          refine wpAnyH_ready (rs := [7]) (by kernel_rfl) (by simp) ?_
          refine (AllReadyH.cons (o := ⟨_, _, _, _, _, _⟩) rfl (fun K hK => ?_) AllReadyH.nil)
          have sd0 : wd5.cell? ⟨wd3.heap.size, 0, none⟩ = some (.int .i64 0) := (cell_blk BD.out 0).trans rfl
          have sf0 : wd5.frozen? ⟨wd3.heap.size, 0, none⟩ = false := frozen_blk BD.out 0
          have sd1 : wd5.cell? ⟨wd3.heap.size, 1, none⟩ = some (.slice none 0 0) := (cell_blk BD.out 1).trans rfl
          have sf1 : wd5.frozen? ⟨wd3.heap.size, 1, none⟩ = false := frozen_blk BD.out 1
          have sd2 : wd5.cell? ⟨wd3.heap.size, 2, none⟩ = some (.int .i64 0) := (cell_blk BD.out 2).trans rfl
          have sf2 : wd5.frozen? ⟨wd3.heap.size, 2, none⟩ = false := frozen_blk BD.out 2
          have sl := blk_lt BD.out
          go_simp
          try go_wp2_with fail
          refine out_gen hK _ _ (fun wz : World => Kp (wz.heap[w1.heap.size]? = some (.cells #[.int .i64 0, .slice none 0 0, .int .i64 0] 79 (0, 0))) ∧ Kp (wz.heap[w.heap.size]? = some (.cells #[.slice pa C.parts.length pc, .slice ca C.chans.length cc, .int .i64 C.l0, .slice a0 C.w0.length c0, .int .i64 C.l1, .slice a1 C.w1.length c1] 29 (0, 0))) ∧ Kp (Below w.heap.size w wz) ∧ Kp (wz.heap[wd2.heap.size]? = some (.cells #[.int .i64 0, .slice v3 0 c3, .int .i64 0] 79 (0, 0))) ∧ Kp (wz.heap[wd3.heap.size]? = some (.cells #[.int .i64 0, .slice v4 0 c4, .int .i64 0] 79 (0, 0))) ∧ wd5.heap.size ≤ wz.heap.size) ⟨⟨(blk_set_ne (p := ⟨wd3.heap.size, 2, none⟩) (blk_set_ne (p := ⟨wd3.heap.size, 1, none⟩) (blk_set_ne (p := ⟨wd3.heap.size, 0, none⟩) p3.out (by show w1.heap.size ≠ wd3.heap.size; omega) _) (by show w1.heap.size ≠ wd3.heap.size; omega) _) (by show w1.heap.size ≠ wd3.heap.size; omega) _)⟩, ⟨(blk_set_ne (p := ⟨wd3.heap.size, 2, none⟩) (blk_set_ne (p := ⟨wd3.heap.size, 1, none⟩) (blk_set_ne (p := ⟨wd3.heap.size, 0, none⟩) q3.out (by show w.heap.size ≠ wd3.heap.size; omega) _) (by show w.heap.size ≠ wd3.heap.size; omega) _) (by show w.heap.size ≠ wd3.heap.size; omega) _)⟩, ⟨(((HB3.out.setCell (p := ⟨wd3.heap.size, 0, none⟩) (by show w.heap.size ≤ wd3.heap.size; omega) _).setCell (p := ⟨wd3.heap.size, 1, none⟩) (by show w.heap.size ≤ wd3.heap.size; omega) _).setCell (p := ⟨wd3.heap.size, 2, none⟩) (by show w.heap.size ≤ wd3.heap.size; omega) _)⟩, ⟨(blk_set_ne (p := ⟨wd3.heap.size, 2, none⟩) (blk_set_ne (p := ⟨wd3.heap.size, 1, none⟩) (blk_set_ne (p := ⟨wd3.heap.size, 0, none⟩) BS.out (by show wd2.heap.size ≠ wd3.heap.size; omega) _) (by show wd2.heap.size ≠ wd3.heap.size; omega) _) (by show wd2.heap.size ≠ wd3.heap.size; omega) _)⟩, ⟨(blk_set (blk_set (blk_set BD.out 0 _) 1 _) 2 _).trans rfl⟩, (by simp [World.setCell])⟩ (sx_of0 ((ButB.set (ButB.set (ButB.set (And.left hHeld) (p := ⟨wd3.heap.size, 0, none⟩) (by first | (left; simp; done) | (right; show w3.heap.size ≤ wd3.heap.size; omega)) _) (p := ⟨wd3.heap.size, 1, none⟩) (by first | (left; simp; done) | (right; show w3.heap.size ≤ wd3.heap.size; omega)) _) (p := ⟨wd3.heap.size, 2, none⟩) (by first | (left; simp; done) | (right; show w3.heap.size ≤ wd3.heap.size; omega)) _))) (fun wd6 hRn hHn => ?_)
          clear hK K hHeld p3 q3 HB3 BS BD sd0 sf0 sd1 sf1 sd2 sf2 sl
          obtain ⟨p3, q3, HB3, BS, BD, hsz6⟩ := hRn
          have hHeld := hHn
          clear hHn
          try simp only [Act.put, List.setIfInBounds_toArray, List.set_cons_zero, List.set_cons_succ]
          refine wpAnyH_done (by kernel_rfl) ?_ _
          go_wp2_with fail
          go_meet
          exact ⟨_, _, v3, c3, rfl, rfl, HB3, BS⟩
        · have ge_BD : w3.heap.size ≤ wd2.heap.size := (And.left hHeld).size
          go_simp
          try go_wp2_with fail
          refine out_gen hK _ _ (fun wz : World => Kp (wz.heap[w1.heap.size]? = some (.cells #[.int .i64 0, .slice none 0 0, .int .i64 0] 79 (0, 0))) ∧ Kp (wz.heap[w.heap.size]? = some (.cells #[.slice pa C.parts.length pc, .slice ca C.chans.length cc, .int .i64 C.l0, .slice a0 C.w0.length c0, .int .i64 C.l1, .slice a1 C.w1.length c1] 29 (0, 0))) ∧ Kp (Below w.heap.size w wz) ∧ Kp (wz.heap[wd2.heap.size]? = some (.cells #[.int .i64 0, .slice none 0 0, .int .i64 0] 79 (0, 0))) ∧ wd2.heap.size < wz.heap.size) ⟨⟨blk_al p3.out _⟩, ⟨blk_al q3.out _⟩, ⟨below_al HB3.out _⟩, ⟨blk_new wd2 _⟩, (by simp)⟩ (sx_of0 (ButB.al (And.left hHeld) _)) (fun wd7 hRn hHn => ?_)
          clear hK K hHeld p3 q3 HB3
          obtain ⟨p3, q3, HB3, BD, hsz7⟩ := hRn
          have hHeld := hHn
          clear hHn
          try simp only [Act.put, List.setIfInBounds_toArray, List.set_cons_zero, List.set_cons_succ]
          have lt_BD := blk_lt BD.out
          refine wpAnyH_ready (rs := [4]) (by kernel_rfl) (by simp) ?_
          refine (AllReadyH.cons (o := ⟨_, _, _, _, _, _⟩) rfl (fun K hK => ?_) AllReadyH.nil)
          have ge_BS : w3.heap.size ≤ wd7.heap.size := (And.left hHeld).size
          go_simp
          try go_wp2_with fail
          refine out_gen hK _ _ (fun wz : World => Kp (wz.heap[w1.heap.size]? = some (.cells #[.int .i64 0, .slice none 0 0, .int .i64 0] 79 (0, 0))) ∧ Kp (wz.heap[w.heap.size]? = some (.cells #[.slice pa C.parts.length pc, .slice ca C.chans.length cc, .int .i64 C.l0, .slice a0 C.w0.length c0, .int .i64 C.l1, .slice a1 C.w1.length c1] 29 (0, 0))) ∧ Kp (Below w.heap.size w wz) ∧ Kp (wz.heap[wd2.heap.size]? = some (.cells #[.int .i64 0, .slice none 0 0, .int .i64 0] 79 (0, 0))) ∧ Kp (wz.heap[wd7.heap.size]? = some (.cells #[.int .i64 0, .slice none 0 0, .int .i64 0] 79 (0, 0))) ∧ wd7.heap.size < wz.heap.size) ⟨⟨blk_al p3.out _⟩, ⟨blk_al q3.out _⟩, ⟨below_al HB3.out _⟩, ⟨blk_al BD.out _⟩, ⟨blk_new wd7 _⟩, (by simp)⟩ (sx_of0 (ButB.al (And.left hHeld) _)) (fun wd8 hRn hHn => ?_)
          clear hK K hHeld p3 q3 HB3 BD
          obtain ⟨p3, q3, HB3, BD, BS, hsz8⟩ := hRn
          have hHeld := hHn
          clear hHn
          try simp only [Act.put, List.setIfInBounds_toArray, List.set_cons_zero, List.set_cons_succ]
          have lt_BS := blk_lt BS.out
          refine wpAnyH_ready (rs := [6]) (by kernel_rfl) (by simp) ?_
          refine (AllReadyH.cons (o := ⟨_, _, _, _, _, _⟩) rfl (fun K hK => ?_) AllReadyH.nil)
          have sd0 : wd8.cell? ⟨wd7.heap.size, 0, none⟩ = some (.int .i64 0) := (cell_blk BS.out 0).trans rfl
          have sf0 : wd8.frozen? ⟨wd7.heap.size, 0, none⟩ = false := frozen_blk BS.out 0
          have sd1 : wd8.cell? ⟨wd7.heap.size, 1, none⟩ = some (.slice none 0 0) := (cell_blk BS.out 1).trans rfl
          have sf1 : wd8.frozen? ⟨wd7.heap.size, 1, none⟩ = false := frozen_blk BS.out 1
          have sd2 : wd8.cell? ⟨wd7.heap.size, 2, none⟩ = some (.int .i64 0) := (cell_blk BS.out 2).trans rfl
          have sf2 : wd8.frozen? ⟨wd7.heap.size, 2, none⟩ = false := frozen_blk BS.out 2
          have sl := blk_lt BS.out
          go_simp
          try go_wp2_with fail
          refine out_gen hK _ _ (fun wz : World => Kp (wz.heap[w1.heap.size]? = some (.cells #[.int .i64 0, .slice none 0 0, .int .i64 0] 79 (0, 0))) ∧ Kp (wz.heap[w.heap.size]? = some (.cells #[.slice pa C.parts.length pc, .slice ca C.chans.length cc, .int .i64 C.l0, .slice a0 C.w0.length c0, .int .i64 C.l1, .slice a1 C.w1.length c1] 29 (0, 0))) ∧ Kp (Below w.heap.size w wz) ∧ Kp (wz.heap[wd2.heap.size]? = some (.cells #[.int .i64 0, .slice none 0 0, .int .i64 0] 79 (0, 0))) ∧ Kp (wz.heap[wd7.heap.size]? = some (.cells #[.int .i64 0, .slice v3 0 c3, .int .i64 0] 79 (0, 0))) ∧ wd8.heap.size ≤ wz.heap.size) ⟨⟨(blk_set_ne (p := ⟨wd7.heap.size, 2, none⟩) (blk_set_ne (p := ⟨wd7.heap.size, 1, none⟩) (blk_set_ne (p := ⟨wd7.heap.size, 0, none⟩) p3.out (by show w1.heap.size ≠ wd7.heap.size; omega) _) (by show w1.heap.size ≠ wd7.heap.size; omega) _) (by show w1.heap.size ≠ wd7.heap.size; omega) _)⟩, ⟨(blk_set_ne (p := ⟨wd7.heap.size, 2, none⟩) (blk_set_ne (p := ⟨wd7.heap.size, 1, none⟩) (blk_set_ne (p := ⟨wd7.heap.size, 0, none⟩) q3.out (by show w.heap.size ≠ wd7.heap.size; omega) _) (by show w.heap.size ≠ wd7.heap.size; omega) _) (by show w.heap.size ≠ wd7.heap.size; omega) _)⟩, ⟨(((HB3.out.setCell (p := ⟨wd7.heap.size, 0, none⟩) (by show w.heap.size ≤ wd7.heap.size; omega) _).setCell (p := ⟨wd7.heap.size, 1, none⟩) (by show w.heap.size ≤ wd7.heap.size; omega) _).setCell (p := ⟨wd7.heap.size, 2, none⟩) (by show w.heap.size ≤ wd7.heap.size; omega) _)⟩, ⟨(blk_set_ne (p := ⟨wd7.heap.size, 2, none⟩) (blk_set_ne (p := ⟨wd7.heap.size, 1, none⟩) (blk_set_ne (p := ⟨wd7.heap.size, 0, none⟩) BD.out (by show wd2.heap.size ≠ wd7.heap.size; omega) _) (by show wd2.heap.size ≠ wd7.heap.size; omega) _) (by show wd2.heap.size ≠ wd7.heap.size; omega) _)⟩, ⟨(blk_set (blk_set (blk_set BS.out 0 _) 1 _) 2 _).trans rfl⟩, (by simp [World.setCell])⟩ (sx_of0 ((ButB.set (ButB.set (ButB.set (And.left hHeld) (p := ⟨wd7.heap.size, 0, none⟩) (by first | (left; simp; done) | (right; show w3.heap.size ≤ wd7.heap.size; omega)) _) (p := ⟨wd7.heap.size, 1, none⟩) (by first | (left; simp; done) | (right; show w3.heap.size ≤ wd7.heap.size; omega)) _) (p := ⟨wd7.heap.size, 2, none⟩) (by first | (left; simp; done) | (right; show w3.heap.size ≤ wd7.heap.size; omega)) _))) (fun wd9 hRn hHn => ?_)
          clear hK K hHeld p3 q3 HB3 BD BS sd0 sf0 sd1 sf1 sd2 sf2 sl
          obtain ⟨p3, q3, HB3, BD, BS, hsz9⟩ := hRn
          have hHeld := hHn
          clear hHn
          try simp only [Act.put, List.setIfInBounds_toArray, List.set_cons_zero, List.set_cons_succ]
          refine wpAnyH_ready (rs := [7]) (by kernel_rfl) (by simp) ?_
          refine (AllReadyH.cons (o := ⟨_, _, _, _, _, _⟩) rfl (fun K hK => ?_) AllReadyH.nil)
          have sd0 : wd9.cell? ⟨wd2.heap.size, 0, none⟩ = some (.int .i64 0) := (cell_blk BD.out 0).trans rfl
          have sf0 : wd9.frozen? ⟨wd2.heap.size, 0, none⟩ = false := frozen_blk BD.out 0
          have sd1 : wd9.cell? ⟨wd2.heap.size, 1, none⟩ = some (.slice none 0 0) := (cell_blk BD.out 1).trans rfl
          have sf1 : wd9.frozen? ⟨wd2.heap.size, 1, none⟩ = false := frozen_blk BD.out 1
          have sd2 : wd9.cell? ⟨wd2.heap.size, 2, none⟩ = some (.int .i64 0) := (cell_blk BD.out 2).trans rfl
          have sf2 : wd9.frozen? ⟨wd2.heap.size, 2, none⟩ = false := frozen_blk BD.out 2
          have sl := blk_lt BD.out
          go_simp
          try go_wp2_with fail
          refine out_gen hK _ _ (fun wz : World => Kp (wz.heap[w1.heap.size]? = some (.cells #[.int .i64 0, .slice none 0 0, .int .i64 0] 79 (0, 0))) ∧ Kp (wz.heap[w.heap.size]? = some (.cells #[.slice pa C.parts.length pc, .slice ca C.chans.length cc, .int .i64 C.l0, .slice a0 C.w0.length c0, .int .i64 C.l1, .slice a1 C.w1.length c1] 29 (0, 0))) ∧ Kp (Below w.heap.size w wz) ∧ Kp (wz.heap[wd2.heap.size]? = some (.cells #[.int .i64 0, .slice v4 0 c4, .int .i64 0] 79 (0, 0))) ∧ Kp (wz.heap[wd7.heap.size]? = some (.cells #[.int .i64 0, .slice v3 0 c3, .int .i64 0] 79 (0, 0))) ∧ wd9.heap.size ≤ wz.heap.size) ⟨⟨(blk_set_ne (p := ⟨wd2.heap.size, 2, none⟩) (blk_set_ne (p := ⟨wd2.heap.size, 1, none⟩) (blk_set_ne (p := ⟨wd2.heap.size, 0, none⟩) p3.out (by show w1.heap.size ≠ wd2.heap.size; omega) _) (by show w1.heap.size ≠ wd2.heap.size; omega) _) (by show w1.heap.size ≠ wd2.heap.size; omega) _)⟩, ⟨(blk_set_ne (p := ⟨wd2.heap.size, 2, none⟩) (blk_set_ne (p := ⟨wd2.heap.size, 1, none⟩) (blk_set_ne (p := ⟨wd2.heap.size, 0, none⟩) q3.out (by show w.heap.size ≠ wd2.heap.size; omega) _) (by show w.heap.size ≠ wd2.heap.size; omega) _) (by show w.heap.size ≠ wd2.heap.size; omega) _)⟩, ⟨(((HB3.out.setCell (p := ⟨wd2.heap.size, 0, none⟩) (by show w.heap.size ≤ wd2.heap.size; omega) _).setCell (p := ⟨wd2.heap.size, 1, none⟩) (by show w.heap.size ≤ wd2.heap.size; omega) _).setCell (p := ⟨wd2.heap.size, 2, none⟩) (by show w.heap.size ≤ wd2.heap.size; omega) _)⟩, ⟨(blk_set (blk_set (blk_set BD.out 0 _) 1 _) 2 _).trans rfl⟩, ⟨(blk_set_ne (p := ⟨wd2.heap.size, 2, none⟩) (blk_set_ne (p := ⟨wd2.heap.size, 1, none⟩) (blk_set_ne (p := ⟨wd2.heap.size, 0, none⟩) BS.out (by show wd7.heap.size ≠ wd2.heap.size; omega) _) (by show wd7.heap.size ≠ wd2.heap.size; omega) _) (by show wd7.heap.size ≠ wd2.heap.size; omega) _)⟩, (by simp [World.setCell])⟩ (sx_of0 ((ButB.set (ButB.set (ButB.set (And.left hHeld) (p := ⟨wd2.heap.size, 0, none⟩) (by first | (left; simp; done) | (right; show w3.heap.size ≤ wd2.heap.size; omega)) _) (p := ⟨wd2.heap.size, 1, none⟩) (by first | (left; simp; done) | (right; show w3.heap.size ≤ wd2.heap.size; omega)) _) (p := ⟨wd2.heap.size, 2, none⟩) (by first | (left; simp; done) | (right; show w3.heap.size ≤ wd2.heap.size; omega)) _))) (fun wd10 hRn hHn => ?_)
          clear hK K hHeld p3 q3 HB3 BD BS sd0 sf0 sd1 sf1 sd2 sf2 sl
          obtain ⟨p3, q3, HB3, BD, BS, hsz10⟩ := hRn
          have hHeld := hHn
          clear hHn
          try simp only [Act.put, List.setIfInBounds_toArray, List.set_cons_zero, List.set_cons_succ]
          refine wpAnyH_done (by kernel_rfl) ?_ _
          go_wp2_with fail
          go_meet
          exact ⟨_, _, v3, c3, rfl, rfl, HB3, BS⟩
      · have ge_BS : w3.heap.size ≤ wd1.heap.size := (And.left hHeld).size
        go_simp
        try go_wp2_with fail
        refine out_gen hK _ _ (fun wz : World => Kp (wz.heap[w1.heap.size]? = some (.cells #[.int .i64 0, .slice none 0 0, .int .i64 0] 79 (0, 0))) ∧ Kp (wz.heap[w.heap.size]? = some (.cells #[.slice pa C.parts.length pc, .slice ca C.chans.length cc, .int .i64 C.l0, .slice a0 C.w0.length c0, .int .i64 C.l1, .slice a1 C.w1.length c1] 29 (0, 0))) ∧ Kp (Below w.heap.size w wz) ∧ Kp (wz.heap[wd1.heap.size]? = some (.cells #[.int .i64 0, .slice none 0 0, .int .i64 0] 79 (0, 0))) ∧ wd1.heap.size < wz.heap.size) ⟨⟨blk_al p3.out _⟩, ⟨blk_al q3.out _⟩, ⟨below_al HB3.out _⟩, ⟨blk_new wd1 _⟩, (by simp)⟩ (sx_of0 (ButB.al (And.left hHeld) _)) (fun wd11 hRn hHn => ?_)
        clear hK K hHeld p3 q3 HB3
        obtain ⟨p3, q3, HB3, BS, hsz11⟩ := hRn
        have hHeld := hHn
        clear hHn
        try simp only [Act.put, List.setIfInBounds_toArray, List.set_cons_zero, List.set_cons_succ]
        have lt_BS := blk_lt BS.out
        refine wpAnyH_ready (rs := [3, 5]) (by kernel_rfl) (by simp) ?_
        refine (AllReadyH.cons (o := ⟨_, _, _, _, _, _⟩) rfl (fun K hK => ?_) (AllReadyH.cons (o := ⟨_, _, _, _, _, _⟩) rfl (fun K hK => ?_) AllReadyH.nil))
        · go_simp
          go_at_call 57
          refine (chans_any 0 0 1 0 (.slice none 0 0) [] (by omega) (by omega) (by omega) rfl _ (no_row _ 0)).mono ?_
          rintro e w9 ⟨vv, rfl, hO, hb⟩
          obtain ⟨v4, c4, rfl, hx1, hx2⟩ := (RowAt.of_own hO).shape
          try go_wp2_with fail
          refine out_gen hK _ _ (fun wz : World => Kp (wz.heap[w1.heap.size]? = some (.cells #[.int .i64 0, .slice none 0 0, .int .i64 0] 79 (0, 0))) ∧ Kp (wz.heap[w.heap.size]? = some (.cells #[.slice pa C.parts.length pc, .slice ca C.chans.length cc, .int .i64 C.l0, .slice a0 C.w0.length c0, .int .i64 C.l1, .slice a1 C.w1.length c1] 29 (0, 0))) ∧ Kp (Below w.heap.size w wz) ∧ Kp (wz.heap[wd1.heap.size]? = some (.cells #[.int .i64 0, .slice none 0 0, .int .i64 0] 79 (0, 0))) ∧ wd11.heap.size ≤ wz.heap.size) ⟨⟨blk_below p3.out hb⟩, ⟨blk_below q3.out hb⟩, ⟨below_call HB3.out hb⟩, ⟨blk_below BS.out hb⟩, hb.size⟩ (sx_of0 (ButB.call (And.left hHeld) hb)) (fun wd12 hRn hHn => ?_)
          clear hK K hHeld p3 q3 HB3 BS hO hb hx1 hx2
          obtain ⟨p3, q3, HB3, BS, hsz12⟩ := hRn
          have hHeld := hHn
          clear hHn
          try simp only [Act.put, List.setIfInBounds_toArray, List.set_cons_zero, List.set_cons_succ]
          refine wpAnyH_ready (rs := [5]) (by kernel_rfl) (by simp) ?_
          refine (AllReadyH.cons (o := ⟨_, _, _, _, _, _⟩) rfl (fun K hK => ?_) AllReadyH.nil)
          have ge_BD : w3.heap.size ≤ wd12.heap.size := (And.left hHeld).size
          go_simp
          try go_wp2_with fail
          refine out_gen hK _ _ (fun wz : World => Kp (wz.heap[w1.heap.size]? = some (.cells #[.int .i64 0, .slice none 0 0, .int .i64 0] 79 (0, 0))) ∧ Kp (wz.heap[w.heap.size]? = some (.cells #[.slice pa C.parts.length pc, .slice ca C.chans.length cc, .int .i64 C.l0, .slice a0 C.w0.length c0, .int .i64 C.l1, .slice a1 C.w1.length c1] 29 (0, 0))) ∧ Kp (Below w.heap.size w wz) ∧ Kp (wz.heap[wd1.heap.size]? = some (.cells #[.int .i64 0, .slice none 0 0, .int .i64 0] 79 (0, 0))) ∧ Kp (wz.heap[wd12.heap.size]? = some (.cells #[.int .i64 0, .slice none 0 0, .int .i64 0] 79 (0, 0))) ∧ wd12.heap.size < wz.heap.size) ⟨⟨blk_al p3.out _⟩, ⟨blk_al q3.out _⟩, ⟨below_al HB3.out _⟩, ⟨blk_al BS.out _⟩, ⟨blk_new wd12 _⟩, (by simp)⟩ (sx_of0 (ButB.al (And.left hHeld) _)) (fun wd13 hRn hHn => ?_)
          clear hK K hHeld p3 q3 HB3 BS
          obtain ⟨p3, q3, HB3, BS, BD, hsz13⟩ := hRn
          have hHeld := hHn
          clear hHn
          try simp only [Act.put, List.setIfInBounds_toArray, List.set_cons_zero, List.set_cons_succ]
          have lt_BD := blk_lt BD.out
          refine wpAnyH_ready (rs := [6]) (by kernel_rfl) (by simp) ?_
          refine (AllReadyH.cons (o := ⟨_, _, _, _, _, _⟩) rfl (fun K hK => ?_) AllReadyH.nil)
          have sd0 : wd13.cell? ⟨wd1.heap.size, 0, none⟩ = some (.int .i64 0) := (cell_blk BS.out 0).trans rfl
          have sf0 : wd13.frozen? ⟨wd1.heap.size, 0, none⟩ = false := frozen_blk BS.out 0
          have sd1 : wd13.cell? ⟨wd1.heap.size, 1, none⟩ = some (.slice none 0 0) := (cell_blk BS.out 1).trans rfl
          have sf1 : wd13.frozen? ⟨wd1.heap.size, 1, none⟩ = false := frozen_blk BS.out 1
          have sd2 : wd13.cell? ⟨wd1.heap.size, 2, none⟩ = some (.int .i64 0) := (cell_blk BS.out 2).trans rfl
          have sf2 : wd13.frozen? ⟨wd1.heap.size, 2, none⟩ = false := frozen_blk BS.out 2
          have sl := blk_lt BS.out
          go_simp
          try go_wp2_with fail
          refine out_gen hK _ _ (fun wz : World => Kp (wz.heap[w1.heap.size]? = some (.cells #[.int .i64 0, .slice none 0 0, .int .i64 0] 79 (0, 0))) ∧ Kp (wz.heap[w.heap.size]? = some (.cells #[.slice pa C.parts.length pc, .slice ca C.chans.length cc, .int .i64 C.l0, .slice a0 C.w0.length c0, .int .i64 C.l1, .slice a1 C.w1.length c1] 29 (0, 0))) ∧ Kp (Below w.heap.size w wz) ∧ Kp (wz.heap[wd1.heap.size]? = some (.cells #[.int .i64 0, .slice v3 0 c3, .int .i64 0] 79 (0, 0))) ∧ Kp (wz.heap[wd12.heap.size]? = some (.cells #[.int .i64 0, .slice none 0 0, .int .i64 0] 79 (0, 0))) ∧ wd13.heap.size ≤ wz.heap.size) ⟨⟨(blk_set_ne (p := ⟨wd1.heap.size, 2, none⟩) (blk_set_ne (p := ⟨wd1.heap.size, 1, none⟩) (blk_set_ne (p := ⟨wd1.heap.size, 0, none⟩) p3.out (by show w1.heap.size ≠ wd1.heap.size; omega) _) (by show w1.heap.size ≠ wd1.heap.size; omega) _) (by show w1.heap.size ≠ wd1.heap.size; omega) _)⟩, ⟨(blk_set_ne (p := ⟨wd1.heap.size, 2, none⟩) (blk_set_ne (p := ⟨wd1.heap.size, 1, none⟩) (blk_set_ne (p := ⟨wd1.heap.size, 0, none⟩) q3.out (by show w.heap.size ≠ wd1.heap.size; omega) _) (by show w.heap.size ≠ wd1.heap.size; omega) _) (by show w.heap.size ≠ wd1.heap.size; omega) _)⟩, ⟨(((HB3.out.setCell (p := ⟨wd1.heap.size, 0, none⟩) (by show w.heap.size ≤ wd1.heap.size; omega) _).setCell (p := ⟨wd1.heap.size, 1, none⟩) (by show w.heap.size ≤ wd1.heap.size; omega) _).setCell (p := ⟨wd1.heap.size, 2, none⟩) (by show w.heap.size ≤ wd1.heap.size; omega) _)⟩, ⟨(blk_set (blk_set (blk_set BS.out 0 _) 1 _) 2 _).trans rfl⟩, ⟨(blk_set_ne (p := ⟨wd1.heap.size, 2, none⟩) (blk_set_ne (p := ⟨wd1.heap.size, 1, none⟩) (blk_set_ne (p := ⟨wd1.heap.size, 0, none⟩) BD.out (by show wd12.heap.size ≠ wd1.heap.size; omega) _) (by show wd12.heap.size ≠ wd1.heap.size; omega) _) (by show wd12.heap.size ≠ wd1.heap.size; omega) _)⟩, (by simp [World.setCell])⟩ (sx_of0 ((ButB.set (ButB.set (ButB.set (And.left hHeld) (p := ⟨wd1.heap.size, 0, none⟩) (by first | (left; simp; done) | (right; show w3.heap.size ≤ wd1.heap.size; omega)) _) (p := ⟨wd1.heap.size, 1, none⟩) (by first | (left; simp; done) | (right; show w3.heap.size ≤ wd1.heap.size; omega)) _) (p := ⟨wd1.heap.size, 2, none⟩) (by first | (left; simp; done) | (right; show w3.heap.size ≤ wd1.heap.size; omega)) _))) (fun wd14 hRn hHn => ?_)
          clear hK K hHeld p3 q3 HB3 BS BD sd0 sf0 sd1 sf1 sd2 sf2 sl
          obtain ⟨p3, q3, HB3, BS, BD, hsz14⟩ := hRn
          have hHeld := hHn
          clear hHn
          try simp only [Act.put, List.setIfInBounds_toArray, List.set_cons_zero, List.set_cons_succ]
          refine wpAnyH_ready (rs := [7]) (by kernel_rfl) (by simp) ?_
          refine (AllReadyH.cons (o := ⟨_, _, _, _, _, _⟩) rfl (fun K hK => ?_) AllReadyH.nil)
          have sd0 : wd14.cell? ⟨wd12.heap.size, 0, none⟩ = some (.int .i64 0) := (cell_blk BD.out 0).trans rfl
          have sf0 : wd14.frozen? ⟨wd12.heap.size, 0, none⟩ = false := frozen_blk BD.out 0
          have sd1 : wd14.cell? ⟨wd12.heap.size, 1, none⟩ = some (.slice none 0 0) := (cell_blk BD.out 1).trans rfl
          have sf1 : wd14.frozen? ⟨wd12.heap.size, 1, none⟩ = false := frozen_blk BD.out 1
          have sd2 : wd14.cell? ⟨wd12.heap.size, 2, none⟩ = some (.int .i64 0) := (cell_blk BD.out 2).trans rfl
          have sf2 : wd14.frozen? ⟨wd12.heap.size, 2, none⟩ = false := frozen_blk BD.out 2
          have sl := blk_lt BD.out
          go_simp
          try go_wp2_with fail
          refine out_gen hK _ _ (fun wz : World => Kp (wz.heap[w1.heap.size]? = some (.cells #[.int .i64 0, .slice none 0 0, .int .i64 0] 79 (0, 0))) ∧ Kp (wz.heap[w.heap.size]? = some (.cells #[.slice pa C.parts.length pc, .slice ca C.chans.length cc, .int .i64 C.l0, .slice a0 C.w0.length c0, .int .i64 C.l1, .slice a1 C.w1.length c1] 29 (0, 0))) ∧ Kp (Below w.heap.size w wz) ∧ Kp (wz.heap[wd1.heap.size]? = some (.cells #[.int .i64 0, .slice v3 0 c3, .int .i64 0] 79 (0, 0))) ∧ Kp (wz.heap[wd12.heap.size]? = some (.cells #[.int .i64 0, .slice v4 0 c4, .int .i64 0] 79 (0, 0))) ∧ wd14.heap.size ≤ wz.heap.size) ⟨⟨(blk_set_ne (p := ⟨wd12.heap.size, 2, none⟩) (blk_set_ne (p := ⟨wd12.heap.size, 1, none⟩) (blk_set_ne (p := ⟨wd12.heap.size, 0, none⟩) p3.out (by show w1.heap.size ≠ wd12.heap.size; omega) _) (by show w1.heap.size ≠ wd12.heap.size; omega) _) (by show w1.heap.size ≠ wd12.heap.size; omega) _)⟩, ⟨(blk_set_ne (p := ⟨wd12.heap.size, 2, none⟩) (blk_set_ne (p := ⟨wd12.heap.size, 1, none⟩) (blk_set_ne (p := ⟨wd12.heap.size, 0, none⟩) q3.out (by show w.heap.size ≠ wd12.heap.size; omega) _) (by show w.heap.size ≠ wd12.heap.size; omega) _) (by show w.heap.size ≠ wd12.heap.size; omega) _)⟩, ⟨(((HB3.out.setCell (p := ⟨wd12.heap.size, 0, none⟩) (by show w.heap.size ≤ wd12.heap.size; omega) _).setCell (p := ⟨wd12.heap.size, 1, none⟩) (by show w.heap.size ≤ wd12.heap.size; omega) _).setCell (p := ⟨wd12.heap.size, 2, none⟩) (by show w.heap.size ≤ wd12.heap.size; omega) _)⟩, ⟨(blk_set_ne (p := ⟨wd12.heap.size, 2, none⟩) (blk_set_ne (p := ⟨wd12.heap.size, 1, none⟩) (blk_set_ne (p := ⟨wd12.heap.size, 0, none⟩) BS.out (by show wd1.heap.size ≠ wd12.heap.size; omega) _) (by show wd1.heap.size ≠ wd12.heap.size; omega) _) (by show wd1.heap.size ≠ wd12.heap.size; omega) _)⟩, ⟨(blk_set (blk_set (blk_set BD.out 0 _) 1 _) 2 _).trans rfl⟩, (by simp [World.setCell])⟩ (sx_of0 ((ButB.set (ButB.set (ButB.set (And.left hHeld) (p := ⟨wd12.heap.size, 0, none⟩) (by first | (left; simp; done) | (right; show w3.heap.size ≤ wd12.heap.size; omega)) _) (p := ⟨wd12.heap.size, 1, none⟩) (by first | (left; simp; done) | (right; show w3.heap.size ≤ wd12.heap.size; omega)) _) (p := ⟨wd12.heap.size, 2, none⟩) (by first | (left; simp; done) | (right; show w3.heap.size ≤ wd12.heap.size; omega)) _))) (fun wd15 hRn hHn => ?_)
          clear hK K hHeld p3 q3 HB3 BS BD sd0 sf0 sd1 sf1 sd2 sf2 sl
          obtain ⟨p3, q3, HB3, BS, BD, hsz15⟩ := hRn
          have hHeld := hHn
          clear hHn
          try simp only [Act.put, List.setIfInBounds_toArray, List.set_cons_zero, List.set_cons_succ]
          refine wpAnyH_done (by kernel_rfl) ?_ _
          go_wp2_with fail
          go_meet
          exact ⟨_, _, v3, c3, rfl, rfl, HB3, BS⟩
        · have ge_BD : w3.heap.size ≤ wd11.heap.size := (And.left hHeld).size
          go_simp
          try go_wp2_with fail
          refine out_gen hK _ _ (fun wz : World => Kp (wz.heap[w1.heap.size]? = some (.cells #[.int .i64 0, .slice none 0 0, .int .i64 0] 79 (0, 0))) ∧ Kp (wz.heap[w.heap.size]? = some (.cells #[.slice pa C.parts.length pc, .slice ca C.chans.length cc, .int .i64 C.l0, .slice a0 C.w0.length c0, .int .i64 C.l1, .slice a1 C.w1.length c1] 29 (0, 0))) ∧ Kp (Below w.heap.size w wz) ∧ Kp (wz.heap[wd1.heap.size]? = some (.cells #[.int .i64 0, .slice none 0 0, .int .i64 0] 79 (0, 0))) ∧ Kp (wz.heap[wd11.heap.size]? = some (.cells #[.int .i64 0, .slice none 0 0, .int .i64 0] 79 (0, 0))) ∧ wd11.heap.size < wz.heap.size) ⟨⟨blk_al p3.out _⟩, ⟨blk_al q3.out _⟩, ⟨below_al HB3.out _⟩, ⟨blk_al BS.out _⟩, ⟨blk_new wd11 _⟩, (by simp)⟩ (sx_of0 (ButB.al (And.left hHeld) _)) (fun wd16 hRn hHn => ?_)
          clear hK K hHeld p3 q3 HB3 BS
          obtain ⟨p3, q3, HB3, BS, BD, hsz16⟩ := hRn
          have hHeld := hHn
          clear hHn
          try simp only [Act.put, List.setIfInBounds_toArray, List.set_cons_zero, List.set_cons_succ]
          have lt_BD := blk_lt BD.out
          refine wpAnyH_ready (rs := [3]) (by kernel_rfl) (by simp) ?_
          refine (AllReadyH.cons (o := ⟨_, _, _, _, _, _⟩) rfl (fun K hK => ?_) AllReadyH.nil)
          go_simp
          go_at_call 57
          refine (chans_any 0 0 1 0 (.slice none 0 0) [] (by omega) (by omega) (by omega) rfl _ (no_row _ 0)).mono ?_
          rintro e w9 ⟨vv, rfl, hO, hb⟩
          obtain ⟨v4, c4, rfl, hx1, hx2⟩ := (RowAt.of_own hO).shape
          try go_wp2_with fail
          refine out_gen hK _ _ (fun wz : World => Kp (wz.heap[w1.heap.size]? = some (.cells #[.int .i64 0, .slice none 0 0, .int .i64 0] 79 (0, 0))) ∧ Kp (wz.heap[w.heap.size]? = some (.cells #[.slice pa C.parts.length pc, .slice ca C.chans.length cc, .int .i64 C.l0, .slice a0 C.w0.length c0, .int .i64 C.l1, .slice a1 C.w1.length c1] 29 (0, 0))) ∧ Kp (Below w.heap.size w wz) ∧ Kp (wz.heap[wd1.heap.size]? = some (.cells #[.int .i64 0, .slice none 0 0, .int .i64 0] 79 (0, 0))) ∧ Kp (wz.heap[wd11.heap.size]? = some (.cells #[.int .i64 0, .slice none 0 0, .int .i64 0] 79 (0, 0))) ∧ wd16.heap.size ≤ wz.heap.size) ⟨⟨blk_below p3.out hb⟩, ⟨blk_below q3.out hb⟩, ⟨below_call HB3.out hb⟩, ⟨blk_below BS.out hb⟩, ⟨blk_below BD.out hb⟩, hb.size⟩ (sx_of0 (ButB.call (And.left hHeld) hb)) (fun wd17 hRn hHn => ?_)
          clear hK K hHeld p3 q3 HB3 BS BD hO hb hx1 hx2
          obtain ⟨p3, q3, HB3, BS, BD, hsz17⟩ := hRn
          have hHeld := hHn
          clear hHn
          try simp only [Act.put, List.setIfInBounds_toArray, List.set_cons_zero, List.set_cons_succ]
          refine wpAnyH_ready (rs := [6]) (by kernel_rfl) (by simp) ?_
          refine (AllReadyH.cons (o := ⟨_, _, _, _, _, _⟩) rfl (fun K hK => ?_) AllReadyH.nil)
          have sd0 : wd17.cell? ⟨wd1.heap.size, 0, none⟩ = some (.int .i64 0) := (cell_blk BS.out 0).trans rfl
          have sf0 : wd17.frozen? ⟨wd1.heap.size, 0, none⟩ = false := frozen_blk BS.out 0
          have sd1 : wd17.cell? ⟨wd1.heap.size, 1, none⟩ = some (.slice none 0 0) := (cell_blk BS.out 1).trans rfl
          have sf1 : wd17.frozen? ⟨wd1.heap.size, 1, none⟩ = false := frozen_blk BS.out 1
          have sd2 : wd17.cell? ⟨wd1.heap.size, 2, none⟩ = some (.int .i64 0) := (cell_blk BS.out 2).trans rfl
          have sf2 : wd17.frozen? ⟨wd1.heap.size, 2, none⟩ = false := frozen_blk BS.out 2
          have sl := blk_lt BS.out
          go_simp
          try go_wp2_with fail
          refine out_gen hK _ _ (fun wz : World => Kp (wz.heap[w1.heap.size]? = some (.cells #[.int .i64 0, .slice none 0 0, .int .i64 0] 79 (0, 0))) ∧ Kp (wz.heap[w.heap.size]? = some (.cells #[.slice pa C.parts.length pc, .slice ca C.chans.length cc, .int .i64 C.l0, .slice a0 C.w0.length c0, .int .i64 C.l1, .slice a1 C.w1.length c1] 29 (0, 0))) ∧ Kp (Below w.heap.size w wz) ∧ Kp (wz.heap[wd1.heap.size]? = some (.cells #[.int .i64 0, .slice v3 0 c3, .int .i64 0] 79 (0, 0))) ∧ Kp (wz.heap[wd11.heap.size]? = some (.cells #[.int .i64 0, .slice none 0 0, .int .i64 0] 79 (0, 0))) ∧ wd17.heap.size ≤ wz.heap.size) ⟨⟨(blk_set_ne (p := ⟨wd1.heap.size, 2, none⟩) (blk_set_ne (p := ⟨wd1.heap.size, 1, none⟩) (blk_set_ne (p := ⟨wd1.heap.size, 0, none⟩) p3.out (by show w1.heap.size ≠ wd1.heap.size; omega) _) (by show w1.heap.size ≠ wd1.heap.size; omega) _) (by show w1.heap.size ≠ wd1.heap.size; omega) _)⟩, ⟨(blk_set_ne (p := ⟨wd1.heap.size, 2, none⟩) (blk_set_ne (p := ⟨wd1.heap.size, 1, none⟩) (blk_set_ne (p := ⟨wd1.heap.size, 0, none⟩) q3.out (by show w.heap.size ≠ wd1.heap.size; omega) _) (by show w.heap.size ≠ wd1.heap.size; omega) _) (by show w.heap.size ≠ wd1.heap.size; omega) _)⟩, ⟨(((HB3.out.setCell (p := ⟨wd1.heap.size, 0, none⟩) (by show w.heap.size ≤ wd1.heap.size; omega) _).setCell (p := ⟨wd1.heap.size, 1, none⟩) (by show w.heap.size ≤ wd1.heap.size; omega) _).setCell (p := ⟨wd1.heap.size, 2, none⟩) (by show w.heap.size ≤ wd1.heap.size; omega) _)⟩, ⟨(blk_set (blk_set (blk_set BS.out 0 _) 1 _) 2 _).trans rfl⟩, ⟨(blk_set_ne (p := ⟨wd1.heap.size, 2, none⟩) (blk_set_ne (p := ⟨wd1.heap.size, 1, none⟩) (blk_set_ne (p := ⟨wd1.heap.size, 0, none⟩) BD.out (by show wd11.heap.size ≠ wd1.heap.size; omega) _) (by show wd11.heap.size ≠ wd1.heap.size; omega) _) (by show wd11.heap.size ≠ wd1.heap.size; omega) _)⟩, (by simp [World.setCell])⟩ (sx_of0 ((ButB.set (ButB.set (ButB.set (And.left hHeld) (p := ⟨wd1.heap.size, 0, none⟩) (by first | (left; simp; done) | (right; show w3.heap.size ≤ wd1.heap.size; omega)) _) (p := ⟨wd1.heap.size, 1, none⟩) (by first | (left; simp; done) | (right; show w3.heap.size ≤ wd1.heap.size; omega)) _) (p := ⟨wd1.heap.size, 2, none⟩) (by first | (left; simp; done) | (right; show w3.heap.size ≤ wd1.heap.size; omega)) _))) (fun wd18 hRn hHn => ?_)
          clear hK K hHeld p3 q3 HB3 BS BD sd0 sf0 sd1 sf1 sd2 sf2 sl
          obtain ⟨p3, q3, HB3, BS, BD, hsz18⟩ := hRn
          have hHeld := hHn
          clear hHn
          try simp only [Act.put, List.setIfInBounds_toArray, List.set_cons_zero, List.set_cons_succ]
          refine wpAnyH_ready (rs := [7]) (by kernel_rfl) (by simp) ?_
          refine (AllReadyH.cons (o := ⟨_, _, _, _, _, _⟩) rfl (fun K hK => ?_) AllReadyH.nil)
          have sd0 : wd18.cell? ⟨wd11.heap.size, 0, none⟩ = some (.int .i64 0) := (cell_blk BD.out 0).trans rfl
          have sf0 : wd18.frozen? ⟨wd11.heap.size, 0, none⟩ = false := frozen_blk BD.out 0
          have sd1 : wd18.cell? ⟨wd11.heap.size, 1, none⟩ = some (.slice none 0 0) := (cell_blk BD.out 1).trans rfl
          have sf1 : wd18.frozen? ⟨wd11.heap.size, 1, none⟩ = false := frozen_blk BD.out 1
          have sd2 : wd18.cell? ⟨wd11.heap.size, 2, none⟩ = some (.int .i64 0) := (cell_blk BD.out 2).trans rfl
          have sf2 : wd18.frozen? ⟨wd11.heap.size, 2, none⟩ = false := frozen_blk BD.out 2
          have sl := blk_lt BD.out
          go_simp
          try go_wp2_with fail
          refine out_gen hK _ _ (fun wz : World => Kp (wz.heap[w1.heap.size]? = some (.cells #[.int .i64 0, .slice none 0 0, .int .i64 0] 79 (0, 0))) ∧ Kp (wz.heap[w.heap.size]? = some (.cells #[.slice pa C.parts.length pc, .slice ca C.chans.length cc, .int .i64 C.l0, .slice a0 C.w0.length c0, .int .i64 C.l1, .slice a1 C.w1.length c1] 29 (0, 0))) ∧ Kp (Below w.heap.size w wz) ∧ Kp (wz.heap[wd1.heap.size]? = some (.cells #[.int .i64 0, .slice v3 0 c3, .int .i64 0] 79 (0, 0))) ∧ Kp (wz.heap[wd11.heap.size]? = some (.cells #[.int .i64 0, .slice v4 0 c4, .int .i64 0] 79 (0, 0))) ∧ wd18.heap.size ≤ wz.heap.size) ⟨⟨(blk_set_ne (p := ⟨wd11.heap.size, 2, none⟩) (blk_set_ne (p := ⟨wd11.heap.size, 1, none⟩) (blk_set_ne (p := ⟨wd11.heap.size, 0, none⟩) p3.out (by show w1.heap.size ≠ wd11.heap.size; omega) _) (by show w1.heap.size ≠ wd11.heap.size; omega) _) (by show w1.heap.size ≠ wd11.heap.size; omega) _)⟩, ⟨(blk_set_ne (p := ⟨wd11.heap.size, 2, none⟩) (blk_set_ne (p := ⟨wd11.heap.size, 1, none⟩) (blk_set_ne (p := ⟨wd11.heap.size, 0, none⟩) q3.out (by show w.heap.size ≠ wd11.heap.size; omega) _) (by show w.heap.size ≠ wd11.heap.size; omega) _) (by show w.heap.size ≠ wd11.heap.size; omega) _)⟩, ⟨(((HB3.out.setCell (p := ⟨wd11.heap.size, 0, none⟩) (by show w.heap.size ≤ wd11.heap.size; omega) _).setCell (p := ⟨wd11.heap.size, 1, none⟩) (by show w.heap.size ≤ wd11.heap.size; omega) _).setCell (p := ⟨wd11.heap.size, 2, none⟩) (by show w.heap.size ≤ wd11.heap.size; omega) _)⟩, ⟨(blk_set_ne (p := ⟨wd11.heap.size, 2, none⟩) (blk_set_ne (p := ⟨wd11.heap.size, 1, none⟩) (blk_set_ne (p := ⟨wd11.heap.size, 0, none⟩) BS.out (by show wd1.heap.size ≠ wd11.heap.size; omega) _) (by show wd1.heap.size ≠ wd11.heap.size; omega) _) (by show wd1.heap.size ≠ wd11.heap.size; omega) _)⟩, ⟨(blk_set (blk_set (blk_set BD.out 0 _) 1 _) 2 _).trans rfl⟩, (by simp [World.setCell])⟩ (sx_of0 ((ButB.set (ButB.set (ButB.set (And.left hHeld) (p := ⟨wd11.heap.size, 0, none⟩) (by first | (left; simp; done) | (right; show w3.heap.size ≤ wd11.heap.size; omega)) _) (p := ⟨wd11.heap.size, 1, none⟩) (by first | (left; simp; done) | (right; show w3.heap.size ≤ wd11.heap.size; omega)) _) (p := ⟨wd11.heap.size, 2, none⟩) (by first | (left; simp; done) | (right; show w3.heap.size ≤ wd11.heap.size; omega)) _))) (fun wd19 hRn hHn => ?_)
          clear hK K hHeld p3 q3 HB3 BS BD sd0 sf0 sd1 sf1 sd2 sf2 sl
          obtain ⟨p3, q3, HB3, BS, BD, hsz19⟩ := hRn
          have hHeld := hHn
          clear hHn
          try simp only [Act.put, List.setIfInBounds_toArray, List.set_cons_zero, List.set_cons_succ]
          refine wpAnyH_done (by kernel_rfl) ?_ _
          go_wp2_with fail
          go_meet
          exact ⟨_, _, v3, c3, rfl, rfl, HB3, BS⟩
      · have ge_BD : w3.heap.size ≤ wd1.heap.size := (And.left hHeld).size
        go_simp
        try go_wp2_with fail
        refine out_gen hK _ _ (fun wz : World => Kp (wz.heap[w1.heap.size]? = some (.cells #[.int .i64 0, .slice none 0 0, .int .i64 0] 79 (0, 0))) ∧ Kp (wz.heap[w.heap.size]? = some (.cells #[.slice pa C.parts.length pc, .slice ca C.chans.length cc, .int .i64 C.l0, .slice a0 C.w0.length c0, .int .i64 C.l1, .slice a1 C.w1.length c1] 29 (0, 0))) ∧ Kp (Below w.heap.size w wz) ∧ Kp (wz.heap[wd1.heap.size]? = some (.cells #[.int .i64 0, .slice none 0 0, .int .i64 0] 79 (0, 0))) ∧ wd1.heap.size < wz.heap.size) ⟨⟨blk_al p3.out _⟩, ⟨blk_al q3.out _⟩, ⟨below_al HB3.out _⟩, ⟨blk_new wd1 _⟩, (by simp)⟩ (sx_of0 (ButB.al (And.left hHeld) _)) (fun wd20 hRn hHn => ?_)
        clear hK K hHeld p3 q3 HB3
        obtain ⟨p3, q3, HB3, BD, hsz20⟩ := hRn
        have hHeld := hHn
        clear hHn
        try simp only [Act.put, List.setIfInBounds_toArray, List.set_cons_zero, List.set_cons_succ]
        have lt_BD := blk_lt BD.out
        refine wpAnyH_ready (rs := [3, 4]) (by kernel_rfl) (by simp) ?_
        refine (AllReadyH.cons (o := ⟨_, _, _, _, _, _⟩) rfl (fun K hK => ?_) (AllReadyH.cons (o := ⟨_, _, _, _, _, _⟩) rfl (fun K hK => ?_) AllReadyH.nil))
        · go_simp
          go_at_call 57
          refine (chans_any 0 0 1 0 (.slice none 0 0) [] (by omega) (by omega) (by omega) rfl _ (no_row _ 0)).mono ?_
          rintro e w9 ⟨vv, rfl, hO, hb⟩
          obtain ⟨v4, c4, rfl, hx1, hx2⟩ := (RowAt.of_own hO).shape
          try go_wp2_with fail
          refine out_gen hK _ _ (fun wz : World => Kp (wz.heap[w1.heap.size]? = some (.cells #[.int .i64 0, .slice none 0 0, .int .i64 0] 79 (0, 0))) ∧ Kp (wz.heap[w.heap.size]? = some (.cells #[.slice pa C.parts.length pc, .slice ca C.chans.length cc, .int .i64 C.l0, .slice a0 C.w0.length c0, .int .i64 C.l1, .slice a1 C.w1.length c1] 29 (0, 0))) ∧ Kp (Below w.heap.size w wz) ∧ Kp (wz.heap[wd1.heap.size]? = some (.cells #[.int .i64 0, .slice none 0 0, .int .i64 0] 79 (0, 0))) ∧ wd20.heap.size ≤ wz.heap.size) ⟨⟨blk_below p3.out hb⟩, ⟨blk_below q3.out hb⟩, ⟨below_call HB3.out hb⟩, ⟨blk_below BD.out hb⟩, hb.size⟩ (sx_of0 (ButB.call (And.left hHeld) hb)) (fun wd21 hRn hHn => ?_)
          clear hK K hHeld p3 q3 HB3 BD hO hb hx1 hx2
          obtain ⟨p3, q3, HB3, BD, hsz21⟩ := hRn
          have hHeld := hHn
          clear hHn
          try simp only [Act.put, List.setIfInBounds_toArray, List.set_cons_zero, List.set_cons_succ]
          refine wpAnyH_ready (rs := [4]) (by kernel_rfl) (by simp) ?_
          refine (AllReadyH.cons (o := ⟨_, _, _, _, _, _⟩) rfl (fun K hK => ?_) AllReadyH.nil)
          have ge_BS : w3.heap.size ≤ wd21.heap.size := (And.left hHeld).size
          go_simp
          try go_wp2_with fail
          refine out_gen hK _ _ (fun wz : World => Kp (wz.heap[w1.heap.size]? = some (.cells #[.int .i64 0, .slice none 0 0, .int .i64 0] 79 (0, 0))) ∧ Kp (wz.heap[w.heap.size]? = some (.cells #[.slice pa C.parts.length pc, .slice ca C.chans.length cc, .int .i64 C.l0, .slice a0 C.w0.length c0, .int .i64 C.l1, .slice a1 C.w1.length c1] 29 (0, 0))) ∧ Kp (Below w.heap.size w wz) ∧ Kp (wz.heap[wd1.heap.size]? = some (.cells #[.int .i64 0, .slice none 0 0, .int .i64 0] 79 (0, 0))) ∧ Kp (wz.heap[wd21.heap.size]? = some (.cells #[.int .i64 0, .slice none 0 0, .int .i64 0] 79 (0, 0))) ∧ wd21.heap.size < wz.heap.size) ⟨⟨blk_al p3.out _⟩, ⟨blk_al q3.out _⟩, ⟨below_al HB3.out _⟩, ⟨blk_al BD.out _⟩, ⟨blk_new wd21 _⟩, (by simp)⟩ (sx_of0 (ButB.al (And.left hHeld) _)) (fun wd22 hRn hHn => ?_)
          clear hK K hHeld p3 q3 HB3 BD
          obtain ⟨p3, q3, HB3, BD, BS, hsz22⟩ := hRn
          have hHeld := hHn
          clear hHn
          try simp only [Act.put, List.setIfInBounds_toArray, List.set_cons_zero, List.set_cons_succ]
          have lt_BS := blk_lt BS.out
          refine wpAnyH_ready (rs := [6]) (by kernel_rfl) (by simp) ?_
          refine (AllReadyH.cons (o := ⟨_, _, _, _, _, _⟩) rfl (fun K hK => ?_) AllReadyH.nil)
          have sd0 : wd22.cell? ⟨wd21.heap.size, 0, none⟩ = some (.int .i64 0) := (cell_blk BS.out 0).trans rfl
          have sf0 : wd22.frozen? ⟨wd21.heap.size, 0, none⟩ = false := frozen_blk BS.out 0
          have sd1 : wd22.cell? ⟨wd21.heap.size, 1, none⟩ = some (.slice none 0 0) := (cell_blk BS.out 1).trans rfl
          have sf1 : wd22.frozen? ⟨wd21.heap.size, 1, none⟩ = false := frozen_blk BS.out 1
          have sd2 : wd22.cell? ⟨wd21.heap.size, 2, none⟩ = some (.int .i64 0) := (cell_blk BS.out 2).trans rfl
          have sf2 : wd22.frozen? ⟨wd21.heap.size, 2, none⟩ = false := frozen_blk BS.out 2
          have sl := blk_lt BS.out
          go_simp
          try go_wp2_with fail
          refine out_gen hK _ _ (fun wz : World => Kp (wz.heap[w1.heap.size]? = some (.cells #[.int .i64 0, .slice none 0 0, .int .i64 0] 79 (0, 0))) ∧ Kp (wz.heap[w.heap.size]? = some (.cells #[.slice pa C.parts.length pc, .slice ca C.chans.length cc, .int .i64 C.l0, .slice a0 C.w0.length c0, .int .i64 C.l1, .slice a1 C.w1.length c1] 29 (0, 0))) ∧ Kp (Below w.heap.size w wz) ∧ Kp (wz.heap[wd1.heap.size]? = some (.cells #[.int .i64 0, .slice none 0 0, .int .i64 0] 79 (0, 0))) ∧ Kp (wz.heap[wd21.heap.size]? = some (.cells #[.int .i64 0, .slice v3 0 c3, .int .i64 0] 79 (0, 0))) ∧ wd22.heap.size ≤ wz.heap.size) ⟨⟨(blk_set_ne (p := ⟨wd21.heap.size, 2, none⟩) (blk_set_ne (p := ⟨wd21.heap.size, 1, none⟩) (blk_set_ne (p := ⟨wd21.heap.size, 0, none⟩) p3.out (by show w1.heap.size ≠ wd21.heap.size; omega) _) (by show w1.heap.size ≠ wd21.heap.size; omega) _) (by show w1.heap.size ≠ wd21.heap.size; omega) _)⟩, ⟨(blk_set_ne (p := ⟨wd21.heap.size, 2, none⟩) (blk_set_ne (p := ⟨wd21.heap.size, 1, none⟩) (blk_set_ne (p := ⟨wd21.heap.size, 0, none⟩) q3.out (by show w.heap.size ≠ wd21.heap.size; omega) _) (by show w.heap.size ≠ wd21.heap.size; omega) _) (by show w.heap.size ≠ wd21.heap.size; omega) _)⟩, ⟨(((HB3.out.setCell (p := ⟨wd21.heap.size, 0, none⟩) (by show w.heap.size ≤ wd21.heap.size; omega) _).setCell (p := ⟨wd21.heap.size, 1, none⟩) (by show w.heap.size ≤ wd21.heap.size; omega) _).setCell (p := ⟨wd21.heap.size, 2, none⟩) (by show w.heap.size ≤ wd21.heap.size; omega) _)⟩, ⟨(blk_set_ne (p := ⟨wd21.heap.size, 2, none⟩) (blk_set_ne (p := ⟨wd21.heap.size, 1, none⟩) (blk_set_ne (p := ⟨wd21.heap.size, 0, none⟩) BD.out (by show wd1.heap.size ≠ wd21.heap.size; omega) _) (by show wd1.heap.size ≠ wd21.heap.size; omega) _) (by show wd1.heap.size ≠ wd21.heap.size; omega) _)⟩, ⟨(blk_set (blk_set (blk_set BS.out 0 _) 1 _) 2 _).trans rfl⟩, (by simp [World.setCell])⟩ (sx_of0 ((ButB.set (ButB.set (ButB.set (And.left hHeld) (p := ⟨wd21.heap.size, 0, none⟩) (by first | (left; simp; done) | (right; show w3.heap.size ≤ wd21.heap.size; omega)) _) (p := ⟨wd21.heap.size, 1, none⟩) (by first | (left; simp; done) | (right; show w3.heap.size ≤ wd21.heap.size; omega)) _) (p := ⟨wd21.heap.size, 2, none⟩) (by first | (left; simp; done) | (right; show w3.heap.size ≤ wd21.heap.size; omega)) _))) (fun wd23 hRn hHn => ?_)
          clear hK K hHeld p3 q3 HB3 BD BS sd0 sf0 sd1 sf1 sd2 sf2 sl
          obtain ⟨p3, q3, HB3, BD, BS, hsz23⟩ := hRn
          have hHeld := hHn
          clear hHn
          try simp only [Act.put, List.setIfInBounds_toArray, List.set_cons_zero, List.set_cons_succ]
          refine wpAnyH_ready (rs := [7]) (by kernel_rfl) (by simp) ?_
          refine (AllReadyH.cons (o := ⟨_, _, _, _, _, _⟩) rfl (fun K hK => ?_) AllReadyH.nil)
          have sd0 : wd23.cell? ⟨wd1.heap.size, 0, none⟩ = some (.int .i64 0) := (cell_blk BD.out 0).trans rfl
          have sf0 : wd23.frozen? ⟨wd1.heap.size, 0, none⟩ = false := frozen_blk BD.out 0
          have sd1 : wd23.cell? ⟨wd1.heap.size, 1, none⟩ = some (.slice none 0 0) := (cell_blk BD.out 1).trans rfl
          have sf1 : wd23.frozen? ⟨wd1.heap.size, 1, none⟩ = false := frozen_blk BD.out 1
          have sd2 : wd23.cell? ⟨wd1.heap.size, 2, none⟩ = some (.int .i64 0) := (cell_blk BD.out 2).trans rfl
          have sf2 : wd23.frozen? ⟨wd1.heap.size, 2, none⟩ = false := frozen_blk BD.out 2
          have sl := blk_lt BD.out
          go_simp
          try go_wp2_with fail
          refine out_gen hK _ _ (fun wz : World => Kp (wz.heap[w1.heap.size]? = some (.cells #[.int .i64 0, .slice none 0 0, .int .i64 0] 79 (0, 0))) ∧ Kp (wz.heap[w.heap.size]? = some (.cells #[.slice pa C.parts.length pc, .slice ca C.chans.length cc, .int .i64 C.l0, .slice a0 C.w0.length c0, .int .i64 C.l1, .slice a1 C.w1.length c1] 29 (0, 0))) ∧ Kp (Below w.heap.size w wz) ∧ Kp (wz.heap[wd1.heap.size]? = some (.cells #[.int .i64 0, .slice v4 0 c4, .int .i64 0] 79 (0, 0))) ∧ Kp (wz.heap[wd21.heap.size]? = some (.cells #[.int .i64 0, .slice v3 0 c3, .int .i64 0] 79 (0, 0))) ∧ wd23.heap.size ≤ wz.heap.size) ⟨⟨(blk_set_ne (p := ⟨wd1.heap.size, 2, none⟩) (blk_set_ne (p := ⟨wd1.heap.size, 1, none⟩) (blk_set_ne (p := ⟨wd1.heap.size, 0, none⟩) p3.out (by show w1.heap.size ≠ wd1.heap.size; omega) _) (by show w1.heap.size ≠ wd1.heap.size; omega) _) (by show w1.heap.size ≠ wd1.heap.size; omega) _)⟩, ⟨(blk_set_ne (p := ⟨wd1.heap.size, 2, none⟩) (blk_set_ne (p := ⟨wd1.heap.size, 1, none⟩) (blk_set_ne (p := ⟨wd1.heap.size, 0, none⟩) q3.out (by show w.heap.size ≠ wd1.heap.size; omega) _) (by show w.heap.size ≠ wd1.heap.size; omega) _) (by show w.heap.size ≠ wd1.heap.size; omega) _)⟩, ⟨(((HB3.out.setCell (p := ⟨wd1.heap.size, 0, none⟩) (by show w.heap.size ≤ wd1.heap.size; omega) _).setCell (p := ⟨wd1.heap.size, 1, none⟩) (by show w.heap.size ≤ wd1.heap.size; omega) _).setCell (p := ⟨wd1.heap.size, 2, none⟩) (by show w.heap.size ≤ wd1.heap.size; omega) _)⟩, ⟨(blk_set (blk_set (blk_set BD.out 0 _) 1 _) 2 _).trans rfl⟩, ⟨(blk_set_ne (p := ⟨wd1.heap.size, 2, none⟩) (blk_set_ne (p := ⟨wd1.heap.size, 1, none⟩) (blk_set_ne (p := ⟨wd1.heap.size, 0, none⟩) BS.out (by show wd21.heap.size ≠ wd1.heap.size; omega) _) (by show wd21.heap.size ≠ wd1.heap.size; omega) _) (by show wd21.heap.size ≠ wd1.heap.size; omega) _)⟩, (by simp [World.setCell])⟩ (sx_of0 ((ButB.set (ButB.set (ButB.set (And.left hHeld) (p := ⟨wd1.heap.size, 0, none⟩) (by first | (left; simp; done) | (right; show w3.heap.size ≤ wd1.heap.size; omega)) _) (p := ⟨wd1.heap.size, 1, none⟩) (by first | (left; simp; done) | (right; show w3.heap.size ≤ wd1.heap.size; omega)) _) (p := ⟨wd1.heap.size, 2, none⟩) (by first | (left; simp; done) | (right; show w3.heap.size ≤ wd1.heap.size; omega)) _))) (fun wd24 hRn hHn => ?_)
          clear hK K hHeld p3 q3 HB3 BD BS sd0 sf0 sd1 sf1 sd2 sf2 sl
          obtain ⟨p3, q3, HB3, BD, BS, hsz24⟩ := hRn
          have hHeld := hHn
          clear hHn
          try simp only [Act.put, List.setIfInBounds_toArray, List.set_cons_zero, List.set_cons_succ]
          refine wpAnyH_done (by kernel_rfl) ?_ _
          go_wp2_with fail
          go_meet
          exact ⟨_, _, v3, c3, rfl, rfl, HB3, BS⟩
        · have ge_BS : w3.heap.size ≤ wd20.heap.size := (And.left hHeld).size
          go_simp
          try go_wp2_with fail
          refine out_gen hK _ _ (fun wz : World => Kp (wz.heap[w1.heap.size]? = some (.cells #[.int .i64 0, .slice none 0 0, .int .i64 0] 79 (0, 0))) ∧ Kp (wz.heap[w.heap.size]? = some (.cells #[.slice pa C.parts.length pc, .slice ca C.chans.length cc, .int .i64 C.l0, .slice a0 C.w0.length c0, .int .i64 C.l1, .slice a1 C.w1.length c1] 29 (0, 0))) ∧ Kp (Below w.heap.size w wz) ∧ Kp (wz.heap[wd1.heap.size]? = some (.cells #[.int .i64 0, .slice none 0 0, .int .i64 0] 79 (0, 0))) ∧ Kp (wz.heap[wd20.heap.size]? = some (.cells #[.int .i64 0, .slice none 0 0, .int .i64 0] 79 (0, 0))) ∧ wd20.heap.size < wz.heap.size) ⟨⟨blk_al p3.out _⟩, ⟨blk_al q3.out _⟩, ⟨below_al HB3.out _⟩, ⟨blk_al BD.out _⟩, ⟨blk_new wd20 _⟩, (by simp)⟩ (sx_of0 (ButB.al (And.left hHeld) _)) (fun wd25 hRn hHn => ?_)
          clear hK K hHeld p3 q3 HB3 BD
          obtain ⟨p3, q3, HB3, BD, BS, hsz25⟩ := hRn
          have hHeld := hHn
          clear hHn
          try simp only [Act.put, List.setIfInBounds_toArray, List.set_cons_zero, List.set_cons_succ]
          have lt_BS := blk_lt BS.out
          refine wpAnyH_ready (rs := [3]) (by kernel_rfl) (by simp) ?_
          refine (AllReadyH.cons (o := ⟨_, _, _, _, _, _⟩) rfl (fun K hK => ?_) AllReadyH.nil)
          go_simp
          go_at_call 57
          refine (chans_any 0 0 1 0 (.slice none 0 0) [] (by omega) (by omega) (by omega) rfl _ (no_row _ 0)).mono ?_
          rintro e w9 ⟨vv, rfl, hO, hb⟩
          obtain ⟨v4, c4, rfl, hx1, hx2⟩ := (RowAt.of_own hO).shape
          try go_wp2_with fail
          refine out_gen hK _ _ (fun wz : World => Kp (wz.heap[w1.heap.size]? = some (.cells #[.int .i64 0, .slice none 0 0, .int .i64 0] 79 (0, 0))) ∧ Kp (wz.heap[w.heap.size]? = some (.cells #[.slice pa C.parts.length pc, .slice ca C.chans.length cc, .int .i64 C.l0, .slice a0 C.w0.length c0, .int .i64 C.l1, .slice a1 C.w1.length c1] 29 (0, 0))) ∧ Kp (Below w.heap.size w wz) ∧ Kp (wz.heap[wd1.heap.size]? = some (.cells #[.int .i64 0, .slice none 0 0, .int .i64 0] 79 (0, 0))) ∧ Kp (wz.heap[wd20.heap.size]? = some (.cells #[.int .i64 0, .slice none 0 0, .int .i64 0] 79 (0, 0))) ∧ wd25.heap.size ≤ wz.heap.size) ⟨⟨blk_below p3.out hb⟩, ⟨blk_below q3.out hb⟩, ⟨below_call HB3.out hb⟩, ⟨blk_below BD.out hb⟩, ⟨blk_below BS.out hb⟩, hb.size⟩ (sx_of0 (ButB.call (And.left hHeld) hb)) (fun wd26 hRn hHn => ?_)
          clear hK K hHeld p3 q3 HB3 BD BS hO hb hx1 hx2
          obtain ⟨p3, q3, HB3, BD, BS, hsz26⟩ := hRn
          have hHeld := hHn
          clear hHn
          try simp only [Act.put, List.setIfInBounds_toArray, List.set_cons_zero, List.set_cons_succ]
          refine wpAnyH_ready (rs := [6]) (by kernel_rfl) (by simp) ?_
          refine (AllReadyH.cons (o := ⟨_, _, _, _, _, _⟩) rfl (fun K hK => ?_) AllReadyH.nil)
          have sd0 : wd26.cell? ⟨wd20.heap.size, 0, none⟩ = some (.int .i64 0) := (cell_blk BS.out 0).trans rfl
          have sf0 : wd26.frozen? ⟨wd20.heap.size, 0, none⟩ = false := frozen_blk BS.out 0
          have sd1 : wd26.cell? ⟨wd20.heap.size, 1, none⟩ = some (.slice none 0 0) := (cell_blk BS.out 1).trans rfl
          have sf1 : wd26.frozen? ⟨wd20.heap.size, 1, none⟩ = false := frozen_blk BS.out 1
          have sd2 : wd26.cell? ⟨wd20.heap.size, 2, none⟩ = some (.int .i64 0) := (cell_blk BS.out 2).trans rfl
          have sf2 : wd26.frozen? ⟨wd20.heap.size, 2, none⟩ = false := frozen_blk BS.out 2
          have sl := blk_lt BS.out
          go_simp
          try go_wp2_with fail
          refine out_gen hK _ _ (fun wz : World => Kp (wz.heap[w1.heap.size]? = some (.cells #[.int .i64 0, .slice none 0 0, .int .i64 0] 79 (0, 0))) ∧ Kp (wz.heap[w.heap.size]? = some (.cells #[.slice pa C.parts.length pc, .slice ca C.chans.length cc, .int .i64 C.l0, .slice a0 C.w0.length c0, .int .i64 C.l1, .slice a1 C.w1.length c1] 29 (0, 0))) ∧ Kp (Below w.heap.size w wz) ∧ Kp (wz.heap[wd1.heap.size]? = some (.cells #[.int .i64 0, .slice none 0 0, .int .i64 0] 79 (0, 0))) ∧ Kp (wz.heap[wd20.heap.size]? = some (.cells #[.int .i64 0, .slice v3 0 c3, .int .i64 0] 79 (0, 0))) ∧ wd26.heap.size ≤ wz.heap.size) ⟨⟨(blk_set_ne (p := ⟨wd20.heap.size, 2, none⟩) (blk_set_ne (p := ⟨wd20.heap.size, 1, none⟩) (blk_set_ne (p := ⟨wd20.heap.size, 0, none⟩) p3.out (by show w1.heap.size ≠ wd20.heap.size; omega) _) (by show w1.heap.size ≠ wd20.heap.size; omega) _) (by show w1.heap.size ≠ wd20.heap.size; omega) _)⟩, ⟨(blk_set_ne (p := ⟨wd20.heap.size, 2, none⟩) (blk_set_ne (p := ⟨wd20.heap.size, 1, none⟩) (blk_set_ne (p := ⟨wd20.heap.size, 0, none⟩) q3.out (by show w.heap.size ≠ wd20.heap.size; omega) _) (by show w.heap.size ≠ wd20.heap.size; omega) _) (by show w.heap.size ≠ wd20.heap.size; omega) _)⟩, ⟨(((HB3.out.setCell (p := ⟨wd20.heap.size, 0, none⟩) (by show w.heap.size ≤ wd20.heap.size; omega) _).setCell (p := ⟨wd20.heap.size, 1, none⟩) (by show w.heap.size ≤ wd20.heap.size; omega) _).setCell (p := ⟨wd20.heap.size, 2, none⟩) (by show w.heap.size ≤ wd20.heap.size; omega) _)⟩, ⟨(blk_set_ne (p := ⟨wd20.heap.size, 2, none⟩) (blk_set_ne (p := ⟨wd20.heap.size, 1, none⟩) (blk_set_ne (p := ⟨wd20.heap.size, 0, none⟩) BD.out (by show wd1.heap.size ≠ wd20.heap.size; omega) _) (by show wd1.heap.size ≠ wd20.heap.size; omega) _) (by show wd1.heap.size ≠ wd20.heap.size; omega) _)⟩, ⟨(blk_set (blk_set (blk_set BS.out 0 _) 1 _) 2 _).trans rfl⟩, (by simp [World.setCell])⟩ (sx_of0 ((ButB.set (ButB.set (ButB.set (And.left hHeld) (p := ⟨wd20.heap.size, 0, none⟩) (by first | (left; simp; done) | (right; show w3.heap.size ≤ wd20.heap.size; omega)) _) (p := ⟨wd20.heap.size, 1, none⟩) (by first | (left; simp; done) | (right; show w3.heap.size ≤ wd20.heap.size; omega)) _) (p := ⟨wd20.heap.size, 2, none⟩) (by first | (left; simp; done) | (right; show w3.heap.size ≤ wd20.heap.size; omega)) _))) (fun wd27 hRn hHn => ?_)
          clear hK K hHeld p3 q3 HB3 BD BS sd0 sf0 sd1 sf1 sd2 sf2 sl
          obtain ⟨p3, q3, HB3, BD, BS, hsz27⟩ := hRn
          have hHeld := hHn
          clear hHn
          try simp only [Act.put, List.setIfInBounds_toArray, List.set_cons_zero, List.set_cons_succ]
          refine wpAnyH_ready (rs := [7]) (by kernel_rfl) (by simp) ?_
          refine (AllReadyH.cons (o := ⟨_, _, _, _, _, _⟩) rfl (fun K hK => ?_) AllReadyH.nil)
          have sd0 : wd27.cell? ⟨wd1.heap.size, 0, none⟩ = some (.int .i64 0) := (cell_blk BD.out 0).trans rfl
          have sf0 : wd27.frozen? ⟨wd1.heap.size, 0, none⟩ = false := frozen_blk BD.out 0
          have sd1 : wd27.cell? ⟨wd1.heap.size, 1, none⟩ = some (.slice none 0 0) := (cell_blk BD.out 1).trans rfl
          have sf1 : wd27.frozen? ⟨wd1.heap.size, 1, none⟩ = false := frozen_blk BD.out 1
          have sd2 : wd27.cell? ⟨wd1.heap.size, 2, none⟩ = some (.int .i64 0) := (cell_blk BD.out 2).trans rfl
          have sf2 : wd27.frozen? ⟨wd1.heap.size, 2, none⟩ = false := frozen_blk BD.out 2
          have sl := blk_lt BD.out
          go_simp
          try go_wp2_with fail
          refine out_gen hK _ _ (fun wz : World => Kp (wz.heap[w1.heap.size]? = some (.cells #[.int .i64 0, .slice none 0 0, .int .i64 0] 79 (0, 0))) ∧ Kp (wz.heap[w.heap.size]? = some (.cells #[.slice pa C.parts.length pc, .slice ca C.chans.length cc, .int .i64 C.l0, .slice a0 C.w0.length c0, .int .i64 C.l1, .slice a1 C.w1.length c1] 29 (0, 0))) ∧ Kp (Below w.heap.size w wz) ∧ Kp (wz.heap[wd1.heap.size]? = some (.cells #[.int .i64 0, .slice v4 0 c4, .int .i64 0] 79 (0, 0))) ∧ Kp (wz.heap[wd20.heap.size]? = some (.cells #[.int .i64 0, .slice v3 0 c3, .int .i64 0] 79 (0, 0))) ∧ wd27.heap.size ≤ wz.heap.size) ⟨⟨(blk_set_ne (p := ⟨wd1.heap.size, 2, none⟩) (blk_set_ne (p := ⟨wd1.heap.size, 1, none⟩) (blk_set_ne (p := ⟨wd1.heap.size, 0, none⟩) p3.out (by show w1.heap.size ≠ wd1.heap.size; omega) _) (by show w1.heap.size ≠ wd1.heap.size; omega) _) (by show w1.heap.size ≠ wd1.heap.size; omega) _)⟩, ⟨(blk_set_ne (p := ⟨wd1.heap.size, 2, none⟩) (blk_set_ne (p := ⟨wd1.heap.size, 1, none⟩) (blk_set_ne (p := ⟨wd1.heap.size, 0, none⟩) q3.out (by show w.heap.size ≠ wd1.heap.size; omega) _) (by show w.heap.size ≠ wd1.heap.size; omega) _) (by show w.heap.size ≠ wd1.heap.size; omega) _)⟩, ⟨(((HB3.out.setCell (p := ⟨wd1.heap.size, 0, none⟩) (by show w.heap.size ≤ wd1.heap.size; omega) _).setCell (p := ⟨wd1.heap.size, 1, none⟩) (by show w.heap.size ≤ wd1.heap.size; omega) _).setCell (p := ⟨wd1.heap.size, 2, none⟩) (by show w.heap.size ≤ wd1.heap.size; omega) _)⟩, ⟨(blk_set (blk_set (blk_set BD.out 0 _) 1 _) 2 _).trans rfl⟩, ⟨(blk_set_ne (p := ⟨wd1.heap.size, 2, none⟩) (blk_set_ne (p := ⟨wd1.heap.size, 1, none⟩) (blk_set_ne (p := ⟨wd1.heap.size, 0, none⟩) BS.out (by show wd20.heap.size ≠ wd1.heap.size; omega) _) (by show wd20.heap.size ≠ wd1.heap.size; omega) _) (by show wd20.heap.size ≠ wd1.heap.size; omega) _)⟩, (by simp [World.setCell])⟩ (sx_of0 ((ButB.set (ButB.set (ButB.set (And.left hHeld) (p := ⟨wd1.heap.size, 0, none⟩) (by first | (left; simp; done) | (right; show w3.heap.size ≤ wd1.heap.size; omega)) _) (p := ⟨wd1.heap.size, 1, none⟩) (by first | (left; simp; done) | (right; show w3.heap.size ≤ wd1.heap.size; omega)) _) (p := ⟨wd1.heap.size, 2, none⟩) (by first | (left; simp; done) | (right; show w3.heap.size ≤ wd1.heap.size; omega)) _))) (fun wd28 hRn hHn => ?_)
          clear hK K hHeld p3 q3 HB3 BD BS sd0 sf0 sd1 sf1 sd2 sf2 sl
          obtain ⟨p3, q3, HB3, BD, BS, hsz28⟩ := hRn
          have hHeld := hHn
          clear hHn
          try simp only [Act.put, List.setIfInBounds_toArray, List.set_cons_zero, List.set_cons_succ]
          refine wpAnyH_done (by kernel_rfl) ?_ _
          go_wp2_with fail
          go_meet
          exact ⟨_, _, v3, c3, rfl, rfl, HB3, BS⟩
    · have ge_BS : w3.heap.size ≤ wd0.heap.size := (And.left hHeld).size
      go_simp
      try go_wp2_with fail
      refine out_gen hK _ _ (fun wz : World => Kp (wz.heap[w1.heap.size]? = some (.cells #[.int .i64 0, .slice none 0 0, .int .i64 0] 79 (0, 0))) ∧ Kp (wz.heap[w.heap.size]? = some (.cells #[.slice pa C.parts.length pc, .slice ca C.chans.length cc, .int .i64 C.l0, .slice a0 C.w0.length c0, .int .i64 C.l1, .slice a1 C.w1.length c1] 29 (0, 0))) ∧ Kp (Below w.heap.size w wz) ∧ Kp (wz.heap[wd0.heap.size]? = some (.cells #[.int .i64 0, .slice none 0 0, .int .i64 0] 79 (0, 0))) ∧ wd0.heap.size < wz.heap.size) ⟨⟨blk_al p3.out _⟩, ⟨blk_al q3.out _⟩, ⟨below_al HB3.out _⟩, ⟨blk_new wd0 _⟩, (by simp)⟩ (sx_of0 (ButB.al (And.left hHeld) _)) (fun wd29 hRn hHn => ?_)
      clear hK K hHeld p3 q3 HB3
      obtain ⟨p3, q3, HB3, BS, hsz29⟩ := hRn
      have hHeld := hHn
      clear hHn
      try simp only [Act.put, List.setIfInBounds_toArray, List.set_cons_zero, List.set_cons_succ]
      have lt_BS := blk_lt BS.out
      refine wpAnyH_ready (rs := [1, 5]) (by kernel_rfl) (by simp) ?_
      refine (AllReadyH.cons (o := ⟨_, _, _, _, _, _⟩) rfl (fun K hK => ?_) (AllReadyH.cons (o := ⟨_, _, _, _, _, _⟩) rfl (fun K hK => ?_) AllReadyH.nil))
      · go_simp
        go_at_call 57
        refine (chans_any 0 0 0 0 (.slice none 0 0) [] (by omega) (by omega) (by omega) rfl _ (no_row _ 0)).mono ?_
        rintro e w9 ⟨vv, rfl, hO, hb⟩
        obtain ⟨v3, c3, rfl, hx1, hx2⟩ := (RowAt.of_own hO).shape
        try go_wp2_with fail
        refine out_gen hK _ _ (fun wz : World => Kp (wz.heap[w1.heap.size]? = some (.cells #[.int .i64 0, .slice none 0 0, .int .i64 0] 79 (0, 0))) ∧ Kp (wz.heap[w.heap.size]? = some (.cells #[.slice pa C.parts.length pc, .slice ca C.chans.length cc, .int .i64 C.l0, .slice a0 C.w0.length c0, .int .i64 C.l1, .slice a1 C.w1.length c1] 29 (0, 0))) ∧ Kp (Below w.heap.size w wz) ∧ Kp (wz.heap[wd0.heap.size]? = some (.cells #[.int .i64 0, .slice none 0 0, .int .i64 0] 79 (0, 0))) ∧ wd29.heap.size ≤ wz.heap.size) ⟨⟨blk_below p3.out hb⟩, ⟨blk_below q3.out hb⟩, ⟨below_call HB3.out hb⟩, ⟨blk_below BS.out hb⟩, hb.size⟩ (sx_of0 (ButB.call (And.left hHeld) hb)) (fun wd30 hRn hHn => ?_)
        clear hK K hHeld p3 q3 HB3 BS hO hb hx1 hx2
        obtain ⟨p3, q3, HB3, BS, hsz30⟩ := hRn
        have hHeld := hHn
        clear hHn
        try simp only [Act.put, List.setIfInBounds_toArray, List.set_cons_zero, List.set_cons_succ]
        refine wpAnyH_ready (rs := [3, 5]) (by kernel_rfl) (by simp) ?_
        refine (AllReadyH.cons (o := ⟨_, _, _, _, _, _⟩) rfl (fun K hK => ?_) (AllReadyH.cons (o := ⟨_, _, _, _, _, _⟩) rfl (fun K hK => ?_) AllReadyH.nil))
        · go_simp
          go_at_call 57
          refine (chans_any 0 0 1 0 (.slice none 0 0) [] (by omega) (by omega) (by omega) rfl _ (no_row _ 0)).mono ?_
          rintro e w9 ⟨vv, rfl, hO, hb⟩
          obtain ⟨v4, c4, rfl, hx1, hx2⟩ := (RowAt.of_own hO).shape
          try go_wp2_with fail
          refine out_gen hK _ _ (fun wz : World => Kp (wz.heap[w1.heap.size]? = some (.cells #[.int .i64 0, .slice none 0 0, .int .i64 0] 79 (0, 0))) ∧ Kp (wz.heap[w.heap.size]? = some (.cells #[.slice pa C.parts.length pc, .slice ca C.chans.length cc, .int .i64 C.l0, .slice a0 C.w0.length c0, .int .i64 C.l1, .slice a1 C.w1.length c1] 29 (0, 0))) ∧ Kp (Below w.heap.size w wz) ∧ Kp (wz.heap[wd0.heap.size]? = some (.cells #[.int .i64 0, .slice none 0 0, .int .i64 0] 79 (0, 0))) ∧ wd30.heap.size ≤ wz.heap.size) ⟨⟨blk_below p3.out hb⟩, ⟨blk_below q3.out hb⟩, ⟨below_call HB3.out hb⟩, ⟨blk_below BS.out hb⟩, hb.size⟩ (sx_of0 (ButB.call (And.left hHeld) hb)) (fun wd31 hRn hHn => ?_)
          clear hK K hHeld p3 q3 HB3 BS hO hb hx1 hx2
          obtain ⟨p3, q3, HB3, BS, hsz31⟩ := hRn
          have hHeld := hHn
          clear hHn
          try simp only [Act.put, List.setIfInBounds_toArray, List.set_cons_zero, List.set_cons_succ]
          refine wpAnyH_ready (rs := [5]) (by kernel_rfl) (by simp) ?_
          refine (AllReadyH.cons (o := ⟨_, _, _, _, _, _⟩) rfl (fun K hK => ?_) AllReadyH.nil)
          have ge_BD : w3.heap.size ≤ wd31.heap.size := (And.left hHeld).size
          go_simp
          try go_wp2_with fail
          refine out_gen hK _ _ (fun wz : World => Kp (wz.heap[w1.heap.size]? = some (.cells #[.int .i64 0, .slice none 0 0, .int .i64 0] 79 (0, 0))) ∧ Kp (wz.heap[w.heap.size]? = some (.cells #[.slice pa C.parts.length pc, .slice ca C.chans.length cc, .int .i64 C.l0, .slice a0 C.w0.length c0, .int .i64 C.l1, .slice a1 C.w1.length c1] 29 (0, 0))) ∧ Kp (Below w.heap.size w wz) ∧ Kp (wz.heap[wd0.heap.size]? = some (.cells #[.int .i64 0, .slice none 0 0, .int .i64 0] 79 (0, 0))) ∧ Kp (wz.heap[wd31.heap.size]? = some (.cells #[.int .i64 0, .slice none 0 0, .int .i64 0] 79 (0, 0))) ∧ wd31.heap.size < wz.heap.size) ⟨⟨blk_al p3.out _⟩, ⟨blk_al q3.out _⟩, ⟨below_al HB3.out _⟩, ⟨blk_al BS.out _⟩, ⟨blk_new wd31 _⟩, (by simp)⟩ (sx_of0 (ButB.al (And.left hHeld) _)) (fun wd32 hRn hHn => ?_)
          clear hK K hHeld p3 q3 HB3 BS
          obtain ⟨p3, q3, HB3, BS, BD, hsz32⟩ := hRn
          have hHeld := hHn
          clear hHn
          try simp only [Act.put, List.setIfInBounds_toArray, List.set_cons_zero, List.set_cons_succ]
          have lt_BD := blk_lt BD.out
          refine wpAnyH_ready (rs := [6]) (by kernel_rfl) (by simp) ?_
          refine (AllReadyH.cons (o := ⟨_, _, _, _, _, _⟩) rfl (fun K hK => ?_) AllReadyH.nil)
          have sd0 : wd32.cell? ⟨wd0.heap.size, 0, none⟩ = some (.int .i64 0) := (cell_blk BS.out 0).trans rfl
          have sf0 : wd32.frozen? ⟨wd0.heap.size, 0, none⟩ = false := frozen_blk BS.out 0
          have sd1 : wd32.cell? ⟨wd0.heap.size, 1, none⟩ = some (.slice none 0 0) := (cell_blk BS.out 1).trans rfl
          have sf1 : wd32.frozen? ⟨wd0.heap.size, 1, none⟩ = false := frozen_blk BS.out 1
          have sd2 : wd32.cell? ⟨wd0.heap.size, 2, none⟩ = some (.int .i64 0) := (cell_blk BS.out 2).trans rfl
          have sf2 : wd32.frozen? ⟨wd0.heap.size, 2, none⟩ = false := frozen_blk BS.out 2
          have sl := blk_lt BS.out
          go_simp
          try go_wp2_with fail
          refine out_gen hK _ _ (fun wz : World => Kp (wz.heap[w1.heap.size]? = some (.cells #[.int .i64 0, .slice none 0 0, .int .i64 0] 79 (0, 0))) ∧ Kp (wz.heap[w.heap.size]? = some (.cells #[.slice pa C.parts.length pc, .slice ca C.chans.length cc, .int .i64 C.l0, .slice a0 C.w0.length c0, .int .i64 C.l1, .slice a1 C.w1.length c1] 29 (0, 0))) ∧ Kp (Below w.heap.size w wz) ∧ Kp (wz.heap[wd0.heap.size]? = some (.cells #[.int .i64 0, .slice v3 0 c3, .int .i64 0] 79 (0, 0))) ∧ Kp (wz.heap[wd31.heap.size]? = some (.cells #[.int .i64 0, .slice none 0 0, .int .i64 0] 79 (0, 0))) ∧ wd32.heap.size ≤ wz.heap.size) ⟨⟨(blk_set_ne (p := ⟨wd0.heap.size, 2, none⟩) (blk_set_ne (p := ⟨wd0.heap.size, 1, none⟩) (blk_set_ne (p := ⟨wd0.heap.size, 0, none⟩) p3.out (by show w1.heap.size ≠ wd0.heap.size; omega) _) (by show w1.heap.size ≠ wd0.heap.size; omega) _) (by show w1.heap.size ≠ wd0.heap.size; omega) _)⟩, ⟨(blk_set_ne (p := ⟨wd0.heap.size, 2, none⟩) (blk_set_ne (p := ⟨wd0.heap.size, 1, none⟩) (blk_set_ne (p := ⟨wd0.heap.size, 0, none⟩) q3.out (by show w.heap.size ≠ wd0.heap.size; omega) _) (by show w.heap.size ≠ wd0.heap.size; omega) _) (by show w.heap.size ≠ wd0.heap.size; omega) _)⟩, ⟨(((HB3.out.setCell (p := ⟨wd0.heap.size, 0, none⟩) (by show w.heap.size ≤ wd0.heap.size; omega) _).setCell (p := ⟨wd0.heap.size, 1, none⟩) (by show w.heap.size ≤ wd0.heap.size; omega) _).setCell (p := ⟨wd0.heap.size, 2, none⟩) (by show w.heap.size ≤ wd0.heap.size; omega) _)⟩, ⟨(blk_set (blk_set (blk_set BS.out 0 _) 1 _) 2 _).trans rfl⟩, ⟨(blk_set_ne (p := ⟨wd0.heap.size, 2, none⟩) (blk_set_ne (p := ⟨wd0.heap.size, 1, none⟩) (blk_set_ne (p := ⟨wd0.heap.size, 0, none⟩) BD.out (by show wd31.heap.size ≠ wd0.heap.size; omega) _) (by show wd31.heap.size ≠ wd0.heap.size; omega) _) (by show wd31.heap.size ≠ wd0.heap.size; omega) _)⟩, (by simp [World.setCell])⟩ (sx_of0 ((ButB.set (ButB.set (ButB.set (And.left hHeld) (p := ⟨wd0.heap.size, 0, none⟩) (by first | (left; simp; done) | (right; show w3.heap.size ≤ wd0.heap.size; omega)) _) (p := ⟨wd0.heap.size, 1, none⟩) (by first | (left; simp; done) | (right; show w3.heap.size ≤ wd0.heap.size; omega)) _) (p := ⟨wd0.heap.size, 2, none⟩) (by first | (left; simp; done) | (right; show w3.heap.size ≤ wd0.heap.size; omega)) _))) (fun wd33 hRn hHn => ?_)
          clear hK K hHeld p3 q3 HB3 BS BD sd0 sf0 sd1 sf1 sd2 sf2 sl
          obtain ⟨p3, q3, HB3, BS, BD, hsz33⟩ := hRn
          have hHeld := hHn
          clear hHn
          try simp only [Act.put, List.setIfInBounds_toArray, List.set_cons_zero, List.set_cons_succ]
          refine wpAnyH_ready (rs := [7]) (by kernel_rfl) (by simp) ?_
          refine (AllReadyH.cons (o := ⟨_, _, _, _, _, _⟩) rfl (fun K hK => ?_) AllReadyH.nil)
          have sd0 : wd33.cell? ⟨wd31.heap.size, 0, none⟩ = some (.int .i64 0) := (cell_blk BD.out 0).trans rfl
          have sf0 : wd33.frozen? ⟨wd31.heap.size, 0, none⟩ = false := frozen_blk BD.out 0
          have sd1 : wd33.cell? ⟨wd31.heap.size, 1, none⟩ = some (.slice none 0 0) := (cell_blk BD.out 1).trans rfl
          have sf1 : wd33.frozen? ⟨wd31.heap.size, 1, none⟩ = false := frozen_blk BD.out 1
          have sd2 : wd33.cell? ⟨wd31.heap.size, 2, none⟩ = some (.int .i64 0) := (cell_blk BD.out 2).trans rfl
          have sf2 : wd33.frozen? ⟨wd31.heap.size, 2, none⟩ = false := frozen_blk BD.out 2
          have sl := blk_lt BD.out
          go_simp
          try go_wp2_with fail
          refine out_gen hK _ _ (fun wz : World => Kp (wz.heap[w1.heap.size]? = some (.cells #[.int .i64 0, .slice none 0 0, .int .i64 0] 79 (0, 0))) ∧ Kp (wz.heap[w.heap.size]? = some (.cells #[.slice pa C.parts.length pc, .slice ca C.chans.length cc, .int .i64 C.l0, .slice a0 C.w0.length c0, .int .i64 C.l1, .slice a1 C.w1.length c1] 29 (0, 0))) ∧ Kp (Below w.heap.size w wz) ∧ Kp (wz.heap[wd0.heap.size]? = some (.cells #[.int .i64 0, .slice v3 0 c3, .int .i64 0] 79 (0, 0))) ∧ Kp (wz.heap[wd31.heap.size]? = some (.cells #[.int .i64 0, .slice v4 0 c4, .int .i64 0] 79 (0, 0))) ∧ wd33.heap.size ≤ wz.heap.size) ⟨⟨(blk_set_ne (p := ⟨wd31.heap.size, 2, none⟩) (blk_set_ne (p := ⟨wd31.heap.size, 1, none⟩) (blk_set_ne (p := ⟨wd31.heap.size, 0, none⟩) p3.out (by show w1.heap.size ≠ wd31.heap.size; omega) _) (by show w1.heap.size ≠ wd31.heap.size; omega) _) (by show w1.heap.size ≠ wd31.heap.size; omega) _)⟩, ⟨(blk_set_ne (p := ⟨wd31.heap.size, 2, none⟩) (blk_set_ne (p := ⟨wd31.heap.size, 1, none⟩) (blk_set_ne (p := ⟨wd31.heap.size, 0, none⟩) q3.out (by show w.heap.size ≠ wd31.heap.size; omega) _) (by show w.heap.size ≠ wd31.heap.size; omega) _) (by show w.heap.size ≠ wd31.heap.size; omega) _)⟩, ⟨(((HB3.out.setCell (p := ⟨wd31.heap.size, 0, none⟩) (by show w.heap.size ≤ wd31.heap.size; omega) _).setCell (p := ⟨wd31.heap.size, 1, none⟩) (by show w.heap.size ≤ wd31.heap.size; omega) _).setCell (p := ⟨wd31.heap.size, 2, none⟩) (by show w.heap.size ≤ wd31.heap.size; omega) _)⟩, ⟨(blk_set_ne (p := ⟨wd31.heap.size, 2, none⟩) (blk_set_ne (p := ⟨wd31.heap.size, 1, none⟩) (blk_set_ne (p := ⟨wd31.heap.size, 0, none⟩) BS.out (by show wd0.heap.size ≠ wd31.heap.size; omega) _) (by show wd0.heap.size ≠ wd31.heap.size; omega) _) (by show wd0.heap.size ≠ wd31.heap.size; omega) _)⟩, ⟨(blk_set (blk_set (blk_set BD.out 0 _) 1 _) 2 _).trans rfl⟩, (by simp [World.setCell])⟩ (sx_of0 ((ButB.set (ButB.set (ButB.set (And.left hHeld) (p := ⟨wd31.heap.size, 0, none⟩) (by first | (left; simp; done) | (right; show w3.heap.size ≤ wd31.heap.size; omega)) _) (p := ⟨wd31.heap.size, 1, none⟩) (by first | (left; simp; done) | (right; show w3.heap.size ≤ wd31.heap.size; omega)) _) (p := ⟨wd31.heap.size, 2, none⟩) (by first | (left; simp; done) | (right; show w3.heap.size ≤ wd31.heap.size; omega)) _))) (fun wd34 hRn hHn => ?_)
          clear hK K hHeld p3 q3 HB3 BS BD sd0 sf0 sd1 sf1 sd2 sf2 sl
          obtain ⟨p3, q3, HB3, BS, BD, hsz34⟩ := hRn
          have hHeld := hHn
          clear hHn
          try simp only [Act.put, List.setIfInBounds_toArray, List.set_cons_zero, List.set_cons_succ]
          refine wpAnyH_done (by kernel_rfl) ?_ _
          go_wp2_with fail
          go_meet
          exact ⟨_, _, v3, c3, rfl, rfl, HB3, BS⟩
        · have ge_BD : w3.heap.size ≤ wd30.heap.size := (And.left hHeld).size
          go_simp
          try go_wp2_with fail
          refine out_gen hK _ _ (fun wz : World => Kp (wz.heap[w1.heap.size]? = some (.cells #[.int .i64 0, .slice none 0 0, .int .i64 0] 79 (0, 0))) ∧ Kp (wz.heap[w.heap.size]? = some (.cells #[.slice pa C.parts.length pc, .slice ca C.chans.length cc, .int .i64 C.l0, .slice a0 C.w0.length c0, .int .i64 C.l1, .slice a1 C.w1.length c1] 29 (0, 0))) ∧ Kp (Below w.heap.size w wz) ∧ Kp (wz.heap[wd0.heap.size]? = some (.cells #[.int .i64 0, .slice none 0 0, .int .i64 0] 79 (0, 0))) ∧ Kp (wz.heap[wd30.heap.size]? = some (.cells #[.int .i64 0, .slice none 0 0, .int .i64 0] 79 (0, 0))) ∧ wd30.heap.size < wz.heap.size) ⟨⟨blk_al p3.out _⟩, ⟨blk_al q3.out _⟩, ⟨below_al HB3.out _⟩, ⟨blk_al BS.out _⟩, ⟨blk_new wd30 _⟩, (by simp)⟩ (sx_of0 (ButB.al (And.left hHeld) _)) (fun wd35 hRn hHn => ?_)
          clear hK K hHeld p3 q3 HB3 BS
          obtain ⟨p3, q3, HB3, BS, BD, hsz35⟩ := hRn
          have hHeld := hHn
          clear hHn
          try simp only [Act.put, List.setIfInBounds_toArray, List.set_cons_zero, List.set_cons_succ]
          have lt_BD := blk_lt BD.out
          refine wpAnyH_ready (rs := [3]) (by kernel_rfl) (by simp) ?_
          refine (AllReadyH.cons (o := ⟨_, _, _, _, _, _⟩) rfl (fun K hK => ?_) AllReadyH.nil)
          go_simp
          go_at_call 57
          refine (chans_any 0 0 1 0 (.slice none 0 0) [] (by omega) (by omega) (by omega) rfl _ (no_row _ 0)).mono ?_
          rintro e w9 ⟨vv, rfl, hO, hb⟩
          obtain ⟨v4, c4, rfl, hx1, hx2⟩ := (RowAt.of_own hO).shape
          try go_wp2_with fail
          refine out_gen hK _ _ (fun wz : World => Kp (wz.heap[w1.heap.size]? = some (.cells #[.int .i64 0, .slice none 0 0, .int .i64 0] 79 (0, 0))) ∧ Kp (wz.heap[w.heap.size]? = some (.cells #[.slice pa C.parts.length pc, .slice ca C.chans.length cc, .int .i64 C.l0, .slice a0 C.w0.length c0, .int .i64 C.l1, .slice a1 C.w1.length c1] 29 (0, 0))) ∧ Kp (Below w.heap.size w wz) ∧ Kp (wz.heap[wd0.heap.size]? = some (.cells #[.int .i64 0, .slice none 0 0, .int .i64 0] 79 (0, 0))) ∧ Kp (wz.heap[wd30.heap.size]? = some (.cells #[.int .i64 0, .slice none 0 0, .int .i64 0] 79 (0, 0))) ∧ wd35.heap.size ≤ wz.heap.size) ⟨⟨blk_below p3.out hb⟩, ⟨blk_below q3.out hb⟩, ⟨below_call HB3.out hb⟩, ⟨blk_below BS.out hb⟩, ⟨blk_below BD.out hb⟩, hb.size⟩ (sx_of0 (ButB.call (And.left hHeld) hb)) (fun wd36 hRn hHn => ?_)
          clear hK K hHeld p3 q3 HB3 BS BD hO hb hx1 hx2
          obtain ⟨p3, q3, HB3, BS, BD, hsz36⟩ := hRn
          have hHeld := hHn
          clear hHn
          try simp only [Act.put, List.setIfInBounds_toArray, List.set_cons_zero, List.set_cons_succ]
          refine wpAnyH_ready (rs := [6]) (by kernel_rfl) (by simp) ?_
          refine (AllReadyH.cons (o := ⟨_, _, _, _, _, _⟩) rfl (fun K hK => ?_) AllReadyH.nil)
          have sd0 : wd36.cell? ⟨wd0.heap.size, 0, none⟩ = some (.int .i64 0) := (cell_blk BS.out 0).trans rfl
          have sf0 : wd36.frozen? ⟨wd0.heap.size, 0, none⟩ = false := frozen_blk BS.out 0
          have sd1 : wd36.cell? ⟨wd0.heap.size, 1, none⟩ = some (.slice none 0 0) := (cell_blk BS.out 1).trans rfl
          have sf1 : wd36.frozen? ⟨wd0.heap.size, 1, none⟩ = false := frozen_blk BS.out 1
          have sd2 : wd36.cell? ⟨wd0.heap.size, 2, none⟩ = some (.int .i64 0) := (cell_blk BS.out 2).trans rfl
          have sf2 : wd36.frozen? ⟨wd0.heap.size, 2, none⟩ = false := frozen_blk BS.out 2
          have sl := blk_lt BS.out
          go_simp
          try go_wp2_with fail
          refine out_gen hK _ _ (fun wz : World => Kp (wz.heap[w1.heap.size]? = some (.cells #[.int .i64 0, .slice none 0 0, .int .i64 0] 79 (0, 0))) ∧ Kp (wz.heap[w.heap.size]? = some (.cells #[.slice pa C.parts.length pc, .slice ca C.chans.length cc, .int .i64 C.l0, .slice a0 C.w0.length c0, .int .i64 C.l1, .slice a1 C.w1.length c1] 29 (0, 0))) ∧ Kp (Below w.heap.size w wz) ∧ Kp (wz.heap[wd0.heap.size]? = some (.cells #[.int .i64 0, .slice v3 0 c3, .int .i64 0] 79 (0, 0))) ∧ Kp (wz.heap[wd30.heap.size]? = some (.cells #[.int .i64 0, .slice none 0 0, .int .i64 0] 79 (0, 0))) ∧ wd36.heap.size ≤ wz.heap.size) ⟨⟨(blk_set_ne (p := ⟨wd0.heap.size, 2, none⟩) (blk_set_ne (p := ⟨wd0.heap.size, 1, none⟩) (blk_set_ne (p := ⟨wd0.heap.size, 0, none⟩) p3.out (by show w1.heap.size ≠ wd0.heap.size; omega) _) (by show w1.heap.size ≠ wd0.heap.size; omega) _) (by show w1.heap.size ≠ wd0.heap.size; omega) _)⟩, ⟨(blk_set_ne (p := ⟨wd0.heap.size, 2, none⟩) (blk_set_ne (p := ⟨wd0.heap.size, 1, none⟩) (blk_set_ne (p := ⟨wd0.heap.size, 0, none⟩) q3.out (by show w.heap.size ≠ wd0.heap.size; omega) _) (by show w.heap.size ≠ wd0.heap.size; omega) _) (by show w.heap.size ≠ wd0.heap.size; omega) _)⟩, ⟨(((HB3.out.setCell (p := ⟨wd0.heap.size, 0, none⟩) (by show w.heap.size ≤ wd0.heap.size; omega) _).setCell (p := ⟨wd0.heap.size, 1, none⟩) (by show w.heap.size ≤ wd0.heap.size; omega) _).setCell (p := ⟨wd0.heap.size, 2, none⟩) (by show w.heap.size ≤ wd0.heap.size; omega) _)⟩, ⟨(blk_set (blk_set (blk_set BS.out 0 _) 1 _) 2 _).trans rfl⟩, ⟨(blk_set_ne (p := ⟨wd0.heap.size, 2, none⟩) (blk_set_ne (p := ⟨wd0.heap.size, 1, none⟩) (blk_set_ne (p := ⟨wd0.heap.size, 0, none⟩) BD.out (by show wd30.heap.size ≠ wd0.heap.size; omega) _) (by show wd30.heap.size ≠ wd0.heap.size; omega) _) (by show wd30.heap.size ≠ wd0.heap.size; omega) _)⟩, (by simp [World.setCell])⟩ (sx_of0 ((ButB.set (ButB.set (ButB.set (And.left hHeld) (p := ⟨wd0.heap.size, 0, none⟩) (by first | (left; simp; done) | (right; show w3.heap.size ≤ wd0.heap.size; omega)) _) (p := ⟨wd0.heap.size, 1, none⟩) (by first | (left; simp; done) | (right; show w3.heap.size ≤ wd0.heap.size; omega)) _) (p := ⟨wd0.heap.size, 2, none⟩) (by first | (left; simp; done) | (right; show w3.heap.size ≤ wd0.heap.size; omega)) _))) (fun wd37 hRn hHn => ?_)
          clear hK K hHeld p3 q3 HB3 BS BD sd0 sf0 sd1 sf1 sd2 sf2 sl
          obtain ⟨p3, q3, HB3, BS, BD, hsz37⟩ := hRn
          have hHeld := hHn
          clear hHn
          try simp only [Act.put, List.setIfInBounds_toArray, List.set_cons_zero, List.set_cons_succ]
          refine wpAnyH_ready (rs := [7]) (by kernel_rfl) (by simp) ?_
          refine (AllReadyH.cons (o := ⟨_, _, _, _, _, _⟩) rfl (fun K hK => ?_) AllReadyH.nil)
          have sd0 : wd37.cell? ⟨wd30.heap.size, 0, none⟩ = some (.int .i64 0) := (cell_blk BD.out 0).trans rfl
          have sf0 : wd37.frozen? ⟨wd30.heap.size, 0, none⟩ = false := frozen_blk BD.out 0
          have sd1 : wd37.cell? ⟨wd30.heap.size, 1, none⟩ = some (.slice none 0 0) := (cell_blk BD.out 1).trans rfl
          have sf1 : wd37.frozen? ⟨wd30.heap.size, 1, none⟩ = false := frozen_blk BD.out 1
          have sd2 : wd37.cell? ⟨wd30.heap.size, 2, none⟩ = some (.int .i64 0) := (cell_blk BD.out 2).trans rfl
          have sf2 : wd37.frozen? ⟨wd30.heap.size, 2, none⟩ = false := frozen_blk BD.out 2
          have sl := blk_lt BD.out
          go_simp
          try go_wp2_with fail
          refine out_gen hK _ _ (fun wz : World => Kp (wz.heap[w1.heap.size]? = some (.cells #[.int .i64 0, .slice none 0 0, .int .i64 0] 79 (0, 0))) ∧ Kp (wz.heap[w.heap.size]? = some (.cells #[.slice pa C.parts.length pc, .slice ca C.chans.length cc, .int .i64 C.l0, .slice a0 C.w0.length c0, .int .i64 C.l1, .slice a1 C.w1.length c1] 29 (0, 0))) ∧ Kp (Below w.heap.size w wz) ∧ Kp (wz.heap[wd0.heap.size]? = some (.cells #[.int .i64 0, .slice v3 0 c3, .int .i64 0] 79 (0, 0))) ∧ Kp (wz.heap[wd30.heap.size]? = some (.cells #[.int .i64 0, .slice v4 0 c4, .int .i64 0] 79 (0, 0))) ∧ wd37.heap.size ≤ wz.heap.size) ⟨⟨(blk_set_ne (p := ⟨wd30.heap.size, 2, none⟩) (blk_set_ne (p := ⟨wd30.heap.size, 1, none⟩) (blk_set_ne (p := ⟨wd30.heap.size, 0, none⟩) p3.out (by show w1.heap.size ≠ wd30.heap.size; omega) _) (by show w1.heap.size ≠ wd30.heap.size; omega) _) (by show w1.heap.size ≠ wd30.heap.size; omega) _)⟩, ⟨(blk_set_ne (p := ⟨wd30.heap.size, 2, none⟩) (blk_set_ne (p := ⟨wd30.heap.size, 1, none⟩) (blk_set_ne (p := ⟨wd30.heap.size, 0, none⟩) q3.out (by show w.heap.size ≠ wd30.heap.size; omega) _) (by show w.heap.size ≠ wd30.heap.size; omega) _) (by show w.heap.size ≠ wd30.heap.size; omega) _)⟩, ⟨(((HB3.out.setCell (p := ⟨wd30.heap.size, 0, none⟩) (by show w.heap.size ≤ wd30.heap.size; omega) _).setCell (p := ⟨wd30.heap.size, 1, none⟩) (by show w.heap.size ≤ wd30.heap.size; omega) _).setCell (p := ⟨wd30.heap.size, 2, none⟩) (by show w.heap.size ≤ wd30.heap.size; omega) _)⟩, ⟨(blk_set_ne (p := ⟨wd30.heap.size, 2, none⟩) (blk_set_ne (p := ⟨wd30.heap.size, 1, none⟩) (blk_set_ne (p := ⟨wd30.heap.size, 0, none⟩) BS.out (by show wd0.heap.size ≠ wd30.heap.size; omega) _) (by show wd0.heap.size ≠ wd30.heap.size; omega) _) (by show wd0.heap.size ≠ wd30.heap.size; omega) _)⟩, ⟨(blk_set (blk_set (blk_set BD.out 0 _) 1 _) 2 _).trans rfl⟩, (by simp [World.setCell])⟩ (sx_of0 ((ButB.set (ButB.set (ButB.set (And.left hHeld) (p := ⟨wd30.heap.size, 0, none⟩) (by first | (left; simp; done) | (right; show w3.heap.size ≤ wd30.heap.size; omega)) _) (p := ⟨wd30.heap.size, 1, none⟩) (by first | (left; simp; done) | (right; show w3.heap.size ≤ wd30.heap.size; omega)) _) (p := ⟨wd30.heap.size, 2, none⟩) (by first | (left; simp; done) | (right; show w3.heap.size ≤ wd30.heap.size; omega)) _))) (fun wd38 hRn hHn => ?_)
          clear hK K hHeld p3 q3 HB3 BS BD sd0 sf0 sd1 sf1 sd2 sf2 sl
          obtain ⟨p3, q3, HB3, BS, BD, hsz38⟩ := hRn
          have hHeld := hHn
          clear hHn
          try simp only [Act.put, List.setIfInBounds_toArray, List.set_cons_zero, List.set_cons_succ]
          refine wpAnyH_done (by kernel_rfl) ?_ _
          go_wp2_with fail
          go_meet
          exact ⟨_, _, v3, c3, rfl, rfl, HB3, BS⟩
      · have ge_BD : w3.heap.size ≤ wd29.heap.size := (And.left hHeld).size
        go_simp
        try go_wp2_with fail
        refine out_gen hK _ _ (fun wz : World => Kp (wz.heap[w1.heap.size]? = some (.cells #[.int .i64 0, .slice none 0 0, .int .i64 0] 79 (0, 0))) ∧ Kp (wz.heap[w.heap.size]? = some (.cells #[.slice pa C.parts.length pc, .slice ca C.chans.length cc, .int .i64 C.l0, .slice a0 C.w0.length c0, .int .i64 C.l1, .slice a1 C.w1.length c1] 29 (0, 0))) ∧ Kp (Below w.heap.size w wz) ∧ Kp (wz.heap[wd0.heap.size]? = some (.cells #[.int .i64 0, .slice none 0 0, .int .i64 0] 79 (0, 0))) ∧ Kp (wz.heap[wd29.heap.size]? = some (.cells #[.int .i64 0, .slice none 0 0, .int .i64 0] 79 (0, 0))) ∧ wd29.heap.size < wz.heap.size) ⟨⟨blk_al p3.out _⟩, ⟨blk_al q3.out _⟩, ⟨below_al HB3.out _⟩, ⟨blk_al BS.out _⟩, ⟨blk_new wd29 _⟩, (by simp)⟩ (sx_of0 (ButB.al (And.left hHeld) _)) (fun wd39 hRn hHn => ?_)
        clear hK K hHeld p3 q3 HB3 BS
        obtain ⟨p3, q3, HB3, BS, BD, hsz39⟩ := hRn
        have hHeld := hHn
        clear hHn
        try simp only [Act.put, List.setIfInBounds_toArray, List.set_cons_zero, List.set_cons_succ]
        have lt_BD := blk_lt BD.out
        refine wpAnyH_ready (rs := [1]) (by kernel_rfl) (by simp) ?_
        refine (AllReadyH.cons (o := ⟨_, _, _, _, _, _⟩) rfl (fun K hK => ?_) AllReadyH.nil)
        go_simp
        go_at_call 57
        refine (chans_any 0 0 0 0 (.slice none 0 0) [] (by omega) (by omega) (by omega) rfl _ (no_row _ 0)).mono ?_
        rintro e w9 ⟨vv, rfl, hO, hb⟩
        obtain ⟨v3, c3, rfl, hx1, hx2⟩ := (RowAt.of_own hO).shape
        try go_wp2_with fail
        refine out_gen hK _ _ (fun wz : World => Kp (wz.heap[w1.heap.size]? = some (.cells #[.int .i64 0, .slice none 0 0, .int .i64 0] 79 (0, 0))) ∧ Kp (wz.heap[w.heap.size]? = some (.cells #[.slice pa C.parts.length pc, .slice ca C.chans.length cc, .int .i64 C.l0, .slice a0 C.w0.length c0, .int .i64 C.l1, .slice a1 C.w1.length c1] 29 (0, 0))) ∧ Kp (Below w.heap.size w wz) ∧ Kp (wz.heap[wd0.heap.size]? = some (.cells #[.int .i64 0, .slice none 0 0, .int .i64 0] 79 (0, 0))) ∧ Kp (wz.heap[wd29.heap.size]? = some (.cells #[.int .i64 0, .slice none 0 0, .int .i64 0] 79 (0, 0))) ∧ wd39.heap.size ≤ wz.heap.size) ⟨⟨blk_below p3.out hb⟩, ⟨blk_below q3.out hb⟩, ⟨below_call HB3.out hb⟩, ⟨blk_below BS.out hb⟩, ⟨blk_below BD.out hb⟩, hb.size⟩ (sx_of0 (ButB.call (And.left hHeld) hb)) (fun wd40 hRn hHn => ?_)
        clear hK K hHeld p3 q3 HB3 BS BD hO hb hx1 hx2
        obtain ⟨p3, q3, HB3, BS, BD, hsz40⟩ := hRn
        have hHeld := hHn
        clear hHn
        try simp only [Act.put, List.setIfInBounds_toArray, List.set_cons_zero, List.set_cons_succ]
        refine wpAnyH_ready (rs := [3]) (by kernel_rfl) (by simp) ?_
        refine (AllReadyH.cons (o := ⟨_, _, _, _, _, _⟩) rfl (fun K hK => ?_) AllReadyH.nil)
        go_simp
        go_at_call 57
        refine (chans_any 0 0 1 0 (.slice none 0 0) [] (by omega) (by omega) (by omega) rfl _ (no_row _ 0)).mono ?_
        rintro e w9 ⟨vv, rfl, hO, hb⟩
        obtain ⟨v4, c4, rfl, hx1, hx2⟩ := (RowAt.of_own hO).shape
        try go_wp2_with fail
        refine out_gen hK _ _ (fun wz : World => Kp (wz.heap[w1.heap.size]? = some (.cells #[.int .i64 0, .slice none 0 0, .int .i64 0] 79 (0, 0))) ∧ Kp (wz.heap[w.heap.size]? = some (.cells #[.slice pa C.parts.length pc, .slice ca C.chans.length cc, .int .i64 C.l0, .slice a0 C.w0.length c0, .int .i64 C.l1, .slice a1 C.w1.length c1] 29 (0, 0))) ∧ Kp (Below w.heap.size w wz) ∧ Kp (wz.heap[wd0.heap.size]? = some (.cells #[.int .i64 0, .slice none 0 0, .int .i64 0] 79 (0, 0))) ∧ Kp (wz.heap[wd29.heap.size]? = some (.cells #[.int .i64 0, .slice none 0 0, .int .i64 0] 79 (0, 0))) ∧ wd40.heap.size ≤ wz.heap.size) ⟨⟨blk_below p3.out hb⟩, ⟨blk_below q3.out hb⟩, ⟨below_call HB3.out hb⟩, ⟨blk_below BS.out hb⟩, ⟨blk_below BD.out hb⟩, hb.size⟩ (sx_of0 (ButB.call (And.left hHeld) hb)) (fun wd41 hRn hHn => ?_)
        clear hK K hHeld p3 q3 HB3 BS BD hO hb hx1 hx2
        obtain ⟨p3, q3, HB3, BS, BD, hsz41⟩ := hRn
        have hHeld := hHn
        clear hHn
        try simp only [Act.put, List.setIfInBounds_toArray, List.set_cons_zero, List.set_cons_succ]
        refine wpAnyH_ready (rs := [6]) (by kernel_rfl) (by simp) ?_
        refine (AllReadyH.cons (o := ⟨_, _, _, _, _, _⟩) rfl (fun K hK => ?_) AllReadyH.nil)
        have sd0 : wd41.cell? ⟨wd0.heap.size, 0, none⟩ = some (.int .i64 0) := (cell_blk BS.out 0).trans rfl
        have sf0 : wd41.frozen? ⟨wd0.heap.size, 0, none⟩ = false := frozen_blk BS.out 0
        have sd1 : wd41.cell? ⟨wd0.heap.size, 1, none⟩ = some (.slice none 0 0) := (cell_blk BS.out 1).trans rfl
        have sf1 : wd41.frozen? ⟨wd0.heap.size, 1, none⟩ = false := frozen_blk BS.out 1
        have sd2 : wd41.cell? ⟨wd0.heap.size, 2, none⟩ = some (.int .i64 0) := (cell_blk BS.out 2).trans rfl
        have sf2 : wd41.frozen? ⟨wd0.heap.size, 2, none⟩ = false := frozen_blk BS.out 2
        have sl := blk_lt BS.out
        go_simp
        try go_wp2_with fail
        refine out_gen hK _ _ (fun wz : World => Kp (wz.heap[w1.heap.size]? = some (.cells #[.int .i64 0, .slice none 0 0, .int .i64 0] 79 (0, 0))) ∧ Kp (wz.heap[w.heap.size]? = some (.cells #[.slice pa C.parts.length pc, .slice ca C.chans.length cc, .int .i64 C.l0, .slice a0 C.w0.length c0, .int .i64 C.l1, .slice a1 C.w1.length c1] 29 (0, 0))) ∧ Kp (Below w.heap.size w wz) ∧ Kp (wz.heap[wd0.heap.size]? = some (.cells #[.int .i64 0, .slice v3 0 c3, .int .i64 0] 79 (0, 0))) ∧ Kp (wz.heap[wd29.heap.size]? = some (.cells #[.int .i64 0, .slice none 0 0, .int .i64 0] 79 (0, 0))) ∧ wd41.heap.size ≤ wz.heap.size) ⟨⟨(blk_set_ne (p := ⟨wd0.heap.size, 2, none⟩) (blk_set_ne (p := ⟨wd0.heap.size, 1, none⟩) (blk_set_ne (p := ⟨wd0.heap.size, 0, none⟩) p3.out (by show w1.heap.size ≠ wd0.heap.size; omega) _) (by show w1.heap.size ≠ wd0.heap.size; omega) _) (by show w1.heap.size ≠ wd0.heap.size; omega) _)⟩, ⟨(blk_set_ne (p := ⟨wd0.heap.size, 2, none⟩) (blk_set_ne (p := ⟨wd0.heap.size, 1, none⟩) (blk_set_ne (p := ⟨wd0.heap.size, 0, none⟩) q3.out (by show w.heap.size ≠ wd0.heap.size; omega) _) (by show w.heap.size ≠ wd0.heap.size; omega) _) (by show w.heap.size ≠ wd0.heap.size; omega) _)⟩, ⟨(((HB3.out.setCell (p := ⟨wd0.heap.size, 0, none⟩) (by show w.heap.size ≤ wd0.heap.size; omega) _).setCell (p := ⟨wd0.heap.size, 1, none⟩) (by show w.heap.size ≤ wd0.heap.size; omega) _).setCell (p := ⟨wd0.heap.size, 2, none⟩) (by show w.heap.size ≤ wd0.heap.size; omega) _)⟩, ⟨(blk_set (blk_set (blk_set BS.out 0 _) 1 _) 2 _).trans rfl⟩, ⟨(blk_set_ne (p := ⟨wd0.heap.size, 2, none⟩) (blk_set_ne (p := ⟨wd0.heap.size, 1, none⟩) (blk_set_ne (p := ⟨wd0.heap.size, 0, none⟩) BD.out (by show wd29.heap.size ≠ wd0.heap.size; omega) _) (by show wd29.heap.size ≠ wd0.heap.size; omega) _) (by show wd29.heap.size ≠ wd0.heap.size; omega) _)⟩, (by simp [World.setCell])⟩ (sx_of0 ((ButB.set (ButB.set (ButB.set (And.left hHeld) (p := ⟨wd0.heap.size, 0, none⟩) (by first | (left; simp; done) | (right; show w3.heap.size ≤ wd0.heap.size; omega)) _) (p := ⟨wd0.heap.size, 1, none⟩) (by first | (left; simp; done) | (right; show w3.heap.size ≤ wd0.heap.size; omega)) _) (p := ⟨wd0.heap.size, 2, none⟩) (by first | (left; simp; done) | (right; show w3.heap.size ≤ wd0.heap.size; omega)) _))) (fun wd42 hRn hHn => ?_)
        clear hK K hHeld p3 q3 HB3 BS BD sd0 sf0 sd1 sf1 sd2 sf2 sl
        obtain ⟨p3, q3, HB3, BS, BD, hsz42⟩ := hRn
        have hHeld := hHn
        clear hHn
        try simp only [Act.put, List.setIfInBounds_toArray, List.set_cons_zero, List.set_cons_succ]
        refine wpAnyH_ready (rs := [7]) (by kernel_rfl) (by simp) ?_
        refine (AllReadyH.cons (o := ⟨_, _, _, _, _, _⟩) rfl (fun K hK => ?_) AllReadyH.nil)
        have sd0 : wd42.cell? ⟨wd29.heap.size, 0, none⟩ = some (.int .i64 0) := (cell_blk BD.out 0).trans rfl
        have sf0 : wd42.frozen? ⟨wd29.heap.size, 0, none⟩ = false := frozen_blk BD.out 0
        have sd1 : wd42.cell? ⟨wd29.heap.size, 1, none⟩ = some (.slice none 0 0) := (cell_blk BD.out 1).trans rfl
        have sf1 : wd42.frozen? ⟨wd29.heap.size, 1, none⟩ = false := frozen_blk BD.out 1
        have sd2 : wd42.cell? ⟨wd29.heap.size, 2, none⟩ = some (.int .i64 0) := (cell_blk BD.out 2).trans rfl
        have sf2 : wd42.frozen? ⟨wd29.heap.size, 2, none⟩ = false := frozen_blk BD.out 2
        have sl := blk_lt BD.out
        go_simp
        try go_wp2_with fail
        refine out_gen hK _ _ (fun wz : World => Kp (wz.heap[w1.heap.size]? = some (.cells #[.int .i64 0, .slice none 0 0, .int .i64 0] 79 (0, 0))) ∧ Kp (wz.heap[w.heap.size]? = some (.cells #[.slice pa C.parts.length pc, .slice ca C.chans.length cc, .int .i64 C.l0, .slice a0 C.w0.length c0, .int .i64 C.l1, .slice a1 C.w1.length c1] 29 (0, 0))) ∧ Kp (Below w.heap.size w wz) ∧ Kp (wz.heap[wd0.heap.size]? = some (.cells #[.int .i64 0, .slice v3 0 c3, .int .i64 0] 79 (0, 0))) ∧ Kp (wz.heap[wd29.heap.size]? = some (.cells #[.int .i64 0, .slice v4 0 c4, .int .i64 0] 79 (0, 0))) ∧ wd42.heap.size ≤ wz.heap.size) ⟨⟨(blk_set_ne (p := ⟨wd29.heap.size, 2, none⟩) (blk_set_ne (p := ⟨wd29.heap.size, 1, none⟩) (blk_set_ne (p := ⟨wd29.heap.size, 0, none⟩) p3.out (by show w1.heap.size ≠ wd29.heap.size; omega) _) (by show w1.heap.size ≠ wd29.heap.size; omega) _) (by show w1.heap.size ≠ wd29.heap.size; omega) _)⟩, ⟨(blk_set_ne (p := ⟨wd29.heap.size, 2, none⟩) (blk_set_ne (p := ⟨wd29.heap.size, 1, none⟩) (blk_set_ne (p := ⟨wd29.heap.size, 0, none⟩) q3.out (by show w.heap.size ≠ wd29.heap.size; omega) _) (by show w.heap.size ≠ wd29.heap.size; omega) _) (by show w.heap.size ≠ wd29.heap.size; omega) _)⟩, ⟨(((HB3.out.setCell (p := ⟨wd29.heap.size, 0, none⟩) (by show w.heap.size ≤ wd29.heap.size; omega) _).setCell (p := ⟨wd29.heap.size, 1, none⟩) (by show w.heap.size ≤ wd29.heap.size; omega) _).setCell (p := ⟨wd29.heap.size, 2, none⟩) (by show w.heap.size ≤ wd29.heap.size; omega) _)⟩, ⟨(blk_set_ne (p := ⟨wd29.heap.size, 2, none⟩) (blk_set_ne (p := ⟨wd29.heap.size, 1, none⟩) (blk_set_ne (p := ⟨wd29.heap.size, 0, none⟩) BS.out (by show wd0.heap.size ≠ wd29.heap.size; omega) _) (by show wd0.heap.size ≠ wd29.heap.size; omega) _) (by show wd0.heap.size ≠ wd29.heap.size; omega) _)⟩, ⟨(blk_set (blk_set (blk_set BD.out 0 _) 1 _) 2 _).trans rfl⟩, (by simp [World.setCell])⟩ (sx_of0 ((ButB.set (ButB.set (ButB.set (And.left hHeld) (p := ⟨wd29.heap.size, 0, none⟩) (by first | (left; simp; done) | (right; show w3.heap.size ≤ wd29.heap.size; omega)) _) (p := ⟨wd29.heap.size, 1, none⟩) (by first | (left; simp; done) | (right; show w3.heap.size ≤ wd29.heap.size; omega)) _) (p := ⟨wd29.heap.size, 2, none⟩) (by first | (left; simp; done) | (right; show w3.heap.size ≤ wd29.heap.size; omega)) _))) (fun wd43 hRn hHn => ?_)
        clear hK K hHeld p3 q3 HB3 BS BD sd0 sf0 sd1 sf1 sd2 sf2 sl
        obtain ⟨p3, q3, HB3, BS, BD, hsz43⟩ := hRn
        have hHeld := hHn
        clear hHn
        try simp only [Act.put, List.setIfInBounds_toArray, List.set_cons_zero, List.set_cons_succ]
        refine wpAnyH_done (by kernel_rfl) ?_ _
        go_wp2_with fail
        go_meet
        exact ⟨_, _, v3, c3, rfl, rfl, HB3, BS⟩
    · have ge_BD : w3.heap.size ≤ wd0.heap.size := (And.left hHeld).size
      go_simp
      try go_wp2_with fail
      refine out_gen hK _ _ (fun wz : World => Kp (wz.heap[w1.heap.size]? = some (.cells #[.int .i64 0, .slice none 0 0, .int .i64 0] 79 (0, 0))) ∧ Kp (wz.heap[w.heap.size]? = some (.cells #[.slice pa C.parts.length pc, .slice ca C.chans.length cc, .int .i64 C.l0, .slice a0 C.w0.length c0, .int .i64 C.l1, .slice a1 C.w1.length c1] 29 (0, 0))) ∧ Kp (Below w.heap.size w wz) ∧ Kp (wz.heap[wd0.heap.size]? = some (.cells #[.int .i64 0, .slice none 0 0, .int .i64 0] 79 (0, 0))) ∧ wd0.heap.size < wz.heap.size) ⟨⟨blk_al p3.out _⟩, ⟨blk_al q3.out _⟩, ⟨below_al HB3.out _⟩, ⟨blk_new wd0 _⟩, (by simp)⟩ (sx_of0 (ButB.al (And.left hHeld) _)) (fun wd44 hRn hHn => ?_)
      clear hK K hHeld p3 q3 HB3
      obtain ⟨p3, q3, HB3, BD, hsz44⟩ := hRn
      have hHeld := hHn
      clear hHn
      try simp only [Act.put, List.setIfInBounds_toArray, List.set_cons_zero, List.set_cons_succ]
      have lt_BD := blk_lt BD.out
      refine wpAnyH_ready (rs := [1, 4]) (by kernel_rfl) (by simp) ?_
      refine (AllReadyH.cons (o := ⟨_, _, _, _, _, _⟩) rfl (fun K hK => ?_) (AllReadyH.cons (o := ⟨_, _, _, _, _, _⟩) rfl (fun K hK => ?_) AllReadyH.nil))
      · go_simp
        go_at_call 57
        refine (chans_any 0 0 0 0 (.slice none 0 0) [] (by omega) (by omega) (by omega) rfl _ (no_row _ 0)).mono ?_
        rintro e w9 ⟨vv, rfl, hO, hb⟩
        obtain ⟨v3, c3, rfl, hx1, hx2⟩ := (RowAt.of_own hO).shape
        try go_wp2_with fail
        refine out_gen hK _ _ (fun wz : World => Kp (wz.heap[w1.heap.size]? = some (.cells #[.int .i64 0, .slice none 0 0, .int .i64 0] 79 (0, 0))) ∧ Kp (wz.heap[w.heap.size]? = some (.cells #[.slice pa C.parts.length pc, .slice ca C.chans.length cc, .int .i64 C.l0, .slice a0 C.w0.length c0, .int .i64 C.l1, .slice a1 C.w1.length c1] 29 (0, 0))) ∧ Kp (Below w.heap.size w wz) ∧ Kp (wz.heap[wd0.heap.size]? = some (.cells #[.int .i64 0, .slice none 0 0, .int .i64 0] 79 (0, 0))) ∧ wd44.heap.size ≤ wz.heap.size) ⟨⟨blk_below p3.out hb⟩, ⟨blk_below q3.out hb⟩, ⟨below_call HB3.out hb⟩, ⟨blk_below BD.out hb⟩, hb.size⟩ (sx_of0 (ButB.call (And.left hHeld) hb)) (fun wd45 hRn hHn => ?_)
        clear hK K hHeld p3 q3 HB3 BD hO hb hx1 hx2
        obtain ⟨p3, q3, HB3, BD, hsz45⟩ := hRn
        have hHeld := hHn
        clear hHn
        try simp only [Act.put, List.setIfInBounds_toArray, List.set_cons_zero, List.set_cons_succ]
        refine wpAnyH_ready (rs := [3, 4]) (by kernel_rfl) (by simp) ?_
        refine (AllReadyH.cons (o := ⟨_, _, _, _, _, _⟩) rfl (fun K hK => ?_) (AllReadyH.cons (o := ⟨_, _, _, _, _, _⟩) rfl (fun K hK => ?_) AllReadyH.nil))
        · go_simp
          go_at_call 57
          refine (chans_any 0 0 1 0 (.slice none 0 0) [] (by omega) (by omega) (by omega) rfl _ (no_row _ 0)).mono ?_
          rintro e w9 ⟨vv, rfl, hO, hb⟩
          obtain ⟨v4, c4, rfl, hx1, hx2⟩ := (RowAt.of_own hO).shape
          try go_wp2_with fail
          refine out_gen hK _ _ (fun wz : World => Kp (wz.heap[w1.heap.size]? = some (.cells #[.int .i64 0, .slice none 0 0, .int .i64 0] 79 (0, 0))) ∧ Kp (wz.heap[w.heap.size]? = some (.cells #[.slice pa C.parts.length pc, .slice ca C.chans.length cc, .int .i64 C.l0, .slice a0 C.w0.length c0, .int .i64 C.l1, .slice a1 C.w1.length c1] 29 (0, 0))) ∧ Kp (Below w.heap.size w wz) ∧ Kp (wz.heap[wd0.heap.size]? = some (.cells #[.int .i64 0, .slice none 0 0, .int .i64 0] 79 (0, 0))) ∧ wd45.heap.size ≤ wz.heap.size) ⟨⟨blk_below p3.out hb⟩, ⟨blk_below q3.out hb⟩, ⟨below_call HB3.out hb⟩, ⟨blk_below BD.out hb⟩, hb.size⟩ (sx_of0 (ButB.call (And.left hHeld) hb)) (fun wd46 hRn hHn => ?_)
          clear hK K hHeld p3 q3 HB3 BD hO hb hx1 hx2
          obtain ⟨p3, q3, HB3, BD, hsz46⟩ := hRn
          have hHeld := hHn
          clear hHn
          try simp only [Act.put, List.setIfInBounds_toArray, List.set_cons_zero, List.set_cons_succ]
          refine wpAnyH_ready (rs := [4]) (by kernel_rfl) (by simp) ?_
          refine (AllReadyH.cons (o := ⟨_, _, _, _, _, _⟩) rfl (fun K hK => ?_) AllReadyH.nil)
          have ge_BS : w3.heap.size ≤ wd46.heap.size := (And.left hHeld).size
          go_simp
          try go_wp2_with fail
          refine out_gen hK _ _ (fun wz : World => Kp (wz.heap[w1.heap.size]? = some (.cells #[.int .i64 0, .slice none 0 0, .int .i64 0] 79 (0, 0))) ∧ Kp (wz.heap[w.heap.size]? = some (.cells #[.slice pa C.parts.length pc, .slice ca C.chans.length cc, .int .i64 C.l0, .slice a0 C.w0.length c0, .int .i64 C.l1, .slice a1 C.w1.length c1] 29 (0, 0))) ∧ Kp (Below w.heap.size w wz) ∧ Kp (wz.heap[wd0.heap.size]? = some (.cells #[.int .i64 0, .slice none 0 0, .int .i64 0] 79 (0, 0))) ∧ Kp (wz.heap[wd46.heap.size]? = some (.cells #[.int .i64 0, .slice none 0 0, .int .i64 0] 79 (0, 0))) ∧ wd46.heap.size < wz.heap.size) ⟨⟨blk_al p3.out _⟩, ⟨blk_al q3.out _⟩, ⟨below_al HB3.out _⟩, ⟨blk_al BD.out _⟩, ⟨blk_new wd46 _⟩, (by simp)⟩ (sx_of0 (ButB.al (And.left hHeld) _)) (fun wd47 hRn hHn => ?_)
          clear hK K hHeld p3 q3 HB3 BD
          obtain ⟨p3, q3, HB3, BD, BS, hsz47⟩ := hRn
          have hHeld := hHn
          clear hHn
          try simp only [Act.put, List.setIfInBounds_toArray, List.set_cons_zero, List.set_cons_succ]
          have lt_BS := blk_lt BS.out
          refine wpAnyH_ready (rs := [6]) (by kernel_rfl) (by simp) ?_
          refine (AllReadyH.cons (o := ⟨_, _, _, _, _, _⟩) rfl (fun K hK => ?_) AllReadyH.nil)
          have sd0 : wd47.cell? ⟨wd46.heap.size, 0, none⟩ = some (.int .i64 0) := (cell_blk BS.out 0).trans rfl
          have sf0 : wd47.frozen? ⟨wd46.heap.size, 0, none⟩ = false := frozen_blk BS.out 0
          have sd1 : wd47.cell? ⟨wd46.heap.size, 1, none⟩ = some (.slice none 0 0) := (cell_blk BS.out 1).trans rfl
          have sf1 : wd47.frozen? ⟨wd46.heap.size, 1, none⟩ = false := frozen_blk BS.out 1
          have sd2 : wd47.cell? ⟨wd46.heap.size, 2, none⟩ = some (.int .i64 0) := (cell_blk BS.out 2).trans rfl
          have sf2 : wd47.frozen? ⟨wd46.heap.size, 2, none⟩ = false := frozen_blk BS.out 2
          have sl := blk_lt BS.out
          go_simp
          try go_wp2_with fail
          refine out_gen hK _ _ (fun wz : World => Kp (wz.heap[w1.heap.size]? = some (.cells #[.int .i64 0, .slice none 0 0, .int .i64 0] 79 (0, 0))) ∧ Kp (wz.heap[w.heap.size]? = some (.cells #[.slice pa C.parts.length pc, .slice ca C.chans.length cc, .int .i64 C.l0, .slice a0 C.w0.length c0, .int .i64 C.l1, .slice a1 C.w1.length c1] 29 (0, 0))) ∧ Kp (Below w.heap.size w wz) ∧ Kp (wz.heap[wd0.heap.size]? = some (.cells #[.int .i64 0, .slice none 0 0, .int .i64 0] 79 (0, 0))) ∧ Kp (wz.heap[wd46.heap.size]? = some (.cells #[.int .i64 0, .slice v3 0 c3, .int .i64 0] 79 (0, 0))) ∧ wd47.heap.size ≤ wz.heap.size) ⟨⟨(blk_set_ne (p := ⟨wd46.heap.size, 2, none⟩) (blk_set_ne (p := ⟨wd46.heap.size, 1, none⟩) (blk_set_ne (p := ⟨wd46.heap.size, 0, none⟩) p3.out (by show w1.heap.size ≠ wd46.heap.size; omega) _) (by show w1.heap.size ≠ wd46.heap.size; omega) _) (by show w1.heap.size ≠ wd46.heap.size; omega) _)⟩, ⟨(blk_set_ne (p := ⟨wd46.heap.size, 2, none⟩) (blk_set_ne (p := ⟨wd46.heap.size, 1, none⟩) (blk_set_ne (p := ⟨wd46.heap.size, 0, none⟩) q3.out (by show w.heap.size ≠ wd46.heap.size; omega) _) (by show w.heap.size ≠ wd46.heap.size; omega) _) (by show w.heap.size ≠ wd46.heap.size; omega) _)⟩, ⟨(((HB3.out.setCell (p := ⟨wd46.heap.size, 0, none⟩) (by show w.heap.size ≤ wd46.heap.size; omega) _).setCell (p := ⟨wd46.heap.size, 1, none⟩) (by show w.heap.size ≤ wd46.heap.size; omega) _).setCell (p := ⟨wd46.heap.size, 2, none⟩) (by show w.heap.size ≤ wd46.heap.size; omega) _)⟩, ⟨(blk_set_ne (p := ⟨wd46.heap.size, 2, none⟩) (blk_set_ne (p := ⟨wd46.heap.size, 1, none⟩) (blk_set_ne (p := ⟨wd46.heap.size, 0, none⟩) BD.out (by show wd0.heap.size ≠ wd46.heap.size; omega) _) (by show wd0.heap.size ≠ wd46.heap.size; omega) _) (by show wd0.heap.size ≠ wd46.heap.size; omega) _)⟩, ⟨(blk_set (blk_set (blk_set BS.out 0 _) 1 _) 2 _).trans rfl⟩, (by simp [World.setCell])⟩ (sx_of0 ((ButB.set (ButB.set (ButB.set (And.left hHeld) (p := ⟨wd46.heap.size, 0, none⟩) (by first | (left; simp; done) | (right; show w3.heap.size ≤ wd46.heap.size; omega)) _) (p := ⟨wd46.heap.size, 1, none⟩) (by first | (left; simp; done) | (right; show w3.heap.size ≤ wd46.heap.size; omega)) _) (p := ⟨wd46.heap.size, 2, none⟩) (by first | (left; simp; done) | (right; show w3.heap.size ≤ wd46.heap.size; omega)) _))) (fun wd48 hRn hHn => ?_)
          clear hK K hHeld p3 q3 HB3 BD BS sd0 sf0 sd1 sf1 sd2 sf2 sl
          obtain ⟨p3, q3, HB3, BD, BS, hsz48⟩ := hRn
          have hHeld := hHn
          clear hHn
          try simp only [Act.put, List.setIfInBounds_toArray, List.set_cons_zero, List.set_cons_succ]
          refine wpAnyH_ready (rs := [7]) (by kernel_rfl) (by simp) ?_
          refine (AllReadyH.cons (o := ⟨_, _, _, _, _, _⟩) rfl (fun K hK => ?_) AllReadyH.nil)
          have sd0 : wd48.cell? ⟨wd0.heap.size, 0, none⟩ = some (.int .i64 0) := (cell_blk BD.out 0).trans rfl
          have sf0 : wd48.frozen? ⟨wd0.heap.size, 0, none⟩ = false := frozen_blk BD.out 0
          have sd1 : wd48.cell? ⟨wd0.heap.size, 1, none⟩ = some (.slice none 0 0) := (cell_blk BD.out 1).trans rfl
          have sf1 : wd48.frozen? ⟨wd0.heap.size, 1, none⟩ = false := frozen_blk BD.out 1
          have sd2 : wd48.cell? ⟨wd0.heap.size, 2, none⟩ = some (.int .i64 0) := (cell_blk BD.out 2).trans rfl
          have sf2 : wd48.frozen? ⟨wd0.heap.size, 2, none⟩ = false := frozen_blk BD.out 2
          have sl := blk_lt BD.out
          go_simp
          try go_wp2_with fail
          refine out_gen hK _ _ (fun wz : World => Kp (wz.heap[w1.heap.size]? = some (.cells #[.int .i64 0, .slice none 0 0, .int .i64 0] 79 (0, 0))) ∧ Kp (wz.heap[w.heap.size]? = some (.cells #[.slice pa C.parts.length pc, .slice ca C.chans.length cc, .int .i64 C.l0, .slice a0 C.w0.length c0, .int .i64 C.l1, .slice a1 C.w1.length c1] 29 (0, 0))) ∧ Kp (Below w.heap.size w wz) ∧ Kp (wz.heap[wd0.heap.size]? = some (.cells #[.int .i64 0, .slice v4 0 c4, .int .i64 0] 79 (0, 0))) ∧ Kp (wz.heap[wd46.heap.size]? = some (.cells #[.int .i64 0, .slice v3 0 c3, .int .i64 0] 79 (0, 0))) ∧ wd48.heap.size ≤ wz.heap.size) ⟨⟨(blk_set_ne (p := ⟨wd0.heap.size, 2, none⟩) (blk_set_ne (p := ⟨wd0.heap.size, 1, none⟩) (blk_set_ne (p := ⟨wd0.heap.size, 0, none⟩) p3.out (by show w1.heap.size ≠ wd0.heap.size; omega) _) (by show w1.heap.size ≠ wd0.heap.size; omega) _) (by show w1.heap.size ≠ wd0.heap.size; omega) _)⟩, ⟨(blk_set_ne (p := ⟨wd0.heap.size, 2, none⟩) (blk_set_ne (p := ⟨wd0.heap.size, 1, none⟩) (blk_set_ne (p := ⟨wd0.heap.size, 0, none⟩) q3.out (by show w.heap.size ≠ wd0.heap.size; omega) _) (by show w.heap.size ≠ wd0.heap.size; omega) _) (by show w.heap.size ≠ wd0.heap.size; omega) _)⟩, ⟨(((HB3.out.setCell (p := ⟨wd0.heap.size, 0, none⟩) (by show w.heap.size ≤ wd0.heap.size; omega) _).setCell (p := ⟨wd0.heap.size, 1, none⟩) (by show w.heap.size ≤ wd0.heap.size; omega) _).setCell (p := ⟨wd0.heap.size, 2, none⟩) (by show w.heap.size ≤ wd0.heap.size; omega) _)⟩, ⟨(blk_set (blk_set (blk_set BD.out 0 _) 1 _) 2 _).trans rfl⟩, ⟨(blk_set_ne (p := ⟨wd0.heap.size, 2, none⟩) (blk_set_ne (p := ⟨wd0.heap.size, 1, none⟩) (blk_set_ne (p := ⟨wd0.heap.size, 0, none⟩) BS.out (by show wd46.heap.size ≠ wd0.heap.size; omega) _) (by show wd46.heap.size ≠ wd0.heap.size; omega) _) (by show wd46.heap.size ≠ wd0.heap.size; omega) _)⟩, (by simp [World.setCell])⟩ (sx_of0 ((ButB.set (ButB.set (ButB.set (And.left hHeld) (p := ⟨wd0.heap.size, 0, none⟩) (by first | (left; simp; done) | (right; show w3.heap.size ≤ wd0.heap.size; omega)) _) (p := ⟨wd0.heap.size, 1, none⟩) (by first | (left; simp; done) | (right; show w3.heap.size ≤ wd0.heap.size; omega)) _) (p := ⟨wd0.heap.size, 2, none⟩) (by first | (left; simp; done) | (right; show w3.heap.size ≤ wd0.heap.size; omega)) _))) (fun wd49 hRn hHn => ?_)
          clear hK K hHeld p3 q3 HB3 BD BS sd0 sf0 sd1 sf1 sd2 sf2 sl
          obtain ⟨p3, q3, HB3, BD, BS, hsz49⟩ := hRn
          have hHeld := hHn
          clear hHn
          try simp only [Act.put, List.setIfInBounds_toArray, List.set_cons_zero, List.set_cons_succ]
          refine wpAnyH_done (by kernel_rfl) ?_ _
          go_wp2_with fail
          go_meet
          exact ⟨_, _, v3, c3, rfl, rfl, HB3, BS⟩
        · have ge_BS : w3.heap.size ≤ wd45.heap.size := (And.left hHeld).size
          go_simp
          try go_wp2_with fail
          refine out_gen hK _ _ (fun wz : World => Kp (wz.heap[w1.heap.size]? = some (.cells #[.int .i64 0, .slice none 0 0, .int .i64 0] 79 (0, 0))) ∧ Kp (wz.heap[w.heap.size]? = some (.cells #[.slice pa C.parts.length pc, .slice ca C.chans.length cc, .int .i64 C.l0, .slice a0 C.w0.length c0, .int .i64 C.l1, .slice a1 C.w1.length c1] 29 (0, 0))) ∧ Kp (Below w.heap.size w wz) ∧ Kp (wz.heap[wd0.heap.size]? = some (.cells #[.int .i64 0, .slice none 0 0, .int .i64 0] 79 (0, 0))) ∧ Kp (wz.heap[wd45.heap.size]? = some (.cells #[.int .i64 0, .slice none 0 0, .int .i64 0] 79 (0, 0))) ∧ wd45.heap.size < wz.heap.size) ⟨⟨blk_al p3.out _⟩, ⟨blk_al q3.out _⟩, ⟨below_al HB3.out _⟩, ⟨blk_al BD.out _⟩, ⟨blk_new wd45 _⟩, (by simp)⟩ (sx_of0 (ButB.al (And.left hHeld) _)) (fun wd50 hRn hHn => ?_)
          clear hK K hHeld p3 q3 HB3 BD
          obtain ⟨p3, q3, HB3, BD, BS, hsz50⟩ := hRn
          have hHeld := hHn
          clear hHn
          try simp only [Act.put, List.setIfInBounds_toArray, List.set_cons_zero, List.set_cons_succ]
          have lt_BS := blk_lt BS.out
          refine wpAnyH_ready (rs := [3]) (by kernel_rfl) (by simp) ?_
          refine (AllReadyH.cons (o := ⟨_, _, _, _, _, _⟩) rfl (fun K hK => ?_) AllReadyH.nil)
          go_simp
          go_at_call 57
          refine (chans_any 0 0 1 0 (.slice none 0 0) [] (by omega) (by omega) (by omega) rfl _ (no_row _ 0)).mono ?_
          rintro e w9 ⟨vv, rfl, hO, hb⟩
          obtain ⟨v4, c4, rfl, hx1, hx2⟩ := (RowAt.of_own hO).shape
          try go_wp2_with fail
          refine out_gen hK _ _ (fun wz : World => Kp (wz.heap[w1.heap.size]? = some (.cells #[.int .i64 0, .slice none 0 0, .int .i64 0] 79 (0, 0))) ∧ Kp (wz.heap[w.heap.size]? = some (.cells #[.slice pa C.parts.length pc, .slice ca C.chans.length cc, .int .i64 C.l0, .slice a0 C.w0.length c0, .int .i64 C.l1, .slice a1 C.w1.length c1] 29 (0, 0))) ∧ Kp (Below w.heap.size w wz) ∧ Kp (wz.heap[wd0.heap.size]? = some (.cells #[.int .i64 0, .slice none 0 0, .int .i64 0] 79 (0, 0))) ∧ Kp (wz.heap[wd45.heap.size]? = some (.cells #[.int .i64 0, .slice none 0 0, .int .i64 0] 79 (0, 0))) ∧ wd50.heap.size ≤ wz.heap.size) ⟨⟨blk_below p3.out hb⟩, ⟨blk_below q3.out hb⟩, ⟨below_call HB3.out hb⟩, ⟨blk_below BD.out hb⟩, ⟨blk_below BS.out hb⟩, hb.size⟩ (sx_of0 (ButB.call (And.left hHeld) hb)) (fun wd51 hRn hHn => ?_)
          clear hK K hHeld p3 q3 HB3 BD BS hO hb hx1 hx2
          obtain ⟨p3, q3, HB3, BD, BS, hsz51⟩ := hRn
          have hHeld := hHn
          clear hHn
          try simp only [Act.put, List.setIfInBounds_toArray, List.set_cons_zero, List.set_cons_succ]
          refine wpAnyH_ready (rs := [6]) (by kernel_rfl) (by simp) ?_
          refine (AllReadyH.cons (o := ⟨_, _, _, _, _, _⟩) rfl (fun K hK => ?_) AllReadyH.nil)
          have sd0 : wd51.cell? ⟨wd45.heap.size, 0, none⟩ = some (.int .i64 0) := (cell_blk BS.out 0).trans rfl
          have sf0 : wd51.frozen? ⟨wd45.heap.size, 0, none⟩ = false := frozen_blk BS.out 0
          have sd1 : wd51.cell? ⟨wd45.heap.size, 1, none⟩ = some (.slice none 0 0) := (cell_blk BS.out 1).trans rfl
          have sf1 : wd51.frozen? ⟨wd45.heap.size, 1, none⟩ = false := frozen_blk BS.out 1
          have sd2 : wd51.cell? ⟨wd45.heap.size, 2, none⟩ = some (.int .i64 0) := (cell_blk BS.out 2).trans rfl
          have sf2 : wd51.frozen? ⟨wd45.heap.size, 2, none⟩ = false := frozen_blk BS.out 2
          have sl := blk_lt BS.out
          go_simp
          try go_wp2_with fail
          refine out_gen hK _ _ (fun wz : World => Kp (wz.heap[w1.heap.size]? = some (.cells #[.int .i64 0, .slice none 0 0, .int .i64 0] 79 (0, 0))) ∧ Kp (wz.heap[w.heap.size]? = some (.cells #[.slice pa C.parts.length pc, .slice ca C.chans.length cc, .int .i64 C.l0, .slice a0 C.w0.length c0, .int .i64 C.l1, .slice a1 C.w1.length c1] 29 (0, 0))) ∧ Kp (Below w.heap.size w wz) ∧ Kp (wz.heap[wd0.heap.size]? = some (.cells #[.int .i64 0, .slice none 0 0, .int .i64 0] 79 (0, 0))) ∧ Kp (wz.heap[wd45.heap.size]? = some (.cells #[.int .i64 0, .slice v3 0 c3, .int .i64 0] 79 (0, 0))) ∧ wd51.heap.size ≤ wz.heap.size) ⟨⟨(blk_set_ne (p := ⟨wd45.heap.size, 2, none⟩) (blk_set_ne (p := ⟨wd45.heap.size, 1, none⟩) (blk_set_ne (p := ⟨wd45.heap.size, 0, none⟩) p3.out (by show w1.heap.size ≠ wd45.heap.size; omega) _) (by show w1.heap.size ≠ wd45.heap.size; omega) _) (by show w1.heap.size ≠ wd45.heap.size; omega) _)⟩, ⟨(blk_set_ne (p := ⟨wd45.heap.size, 2, none⟩) (blk_set_ne (p := ⟨wd45.heap.size, 1, none⟩) (blk_set_ne (p := ⟨wd45.heap.size, 0, none⟩) q3.out (by show w.heap.size ≠ wd45.heap.size; omega) _) (by show w.heap.size ≠ wd45.heap.size; omega) _) (by show w.heap.size ≠ wd45.heap.size; omega) _)⟩, ⟨(((HB3.out.setCell (p := ⟨wd45.heap.size, 0, none⟩) (by show w.heap.size ≤ wd45.heap.size; omega) _).setCell (p := ⟨wd45.heap.size, 1, none⟩) (by show w.heap.size ≤ wd45.heap.size; omega) _).setCell (p := ⟨wd45.heap.size, 2, none⟩) (by show w.heap.size ≤ wd45.heap.size; omega) _)⟩, ⟨(blk_set_ne (p := ⟨wd45.heap.size, 2, none⟩) (blk_set_ne (p := ⟨wd45.heap.size, 1, none⟩) (blk_set_ne (p := ⟨wd45.heap.size, 0, none⟩) BD.out (by show wd0.heap.size ≠ wd45.heap.size; omega) _) (by show wd0.heap.size ≠ wd45.heap.size; omega) _) (by show wd0.heap.size ≠ wd45.heap.size; omega) _)⟩, ⟨(blk_set (blk_set (blk_set BS.out 0 _) 1 _) 2 _).trans rfl⟩, (by simp [World.setCell])⟩ (sx_of0 ((ButB.set (ButB.set (ButB.set (And.left hHeld) (p := ⟨wd45.heap.size, 0, none⟩) (by first | (left; simp; done) | (right; show w3.heap.size ≤ wd45.heap.size; omega)) _) (p := ⟨wd45.heap.size, 1, none⟩) (by first | (left; simp; done) | (right; show w3.heap.size ≤ wd45.heap.size; omega)) _) (p := ⟨wd45.heap.size, 2, none⟩) (by first | (left; simp; done) | (right; show w3.heap.size ≤ wd45.heap.size; omega)) _))) (fun wd52 hRn hHn => ?_)
          clear hK K hHeld p3 q3 HB3 BD BS sd0 sf0 sd1 sf1 sd2 sf2 sl
          obtain ⟨p3, q3, HB3, BD, BS, hsz52⟩ := hRn
          have hHeld := hHn
          clear hHn
          try simp only [Act.put, List.setIfInBounds_toArray, List.set_cons_zero, List.set_cons_succ]
          refine wpAnyH_ready (rs := [7]) (by kernel_rfl) (by simp) ?_
          refine (AllReadyH.cons (o := ⟨_, _, _, _, _, _⟩) rfl (fun K hK => ?_) AllReadyH.nil)
          have sd0 : wd52.cell? ⟨wd0.heap.size, 0, none⟩ = some (.int .i64 0) := (cell_blk BD.out 0).trans rfl
          have sf0 : wd52.frozen? ⟨wd0.heap.size, 0, none⟩ = false := frozen_blk BD.out 0
          have sd1 : wd52.cell? ⟨wd0.heap.size, 1, none⟩ = some (.slice none 0 0) := (cell_blk BD.out 1).trans rfl
          have sf1 : wd52.frozen? ⟨wd0.heap.size, 1, none⟩ = false := frozen_blk BD.out 1
          have sd2 : wd52.cell? ⟨wd0.heap.size, 2, none⟩ = some (.int .i64 0) := (cell_blk BD.out 2).trans rfl
          have sf2 : wd52.frozen? ⟨wd0.heap.size, 2, none⟩ = false := frozen_blk BD.out 2
          have sl := blk_lt BD.out
          go_simp
          try go_wp2_with fail
          refine out_gen hK _ _ (fun wz : World => Kp (wz.heap[w1.heap.size]? = some (.cells #[.int .i64 0, .slice none 0 0, .int .i64 0] 79 (0, 0))) ∧ Kp (wz.heap[w.heap.size]? = some (.cells #[.slice pa C.parts.length pc, .slice ca C.chans.length cc, .int .i64 C.l0, .slice a0 C.w0.length c0, .int .i64 C.l1, .slice a1 C.w1.length c1] 29 (0, 0))) ∧ Kp (Below w.heap.size w wz) ∧ Kp (wz.heap[wd0.heap.size]? = some (.cells #[.int .i64 0, .slice v4 0 c4, .int .i64 0] 79 (0, 0))) ∧ Kp (wz.heap[wd45.heap.size]? = some (.cells #[.int .i64 0, .slice v3 0 c3, .int .i64 0] 79 (0, 0))) ∧ wd52.heap.size ≤ wz.heap.size) ⟨⟨(blk_set_ne (p := ⟨wd0.heap.size, 2, none⟩) (blk_set_ne (p := ⟨wd0.heap.size, 1, none⟩) (blk_set_ne (p := ⟨wd0.heap.size, 0, none⟩) p3.out (by show w1.heap.size ≠ wd0.heap.size; omega) _) (by show w1.heap.size ≠ wd0.heap.size; omega) _) (by show w1.heap.size ≠ wd0.heap.size; omega) _)⟩, ⟨(blk_set_ne (p := ⟨wd0.heap.size, 2, none⟩) (blk_set_ne (p := ⟨wd0.heap.size, 1, none⟩) (blk_set_ne (p := ⟨wd0.heap.size, 0, none⟩) q3.out (by show w.heap.size ≠ wd0.heap.size; omega) _) (by show w.heap.size ≠ wd0.heap.size; omega) _) (by show w.heap.size ≠ wd0.heap.size; omega) _)⟩, ⟨(((HB3.out.setCell (p := ⟨wd0.heap.size, 0, none⟩) (by show w.heap.size ≤ wd0.heap.size; omega) _).setCell (p := ⟨wd0.heap.size, 1, none⟩) (by show w.heap.size ≤ wd0.heap.size; omega) _).setCell (p := ⟨wd0.heap.size, 2, none⟩) (by show w.heap.size ≤ wd0.heap.size; omega) _)⟩, ⟨(blk_set (blk_set (blk_set BD.out 0 _) 1 _) 2 _).trans rfl⟩, ⟨(blk_set_ne (p := ⟨wd0.heap.size, 2, none⟩) (blk_set_ne (p := ⟨wd0.heap.size, 1, none⟩) (blk_set_ne (p := ⟨wd0.heap.size, 0, none⟩) BS.out (by show wd45.heap.size ≠ wd0.heap.size; omega) _) (by show wd45.heap.size ≠ wd0.heap.size; omega) _) (by show wd45.heap.size ≠ wd0.heap.size; omega) _)⟩, (by simp [World.setCell])⟩ (sx_of0 ((ButB.set (ButB.set (ButB.set (And.left hHeld) (p := ⟨wd0.heap.size, 0, none⟩) (by first | (left; simp; done) | (right; show w3.heap.size ≤ wd0.heap.size; omega)) _) (p := ⟨wd0.heap.size, 1, none⟩) (by first | (left; simp; done) | (right; show w3.heap.size ≤ wd0.heap.size; omega)) _) (p := ⟨wd0.heap.size, 2, none⟩) (by first | (left; simp; done) | (right; show w3.heap.size ≤ wd0.heap.size; omega)) _))) (fun wd53 hRn hHn => ?_)
          clear hK K hHeld p3 q3 HB3 BD BS sd0 sf0 sd1 sf1 sd2 sf2 sl
          obtain ⟨p3, q3, HB3, BD, BS, hsz53⟩ := hRn
          have hHeld := hHn
          clear hHn
          try simp only [Act.put, List.setIfInBounds_toArray, List.set_cons_zero, List.set_cons_succ]
          refine wpAnyH_done (by kernel_rfl) ?_ _
          go_wp2_with fail
          go_meet
          exact ⟨_, _, v3, c3, rfl, rfl, HB3, BS⟩
      · have ge_BS : w3.heap.size ≤ wd44.heap.size := (And.left hHeld).size
        go_simp
        try go_wp2_with fail
        refine out_gen hK _ _ (fun wz : World => Kp (wz.heap[w1.heap.size]? = some (.cells #[.int .i64 0, .slice none 0 0, .int .i64 0] 79 (0, 0))) ∧ Kp (wz.heap[w.heap.size]? = some (.cells #[.slice pa C.parts.length pc, .slice ca C.chans.length cc, .int .i64 C.l0, .slice a0 C.w0.length c0, .int .i64 C.l1, .slice a1 C.w1.length c1] 29 (0, 0))) ∧ Kp (Below w.heap.size w wz) ∧ Kp (wz.heap[wd0.heap.size]? = some (.cells #[.int .i64 0, .slice none 0 0, .int .i64 0] 79 (0, 0))) ∧ Kp (wz.heap[wd44.heap.size]? = some (.cells #[.int .i64 0, .slice none 0 0, .int .i64 0] 79 (0, 0))) ∧ wd44.heap.size < wz.heap.size) ⟨⟨blk_al p3.out _⟩, ⟨blk_al q3.out _⟩, ⟨below_al HB3.out _⟩, ⟨blk_al BD.out _⟩, ⟨blk_new wd44 _⟩, (by simp)⟩ (sx_of0 (ButB.al (And.left hHeld) _)) (fun wd54 hRn hHn => ?_)
        clear hK K hHeld p3 q3 HB3 BD
        obtain ⟨p3, q3, HB3, BD, BS, hsz54⟩ := hRn
        have hHeld := hHn
        clear hHn
        try simp only [Act.put, List.setIfInBounds_toArray, List.set_cons_zero, List.set_cons_succ]
        have lt_BS := blk_lt BS.out
        refine wpAnyH_ready (rs := [1]) (by kernel_rfl) (by simp) ?_
        refine (AllReadyH.cons (o := ⟨_, _, _, _, _, _⟩) rfl (fun K hK => ?_) AllReadyH.nil)
        go_simp
        go_at_call 57
        refine (chans_any 0 0 0 0 (.slice none 0 0) [] (by omega) (by omega) (by omega) rfl _ (no_row _ 0)).mono ?_
        rintro e w9 ⟨vv, rfl, hO, hb⟩
        obtain ⟨v3, c3, rfl, hx1, hx2⟩ := (RowAt.of_own hO).shape
        try go_wp2_with fail
        refine out_gen hK _ _ (fun wz : World => Kp (wz.heap[w1.heap.size]? = some (.cells #[.int .i64 0, .slice none 0 0, .int .i64 0] 79 (0, 0))) ∧ Kp (wz.heap[w.heap.size]? = some (.cells #[.slice pa C.parts.length pc, .slice ca C.chans.length cc, .int .i64 C.l0, .slice a0 C.w0.length c0, .int .i64 C.l1, .slice a1 C.w1.length c1] 29 (0, 0))) ∧ Kp (Below w.heap.size w wz) ∧ Kp (wz.heap[wd0.heap.size]? = some (.cells #[.int .i64 0, .slice none 0 0, .int .i64 0] 79 (0, 0))) ∧ Kp (wz.heap[wd44.heap.size]? = some (.cells #[.int .i64 0, .slice none 0 0, .int .i64 0] 79 (0, 0))) ∧ wd54.heap.size ≤ wz.heap.size) ⟨⟨blk_below p3.out hb⟩, ⟨blk_below q3.out hb⟩, ⟨below_call HB3.out hb⟩, ⟨blk_below BD.out hb⟩, ⟨blk_below BS.out hb⟩, hb.size⟩ (sx_of0 (ButB.call (And.left hHeld) hb)) (fun wd55 hRn hHn => ?_)
        clear hK K hHeld p3 q3 HB3 BD BS hO hb hx1 hx2
        obtain ⟨p3, q3, HB3, BD, BS, hsz55⟩ := hRn
        have hHeld := hHn
        clear hHn
        try simp only [Act.put, List.setIfInBounds_toArray, List.set_cons_zero, List.set_cons_succ]
        refine wpAnyH_ready (rs := [3]) (by kernel_rfl) (by simp) ?_
        refine (AllReadyH.cons (o := ⟨_, _, _, _, _, _⟩) rfl (fun K hK => ?_) AllReadyH.nil)
        go_simp
        go_at_call 57
        refine (chans_any 0 0 1 0 (.slice none 0 0) [] (by omega) (by omega) (by omega) rfl _ (no_row _ 0)).mono ?_
        rintro e w9 ⟨vv, rfl, hO, hb⟩
        obtain ⟨v4, c4, rfl, hx1, hx2⟩ := (RowAt.of_own hO).shape
        try go_wp2_with fail
        refine out_gen hK _ _ (fun wz : World => Kp (wz.heap[w1.heap.size]? = some (.cells #[.int .i64 0, .slice none 0 0, .int .i64 0] 79 (0, 0))) ∧ Kp (wz.heap[w.heap.size]? = some (.cells #[.slice pa C.parts.length pc, .slice ca C.chans.length cc, .int .i64 C.l0, .slice a0 C.w0.length c0, .int .i64 C.l1, .slice a1 C.w1.length c1] 29 (0, 0))) ∧ Kp (Below w.heap.size w wz) ∧ Kp (wz.heap[wd0.heap.size]? = some (.cells #[.int .i64 0, .slice none 0 0, .int .i64 0] 79 (0, 0))) ∧ Kp (wz.heap[wd44.heap.size]? = some (.cells #[.int .i64 0, .slice none 0 0, .int .i64 0] 79 (0, 0))) ∧ wd55.heap.size ≤ wz.heap.size) ⟨⟨blk_below p3.out hb⟩, ⟨blk_below q3.out hb⟩, ⟨below_call HB3.out hb⟩, ⟨blk_below BD.out hb⟩, ⟨blk_below BS.out hb⟩, hb.size⟩ (sx_of0 (ButB.call (And.left hHeld) hb)) (fun wd56 hRn hHn => ?_)
        clear hK K hHeld p3 q3 HB3 BD BS hO hb hx1 hx2
        obtain ⟨p3, q3, HB3, BD, BS, hsz56⟩ := hRn
        have hHeld := hHn
        clear hHn
        try simp only [Act.put, List.setIfInBounds_toArray, List.set_cons_zero, List.set_cons_succ]
        refine wpAnyH_ready (rs := [6]) (by kernel_rfl) (by simp) ?_
        refine (AllReadyH.cons (o := ⟨_, _, _, _, _, _⟩) rfl (fun K hK => ?_) AllReadyH.nil)
        have sd0 : wd56.cell? ⟨wd44.heap.size, 0, none⟩ = some (.int .i64 0) := (cell_blk BS.out 0).trans rfl
        have sf0 : wd56.frozen? ⟨wd44.heap.size, 0, none⟩ = false := frozen_blk BS.out 0
        have sd1 : wd56.cell? ⟨wd44.heap.size, 1, none⟩ = some (.slice none 0 0) := (cell_blk BS.out 1).trans rfl
        have sf1 : wd56.frozen? ⟨wd44.heap.size, 1, none⟩ = false := frozen_blk BS.out 1
        have sd2 : wd56.cell? ⟨wd44.heap.size, 2, none⟩ = some (.int .i64 0) := (cell_blk BS.out 2).trans rfl
        have sf2 : wd56.frozen? ⟨wd44.heap.size, 2, none⟩ = false := frozen_blk BS.out 2
        have sl := blk_lt BS.out
        go_simp
        try go_wp2_with fail
        refine out_gen hK _ _ (fun wz : World => Kp (wz.heap[w1.heap.size]? = some (.cells #[.int .i64 0, .slice none 0 0, .int .i64 0] 79 (0, 0))) ∧ Kp (wz.heap[w.heap.size]? = some (.cells #[.slice pa C.parts.length pc, .slice ca C.chans.length cc, .int .i64 C.l0, .slice a0 C.w0.length c0, .int .i64 C.l1, .slice a1 C.w1.length c1] 29 (0, 0))) ∧ Kp (Below w.heap.size w wz) ∧ Kp (wz.heap[wd0.heap.size]? = some (.cells #[.int .i64 0, .slice none 0 0, .int .i64 0] 79 (0, 0))) ∧ Kp (wz.heap[wd44.heap.size]? = some (.cells #[.int .i64 0, .slice v3 0 c3, .int .i64 0] 79 (0, 0))) ∧ wd56.heap.size ≤ wz.heap.size) ⟨⟨(blk_set_ne (p := ⟨wd44.heap.size, 2, none⟩) (blk_set_ne (p := ⟨wd44.heap.size, 1, none⟩) (blk_set_ne (p := ⟨wd44.heap.size, 0, none⟩) p3.out (by show w1.heap.size ≠ wd44.heap.size; omega) _) (by show w1.heap.size ≠ wd44.heap.size; omega) _) (by show w1.heap.size ≠ wd44.heap.size; omega) _)⟩, ⟨(blk_set_ne (p := ⟨wd44.heap.size, 2, none⟩) (blk_set_ne (p := ⟨wd44.heap.size, 1, none⟩) (blk_set_ne (p := ⟨wd44.heap.size, 0, none⟩) q3.out (by show w.heap.size ≠ wd44.heap.size; omega) _) (by show w.heap.size ≠ wd44.heap.size; omega) _) (by show w.heap.size ≠ wd44.heap.size; omega) _)⟩, ⟨(((HB3.out.setCell (p := ⟨wd44.heap.size, 0, none⟩) (by show w.heap.size ≤ wd44.heap.size; omega) _).setCell (p := ⟨wd44.heap.size, 1, none⟩) (by show w.heap.size ≤ wd44.heap.size; omega) _).setCell (p := ⟨wd44.heap.size, 2, none⟩) (by show w.heap.size ≤ wd44.heap.size; omega) _)⟩, ⟨(blk_set_ne (p := ⟨wd44.heap.size, 2, none⟩) (blk_set_ne (p := ⟨wd44.heap.size, 1, none⟩) (blk_set_ne (p := ⟨wd44.heap.size, 0, none⟩) BD.out (by show wd0.heap.size ≠ wd44.heap.size; omega) _) (by show wd0.heap.size ≠ wd44.heap.size; omega) _) (by show wd0.heap.size ≠ wd44.heap.size; omega) _)⟩, ⟨(blk_set (blk_set (blk_set BS.out 0 _) 1 _) 2 _).trans rfl⟩, (by simp [World.setCell])⟩ (sx_of0 ((ButB.set (ButB.set (ButB.set (And.left hHeld) (p := ⟨wd44.heap.size, 0, none⟩) (by first | (left; simp; done) | (right; show w3.heap.size ≤ wd44.heap.size; omega)) _) (p := ⟨wd44.heap.size, 1, none⟩) (by first | (left; simp; done) | (right; show w3.heap.size ≤ wd44.heap.size; omega)) _) (p := ⟨wd44.heap.size, 2, none⟩) (by first | (left; simp; done) | (right; show w3.heap.size ≤ wd44.heap.size; omega)) _))) (fun wd57 hRn hHn => ?_)
        clear hK K hHeld p3 q3 HB3 BD BS sd0 sf0 sd1 sf1 sd2 sf2 sl
        obtain ⟨p3, q3, HB3, BD, BS, hsz57⟩ := hRn
        have hHeld := hHn
        clear hHn
        try simp only [Act.put, List.setIfInBounds_toArray, List.set_cons_zero, List.set_cons_succ]
        refine wpAnyH_ready (rs := [7]) (by kernel_rfl) (by simp) ?_
        refine (AllReadyH.cons (o := ⟨_, _, _, _, _, _⟩) rfl (fun K hK => ?_) AllReadyH.nil)
        have sd0 : wd57.cell? ⟨wd0.heap.size, 0, none⟩ = some (.int .i64 0) := (cell_blk BD.out 0).trans rfl
        have sf0 : wd57.frozen? ⟨wd0.heap.size, 0, none⟩ = false := frozen_blk BD.out 0
        have sd1 : wd57.cell? ⟨wd0.heap.size, 1, none⟩ = some (.slice none 0 0) := (cell_blk BD.out 1).trans rfl
        have sf1 : wd57.frozen? ⟨wd0.heap.size, 1, none⟩ = false := frozen_blk BD.out 1
        have sd2 : wd57.cell? ⟨wd0.heap.size, 2, none⟩ = some (.int .i64 0) := (cell_blk BD.out 2).trans rfl
        have sf2 : wd57.frozen? ⟨wd0.heap.size, 2, none⟩ = false := frozen_blk BD.out 2
        have sl := blk_lt BD.out
        go_simp
        try go_wp2_with fail
        refine out_gen hK _ _ (fun wz : World => Kp (wz.heap[w1.heap.size]? = some (.cells #[.int .i64 0, .slice none 0 0, .int .i64 0] 79 (0, 0))) ∧ Kp (wz.heap[w.heap.size]? = some (.cells #[.slice pa C.parts.length pc, .slice ca C.chans.length cc, .int .i64 C.l0, .slice a0 C.w0.length c0, .int .i64 C.l1, .slice a1 C.w1.length c1] 29 (0, 0))) ∧ Kp (Below w.heap.size w wz) ∧ Kp (wz.heap[wd0.heap.size]? = some (.cells #[.int .i64 0, .slice v4 0 c4, .int .i64 0] 79 (0, 0))) ∧ Kp (wz.heap[wd44.heap.size]? = some (.cells #[.int .i64 0, .slice v3 0 c3, .int .i64 0] 79 (0, 0))) ∧ wd57.heap.size ≤ wz.heap.size) ⟨⟨(blk_set_ne (p := ⟨wd0.heap.size, 2, none⟩) (blk_set_ne (p := ⟨wd0.heap.size, 1, none⟩) (blk_set_ne (p := ⟨wd0.heap.size, 0, none⟩) p3.out (by show w1.heap.size ≠ wd0.heap.size; omega) _) (by show w1.heap.size ≠ wd0.heap.size; omega) _) (by show w1.heap.size ≠ wd0.heap.size; omega) _)⟩, ⟨(blk_set_ne (p := ⟨wd0.heap.size, 2, none⟩) (blk_set_ne (p := ⟨wd0.heap.size, 1, none⟩) (blk_set_ne (p := ⟨wd0.heap.size, 0, none⟩) q3.out (by show w.heap.size ≠ wd0.heap.size; omega) _) (by show w.heap.size ≠ wd0.heap.size; omega) _) (by show w.heap.size ≠ wd0.heap.size; omega) _)⟩, ⟨(((HB3.out.setCell (p := ⟨wd0.heap.size, 0, none⟩) (by show w.heap.size ≤ wd0.heap.size; omega) _).setCell (p := ⟨wd0.heap.size, 1, none⟩) (by show w.heap.size ≤ wd0.heap.size; omega) _).setCell (p := ⟨wd0.heap.size, 2, none⟩) (by show w.heap.size ≤ wd0.heap.size; omega) _)⟩, ⟨(blk_set (blk_set (blk_set BD.out 0 _) 1 _) 2 _).trans rfl⟩, ⟨(blk_set_ne (p := ⟨wd0.heap.size, 2, none⟩) (blk_set_ne (p := ⟨wd0.heap.size, 1, none⟩) (blk_set_ne (p := ⟨wd0.heap.size, 0, none⟩) BS.out (by show wd44.heap.size ≠ wd0.heap.size; omega) _) (by show wd44.heap.size ≠ wd0.heap.size; omega) _) (by show wd44.heap.size ≠ wd0.heap.size; omega) _)⟩, (by simp [World.setCell])⟩ (sx_of0 ((ButB.set (ButB.set (ButB.set (And.left hHeld) (p := ⟨wd0.heap.size, 0, none⟩) (by first | (left; simp; done) | (right; show w3.heap.size ≤ wd0.heap.size; omega)) _) (p := ⟨wd0.heap.size, 1, none⟩) (by first | (left; simp; done) | (right; show w3.heap.size ≤ wd0.heap.size; omega)) _) (p := ⟨wd0.heap.size, 2, none⟩) (by first | (left; simp; done) | (right; show w3.heap.size ≤ wd0.heap.size; omega)) _))) (fun wd58 hRn hHn => ?_)
        clear hK K hHeld p3 q3 HB3 BD BS sd0 sf0 sd1 sf1 sd2 sf2 sl
        obtain ⟨p3, q3, HB3, BD, BS, hsz58⟩ := hRn
        have hHeld := hHn
        clear hHn
        try simp only [Act.put, List.setIfInBounds_toArray, List.set_cons_zero, List.set_cons_succ]
        refine wpAnyH_done (by kernel_rfl) ?_ _
        go_wp2_with fail
        go_meet
        exact ⟨_, _, v3, c3, rfl, rfl, HB3, BS⟩
  case rest =>
    obtain ⟨bs, bd, v3, c3, rfl, rfl, HB, HSB⟩ := hcut
    have s1 : wc.cell? ⟨bs, 1, none⟩ = some (.slice v3 0 c3) := (cell_blk HSB.out 1).trans rfl
    have ls := blk_lt HSB.out
    go_wp2_with fail
    clear s1 ls
    go_loopw [28] (fun i wr => i = .int .i64 0 ∧ wr = wc) (fun i wr => 0)
    case atStart => exact ⟨rfl, rfl⟩
    case round =>
      obtain ⟨rfl, rfl⟩ := hrel
      go_wp2
      go_ret
      exact ⟨ret_bool (by rw [HM.out]), HB.out⟩
theorem may_any (cv : Value) (C : Cfg) (hsm : C.small) (p a : Int) (w : World) (h : CfgAt w cv C) : Calls Try.prog 39 #[cv, .int .i64 p, .int .i64 a] w fun e w' => e = .returned (.bool (mayB C p a)) ∧ Below w.heap.size w w' := by
  cases ha : accB C with
  | false => exact may_none cv C hsm ha p a w h
  | true =>
    cases hh : hasS (privB C p) a with
    | true => exact may_priv cv C hsm ha p a hh w h
    | false => exact may_rest cv C hsm ha p a hh w h
theorem rhasS_any (s : Int × Int) (a : Int) (b : Bool) (h : hasS s a = b) (w : World) : Calls Try.prog 60 #[.agg #[.int .i64 s.1, .int .i64 s.2], .int .i64 a] w fun e w' => e = .returned (.bool b) ∧ Below w.heap.size w w' := rhas_any s.1 s.2 a b h w

set_option maxRecDepth 100000 in
set_option maxHeartbeats 4000000 in
theorem rmay_priv (cv : Value) (C : Cfg) (hsm : C.small) (p a : Int) (hh : hasS (privB C p) a = true) (w : World) (h : CfgAt w cv C) : Calls Try.prog 40 #[cv, .int .i64 p, .int .i64 a] w fun e w' => e = .returned (.bool (mayB C p a)) ∧ Below w.heap.size w w' := by
  have HC := Kp.mk h
  have HH := Kp.mk hh
  have HM : Kp (mayB C p a = true) := ⟨by rw [mayB, hh]; rfl⟩
  obtain ⟨ho, pa, pc, ca, cc, a0, c0, a1, c1, rfl, bp, bc, b0, b1, hp, hc, hw0, hw1⟩ := h
  clear ho hp hc hw0 hw1 hh
  go_enter Try.func40, Try.ntmps40
  have HB0 : Kp (Below w.heap.size w w) := ⟨Below.refl _ _⟩
  go_wp2_with fail
  refine (rprivate_any _ C hsm p _ (HC.out.below (below_al HB0.out _))).mono ?_
  rintro e w1 ⟨rfl, hb⟩
  have q1 : Kp (w1.heap[w.heap.size]? = some (.cells #[.slice pa C.parts.length pc, .slice ca C.chans.length cc, .int .i64 C.l0, .slice a0 C.w0.length c0, .int .i64 C.l1, .slice a1 C.w1.length c1] 29 (0, 0))) := ⟨blk_below (blk_new _ _) hb⟩
  have HB1 : Kp (Below w.heap.size w w1) := ⟨below_call (below_al HB0.out _) hb⟩
  clear HB0 hb
  have qc0 : w1.cell? ⟨w.heap.size, 0, none⟩ = some (.slice pa C.parts.length pc) := (cell_blk q1.out 0).trans rfl
  have qc1 : w1.cell? ⟨w.heap.size, 1, none⟩ = some (.slice ca C.chans.length cc) := (cell_blk q1.out 1).trans rfl
  have qc2 : w1.cell? ⟨w.heap.size, 2, none⟩ = some (.int .i64 C.l0) := (cell_blk q1.out 2).trans rfl
  have qc3 : w1.cell? ⟨w.heap.size, 3, none⟩ = some (.slice a0 C.w0.length c0) := (cell_blk q1.out 3).trans rfl
  have qc4 : w1.cell? ⟨w.heap.size, 4, none⟩ = some (.int .i64 C.l1) := (cell_blk q1.out 4).trans rfl
  have qc5 : w1.cell? ⟨w.heap.size, 5, none⟩ = some (.slice a1 C.w1.length c1) := (cell_blk q1.out 5).trans rfl
  have ql := blk_lt q1.out
  go_wp2_with fail
  refine (rhasS_any (privB C p) a true HH.out _).mono ?_
  rintro e w2 ⟨rfl, hb⟩
  have q2 : Kp (w2.heap[w.heap.size]? = some (.cells #[.slice pa C.parts.length pc, .slice ca C.chans.length cc, .int .i64 C.l0, .slice a0 C.w0.length c0, .int .i64 C.l1, .slice a1 C.w1.length c1] 29 (0, 0))) := ⟨blk_below q1.out hb⟩
  have HB2 : Kp (Below w.heap.size w w2) := ⟨below_call HB1.out hb⟩
  clear qc0 qc1 qc2 qc3 qc4 qc5 ql q1 HB1 hb
  have qc0 : w2.cell? ⟨w.heap.size, 0, none⟩ = some (.slice pa C.parts.length pc) := (cell_blk q2.out 0).trans rfl
  have qc1 : w2.cell? ⟨w.heap.size, 1, none⟩ = some (.slice ca C.chans.length cc) := (cell_blk q2.out 1).trans rfl
  have qc2 : w2.cell? ⟨w.heap.size, 2, none⟩ = some (.int .i64 C.l0) := (cell_blk q2.out 2).trans rfl
  have qc3 : w2.cell? ⟨w.heap.size, 3, none⟩ = some (.slice a0 C.w0.length c0) := (cell_blk q2.out 3).trans rfl
  have qc4 : w2.cell? ⟨w.heap.size, 4, none⟩ = some (.int .i64 C.l1) := (cell_blk q2.out 4).trans rfl
  have qc5 : w2.cell? ⟨w.heap.size, 5, none⟩ = some (.slice a1 C.w1.length c1) := (cell_blk q2.out 5).trans rfl
  have ql := blk_lt q2.out
  go_wp2
  go_ret
  exact ⟨ret_bool (by rw [HM.out]), HB2.out⟩

set_option maxRecDepth 100000 in
set_option maxHeartbeats 8000000 in
theorem rmay_rest (cv : Value) (C : Cfg) (hsm : C.small) (p a : Int) (hh : hasS (privB C p) a = false) (w : World) (h : CfgAt w cv C) : Calls Try.prog 40 #[cv, .int .i64 p, .int .i64 a] w fun e w' => e = .returned (.bool (mayB C p a)) ∧ Below w.heap.size w w' := by
  have HC := Kp.mk h
  have HH := Kp.mk hh
  have HM : Kp (mayB C p a = mayTo C p a C.chans.length) := ⟨by rw [mayB, hh]; rfl⟩
  have hs2 := hsm.2.1
  obtain ⟨ho, pa, pc, ca, cc, a0, c0, a1, c1, rfl, bp, bc, b0, b1, hp, hc, hw0, hw1⟩ := h
  have HCH := Kp.mk hc
  clear ho hp hc hw0 hw1 hh
  go_enter Try.func40, Try.ntmps40
  have HB0 : Kp (Below w.heap.size w w) := ⟨Below.refl _ _⟩
  go_wp2_with fail
  refine (rprivate_any _ C hsm p _ (HC.out.below (below_al HB0.out _))).mono ?_
  rintro e w1 ⟨rfl, hb⟩
  have q1 : Kp (w1.heap[w.heap.size]? = some (.cells #[.slice pa C.parts.length pc, .slice ca C.chans.length cc, .int .i64 C.l0, .slice a0 C.w0.length c0, .int .i64 C.l1, .slice a1 C.w1.length c1] 29 (0, 0))) := ⟨blk_below (blk_new _ _) hb⟩
  have HB1 : Kp (Below w.heap.size w w1) := ⟨below_call (below_al HB0.out _) hb⟩
  clear HB0 hb
  have qc0 : w1.cell? ⟨w.heap.size, 0, none⟩ = some (.slice pa C.parts.length pc) := (cell_blk q1.out 0).trans rfl
  have qc1 : w1.cell? ⟨w.heap.size, 1, none⟩ = some (.slice ca C.chans.length cc) := (cell_blk q1.out 1).trans rfl
  have qc2 : w1.cell? ⟨w.heap.size, 2, none⟩ = some (.int .i64 C.l0) := (cell_blk q1.out 2).trans rfl
  have qc3 : w1.cell? ⟨w.heap.size, 3, none⟩ = some (.slice a0 C.w0.length c0) := (cell_blk q1.out 3).trans rfl
  have qc4 : w1.cell? ⟨w.heap.size, 4, none⟩ = some (.int .i64 C.l1) := (cell_blk q1.out 4).trans rfl
  have qc5 : w1.cell? ⟨w.heap.size, 5, none⟩ = some (.slice a1 C.w1.length c1) := (cell_blk q1.out 5).trans rfl
  have ql := blk_lt q1.out
  go_wp2_with fail
  refine (rhasS_any (privB C p) a false HH.out _).mono ?_
  rintro e w2 ⟨rfl, hb⟩
  have q2 : Kp (w2.heap[w.heap.size]? = some (.cells #[.slice pa C.parts.length pc, .slice ca C.chans.length cc, .int .i64 C.l0, .slice a0 C.w0.length c0, .int .i64 C.l1, .slice a1 C.w1.length c1] 29 (0, 0))) := ⟨blk_below q1.out hb⟩
  have HB2 : Kp (Below w.heap.size w w2) := ⟨below_call HB1.out hb⟩
  clear qc0 qc1 qc2 qc3 qc4 qc5 ql q1 HB1 hb
  have qc0 : w2.cell? ⟨w.heap.size, 0, none⟩ = some (.slice pa C.parts.length pc) := (cell_blk q2.out 0).trans rfl
  have qc1 : w2.cell? ⟨w.heap.size, 1, none⟩ = some (.slice ca C.chans.length cc) := (cell_blk q2.out 1).trans rfl
  have qc2 : w2.cell? ⟨w.heap.size, 2, none⟩ = some (.int .i64 C.l0) := (cell_blk q2.out 2).trans rfl
  have qc3 : w2.cell? ⟨w.heap.size, 3, none⟩ = some (.slice a0 C.w0.length c0) := (cell_blk q2.out 3).trans rfl
  have qc4 : w2.cell? ⟨w.heap.size, 4, none⟩ = some (.int .i64 C.l1) := (cell_blk q2.out 4).trans rfl
  have qc5 : w2.cell? ⟨w.heap.size, 5, none⟩ = some (.slice a1 C.w1.length c1) := (cell_blk q2.out 5).trans rfl
  have ql := blk_lt q2.out
  go_wp2_with fail
  clear qc0 qc1 qc2 qc3 qc4 qc5 ql
  go_loopw [7] (fun i wr => ∃ k : Nat, k ≤ C.chans.length ∧ i = .int .i64 k ∧ Kp (Below w.heap.size w wr) ∧ Kp (wr.heap[w.heap.size]? = some (.cells #[.slice pa C.parts.length pc, .slice ca C.chans.length cc, .int .i64 C.l0, .slice a0 C.w0.length c0, .int .i64 C.l1, .slice a1 C.w1.length c1] 29 (0, 0))) ∧ Kp (mayTo C p a k = false)) (fun i wr => C.chans.length - (intOf i).toNat)
  case atStart => exact ⟨0, Nat.zero_le _, rfl, HB2, q2, ⟨mayTo_zero C p a⟩⟩
  case round =>
    obtain ⟨k, hk, rfl, HB, HK, HT⟩ := hrel
    by_cases hlt : k < C.chans.length
    · obtain ⟨g, o, rfl, hg, hcc⟩ := HCH.out.at (by omega)
      obtain ⟨x, hx⟩ : ∃ x, C.chans[k] = x := ⟨_, rfl⟩
      have HXG : Kp (C.chans.getD k default = x) := ⟨by rw [getD_at _ _ _ (by omega), hx]⟩
      have HCU : Kp (∀ j, j < 7 → w.cell? ⟨g, o + k * 7 + j, none⟩ = (chanC x)[j]?) := ⟨fun j hj => by
        have h1 := hcc (k * 7 + j) (by omega)
        rw [flat_at chanC 7 chanC_len C.chans k j (by omega) hj, hx] at h1
        rw [Nat.add_assoc]
        exact h1⟩
      have hk0 : (0 : Int) ≤ (k : Int) := by omega
      have hk1 : (k : Int) < (C.chans.length : Int) := by omega
      have q0_ : wr.cell? ⟨w.heap.size, 0, none⟩ = some (.slice pa C.parts.length pc) := (cell_blk HK.out 0).trans rfl
      have q1_ : wr.cell? ⟨w.heap.size, 1, none⟩ = some (.slice (some ⟨g, o, none⟩) C.chans.length cc) := (cell_blk HK.out 1).trans rfl
      have q2_ : wr.cell? ⟨w.heap.size, 2, none⟩ = some (.int .i64 C.l0) := (cell_blk HK.out 2).trans rfl
      have q3_ : wr.cell? ⟨w.heap.size, 3, none⟩ = some (.slice a0 C.w0.length c0) := (cell_blk HK.out 3).trans rfl
      have q4_ : wr.cell? ⟨w.heap.size, 4, none⟩ = some (.int .i64 C.l1) := (cell_blk HK.out 4).trans rfl
      have q5_ : wr.cell? ⟨w.heap.size, 5, none⟩ = some (.slice a1 C.w1.length c1) := (cell_blk HK.out 5).trans rfl
      have lq_ := blk_lt HK.out
      have e1_ : wr.cell? ⟨g, o + k * 7 + 1, none⟩ = some (.int .i64 x.frm) := (HB.out.cell (p := ⟨g, o + k * 7 + 1, none⟩) hg).trans (HCU.out 1 (by omega))
      have e2_ : wr.cell? ⟨g, o + k * 7 + 2, none⟩ = some (.int .i64 x.to) := (HB.out.cell (p := ⟨g, o + k * 7 + 2, none⟩) hg).trans (HCU.out 2 (by omega))
      have lb_ := HB.out.size
      have lg_ : g < wr.heap.size := by omega
      clear hcc hx
      by_cases hf : x.frm = p
      · have hf1 : (x.frm == p) = true := by simpa using hf
        cases hs : hasS (srcB C k) a with
        | true =>
          have HS := Kp.mk hs
          clear hs
          have HKK : Kp (mayK C p a k = true) := ⟨by rw [mayK, HXG.out, hf1, HS.out]; simp⟩
          go_wp2_with fail
          refine (rsource0_any _ C hsm k _ (HC.out.below HB.out)).mono ?_
          rintro e wb1 ⟨rfl, hb1⟩
          have HB1 := Kp.mk (below_call HB.out hb1)
          have HK1 := Kp.mk (blk_below HK.out hb1)
          clear hb1
          have q0_1 : wb1.cell? ⟨w.heap.size, 0, none⟩ = some (.slice pa C.parts.length pc) := (cell_blk HK1.out 0).trans rfl
          have q1_1 : wb1.cell? ⟨w.heap.size, 1, none⟩ = some (.slice (some ⟨g, o, none⟩) C.chans.length cc) := (cell_blk HK1.out 1).trans rfl
          have q2_1 : wb1.cell? ⟨w.heap.size, 2, none⟩ = some (.int .i64 C.l0) := (cell_blk HK1.out 2).trans rfl
          have q3_1 : wb1.cell? ⟨w.heap.size, 3, none⟩ = some (.slice a0 C.w0.length c0) := (cell_blk HK1.out 3).trans rfl
          have q4_1 : wb1.cell? ⟨w.heap.size, 4, none⟩ = some (.int .i64 C.l1) := (cell_blk HK1.out 4).trans rfl
          have q5_1 : wb1.cell? ⟨w.heap.size, 5, none⟩ = some (.slice a1 C.w1.length c1) := (cell_blk HK1.out 5).trans rfl
          have lq_1 := blk_lt HK1.out
          have e1_1 : wb1.cell? ⟨g, o + k * 7 + 1, none⟩ = some (.int .i64 x.frm) := (HB1.out.cell (p := ⟨g, o + k * 7 + 1, none⟩) hg).trans (HCU.out 1 (by omega))
          have e2_1 : wb1.cell? ⟨g, o + k * 7 + 2, none⟩ = some (.int .i64 x.to) := (HB1.out.cell (p := ⟨g, o + k * 7 + 2, none⟩) hg).trans (HCU.out 2 (by omega))
          have lb_1 := HB1.out.size
          have lg_1 : g < wb1.heap.size := by omega
          go_wp2_with fail
          refine (rhasS_any (srcB C k) a true HS.out _).mono ?_
          rintro e wb2 ⟨rfl, hb2⟩
          have HB2 := Kp.mk (below_call HB1.out hb2)
          have HK2 := Kp.mk (blk_below HK1.out hb2)
          clear hb2
          have q0_2 : wb2.cell? ⟨w.heap.size, 0, none⟩ = some (.slice pa C.parts.length pc) := (cell_blk HK2.out 0).trans rfl
          have q1_2 : wb2.cell? ⟨w.heap.size, 1, none⟩ = some (.slice (some ⟨g, o, none⟩) C.chans.length cc) := (cell_blk HK2.out 1).trans rfl
          have q2_2 : wb2.cell? ⟨w.heap.size, 2, none⟩ = some (.int .i64 C.l0) := (cell_blk HK2.out 2).trans rfl
          have q3_2 : wb2.cell? ⟨w.heap.size, 3, none⟩ = some (.slice a0 C.w0.length c0) := (cell_blk HK2.out 3).trans rfl
          have q4_2 : wb2.cell? ⟨w.heap.size, 4, none⟩ = some (.int .i64 C.l1) := (cell_blk HK2.out 4).trans rfl
          have q5_2 : wb2.cell? ⟨w.heap.size, 5, none⟩ = some (.slice a1 C.w1.length c1) := (cell_blk HK2.out 5).trans rfl
          have lq_2 := blk_lt HK2.out
          have e1_2 : wb2.cell? ⟨g, o + k * 7 + 1, none⟩ = some (.int .i64 x.frm) := (HB2.out.cell (p := ⟨g, o + k * 7 + 1, none⟩) hg).trans (HCU.out 1 (by omega))
          have e2_2 : wb2.cell? ⟨g, o + k * 7 + 2, none⟩ = some (.int .i64 x.to) := (HB2.out.cell (p := ⟨g, o + k * 7 + 2, none⟩) hg).trans (HCU.out 2 (by omega))
          have lb_2 := HB2.out.size
          have lg_2 : g < wb2.heap.size := by omega
          go_wp2
          go_ret
          exact ⟨ret_bool (by rw [HM.out, mayTo_yes HKK.out hlt]), HB2.out⟩
        | false =>
          by_cases ht : x.to = p
          · have ht1 : (x.to == p) = true := by simpa using ht
            cases hd : hasS (dstB C k) a with
            | true =>
              have HS := Kp.mk hs
              clear hs
              have HD := Kp.mk hd
              clear hd
              have HKK : Kp (mayK C p a k = true) := ⟨by rw [mayK, HXG.out, hf1, HS.out, ht1, HD.out]; simp⟩
              go_wp2_with fail
              refine (rsource0_any _ C hsm k _ (HC.out.below HB.out)).mono ?_
              rintro e wb1 ⟨rfl, hb1⟩
              have HB1 := Kp.mk (below_call HB.out hb1)
              have HK1 := Kp.mk (blk_below HK.out hb1)
              clear hb1
              have q0_1 : wb1.cell? ⟨w.heap.size, 0, none⟩ = some (.slice pa C.parts.length pc) := (cell_blk HK1.out 0).trans rfl
              have q1_1 : wb1.cell? ⟨w.heap.size, 1, none⟩ = some (.slice (some ⟨g, o, none⟩) C.chans.length cc) := (cell_blk HK1.out 1).trans rfl
              have q2_1 : wb1.cell? ⟨w.heap.size, 2, none⟩ = some (.int .i64 C.l0) := (cell_blk HK1.out 2).trans rfl
              have q3_1 : wb1.cell? ⟨w.heap.size, 3, none⟩ = some (.slice a0 C.w0.length c0) := (cell_blk HK1.out 3).trans rfl
              have q4_1 : wb1.cell? ⟨w.heap.size, 4, none⟩ = some (.int .i64 C.l1) := (cell_blk HK1.out 4).trans rfl
              have q5_1 : wb1.cell? ⟨w.heap.size, 5, none⟩ = some (.slice a1 C.w1.length c1) := (cell_blk HK1.out 5).trans rfl
              have lq_1 := blk_lt HK1.out
              have e1_1 : wb1.cell? ⟨g, o + k * 7 + 1, none⟩ = some (.int .i64 x.frm) := (HB1.out.cell (p := ⟨g, o + k * 7 + 1, none⟩) hg).trans (HCU.out 1 (by omega))
              have e2_1 : wb1.cell? ⟨g, o + k * 7 + 2, none⟩ = some (.int .i64 x.to) := (HB1.out.cell (p := ⟨g, o + k * 7 + 2, none⟩) hg).trans (HCU.out 2 (by omega))
              have lb_1 := HB1.out.size
              have lg_1 : g < wb1.heap.size := by omega
              go_wp2_with fail
              refine (rhasS_any (srcB C k) a false HS.out _).mono ?_
              rintro e wb2 ⟨rfl, hb2⟩
              have HB2 := Kp.mk (below_call HB1.out hb2)
              have HK2 := Kp.mk (blk_below HK1.out hb2)
              clear hb2
              have q0_2 : wb2.cell? ⟨w.heap.size, 0, none⟩ = some (.slice pa C.parts.length pc) := (cell_blk HK2.out 0).trans rfl
              have q1_2 : wb2.cell? ⟨w.heap.size, 1, none⟩ = some (.slice (some ⟨g, o, none⟩) C.chans.length cc) := (cell_blk HK2.out 1).trans rfl
              have q2_2 : wb2.cell? ⟨w.heap.size, 2, none⟩ = some (.int .i64 C.l0) := (cell_blk HK2.out 2).trans rfl
              have q3_2 : wb2.cell? ⟨w.heap.size, 3, none⟩ = some (.slice a0 C.w0.length c0) := (cell_blk HK2.out 3).trans rfl
              have q4_2 : wb2.cell? ⟨w.heap.size, 4, none⟩ = some (.int .i64 C.l1) := (cell_blk HK2.out 4).trans rfl
              have q5_2 : wb2.cell? ⟨w.heap.size, 5, none⟩ = some (.slice a1 C.w1.length c1) := (cell_blk HK2.out 5).trans rfl
              have lq_2 := blk_lt HK2.out
              have e1_2 : wb2.cell? ⟨g, o + k * 7 + 1, none⟩ = some (.int .i64 x.frm) := (HB2.out.cell (p := ⟨g, o + k * 7 + 1, none⟩) hg).trans (HCU.out 1 (by omega))
              have e2_2 : wb2.cell? ⟨g, o + k * 7 + 2, none⟩ = some (.int .i64 x.to) := (HB2.out.cell (p := ⟨g, o + k * 7 + 2, none⟩) hg).trans (HCU.out 2 (by omega))
              have lb_2 := HB2.out.size
              have lg_2 : g < wb2.heap.size := by omega
              go_wp2_with fail
              refine (rdest_any _ C hsm k _ (HC.out.below HB2.out)).mono ?_
              rintro e wb3 ⟨rfl, hb3⟩
              have HB3 := Kp.mk (below_call HB2.out hb3)
              have HK3 := Kp.mk (blk_below HK2.out hb3)
              clear hb3
              have q0_3 : wb3.cell? ⟨w.heap.size, 0, none⟩ = some (.slice pa C.parts.length pc) := (cell_blk HK3.out 0).trans rfl
              have q1_3 : wb3.cell? ⟨w.heap.size, 1, none⟩ = some (.slice (some ⟨g, o, none⟩) C.chans.length cc) := (cell_blk HK3.out 1).trans rfl
              have q2_3 : wb3.cell? ⟨w.heap.size, 2, none⟩ = some (.int .i64 C.l0) := (cell_blk HK3.out 2).trans rfl
              have q3_3 : wb3.cell? ⟨w.heap.size, 3, none⟩ = some (.slice a0 C.w0.length c0) := (cell_blk HK3.out 3).trans rfl
              have q4_3 : wb3.cell? ⟨w.heap.size, 4, none⟩ = some (.int .i64 C.l1) := (cell_blk HK3.out 4).trans rfl
              have q5_3 : wb3.cell? ⟨w.heap.size, 5, none⟩ = some (.slice a1 C.w1.length c1) := (cell_blk HK3.out 5).trans rfl
              have lq_3 := blk_lt HK3.out
              have e1_3 : wb3.cell? ⟨g, o + k * 7 + 1, none⟩ = some (.int .i64 x.frm) := (HB3.out.cell (p := ⟨g, o + k * 7 + 1, none⟩) hg).trans (HCU.out 1 (by omega))
              have e2_3 : wb3.cell? ⟨g, o + k * 7 + 2, none⟩ = some (.int .i64 x.to) := (HB3.out.cell (p := ⟨g, o + k * 7 + 2, none⟩) hg).trans (HCU.out 2 (by omega))
              have lb_3 := HB3.out.size
              have lg_3 : g < wb3.heap.size := by omega
              go_wp2_with fail
              refine (rhasS_any (dstB C k) a true HD.out _).mono ?_
              rintro e wb4 ⟨rfl, hb4⟩
              have HB4 := Kp.mk (below_call HB3.out hb4)
              have HK4 := Kp.mk (blk_below HK3.out hb4)
              clear hb4
              have q0_4 : wb4.cell? ⟨w.heap.size, 0, none⟩ = some (.slice pa C.parts.length pc) := (cell_blk HK4.out 0).trans rfl
              have q1_4 : wb4.cell? ⟨w.heap.size, 1, none⟩ = some (.slice (some ⟨g, o, none⟩) C.chans.length cc) := (cell_blk HK4.out 1).trans rfl
              have q2_4 : wb4.cell? ⟨w.heap.size, 2, none⟩ = some (.int .i64 C.l0) := (cell_blk HK4.out 2).trans rfl
              have q3_4 : wb4.cell? ⟨w.heap.size, 3, none⟩ = some (.slice a0 C.w0.length c0) := (cell_blk HK4.out 3).trans rfl
              have q4_4 : wb4.cell? ⟨w.heap.size, 4, none⟩ = some (.int .i64 C.l1) := (cell_blk HK4.out 4).trans rfl
              have q5_4 : wb4.cell? ⟨w.heap.size, 5, none⟩ = some (.slice a1 C.w1.length c1) := (cell_blk HK4.out 5).trans rfl
              have lq_4 := blk_lt HK4.out
              have e1_4 : wb4.cell? ⟨g, o + k * 7 + 1, none⟩ = some (.int .i64 x.frm) := (HB4.out.cell (p := ⟨g, o + k * 7 + 1, none⟩) hg).trans (HCU.out 1 (by omega))
              have e2_4 : wb4.cell? ⟨g, o + k * 7 + 2, none⟩ = some (.int .i64 x.to) := (HB4.out.cell (p := ⟨g, o + k * 7 + 2, none⟩) hg).trans (HCU.out 2 (by omega))
              have lb_4 := HB4.out.size
              have lg_4 : g < wb4.heap.size := by omega
              go_wp2
              go_ret
              exact ⟨ret_bool (by rw [HM.out, mayTo_yes HKK.out hlt]), HB4.out⟩
            | false =>
              have HS := Kp.mk hs
              clear hs
              have HD := Kp.mk hd
              clear hd
              have HKK : Kp (mayK C p a k = false) := ⟨by rw [mayK, HXG.out, hf1, HS.out, ht1, HD.out]; simp⟩
              go_wp2_with fail
              refine (rsource0_any _ C hsm k _ (HC.out.below HB.out)).mono ?_
              rintro e wb1 ⟨rfl, hb1⟩
              have HB1 := Kp.mk (below_call HB.out hb1)
              have HK1 := Kp.mk (blk_below HK.out hb1)
              clear hb1
              have q0_1 : wb1.cell? ⟨w.heap.size, 0, none⟩ = some (.slice pa C.parts.length pc) := (cell_blk HK1.out 0).trans rfl
              have q1_1 : wb1.cell? ⟨w.heap.size, 1, none⟩ = some (.slice (some ⟨g, o, none⟩) C.chans.length cc) := (cell_blk HK1.out 1).trans rfl
              have q2_1 : wb1.cell? ⟨w.heap.size, 2, none⟩ = some (.int .i64 C.l0) := (cell_blk HK1.out 2).trans rfl
              have q3_1 : wb1.cell? ⟨w.heap.size, 3, none⟩ = some (.slice a0 C.w0.length c0) := (cell_blk HK1.out 3).trans rfl
              have q4_1 : wb1.cell? ⟨w.heap.size, 4, none⟩ = some (.int .i64 C.l1) := (cell_blk HK1.out 4).trans rfl
              have q5_1 : wb1.cell? ⟨w.heap.size, 5, none⟩ = some (.slice a1 C.w1.length c1) := (cell_blk HK1.out 5).trans rfl
              have lq_1 := blk_lt HK1.out
              have e1_1 : wb1.cell? ⟨g, o + k * 7 + 1, none⟩ = some (.int .i64 x.frm) := (HB1.out.cell (p := ⟨g, o + k * 7 + 1, none⟩) hg).trans (HCU.out 1 (by omega))
              have e2_1 : wb1.cell? ⟨g, o + k * 7 + 2, none⟩ = some (.int .i64 x.to) := (HB1.out.cell (p := ⟨g, o + k * 7 + 2, none⟩) hg).trans (HCU.out 2 (by omega))
              have lb_1 := HB1.out.size
              have lg_1 : g < wb1.heap.size := by omega
              go_wp2_with fail
              refine (rhasS_any (srcB C k) a false HS.out _).mono ?_
              rintro e wb2 ⟨rfl, hb2⟩
              have HB2 := Kp.mk (below_call HB1.out hb2)
              have HK2 := Kp.mk (blk_below HK1.out hb2)
              clear hb2
              have q0_2 : wb2.cell? ⟨w.heap.size, 0, none⟩ = some (.slice pa C.parts.length pc) := (cell_blk HK2.out 0).trans rfl
              have q1_2 : wb2.cell? ⟨w.heap.size, 1, none⟩ = some (.slice (some ⟨g, o, none⟩) C.chans.length cc) := (cell_blk HK2.out 1).trans rfl
              have q2_2 : wb2.cell? ⟨w.heap.size, 2, none⟩ = some (.int .i64 C.l0) := (cell_blk HK2.out 2).trans rfl
              have q3_2 : wb2.cell? ⟨w.heap.size, 3, none⟩ = some (.slice a0 C.w0.length c0) := (cell_blk HK2.out 3).trans rfl
              have q4_2 : wb2.cell? ⟨w.heap.size, 4, none⟩ = some (.int .i64 C.l1) := (cell_blk HK2.out 4).trans rfl
              have q5_2 : wb2.cell? ⟨w.heap.size, 5, none⟩ = some (.slice a1 C.w1.length c1) := (cell_blk HK2.out 5).trans rfl
              have lq_2 := blk_lt HK2.out
              have e1_2 : wb2.cell? ⟨g, o + k * 7 + 1, none⟩ = some (.int .i64 x.frm) := (HB2.out.cell (p := ⟨g, o + k * 7 + 1, none⟩) hg).trans (HCU.out 1 (by omega))
              have e2_2 : wb2.cell? ⟨g, o + k * 7 + 2, none⟩ = some (.int .i64 x.to) := (HB2.out.cell (p := ⟨g, o + k * 7 + 2, none⟩) hg).trans (HCU.out 2 (by omega))
              have lb_2 := HB2.out.size
              have lg_2 : g < wb2.heap.size := by omega
              go_wp2_with fail
              refine (rdest_any _ C hsm k _ (HC.out.below HB2.out)).mono ?_
              rintro e wb3 ⟨rfl, hb3⟩
              have HB3 := Kp.mk (below_call HB2.out hb3)
              have HK3 := Kp.mk (blk_below HK2.out hb3)
              clear hb3
              have q0_3 : wb3.cell? ⟨w.heap.size, 0, none⟩ = some (.slice pa C.parts.length pc) := (cell_blk HK3.out 0).trans rfl
              have q1_3 : wb3.cell? ⟨w.heap.size, 1, none⟩ = some (.slice (some ⟨g, o, none⟩) C.chans.length cc) := (cell_blk HK3.out 1).trans rfl
              have q2_3 : wb3.cell? ⟨w.heap.size, 2, none⟩ = some (.int .i64 C.l0) := (cell_blk HK3.out 2).trans rfl
              have q3_3 : wb3.cell? ⟨w.heap.size, 3, none⟩ = some (.slice a0 C.w0.length c0) := (cell_blk HK3.out 3).trans rfl
              have q4_3 : wb3.cell? ⟨w.heap.size, 4, none⟩ = some (.int .i64 C.l1) := (cell_blk HK3.out 4).trans rfl
              have q5_3 : wb3.cell? ⟨w.heap.size, 5, none⟩ = some (.slice a1 C.w1.length c1) := (cell_blk HK3.out 5).trans rfl
              have lq_3 := blk_lt HK3.out
              have e1_3 : wb3.cell? ⟨g, o + k * 7 + 1, none⟩ = some (.int .i64 x.frm) := (HB3.out.cell (p := ⟨g, o + k * 7 + 1, none⟩) hg).trans (HCU.out 1 (by omega))
              have e2_3 : wb3.cell? ⟨g, o + k * 7 + 2, none⟩ = some (.int .i64 x.to) := (HB3.out.cell (p := ⟨g, o + k * 7 + 2, none⟩) hg).trans (HCU.out 2 (by omega))
              have lb_3 := HB3.out.size
              have lg_3 : g < wb3.heap.size := by omega
              go_wp2_with fail
              refine (rhasS_any (dstB C k) a false HD.out _).mono ?_
              rintro e wb4 ⟨rfl, hb4⟩
              have HB4 := Kp.mk (below_call HB3.out hb4)
              have HK4 := Kp.mk (blk_below HK3.out hb4)
              clear hb4
              have q0_4 : wb4.cell? ⟨w.heap.size, 0, none⟩ = some (.slice pa C.parts.length pc) := (cell_blk HK4.out 0).trans rfl
              have q1_4 : wb4.cell? ⟨w.heap.size, 1, none⟩ = some (.slice (some ⟨g, o, none⟩) C.chans.length cc) := (cell_blk HK4.out 1).trans rfl
              have q2_4 : wb4.cell? ⟨w.heap.size, 2, none⟩ = some (.int .i64 C.l0) := (cell_blk HK4.out 2).trans rfl
              have q3_4 : wb4.cell? ⟨w.heap.size, 3, none⟩ = some (.slice a0 C.w0.length c0) := (cell_blk HK4.out 3).trans rfl
              have q4_4 : wb4.cell? ⟨w.heap.size, 4, none⟩ = some (.int .i64 C.l1) := (cell_blk HK4.out 4).trans rfl
              have q5_4 : wb4.cell? ⟨w.heap.size, 5, none⟩ = some (.slice a1 C.w1.length c1) := (cell_blk HK4.out 5).trans rfl
              have lq_4 := blk_lt HK4.out
              have e1_4 : wb4.cell? ⟨g, o + k * 7 + 1, none⟩ = some (.int .i64 x.frm) := (HB4.out.cell (p := ⟨g, o + k * 7 + 1, none⟩) hg).trans (HCU.out 1 (by omega))
              have e2_4 : wb4.cell? ⟨g, o + k * 7 + 2, none⟩ = some (.int .i64 x.to) := (HB4.out.cell (p := ⟨g, o + k * 7 + 2, none⟩) hg).trans (HCU.out 2 (by omega))
              have lb_4 := HB4.out.size
              have lg_4 : g < wb4.heap.size := by omega
              go_wp2
              go_roundw
              case rel => exact ⟨k + 1, by omega, by go_num, HB4, HK4, ⟨by rw [mayTo_succ, HT.out, HKK.out]; rfl⟩⟩
              case measure => simp [intOf]; omega
          · have ht1 : (x.to == p) = false := by simpa using ht
            have HS := Kp.mk hs
            clear hs
            have HKK : Kp (mayK C p a k = false) := ⟨by rw [mayK, HXG.out, hf1, HS.out, ht1]; simp⟩
            go_wp2_with fail
            refine (rsource0_any _ C hsm k _ (HC.out.below HB.out)).mono ?_
            rintro e wb1 ⟨rfl, hb1⟩
            have HB1 := Kp.mk (below_call HB.out hb1)
            have HK1 := Kp.mk (blk_below HK.out hb1)
            clear hb1
            have q0_1 : wb1.cell? ⟨w.heap.size, 0, none⟩ = some (.slice pa C.parts.length pc) := (cell_blk HK1.out 0).trans rfl
            have q1_1 : wb1.cell? ⟨w.heap.size, 1, none⟩ = some (.slice (some ⟨g, o, none⟩) C.chans.length cc) := (cell_blk HK1.out 1).trans rfl
            have q2_1 : wb1.cell? ⟨w.heap.size, 2, none⟩ = some (.int .i64 C.l0) := (cell_blk HK1.out 2).trans rfl
            have q3_1 : wb1.cell? ⟨w.heap.size, 3, none⟩ = some (.slice a0 C.w0.length c0) := (cell_blk HK1.out 3).trans rfl
            have q4_1 : wb1.cell? ⟨w.heap.size, 4, none⟩ = some (.int .i64 C.l1) := (cell_blk HK1.out 4).trans rfl
            have q5_1 : wb1.cell? ⟨w.heap.size, 5, none⟩ = some (.slice a1 C.w1.length c1) := (cell_blk HK1.out 5).trans rfl
            have lq_1 := blk_lt HK1.out
            have e1_1 : wb1.cell? ⟨g, o + k * 7 + 1, none⟩ = some (.int .i64 x.frm) := (HB1.out.cell (p := ⟨g, o + k * 7 + 1, none⟩) hg).trans (HCU.out 1 (by omega))
            have e2_1 : wb1.cell? ⟨g, o + k * 7 + 2, none⟩ = some (.int .i64 x.to) := (HB1.out.cell (p := ⟨g, o + k * 7 + 2, none⟩) hg).trans (HCU.out 2 (by omega))
            have lb_1 := HB1.out.size
            have lg_1 : g < wb1.heap.size := by omega
            go_wp2_with fail
            refine (rhasS_any (srcB C k) a false HS.out _).mono ?_
            rintro e wb2 ⟨rfl, hb2⟩
            have HB2 := Kp.mk (below_call HB1.out hb2)
            have HK2 := Kp.mk (blk_below HK1.out hb2)
            clear hb2
            have q0_2 : wb2.cell? ⟨w.heap.size, 0, none⟩ = some (.slice pa C.parts.length pc) := (cell_blk HK2.out 0).trans rfl
            have q1_2 : wb2.cell? ⟨w.heap.size, 1, none⟩ = some (.slice (some ⟨g, o, none⟩) C.chans.length cc) := (cell_blk HK2.out 1).trans rfl
            have q2_2 : wb2.cell? ⟨w.heap.size, 2, none⟩ = some (.int .i64 C.l0) := (cell_blk HK2.out 2).trans rfl
            have q3_2 : wb2.cell? ⟨w.heap.size, 3, none⟩ = some (.slice a0 C.w0.length c0) := (cell_blk HK2.out 3).trans rfl
            have q4_2 : wb2.cell? ⟨w.heap.size, 4, none⟩ = some (.int .i64 C.l1) := (cell_blk HK2.out 4).trans rfl
            have q5_2 : wb2.cell? ⟨w.heap.size, 5, none⟩ = some (.slice a1 C.w1.length c1) := (cell_blk HK2.out 5).trans rfl
            have lq_2 := blk_lt HK2.out
            have e1_2 : wb2.cell? ⟨g, o + k * 7 + 1, none⟩ = some (.int .i64 x.frm) := (HB2.out.cell (p := ⟨g, o + k * 7 + 1, none⟩) hg).trans (HCU.out 1 (by omega))
            have e2_2 : wb2.cell? ⟨g, o + k * 7 + 2, none⟩ = some (.int .i64 x.to) := (HB2.out.cell (p := ⟨g, o + k * 7 + 2, none⟩) hg).trans (HCU.out 2 (by omega))
            have lb_2 := HB2.out.size
            have lg_2 : g < wb2.heap.size := by omega
            go_wp2
            go_roundw
            case rel => exact ⟨k + 1, by omega, by go_num, HB2, HK2, ⟨by rw [mayTo_succ, HT.out, HKK.out]; rfl⟩⟩
            case measure => simp [intOf]; omega
      · have hf1 : (x.frm == p) = false := by simpa using hf
        by_cases ht : x.to = p
        · have ht1 : (x.to == p) = true := by simpa using ht
          cases hd : hasS (dstB C k) a with
          | true =>
            have HD := Kp.mk hd
            clear hd
            have HKK : Kp (mayK C p a k = true) := ⟨by rw [mayK, HXG.out, hf1, ht1, HD.out]; simp⟩
            go_wp2_with fail
            refine (rdest_any _ C hsm k _ (HC.out.below HB.out)).mono ?_
            rintro e wb1 ⟨rfl, hb1⟩
            have HB1 := Kp.mk (below_call HB.out hb1)
            have HK1 := Kp.mk (blk_below HK.out hb1)
            clear hb1
            have q0_1 : wb1.cell? ⟨w.heap.size, 0, none⟩ = some (.slice pa C.parts.length pc) := (cell_blk HK1.out 0).trans rfl
            have q1_1 : wb1.cell? ⟨w.heap.size, 1, none⟩ = some (.slice (some ⟨g, o, none⟩) C.chans.length cc) := (cell_blk HK1.out 1).trans rfl
            have q2_1 : wb1.cell? ⟨w.heap.size, 2, none⟩ = some (.int .i64 C.l0) := (cell_blk HK1.out 2).trans rfl
            have q3_1 : wb1.cell? ⟨w.heap.size, 3, none⟩ = some (.slice a0 C.w0.length c0) := (cell_blk HK1.out 3).trans rfl
            have q4_1 : wb1.cell? ⟨w.heap.size, 4, none⟩ = some (.int .i64 C.l1) := (cell_blk HK1.out 4).trans rfl
            have q5_1 : wb1.cell? ⟨w.heap.size, 5, none⟩ = some (.slice a1 C.w1.length c1) := (cell_blk HK1.out 5).trans rfl
            have lq_1 := blk_lt HK1.out
            have e1_1 : wb1.cell? ⟨g, o + k * 7 + 1, none⟩ = some (.int .i64 x.frm) := (HB1.out.cell (p := ⟨g, o + k * 7 + 1, none⟩) hg).trans (HCU.out 1 (by omega))
            have e2_1 : wb1.cell? ⟨g, o + k * 7 + 2, none⟩ = some (.int .i64 x.to) := (HB1.out.cell (p := ⟨g, o + k * 7 + 2, none⟩) hg).trans (HCU.out 2 (by omega))
            have lb_1 := HB1.out.size
            have lg_1 : g < wb1.heap.size := by omega
            go_wp2_with fail
            refine (rhasS_any (dstB C k) a true HD.out _).mono ?_
            rintro e wb2 ⟨rfl, hb2⟩
            have HB2 := Kp.mk (below_call HB1.out hb2)
            have HK2 := Kp.mk (blk_below HK1.out hb2)
            clear hb2
            have q0_2 : wb2.cell? ⟨w.heap.size, 0, none⟩ = some (.slice pa C.parts.length pc) := (cell_blk HK2.out 0).trans rfl
            have q1_2 : wb2.cell? ⟨w.heap.size, 1, none⟩ = some (.slice (some ⟨g, o, none⟩) C.chans.length cc) := (cell_blk HK2.out 1).trans rfl
            have q2_2 : wb2.cell? ⟨w.heap.size, 2, none⟩ = some (.int .i64 C.l0) := (cell_blk HK2.out 2).trans rfl
            have q3_2 : wb2.cell? ⟨w.heap.size, 3, none⟩ = some (.slice a0 C.w0.length c0) := (cell_blk HK2.out 3).trans rfl
            have q4_2 : wb2.cell? ⟨w.heap.size, 4, none⟩ = some (.int .i64 C.l1) := (cell_blk HK2.out 4).trans rfl
            have q5_2 : wb2.cell? ⟨w.heap.size, 5, none⟩ = some (.slice a1 C.w1.length c1) := (cell_blk HK2.out 5).trans rfl
            have lq_2 := blk_lt HK2.out
            have e1_2 : wb2.cell? ⟨g, o + k * 7 + 1, none⟩ = some (.int .i64 x.frm) := (HB2.out.cell (p := ⟨g, o + k * 7 + 1, none⟩) hg).trans (HCU.out 1 (by omega))
            have e2_2 : wb2.cell? ⟨g, o + k * 7 + 2, none⟩ = some (.int .i64 x.to) := (HB2.out.cell (p := ⟨g, o + k * 7 + 2, none⟩) hg).trans (HCU.out 2 (by omega))
            have lb_2 := HB2.out.size
            have lg_2 : g < wb2.heap.size := by omega
            go_wp2
            go_ret
            exact ⟨ret_bool (by rw [HM.out, mayTo_yes HKK.out hlt]), HB2.out⟩
          | false =>
            have HD := Kp.mk hd
            clear hd
            have HKK : Kp (mayK C p a k = false) := ⟨by rw [mayK, HXG.out, hf1, ht1, HD.out]; simp⟩
            go_wp2_with fail
            refine (rdest_any _ C hsm k _ (HC.out.below HB.out)).mono ?_
            rintro e wb1 ⟨rfl, hb1⟩
            have HB1 := Kp.mk (below_call HB.out hb1)
            have HK1 := Kp.mk (blk_below HK.out hb1)
            clear hb1
            have q0_1 : wb1.cell? ⟨w.heap.size, 0, none⟩ = some (.slice pa C.parts.length pc) := (cell_blk HK1.out 0).trans rfl
            have q1_1 : wb1.cell? ⟨w.heap.size, 1, none⟩ = some (.slice (some ⟨g, o, none⟩) C.chans.length cc) := (cell_blk HK1.out 1).trans rfl
            have q2_1 : wb1.cell? ⟨w.heap.size, 2, none⟩ = some (.int .i64 C.l0) := (cell_blk HK1.out 2).trans rfl
            have q3_1 : wb1.cell? ⟨w.heap.size, 3, none⟩ = some (.slice a0 C.w0.length c0) := (cell_blk HK1.out 3).trans rfl
            have q4_1 : wb1.cell? ⟨w.heap.size, 4, none⟩ = some (.int .i64 C.l1) := (cell_blk HK1.out 4).trans rfl
            have q5_1 : wb1.cell? ⟨w.heap.size, 5, none⟩ = some (.slice a1 C.w1.length c1) := (cell_blk HK1.out 5).trans rfl
            have lq_1 := blk_lt HK1.out
            have e1_1 : wb1.cell? ⟨g, o + k * 7 + 1, none⟩ = some (.int .i64 x.frm) := (HB1.out.cell (p := ⟨g, o + k * 7 + 1, none⟩) hg).trans (HCU.out 1 (by omega))
            have e2_1 : wb1.cell? ⟨g, o + k * 7 + 2, none⟩ = some (.int .i64 x.to) := (HB1.out.cell (p := ⟨g, o + k * 7 + 2, none⟩) hg).trans (HCU.out 2 (by omega))
            have lb_1 := HB1.out.size
            have lg_1 : g < wb1.heap.size := by omega
            go_wp2_with fail
            refine (rhasS_any (dstB C k) a false HD.out _).mono ?_
            rintro e wb2 ⟨rfl, hb2⟩
            have HB2 := Kp.mk (below_call HB1.out hb2)
            have HK2 := Kp.mk (blk_below HK1.out hb2)
            clear hb2
            have q0_2 : wb2.cell? ⟨w.heap.size, 0, none⟩ = some (.slice pa C.parts.length pc) := (cell_blk HK2.out 0).trans rfl
            have q1_2 : wb2.cell? ⟨w.heap.size, 1, none⟩ = some (.slice (some ⟨g, o, none⟩) C.chans.length cc) := (cell_blk HK2.out 1).trans rfl
            have q2_2 : wb2.cell? ⟨w.heap.size, 2, none⟩ = some (.int .i64 C.l0) := (cell_blk HK2.out 2).trans rfl
            have q3_2 : wb2.cell? ⟨w.heap.size, 3, none⟩ = some (.slice a0 C.w0.length c0) := (cell_blk HK2.out 3).trans rfl
            have q4_2 : wb2.cell? ⟨w.heap.size, 4, none⟩ = some (.int .i64 C.l1) := (cell_blk HK2.out 4).trans rfl
            have q5_2 : wb2.cell? ⟨w.heap.size, 5, none⟩ = some (.slice a1 C.w1.length c1) := (cell_blk HK2.out 5).trans rfl
            have lq_2 := blk_lt HK2.out
            have e1_2 : wb2.cell? ⟨g, o + k * 7 + 1, none⟩ = some (.int .i64 x.frm) := (HB2.out.cell (p := ⟨g, o + k * 7 + 1, none⟩) hg).trans (HCU.out 1 (by omega))
            have e2_2 : wb2.cell? ⟨g, o + k * 7 + 2, none⟩ = some (.int .i64 x.to) := (HB2.out.cell (p := ⟨g, o + k * 7 + 2, none⟩) hg).trans (HCU.out 2 (by omega))
            have lb_2 := HB2.out.size
            have lg_2 : g < wb2.heap.size := by omega
            go_wp2
            go_roundw
            case rel => exact ⟨k + 1, by omega, by go_num, HB2, HK2, ⟨by rw [mayTo_succ, HT.out, HKK.out]; rfl⟩⟩
            case measure => simp [intOf]; omega
        · have ht1 : (x.to == p) = false := by simpa using ht
          have HKK : Kp (mayK C p a k = false) := ⟨by rw [mayK, HXG.out, hf1, ht1]; simp⟩
          go_wp2
          go_roundw
          case rel => exact ⟨k + 1, by omega, by go_num, HB, HK, ⟨by rw [mayTo_succ, HT.out, HKK.out]; rfl⟩⟩
          case measure => simp [intOf]; omega
    · obtain rfl : k = C.chans.length := by omega
      have q0 : wr.cell? ⟨w.heap.size, 0, none⟩ = some (.slice pa C.parts.length pc) := (cell_blk HK.out 0).trans rfl
      have q1 : wr.cell? ⟨w.heap.size, 1, none⟩ = some (.slice ca C.chans.length cc) := (cell_blk HK.out 1).trans rfl
      have lq := blk_lt HK.out
      go_wp2
      go_ret
      exact ⟨ret_bool (by rw [HM.out, HT.out]), HB.out⟩
theorem rmay_any (cv : Value) (C : Cfg) (hsm : C.small) (p a : Int) (w : World) (h : CfgAt w cv C) : Calls Try.prog 40 #[cv, .int .i64 p, .int .i64 a] w fun e w' => e = .returned (.bool (mayB C p a)) ∧ Below w.heap.size w w' := by
  cases hh : hasS (privB C p) a with
  | true => exact rmay_priv cv C hsm p a hh w h
  | false => exact rmay_rest cv C hsm p a hh w h
end Go.Proofs.Ytpeajlponlmceaa

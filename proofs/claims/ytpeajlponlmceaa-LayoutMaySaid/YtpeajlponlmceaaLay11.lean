/- Contracts of package layout: May. -/
import Derived.Test.YtpeajlponlmceaaLayM
import Derived.Test.YtpeajlponlmceaaRgN
import Derived.Deep.DeepCutAuto
namespace Go.Proofs.Ytpeajlponlmceaa
open Go.RowKit
set_option linter.unusedSimpArgs false
set_option linter.unusedVariables false

set_option maxRecDepth 100000 in
set_option maxHeartbeats 4000000 in
theorem at_priv (C : Cfg) (ha : accB C = true) (p : Int) (v : Value) (E : Int) (w : World) (h : RowAt w 2 v (planL C).length ((planL C).flatMap spanC)) : Calls Try.prog 56 #[.agg #[.int .i64 C.parts.length, v, .int .i64 E], .int .i64 0, .int .i64 p, .int .i64 C.parts.length] w fun e w' => e = .returned (.agg #[.int .i64 (privB C p).1, .int .i64 (privB C p).2]) ∧ Below w.heap.size w w' := by
  have hl := planL_len C ha
  have hle := planL_le C
  by_cases hp : 0 ≤ p ∧ p < C.parts.length
  · obtain ⟨j, rfl⟩ := Int.eq_ofNat_of_zero_le hp.1
    exact at_yes _ _ _ (planL C) 0 j _ (by omega) hp.2 (by omega) (by omega) _ (privB_yes C ha j (by omega)) w h
  · rw [privB_no C p (fun hh => hp hh.2)]
    exact at_no _ _ _ 0 p _ hp w
theorem hasS_any (s : Int × Int) (a : Int) (b : Bool) (h : hasS s a = b) (w : World) : Calls Try.prog 59 #[.agg #[.int .i64 s.1, .int .i64 s.2], .int .i64 a] w fun e w' => e = .returned (.bool b) ∧ Below w.heap.size w w' := has_any s.1 s.2 a b h w
set_option maxRecDepth 100000 in
set_option maxHeartbeats 4000000 in
theorem may_priv (cv : Value) (C : Cfg) (hsm : C.small) (ha : accB C = true) (p a : Int) (hh : hasS (privB C p) a = true) (w : World) (h : CfgAt w cv C) : Calls Try.prog 39 #[cv, .int .i64 p, .int .i64 a] w fun e w' => e = .returned (.bool (mayB C p a)) ∧ Below w.heap.size w w' := by
  have HC := Kp.mk h
  have HH := Kp.mk hh
  have HM : Kp (mayB C p a = true) := ⟨by rw [mayB, hh]; rfl⟩
  obtain ⟨ho, pa, pc, ca, cc, a0, c0, a1, c1, rfl, bp, bc, b0, b1, hp, hc, hw0, hw1⟩ := h
  clear ho hp hc hw0 hw1 hh
  go_enter Try.func39, Try.ntmps39
  have HB0 : Kp (Below w.heap.size w w) := ⟨Below.refl _ _⟩
  go_wp2_with fail
  refine (of_yes _ C hsm ha _ (HC.out.below (below_al HB0.out _))).mono ?_
  rintro e w1 ⟨⟨v, rfl, hO⟩, hb⟩
  have q1 : Kp (w1.heap[w.heap.size]? = some (.cells #[.slice pa C.parts.length pc, .slice ca C.chans.length cc, .int .i64 C.l0, .slice a0 C.w0.length c0, .int .i64 C.l1, .slice a1 C.w1.length c1] 29 (0, 0))) := ⟨blk_below (blk_new _ _) hb⟩
  have HB1 : Kp (Below w.heap.size w w1) := ⟨below_call (below_al HB0.out _) hb⟩
  have O1 : Kp (RowAt w1 2 v (planL C).length ((planL C).flatMap spanC)) := ⟨RowAt.of_own hO⟩
  clear HB0 hb
  have qc0 : w1.cell? ⟨w.heap.size, 0, none⟩ = some (.slice pa C.parts.length pc) := (cell_blk q1.out 0).trans rfl
  have qc1 : w1.cell? ⟨w.heap.size, 1, none⟩ = some (.slice ca C.chans.length cc) := (cell_blk q1.out 1).trans rfl
  have qc2 : w1.cell? ⟨w.heap.size, 2, none⟩ = some (.int .i64 C.l0) := (cell_blk q1.out 2).trans rfl
  have qc3 : w1.cell? ⟨w.heap.size, 3, none⟩ = some (.slice a0 C.w0.length c0) := (cell_blk q1.out 3).trans rfl
  have qc4 : w1.cell? ⟨w.heap.size, 4, none⟩ = some (.int .i64 C.l1) := (cell_blk q1.out 4).trans rfl
  have qc5 : w1.cell? ⟨w.heap.size, 5, none⟩ = some (.slice a1 C.w1.length c1) := (cell_blk q1.out 5).trans rfl
  have ql := blk_lt q1.out
  obtain ⟨va, vc, rfl, hva1, hva2⟩ := O1.out.shape
  clear hO
  go_wp2_with fail
  refine (at_priv C ha p _ _ _ (O1.out.below (below_al (Below.refl _ _) _))).mono ?_
  rintro e w2 ⟨rfl, hb⟩
  have p2 : Kp (w2.heap[w1.heap.size]? = some (.cells #[.int .i64 C.parts.length, .slice va (planL C).length vc, .int .i64 (planE C)] 79 (0, 0))) := ⟨blk_below (blk_new _ _) hb⟩
  have q2 : Kp (w2.heap[w.heap.size]? = some (.cells #[.slice pa C.parts.length pc, .slice ca C.chans.length cc, .int .i64 C.l0, .slice a0 C.w0.length c0, .int .i64 C.l1, .slice a1 C.w1.length c1] 29 (0, 0))) := ⟨blk_below (blk_al q1.out _) hb⟩
  have HB2 : Kp (Below w.heap.size w w2) := ⟨below_call (below_al HB1.out _) hb⟩
  have O2 : Kp (RowAt w2 2 (.slice va (planL C).length vc) (planL C).length ((planL C).flatMap spanC)) := ⟨(O1.out.below (below_al (Below.refl _ _) _)).below hb⟩
  clear qc0 qc1 qc2 qc3 qc4 qc5 ql q1 HB1 O1 hb
  have pc0 : w2.cell? ⟨w1.heap.size, 0, none⟩ = some (.int .i64 C.parts.length) := (cell_blk p2.out 0).trans rfl
  have pc1 : w2.cell? ⟨w1.heap.size, 1, none⟩ = some (.slice va (planL C).length vc) := (cell_blk p2.out 1).trans rfl
  have pc2 : w2.cell? ⟨w1.heap.size, 2, none⟩ = some (.int .i64 (planE C)) := (cell_blk p2.out 2).trans rfl
  have pl := blk_lt p2.out
  have qc0 : w2.cell? ⟨w.heap.size, 0, none⟩ = some (.slice pa C.parts.length pc) := (cell_blk q2.out 0).trans rfl
  have qc1 : w2.cell? ⟨w.heap.size, 1, none⟩ = some (.slice ca C.chans.length cc) := (cell_blk q2.out 1).trans rfl
  have qc2 : w2.cell? ⟨w.heap.size, 2, none⟩ = some (.int .i64 C.l0) := (cell_blk q2.out 2).trans rfl
  have qc3 : w2.cell? ⟨w.heap.size, 3, none⟩ = some (.slice a0 C.w0.length c0) := (cell_blk q2.out 3).trans rfl
  have qc4 : w2.cell? ⟨w.heap.size, 4, none⟩ = some (.int .i64 C.l1) := (cell_blk q2.out 4).trans rfl
  have qc5 : w2.cell? ⟨w.heap.size, 5, none⟩ = some (.slice a1 C.w1.length c1) := (cell_blk q2.out 5).trans rfl
  have ql := blk_lt q2.out
  go_wp2_with fail
  refine (hasS_any (privB C p) a true HH.out _).mono ?_
  rintro e w3 ⟨rfl, hb⟩
  have p3 : Kp (w3.heap[w1.heap.size]? = some (.cells #[.int .i64 C.parts.length, .slice va (planL C).length vc, .int .i64 (planE C)] 79 (0, 0))) := ⟨blk_below p2.out hb⟩
  have q3 : Kp (w3.heap[w.heap.size]? = some (.cells #[.slice pa C.parts.length pc, .slice ca C.chans.length cc, .int .i64 C.l0, .slice a0 C.w0.length c0, .int .i64 C.l1, .slice a1 C.w1.length c1] 29 (0, 0))) := ⟨blk_below q2.out hb⟩
  have HB3 : Kp (Below w.heap.size w w3) := ⟨below_call HB2.out hb⟩
  have O3 : Kp (RowAt w3 2 (.slice va (planL C).length vc) (planL C).length ((planL C).flatMap spanC)) := ⟨O2.out.below hb⟩
  clear pc0 pc1 pc2 pl qc0 qc1 qc2 qc3 qc4 qc5 ql p2 q2 HB2 O2 hb
  have pc0 : w3.cell? ⟨w1.heap.size, 0, none⟩ = some (.int .i64 C.parts.length) := (cell_blk p3.out 0).trans rfl
  have pc1 : w3.cell? ⟨w1.heap.size, 1, none⟩ = some (.slice va (planL C).length vc) := (cell_blk p3.out 1).trans rfl
  have pc2 : w3.cell? ⟨w1.heap.size, 2, none⟩ = some (.int .i64 (planE C)) := (cell_blk p3.out 2).trans rfl
  have pl := blk_lt p3.out
  have qc0 : w3.cell? ⟨w.heap.size, 0, none⟩ = some (.slice pa C.parts.length pc) := (cell_blk q3.out 0).trans rfl
  have qc1 : w3.cell? ⟨w.heap.size, 1, none⟩ = some (.slice ca C.chans.length cc) := (cell_blk q3.out 1).trans rfl
  have qc2 : w3.cell? ⟨w.heap.size, 2, none⟩ = some (.int .i64 C.l0) := (cell_blk q3.out 2).trans rfl
  have qc3 : w3.cell? ⟨w.heap.size, 3, none⟩ = some (.slice a0 C.w0.length c0) := (cell_blk q3.out 3).trans rfl
  have qc4 : w3.cell? ⟨w.heap.size, 4, none⟩ = some (.int .i64 C.l1) := (cell_blk q3.out 4).trans rfl
  have qc5 : w3.cell? ⟨w.heap.size, 5, none⟩ = some (.slice a1 C.w1.length c1) := (cell_blk q3.out 5).trans rfl
  have ql := blk_lt q3.out
  go_wp2
  go_ret
  exact ⟨ret_bool (by rw [HM.out]), HB3.out⟩

set_option maxRecDepth 100000 in
set_option maxHeartbeats 8000000 in
theorem may_rest (cv : Value) (C : Cfg) (hsm : C.small) (ha : accB C = true) (p a : Int) (hh : hasS (privB C p) a = false) (w : World) (h : CfgAt w cv C) : Calls Try.prog 39 #[cv, .int .i64 p, .int .i64 a] w fun e w' => e = .returned (.bool (mayB C p a)) ∧ Below w.heap.size w w' := by
  have HC := Kp.mk h
  have HH := Kp.mk hh
  have HM : Kp (mayB C p a = mayTo C p a C.chans.length) := ⟨by rw [mayB, hh]; rfl⟩
  have hs2 := hsm.2.1
  have HPL := Kp.mk (planL_len C ha)
  have hnp := (acc_of ha).np
  have hnc := (acc_of ha).nc
  obtain ⟨ho, pa, pc, ca, cc, a0, c0, a1, c1, rfl, bp, bc, b0, b1, hp, hc, hw0, hw1⟩ := h
  have HCH := Kp.mk hc
  clear ho hp hc hw0 hw1 hh
  go_enter Try.func39, Try.ntmps39
  have HB0 : Kp (Below w.heap.size w w) := ⟨Below.refl _ _⟩
  go_wp2_with fail
  refine (of_yes _ C hsm ha _ (HC.out.below (below_al HB0.out _))).mono ?_
  rintro e w1 ⟨⟨v, rfl, hO⟩, hb⟩
  have q1 : Kp (w1.heap[w.heap.size]? = some (.cells #[.slice pa C.parts.length pc, .slice ca C.chans.length cc, .int .i64 C.l0, .slice a0 C.w0.length c0, .int .i64 C.l1, .slice a1 C.w1.length c1] 29 (0, 0))) := ⟨blk_below (blk_new _ _) hb⟩
  have HB1 : Kp (Below w.heap.size w w1) := ⟨below_call (below_al HB0.out _) hb⟩
  have O1 : Kp (RowAt w1 2 v (planL C).length ((planL C).flatMap spanC)) := ⟨RowAt.of_own hO⟩
  clear HB0 hb
  have qc0 : w1.cell? ⟨w.heap.size, 0, none⟩ = some (.slice pa C.parts.length pc) := (cell_blk q1.out 0).trans rfl
  have qc1 : w1.cell? ⟨w.heap.size, 1, none⟩ = some (.slice ca C.chans.length cc) := (cell_blk q1.out 1).trans rfl
  have qc2 : w1.cell? ⟨w.heap.size, 2, none⟩ = some (.int .i64 C.l0) := (cell_blk q1.out 2).trans rfl
  have qc3 : w1.cell? ⟨w.heap.size, 3, none⟩ = some (.slice a0 C.w0.length c0) := (cell_blk q1.out 3).trans rfl
  have qc4 : w1.cell? ⟨w.heap.size, 4, none⟩ = some (.int .i64 C.l1) := (cell_blk q1.out 4).trans rfl
  have qc5 : w1.cell? ⟨w.heap.size, 5, none⟩ = some (.slice a1 C.w1.length c1) := (cell_blk q1.out 5).trans rfl
  have ql := blk_lt q1.out
  obtain ⟨va, vc, rfl, hva1, hva2⟩ := O1.out.shape
  clear hO
  go_wp2_with fail
  refine (at_priv C ha p _ _ _ (O1.out.below (below_al (Below.refl _ _) _))).mono ?_
  rintro e w2 ⟨rfl, hb⟩
  have p2 : Kp (w2.heap[w1.heap.size]? = some (.cells #[.int .i64 C.parts.length, .slice va (planL C).length vc, .int .i64 (planE C)] 79 (0, 0))) := ⟨blk_below (blk_new _ _) hb⟩
  have q2 : Kp (w2.heap[w.heap.size]? = some (.cells #[.slice pa C.parts.length pc, .slice ca C.chans.length cc, .int .i64 C.l0, .slice a0 C.w0.length c0, .int .i64 C.l1, .slice a1 C.w1.length c1] 29 (0, 0))) := ⟨blk_below (blk_al q1.out _) hb⟩
  have HB2 : Kp (Below w.heap.size w w2) := ⟨below_call (below_al HB1.out _) hb⟩
  have O2 : Kp (RowAt w2 2 (.slice va (planL C).length vc) (planL C).length ((planL C).flatMap spanC)) := ⟨(O1.out.below (below_al (Below.refl _ _) _)).below hb⟩
  clear qc0 qc1 qc2 qc3 qc4 qc5 ql q1 HB1 O1 hb
  have pc0 : w2.cell? ⟨w1.heap.size, 0, none⟩ = some (.int .i64 C.parts.length) := (cell_blk p2.out 0).trans rfl
  have pc1 : w2.cell? ⟨w1.heap.size, 1, none⟩ = some (.slice va (planL C).length vc) := (cell_blk p2.out 1).trans rfl
  have pc2 : w2.cell? ⟨w1.heap.size, 2, none⟩ = some (.int .i64 (planE C)) := (cell_blk p2.out 2).trans rfl
  have pl := blk_lt p2.out
  have qc0 : w2.cell? ⟨w.heap.size, 0, none⟩ = some (.slice pa C.parts.length pc) := (cell_blk q2.out 0).trans rfl
  have qc1 : w2.cell? ⟨w.heap.size, 1, none⟩ = some (.slice ca C.chans.length cc) := (cell_blk q2.out 1).trans rfl
  have qc2 : w2.cell? ⟨w.heap.size, 2, none⟩ = some (.int .i64 C.l0) := (cell_blk q2.out 2).trans rfl
  have qc3 : w2.cell? ⟨w.heap.size, 3, none⟩ = some (.slice a0 C.w0.length c0) := (cell_blk q2.out 3).trans rfl
  have qc4 : w2.cell? ⟨w.heap.size, 4, none⟩ = some (.int .i64 C.l1) := (cell_blk q2.out 4).trans rfl
  have qc5 : w2.cell? ⟨w.heap.size, 5, none⟩ = some (.slice a1 C.w1.length c1) := (cell_blk q2.out 5).trans rfl
  have ql := blk_lt q2.out
  go_wp2_with fail
  refine (hasS_any (privB C p) a false HH.out _).mono ?_
  rintro e w3 ⟨rfl, hb⟩
  have p3 : Kp (w3.heap[w1.heap.size]? = some (.cells #[.int .i64 C.parts.length, .slice va (planL C).length vc, .int .i64 (planE C)] 79 (0, 0))) := ⟨blk_below p2.out hb⟩
  have q3 : Kp (w3.heap[w.heap.size]? = some (.cells #[.slice pa C.parts.length pc, .slice ca C.chans.length cc, .int .i64 C.l0, .slice a0 C.w0.length c0, .int .i64 C.l1, .slice a1 C.w1.length c1] 29 (0, 0))) := ⟨blk_below q2.out hb⟩
  have HB3 : Kp (Below w.heap.size w w3) := ⟨below_call HB2.out hb⟩
  have O3 : Kp (RowAt w3 2 (.slice va (planL C).length vc) (planL C).length ((planL C).flatMap spanC)) := ⟨O2.out.below hb⟩
  clear pc0 pc1 pc2 pl qc0 qc1 qc2 qc3 qc4 qc5 ql p2 q2 HB2 O2 hb
  have pc0 : w3.cell? ⟨w1.heap.size, 0, none⟩ = some (.int .i64 C.parts.length) := (cell_blk p3.out 0).trans rfl
  have pc1 : w3.cell? ⟨w1.heap.size, 1, none⟩ = some (.slice va (planL C).length vc) := (cell_blk p3.out 1).trans rfl
  have pc2 : w3.cell? ⟨w1.heap.size, 2, none⟩ = some (.int .i64 (planE C)) := (cell_blk p3.out 2).trans rfl
  have pl := blk_lt p3.out
  have qc0 : w3.cell? ⟨w.heap.size, 0, none⟩ = some (.slice pa C.parts.length pc) := (cell_blk q3.out 0).trans rfl
  have qc1 : w3.cell? ⟨w.heap.size, 1, none⟩ = some (.slice ca C.chans.length cc) := (cell_blk q3.out 1).trans rfl
  have qc2 : w3.cell? ⟨w.heap.size, 2, none⟩ = some (.int .i64 C.l0) := (cell_blk q3.out 2).trans rfl
  have qc3 : w3.cell? ⟨w.heap.size, 3, none⟩ = some (.slice a0 C.w0.length c0) := (cell_blk q3.out 3).trans rfl
  have qc4 : w3.cell? ⟨w.heap.size, 4, none⟩ = some (.int .i64 C.l1) := (cell_blk q3.out 4).trans rfl
  have qc5 : w3.cell? ⟨w.heap.size, 5, none⟩ = some (.slice a1 C.w1.length c1) := (cell_blk q3.out 5).trans rfl
  have ql := blk_lt q3.out
  go_upto_region 4 with fail
  go_cut [8, 9] (fun s8 s9 wx => ∃ (bs bd : Nat) (v3 v4 : Option Addr) (c3 c4 : Nat), s8 = .pointer (some ⟨bs, 0, none⟩) ∧ s9 = .pointer (some ⟨bd, 0, none⟩) ∧ Kp (Below w.heap.size w wx) ∧ Kp (wx.heap[w.heap.size]? = some (.cells #[.slice pa C.parts.length pc, .slice ca C.chans.length cc, .int .i64 C.l0, .slice a0 C.w0.length c0, .int .i64 C.l1, .slice a1 C.w1.length c1] 29 (0, 0))) ∧ Kp (wx.heap[bs]? = some (.cells #[.int .i64 0, .slice v3 C.chans.length c3, .int .i64 0] 79 (0, 0))) ∧ Kp (wx.heap[bd]? = some (.cells #[.int .i64 0, .slice v4 C.chans.length c4, .int .i64 0] 79 (0, 0))) ∧ Kp (RowAt wx 2 (.slice v3 C.chans.length c3) C.chans.length ((pickL (planL C) (C.parts.length + 0) C.chans.length).flatMap spanC)) ∧ Kp (RowAt wx 2 (.slice v4 C.chans.length c4) C.chans.length ((pickL (planL C) (C.parts.length + 1) C.chans.length).flatMap spanC)))
  case first =>
    refine held_start_gen (S := (fun w' : World => ButB (w3.heap.size) [] w3 w' ∧ ∀ bb o, bb < w3.heap.size → w'.cell? ⟨bb, o, none⟩ = w3.cell? ⟨bb, o, none⟩)) (by kernel_rfl) (fun wz : World => Kp (wz.heap[w1.heap.size]? = some (.cells #[.int .i64 C.parts.length, .slice va (planL C).length vc, .int .i64 (planE C)] 79 (0, 0))) ∧ Kp (wz.heap[w.heap.size]? = some (.cells #[.slice pa C.parts.length pc, .slice ca C.chans.length cc, .int .i64 C.l0, .slice a0 C.w0.length c0, .int .i64 C.l1, .slice a1 C.w1.length c1] 29 (0, 0))) ∧ Kp (Below w.heap.size w wz) ∧ Kp (RowAt wz 2 (.slice va (planL C).length vc) (planL C).length ((planL C).flatMap spanC)) ∧ w3.heap.size ≤ wz.heap.size) ⟨⟨blk_dr p3.out⟩, ⟨blk_dr q3.out⟩, ⟨below_dr HB3.out⟩, ⟨O3.out.below (below_dr (Below.refl _ _))⟩, Nat.le_refl _⟩ (sx_of0 (ButB.dr (ButB.refl _ (by omega)))) (fun wd0 hRn hHeld => ?_)
    clear p3 q3 HB3 O3
    obtain ⟨p3, q3, HB3, O3, hsz⟩ := hRn
    refine wpAnyH_take (i := 0) (oi := ⟨_, _, _, _, _, _⟩) (v := ?_) rfl (by kernel_rfl) (by kernel_rfl) (by kernel_rfl) (fun _ _ _ h => h) (Or.inl ⟨by rfl, ?_⟩) (by assumption) ?_
    rotate_left 1
    · (intro w hSw; go_simp; try with_reducible rfl)
    try simp only [Act.put, List.setIfInBounds_toArray, List.set_cons_zero, List.set_cons_succ]
    refine wpAnyH_take (i := 2) (oi := ⟨_, _, _, _, _, _⟩) (v := ?_) rfl (by kernel_rfl) (by kernel_rfl) (by kernel_rfl) (fun _ _ _ h => h) (Or.inl ⟨by rfl, ?_⟩) (by assumption) ?_
    rotate_left 1
    · (intro w hSw; go_simp; try with_reducible rfl)
    try simp only [Act.put, List.setIfInBounds_toArray, List.set_cons_zero, List.set_cons_succ]
    refine wpAnyH_ready (rs := [1, 4, 5]) (by kernel_rfl) (by simp) ?_
    refine (AllReadyH.cons (o := ⟨_, _, _, _, _, _⟩) rfl (fun K hK => ?_) (AllReadyH.cons (o := ⟨_, _, _, _, _, _⟩) rfl (fun K hK => ?_) (AllReadyH.cons (o := ⟨_, _, _, _, _, _⟩) rfl (fun K hK => ?_) AllReadyH.nil)))
    · go_simp
      go_at_call 57
      refine (chans_any C.parts.length C.chans.length 0 (planE C) _ (planL C) (by omega) (by omega) (by omega) HPL.out _ O3.out).mono ?_
      rintro e w9 ⟨vv, rfl, hO, hb⟩
      obtain ⟨v3, c3, rfl, hx1, hx2⟩ := (RowAt.of_own hO).shape
      try go_wp2_with fail
      refine out_gen hK _ _ (fun wz : World => Kp (wz.heap[w1.heap.size]? = some (.cells #[.int .i64 C.parts.length, .slice va (planL C).length vc, .int .i64 (planE C)] 79 (0, 0))) ∧ Kp (wz.heap[w.heap.size]? = some (.cells #[.slice pa C.parts.length pc, .slice ca C.chans.length cc, .int .i64 C.l0, .slice a0 C.w0.length c0, .int .i64 C.l1, .slice a1 C.w1.length c1] 29 (0, 0))) ∧ Kp (Below w.heap.size w wz) ∧ Kp (RowAt wz 2 (.slice va (planL C).length vc) (planL C).length ((planL C).flatMap spanC)) ∧ Kp (RowN wz 2 v3 (C.chans.length) c3 ((pickL (planL C) (C.parts.length + 0) C.chans.length).flatMap spanC) []) ∧ wd0.heap.size ≤ wz.heap.size) ⟨⟨blk_below p3.out hb⟩, ⟨blk_below q3.out hb⟩, ⟨below_call HB3.out hb⟩, ⟨O3.out.below hb⟩, ⟨RowN.of_own hO (by simp; try omega)⟩, hb.size⟩ (sx_of0 (ButB.call (And.left hHeld) hb)) (fun wd1 hRn hHn => ?_)
      clear hK K hHeld p3 q3 HB3 O3 hO hb hx1 hx2
      obtain ⟨p3, q3, HB3, O3, R1, hsz1⟩ := hRn
      have hHeld := hHn
      clear hHn
      try simp only [Act.put, List.setIfInBounds_toArray, List.set_cons_zero, List.set_cons_succ]
      refine wpAnyH_ready (rs := [3, 4, 5]) (by kernel_rfl) (by simp) ?_
      refine (AllReadyH.cons (o := ⟨_, _, _, _, _, _⟩) rfl (fun K hK => ?_) (AllReadyH.cons (o := ⟨_, _, _, _, _, _⟩) rfl (fun K hK => ?_) (AllReadyH.cons (o := ⟨_, _, _, _, _, _⟩) rfl (fun K hK => ?_) AllReadyH.nil)))
      · go_simp
        go_at_call 57
        refine (chans_any C.parts.length C.chans.length 1 (planE C) _ (planL C) (by omega) (by omega) (by omega) HPL.out _ O3.out).mono ?_
        rintro e w9 ⟨vv, rfl, hO, hb⟩
        obtain ⟨v4, c4, rfl, hx1, hx2⟩ := (RowAt.of_own hO).shape
        try go_wp2_with fail
        refine out_gen hK _ _ (fun wz : World => Kp (wz.heap[w1.heap.size]? = some (.cells #[.int .i64 C.parts.length, .slice va (planL C).length vc, .int .i64 (planE C)] 79 (0, 0))) ∧ Kp (wz.heap[w.heap.size]? = some (.cells #[.slice pa C.parts.length pc, .slice ca C.chans.length cc, .int .i64 C.l0, .slice a0 C.w0.length c0, .int .i64 C.l1, .slice a1 C.w1.length c1] 29 (0, 0))) ∧ Kp (Below w.heap.size w wz) ∧ Kp (RowN wz 2 v3 (C.chans.length) c3 ((pickL (planL C) (C.parts.length + 0) C.chans.length).flatMap spanC) []) ∧ Kp (RowN wz 2 v4 (C.chans.length) c4 ((pickL (planL C) (C.parts.length + 1) C.chans.length).flatMap spanC) []) ∧ wd1.heap.size ≤ wz.heap.size) ⟨⟨blk_below p3.out hb⟩, ⟨blk_below q3.out hb⟩, ⟨below_call HB3.out hb⟩, ⟨RowN.call R1.out hb⟩, ⟨RowN.of_own hO (by simp; try omega)⟩, hb.size⟩ (sx_of0 (ButB.call (And.left hHeld) hb)) (fun wd2 hRn hHn => ?_)
        clear hK K hHeld p3 q3 HB3 O3 R1 hO hb hx1 hx2
        obtain ⟨p3, q3, HB3, R1, R2, hsz2⟩ := hRn
        have hHeld := hHn
        clear hHn
        try simp only [Act.put, List.setIfInBounds_toArray, List.set_cons_zero, List.set_cons_succ]
        refine wpAnyH_ready (rs := [4, 5]) (by kernel_rfl) (by simp) ?_
        refine (AllReadyH.cons (o := ⟨_, _, _, _, _, _⟩) rfl (fun K hK => ?_) (AllReadyH.cons (o := ⟨_, _, _, _, _, _⟩) rfl (fun K hK => ?_) AllReadyH.nil))
        · have ge_BS : w3.heap.size ≤ wd2.heap.size := (And.left hHeld).size
          go_simp
          try go_wp2_with fail
          refine out_gen hK _ _ (fun wz : World => Kp (wz.heap[w1.heap.size]? = some (.cells #[.int .i64 C.parts.length, .slice va (planL C).length vc, .int .i64 (planE C)] 79 (0, 0))) ∧ Kp (wz.heap[w.heap.size]? = some (.cells #[.slice pa C.parts.length pc, .slice ca C.chans.length cc, .int .i64 C.l0, .slice a0 C.w0.length c0, .int .i64 C.l1, .slice a1 C.w1.length c1] 29 (0, 0))) ∧ Kp (Below w.heap.size w wz) ∧ Kp (RowN wz 2 v3 (C.chans.length) c3 ((pickL (planL C) (C.parts.length + 0) C.chans.length).flatMap spanC) [wd2.heap.size]) ∧ Kp (RowN wz 2 v4 (C.chans.length) c4 ((pickL (planL C) (C.parts.length + 1) C.chans.length).flatMap spanC) [wd2.heap.size]) ∧ Kp (wz.heap[wd2.heap.size]? = some (.cells #[.int .i64 0, .slice none 0 0, .int .i64 0] 79 (0, 0))) ∧ wd2.heap.size < wz.heap.size) ⟨⟨blk_al p3.out _⟩, ⟨blk_al q3.out _⟩, ⟨below_al HB3.out _⟩, ⟨RowN.al_new R1.out _⟩, ⟨RowN.al_new R2.out _⟩, ⟨blk_new wd2 _⟩, (by simp)⟩ (sx_of0 (ButB.al (And.left hHeld) _)) (fun wd3 hRn hHn => ?_)
          clear hK K hHeld p3 q3 HB3 R1 R2
          obtain ⟨p3, q3, HB3, R1, R2, BS, hsz3⟩ := hRn
          have hHeld := hHn
          clear hHn
          try simp only [Act.put, List.setIfInBounds_toArray, List.set_cons_zero, List.set_cons_succ]
          have lt_BS := blk_lt BS.out
          refine wpAnyH_ready (rs := [5]) (by kernel_rfl) (by simp) ?_
          refine (AllReadyH.cons (o := ⟨_, _, _, _, _, _⟩) rfl (fun K hK => ?_) AllReadyH.nil)
          have ge_BD : w3.heap.size ≤ wd3.heap.size := (And.left hHeld).size
          go_simp
          try go_wp2_with fail
          refine out_gen hK _ _ (fun wz : World => Kp (wz.heap[w1.heap.size]? = some (.cells #[.int .i64 C.parts.length, .slice va (planL C).length vc, .int .i64 (planE C)] 79 (0, 0))) ∧ Kp (wz.heap[w.heap.size]? = some (.cells #[.slice pa C.parts.length pc, .slice ca C.chans.length cc, .int .i64 C.l0, .slice a0 C.w0.length c0, .int .i64 C.l1, .slice a1 C.w1.length c1] 29 (0, 0))) ∧ Kp (Below w.heap.size w wz) ∧ Kp (RowN wz 2 v3 (C.chans.length) c3 ((pickL (planL C) (C.parts.length + 0) C.chans.length).flatMap spanC) [wd3.heap.size, wd2.heap.size]) ∧ Kp (RowN wz 2 v4 (C.chans.length) c4 ((pickL (planL C) (C.parts.length + 1) C.chans.length).flatMap spanC) [wd3.heap.size, wd2.heap.size]) ∧ Kp (wz.heap[wd2.heap.size]? = some (.cells #[.int .i64 0, .slice none 0 0, .int .i64 0] 79 (0, 0))) ∧ Kp (wz.heap[wd3.heap.size]? = some (.cells #[.int .i64 0, .slice none 0 0, .int .i64 0] 79 (0, 0))) ∧ wd3.heap.size < wz.heap.size) ⟨⟨blk_al p3.out _⟩, ⟨blk_al q3.out _⟩, ⟨below_al HB3.out _⟩, ⟨RowN.al_new R1.out _⟩, ⟨RowN.al_new R2.out _⟩, ⟨blk_al BS.out _⟩, ⟨blk_new wd3 _⟩, (by simp)⟩ (sx_of0 (ButB.al (And.left hHeld) _)) (fun wd4 hRn hHn => ?_)
          clear hK K hHeld p3 q3 HB3 R1 R2 BS
          obtain ⟨p3, q3, HB3, R1, R2, BS, BD, hsz4⟩ := hRn
          have hHeld := hHn
          clear hHn
          try simp only [Act.put, List.setIfInBounds_toArray, List.set_cons_zero, List.set_cons_succ]
          have lt_BD := blk_lt BD.out
          refine wpAnyH_ready (rs := [6]) (by kernel_rfl) (by simp) ?_
          refine (AllReadyH.cons (o := ⟨_, _, _, _, _, _⟩) rfl (fun K hK => ?_) AllReadyH.nil)
          have sd0 : wd4.cell? ⟨wd2.heap.size, 0, none⟩ = some (.int .i64 0) := (cell_blk BS.out 0).trans rfl
          have sf0 : wd4.frozen? ⟨wd2.heap.size, 0, none⟩ = false := frozen_blk BS.out 0
          have sd1 : wd4.cell? ⟨wd2.heap.size, 1, none⟩ = some (.slice none 0 0) := (cell_blk BS.out 1).trans rfl
          have sf1 : wd4.frozen? ⟨wd2.heap.size, 1, none⟩ = false := frozen_blk BS.out 1
          have sd2 : wd4.cell? ⟨wd2.heap.size, 2, none⟩ = some (.int .i64 0) := (cell_blk BS.out 2).trans rfl
          have sf2 : wd4.frozen? ⟨wd2.heap.size, 2, none⟩ = false := frozen_blk BS.out 2
          have sl := blk_lt BS.out
          go_simp
          try go_wp2_with fail
          refine out_gen hK _ _ (fun wz : World => Kp (wz.heap[w1.heap.size]? = some (.cells #[.int .i64 C.parts.length, .slice va (planL C).length vc, .int .i64 (planE C)] 79 (0, 0))) ∧ Kp (wz.heap[w.heap.size]? = some (.cells #[.slice pa C.parts.length pc, .slice ca C.chans.length cc, .int .i64 C.l0, .slice a0 C.w0.length c0, .int .i64 C.l1, .slice a1 C.w1.length c1] 29 (0, 0))) ∧ Kp (Below w.heap.size w wz) ∧ Kp (RowN wz 2 v3 (C.chans.length) c3 ((pickL (planL C) (C.parts.length + 0) C.chans.length).flatMap spanC) [wd3.heap.size, wd2.heap.size]) ∧ Kp (RowN wz 2 v4 (C.chans.length) c4 ((pickL (planL C) (C.parts.length + 1) C.chans.length).flatMap spanC) [wd3.heap.size, wd2.heap.size]) ∧ Kp (wz.heap[wd2.heap.size]? = some (.cells #[.int .i64 0, .slice v3 C.chans.length c3, .int .i64 0] 79 (0, 0))) ∧ Kp (wz.heap[wd3.heap.size]? = some (.cells #[.int .i64 0, .slice none 0 0, .int .i64 0] 79 (0, 0))) ∧ wd4.heap.size ≤ wz.heap.size) ⟨⟨(blk_set_ne (p := ⟨wd2.heap.size, 2, none⟩) (blk_set_ne (p := ⟨wd2.heap.size, 1, none⟩) (blk_set_ne (p := ⟨wd2.heap.size, 0, none⟩) p3.out (by show w1.heap.size ≠ wd2.heap.size; omega) _) (by show w1.heap.size ≠ wd2.heap.size; omega) _) (by show w1.heap.size ≠ wd2.heap.size; omega) _)⟩, ⟨(blk_set_ne (p := ⟨wd2.heap.size, 2, none⟩) (blk_set_ne (p := ⟨wd2.heap.size, 1, none⟩) (blk_set_ne (p := ⟨wd2.heap.size, 0, none⟩) q3.out (by show w.heap.size ≠ wd2.heap.size; omega) _) (by show w.heap.size ≠ wd2.heap.size; omega) _) (by show w.heap.size ≠ wd2.heap.size; omega) _)⟩, ⟨(((HB3.out.setCell (p := ⟨wd2.heap.size, 0, none⟩) (by show w.heap.size ≤ wd2.heap.size; omega) _).setCell (p := ⟨wd2.heap.size, 1, none⟩) (by show w.heap.size ≤ wd2.heap.size; omega) _).setCell (p := ⟨wd2.heap.size, 2, none⟩) (by show w.heap.size ≤ wd2.heap.size; omega) _)⟩, ⟨(RowN.set (RowN.set (RowN.set R1.out (p := ⟨wd2.heap.size, 0, none⟩) (by simp) _) (p := ⟨wd2.heap.size, 1, none⟩) (by simp) _) (p := ⟨wd2.heap.size, 2, none⟩) (by simp) _)⟩, ⟨(RowN.set (RowN.set (RowN.set R2.out (p := ⟨wd2.heap.size, 0, none⟩) (by simp) _) (p := ⟨wd2.heap.size, 1, none⟩) (by simp) _) (p := ⟨wd2.heap.size, 2, none⟩) (by simp) _)⟩, ⟨(blk_set (blk_set (blk_set BS.out 0 _) 1 _) 2 _).trans rfl⟩, ⟨(blk_set_ne (p := ⟨wd2.heap.size, 2, none⟩) (blk_set_ne (p := ⟨wd2.heap.size, 1, none⟩) (blk_set_ne (p := ⟨wd2.heap.size, 0, none⟩) BD.out (by show wd3.heap.size ≠ wd2.heap.size; omega) _) (by show wd3.heap.size ≠ wd2.heap.size; omega) _) (by show wd3.heap.size ≠ wd2.heap.size; omega) _)⟩, (by simp [World.setCell])⟩ (sx_of0 ((ButB.set (ButB.set (ButB.set (And.left hHeld) (p := ⟨wd2.heap.size, 0, none⟩) (by first | (left; simp; done) | (right; show w3.heap.size ≤ wd2.heap.size; omega)) _) (p := ⟨wd2.heap.size, 1, none⟩) (by first | (left; simp; done) | (right; show w3.heap.size ≤ wd2.heap.size; omega)) _) (p := ⟨wd2.heap.size, 2, none⟩) (by first | (left; simp; done) | (right; show w3.heap.size ≤ wd2.heap.size; omega)) _))) (fun wd5 hRn hHn => ?_)
          clear hK K hHeld p3 q3 HB3 R1 R2 BS BD sd0 sf0 sd1 sf1 sd2 sf2 sl
          obtain ⟨p3, q3, HB3, R1, R2, BS, BD, hsz5⟩ := hRn
          have hHeld := hHn
          clear hHn
          try simp only [Act.put, List.setIfInBounds_toArray, List.set_cons_zero, List.set_cons_succ]
          refine wpAnyH_ready (rs := [7]) (by kernel_rfl) (by simp) ?_
          refine (AllReadyH.cons (o := ⟨_, _, _, _, _, _⟩) rfl (fun K hK => ?_) AllReadyH.nil)
          have sd0 : wd5.cell? ⟨wd3.heap.size, 0, none⟩ = some (.int .i64 0) := (cell_blk BD.out 0).trans rfl
          have sf0 : wd5.frozen? ⟨wd3.heap.size, 0, none⟩ = false := frozen_blk BD.out 0
          have sd1 : wd5.cell? ⟨wd3.heap.size, 1, none⟩ = some (.slice none 0 0) := (cell_blk BD.out 1).trans rfl
          have sf1 : wd5.frozen? ⟨wd3.heap.size, 1, none⟩ = false := frozen_blk BD.out 1
          have sd2 : wd5.cell? ⟨wd3.heap.size, 2, none⟩ = some (.int .i64 0) := (cell_blk BD.out 2).trans rfl
          have sf2 : wd5.frozen? ⟨wd3.heap.size, 2, none⟩ = false := frozen_blk BD.out 2
          have sl := blk_lt BD.out
          go_simp
          try go_wp2_with fail
          refine out_gen hK _ _ (fun wz : World => Kp (wz.heap[w1.heap.size]? = some (.cells #[.int .i64 C.parts.length, .slice va (planL C).length vc, .int .i64 (planE C)] 79 (0, 0))) ∧ Kp (wz.heap[w.heap.size]? = some (.cells #[.slice pa C.parts.length pc, .slice ca C.chans.length cc, .int .i64 C.l0, .slice a0 C.w0.length c0, .int .i64 C.l1, .slice a1 C.w1.length c1] 29 (0, 0))) ∧ Kp (Below w.heap.size w wz) ∧ Kp (RowN wz 2 v3 (C.chans.length) c3 ((pickL (planL C) (C.parts.length + 0) C.chans.length).flatMap spanC) [wd3.heap.size, wd2.heap.size]) ∧ Kp (RowN wz 2 v4 (C.chans.length) c4 ((pickL (planL C) (C.parts.length + 1) C.chans.length).flatMap spanC) [wd3.heap.size, wd2.heap.size]) ∧ Kp (wz.heap[wd2.heap.size]? = some (.cells #[.int .i64 0, .slice v3 C.chans.length c3, .int .i64 0] 79 (0, 0))) ∧ Kp (wz.heap[wd3.heap.size]? = some (.cells #[.int .i64 0, .slice v4 C.chans.length c4, .int .i64 0] 79 (0, 0))) ∧ wd5.heap.size ≤ wz.heap.size) ⟨⟨(blk_set_ne (p := ⟨wd3.heap.size, 2, none⟩) (blk_set_ne (p := ⟨wd3.heap.size, 1, none⟩) (blk_set_ne (p := ⟨wd3.heap.size, 0, none⟩) p3.out (by show w1.heap.size ≠ wd3.heap.size; omega) _) (by show w1.heap.size ≠ wd3.heap.size; omega) _) (by show w1.heap.size ≠ wd3.heap.size; omega) _)⟩, ⟨(blk_set_ne (p := ⟨wd3.heap.size, 2, none⟩) (blk_set_ne (p := ⟨wd3.heap.size, 1, none⟩) (blk_set_ne (p := ⟨wd3.heap.size, 0, none⟩) q3.out (by show w.heap.size ≠ wd3.heap.size; omega) _) (by show w.heap.size ≠ wd3.heap.size; omega) _) (by show w.heap.size ≠ wd3.heap.size; omega) _)⟩, ⟨(((HB3.out.setCell (p := ⟨wd3.heap.size, 0, none⟩) (by show w.heap.size ≤ wd3.heap.size; omega) _).setCell (p := ⟨wd3.heap.size, 1, none⟩) (by show w.heap.size ≤ wd3.heap.size; omega) _).setCell (p := ⟨wd3.heap.size, 2, none⟩) (by show w.heap.size ≤ wd3.heap.size; omega) _)⟩, ⟨(RowN.set (RowN.set (RowN.set R1.out (p := ⟨wd3.heap.size, 0, none⟩) (by simp) _) (p := ⟨wd3.heap.size, 1, none⟩) (by simp) _) (p := ⟨wd3.heap.size, 2, none⟩) (by simp) _)⟩, ⟨(RowN.set (RowN.set (RowN.set R2.out (p := ⟨wd3.heap.size, 0, none⟩) (by simp) _) (p := ⟨wd3.heap.size, 1, none⟩) (by simp) _) (p := ⟨wd3.heap.size, 2, none⟩) (by simp) _)⟩, ⟨(blk_set_ne (p := ⟨wd3.heap.size, 2, none⟩) (blk_set_ne (p := ⟨wd3.heap.size, 1, none⟩) (blk_set_ne (p := ⟨wd3.heap.size, 0, none⟩) BS.out (by show wd2.heap.size ≠ wd3.heap.size; omega) _) (by show wd2.heap.size ≠ wd3.heap.size; omega) _) (by show wd2.heap.size ≠ wd3.heap.size; omega) _)⟩, ⟨(blk_set (blk_set (blk_set BD.out 0 _) 1 _) 2 _).trans rfl⟩, (by simp [World.setCell])⟩ (sx_of0 ((ButB.set (ButB.set (ButB.set (And.left hHeld) (p := ⟨wd3.heap.size, 0, none⟩) (by first | (left; simp; done) | (right; show w3.heap.size ≤ wd3.heap.size; omega)) _) (p := ⟨wd3.heap.size, 1, none⟩) (by first | (left; simp; done) | (right; show w3.heap.size ≤ wd3.heap.size; omega)) _) (p := ⟨wd3.heap.size, 2, none⟩) (by first | (left; simp; done) | (right; show w3.heap.size ≤ wd3.heap.size; omega)) _))) (fun wd6 hRn hHn => ?_)
          clear hK K hHeld p3 q3 HB3 R1 R2 BS BD sd0 sf0 sd1 sf1 sd2 sf2 sl
          obtain ⟨p3, q3, HB3, R1, R2, BS, BD, hsz6⟩ := hRn
          have hHeld := hHn
          clear hHn
          try simp only [Act.put, List.setIfInBounds_toArray, List.set_cons_zero, List.set_cons_succ]
          refine wpAnyH_done (by kernel_rfl) ?_ _
          go_wp2_with fail
          go_meet
          exact ⟨_, _, v3, v4, c3, c4, rfl, rfl, HB3, q3, BS, BD, ⟨R1.out.1⟩, ⟨R2.out.1⟩⟩
        · have ge_BD : w3.heap.size ≤ wd2.heap.size := (And.left hHeld).size
          go_simp
          try go_wp2_with fail
          refine out_gen hK _ _ (fun wz : World => Kp (wz.heap[w1.heap.size]? = some (.cells #[.int .i64 C.parts.length, .slice va (planL C).length vc, .int .i64 (planE C)] 79 (0, 0))) ∧ Kp (wz.heap[w.heap.size]? = some (.cells #[.slice pa C.parts.length pc, .slice ca C.chans.length cc, .int .i64 C.l0, .slice a0 C.w0.length c0, .int .i64 C.l1, .slice a1 C.w1.length c1] 29 (0, 0))) ∧ Kp (Below w.heap.size w wz) ∧ Kp (RowN wz 2 v3 (C.chans.length) c3 ((pickL (planL C) (C.parts.length + 0) C.chans.length).flatMap spanC) [wd2.heap.size]) ∧ Kp (RowN wz 2 v4 (C.chans.length) c4 ((pickL (planL C) (C.parts.length + 1) C.chans.length).flatMap spanC) [wd2.heap.size]) ∧ Kp (wz.heap[wd2.heap.size]? = some (.cells #[.int .i64 0, .slice none 0 0, .int .i64 0] 79 (0, 0))) ∧ wd2.heap.size < wz.heap.size) ⟨⟨blk_al p3.out _⟩, ⟨blk_al q3.out _⟩, ⟨below_al HB3.out _⟩, ⟨RowN.al_new R1.out _⟩, ⟨RowN.al_new R2.out _⟩, ⟨blk_new wd2 _⟩, (by simp)⟩ (sx_of0 (ButB.al (And.left hHeld) _)) (fun wd7 hRn hHn => ?_)
          clear hK K hHeld p3 q3 HB3 R1 R2
          obtain ⟨p3, q3, HB3, R1, R2, BD, hsz7⟩ := hRn
          have hHeld := hHn
          clear hHn
          try simp only [Act.put, List.setIfInBounds_toArray, List.set_cons_zero, List.set_cons_succ]
          have lt_BD := blk_lt BD.out
          refine wpAnyH_ready (rs := [4]) (by kernel_rfl) (by simp) ?_
          refine (AllReadyH.cons (o := ⟨_, _, _, _, _, _⟩) rfl (fun K hK => ?_) AllReadyH.nil)
          have ge_BS : w3.heap.size ≤ wd7.heap.size := (And.left hHeld).size
          go_simp
          try go_wp2_with fail
          refine out_gen hK _ _ (fun wz : World => Kp (wz.heap[w1.heap.size]? = some (.cells #[.int .i64 C.parts.length, .slice va (planL C).length vc, .int .i64 (planE C)] 79 (0, 0))) ∧ Kp (wz.heap[w.heap.size]? = some (.cells #[.slice pa C.parts.length pc, .slice ca C.chans.length cc, .int .i64 C.l0, .slice a0 C.w0.length c0, .int .i64 C.l1, .slice a1 C.w1.length c1] 29 (0, 0))) ∧ Kp (Below w.heap.size w wz) ∧ Kp (RowN wz 2 v3 (C.chans.length) c3 ((pickL (planL C) (C.parts.length + 0) C.chans.length).flatMap spanC) [wd7.heap.size, wd2.heap.size]) ∧ Kp (RowN wz 2 v4 (C.chans.length) c4 ((pickL (planL C) (C.parts.length + 1) C.chans.length).flatMap spanC) [wd7.heap.size, wd2.heap.size]) ∧ Kp (wz.heap[wd2.heap.size]? = some (.cells #[.int .i64 0, .slice none 0 0, .int .i64 0] 79 (0, 0))) ∧ Kp (wz.heap[wd7.heap.size]? = some (.cells #[.int .i64 0, .slice none 0 0, .int .i64 0] 79 (0, 0))) ∧ wd7.heap.size < wz.heap.size) ⟨⟨blk_al p3.out _⟩, ⟨blk_al q3.out _⟩, ⟨below_al HB3.out _⟩, ⟨RowN.al_new R1.out _⟩, ⟨RowN.al_new R2.out _⟩, ⟨blk_al BD.out _⟩, ⟨blk_new wd7 _⟩, (by simp)⟩ (sx_of0 (ButB.al (And.left hHeld) _)) (fun wd8 hRn hHn => ?_)
          clear hK K hHeld p3 q3 HB3 R1 R2 BD
          obtain ⟨p3, q3, HB3, R1, R2, BD, BS, hsz8⟩ := hRn
          have hHeld := hHn
          clear hHn
          try simp only [Act.put, List.setIfInBounds_toArray, List.set_cons_zero, List.set_cons_succ]
          have lt_BS := blk_lt BS.out
          refine wpAnyH_ready (rs := [6]) (by kernel_rfl) (by simp) ?_
          refine (AllReadyH.cons (o := ⟨_, _, _, _, _, _⟩) rfl (fun K hK => ?_) AllReadyH.nil)
          have sd0 : wd8.cell? ⟨wd7.heap.size, 0, none⟩ = some (.int .i64 0) := (cell_blk BS.out 0).trans rfl
          have sf0 : wd8.frozen? ⟨wd7.heap.size, 0, none⟩ = false := frozen_blk BS.out 0
          have sd1 : wd8.cell? ⟨wd7.heap.size, 1, none⟩ = some (.slice none 0 0) := (cell_blk BS.out 1).trans rfl
          have sf1 : wd8.frozen? ⟨wd7.heap.size, 1, none⟩ = false := frozen_blk BS.out 1
          have sd2 : wd8.cell? ⟨wd7.heap.size, 2, none⟩ = some (.int .i64 0) := (cell_blk BS.out 2).trans rfl
          have sf2 : wd8.frozen? ⟨wd7.heap.size, 2, none⟩ = false := frozen_blk BS.out 2
          have sl := blk_lt BS.out
          go_simp
          try go_wp2_with fail
          refine out_gen hK _ _ (fun wz : World => Kp (wz.heap[w1.heap.size]? = some (.cells #[.int .i64 C.parts.length, .slice va (planL C).length vc, .int .i64 (planE C)] 79 (0, 0))) ∧ Kp (wz.heap[w.heap.size]? = some (.cells #[.slice pa C.parts.length pc, .slice ca C.chans.length cc, .int .i64 C.l0, .slice a0 C.w0.length c0, .int .i64 C.l1, .slice a1 C.w1.length c1] 29 (0, 0))) ∧ Kp (Below w.heap.size w wz) ∧ Kp (RowN wz 2 v3 (C.chans.length) c3 ((pickL (planL C) (C.parts.length + 0) C.chans.length).flatMap spanC) [wd7.heap.size, wd2.heap.size]) ∧ Kp (RowN wz 2 v4 (C.chans.length) c4 ((pickL (planL C) (C.parts.length + 1) C.chans.length).flatMap spanC) [wd7.heap.size, wd2.heap.size]) ∧ Kp (wz.heap[wd2.heap.size]? = some (.cells #[.int .i64 0, .slice none 0 0, .int .i64 0] 79 (0, 0))) ∧ Kp (wz.heap[wd7.heap.size]? = some (.cells #[.int .i64 0, .slice v3 C.chans.length c3, .int .i64 0] 79 (0, 0))) ∧ wd8.heap.size ≤ wz.heap.size) ⟨⟨(blk_set_ne (p := ⟨wd7.heap.size, 2, none⟩) (blk_set_ne (p := ⟨wd7.heap.size, 1, none⟩) (blk_set_ne (p := ⟨wd7.heap.size, 0, none⟩) p3.out (by show w1.heap.size ≠ wd7.heap.size; omega) _) (by show w1.heap.size ≠ wd7.heap.size; omega) _) (by show w1.heap.size ≠ wd7.heap.size; omega) _)⟩, ⟨(blk_set_ne (p := ⟨wd7.heap.size, 2, none⟩) (blk_set_ne (p := ⟨wd7.heap.size, 1, none⟩) (blk_set_ne (p := ⟨wd7.heap.size, 0, none⟩) q3.out (by show w.heap.size ≠ wd7.heap.size; omega) _) (by show w.heap.size ≠ wd7.heap.size; omega) _) (by show w.heap.size ≠ wd7.heap.size; omega) _)⟩, ⟨(((HB3.out.setCell (p := ⟨wd7.heap.size, 0, none⟩) (by show w.heap.size ≤ wd7.heap.size; omega) _).setCell (p := ⟨wd7.heap.size, 1, none⟩) (by show w.heap.size ≤ wd7.heap.size; omega) _).setCell (p := ⟨wd7.heap.size, 2, none⟩) (by show w.heap.size ≤ wd7.heap.size; omega) _)⟩, ⟨(RowN.set (RowN.set (RowN.set R1.out (p := ⟨wd7.heap.size, 0, none⟩) (by simp) _) (p := ⟨wd7.heap.size, 1, none⟩) (by simp) _) (p := ⟨wd7.heap.size, 2, none⟩) (by simp) _)⟩, ⟨(RowN.set (RowN.set (RowN.set R2.out (p := ⟨wd7.heap.size, 0, none⟩) (by simp) _) (p := ⟨wd7.heap.size, 1, none⟩) (by simp) _) (p := ⟨wd7.heap.size, 2, none⟩) (by simp) _)⟩, ⟨(blk_set_ne (p := ⟨wd7.heap.size, 2, none⟩) (blk_set_ne (p := ⟨wd7.heap.size, 1, none⟩) (blk_set_ne (p := ⟨wd7.heap.size, 0, none⟩) BD.out (by show wd2.heap.size ≠ wd7.heap.size; omega) _) (by show wd2.heap.size ≠ wd7.heap.size; omega) _) (by show wd2.heap.size ≠ wd7.heap.size; omega) _)⟩, ⟨(blk_set (blk_set (blk_set BS.out 0 _) 1 _) 2 _).trans rfl⟩, (by simp [World.setCell])⟩ (sx_of0 ((ButB.set (ButB.set (ButB.set (And.left hHeld) (p := ⟨wd7.heap.size, 0, none⟩) (by first | (left; simp; done) | (right; show w3.heap.size ≤ wd7.heap.size; omega)) _) (p := ⟨wd7.heap.size, 1, none⟩) (by first | (left; simp; done) | (right; show w3.heap.size ≤ wd7.heap.size; omega)) _) (p := ⟨wd7.heap.size, 2, none⟩) (by first | (left; simp; done) | (right; show w3.heap.size ≤ wd7.heap.size; omega)) _))) (fun wd9 hRn hHn => ?_)
          clear hK K hHeld p3 q3 HB3 R1 R2 BD BS sd0 sf0 sd1 sf1 sd2 sf2 sl
          obtain ⟨p3, q3, HB3, R1, R2, BD, BS, hsz9⟩ := hRn
          have hHeld := hHn
          clear hHn
          try simp only [Act.put, List.setIfInBounds_toArray, List.set_cons_zero, List.set_cons_succ]
          refine wpAnyH_ready (rs := [7]) (by kernel_rfl) (by simp) ?_
          refine (AllReadyH.cons (o := ⟨_, _, _, _, _, _⟩) rfl (fun K hK => ?_) AllReadyH.nil)
          have sd0 : wd9.cell? ⟨wd2.heap.size, 0, none⟩ = some (.int .i64 0) := (cell_blk BD.out 0).trans rfl
          have sf0 : wd9.frozen? ⟨wd2.heap.size, 0, none⟩ = false := frozen_blk BD.out 0
          have sd1 : wd9.cell? ⟨wd2.heap.size, 1, none⟩ = some (.slice none 0 0) := (cell_blk BD.out 1).trans rfl
          have sf1 : wd9.frozen? ⟨wd2.heap.size, 1, none⟩ = false := frozen_blk BD.out 1
          have sd2 : wd9.cell? ⟨wd2.heap.size, 2, none⟩ = some (.int .i64 0) := (cell_blk BD.out 2).trans rfl
          have sf2 : wd9.frozen? ⟨wd2.heap.size, 2, none⟩ = false := frozen_blk BD.out 2
          have sl := blk_lt BD.out
          go_simp
          try go_wp2_with fail
          refine out_gen hK _ _ (fun wz : World => Kp (wz.heap[w1.heap.size]? = some (.cells #[.int .i64 C.parts.length, .slice va (planL C).length vc, .int .i64 (planE C)] 79 (0, 0))) ∧ Kp (wz.heap[w.heap.size]? = some (.cells #[.slice pa C.parts.length pc, .slice ca C.chans.length cc, .int .i64 C.l0, .slice a0 C.w0.length c0, .int .i64 C.l1, .slice a1 C.w1.length c1] 29 (0, 0))) ∧ Kp (Below w.heap.size w wz) ∧ Kp (RowN wz 2 v3 (C.chans.length) c3 ((pickL (planL C) (C.parts.length + 0) C.chans.length).flatMap spanC) [wd7.heap.size, wd2.heap.size]) ∧ Kp (RowN wz 2 v4 (C.chans.length) c4 ((pickL (planL C) (C.parts.length + 1) C.chans.length).flatMap spanC) [wd7.heap.size, wd2.heap.size]) ∧ Kp (wz.heap[wd2.heap.size]? = some (.cells #[.int .i64 0, .slice v4 C.chans.length c4, .int .i64 0] 79 (0, 0))) ∧ Kp (wz.heap[wd7.heap.size]? = some (.cells #[.int .i64 0, .slice v3 C.chans.length c3, .int .i64 0] 79 (0, 0))) ∧ wd9.heap.size ≤ wz.heap.size) ⟨⟨(blk_set_ne (p := ⟨wd2.heap.size, 2, none⟩) (blk_set_ne (p := ⟨wd2.heap.size, 1, none⟩) (blk_set_ne (p := ⟨wd2.heap.size, 0, none⟩) p3.out (by show w1.heap.size ≠ wd2.heap.size; omega) _) (by show w1.heap.size ≠ wd2.heap.size; omega) _) (by show w1.heap.size ≠ wd2.heap.size; omega) _)⟩, ⟨(blk_set_ne (p := ⟨wd2.heap.size, 2, none⟩) (blk_set_ne (p := ⟨wd2.heap.size, 1, none⟩) (blk_set_ne (p := ⟨wd2.heap.size, 0, none⟩) q3.out (by show w.heap.size ≠ wd2.heap.size; omega) _) (by show w.heap.size ≠ wd2.heap.size; omega) _) (by show w.heap.size ≠ wd2.heap.size; omega) _)⟩, ⟨(((HB3.out.setCell (p := ⟨wd2.heap.size, 0, none⟩) (by show w.heap.size ≤ wd2.heap.size; omega) _).setCell (p := ⟨wd2.heap.size, 1, none⟩) (by show w.heap.size ≤ wd2.heap.size; omega) _).setCell (p := ⟨wd2.heap.size, 2, none⟩) (by show w.heap.size ≤ wd2.heap.size; omega) _)⟩, ⟨(RowN.set (RowN.set (RowN.set R1.out (p := ⟨wd2.heap.size, 0, none⟩) (by simp) _) (p := ⟨wd2.heap.size, 1, none⟩) (by simp) _) (p := ⟨wd2.heap.size, 2, none⟩) (by simp) _)⟩, ⟨(RowN.set (RowN.set (RowN.set R2.out (p := ⟨wd2.heap.size, 0, none⟩) (by simp) _) (p := ⟨wd2.heap.size, 1, none⟩) (by simp) _) (p := ⟨wd2.heap.size, 2, none⟩) (by simp) _)⟩, ⟨(blk_set (blk_set (blk_set BD.out 0 _) 1 _) 2 _).trans rfl⟩, ⟨(blk_set_ne (p := ⟨wd2.heap.size, 2, none⟩) (blk_set_ne (p := ⟨wd2.heap.size, 1, none⟩) (blk_set_ne (p := ⟨wd2.heap.size, 0, none⟩) BS.out (by show wd7.heap.size ≠ wd2.heap.size; omega) _) (by show wd7.heap.size ≠ wd2.heap.size; omega) _) (by show wd7.heap.size ≠ wd2.heap.size; omega) _)⟩, (by simp [World.setCell])⟩ (sx_of0 ((ButB.set (ButB.set (ButB.set (And.left hHeld) (p := ⟨wd2.heap.size, 0, none⟩) (by first | (left; simp; done) | (right; show w3.heap.size ≤ wd2.heap.size; omega)) _) (p := ⟨wd2.heap.size, 1, none⟩) (by first | (left; simp; done) | (right; show w3.heap.size ≤ wd2.heap.size; omega)) _) (p := ⟨wd2.heap.size, 2, none⟩) (by first | (left; simp; done) | (right; show w3.heap.size ≤ wd2.heap.size; omega)) _))) (fun wd10 hRn hHn => ?_)
          clear hK K hHeld p3 q3 HB3 R1 R2 BD BS sd0 sf0 sd1 sf1 sd2 sf2 sl
          obtain ⟨p3, q3, HB3, R1, R2, BD, BS, hsz10⟩ := hRn
          have hHeld := hHn
          clear hHn
          try simp only [Act.put, List.setIfInBounds_toArray, List.set_cons_zero, List.set_cons_succ]
          refine wpAnyH_done (by kernel_rfl) ?_ _
          go_wp2_with fail
          go_meet
          exact ⟨_, _, v3, v4, c3, c4, rfl, rfl, HB3, q3, BS, BD, ⟨R1.out.1⟩, ⟨R2.out.1⟩⟩
      · have ge_BS : w3.heap.size ≤ wd1.heap.size := (And.left hHeld).size
        go_simp
        try go_wp2_with fail
        refine out_gen hK _ _ (fun wz : World => Kp (wz.heap[w1.heap.size]? = some (.cells #[.int .i64 C.parts.length, .slice va (planL C).length vc, .int .i64 (planE C)] 79 (0, 0))) ∧ Kp (wz.heap[w.heap.size]? = some (.cells #[.slice pa C.parts.length pc, .slice ca C.chans.length cc, .int .i64 C.l0, .slice a0 C.w0.length c0, .int .i64 C.l1, .slice a1 C.w1.length c1] 29 (0, 0))) ∧ Kp (Below w.heap.size w wz) ∧ Kp (RowAt wz 2 (.slice va (planL C).length vc) (planL C).length ((planL C).flatMap spanC)) ∧ Kp (RowN wz 2 v3 (C.chans.length) c3 ((pickL (planL C) (C.parts.length + 0) C.chans.length).flatMap spanC) [wd1.heap.size]) ∧ Kp (wz.heap[wd1.heap.size]? = some (.cells #[.int .i64 0, .slice none 0 0, .int .i64 0] 79 (0, 0))) ∧ wd1.heap.size < wz.heap.size) ⟨⟨blk_al p3.out _⟩, ⟨blk_al q3.out _⟩, ⟨below_al HB3.out _⟩, ⟨O3.out.below (below_al (Below.refl _ _) _)⟩, ⟨RowN.al_new R1.out _⟩, ⟨blk_new wd1 _⟩, (by simp)⟩ (sx_of0 (ButB.al (And.left hHeld) _)) (fun wd11 hRn hHn => ?_)
        clear hK K hHeld p3 q3 HB3 O3 R1
        obtain ⟨p3, q3, HB3, O3, R1, BS, hsz11⟩ := hRn
        have hHeld := hHn
        clear hHn
        try simp only [Act.put, List.setIfInBounds_toArray, List.set_cons_zero, List.set_cons_succ]
        have lt_BS := blk_lt BS.out
        refine wpAnyH_ready (rs := [3, 5]) (by kernel_rfl) (by simp) ?_
        refine (AllReadyH.cons (o := ⟨_, _, _, _, _, _⟩) rfl (fun K hK => ?_) (AllReadyH.cons (o := ⟨_, _, _, _, _, _⟩) rfl (fun K hK => ?_) AllReadyH.nil))
        · go_simp
          go_at_call 57
          refine (chans_any C.parts.length C.chans.length 1 (planE C) _ (planL C) (by omega) (by omega) (by omega) HPL.out _ O3.out).mono ?_
          rintro e w9 ⟨vv, rfl, hO, hb⟩
          obtain ⟨v4, c4, rfl, hx1, hx2⟩ := (RowAt.of_own hO).shape
          try go_wp2_with fail
          refine out_gen hK _ _ (fun wz : World => Kp (wz.heap[w1.heap.size]? = some (.cells #[.int .i64 C.parts.length, .slice va (planL C).length vc, .int .i64 (planE C)] 79 (0, 0))) ∧ Kp (wz.heap[w.heap.size]? = some (.cells #[.slice pa C.parts.length pc, .slice ca C.chans.length cc, .int .i64 C.l0, .slice a0 C.w0.length c0, .int .i64 C.l1, .slice a1 C.w1.length c1] 29 (0, 0))) ∧ Kp (Below w.heap.size w wz) ∧ Kp (RowN wz 2 v3 (C.chans.length) c3 ((pickL (planL C) (C.parts.length + 0) C.chans.length).flatMap spanC) [wd1.heap.size]) ∧ Kp (wz.heap[wd1.heap.size]? = some (.cells #[.int .i64 0, .slice none 0 0, .int .i64 0] 79 (0, 0))) ∧ Kp (RowN wz 2 v4 (C.chans.length) c4 ((pickL (planL C) (C.parts.length + 1) C.chans.length).flatMap spanC) [wd1.heap.size]) ∧ wd11.heap.size ≤ wz.heap.size) ⟨⟨blk_below p3.out hb⟩, ⟨blk_below q3.out hb⟩, ⟨below_call HB3.out hb⟩, ⟨RowN.call R1.out hb⟩, ⟨blk_below BS.out hb⟩, ⟨RowN.of_own hO (by simp; try omega)⟩, hb.size⟩ (sx_of0 (ButB.call (And.left hHeld) hb)) (fun wd12 hRn hHn => ?_)
          clear hK K hHeld p3 q3 HB3 O3 R1 BS hO hb hx1 hx2
          obtain ⟨p3, q3, HB3, R1, BS, R2, hsz12⟩ := hRn
          have hHeld := hHn
          clear hHn
          try simp only [Act.put, List.setIfInBounds_toArray, List.set_cons_zero, List.set_cons_succ]
          refine wpAnyH_ready (rs := [5]) (by kernel_rfl) (by simp) ?_
          refine (AllReadyH.cons (o := ⟨_, _, _, _, _, _⟩) rfl (fun K hK => ?_) AllReadyH.nil)
          have ge_BD : w3.heap.size ≤ wd12.heap.size := (And.left hHeld).size
          go_simp
          try go_wp2_with fail
          refine out_gen hK _ _ (fun wz : World => Kp (wz.heap[w1.heap.size]? = some (.cells #[.int .i64 C.parts.length, .slice va (planL C).length vc, .int .i64 (planE C)] 79 (0, 0))) ∧ Kp (wz.heap[w.heap.size]? = some (.cells #[.slice pa C.parts.length pc, .slice ca C.chans.length cc, .int .i64 C.l0, .slice a0 C.w0.length c0, .int .i64 C.l1, .slice a1 C.w1.length c1] 29 (0, 0))) ∧ Kp (Below w.heap.size w wz) ∧ Kp (RowN wz 2 v3 (C.chans.length) c3 ((pickL (planL C) (C.parts.length + 0) C.chans.length).flatMap spanC) [wd12.heap.size, wd1.heap.size]) ∧ Kp (wz.heap[wd1.heap.size]? = some (.cells #[.int .i64 0, .slice none 0 0, .int .i64 0] 79 (0, 0))) ∧ Kp (RowN wz 2 v4 (C.chans.length) c4 ((pickL (planL C) (C.parts.length + 1) C.chans.length).flatMap spanC) [wd12.heap.size, wd1.heap.size]) ∧ Kp (wz.heap[wd12.heap.size]? = some (.cells #[.int .i64 0, .slice none 0 0, .int .i64 0] 79 (0, 0))) ∧ wd12.heap.size < wz.heap.size) ⟨⟨blk_al p3.out _⟩, ⟨blk_al q3.out _⟩, ⟨below_al HB3.out _⟩, ⟨RowN.al_new R1.out _⟩, ⟨blk_al BS.out _⟩, ⟨RowN.al_new R2.out _⟩, ⟨blk_new wd12 _⟩, (by simp)⟩ (sx_of0 (ButB.al (And.left hHeld) _)) (fun wd13 hRn hHn => ?_)
          clear hK K hHeld p3 q3 HB3 R1 BS R2
          obtain ⟨p3, q3, HB3, R1, BS, R2, BD, hsz13⟩ := hRn
          have hHeld := hHn
          clear hHn
          try simp only [Act.put, List.setIfInBounds_toArray, List.set_cons_zero, List.set_cons_succ]
          have lt_BD := blk_lt BD.out
          refine wpAnyH_ready (rs := [6]) (by kernel_rfl) (by simp) ?_
          refine (AllReadyH.cons (o := ⟨_, _, _, _, _, _⟩) rfl (fun K hK => ?_) AllReadyH.nil)
          have sd0 : wd13.cell? ⟨wd1.heap.size, 0, none⟩ = some (.int .i64 0) := (cell_blk BS.out 0).trans rfl
          have sf0 : wd13.frozen? ⟨wd1.heap.size, 0, none⟩ = false := frozen_blk BS.out 0
          have sd1 : wd13.cell? ⟨wd1.heap.size, 1, none⟩ = some (.slice none 0 0) := (cell_blk BS.out 1).trans rfl
          have sf1 : wd13.frozen? ⟨wd1.heap.size, 1, none⟩ = false := frozen_blk BS.out 1
          have sd2 : wd13.cell? ⟨wd1.heap.size, 2, none⟩ = some (.int .i64 0) := (cell_blk BS.out 2).trans rfl
          have sf2 : wd13.frozen? ⟨wd1.heap.size, 2, none⟩ = false := frozen_blk BS.out 2
          have sl := blk_lt BS.out
          go_simp
          try go_wp2_with fail
          refine out_gen hK _ _ (fun wz : World => Kp (wz.heap[w1.heap.size]? = some (.cells #[.int .i64 C.parts.length, .slice va (planL C).length vc, .int .i64 (planE C)] 79 (0, 0))) ∧ Kp (wz.heap[w.heap.size]? = some (.cells #[.slice pa C.parts.length pc, .slice ca C.chans.length cc, .int .i64 C.l0, .slice a0 C.w0.length c0, .int .i64 C.l1, .slice a1 C.w1.length c1] 29 (0, 0))) ∧ Kp (Below w.heap.size w wz) ∧ Kp (RowN wz 2 v3 (C.chans.length) c3 ((pickL (planL C) (C.parts.length + 0) C.chans.length).flatMap spanC) [wd12.heap.size, wd1.heap.size]) ∧ Kp (wz.heap[wd1.heap.size]? = some (.cells #[.int .i64 0, .slice v3 C.chans.length c3, .int .i64 0] 79 (0, 0))) ∧ Kp (RowN wz 2 v4 (C.chans.length) c4 ((pickL (planL C) (C.parts.length + 1) C.chans.length).flatMap spanC) [wd12.heap.size, wd1.heap.size]) ∧ Kp (wz.heap[wd12.heap.size]? = some (.cells #[.int .i64 0, .slice none 0 0, .int .i64 0] 79 (0, 0))) ∧ wd13.heap.size ≤ wz.heap.size) ⟨⟨(blk_set_ne (p := ⟨wd1.heap.size, 2, none⟩) (blk_set_ne (p := ⟨wd1.heap.size, 1, none⟩) (blk_set_ne (p := ⟨wd1.heap.size, 0, none⟩) p3.out (by show w1.heap.size ≠ wd1.heap.size; omega) _) (by show w1.heap.size ≠ wd1.heap.size; omega) _) (by show w1.heap.size ≠ wd1.heap.size; omega) _)⟩, ⟨(blk_set_ne (p := ⟨wd1.heap.size, 2, none⟩) (blk_set_ne (p := ⟨wd1.heap.size, 1, none⟩) (blk_set_ne (p := ⟨wd1.heap.size, 0, none⟩) q3.out (by show w.heap.size ≠ wd1.heap.size; omega) _) (by show w.heap.size ≠ wd1.heap.size; omega) _) (by show w.heap.size ≠ wd1.heap.size; omega) _)⟩, ⟨(((HB3.out.setCell (p := ⟨wd1.heap.size, 0, none⟩) (by show w.heap.size ≤ wd1.heap.size; omega) _).setCell (p := ⟨wd1.heap.size, 1, none⟩) (by show w.heap.size ≤ wd1.heap.size; omega) _).setCell (p := ⟨wd1.heap.size, 2, none⟩) (by show w.heap.size ≤ wd1.heap.size; omega) _)⟩, ⟨(RowN.set (RowN.set (RowN.set R1.out (p := ⟨wd1.heap.size, 0, none⟩) (by simp) _) (p := ⟨wd1.heap.size, 1, none⟩) (by simp) _) (p := ⟨wd1.heap.size, 2, none⟩) (by simp) _)⟩, ⟨(blk_set (blk_set (blk_set BS.out 0 _) 1 _) 2 _).trans rfl⟩, ⟨(RowN.set (RowN.set (RowN.set R2.out (p := ⟨wd1.heap.size, 0, none⟩) (by simp) _) (p := ⟨wd1.heap.size, 1, none⟩) (by simp) _) (p := ⟨wd1.heap.size, 2, none⟩) (by simp) _)⟩, ⟨(blk_set_ne (p := ⟨wd1.heap.size, 2, none⟩) (blk_set_ne (p := ⟨wd1.heap.size, 1, none⟩) (blk_set_ne (p := ⟨wd1.heap.size, 0, none⟩) BD.out (by show wd12.heap.size ≠ wd1.heap.size; omega) _) (by show wd12.heap.size ≠ wd1.heap.size; omega) _) (by show wd12.heap.size ≠ wd1.heap.size; omega) _)⟩, (by simp [World.setCell])⟩ (sx_of0 ((ButB.set (ButB.set (ButB.set (And.left hHeld) (p := ⟨wd1.heap.size, 0, none⟩) (by first | (left; simp; done) | (right; show w3.heap.size ≤ wd1.heap.size; omega)) _) (p := ⟨wd1.heap.size, 1, none⟩) (by first | (left; simp; done) | (right; show w3.heap.size ≤ wd1.heap.size; omega)) _) (p := ⟨wd1.heap.size, 2, none⟩) (by first | (left; simp; done) | (right; show w3.heap.size ≤ wd1.heap.size; omega)) _))) (fun wd14 hRn hHn => ?_)
          clear hK K hHeld p3 q3 HB3 R1 BS R2 BD sd0 sf0 sd1 sf1 sd2 sf2 sl
          obtain ⟨p3, q3, HB3, R1, BS, R2, BD, hsz14⟩ := hRn
          have hHeld := hHn
          clear hHn
          try simp only [Act.put, List.setIfInBounds_toArray, List.set_cons_zero, List.set_cons_succ]
          refine wpAnyH_ready (rs := [7]) (by kernel_rfl) (by simp) ?_
          refine (AllReadyH.cons (o := ⟨_, _, _, _, _, _⟩) rfl (fun K hK => ?_) AllReadyH.nil)
          have sd0 : wd14.cell? ⟨wd12.heap.size, 0, none⟩ = some (.int .i64 0) := (cell_blk BD.out 0).trans rfl
          have sf0 : wd14.frozen? ⟨wd12.heap.size, 0, none⟩ = false := frozen_blk BD.out 0
          have sd1 : wd14.cell? ⟨wd12.heap.size, 1, none⟩ = some (.slice none 0 0) := (cell_blk BD.out 1).trans rfl
          have sf1 : wd14.frozen? ⟨wd12.heap.size, 1, none⟩ = false := frozen_blk BD.out 1
          have sd2 : wd14.cell? ⟨wd12.heap.size, 2, none⟩ = some (.int .i64 0) := (cell_blk BD.out 2).trans rfl
          have sf2 : wd14.frozen? ⟨wd12.heap.size, 2, none⟩ = false := frozen_blk BD.out 2
          have sl := blk_lt BD.out
          go_simp
          try go_wp2_with fail
          refine out_gen hK _ _ (fun wz : World => Kp (wz.heap[w1.heap.size]? = some (.cells #[.int .i64 C.parts.length, .slice va (planL C).length vc, .int .i64 (planE C)] 79 (0, 0))) ∧ Kp (wz.heap[w.heap.size]? = some (.cells #[.slice pa C.parts.length pc, .slice ca C.chans.length cc, .int .i64 C.l0, .slice a0 C.w0.length c0, .int .i64 C.l1, .slice a1 C.w1.length c1] 29 (0, 0))) ∧ Kp (Below w.heap.size w wz) ∧ Kp (RowN wz 2 v3 (C.chans.length) c3 ((pickL (planL C) (C.parts.length + 0) C.chans.length).flatMap spanC) [wd12.heap.size, wd1.heap.size]) ∧ Kp (wz.heap[wd1.heap.size]? = some (.cells #[.int .i64 0, .slice v3 C.chans.length c3, .int .i64 0] 79 (0, 0))) ∧ Kp (RowN wz 2 v4 (C.chans.length) c4 ((pickL (planL C) (C.parts.length + 1) C.chans.length).flatMap spanC) [wd12.heap.size, wd1.heap.size]) ∧ Kp (wz.heap[wd12.heap.size]? = some (.cells #[.int .i64 0, .slice v4 C.chans.length c4, .int .i64 0] 79 (0, 0))) ∧ wd14.heap.size ≤ wz.heap.size) ⟨⟨(blk_set_ne (p := ⟨wd12.heap.size, 2, none⟩) (blk_set_ne (p := ⟨wd12.heap.size, 1, none⟩) (blk_set_ne (p := ⟨wd12.heap.size, 0, none⟩) p3.out (by show w1.heap.size ≠ wd12.heap.size; omega) _) (by show w1.heap.size ≠ wd12.heap.size; omega) _) (by show w1.heap.size ≠ wd12.heap.size; omega) _)⟩, ⟨(blk_set_ne (p := ⟨wd12.heap.size, 2, none⟩) (blk_set_ne (p := ⟨wd12.heap.size, 1, none⟩) (blk_set_ne (p := ⟨wd12.heap.size, 0, none⟩) q3.out (by show w.heap.size ≠ wd12.heap.size; omega) _) (by show w.heap.size ≠ wd12.heap.size; omega) _) (by show w.heap.size ≠ wd12.heap.size; omega) _)⟩, ⟨(((HB3.out.setCell (p := ⟨wd12.heap.size, 0, none⟩) (by show w.heap.size ≤ wd12.heap.size; omega) _).setCell (p := ⟨wd12.heap.size, 1, none⟩) (by show w.heap.size ≤ wd12.heap.size; omega) _).setCell (p := ⟨wd12.heap.size, 2, none⟩) (by show w.heap.size ≤ wd12.heap.size; omega) _)⟩, ⟨(RowN.set (RowN.set (RowN.set R1.out (p := ⟨wd12.heap.size, 0, none⟩) (by simp) _) (p := ⟨wd12.heap.size, 1, none⟩) (by simp) _) (p := ⟨wd12.heap.size, 2, none⟩) (by simp) _)⟩, ⟨(blk_set_ne (p := ⟨wd12.heap.size, 2, none⟩) (blk_set_ne (p := ⟨wd12.heap.size, 1, none⟩) (blk_set_ne (p := ⟨wd12.heap.size, 0, none⟩) BS.out (by show wd1.heap.size ≠ wd12.heap.size; omega) _) (by show wd1.heap.size ≠ wd12.heap.size; omega) _) (by show wd1.heap.size ≠ wd12.heap.size; omega) _)⟩, ⟨(RowN.set (RowN.set (RowN.set R2.out (p := ⟨wd12.heap.size, 0, none⟩) (by simp) _) (p := ⟨wd12.heap.size, 1, none⟩) (by simp) _) (p := ⟨wd12.heap.size, 2, none⟩) (by simp) _)⟩, ⟨(blk_set (blk_set (blk_set BD.out 0 _) 1 _) 2 _).trans rfl⟩, (by simp [World.setCell])⟩ (sx_of0 ((ButB.set (ButB.set (ButB.set (And.left hHeld) (p := ⟨wd12.heap.size, 0, none⟩) (by first | (left; simp; done) | (right; show w3.heap.size ≤ wd12.heap.size; omega)) _) (p := ⟨wd12.heap.size, 1, none⟩) (by first | (left; simp; done) | (right; show w3.heap.size ≤ wd12.heap.size; omega)) _) (p := ⟨wd12.heap.size, 2, none⟩) (by first | (left; simp; done) | (right; show w3.heap.size ≤ wd12.heap.size; omega)) _))) (fun wd15 hRn hHn => ?_)
          clear hK K hHeld p3 q3 HB3 R1 BS R2 BD sd0 sf0 sd1 sf1 sd2 sf2 sl
          obtain ⟨p3, q3, HB3, R1, BS, R2, BD, hsz15⟩ := hRn
          have hHeld := hHn
          clear hHn
          try simp only [Act.put, List.setIfInBounds_toArray, List.set_cons_zero, List.set_cons_succ]
          refine wpAnyH_done (by kernel_rfl) ?_ _
          go_wp2_with fail
          go_meet
          exact ⟨_, _, v3, v4, c3, c4, rfl, rfl, HB3, q3, BS, BD, ⟨R1.out.1⟩, ⟨R2.out.1⟩⟩
        · have ge_BD : w3.heap.size ≤ wd11.heap.size := (And.left hHeld).size
          go_simp
          try go_wp2_with fail
          refine out_gen hK _ _ (fun wz : World => Kp (wz.heap[w1.heap.size]? = some (.cells #[.int .i64 C.parts.length, .slice va (planL C).length vc, .int .i64 (planE C)] 79 (0, 0))) ∧ Kp (wz.heap[w.heap.size]? = some (.cells #[.slice pa C.parts.length pc, .slice ca C.chans.length cc, .int .i64 C.l0, .slice a0 C.w0.length c0, .int .i64 C.l1, .slice a1 C.w1.length c1] 29 (0, 0))) ∧ Kp (Below w.heap.size w wz) ∧ Kp (RowAt wz 2 (.slice va (planL C).length vc) (planL C).length ((planL C).flatMap spanC)) ∧ Kp (RowN wz 2 v3 (C.chans.length) c3 ((pickL (planL C) (C.parts.length + 0) C.chans.length).flatMap spanC) [wd11.heap.size, wd1.heap.size]) ∧ Kp (wz.heap[wd1.heap.size]? = some (.cells #[.int .i64 0, .slice none 0 0, .int .i64 0] 79 (0, 0))) ∧ Kp (wz.heap[wd11.heap.size]? = some (.cells #[.int .i64 0, .slice none 0 0, .int .i64 0] 79 (0, 0))) ∧ wd11.heap.size < wz.heap.size) ⟨⟨blk_al p3.out _⟩, ⟨blk_al q3.out _⟩, ⟨below_al HB3.out _⟩, ⟨O3.out.below (below_al (Below.refl _ _) _)⟩, ⟨RowN.al_new R1.out _⟩, ⟨blk_al BS.out _⟩, ⟨blk_new wd11 _⟩, (by simp)⟩ (sx_of0 (ButB.al (And.left hHeld) _)) (fun wd16 hRn hHn => ?_)
          clear hK K hHeld p3 q3 HB3 O3 R1 BS
          obtain ⟨p3, q3, HB3, O3, R1, BS, BD, hsz16⟩ := hRn
          have hHeld := hHn
          clear hHn
          try simp only [Act.put, List.setIfInBounds_toArray, List.set_cons_zero, List.set_cons_succ]
          have lt_BD := blk_lt BD.out
          refine wpAnyH_ready (rs := [3]) (by kernel_rfl) (by simp) ?_
          refine (AllReadyH.cons (o := ⟨_, _, _, _, _, _⟩) rfl (fun K hK => ?_) AllReadyH.nil)
          go_simp
          go_at_call 57
          refine (chans_any C.parts.length C.chans.length 1 (planE C) _ (planL C) (by omega) (by omega) (by omega) HPL.out _ O3.out).mono ?_
          rintro e w9 ⟨vv, rfl, hO, hb⟩
          obtain ⟨v4, c4, rfl, hx1, hx2⟩ := (RowAt.of_own hO).shape
          try go_wp2_with fail
          refine out_gen hK _ _ (fun wz : World => Kp (wz.heap[w1.heap.size]? = some (.cells #[.int .i64 C.parts.length, .slice va (planL C).length vc, .int .i64 (planE C)] 79 (0, 0))) ∧ Kp (wz.heap[w.heap.size]? = some (.cells #[.slice pa C.parts.length pc, .slice ca C.chans.length cc, .int .i64 C.l0, .slice a0 C.w0.length c0, .int .i64 C.l1, .slice a1 C.w1.length c1] 29 (0, 0))) ∧ Kp (Below w.heap.size w wz) ∧ Kp (RowN wz 2 v3 (C.chans.length) c3 ((pickL (planL C) (C.parts.length + 0) C.chans.length).flatMap spanC) [wd11.heap.size, wd1.heap.size]) ∧ Kp (wz.heap[wd1.heap.size]? = some (.cells #[.int .i64 0, .slice none 0 0, .int .i64 0] 79 (0, 0))) ∧ Kp (wz.heap[wd11.heap.size]? = some (.cells #[.int .i64 0, .slice none 0 0, .int .i64 0] 79 (0, 0))) ∧ Kp (RowN wz 2 v4 (C.chans.length) c4 ((pickL (planL C) (C.parts.length + 1) C.chans.length).flatMap spanC) [wd1.heap.size, wd11.heap.size]) ∧ wd16.heap.size ≤ wz.heap.size) ⟨⟨blk_below p3.out hb⟩, ⟨blk_below q3.out hb⟩, ⟨below_call HB3.out hb⟩, ⟨RowN.call R1.out hb⟩, ⟨blk_below BS.out hb⟩, ⟨blk_below BD.out hb⟩, ⟨RowN.of_own hO (by simp; try omega)⟩, hb.size⟩ (sx_of0 (ButB.call (And.left hHeld) hb)) (fun wd17 hRn hHn => ?_)
          clear hK K hHeld p3 q3 HB3 O3 R1 BS BD hO hb hx1 hx2
          obtain ⟨p3, q3, HB3, R1, BS, BD, R2, hsz17⟩ := hRn
          have hHeld := hHn
          clear hHn
          try simp only [Act.put, List.setIfInBounds_toArray, List.set_cons_zero, List.set_cons_succ]
          refine wpAnyH_ready (rs := [6]) (by kernel_rfl) (by simp) ?_
          refine (AllReadyH.cons (o := ⟨_, _, _, _, _, _⟩) rfl (fun K hK => ?_) AllReadyH.nil)
          have sd0 : wd17.cell? ⟨wd1.heap.size, 0, none⟩ = some (.int .i64 0) := (cell_blk BS.out 0).trans rfl
          have sf0 : wd17.frozen? ⟨wd1.heap.size, 0, none⟩ = false := frozen_blk BS.out 0
          have sd1 : wd17.cell? ⟨wd1.heap.size, 1, none⟩ = some (.slice none 0 0) := (cell_blk BS.out 1).trans rfl
          have sf1 : wd17.frozen? ⟨wd1.heap.size, 1, none⟩ = false := frozen_blk BS.out 1
          have sd2 : wd17.cell? ⟨wd1.heap.size, 2, none⟩ = some (.int .i64 0) := (cell_blk BS.out 2).trans rfl
          have sf2 : wd17.frozen? ⟨wd1.heap.size, 2, none⟩ = false := frozen_blk BS.out 2
          have sl := blk_lt BS.out
          go_simp
          try go_wp2_with fail
          refine out_gen hK _ _ (fun wz : World => Kp (wz.heap[w1.heap.size]? = some (.cells #[.int .i64 C.parts.length, .slice va (planL C).length vc, .int .i64 (planE C)] 79 (0, 0))) ∧ Kp (wz.heap[w.heap.size]? = some (.cells #[.slice pa C.parts.length pc, .slice ca C.chans.length cc, .int .i64 C.l0, .slice a0 C.w0.length c0, .int .i64 C.l1, .slice a1 C.w1.length c1] 29 (0, 0))) ∧ Kp (Below w.heap.size w wz) ∧ Kp (RowN wz 2 v3 (C.chans.length) c3 ((pickL (planL C) (C.parts.length + 0) C.chans.length).flatMap spanC) [wd11.heap.size, wd1.heap.size]) ∧ Kp (wz.heap[wd1.heap.size]? = some (.cells #[.int .i64 0, .slice v3 C.chans.length c3, .int .i64 0] 79 (0, 0))) ∧ Kp (wz.heap[wd11.heap.size]? = some (.cells #[.int .i64 0, .slice none 0 0, .int .i64 0] 79 (0, 0))) ∧ Kp (RowN wz 2 v4 (C.chans.length) c4 ((pickL (planL C) (C.parts.length + 1) C.chans.length).flatMap spanC) [wd1.heap.size, wd11.heap.size]) ∧ wd17.heap.size ≤ wz.heap.size) ⟨⟨(blk_set_ne (p := ⟨wd1.heap.size, 2, none⟩) (blk_set_ne (p := ⟨wd1.heap.size, 1, none⟩) (blk_set_ne (p := ⟨wd1.heap.size, 0, none⟩) p3.out (by show w1.heap.size ≠ wd1.heap.size; omega) _) (by show w1.heap.size ≠ wd1.heap.size; omega) _) (by show w1.heap.size ≠ wd1.heap.size; omega) _)⟩, ⟨(blk_set_ne (p := ⟨wd1.heap.size, 2, none⟩) (blk_set_ne (p := ⟨wd1.heap.size, 1, none⟩) (blk_set_ne (p := ⟨wd1.heap.size, 0, none⟩) q3.out (by show w.heap.size ≠ wd1.heap.size; omega) _) (by show w.heap.size ≠ wd1.heap.size; omega) _) (by show w.heap.size ≠ wd1.heap.size; omega) _)⟩, ⟨(((HB3.out.setCell (p := ⟨wd1.heap.size, 0, none⟩) (by show w.heap.size ≤ wd1.heap.size; omega) _).setCell (p := ⟨wd1.heap.size, 1, none⟩) (by show w.heap.size ≤ wd1.heap.size; omega) _).setCell (p := ⟨wd1.heap.size, 2, none⟩) (by show w.heap.size ≤ wd1.heap.size; omega) _)⟩, ⟨(RowN.set (RowN.set (RowN.set R1.out (p := ⟨wd1.heap.size, 0, none⟩) (by simp) _) (p := ⟨wd1.heap.size, 1, none⟩) (by simp) _) (p := ⟨wd1.heap.size, 2, none⟩) (by simp) _)⟩, ⟨(blk_set (blk_set (blk_set BS.out 0 _) 1 _) 2 _).trans rfl⟩, ⟨(blk_set_ne (p := ⟨wd1.heap.size, 2, none⟩) (blk_set_ne (p := ⟨wd1.heap.size, 1, none⟩) (blk_set_ne (p := ⟨wd1.heap.size, 0, none⟩) BD.out (by show wd11.heap.size ≠ wd1.heap.size; omega) _) (by show wd11.heap.size ≠ wd1.heap.size; omega) _) (by show wd11.heap.size ≠ wd1.heap.size; omega) _)⟩, ⟨(RowN.set (RowN.set (RowN.set R2.out (p := ⟨wd1.heap.size, 0, none⟩) (by simp) _) (p := ⟨wd1.heap.size, 1, none⟩) (by simp) _) (p := ⟨wd1.heap.size, 2, none⟩) (by simp) _)⟩, (by simp [World.setCell])⟩ (sx_of0 ((ButB.set (ButB.set (ButB.set (And.left hHeld) (p := ⟨wd1.heap.size, 0, none⟩) (by first | (left; simp; done) | (right; show w3.heap.size ≤ wd1.heap.size; omega)) _) (p := ⟨wd1.heap.size, 1, none⟩) (by first | (left; simp; done) | (right; show w3.heap.size ≤ wd1.heap.size; omega)) _) (p := ⟨wd1.heap.size, 2, none⟩) (by first | (left; simp; done) | (right; show w3.heap.size ≤ wd1.heap.size; omega)) _))) (fun wd18 hRn hHn => ?_)
          clear hK K hHeld p3 q3 HB3 R1 BS BD R2 sd0 sf0 sd1 sf1 sd2 sf2 sl
          obtain ⟨p3, q3, HB3, R1, BS, BD, R2, hsz18⟩ := hRn
          have hHeld := hHn
          clear hHn
          try simp only [Act.put, List.setIfInBounds_toArray, List.set_cons_zero, List.set_cons_succ]
          refine wpAnyH_ready (rs := [7]) (by kernel_rfl) (by simp) ?_
          refine (AllReadyH.cons (o := ⟨_, _, _, _, _, _⟩) rfl (fun K hK => ?_) AllReadyH.nil)
          have sd0 : wd18.cell? ⟨wd11.heap.size, 0, none⟩ = some (.int .i64 0) := (cell_blk BD.out 0).trans rfl
          have sf0 : wd18.frozen? ⟨wd11.heap.size, 0, none⟩ = false := frozen_blk BD.out 0
          have sd1 : wd18.cell? ⟨wd11.heap.size, 1, none⟩ = some (.slice none 0 0) := (cell_blk BD.out 1).trans rfl
          have sf1 : wd18.frozen? ⟨wd11.heap.size, 1, none⟩ = false := frozen_blk BD.out 1
          have sd2 : wd18.cell? ⟨wd11.heap.size, 2, none⟩ = some (.int .i64 0) := (cell_blk BD.out 2).trans rfl
          have sf2 : wd18.frozen? ⟨wd11.heap.size, 2, none⟩ = false := frozen_blk BD.out 2
          have sl := blk_lt BD.out
          go_simp
          try go_wp2_with fail
          refine out_gen hK _ _ (fun wz : World => Kp (wz.heap[w1.heap.size]? = some (.cells #[.int .i64 C.parts.length, .slice va (planL C).length vc, .int .i64 (planE C)] 79 (0, 0))) ∧ Kp (wz.heap[w.heap.size]? = some (.cells #[.slice pa C.parts.length pc, .slice ca C.chans.length cc, .int .i64 C.l0, .slice a0 C.w0.length c0, .int .i64 C.l1, .slice a1 C.w1.length c1] 29 (0, 0))) ∧ Kp (Below w.heap.size w wz) ∧ Kp (RowN wz 2 v3 (C.chans.length) c3 ((pickL (planL C) (C.parts.length + 0) C.chans.length).flatMap spanC) [wd11.heap.size, wd1.heap.size]) ∧ Kp (wz.heap[wd1.heap.size]? = some (.cells #[.int .i64 0, .slice v3 C.chans.length c3, .int .i64 0] 79 (0, 0))) ∧ Kp (wz.heap[wd11.heap.size]? = some (.cells #[.int .i64 0, .slice v4 C.chans.length c4, .int .i64 0] 79 (0, 0))) ∧ Kp (RowN wz 2 v4 (C.chans.length) c4 ((pickL (planL C) (C.parts.length + 1) C.chans.length).flatMap spanC) [wd1.heap.size, wd11.heap.size]) ∧ wd18.heap.size ≤ wz.heap.size) ⟨⟨(blk_set_ne (p := ⟨wd11.heap.size, 2, none⟩) (blk_set_ne (p := ⟨wd11.heap.size, 1, none⟩) (blk_set_ne (p := ⟨wd11.heap.size, 0, none⟩) p3.out (by show w1.heap.size ≠ wd11.heap.size; omega) _) (by show w1.heap.size ≠ wd11.heap.size; omega) _) (by show w1.heap.size ≠ wd11.heap.size; omega) _)⟩, ⟨(blk_set_ne (p := ⟨wd11.heap.size, 2, none⟩) (blk_set_ne (p := ⟨wd11.heap.size, 1, none⟩) (blk_set_ne (p := ⟨wd11.heap.size, 0, none⟩) q3.out (by show w.heap.size ≠ wd11.heap.size; omega) _) (by show w.heap.size ≠ wd11.heap.size; omega) _) (by show w.heap.size ≠ wd11.heap.size; omega) _)⟩, ⟨(((HB3.out.setCell (p := ⟨wd11.heap.size, 0, none⟩) (by show w.heap.size ≤ wd11.heap.size; omega) _).setCell (p := ⟨wd11.heap.size, 1, none⟩) (by show w.heap.size ≤ wd11.heap.size; omega) _).setCell (p := ⟨wd11.heap.size, 2, none⟩) (by show w.heap.size ≤ wd11.heap.size; omega) _)⟩, ⟨(RowN.set (RowN.set (RowN.set R1.out (p := ⟨wd11.heap.size, 0, none⟩) (by simp) _) (p := ⟨wd11.heap.size, 1, none⟩) (by simp) _) (p := ⟨wd11.heap.size, 2, none⟩) (by simp) _)⟩, ⟨(blk_set_ne (p := ⟨wd11.heap.size, 2, none⟩) (blk_set_ne (p := ⟨wd11.heap.size, 1, none⟩) (blk_set_ne (p := ⟨wd11.heap.size, 0, none⟩) BS.out (by show wd1.heap.size ≠ wd11.heap.size; omega) _) (by show wd1.heap.size ≠ wd11.heap.size; omega) _) (by show wd1.heap.size ≠ wd11.heap.size; omega) _)⟩, ⟨(blk_set (blk_set (blk_set BD.out 0 _) 1 _) 2 _).trans rfl⟩, ⟨(RowN.set (RowN.set (RowN.set R2.out (p := ⟨wd11.heap.size, 0, none⟩) (by simp) _) (p := ⟨wd11.heap.size, 1, none⟩) (by simp) _) (p := ⟨wd11.heap.size, 2, none⟩) (by simp) _)⟩, (by simp [World.setCell])⟩ (sx_of0 ((ButB.set (ButB.set (ButB.set (And.left hHeld) (p := ⟨wd11.heap.size, 0, none⟩) (by first | (left; simp; done) | (right; show w3.heap.size ≤ wd11.heap.size; omega)) _) (p := ⟨wd11.heap.size, 1, none⟩) (by first | (left; simp; done) | (right; show w3.heap.size ≤ wd11.heap.size; omega)) _) (p := ⟨wd11.heap.size, 2, none⟩) (by first | (left; simp; done) | (right; show w3.heap.size ≤ wd11.heap.size; omega)) _))) (fun wd19 hRn hHn => ?_)
          clear hK K hHeld p3 q3 HB3 R1 BS BD R2 sd0 sf0 sd1 sf1 sd2 sf2 sl
          obtain ⟨p3, q3, HB3, R1, BS, BD, R2, hsz19⟩ := hRn
          have hHeld := hHn
          clear hHn
          try simp only [Act.put, List.setIfInBounds_toArray, List.set_cons_zero, List.set_cons_succ]
          refine wpAnyH_done (by kernel_rfl) ?_ _
          go_wp2_with fail
          go_meet
          exact ⟨_, _, v3, v4, c3, c4, rfl, rfl, HB3, q3, BS, BD, ⟨R1.out.1⟩, ⟨R2.out.1⟩⟩
      · have ge_BD : w3.heap.size ≤ wd1.heap.size := (And.left hHeld).size
        go_simp
        try go_wp2_with fail
        refine out_gen hK _ _ (fun wz : World => Kp (wz.heap[w1.heap.size]? = some (.cells #[.int .i64 C.parts.length, .slice va (planL C).length vc, .int .i64 (planE C)] 79 (0, 0))) ∧ Kp (wz.heap[w.heap.size]? = some (.cells #[.slice pa C.parts.length pc, .slice ca C.chans.length cc, .int .i64 C.l0, .slice a0 C.w0.length c0, .int .i64 C.l1, .slice a1 C.w1.length c1] 29 (0, 0))) ∧ Kp (Below w.heap.size w wz) ∧ Kp (RowAt wz 2 (.slice va (planL C).length vc) (planL C).length ((planL C).flatMap spanC)) ∧ Kp (RowN wz 2 v3 (C.chans.length) c3 ((pickL (planL C) (C.parts.length + 0) C.chans.length).flatMap spanC) [wd1.heap.size]) ∧ Kp (wz.heap[wd1.heap.size]? = some (.cells #[.int .i64 0, .slice none 0 0, .int .i64 0] 79 (0, 0))) ∧ wd1.heap.size < wz.heap.size) ⟨⟨blk_al p3.out _⟩, ⟨blk_al q3.out _⟩, ⟨below_al HB3.out _⟩, ⟨O3.out.below (below_al (Below.refl _ _) _)⟩, ⟨RowN.al_new R1.out _⟩, ⟨blk_new wd1 _⟩, (by simp)⟩ (sx_of0 (ButB.al (And.left hHeld) _)) (fun wd20 hRn hHn => ?_)
        clear hK K hHeld p3 q3 HB3 O3 R1
        obtain ⟨p3, q3, HB3, O3, R1, BD, hsz20⟩ := hRn
        have hHeld := hHn
        clear hHn
        try simp only [Act.put, List.setIfInBounds_toArray, List.set_cons_zero, List.set_cons_succ]
        have lt_BD := blk_lt BD.out
        refine wpAnyH_ready (rs := [3, 4]) (by kernel_rfl) (by simp) ?_
        refine (AllReadyH.cons (o := ⟨_, _, _, _, _, _⟩) rfl (fun K hK => ?_) (AllReadyH.cons (o := ⟨_, _, _, _, _, _⟩) rfl (fun K hK => ?_) AllReadyH.nil))
        · go_simp
          go_at_call 57
          refine (chans_any C.parts.length C.chans.length 1 (planE C) _ (planL C) (by omega) (by omega) (by omega) HPL.out _ O3.out).mono ?_
          rintro e w9 ⟨vv, rfl, hO, hb⟩
          obtain ⟨v4, c4, rfl, hx1, hx2⟩ := (RowAt.of_own hO).shape
          try go_wp2_with fail
          refine out_gen hK _ _ (fun wz : World => Kp (wz.heap[w1.heap.size]? = some (.cells #[.int .i64 C.parts.length, .slice va (planL C).length vc, .int .i64 (planE C)] 79 (0, 0))) ∧ Kp (wz.heap[w.heap.size]? = some (.cells #[.slice pa C.parts.length pc, .slice ca C.chans.length cc, .int .i64 C.l0, .slice a0 C.w0.length c0, .int .i64 C.l1, .slice a1 C.w1.length c1] 29 (0, 0))) ∧ Kp (Below w.heap.size w wz) ∧ Kp (RowN wz 2 v3 (C.chans.length) c3 ((pickL (planL C) (C.parts.length + 0) C.chans.length).flatMap spanC) [wd1.heap.size]) ∧ Kp (wz.heap[wd1.heap.size]? = some (.cells #[.int .i64 0, .slice none 0 0, .int .i64 0] 79 (0, 0))) ∧ Kp (RowN wz 2 v4 (C.chans.length) c4 ((pickL (planL C) (C.parts.length + 1) C.chans.length).flatMap spanC) [wd1.heap.size]) ∧ wd20.heap.size ≤ wz.heap.size) ⟨⟨blk_below p3.out hb⟩, ⟨blk_below q3.out hb⟩, ⟨below_call HB3.out hb⟩, ⟨RowN.call R1.out hb⟩, ⟨blk_below BD.out hb⟩, ⟨RowN.of_own hO (by simp; try omega)⟩, hb.size⟩ (sx_of0 (ButB.call (And.left hHeld) hb)) (fun wd21 hRn hHn => ?_)
          clear hK K hHeld p3 q3 HB3 O3 R1 BD hO hb hx1 hx2
          obtain ⟨p3, q3, HB3, R1, BD, R2, hsz21⟩ := hRn
          have hHeld := hHn
          clear hHn
          try simp only [Act.put, List.setIfInBounds_toArray, List.set_cons_zero, List.set_cons_succ]
          refine wpAnyH_ready (rs := [4]) (by kernel_rfl) (by simp) ?_
          refine (AllReadyH.cons (o := ⟨_, _, _, _, _, _⟩) rfl (fun K hK => ?_) AllReadyH.nil)
          have ge_BS : w3.heap.size ≤ wd21.heap.size := (And.left hHeld).size
          go_simp
          try go_wp2_with fail
          refine out_gen hK _ _ (fun wz : World => Kp (wz.heap[w1.heap.size]? = some (.cells #[.int .i64 C.parts.length, .slice va (planL C).length vc, .int .i64 (planE C)] 79 (0, 0))) ∧ Kp (wz.heap[w.heap.size]? = some (.cells #[.slice pa C.parts.length pc, .slice ca C.chans.length cc, .int .i64 C.l0, .slice a0 C.w0.length c0, .int .i64 C.l1, .slice a1 C.w1.length c1] 29 (0, 0))) ∧ Kp (Below w.heap.size w wz) ∧ Kp (RowN wz 2 v3 (C.chans.length) c3 ((pickL (planL C) (C.parts.length + 0) C.chans.length).flatMap spanC) [wd21.heap.size, wd1.heap.size]) ∧ Kp (wz.heap[wd1.heap.size]? = some (.cells #[.int .i64 0, .slice none 0 0, .int .i64 0] 79 (0, 0))) ∧ Kp (RowN wz 2 v4 (C.chans.length) c4 ((pickL (planL C) (C.parts.length + 1) C.chans.length).flatMap spanC) [wd21.heap.size, wd1.heap.size]) ∧ Kp (wz.heap[wd21.heap.size]? = some (.cells #[.int .i64 0, .slice none 0 0, .int .i64 0] 79 (0, 0))) ∧ wd21.heap.size < wz.heap.size) ⟨⟨blk_al p3.out _⟩, ⟨blk_al q3.out _⟩, ⟨below_al HB3.out _⟩, ⟨RowN.al_new R1.out _⟩, ⟨blk_al BD.out _⟩, ⟨RowN.al_new R2.out _⟩, ⟨blk_new wd21 _⟩, (by simp)⟩ (sx_of0 (ButB.al (And.left hHeld) _)) (fun wd22 hRn hHn => ?_)
          clear hK K hHeld p3 q3 HB3 R1 BD R2
          obtain ⟨p3, q3, HB3, R1, BD, R2, BS, hsz22⟩ := hRn
          have hHeld := hHn
          clear hHn
          try simp only [Act.put, List.setIfInBounds_toArray, List.set_cons_zero, List.set_cons_succ]
          have lt_BS := blk_lt BS.out
          refine wpAnyH_ready (rs := [6]) (by kernel_rfl) (by simp) ?_
          refine (AllReadyH.cons (o := ⟨_, _, _, _, _, _⟩) rfl (fun K hK => ?_) AllReadyH.nil)
          have sd0 : wd22.cell? ⟨wd21.heap.size, 0, none⟩ = some (.int .i64 0) := (cell_blk BS.out 0).trans rfl
          have sf0 : wd22.frozen? ⟨wd21.heap.size, 0, none⟩ = false := frozen_blk BS.out 0
          have sd1 : wd22.cell? ⟨wd21.heap.size, 1, none⟩ = some (.slice none 0 0) := (cell_blk BS.out 1).trans rfl
          have sf1 : wd22.frozen? ⟨wd21.heap.size, 1, none⟩ = false := frozen_blk BS.out 1
          have sd2 : wd22.cell? ⟨wd21.heap.size, 2, none⟩ = some (.int .i64 0) := (cell_blk BS.out 2).trans rfl
          have sf2 : wd22.frozen? ⟨wd21.heap.size, 2, none⟩ = false := frozen_blk BS.out 2
          have sl := blk_lt BS.out
          go_simp
          try go_wp2_with fail
          refine out_gen hK _ _ (fun wz : World => Kp (wz.heap[w1.heap.size]? = some (.cells #[.int .i64 C.parts.length, .slice va (planL C).length vc, .int .i64 (planE C)] 79 (0, 0))) ∧ Kp (wz.heap[w.heap.size]? = some (.cells #[.slice pa C.parts.length pc, .slice ca C.chans.length cc, .int .i64 C.l0, .slice a0 C.w0.length c0, .int .i64 C.l1, .slice a1 C.w1.length c1] 29 (0, 0))) ∧ Kp (Below w.heap.size w wz) ∧ Kp (RowN wz 2 v3 (C.chans.length) c3 ((pickL (planL C) (C.parts.length + 0) C.chans.length).flatMap spanC) [wd21.heap.size, wd1.heap.size]) ∧ Kp (wz.heap[wd1.heap.size]? = some (.cells #[.int .i64 0, .slice none 0 0, .int .i64 0] 79 (0, 0))) ∧ Kp (RowN wz 2 v4 (C.chans.length) c4 ((pickL (planL C) (C.parts.length + 1) C.chans.length).flatMap spanC) [wd21.heap.size, wd1.heap.size]) ∧ Kp (wz.heap[wd21.heap.size]? = some (.cells #[.int .i64 0, .slice v3 C.chans.length c3, .int .i64 0] 79 (0, 0))) ∧ wd22.heap.size ≤ wz.heap.size) ⟨⟨(blk_set_ne (p := ⟨wd21.heap.size, 2, none⟩) (blk_set_ne (p := ⟨wd21.heap.size, 1, none⟩) (blk_set_ne (p := ⟨wd21.heap.size, 0, none⟩) p3.out (by show w1.heap.size ≠ wd21.heap.size; omega) _) (by show w1.heap.size ≠ wd21.heap.size; omega) _) (by show w1.heap.size ≠ wd21.heap.size; omega) _)⟩, ⟨(blk_set_ne (p := ⟨wd21.heap.size, 2, none⟩) (blk_set_ne (p := ⟨wd21.heap.size, 1, none⟩) (blk_set_ne (p := ⟨wd21.heap.size, 0, none⟩) q3.out (by show w.heap.size ≠ wd21.heap.size; omega) _) (by show w.heap.size ≠ wd21.heap.size; omega) _) (by show w.heap.size ≠ wd21.heap.size; omega) _)⟩, ⟨(((HB3.out.setCell (p := ⟨wd21.heap.size, 0, none⟩) (by show w.heap.size ≤ wd21.heap.size; omega) _).setCell (p := ⟨wd21.heap.size, 1, none⟩) (by show w.heap.size ≤ wd21.heap.size; omega) _).setCell (p := ⟨wd21.heap.size, 2, none⟩) (by show w.heap.size ≤ wd21.heap.size; omega) _)⟩, ⟨(RowN.set (RowN.set (RowN.set R1.out (p := ⟨wd21.heap.size, 0, none⟩) (by simp) _) (p := ⟨wd21.heap.size, 1, none⟩) (by simp) _) (p := ⟨wd21.heap.size, 2, none⟩) (by simp) _)⟩, ⟨(blk_set_ne (p := ⟨wd21.heap.size, 2, none⟩) (blk_set_ne (p := ⟨wd21.heap.size, 1, none⟩) (blk_set_ne (p := ⟨wd21.heap.size, 0, none⟩) BD.out (by show wd1.heap.size ≠ wd21.heap.size; omega) _) (by show wd1.heap.size ≠ wd21.heap.size; omega) _) (by show wd1.heap.size ≠ wd21.heap.size; omega) _)⟩, ⟨(RowN.set (RowN.set (RowN.set R2.out (p := ⟨wd21.heap.size, 0, none⟩) (by simp) _) (p := ⟨wd21.heap.size, 1, none⟩) (by simp) _) (p := ⟨wd21.heap.size, 2, none⟩) (by simp) _)⟩, ⟨(blk_set (blk_set (blk_set BS.out 0 _) 1 _) 2 _).trans rfl⟩, (by simp [World.setCell])⟩ (sx_of0 ((ButB.set (ButB.set (ButB.set (And.left hHeld) (p := ⟨wd21.heap.size, 0, none⟩) (by first | (left; simp; done) | (right; show w3.heap.size ≤ wd21.heap.size; omega)) _) (p := ⟨wd21.heap.size, 1, none⟩) (by first | (left; simp; done) | (right; show w3.heap.size ≤ wd21.heap.size; omega)) _) (p := ⟨wd21.heap.size, 2, none⟩) (by first | (left; simp; done) | (right; show w3.heap.size ≤ wd21.heap.size; omega)) _))) (fun wd23 hRn hHn => ?_)
          clear hK K hHeld p3 q3 HB3 R1 BD R2 BS sd0 sf0 sd1 sf1 sd2 sf2 sl
          obtain ⟨p3, q3, HB3, R1, BD, R2, BS, hsz23⟩ := hRn
          have hHeld := hHn
          clear hHn
          try simp only [Act.put, List.setIfInBounds_toArray, List.set_cons_zero, List.set_cons_succ]
          refine wpAnyH_ready (rs := [7]) (by kernel_rfl) (by simp) ?_
          refine (AllReadyH.cons (o := ⟨_, _, _, _, _, _⟩) rfl (fun K hK => ?_) AllReadyH.nil)
          have sd0 : wd23.cell? ⟨wd1.heap.size, 0, none⟩ = some (.int .i64 0) := (cell_blk BD.out 0).trans rfl
          have sf0 : wd23.frozen? ⟨wd1.heap.size, 0, none⟩ = false := frozen_blk BD.out 0
          have sd1 : wd23.cell? ⟨wd1.heap.size, 1, none⟩ = some (.slice none 0 0) := (cell_blk BD.out 1).trans rfl
          have sf1 : wd23.frozen? ⟨wd1.heap.size, 1, none⟩ = false := frozen_blk BD.out 1
          have sd2 : wd23.cell? ⟨wd1.heap.size, 2, none⟩ = some (.int .i64 0) := (cell_blk BD.out 2).trans rfl
          have sf2 : wd23.frozen? ⟨wd1.heap.size, 2, none⟩ = false := frozen_blk BD.out 2
          have sl := blk_lt BD.out
          go_simp
          try go_wp2_with fail
          refine out_gen hK _ _ (fun wz : World => Kp (wz.heap[w1.heap.size]? = some (.cells #[.int .i64 C.parts.length, .slice va (planL C).length vc, .int .i64 (planE C)] 79 (0, 0))) ∧ Kp (wz.heap[w.heap.size]? = some (.cells #[.slice pa C.parts.length pc, .slice ca C.chans.length cc, .int .i64 C.l0, .slice a0 C.w0.length c0, .int .i64 C.l1, .slice a1 C.w1.length c1] 29 (0, 0))) ∧ Kp (Below w.heap.size w wz) ∧ Kp (RowN wz 2 v3 (C.chans.length) c3 ((pickL (planL C) (C.parts.length + 0) C.chans.length).flatMap spanC) [wd21.heap.size, wd1.heap.size]) ∧ Kp (wz.heap[wd1.heap.size]? = some (.cells #[.int .i64 0, .slice v4 C.chans.length c4, .int .i64 0] 79 (0, 0))) ∧ Kp (RowN wz 2 v4 (C.chans.length) c4 ((pickL (planL C) (C.parts.length + 1) C.chans.length).flatMap spanC) [wd21.heap.size, wd1.heap.size]) ∧ Kp (wz.heap[wd21.heap.size]? = some (.cells #[.int .i64 0, .slice v3 C.chans.length c3, .int .i64 0] 79 (0, 0))) ∧ wd23.heap.size ≤ wz.heap.size) ⟨⟨(blk_set_ne (p := ⟨wd1.heap.size, 2, none⟩) (blk_set_ne (p := ⟨wd1.heap.size, 1, none⟩) (blk_set_ne (p := ⟨wd1.heap.size, 0, none⟩) p3.out (by show w1.heap.size ≠ wd1.heap.size; omega) _) (by show w1.heap.size ≠ wd1.heap.size; omega) _) (by show w1.heap.size ≠ wd1.heap.size; omega) _)⟩, ⟨(blk_set_ne (p := ⟨wd1.heap.size, 2, none⟩) (blk_set_ne (p := ⟨wd1.heap.size, 1, none⟩) (blk_set_ne (p := ⟨wd1.heap.size, 0, none⟩) q3.out (by show w.heap.size ≠ wd1.heap.size; omega) _) (by show w.heap.size ≠ wd1.heap.size; omega) _) (by show w.heap.size ≠ wd1.heap.size; omega) _)⟩, ⟨(((HB3.out.setCell (p := ⟨wd1.heap.size, 0, none⟩) (by show w.heap.size ≤ wd1.heap.size; omega) _).setCell (p := ⟨wd1.heap.size, 1, none⟩) (by show w.heap.size ≤ wd1.heap.size; omega) _).setCell (p := ⟨wd1.heap.size, 2, none⟩) (by show w.heap.size ≤ wd1.heap.size; omega) _)⟩, ⟨(RowN.set (RowN.set (RowN.set R1.out (p := ⟨wd1.heap.size, 0, none⟩) (by simp) _) (p := ⟨wd1.heap.size, 1, none⟩) (by simp) _) (p := ⟨wd1.heap.size, 2, none⟩) (by simp) _)⟩, ⟨(blk_set (blk_set (blk_set BD.out 0 _) 1 _) 2 _).trans rfl⟩, ⟨(RowN.set (RowN.set (RowN.set R2.out (p := ⟨wd1.heap.size, 0, none⟩) (by simp) _) (p := ⟨wd1.heap.size, 1, none⟩) (by simp) _) (p := ⟨wd1.heap.size, 2, none⟩) (by simp) _)⟩, ⟨(blk_set_ne (p := ⟨wd1.heap.size, 2, none⟩) (blk_set_ne (p := ⟨wd1.heap.size, 1, none⟩) (blk_set_ne (p := ⟨wd1.heap.size, 0, none⟩) BS.out (by show wd21.heap.size ≠ wd1.heap.size; omega) _) (by show wd21.heap.size ≠ wd1.heap.size; omega) _) (by show wd21.heap.size ≠ wd1.heap.size; omega) _)⟩, (by simp [World.setCell])⟩ (sx_of0 ((ButB.set (ButB.set (ButB.set (And.left hHeld) (p := ⟨wd1.heap.size, 0, none⟩) (by first | (left; simp; done) | (right; show w3.heap.size ≤ wd1.heap.size; omega)) _) (p := ⟨wd1.heap.size, 1, none⟩) (by first | (left; simp; done) | (right; show w3.heap.size ≤ wd1.heap.size; omega)) _) (p := ⟨wd1.heap.size, 2, none⟩) (by first | (left; simp; done) | (right; show w3.heap.size ≤ wd1.heap.size; omega)) _))) (fun wd24 hRn hHn => ?_)
          clear hK K hHeld p3 q3 HB3 R1 BD R2 BS sd0 sf0 sd1 sf1 sd2 sf2 sl
          obtain ⟨p3, q3, HB3, R1, BD, R2, BS, hsz24⟩ := hRn
          have hHeld := hHn
          clear hHn
          try simp only [Act.put, List.setIfInBounds_toArray, List.set_cons_zero, List.set_cons_succ]
          refine wpAnyH_done (by kernel_rfl) ?_ _
          go_wp2_with fail
          go_meet
          exact ⟨_, _, v3, v4, c3, c4, rfl, rfl, HB3, q3, BS, BD, ⟨R1.out.1⟩, ⟨R2.out.1⟩⟩
        · have ge_BS : w3.heap.size ≤ wd20.heap.size := (And.left hHeld).size
          go_simp
          try go_wp2_with fail
          refine out_gen hK _ _ (fun wz : World => Kp (wz.heap[w1.heap.size]? = some (.cells #[.int .i64 C.parts.length, .slice va (planL C).length vc, .int .i64 (planE C)] 79 (0, 0))) ∧ Kp (wz.heap[w.heap.size]? = some (.cells #[.slice pa C.parts.length pc, .slice ca C.chans.length cc, .int .i64 C.l0, .slice a0 C.w0.length c0, .int .i64 C.l1, .slice a1 C.w1.length c1] 29 (0, 0))) ∧ Kp (Below w.heap.size w wz) ∧ Kp (RowAt wz 2 (.slice va (planL C).length vc) (planL C).length ((planL C).flatMap spanC)) ∧ Kp (RowN wz 2 v3 (C.chans.length) c3 ((pickL (planL C) (C.parts.length + 0) C.chans.length).flatMap spanC) [wd20.heap.size, wd1.heap.size]) ∧ Kp (wz.heap[wd1.heap.size]? = some (.cells #[.int .i64 0, .slice none 0 0, .int .i64 0] 79 (0, 0))) ∧ Kp (wz.heap[wd20.heap.size]? = some (.cells #[.int .i64 0, .slice none 0 0, .int .i64 0] 79 (0, 0))) ∧ wd20.heap.size < wz.heap.size) ⟨⟨blk_al p3.out _⟩, ⟨blk_al q3.out _⟩, ⟨below_al HB3.out _⟩, ⟨O3.out.below (below_al (Below.refl _ _) _)⟩, ⟨RowN.al_new R1.out _⟩, ⟨blk_al BD.out _⟩, ⟨blk_new wd20 _⟩, (by simp)⟩ (sx_of0 (ButB.al (And.left hHeld) _)) (fun wd25 hRn hHn => ?_)
          clear hK K hHeld p3 q3 HB3 O3 R1 BD
          obtain ⟨p3, q3, HB3, O3, R1, BD, BS, hsz25⟩ := hRn
          have hHeld := hHn
          clear hHn
          try simp only [Act.put, List.setIfInBounds_toArray, List.set_cons_zero, List.set_cons_succ]
          have lt_BS := blk_lt BS.out
          refine wpAnyH_ready (rs := [3]) (by kernel_rfl) (by simp) ?_
          refine (AllReadyH.cons (o := ⟨_, _, _, _, _, _⟩) rfl (fun K hK => ?_) AllReadyH.nil)
          go_simp
          go_at_call 57
          refine (chans_any C.parts.length C.chans.length 1 (planE C) _ (planL C) (by omega) (by omega) (by omega) HPL.out _ O3.out).mono ?_
          rintro e w9 ⟨vv, rfl, hO, hb⟩
          obtain ⟨v4, c4, rfl, hx1, hx2⟩ := (RowAt.of_own hO).shape
          try go_wp2_with fail
          refine out_gen hK _ _ (fun wz : World => Kp (wz.heap[w1.heap.size]? = some (.cells #[.int .i64 C.parts.length, .slice va (planL C).length vc, .int .i64 (planE C)] 79 (0, 0))) ∧ Kp (wz.heap[w.heap.size]? = some (.cells #[.slice pa C.parts.length pc, .slice ca C.chans.length cc, .int .i64 C.l0, .slice a0 C.w0.length c0, .int .i64 C.l1, .slice a1 C.w1.length c1] 29 (0, 0))) ∧ Kp (Below w.heap.size w wz) ∧ Kp (RowN wz 2 v3 (C.chans.length) c3 ((pickL (planL C) (C.parts.length + 0) C.chans.length).flatMap spanC) [wd20.heap.size, wd1.heap.size]) ∧ Kp (wz.heap[wd1.heap.size]? = some (.cells #[.int .i64 0, .slice none 0 0, .int .i64 0] 79 (0, 0))) ∧ Kp (wz.heap[wd20.heap.size]? = some (.cells #[.int .i64 0, .slice none 0 0, .int .i64 0] 79 (0, 0))) ∧ Kp (RowN wz 2 v4 (C.chans.length) c4 ((pickL (planL C) (C.parts.length + 1) C.chans.length).flatMap spanC) [wd1.heap.size, wd20.heap.size]) ∧ wd25.heap.size ≤ wz.heap.size) ⟨⟨blk_below p3.out hb⟩, ⟨blk_below q3.out hb⟩, ⟨below_call HB3.out hb⟩, ⟨RowN.call R1.out hb⟩, ⟨blk_below BD.out hb⟩, ⟨blk_below BS.out hb⟩, ⟨RowN.of_own hO (by simp; try omega)⟩, hb.size⟩ (sx_of0 (ButB.call (And.left hHeld) hb)) (fun wd26 hRn hHn => ?_)
          clear hK K hHeld p3 q3 HB3 O3 R1 BD BS hO hb hx1 hx2
          obtain ⟨p3, q3, HB3, R1, BD, BS, R2, hsz26⟩ := hRn
          have hHeld := hHn
          clear hHn
          try simp only [Act.put, List.setIfInBounds_toArray, List.set_cons_zero, List.set_cons_succ]
          refine wpAnyH_ready (rs := [6]) (by kernel_rfl) (by simp) ?_
          refine (AllReadyH.cons (o := ⟨_, _, _, _, _, _⟩) rfl (fun K hK => ?_) AllReadyH.nil)
          have sd0 : wd26.cell? ⟨wd20.heap.size, 0, none⟩ = some (.int .i64 0) := (cell_blk BS.out 0).trans rfl
          have sf0 : wd26.frozen? ⟨wd20.heap.size, 0, none⟩ = false := frozen_blk BS.out 0
          have sd1 : wd26.cell? ⟨wd20.heap.size, 1, none⟩ = some (.slice none 0 0) := (cell_blk BS.out 1).trans rfl
          have sf1 : wd26.frozen? ⟨wd20.heap.size, 1, none⟩ = false := frozen_blk BS.out 1
          have sd2 : wd26.cell? ⟨wd20.heap.size, 2, none⟩ = some (.int .i64 0) := (cell_blk BS.out 2).trans rfl
          have sf2 : wd26.frozen? ⟨wd20.heap.size, 2, none⟩ = false := frozen_blk BS.out 2
          have sl := blk_lt BS.out
          go_simp
          try go_wp2_with fail
          refine out_gen hK _ _ (fun wz : World => Kp (wz.heap[w1.heap.size]? = some (.cells #[.int .i64 C.parts.length, .slice va (planL C).length vc, .int .i64 (planE C)] 79 (0, 0))) ∧ Kp (wz.heap[w.heap.size]? = some (.cells #[.slice pa C.parts.length pc, .slice ca C.chans.length cc, .int .i64 C.l0, .slice a0 C.w0.length c0, .int .i64 C.l1, .slice a1 C.w1.length c1] 29 (0, 0))) ∧ Kp (Below w.heap.size w wz) ∧ Kp (RowN wz 2 v3 (C.chans.length) c3 ((pickL (planL C) (C.parts.length + 0) C.chans.length).flatMap spanC) [wd20.heap.size, wd1.heap.size]) ∧ Kp (wz.heap[wd1.heap.size]? = some (.cells #[.int .i64 0, .slice none 0 0, .int .i64 0] 79 (0, 0))) ∧ Kp (wz.heap[wd20.heap.size]? = some (.cells #[.int .i64 0, .slice v3 C.chans.length c3, .int .i64 0] 79 (0, 0))) ∧ Kp (RowN wz 2 v4 (C.chans.length) c4 ((pickL (planL C) (C.parts.length + 1) C.chans.length).flatMap spanC) [wd1.heap.size, wd20.heap.size]) ∧ wd26.heap.size ≤ wz.heap.size) ⟨⟨(blk_set_ne (p := ⟨wd20.heap.size, 2, none⟩) (blk_set_ne (p := ⟨wd20.heap.size, 1, none⟩) (blk_set_ne (p := ⟨wd20.heap.size, 0, none⟩) p3.out (by show w1.heap.size ≠ wd20.heap.size; omega) _) (by show w1.heap.size ≠ wd20.heap.size; omega) _) (by show w1.heap.size ≠ wd20.heap.size; omega) _)⟩, ⟨(blk_set_ne (p := ⟨wd20.heap.size, 2, none⟩) (blk_set_ne (p := ⟨wd20.heap.size, 1, none⟩) (blk_set_ne (p := ⟨wd20.heap.size, 0, none⟩) q3.out (by show w.heap.size ≠ wd20.heap.size; omega) _) (by show w.heap.size ≠ wd20.heap.size; omega) _) (by show w.heap.size ≠ wd20.heap.size; omega) _)⟩, ⟨(((HB3.out.setCell (p := ⟨wd20.heap.size, 0, none⟩) (by show w.heap.size ≤ wd20.heap.size; omega) _).setCell (p := ⟨wd20.heap.size, 1, none⟩) (by show w.heap.size ≤ wd20.heap.size; omega) _).setCell (p := ⟨wd20.heap.size, 2, none⟩) (by show w.heap.size ≤ wd20.heap.size; omega) _)⟩, ⟨(RowN.set (RowN.set (RowN.set R1.out (p := ⟨wd20.heap.size, 0, none⟩) (by simp) _) (p := ⟨wd20.heap.size, 1, none⟩) (by simp) _) (p := ⟨wd20.heap.size, 2, none⟩) (by simp) _)⟩, ⟨(blk_set_ne (p := ⟨wd20.heap.size, 2, none⟩) (blk_set_ne (p := ⟨wd20.heap.size, 1, none⟩) (blk_set_ne (p := ⟨wd20.heap.size, 0, none⟩) BD.out (by show wd1.heap.size ≠ wd20.heap.size; omega) _) (by show wd1.heap.size ≠ wd20.heap.size; omega) _) (by show wd1.heap.size ≠ wd20.heap.size; omega) _)⟩, ⟨(blk_set (blk_set (blk_set BS.out 0 _) 1 _) 2 _).trans rfl⟩, ⟨(RowN.set (RowN.set (RowN.set R2.out (p := ⟨wd20.heap.size, 0, none⟩) (by simp) _) (p := ⟨wd20.heap.size, 1, none⟩) (by simp) _) (p := ⟨wd20.heap.size, 2, none⟩) (by simp) _)⟩, (by simp [World.setCell])⟩ (sx_of0 ((ButB.set (ButB.set (ButB.set (And.left hHeld) (p := ⟨wd20.heap.size, 0, none⟩) (by first | (left; simp; done) | (right; show w3.heap.size ≤ wd20.heap.size; omega)) _) (p := ⟨wd20.heap.size, 1, none⟩) (by first | (left; simp; done) | (right; show w3.heap.size ≤ wd20.heap.size; omega)) _) (p := ⟨wd20.heap.size, 2, none⟩) (by first | (left; simp; done) | (right; show w3.heap.size ≤ wd20.heap.size; omega)) _))) (fun wd27 hRn hHn => ?_)
          clear hK K hHeld p3 q3 HB3 R1 BD BS R2 sd0 sf0 sd1 sf1 sd2 sf2 sl
          obtain ⟨p3, q3, HB3, R1, BD, BS, R2, hsz27⟩ := hRn
          have hHeld := hHn
          clear hHn
          try simp only [Act.put, List.setIfInBounds_toArray, List.set_cons_zero, List.set_cons_succ]
          refine wpAnyH_ready (rs := [7]) (by kernel_rfl) (by simp) ?_
          refine (AllReadyH.cons (o := ⟨_, _, _, _, _, _⟩) rfl (fun K hK => ?_) AllReadyH.nil)
          have sd0 : wd27.cell? ⟨wd1.heap.size, 0, none⟩ = some (.int .i64 0) := (cell_blk BD.out 0).trans rfl
          have sf0 : wd27.frozen? ⟨wd1.heap.size, 0, none⟩ = false := frozen_blk BD.out 0
          have sd1 : wd27.cell? ⟨wd1.heap.size, 1, none⟩ = some (.slice none 0 0) := (cell_blk BD.out 1).trans rfl
          have sf1 : wd27.frozen? ⟨wd1.heap.size, 1, none⟩ = false := frozen_blk BD.out 1
          have sd2 : wd27.cell? ⟨wd1.heap.size, 2, none⟩ = some (.int .i64 0) := (cell_blk BD.out 2).trans rfl
          have sf2 : wd27.frozen? ⟨wd1.heap.size, 2, none⟩ = false := frozen_blk BD.out 2
          have sl := blk_lt BD.out
          go_simp
          try go_wp2_with fail
          refine out_gen hK _ _ (fun wz : World => Kp (wz.heap[w1.heap.size]? = some (.cells #[.int .i64 C.parts.length, .slice va (planL C).length vc, .int .i64 (planE C)] 79 (0, 0))) ∧ Kp (wz.heap[w.heap.size]? = some (.cells #[.slice pa C.parts.length pc, .slice ca C.chans.length cc, .int .i64 C.l0, .slice a0 C.w0.length c0, .int .i64 C.l1, .slice a1 C.w1.length c1] 29 (0, 0))) ∧ Kp (Below w.heap.size w wz) ∧ Kp (RowN wz 2 v3 (C.chans.length) c3 ((pickL (planL C) (C.parts.length + 0) C.chans.length).flatMap spanC) [wd20.heap.size, wd1.heap.size]) ∧ Kp (wz.heap[wd1.heap.size]? = some (.cells #[.int .i64 0, .slice v4 C.chans.length c4, .int .i64 0] 79 (0, 0))) ∧ Kp (wz.heap[wd20.heap.size]? = some (.cells #[.int .i64 0, .slice v3 C.chans.length c3, .int .i64 0] 79 (0, 0))) ∧ Kp (RowN wz 2 v4 (C.chans.length) c4 ((pickL (planL C) (C.parts.length + 1) C.chans.length).flatMap spanC) [wd1.heap.size, wd20.heap.size]) ∧ wd27.heap.size ≤ wz.heap.size) ⟨⟨(blk_set_ne (p := ⟨wd1.heap.size, 2, none⟩) (blk_set_ne (p := ⟨wd1.heap.size, 1, none⟩) (blk_set_ne (p := ⟨wd1.heap.size, 0, none⟩) p3.out (by show w1.heap.size ≠ wd1.heap.size; omega) _) (by show w1.heap.size ≠ wd1.heap.size; omega) _) (by show w1.heap.size ≠ wd1.heap.size; omega) _)⟩, ⟨(blk_set_ne (p := ⟨wd1.heap.size, 2, none⟩) (blk_set_ne (p := ⟨wd1.heap.size, 1, none⟩) (blk_set_ne (p := ⟨wd1.heap.size, 0, none⟩) q3.out (by show w.heap.size ≠ wd1.heap.size; omega) _) (by show w.heap.size ≠ wd1.heap.size; omega) _) (by show w.heap.size ≠ wd1.heap.size; omega) _)⟩, ⟨(((HB3.out.setCell (p := ⟨wd1.heap.size, 0, none⟩) (by show w.heap.size ≤ wd1.heap.size; omega) _).setCell (p := ⟨wd1.heap.size, 1, none⟩) (by show w.heap.size ≤ wd1.heap.size; omega) _).setCell (p := ⟨wd1.heap.size, 2, none⟩) (by show w.heap.size ≤ wd1.heap.size; omega) _)⟩, ⟨(RowN.set (RowN.set (RowN.set R1.out (p := ⟨wd1.heap.size, 0, none⟩) (by simp) _) (p := ⟨wd1.heap.size, 1, none⟩) (by simp) _) (p := ⟨wd1.heap.size, 2, none⟩) (by simp) _)⟩, ⟨(blk_set (blk_set (blk_set BD.out 0 _) 1 _) 2 _).trans rfl⟩, ⟨(blk_set_ne (p := ⟨wd1.heap.size, 2, none⟩) (blk_set_ne (p := ⟨wd1.heap.size, 1, none⟩) (blk_set_ne (p := ⟨wd1.heap.size, 0, none⟩) BS.out (by show wd20.heap.size ≠ wd1.heap.size; omega) _) (by show wd20.heap.size ≠ wd1.heap.size; omega) _) (by show wd20.heap.size ≠ wd1.heap.size; omega) _)⟩, ⟨(RowN.set (RowN.set (RowN.set R2.out (p := ⟨wd1.heap.size, 0, none⟩) (by simp) _) (p := ⟨wd1.heap.size, 1, none⟩) (by simp) _) (p := ⟨wd1.heap.size, 2, none⟩) (by simp) _)⟩, (by simp [World.setCell])⟩ (sx_of0 ((ButB.set (ButB.set (ButB.set (And.left hHeld) (p := ⟨wd1.heap.size, 0, none⟩) (by first | (left; simp; done) | (right; show w3.heap.size ≤ wd1.heap.size; omega)) _) (p := ⟨wd1.heap.size, 1, none⟩) (by first | (left; simp; done) | (right; show w3.heap.size ≤ wd1.heap.size; omega)) _) (p := ⟨wd1.heap.size, 2, none⟩) (by first | (left; simp; done) | (right; show w3.heap.size ≤ wd1.heap.size; omega)) _))) (fun wd28 hRn hHn => ?_)
          clear hK K hHeld p3 q3 HB3 R1 BD BS R2 sd0 sf0 sd1 sf1 sd2 sf2 sl
          obtain ⟨p3, q3, HB3, R1, BD, BS, R2, hsz28⟩ := hRn
          have hHeld := hHn
          clear hHn
          try simp only [Act.put, List.setIfInBounds_toArray, List.set_cons_zero, List.set_cons_succ]
          refine wpAnyH_done (by kernel_rfl) ?_ _
          go_wp2_with fail
          go_meet
          exact ⟨_, _, v3, v4, c3, c4, rfl, rfl, HB3, q3, BS, BD, ⟨R1.out.1⟩, ⟨R2.out.1⟩⟩
    · have ge_BS : w3.heap.size ≤ wd0.heap.size := (And.left hHeld).size
      go_simp
      try go_wp2_with fail
      refine out_gen hK _ _ (fun wz : World => Kp (wz.heap[w1.heap.size]? = some (.cells #[.int .i64 C.parts.length, .slice va (planL C).length vc, .int .i64 (planE C)] 79 (0, 0))) ∧ Kp (wz.heap[w.heap.size]? = some (.cells #[.slice pa C.parts.length pc, .slice ca C.chans.length cc, .int .i64 C.l0, .slice a0 C.w0.length c0, .int .i64 C.l1, .slice a1 C.w1.length c1] 29 (0, 0))) ∧ Kp (Below w.heap.size w wz) ∧ Kp (RowAt wz 2 (.slice va (planL C).length vc) (planL C).length ((planL C).flatMap spanC)) ∧ Kp (wz.heap[wd0.heap.size]? = some (.cells #[.int .i64 0, .slice none 0 0, .int .i64 0] 79 (0, 0))) ∧ wd0.heap.size < wz.heap.size) ⟨⟨blk_al p3.out _⟩, ⟨blk_al q3.out _⟩, ⟨below_al HB3.out _⟩, ⟨O3.out.below (below_al (Below.refl _ _) _)⟩, ⟨blk_new wd0 _⟩, (by simp)⟩ (sx_of0 (ButB.al (And.left hHeld) _)) (fun wd29 hRn hHn => ?_)
      clear hK K hHeld p3 q3 HB3 O3
      obtain ⟨p3, q3, HB3, O3, BS, hsz29⟩ := hRn
      have hHeld := hHn
      clear hHn
      try simp only [Act.put, List.setIfInBounds_toArray, List.set_cons_zero, List.set_cons_succ]
      have lt_BS := blk_lt BS.out
      refine wpAnyH_ready (rs := [1, 5]) (by kernel_rfl) (by simp) ?_
      refine (AllReadyH.cons (o := ⟨_, _, _, _, _, _⟩) rfl (fun K hK => ?_) (AllReadyH.cons (o := ⟨_, _, _, _, _, _⟩) rfl (fun K hK => ?_) AllReadyH.nil))
      · go_simp
        go_at_call 57
        refine (chans_any C.parts.length C.chans.length 0 (planE C) _ (planL C) (by omega) (by omega) (by omega) HPL.out _ O3.out).mono ?_
        rintro e w9 ⟨vv, rfl, hO, hb⟩
        obtain ⟨v3, c3, rfl, hx1, hx2⟩ := (RowAt.of_own hO).shape
        try go_wp2_with fail
        refine out_gen hK _ _ (fun wz : World => Kp (wz.heap[w1.heap.size]? = some (.cells #[.int .i64 C.parts.length, .slice va (planL C).length vc, .int .i64 (planE C)] 79 (0, 0))) ∧ Kp (wz.heap[w.heap.size]? = some (.cells #[.slice pa C.parts.length pc, .slice ca C.chans.length cc, .int .i64 C.l0, .slice a0 C.w0.length c0, .int .i64 C.l1, .slice a1 C.w1.length c1] 29 (0, 0))) ∧ Kp (Below w.heap.size w wz) ∧ Kp (RowAt wz 2 (.slice va (planL C).length vc) (planL C).length ((planL C).flatMap spanC)) ∧ Kp (wz.heap[wd0.heap.size]? = some (.cells #[.int .i64 0, .slice none 0 0, .int .i64 0] 79 (0, 0))) ∧ Kp (RowN wz 2 v3 (C.chans.length) c3 ((pickL (planL C) (C.parts.length + 0) C.chans.length).flatMap spanC) [wd0.heap.size]) ∧ wd29.heap.size ≤ wz.heap.size) ⟨⟨blk_below p3.out hb⟩, ⟨blk_below q3.out hb⟩, ⟨below_call HB3.out hb⟩, ⟨O3.out.below hb⟩, ⟨blk_below BS.out hb⟩, ⟨RowN.of_own hO (by simp; try omega)⟩, hb.size⟩ (sx_of0 (ButB.call (And.left hHeld) hb)) (fun wd30 hRn hHn => ?_)
        clear hK K hHeld p3 q3 HB3 O3 BS hO hb hx1 hx2
        obtain ⟨p3, q3, HB3, O3, BS, R1, hsz30⟩ := hRn
        have hHeld := hHn
        clear hHn
        try simp only [Act.put, List.setIfInBounds_toArray, List.set_cons_zero, List.set_cons_succ]
        refine wpAnyH_ready (rs := [3, 5]) (by kernel_rfl) (by simp) ?_
        refine (AllReadyH.cons (o := ⟨_, _, _, _, _, _⟩) rfl (fun K hK => ?_) (AllReadyH.cons (o := ⟨_, _, _, _, _, _⟩) rfl (fun K hK => ?_) AllReadyH.nil))
        · go_simp
          go_at_call 57
          refine (chans_any C.parts.length C.chans.length 1 (planE C) _ (planL C) (by omega) (by omega) (by omega) HPL.out _ O3.out).mono ?_
          rintro e w9 ⟨vv, rfl, hO, hb⟩
          obtain ⟨v4, c4, rfl, hx1, hx2⟩ := (RowAt.of_own hO).shape
          try go_wp2_with fail
          refine out_gen hK _ _ (fun wz : World => Kp (wz.heap[w1.heap.size]? = some (.cells #[.int .i64 C.parts.length, .slice va (planL C).length vc, .int .i64 (planE C)] 79 (0, 0))) ∧ Kp (wz.heap[w.heap.size]? = some (.cells #[.slice pa C.parts.length pc, .slice ca C.chans.length cc, .int .i64 C.l0, .slice a0 C.w0.length c0, .int .i64 C.l1, .slice a1 C.w1.length c1] 29 (0, 0))) ∧ Kp (Below w.heap.size w wz) ∧ Kp (wz.heap[wd0.heap.size]? = some (.cells #[.int .i64 0, .slice none 0 0, .int .i64 0] 79 (0, 0))) ∧ Kp (RowN wz 2 v3 (C.chans.length) c3 ((pickL (planL C) (C.parts.length + 0) C.chans.length).flatMap spanC) [wd0.heap.size]) ∧ Kp (RowN wz 2 v4 (C.chans.length) c4 ((pickL (planL C) (C.parts.length + 1) C.chans.length).flatMap spanC) [wd0.heap.size]) ∧ wd30.heap.size ≤ wz.heap.size) ⟨⟨blk_below p3.out hb⟩, ⟨blk_below q3.out hb⟩, ⟨below_call HB3.out hb⟩, ⟨blk_below BS.out hb⟩, ⟨RowN.call R1.out hb⟩, ⟨RowN.of_own hO (by simp; try omega)⟩, hb.size⟩ (sx_of0 (ButB.call (And.left hHeld) hb)) (fun wd31 hRn hHn => ?_)
          clear hK K hHeld p3 q3 HB3 O3 BS R1 hO hb hx1 hx2
          obtain ⟨p3, q3, HB3, BS, R1, R2, hsz31⟩ := hRn
          have hHeld := hHn
          clear hHn
          try simp only [Act.put, List.setIfInBounds_toArray, List.set_cons_zero, List.set_cons_succ]
          refine wpAnyH_ready (rs := [5]) (by kernel_rfl) (by simp) ?_
          refine (AllReadyH.cons (o := ⟨_, _, _, _, _, _⟩) rfl (fun K hK => ?_) AllReadyH.nil)
          have ge_BD : w3.heap.size ≤ wd31.heap.size := (And.left hHeld).size
          go_simp
          try go_wp2_with fail
          refine out_gen hK _ _ (fun wz : World => Kp (wz.heap[w1.heap.size]? = some (.cells #[.int .i64 C.parts.length, .slice va (planL C).length vc, .int .i64 (planE C)] 79 (0, 0))) ∧ Kp (wz.heap[w.heap.size]? = some (.cells #[.slice pa C.parts.length pc, .slice ca C.chans.length cc, .int .i64 C.l0, .slice a0 C.w0.length c0, .int .i64 C.l1, .slice a1 C.w1.length c1] 29 (0, 0))) ∧ Kp (Below w.heap.size w wz) ∧ Kp (wz.heap[wd0.heap.size]? = some (.cells #[.int .i64 0, .slice none 0 0, .int .i64 0] 79 (0, 0))) ∧ Kp (RowN wz 2 v3 (C.chans.length) c3 ((pickL (planL C) (C.parts.length + 0) C.chans.length).flatMap spanC) [wd31.heap.size, wd0.heap.size]) ∧ Kp (RowN wz 2 v4 (C.chans.length) c4 ((pickL (planL C) (C.parts.length + 1) C.chans.length).flatMap spanC) [wd31.heap.size, wd0.heap.size]) ∧ Kp (wz.heap[wd31.heap.size]? = some (.cells #[.int .i64 0, .slice none 0 0, .int .i64 0] 79 (0, 0))) ∧ wd31.heap.size < wz.heap.size) ⟨⟨blk_al p3.out _⟩, ⟨blk_al q3.out _⟩, ⟨below_al HB3.out _⟩, ⟨blk_al BS.out _⟩, ⟨RowN.al_new R1.out _⟩, ⟨RowN.al_new R2.out _⟩, ⟨blk_new wd31 _⟩, (by simp)⟩ (sx_of0 (ButB.al (And.left hHeld) _)) (fun wd32 hRn hHn => ?_)
          clear hK K hHeld p3 q3 HB3 BS R1 R2
          obtain ⟨p3, q3, HB3, BS, R1, R2, BD, hsz32⟩ := hRn
          have hHeld := hHn
          clear hHn
          try simp only [Act.put, List.setIfInBounds_toArray, List.set_cons_zero, List.set_cons_succ]
          have lt_BD := blk_lt BD.out
          refine wpAnyH_ready (rs := [6]) (by kernel_rfl) (by simp) ?_
          refine (AllReadyH.cons (o := ⟨_, _, _, _, _, _⟩) rfl (fun K hK => ?_) AllReadyH.nil)
          have sd0 : wd32.cell? ⟨wd0.heap.size, 0, none⟩ = some (.int .i64 0) := (cell_blk BS.out 0).trans rfl
          have sf0 : wd32.frozen? ⟨wd0.heap.size, 0, none⟩ = false := frozen_blk BS.out 0
          have sd1 : wd32.cell? ⟨wd0.heap.size, 1, none⟩ = some (.slice none 0 0) := (cell_blk BS.out 1).trans rfl
          have sf1 : wd32.frozen? ⟨wd0.heap.size, 1, none⟩ = false := frozen_blk BS.out 1
          have sd2 : wd32.cell? ⟨wd0.heap.size, 2, none⟩ = some (.int .i64 0) := (cell_blk BS.out 2).trans rfl
          have sf2 : wd32.frozen? ⟨wd0.heap.size, 2, none⟩ = false := frozen_blk BS.out 2
          have sl := blk_lt BS.out
          go_simp
          try go_wp2_with fail
          refine out_gen hK _ _ (fun wz : World => Kp (wz.heap[w1.heap.size]? = some (.cells #[.int .i64 C.parts.length, .slice va (planL C).length vc, .int .i64 (planE C)] 79 (0, 0))) ∧ Kp (wz.heap[w.heap.size]? = some (.cells #[.slice pa C.parts.length pc, .slice ca C.chans.length cc, .int .i64 C.l0, .slice a0 C.w0.length c0, .int .i64 C.l1, .slice a1 C.w1.length c1] 29 (0, 0))) ∧ Kp (Below w.heap.size w wz) ∧ Kp (wz.heap[wd0.heap.size]? = some (.cells #[.int .i64 0, .slice v3 C.chans.length c3, .int .i64 0] 79 (0, 0))) ∧ Kp (RowN wz 2 v3 (C.chans.length) c3 ((pickL (planL C) (C.parts.length + 0) C.chans.length).flatMap spanC) [wd31.heap.size, wd0.heap.size]) ∧ Kp (RowN wz 2 v4 (C.chans.length) c4 ((pickL (planL C) (C.parts.length + 1) C.chans.length).flatMap spanC) [wd31.heap.size, wd0.heap.size]) ∧ Kp (wz.heap[wd31.heap.size]? = some (.cells #[.int .i64 0, .slice none 0 0, .int .i64 0] 79 (0, 0))) ∧ wd32.heap.size ≤ wz.heap.size) ⟨⟨(blk_set_ne (p := ⟨wd0.heap.size, 2, none⟩) (blk_set_ne (p := ⟨wd0.heap.size, 1, none⟩) (blk_set_ne (p := ⟨wd0.heap.size, 0, none⟩) p3.out (by show w1.heap.size ≠ wd0.heap.size; omega) _) (by show w1.heap.size ≠ wd0.heap.size; omega) _) (by show w1.heap.size ≠ wd0.heap.size; omega) _)⟩, ⟨(blk_set_ne (p := ⟨wd0.heap.size, 2, none⟩) (blk_set_ne (p := ⟨wd0.heap.size, 1, none⟩) (blk_set_ne (p := ⟨wd0.heap.size, 0, none⟩) q3.out (by show w.heap.size ≠ wd0.heap.size; omega) _) (by show w.heap.size ≠ wd0.heap.size; omega) _) (by show w.heap.size ≠ wd0.heap.size; omega) _)⟩, ⟨(((HB3.out.setCell (p := ⟨wd0.heap.size, 0, none⟩) (by show w.heap.size ≤ wd0.heap.size; omega) _).setCell (p := ⟨wd0.heap.size, 1, none⟩) (by show w.heap.size ≤ wd0.heap.size; omega) _).setCell (p := ⟨wd0.heap.size, 2, none⟩) (by show w.heap.size ≤ wd0.heap.size; omega) _)⟩, ⟨(blk_set (blk_set (blk_set BS.out 0 _) 1 _) 2 _).trans rfl⟩, ⟨(RowN.set (RowN.set (RowN.set R1.out (p := ⟨wd0.heap.size, 0, none⟩) (by simp) _) (p := ⟨wd0.heap.size, 1, none⟩) (by simp) _) (p := ⟨wd0.heap.size, 2, none⟩) (by simp) _)⟩, ⟨(RowN.set (RowN.set (RowN.set R2.out (p := ⟨wd0.heap.size, 0, none⟩) (by simp) _) (p := ⟨wd0.heap.size, 1, none⟩) (by simp) _) (p := ⟨wd0.heap.size, 2, none⟩) (by simp) _)⟩, ⟨(blk_set_ne (p := ⟨wd0.heap.size, 2, none⟩) (blk_set_ne (p := ⟨wd0.heap.size, 1, none⟩) (blk_set_ne (p := ⟨wd0.heap.size, 0, none⟩) BD.out (by show wd31.heap.size ≠ wd0.heap.size; omega) _) (by show wd31.heap.size ≠ wd0.heap.size; omega) _) (by show wd31.heap.size ≠ wd0.heap.size; omega) _)⟩, (by simp [World.setCell])⟩ (sx_of0 ((ButB.set (ButB.set (ButB.set (And.left hHeld) (p := ⟨wd0.heap.size, 0, none⟩) (by first | (left; simp; done) | (right; show w3.heap.size ≤ wd0.heap.size; omega)) _) (p := ⟨wd0.heap.size, 1, none⟩) (by first | (left; simp; done) | (right; show w3.heap.size ≤ wd0.heap.size; omega)) _) (p := ⟨wd0.heap.size, 2, none⟩) (by first | (left; simp; done) | (right; show w3.heap.size ≤ wd0.heap.size; omega)) _))) (fun wd33 hRn hHn => ?_)
          clear hK K hHeld p3 q3 HB3 BS R1 R2 BD sd0 sf0 sd1 sf1 sd2 sf2 sl
          obtain ⟨p3, q3, HB3, BS, R1, R2, BD, hsz33⟩ := hRn
          have hHeld := hHn
          clear hHn
          try simp only [Act.put, List.setIfInBounds_toArray, List.set_cons_zero, List.set_cons_succ]
          refine wpAnyH_ready (rs := [7]) (by kernel_rfl) (by simp) ?_
          refine (AllReadyH.cons (o := ⟨_, _, _, _, _, _⟩) rfl (fun K hK => ?_) AllReadyH.nil)
          have sd0 : wd33.cell? ⟨wd31.heap.size, 0, none⟩ = some (.int .i64 0) := (cell_blk BD.out 0).trans rfl
          have sf0 : wd33.frozen? ⟨wd31.heap.size, 0, none⟩ = false := frozen_blk BD.out 0
          have sd1 : wd33.cell? ⟨wd31.heap.size, 1, none⟩ = some (.slice none 0 0) := (cell_blk BD.out 1).trans rfl
          have sf1 : wd33.frozen? ⟨wd31.heap.size, 1, none⟩ = false := frozen_blk BD.out 1
          have sd2 : wd33.cell? ⟨wd31.heap.size, 2, none⟩ = some (.int .i64 0) := (cell_blk BD.out 2).trans rfl
          have sf2 : wd33.frozen? ⟨wd31.heap.size, 2, none⟩ = false := frozen_blk BD.out 2
          have sl := blk_lt BD.out
          go_simp
          try go_wp2_with fail
          refine out_gen hK _ _ (fun wz : World => Kp (wz.heap[w1.heap.size]? = some (.cells #[.int .i64 C.parts.length, .slice va (planL C).length vc, .int .i64 (planE C)] 79 (0, 0))) ∧ Kp (wz.heap[w.heap.size]? = some (.cells #[.slice pa C.parts.length pc, .slice ca C.chans.length cc, .int .i64 C.l0, .slice a0 C.w0.length c0, .int .i64 C.l1, .slice a1 C.w1.length c1] 29 (0, 0))) ∧ Kp (Below w.heap.size w wz) ∧ Kp (wz.heap[wd0.heap.size]? = some (.cells #[.int .i64 0, .slice v3 C.chans.length c3, .int .i64 0] 79 (0, 0))) ∧ Kp (RowN wz 2 v3 (C.chans.length) c3 ((pickL (planL C) (C.parts.length + 0) C.chans.length).flatMap spanC) [wd31.heap.size, wd0.heap.size]) ∧ Kp (RowN wz 2 v4 (C.chans.length) c4 ((pickL (planL C) (C.parts.length + 1) C.chans.length).flatMap spanC) [wd31.heap.size, wd0.heap.size]) ∧ Kp (wz.heap[wd31.heap.size]? = some (.cells #[.int .i64 0, .slice v4 C.chans.length c4, .int .i64 0] 79 (0, 0))) ∧ wd33.heap.size ≤ wz.heap.size) ⟨⟨(blk_set_ne (p := ⟨wd31.heap.size, 2, none⟩) (blk_set_ne (p := ⟨wd31.heap.size, 1, none⟩) (blk_set_ne (p := ⟨wd31.heap.size, 0, none⟩) p3.out (by show w1.heap.size ≠ wd31.heap.size; omega) _) (by show w1.heap.size ≠ wd31.heap.size; omega) _) (by show w1.heap.size ≠ wd31.heap.size; omega) _)⟩, ⟨(blk_set_ne (p := ⟨wd31.heap.size, 2, none⟩) (blk_set_ne (p := ⟨wd31.heap.size, 1, none⟩) (blk_set_ne (p := ⟨wd31.heap.size, 0, none⟩) q3.out (by show w.heap.size ≠ wd31.heap.size; omega) _) (by show w.heap.size ≠ wd31.heap.size; omega) _) (by show w.heap.size ≠ wd31.heap.size; omega) _)⟩, ⟨(((HB3.out.setCell (p := ⟨wd31.heap.size, 0, none⟩) (by show w.heap.size ≤ wd31.heap.size; omega) _).setCell (p := ⟨wd31.heap.size, 1, none⟩) (by show w.heap.size ≤ wd31.heap.size; omega) _).setCell (p := ⟨wd31.heap.size, 2, none⟩) (by show w.heap.size ≤ wd31.heap.size; omega) _)⟩, ⟨(blk_set_ne (p := ⟨wd31.heap.size, 2, none⟩) (blk_set_ne (p := ⟨wd31.heap.size, 1, none⟩) (blk_set_ne (p := ⟨wd31.heap.size, 0, none⟩) BS.out (by show wd0.heap.size ≠ wd31.heap.size; omega) _) (by show wd0.heap.size ≠ wd31.heap.size; omega) _) (by show wd0.heap.size ≠ wd31.heap.size; omega) _)⟩, ⟨(RowN.set (RowN.set (RowN.set R1.out (p := ⟨wd31.heap.size, 0, none⟩) (by simp) _) (p := ⟨wd31.heap.size, 1, none⟩) (by simp) _) (p := ⟨wd31.heap.size, 2, none⟩) (by simp) _)⟩, ⟨(RowN.set (RowN.set (RowN.set R2.out (p := ⟨wd31.heap.size, 0, none⟩) (by simp) _) (p := ⟨wd31.heap.size, 1, none⟩) (by simp) _) (p := ⟨wd31.heap.size, 2, none⟩) (by simp) _)⟩, ⟨(blk_set (blk_set (blk_set BD.out 0 _) 1 _) 2 _).trans rfl⟩, (by simp [World.setCell])⟩ (sx_of0 ((ButB.set (ButB.set (ButB.set (And.left hHeld) (p := ⟨wd31.heap.size, 0, none⟩) (by first | (left; simp; done) | (right; show w3.heap.size ≤ wd31.heap.size; omega)) _) (p := ⟨wd31.heap.size, 1, none⟩) (by first | (left; simp; done) | (right; show w3.heap.size ≤ wd31.heap.size; omega)) _) (p := ⟨wd31.heap.size, 2, none⟩) (by first | (left; simp; done) | (right; show w3.heap.size ≤ wd31.heap.size; omega)) _))) (fun wd34 hRn hHn => ?_)
          clear hK K hHeld p3 q3 HB3 BS R1 R2 BD sd0 sf0 sd1 sf1 sd2 sf2 sl
          obtain ⟨p3, q3, HB3, BS, R1, R2, BD, hsz34⟩ := hRn
          have hHeld := hHn
          clear hHn
          try simp only [Act.put, List.setIfInBounds_toArray, List.set_cons_zero, List.set_cons_succ]
          refine wpAnyH_done (by kernel_rfl) ?_ _
          go_wp2_with fail
          go_meet
          exact ⟨_, _, v3, v4, c3, c4, rfl, rfl, HB3, q3, BS, BD, ⟨R1.out.1⟩, ⟨R2.out.1⟩⟩
        · have ge_BD : w3.heap.size ≤ wd30.heap.size := (And.left hHeld).size
          go_simp
          try go_wp2_with fail
          refine out_gen hK _ _ (fun wz : World => Kp (wz.heap[w1.heap.size]? = some (.cells #[.int .i64 C.parts.length, .slice va (planL C).length vc, .int .i64 (planE C)] 79 (0, 0))) ∧ Kp (wz.heap[w.heap.size]? = some (.cells #[.slice pa C.parts.length pc, .slice ca C.chans.length cc, .int .i64 C.l0, .slice a0 C.w0.length c0, .int .i64 C.l1, .slice a1 C.w1.length c1] 29 (0, 0))) ∧ Kp (Below w.heap.size w wz) ∧ Kp (RowAt wz 2 (.slice va (planL C).length vc) (planL C).length ((planL C).flatMap spanC)) ∧ Kp (wz.heap[wd0.heap.size]? = some (.cells #[.int .i64 0, .slice none 0 0, .int .i64 0] 79 (0, 0))) ∧ Kp (RowN wz 2 v3 (C.chans.length) c3 ((pickL (planL C) (C.parts.length + 0) C.chans.length).flatMap spanC) [wd30.heap.size, wd0.heap.size]) ∧ Kp (wz.heap[wd30.heap.size]? = some (.cells #[.int .i64 0, .slice none 0 0, .int .i64 0] 79 (0, 0))) ∧ wd30.heap.size < wz.heap.size) ⟨⟨blk_al p3.out _⟩, ⟨blk_al q3.out _⟩, ⟨below_al HB3.out _⟩, ⟨O3.out.below (below_al (Below.refl _ _) _)⟩, ⟨blk_al BS.out _⟩, ⟨RowN.al_new R1.out _⟩, ⟨blk_new wd30 _⟩, (by simp)⟩ (sx_of0 (ButB.al (And.left hHeld) _)) (fun wd35 hRn hHn => ?_)
          clear hK K hHeld p3 q3 HB3 O3 BS R1
          obtain ⟨p3, q3, HB3, O3, BS, R1, BD, hsz35⟩ := hRn
          have hHeld := hHn
          clear hHn
          try simp only [Act.put, List.setIfInBounds_toArray, List.set_cons_zero, List.set_cons_succ]
          have lt_BD := blk_lt BD.out
          refine wpAnyH_ready (rs := [3]) (by kernel_rfl) (by simp) ?_
          refine (AllReadyH.cons (o := ⟨_, _, _, _, _, _⟩) rfl (fun K hK => ?_) AllReadyH.nil)
          go_simp
          go_at_call 57
          refine (chans_any C.parts.length C.chans.length 1 (planE C) _ (planL C) (by omega) (by omega) (by omega) HPL.out _ O3.out).mono ?_
          rintro e w9 ⟨vv, rfl, hO, hb⟩
          obtain ⟨v4, c4, rfl, hx1, hx2⟩ := (RowAt.of_own hO).shape
          try go_wp2_with fail
          refine out_gen hK _ _ (fun wz : World => Kp (wz.heap[w1.heap.size]? = some (.cells #[.int .i64 C.parts.length, .slice va (planL C).length vc, .int .i64 (planE C)] 79 (0, 0))) ∧ Kp (wz.heap[w.heap.size]? = some (.cells #[.slice pa C.parts.length pc, .slice ca C.chans.length cc, .int .i64 C.l0, .slice a0 C.w0.length c0, .int .i64 C.l1, .slice a1 C.w1.length c1] 29 (0, 0))) ∧ Kp (Below w.heap.size w wz) ∧ Kp (wz.heap[wd0.heap.size]? = some (.cells #[.int .i64 0, .slice none 0 0, .int .i64 0] 79 (0, 0))) ∧ Kp (RowN wz 2 v3 (C.chans.length) c3 ((pickL (planL C) (C.parts.length + 0) C.chans.length).flatMap spanC) [wd30.heap.size, wd0.heap.size]) ∧ Kp (wz.heap[wd30.heap.size]? = some (.cells #[.int .i64 0, .slice none 0 0, .int .i64 0] 79 (0, 0))) ∧ Kp (RowN wz 2 v4 (C.chans.length) c4 ((pickL (planL C) (C.parts.length + 1) C.chans.length).flatMap spanC) [wd0.heap.size, wd30.heap.size]) ∧ wd35.heap.size ≤ wz.heap.size) ⟨⟨blk_below p3.out hb⟩, ⟨blk_below q3.out hb⟩, ⟨below_call HB3.out hb⟩, ⟨blk_below BS.out hb⟩, ⟨RowN.call R1.out hb⟩, ⟨blk_below BD.out hb⟩, ⟨RowN.of_own hO (by simp; try omega)⟩, hb.size⟩ (sx_of0 (ButB.call (And.left hHeld) hb)) (fun wd36 hRn hHn => ?_)
          clear hK K hHeld p3 q3 HB3 O3 BS R1 BD hO hb hx1 hx2
          obtain ⟨p3, q3, HB3, BS, R1, BD, R2, hsz36⟩ := hRn
          have hHeld := hHn
          clear hHn
          try simp only [Act.put, List.setIfInBounds_toArray, List.set_cons_zero, List.set_cons_succ]
          refine wpAnyH_ready (rs := [6]) (by kernel_rfl) (by simp) ?_
          refine (AllReadyH.cons (o := ⟨_, _, _, _, _, _⟩) rfl (fun K hK => ?_) AllReadyH.nil)
          have sd0 : wd36.cell? ⟨wd0.heap.size, 0, none⟩ = some (.int .i64 0) := (cell_blk BS.out 0).trans rfl
          have sf0 : wd36.frozen? ⟨wd0.heap.size, 0, none⟩ = false := frozen_blk BS.out 0
          have sd1 : wd36.cell? ⟨wd0.heap.size, 1, none⟩ = some (.slice none 0 0) := (cell_blk BS.out 1).trans rfl
          have sf1 : wd36.frozen? ⟨wd0.heap.size, 1, none⟩ = false := frozen_blk BS.out 1
          have sd2 : wd36.cell? ⟨wd0.heap.size, 2, none⟩ = some (.int .i64 0) := (cell_blk BS.out 2).trans rfl
          have sf2 : wd36.frozen? ⟨wd0.heap.size, 2, none⟩ = false := frozen_blk BS.out 2
          have sl := blk_lt BS.out
          go_simp
          try go_wp2_with fail
          refine out_gen hK _ _ (fun wz : World => Kp (wz.heap[w1.heap.size]? = some (.cells #[.int .i64 C.parts.length, .slice va (planL C).length vc, .int .i64 (planE C)] 79 (0, 0))) ∧ Kp (wz.heap[w.heap.size]? = some (.cells #[.slice pa C.parts.length pc, .slice ca C.chans.length cc, .int .i64 C.l0, .slice a0 C.w0.length c0, .int .i64 C.l1, .slice a1 C.w1.length c1] 29 (0, 0))) ∧ Kp (Below w.heap.size w wz) ∧ Kp (wz.heap[wd0.heap.size]? = some (.cells #[.int .i64 0, .slice v3 C.chans.length c3, .int .i64 0] 79 (0, 0))) ∧ Kp (RowN wz 2 v3 (C.chans.length) c3 ((pickL (planL C) (C.parts.length + 0) C.chans.length).flatMap spanC) [wd30.heap.size, wd0.heap.size]) ∧ Kp (wz.heap[wd30.heap.size]? = some (.cells #[.int .i64 0, .slice none 0 0, .int .i64 0] 79 (0, 0))) ∧ Kp (RowN wz 2 v4 (C.chans.length) c4 ((pickL (planL C) (C.parts.length + 1) C.chans.length).flatMap spanC) [wd0.heap.size, wd30.heap.size]) ∧ wd36.heap.size ≤ wz.heap.size) ⟨⟨(blk_set_ne (p := ⟨wd0.heap.size, 2, none⟩) (blk_set_ne (p := ⟨wd0.heap.size, 1, none⟩) (blk_set_ne (p := ⟨wd0.heap.size, 0, none⟩) p3.out (by show w1.heap.size ≠ wd0.heap.size; omega) _) (by show w1.heap.size ≠ wd0.heap.size; omega) _) (by show w1.heap.size ≠ wd0.heap.size; omega) _)⟩, ⟨(blk_set_ne (p := ⟨wd0.heap.size, 2, none⟩) (blk_set_ne (p := ⟨wd0.heap.size, 1, none⟩) (blk_set_ne (p := ⟨wd0.heap.size, 0, none⟩) q3.out (by show w.heap.size ≠ wd0.heap.size; omega) _) (by show w.heap.size ≠ wd0.heap.size; omega) _) (by show w.heap.size ≠ wd0.heap.size; omega) _)⟩, ⟨(((HB3.out.setCell (p := ⟨wd0.heap.size, 0, none⟩) (by show w.heap.size ≤ wd0.heap.size; omega) _).setCell (p := ⟨wd0.heap.size, 1, none⟩) (by show w.heap.size ≤ wd0.heap.size; omega) _).setCell (p := ⟨wd0.heap.size, 2, none⟩) (by show w.heap.size ≤ wd0.heap.size; omega) _)⟩, ⟨(blk_set (blk_set (blk_set BS.out 0 _) 1 _) 2 _).trans rfl⟩, ⟨(RowN.set (RowN.set (RowN.set R1.out (p := ⟨wd0.heap.size, 0, none⟩) (by simp) _) (p := ⟨wd0.heap.size, 1, none⟩) (by simp) _) (p := ⟨wd0.heap.size, 2, none⟩) (by simp) _)⟩, ⟨(blk_set_ne (p := ⟨wd0.heap.size, 2, none⟩) (blk_set_ne (p := ⟨wd0.heap.size, 1, none⟩) (blk_set_ne (p := ⟨wd0.heap.size, 0, none⟩) BD.out (by show wd30.heap.size ≠ wd0.heap.size; omega) _) (by show wd30.heap.size ≠ wd0.heap.size; omega) _) (by show wd30.heap.size ≠ wd0.heap.size; omega) _)⟩, ⟨(RowN.set (RowN.set (RowN.set R2.out (p := ⟨wd0.heap.size, 0, none⟩) (by simp) _) (p := ⟨wd0.heap.size, 1, none⟩) (by simp) _) (p := ⟨wd0.heap.size, 2, none⟩) (by simp) _)⟩, (by simp [World.setCell])⟩ (sx_of0 ((ButB.set (ButB.set (ButB.set (And.left hHeld) (p := ⟨wd0.heap.size, 0, none⟩) (by first | (left; simp; done) | (right; show w3.heap.size ≤ wd0.heap.size; omega)) _) (p := ⟨wd0.heap.size, 1, none⟩) (by first | (left; simp; done) | (right; show w3.heap.size ≤ wd0.heap.size; omega)) _) (p := ⟨wd0.heap.size, 2, none⟩) (by first | (left; simp; done) | (right; show w3.heap.size ≤ wd0.heap.size; omega)) _))) (fun wd37 hRn hHn => ?_)
          clear hK K hHeld p3 q3 HB3 BS R1 BD R2 sd0 sf0 sd1 sf1 sd2 sf2 sl
          obtain ⟨p3, q3, HB3, BS, R1, BD, R2, hsz37⟩ := hRn
          have hHeld := hHn
          clear hHn
          try simp only [Act.put, List.setIfInBounds_toArray, List.set_cons_zero, List.set_cons_succ]
          refine wpAnyH_ready (rs := [7]) (by kernel_rfl) (by simp) ?_
          refine (AllReadyH.cons (o := ⟨_, _, _, _, _, _⟩) rfl (fun K hK => ?_) AllReadyH.nil)
          have sd0 : wd37.cell? ⟨wd30.heap.size, 0, none⟩ = some (.int .i64 0) := (cell_blk BD.out 0).trans rfl
          have sf0 : wd37.frozen? ⟨wd30.heap.size, 0, none⟩ = false := frozen_blk BD.out 0
          have sd1 : wd37.cell? ⟨wd30.heap.size, 1, none⟩ = some (.slice none 0 0) := (cell_blk BD.out 1).trans rfl
          have sf1 : wd37.frozen? ⟨wd30.heap.size, 1, none⟩ = false := frozen_blk BD.out 1
          have sd2 : wd37.cell? ⟨wd30.heap.size, 2, none⟩ = some (.int .i64 0) := (cell_blk BD.out 2).trans rfl
          have sf2 : wd37.frozen? ⟨wd30.heap.size, 2, none⟩ = false := frozen_blk BD.out 2
          have sl := blk_lt BD.out
          go_simp
          try go_wp2_with fail
          refine out_gen hK _ _ (fun wz : World => Kp (wz.heap[w1.heap.size]? = some (.cells #[.int .i64 C.parts.length, .slice va (planL C).length vc, .int .i64 (planE C)] 79 (0, 0))) ∧ Kp (wz.heap[w.heap.size]? = some (.cells #[.slice pa C.parts.length pc, .slice ca C.chans.length cc, .int .i64 C.l0, .slice a0 C.w0.length c0, .int .i64 C.l1, .slice a1 C.w1.length c1] 29 (0, 0))) ∧ Kp (Below w.heap.size w wz) ∧ Kp (wz.heap[wd0.heap.size]? = some (.cells #[.int .i64 0, .slice v3 C.chans.length c3, .int .i64 0] 79 (0, 0))) ∧ Kp (RowN wz 2 v3 (C.chans.length) c3 ((pickL (planL C) (C.parts.length + 0) C.chans.length).flatMap spanC) [wd30.heap.size, wd0.heap.size]) ∧ Kp (wz.heap[wd30.heap.size]? = some (.cells #[.int .i64 0, .slice v4 C.chans.length c4, .int .i64 0] 79 (0, 0))) ∧ Kp (RowN wz 2 v4 (C.chans.length) c4 ((pickL (planL C) (C.parts.length + 1) C.chans.length).flatMap spanC) [wd0.heap.size, wd30.heap.size]) ∧ wd37.heap.size ≤ wz.heap.size) ⟨⟨(blk_set_ne (p := ⟨wd30.heap.size, 2, none⟩) (blk_set_ne (p := ⟨wd30.heap.size, 1, none⟩) (blk_set_ne (p := ⟨wd30.heap.size, 0, none⟩) p3.out (by show w1.heap.size ≠ wd30.heap.size; omega) _) (by show w1.heap.size ≠ wd30.heap.size; omega) _) (by show w1.heap.size ≠ wd30.heap.size; omega) _)⟩, ⟨(blk_set_ne (p := ⟨wd30.heap.size, 2, none⟩) (blk_set_ne (p := ⟨wd30.heap.size, 1, none⟩) (blk_set_ne (p := ⟨wd30.heap.size, 0, none⟩) q3.out (by show w.heap.size ≠ wd30.heap.size; omega) _) (by show w.heap.size ≠ wd30.heap.size; omega) _) (by show w.heap.size ≠ wd30.heap.size; omega) _)⟩, ⟨(((HB3.out.setCell (p := ⟨wd30.heap.size, 0, none⟩) (by show w.heap.size ≤ wd30.heap.size; omega) _).setCell (p := ⟨wd30.heap.size, 1, none⟩) (by show w.heap.size ≤ wd30.heap.size; omega) _).setCell (p := ⟨wd30.heap.size, 2, none⟩) (by show w.heap.size ≤ wd30.heap.size; omega) _)⟩, ⟨(blk_set_ne (p := ⟨wd30.heap.size, 2, none⟩) (blk_set_ne (p := ⟨wd30.heap.size, 1, none⟩) (blk_set_ne (p := ⟨wd30.heap.size, 0, none⟩) BS.out (by show wd0.heap.size ≠ wd30.heap.size; omega) _) (by show wd0.heap.size ≠ wd30.heap.size; omega) _) (by show wd0.heap.size ≠ wd30.heap.size; omega) _)⟩, ⟨(RowN.set (RowN.set (RowN.set R1.out (p := ⟨wd30.heap.size, 0, none⟩) (by simp) _) (p := ⟨wd30.heap.size, 1, none⟩) (by simp) _) (p := ⟨wd30.heap.size, 2, none⟩) (by simp) _)⟩, ⟨(blk_set (blk_set (blk_set BD.out 0 _) 1 _) 2 _).trans rfl⟩, ⟨(RowN.set (RowN.set (RowN.set R2.out (p := ⟨wd30.heap.size, 0, none⟩) (by simp) _) (p := ⟨wd30.heap.size, 1, none⟩) (by simp) _) (p := ⟨wd30.heap.size, 2, none⟩) (by simp) _)⟩, (by simp [World.setCell])⟩ (sx_of0 ((ButB.set (ButB.set (ButB.set (And.left hHeld) (p := ⟨wd30.heap.size, 0, none⟩) (by first | (left; simp; done) | (right; show w3.heap.size ≤ wd30.heap.size; omega)) _) (p := ⟨wd30.heap.size, 1, none⟩) (by first | (left; simp; done) | (right; show w3.heap.size ≤ wd30.heap.size; omega)) _) (p := ⟨wd30.heap.size, 2, none⟩) (by first | (left; simp; done) | (right; show w3.heap.size ≤ wd30.heap.size; omega)) _))) (fun wd38 hRn hHn => ?_)
          clear hK K hHeld p3 q3 HB3 BS R1 BD R2 sd0 sf0 sd1 sf1 sd2 sf2 sl
          obtain ⟨p3, q3, HB3, BS, R1, BD, R2, hsz38⟩ := hRn
          have hHeld := hHn
          clear hHn
          try simp only [Act.put, List.setIfInBounds_toArray, List.set_cons_zero, List.set_cons_succ]
          refine wpAnyH_done (by kernel_rfl) ?_ _
          go_wp2_with fail
          go_meet
          exact ⟨_, _, v3, v4, c3, c4, rfl, rfl, HB3, q3, BS, BD, ⟨R1.out.1⟩, ⟨R2.out.1⟩⟩
      · have ge_BD : w3.heap.size ≤ wd29.heap.size := (And.left hHeld).size
        go_simp
        try go_wp2_with fail
        refine out_gen hK _ _ (fun wz : World => Kp (wz.heap[w1.heap.size]? = some (.cells #[.int .i64 C.parts.length, .slice va (planL C).length vc, .int .i64 (planE C)] 79 (0, 0))) ∧ Kp (wz.heap[w.heap.size]? = some (.cells #[.slice pa C.parts.length pc, .slice ca C.chans.length cc, .int .i64 C.l0, .slice a0 C.w0.length c0, .int .i64 C.l1, .slice a1 C.w1.length c1] 29 (0, 0))) ∧ Kp (Below w.heap.size w wz) ∧ Kp (RowAt wz 2 (.slice va (planL C).length vc) (planL C).length ((planL C).flatMap spanC)) ∧ Kp (wz.heap[wd0.heap.size]? = some (.cells #[.int .i64 0, .slice none 0 0, .int .i64 0] 79 (0, 0))) ∧ Kp (wz.heap[wd29.heap.size]? = some (.cells #[.int .i64 0, .slice none 0 0, .int .i64 0] 79 (0, 0))) ∧ wd29.heap.size < wz.heap.size) ⟨⟨blk_al p3.out _⟩, ⟨blk_al q3.out _⟩, ⟨below_al HB3.out _⟩, ⟨O3.out.below (below_al (Below.refl _ _) _)⟩, ⟨blk_al BS.out _⟩, ⟨blk_new wd29 _⟩, (by simp)⟩ (sx_of0 (ButB.al (And.left hHeld) _)) (fun wd39 hRn hHn => ?_)
        clear hK K hHeld p3 q3 HB3 O3 BS
        obtain ⟨p3, q3, HB3, O3, BS, BD, hsz39⟩ := hRn
        have hHeld := hHn
        clear hHn
        try simp only [Act.put, List.setIfInBounds_toArray, List.set_cons_zero, List.set_cons_succ]
        have lt_BD := blk_lt BD.out
        refine wpAnyH_ready (rs := [1]) (by kernel_rfl) (by simp) ?_
        refine (AllReadyH.cons (o := ⟨_, _, _, _, _, _⟩) rfl (fun K hK => ?_) AllReadyH.nil)
        go_simp
        go_at_call 57
        refine (chans_any C.parts.length C.chans.length 0 (planE C) _ (planL C) (by omega) (by omega) (by omega) HPL.out _ O3.out).mono ?_
        rintro e w9 ⟨vv, rfl, hO, hb⟩
        obtain ⟨v3, c3, rfl, hx1, hx2⟩ := (RowAt.of_own hO).shape
        try go_wp2_with fail
        refine out_gen hK _ _ (fun wz : World => Kp (wz.heap[w1.heap.size]? = some (.cells #[.int .i64 C.parts.length, .slice va (planL C).length vc, .int .i64 (planE C)] 79 (0, 0))) ∧ Kp (wz.heap[w.heap.size]? = some (.cells #[.slice pa C.parts.length pc, .slice ca C.chans.length cc, .int .i64 C.l0, .slice a0 C.w0.length c0, .int .i64 C.l1, .slice a1 C.w1.length c1] 29 (0, 0))) ∧ Kp (Below w.heap.size w wz) ∧ Kp (RowAt wz 2 (.slice va (planL C).length vc) (planL C).length ((planL C).flatMap spanC)) ∧ Kp (wz.heap[wd0.heap.size]? = some (.cells #[.int .i64 0, .slice none 0 0, .int .i64 0] 79 (0, 0))) ∧ Kp (wz.heap[wd29.heap.size]? = some (.cells #[.int .i64 0, .slice none 0 0, .int .i64 0] 79 (0, 0))) ∧ Kp (RowN wz 2 v3 (C.chans.length) c3 ((pickL (planL C) (C.parts.length + 0) C.chans.length).flatMap spanC) [wd0.heap.size, wd29.heap.size]) ∧ wd39.heap.size ≤ wz.heap.size) ⟨⟨blk_below p3.out hb⟩, ⟨blk_below q3.out hb⟩, ⟨below_call HB3.out hb⟩, ⟨O3.out.below hb⟩, ⟨blk_below BS.out hb⟩, ⟨blk_below BD.out hb⟩, ⟨RowN.of_own hO (by simp; try omega)⟩, hb.size⟩ (sx_of0 (ButB.call (And.left hHeld) hb)) (fun wd40 hRn hHn => ?_)
        clear hK K hHeld p3 q3 HB3 O3 BS BD hO hb hx1 hx2
        obtain ⟨p3, q3, HB3, O3, BS, BD, R1, hsz40⟩ := hRn
        have hHeld := hHn
        clear hHn
        try simp only [Act.put, List.setIfInBounds_toArray, List.set_cons_zero, List.set_cons_succ]
        refine wpAnyH_ready (rs := [3]) (by kernel_rfl) (by simp) ?_
        refine (AllReadyH.cons (o := ⟨_, _, _, _, _, _⟩) rfl (fun K hK => ?_) AllReadyH.nil)
        go_simp
        go_at_call 57
        refine (chans_any C.parts.length C.chans.length 1 (planE C) _ (planL C) (by omega) (by omega) (by omega) HPL.out _ O3.out).mono ?_
        rintro e w9 ⟨vv, rfl, hO, hb⟩
        obtain ⟨v4, c4, rfl, hx1, hx2⟩ := (RowAt.of_own hO).shape
        try go_wp2_with fail
        refine out_gen hK _ _ (fun wz : World => Kp (wz.heap[w1.heap.size]? = some (.cells #[.int .i64 C.parts.length, .slice va (planL C).length vc, .int .i64 (planE C)] 79 (0, 0))) ∧ Kp (wz.heap[w.heap.size]? = some (.cells #[.slice pa C.parts.length pc, .slice ca C.chans.length cc, .int .i64 C.l0, .slice a0 C.w0.length c0, .int .i64 C.l1, .slice a1 C.w1.length c1] 29 (0, 0))) ∧ Kp (Below w.heap.size w wz) ∧ Kp (wz.heap[wd0.heap.size]? = some (.cells #[.int .i64 0, .slice none 0 0, .int .i64 0] 79 (0, 0))) ∧ Kp (wz.heap[wd29.heap.size]? = some (.cells #[.int .i64 0, .slice none 0 0, .int .i64 0] 79 (0, 0))) ∧ Kp (RowN wz 2 v3 (C.chans.length) c3 ((pickL (planL C) (C.parts.length + 0) C.chans.length).flatMap spanC) [wd0.heap.size, wd29.heap.size]) ∧ Kp (RowN wz 2 v4 (C.chans.length) c4 ((pickL (planL C) (C.parts.length + 1) C.chans.length).flatMap spanC) [wd0.heap.size, wd29.heap.size]) ∧ wd40.heap.size ≤ wz.heap.size) ⟨⟨blk_below p3.out hb⟩, ⟨blk_below q3.out hb⟩, ⟨below_call HB3.out hb⟩, ⟨blk_below BS.out hb⟩, ⟨blk_below BD.out hb⟩, ⟨RowN.call R1.out hb⟩, ⟨RowN.of_own hO (by simp; try omega)⟩, hb.size⟩ (sx_of0 (ButB.call (And.left hHeld) hb)) (fun wd41 hRn hHn => ?_)
        clear hK K hHeld p3 q3 HB3 O3 BS BD R1 hO hb hx1 hx2
        obtain ⟨p3, q3, HB3, BS, BD, R1, R2, hsz41⟩ := hRn
        have hHeld := hHn
        clear hHn
        try simp only [Act.put, List.setIfInBounds_toArray, List.set_cons_zero, List.set_cons_succ]
        refine wpAnyH_ready (rs := [6]) (by kernel_rfl) (by simp) ?_
        refine (AllReadyH.cons (o := ⟨_, _, _, _, _, _⟩) rfl (fun K hK => ?_) AllReadyH.nil)
        have sd0 : wd41.cell? ⟨wd0.heap.size, 0, none⟩ = some (.int .i64 0) := (cell_blk BS.out 0).trans rfl
        have sf0 : wd41.frozen? ⟨wd0.heap.size, 0, none⟩ = false := frozen_blk BS.out 0
        have sd1 : wd41.cell? ⟨wd0.heap.size, 1, none⟩ = some (.slice none 0 0) := (cell_blk BS.out 1).trans rfl
        have sf1 : wd41.frozen? ⟨wd0.heap.size, 1, none⟩ = false := frozen_blk BS.out 1
        have sd2 : wd41.cell? ⟨wd0.heap.size, 2, none⟩ = some (.int .i64 0) := (cell_blk BS.out 2).trans rfl
        have sf2 : wd41.frozen? ⟨wd0.heap.size, 2, none⟩ = false := frozen_blk BS.out 2
        have sl := blk_lt BS.out
        go_simp
        try go_wp2_with fail
        refine out_gen hK _ _ (fun wz : World => Kp (wz.heap[w1.heap.size]? = some (.cells #[.int .i64 C.parts.length, .slice va (planL C).length vc, .int .i64 (planE C)] 79 (0, 0))) ∧ Kp (wz.heap[w.heap.size]? = some (.cells #[.slice pa C.parts.length pc, .slice ca C.chans.length cc, .int .i64 C.l0, .slice a0 C.w0.length c0, .int .i64 C.l1, .slice a1 C.w1.length c1] 29 (0, 0))) ∧ Kp (Below w.heap.size w wz) ∧ Kp (wz.heap[wd0.heap.size]? = some (.cells #[.int .i64 0, .slice v3 C.chans.length c3, .int .i64 0] 79 (0, 0))) ∧ Kp (wz.heap[wd29.heap.size]? = some (.cells #[.int .i64 0, .slice none 0 0, .int .i64 0] 79 (0, 0))) ∧ Kp (RowN wz 2 v3 (C.chans.length) c3 ((pickL (planL C) (C.parts.length + 0) C.chans.length).flatMap spanC) [wd0.heap.size, wd29.heap.size]) ∧ Kp (RowN wz 2 v4 (C.chans.length) c4 ((pickL (planL C) (C.parts.length + 1) C.chans.length).flatMap spanC) [wd0.heap.size, wd29.heap.size]) ∧ wd41.heap.size ≤ wz.heap.size) ⟨⟨(blk_set_ne (p := ⟨wd0.heap.size, 2, none⟩) (blk_set_ne (p := ⟨wd0.heap.size, 1, none⟩) (blk_set_ne (p := ⟨wd0.heap.size, 0, none⟩) p3.out (by show w1.heap.size ≠ wd0.heap.size; omega) _) (by show w1.heap.size ≠ wd0.heap.size; omega) _) (by show w1.heap.size ≠ wd0.heap.size; omega) _)⟩, ⟨(blk_set_ne (p := ⟨wd0.heap.size, 2, none⟩) (blk_set_ne (p := ⟨wd0.heap.size, 1, none⟩) (blk_set_ne (p := ⟨wd0.heap.size, 0, none⟩) q3.out (by show w.heap.size ≠ wd0.heap.size; omega) _) (by show w.heap.size ≠ wd0.heap.size; omega) _) (by show w.heap.size ≠ wd0.heap.size; omega) _)⟩, ⟨(((HB3.out.setCell (p := ⟨wd0.heap.size, 0, none⟩) (by show w.heap.size ≤ wd0.heap.size; omega) _).setCell (p := ⟨wd0.heap.size, 1, none⟩) (by show w.heap.size ≤ wd0.heap.size; omega) _).setCell (p := ⟨wd0.heap.size, 2, none⟩) (by show w.heap.size ≤ wd0.heap.size; omega) _)⟩, ⟨(blk_set (blk_set (blk_set BS.out 0 _) 1 _) 2 _).trans rfl⟩, ⟨(blk_set_ne (p := ⟨wd0.heap.size, 2, none⟩) (blk_set_ne (p := ⟨wd0.heap.size, 1, none⟩) (blk_set_ne (p := ⟨wd0.heap.size, 0, none⟩) BD.out (by show wd29.heap.size ≠ wd0.heap.size; omega) _) (by show wd29.heap.size ≠ wd0.heap.size; omega) _) (by show wd29.heap.size ≠ wd0.heap.size; omega) _)⟩, ⟨(RowN.set (RowN.set (RowN.set R1.out (p := ⟨wd0.heap.size, 0, none⟩) (by simp) _) (p := ⟨wd0.heap.size, 1, none⟩) (by simp) _) (p := ⟨wd0.heap.size, 2, none⟩) (by simp) _)⟩, ⟨(RowN.set (RowN.set (RowN.set R2.out (p := ⟨wd0.heap.size, 0, none⟩) (by simp) _) (p := ⟨wd0.heap.size, 1, none⟩) (by simp) _) (p := ⟨wd0.heap.size, 2, none⟩) (by simp) _)⟩, (by simp [World.setCell])⟩ (sx_of0 ((ButB.set (ButB.set (ButB.set (And.left hHeld) (p := ⟨wd0.heap.size, 0, none⟩) (by first | (left; simp; done) | (right; show w3.heap.size ≤ wd0.heap.size; omega)) _) (p := ⟨wd0.heap.size, 1, none⟩) (by first | (left; simp; done) | (right; show w3.heap.size ≤ wd0.heap.size; omega)) _) (p := ⟨wd0.heap.size, 2, none⟩) (by first | (left; simp; done) | (right; show w3.heap.size ≤ wd0.heap.size; omega)) _))) (fun wd42 hRn hHn => ?_)
        clear hK K hHeld p3 q3 HB3 BS BD R1 R2 sd0 sf0 sd1 sf1 sd2 sf2 sl
        obtain ⟨p3, q3, HB3, BS, BD, R1, R2, hsz42⟩ := hRn
        have hHeld := hHn
        clear hHn
        try simp only [Act.put, List.setIfInBounds_toArray, List.set_cons_zero, List.set_cons_succ]
        refine wpAnyH_ready (rs := [7]) (by kernel_rfl) (by simp) ?_
        refine (AllReadyH.cons (o := ⟨_, _, _, _, _, _⟩) rfl (fun K hK => ?_) AllReadyH.nil)
        have sd0 : wd42.cell? ⟨wd29.heap.size, 0, none⟩ = some (.int .i64 0) := (cell_blk BD.out 0).trans rfl
        have sf0 : wd42.frozen? ⟨wd29.heap.size, 0, none⟩ = false := frozen_blk BD.out 0
        have sd1 : wd42.cell? ⟨wd29.heap.size, 1, none⟩ = some (.slice none 0 0) := (cell_blk BD.out 1).trans rfl
        have sf1 : wd42.frozen? ⟨wd29.heap.size, 1, none⟩ = false := frozen_blk BD.out 1
        have sd2 : wd42.cell? ⟨wd29.heap.size, 2, none⟩ = some (.int .i64 0) := (cell_blk BD.out 2).trans rfl
        have sf2 : wd42.frozen? ⟨wd29.heap.size, 2, none⟩ = false := frozen_blk BD.out 2
        have sl := blk_lt BD.out
        go_simp
        try go_wp2_with fail
        refine out_gen hK _ _ (fun wz : World => Kp (wz.heap[w1.heap.size]? = some (.cells #[.int .i64 C.parts.length, .slice va (planL C).length vc, .int .i64 (planE C)] 79 (0, 0))) ∧ Kp (wz.heap[w.heap.size]? = some (.cells #[.slice pa C.parts.length pc, .slice ca C.chans.length cc, .int .i64 C.l0, .slice a0 C.w0.length c0, .int .i64 C.l1, .slice a1 C.w1.length c1] 29 (0, 0))) ∧ Kp (Below w.heap.size w wz) ∧ Kp (wz.heap[wd0.heap.size]? = some (.cells #[.int .i64 0, .slice v3 C.chans.length c3, .int .i64 0] 79 (0, 0))) ∧ Kp (wz.heap[wd29.heap.size]? = some (.cells #[.int .i64 0, .slice v4 C.chans.length c4, .int .i64 0] 79 (0, 0))) ∧ Kp (RowN wz 2 v3 (C.chans.length) c3 ((pickL (planL C) (C.parts.length + 0) C.chans.length).flatMap spanC) [wd0.heap.size, wd29.heap.size]) ∧ Kp (RowN wz 2 v4 (C.chans.length) c4 ((pickL (planL C) (C.parts.length + 1) C.chans.length).flatMap spanC) [wd0.heap.size, wd29.heap.size]) ∧ wd42.heap.size ≤ wz.heap.size) ⟨⟨(blk_set_ne (p := ⟨wd29.heap.size, 2, none⟩) (blk_set_ne (p := ⟨wd29.heap.size, 1, none⟩) (blk_set_ne (p := ⟨wd29.heap.size, 0, none⟩) p3.out (by show w1.heap.size ≠ wd29.heap.size; omega) _) (by show w1.heap.size ≠ wd29.heap.size; omega) _) (by show w1.heap.size ≠ wd29.heap.size; omega) _)⟩, ⟨(blk_set_ne (p := ⟨wd29.heap.size, 2, none⟩) (blk_set_ne (p := ⟨wd29.heap.size, 1, none⟩) (blk_set_ne (p := ⟨wd29.heap.size, 0, none⟩) q3.out (by show w.heap.size ≠ wd29.heap.size; omega) _) (by show w.heap.size ≠ wd29.heap.size; omega) _) (by show w.heap.size ≠ wd29.heap.size; omega) _)⟩, ⟨(((HB3.out.setCell (p := ⟨wd29.heap.size, 0, none⟩) (by show w.heap.size ≤ wd29.heap.size; omega) _).setCell (p := ⟨wd29.heap.size, 1, none⟩) (by show w.heap.size ≤ wd29.heap.size; omega) _).setCell (p := ⟨wd29.heap.size, 2, none⟩) (by show w.heap.size ≤ wd29.heap.size; omega) _)⟩, ⟨(blk_set_ne (p := ⟨wd29.heap.size, 2, none⟩) (blk_set_ne (p := ⟨wd29.heap.size, 1, none⟩) (blk_set_ne (p := ⟨wd29.heap.size, 0, none⟩) BS.out (by show wd0.heap.size ≠ wd29.heap.size; omega) _) (by show wd0.heap.size ≠ wd29.heap.size; omega) _) (by show wd0.heap.size ≠ wd29.heap.size; omega) _)⟩, ⟨(blk_set (blk_set (blk_set BD.out 0 _) 1 _) 2 _).trans rfl⟩, ⟨(RowN.set (RowN.set (RowN.set R1.out (p := ⟨wd29.heap.size, 0, none⟩) (by simp) _) (p := ⟨wd29.heap.size, 1, none⟩) (by simp) _) (p := ⟨wd29.heap.size, 2, none⟩) (by simp) _)⟩, ⟨(RowN.set (RowN.set (RowN.set R2.out (p := ⟨wd29.heap.size, 0, none⟩) (by simp) _) (p := ⟨wd29.heap.size, 1, none⟩) (by simp) _) (p := ⟨wd29.heap.size, 2, none⟩) (by simp) _)⟩, (by simp [World.setCell])⟩ (sx_of0 ((ButB.set (ButB.set (ButB.set (And.left hHeld) (p := ⟨wd29.heap.size, 0, none⟩) (by first | (left; simp; done) | (right; show w3.heap.size ≤ wd29.heap.size; omega)) _) (p := ⟨wd29.heap.size, 1, none⟩) (by first | (left; simp; done) | (right; show w3.heap.size ≤ wd29.heap.size; omega)) _) (p := ⟨wd29.heap.size, 2, none⟩) (by first | (left; simp; done) | (right; show w3.heap.size ≤ wd29.heap.size; omega)) _))) (fun wd43 hRn hHn => ?_)
        clear hK K hHeld p3 q3 HB3 BS BD R1 R2 sd0 sf0 sd1 sf1 sd2 sf2 sl
        obtain ⟨p3, q3, HB3, BS, BD, R1, R2, hsz43⟩ := hRn
        have hHeld := hHn
        clear hHn
        try simp only [Act.put, List.setIfInBounds_toArray, List.set_cons_zero, List.set_cons_succ]
        refine wpAnyH_done (by kernel_rfl) ?_ _
        go_wp2_with fail
        go_meet
        exact ⟨_, _, v3, v4, c3, c4, rfl, rfl, HB3, q3, BS, BD, ⟨R1.out.1⟩, ⟨R2.out.1⟩⟩
    · have ge_BD : w3.heap.size ≤ wd0.heap.size := (And.left hHeld).size
      go_simp
      try go_wp2_with fail
      refine out_gen hK _ _ (fun wz : World => Kp (wz.heap[w1.heap.size]? = some (.cells #[.int .i64 C.parts.length, .slice va (planL C).length vc, .int .i64 (planE C)] 79 (0, 0))) ∧ Kp (wz.heap[w.heap.size]? = some (.cells #[.slice pa C.parts.length pc, .slice ca C.chans.length cc, .int .i64 C.l0, .slice a0 C.w0.length c0, .int .i64 C.l1, .slice a1 C.w1.length c1] 29 (0, 0))) ∧ Kp (Below w.heap.size w wz) ∧ Kp (RowAt wz 2 (.slice va (planL C).length vc) (planL C).length ((planL C).flatMap spanC)) ∧ Kp (wz.heap[wd0.heap.size]? = some (.cells #[.int .i64 0, .slice none 0 0, .int .i64 0] 79 (0, 0))) ∧ wd0.heap.size < wz.heap.size) ⟨⟨blk_al p3.out _⟩, ⟨blk_al q3.out _⟩, ⟨below_al HB3.out _⟩, ⟨O3.out.below (below_al (Below.refl _ _) _)⟩, ⟨blk_new wd0 _⟩, (by simp)⟩ (sx_of0 (ButB.al (And.left hHeld) _)) (fun wd44 hRn hHn => ?_)
      clear hK K hHeld p3 q3 HB3 O3
      obtain ⟨p3, q3, HB3, O3, BD, hsz44⟩ := hRn
      have hHeld := hHn
      clear hHn
      try simp only [Act.put, List.setIfInBounds_toArray, List.set_cons_zero, List.set_cons_succ]
      have lt_BD := blk_lt BD.out
      refine wpAnyH_ready (rs := [1, 4]) (by kernel_rfl) (by simp) ?_
      refine (AllReadyH.cons (o := ⟨_, _, _, _, _, _⟩) rfl (fun K hK => ?_) (AllReadyH.cons (o := ⟨_, _, _, _, _, _⟩) rfl (fun K hK => ?_) AllReadyH.nil))
      · go_simp
        go_at_call 57
        refine (chans_any C.parts.length C.chans.length 0 (planE C) _ (planL C) (by omega) (by omega) (by omega) HPL.out _ O3.out).mono ?_
        rintro e w9 ⟨vv, rfl, hO, hb⟩
        obtain ⟨v3, c3, rfl, hx1, hx2⟩ := (RowAt.of_own hO).shape
        try go_wp2_with fail
        refine out_gen hK _ _ (fun wz : World => Kp (wz.heap[w1.heap.size]? = some (.cells #[.int .i64 C.parts.length, .slice va (planL C).length vc, .int .i64 (planE C)] 79 (0, 0))) ∧ Kp (wz.heap[w.heap.size]? = some (.cells #[.slice pa C.parts.length pc, .slice ca C.chans.length cc, .int .i64 C.l0, .slice a0 C.w0.length c0, .int .i64 C.l1, .slice a1 C.w1.length c1] 29 (0, 0))) ∧ Kp (Below w.heap.size w wz) ∧ Kp (RowAt wz 2 (.slice va (planL C).length vc) (planL C).length ((planL C).flatMap spanC)) ∧ Kp (wz.heap[wd0.heap.size]? = some (.cells #[.int .i64 0, .slice none 0 0, .int .i64 0] 79 (0, 0))) ∧ Kp (RowN wz 2 v3 (C.chans.length) c3 ((pickL (planL C) (C.parts.length + 0) C.chans.length).flatMap spanC) [wd0.heap.size]) ∧ wd44.heap.size ≤ wz.heap.size) ⟨⟨blk_below p3.out hb⟩, ⟨blk_below q3.out hb⟩, ⟨below_call HB3.out hb⟩, ⟨O3.out.below hb⟩, ⟨blk_below BD.out hb⟩, ⟨RowN.of_own hO (by simp; try omega)⟩, hb.size⟩ (sx_of0 (ButB.call (And.left hHeld) hb)) (fun wd45 hRn hHn => ?_)
        clear hK K hHeld p3 q3 HB3 O3 BD hO hb hx1 hx2
        obtain ⟨p3, q3, HB3, O3, BD, R1, hsz45⟩ := hRn
        have hHeld := hHn
        clear hHn
        try simp only [Act.put, List.setIfInBounds_toArray, List.set_cons_zero, List.set_cons_succ]
        refine wpAnyH_ready (rs := [3, 4]) (by kernel_rfl) (by simp) ?_
        refine (AllReadyH.cons (o := ⟨_, _, _, _, _, _⟩) rfl (fun K hK => ?_) (AllReadyH.cons (o := ⟨_, _, _, _, _, _⟩) rfl (fun K hK => ?_) AllReadyH.nil))
        · go_simp
          go_at_call 57
          refine (chans_any C.parts.length C.chans.length 1 (planE C) _ (planL C) (by omega) (by omega) (by omega) HPL.out _ O3.out).mono ?_
          rintro e w9 ⟨vv, rfl, hO, hb⟩
          obtain ⟨v4, c4, rfl, hx1, hx2⟩ := (RowAt.of_own hO).shape
          try go_wp2_with fail
          refine out_gen hK _ _ (fun wz : World => Kp (wz.heap[w1.heap.size]? = some (.cells #[.int .i64 C.parts.length, .slice va (planL C).length vc, .int .i64 (planE C)] 79 (0, 0))) ∧ Kp (wz.heap[w.heap.size]? = some (.cells #[.slice pa C.parts.length pc, .slice ca C.chans.length cc, .int .i64 C.l0, .slice a0 C.w0.length c0, .int .i64 C.l1, .slice a1 C.w1.length c1] 29 (0, 0))) ∧ Kp (Below w.heap.size w wz) ∧ Kp (wz.heap[wd0.heap.size]? = some (.cells #[.int .i64 0, .slice none 0 0, .int .i64 0] 79 (0, 0))) ∧ Kp (RowN wz 2 v3 (C.chans.length) c3 ((pickL (planL C) (C.parts.length + 0) C.chans.length).flatMap spanC) [wd0.heap.size]) ∧ Kp (RowN wz 2 v4 (C.chans.length) c4 ((pickL (planL C) (C.parts.length + 1) C.chans.length).flatMap spanC) [wd0.heap.size]) ∧ wd45.heap.size ≤ wz.heap.size) ⟨⟨blk_below p3.out hb⟩, ⟨blk_below q3.out hb⟩, ⟨below_call HB3.out hb⟩, ⟨blk_below BD.out hb⟩, ⟨RowN.call R1.out hb⟩, ⟨RowN.of_own hO (by simp; try omega)⟩, hb.size⟩ (sx_of0 (ButB.call (And.left hHeld) hb)) (fun wd46 hRn hHn => ?_)
          clear hK K hHeld p3 q3 HB3 O3 BD R1 hO hb hx1 hx2
          obtain ⟨p3, q3, HB3, BD, R1, R2, hsz46⟩ := hRn
          have hHeld := hHn
          clear hHn
          try simp only [Act.put, List.setIfInBounds_toArray, List.set_cons_zero, List.set_cons_succ]
          refine wpAnyH_ready (rs := [4]) (by kernel_rfl) (by simp) ?_
          refine (AllReadyH.cons (o := ⟨_, _, _, _, _, _⟩) rfl (fun K hK => ?_) AllReadyH.nil)
          have ge_BS : w3.heap.size ≤ wd46.heap.size := (And.left hHeld).size
          go_simp
          try go_wp2_with fail
          refine out_gen hK _ _ (fun wz : World => Kp (wz.heap[w1.heap.size]? = some (.cells #[.int .i64 C.parts.length, .slice va (planL C).length vc, .int .i64 (planE C)] 79 (0, 0))) ∧ Kp (wz.heap[w.heap.size]? = some (.cells #[.slice pa C.parts.length pc, .slice ca C.chans.length cc, .int .i64 C.l0, .slice a0 C.w0.length c0, .int .i64 C.l1, .slice a1 C.w1.length c1] 29 (0, 0))) ∧ Kp (Below w.heap.size w wz) ∧ Kp (wz.heap[wd0.heap.size]? = some (.cells #[.int .i64 0, .slice none 0 0, .int .i64 0] 79 (0, 0))) ∧ Kp (RowN wz 2 v3 (C.chans.length) c3 ((pickL (planL C) (C.parts.length + 0) C.chans.length).flatMap spanC) [wd46.heap.size, wd0.heap.size]) ∧ Kp (RowN wz 2 v4 (C.chans.length) c4 ((pickL (planL C) (C.parts.length + 1) C.chans.length).flatMap spanC) [wd46.heap.size, wd0.heap.size]) ∧ Kp (wz.heap[wd46.heap.size]? = some (.cells #[.int .i64 0, .slice none 0 0, .int .i64 0] 79 (0, 0))) ∧ wd46.heap.size < wz.heap.size) ⟨⟨blk_al p3.out _⟩, ⟨blk_al q3.out _⟩, ⟨below_al HB3.out _⟩, ⟨blk_al BD.out _⟩, ⟨RowN.al_new R1.out _⟩, ⟨RowN.al_new R2.out _⟩, ⟨blk_new wd46 _⟩, (by simp)⟩ (sx_of0 (ButB.al (And.left hHeld) _)) (fun wd47 hRn hHn => ?_)
          clear hK K hHeld p3 q3 HB3 BD R1 R2
          obtain ⟨p3, q3, HB3, BD, R1, R2, BS, hsz47⟩ := hRn
          have hHeld := hHn
          clear hHn
          try simp only [Act.put, List.setIfInBounds_toArray, List.set_cons_zero, List.set_cons_succ]
          have lt_BS := blk_lt BS.out
          refine wpAnyH_ready (rs := [6]) (by kernel_rfl) (by simp) ?_
          refine (AllReadyH.cons (o := ⟨_, _, _, _, _, _⟩) rfl (fun K hK => ?_) AllReadyH.nil)
          have sd0 : wd47.cell? ⟨wd46.heap.size, 0, none⟩ = some (.int .i64 0) := (cell_blk BS.out 0).trans rfl
          have sf0 : wd47.frozen? ⟨wd46.heap.size, 0, none⟩ = false := frozen_blk BS.out 0
          have sd1 : wd47.cell? ⟨wd46.heap.size, 1, none⟩ = some (.slice none 0 0) := (cell_blk BS.out 1).trans rfl
          have sf1 : wd47.frozen? ⟨wd46.heap.size, 1, none⟩ = false := frozen_blk BS.out 1
          have sd2 : wd47.cell? ⟨wd46.heap.size, 2, none⟩ = some (.int .i64 0) := (cell_blk BS.out 2).trans rfl
          have sf2 : wd47.frozen? ⟨wd46.heap.size, 2, none⟩ = false := frozen_blk BS.out 2
          have sl := blk_lt BS.out
          go_simp
          try go_wp2_with fail
          refine out_gen hK _ _ (fun wz : World => Kp (wz.heap[w1.heap.size]? = some (.cells #[.int .i64 C.parts.length, .slice va (planL C).length vc, .int .i64 (planE C)] 79 (0, 0))) ∧ Kp (wz.heap[w.heap.size]? = some (.cells #[.slice pa C.parts.length pc, .slice ca C.chans.length cc, .int .i64 C.l0, .slice a0 C.w0.length c0, .int .i64 C.l1, .slice a1 C.w1.length c1] 29 (0, 0))) ∧ Kp (Below w.heap.size w wz) ∧ Kp (wz.heap[wd0.heap.size]? = some (.cells #[.int .i64 0, .slice none 0 0, .int .i64 0] 79 (0, 0))) ∧ Kp (RowN wz 2 v3 (C.chans.length) c3 ((pickL (planL C) (C.parts.length + 0) C.chans.length).flatMap spanC) [wd46.heap.size, wd0.heap.size]) ∧ Kp (RowN wz 2 v4 (C.chans.length) c4 ((pickL (planL C) (C.parts.length + 1) C.chans.length).flatMap spanC) [wd46.heap.size, wd0.heap.size]) ∧ Kp (wz.heap[wd46.heap.size]? = some (.cells #[.int .i64 0, .slice v3 C.chans.length c3, .int .i64 0] 79 (0, 0))) ∧ wd47.heap.size ≤ wz.heap.size) ⟨⟨(blk_set_ne (p := ⟨wd46.heap.size, 2, none⟩) (blk_set_ne (p := ⟨wd46.heap.size, 1, none⟩) (blk_set_ne (p := ⟨wd46.heap.size, 0, none⟩) p3.out (by show w1.heap.size ≠ wd46.heap.size; omega) _) (by show w1.heap.size ≠ wd46.heap.size; omega) _) (by show w1.heap.size ≠ wd46.heap.size; omega) _)⟩, ⟨(blk_set_ne (p := ⟨wd46.heap.size, 2, none⟩) (blk_set_ne (p := ⟨wd46.heap.size, 1, none⟩) (blk_set_ne (p := ⟨wd46.heap.size, 0, none⟩) q3.out (by show w.heap.size ≠ wd46.heap.size; omega) _) (by show w.heap.size ≠ wd46.heap.size; omega) _) (by show w.heap.size ≠ wd46.heap.size; omega) _)⟩, ⟨(((HB3.out.setCell (p := ⟨wd46.heap.size, 0, none⟩) (by show w.heap.size ≤ wd46.heap.size; omega) _).setCell (p := ⟨wd46.heap.size, 1, none⟩) (by show w.heap.size ≤ wd46.heap.size; omega) _).setCell (p := ⟨wd46.heap.size, 2, none⟩) (by show w.heap.size ≤ wd46.heap.size; omega) _)⟩, ⟨(blk_set_ne (p := ⟨wd46.heap.size, 2, none⟩) (blk_set_ne (p := ⟨wd46.heap.size, 1, none⟩) (blk_set_ne (p := ⟨wd46.heap.size, 0, none⟩) BD.out (by show wd0.heap.size ≠ wd46.heap.size; omega) _) (by show wd0.heap.size ≠ wd46.heap.size; omega) _) (by show wd0.heap.size ≠ wd46.heap.size; omega) _)⟩, ⟨(RowN.set (RowN.set (RowN.set R1.out (p := ⟨wd46.heap.size, 0, none⟩) (by simp) _) (p := ⟨wd46.heap.size, 1, none⟩) (by simp) _) (p := ⟨wd46.heap.size, 2, none⟩) (by simp) _)⟩, ⟨(RowN.set (RowN.set (RowN.set R2.out (p := ⟨wd46.heap.size, 0, none⟩) (by simp) _) (p := ⟨wd46.heap.size, 1, none⟩) (by simp) _) (p := ⟨wd46.heap.size, 2, none⟩) (by simp) _)⟩, ⟨(blk_set (blk_set (blk_set BS.out 0 _) 1 _) 2 _).trans rfl⟩, (by simp [World.setCell])⟩ (sx_of0 ((ButB.set (ButB.set (ButB.set (And.left hHeld) (p := ⟨wd46.heap.size, 0, none⟩) (by first | (left; simp; done) | (right; show w3.heap.size ≤ wd46.heap.size; omega)) _) (p := ⟨wd46.heap.size, 1, none⟩) (by first | (left; simp; done) | (right; show w3.heap.size ≤ wd46.heap.size; omega)) _) (p := ⟨wd46.heap.size, 2, none⟩) (by first | (left; simp; done) | (right; show w3.heap.size ≤ wd46.heap.size; omega)) _))) (fun wd48 hRn hHn => ?_)
          clear hK K hHeld p3 q3 HB3 BD R1 R2 BS sd0 sf0 sd1 sf1 sd2 sf2 sl
          obtain ⟨p3, q3, HB3, BD, R1, R2, BS, hsz48⟩ := hRn
          have hHeld := hHn
          clear hHn
          try simp only [Act.put, List.setIfInBounds_toArray, List.set_cons_zero, List.set_cons_succ]
          refine wpAnyH_ready (rs := [7]) (by kernel_rfl) (by simp) ?_
          refine (AllReadyH.cons (o := ⟨_, _, _, _, _, _⟩) rfl (fun K hK => ?_) AllReadyH.nil)
          have sd0 : wd48.cell? ⟨wd0.heap.size, 0, none⟩ = some (.int .i64 0) := (cell_blk BD.out 0).trans rfl
          have sf0 : wd48.frozen? ⟨wd0.heap.size, 0, none⟩ = false := frozen_blk BD.out 0
          have sd1 : wd48.cell? ⟨wd0.heap.size, 1, none⟩ = some (.slice none 0 0) := (cell_blk BD.out 1).trans rfl
          have sf1 : wd48.frozen? ⟨wd0.heap.size, 1, none⟩ = false := frozen_blk BD.out 1
          have sd2 : wd48.cell? ⟨wd0.heap.size, 2, none⟩ = some (.int .i64 0) := (cell_blk BD.out 2).trans rfl
          have sf2 : wd48.frozen? ⟨wd0.heap.size, 2, none⟩ = false := frozen_blk BD.out 2
          have sl := blk_lt BD.out
          go_simp
          try go_wp2_with fail
          refine out_gen hK _ _ (fun wz : World => Kp (wz.heap[w1.heap.size]? = some (.cells #[.int .i64 C.parts.length, .slice va (planL C).length vc, .int .i64 (planE C)] 79 (0, 0))) ∧ Kp (wz.heap[w.heap.size]? = some (.cells #[.slice pa C.parts.length pc, .slice ca C.chans.length cc, .int .i64 C.l0, .slice a0 C.w0.length c0, .int .i64 C.l1, .slice a1 C.w1.length c1] 29 (0, 0))) ∧ Kp (Below w.heap.size w wz) ∧ Kp (wz.heap[wd0.heap.size]? = some (.cells #[.int .i64 0, .slice v4 C.chans.length c4, .int .i64 0] 79 (0, 0))) ∧ Kp (RowN wz 2 v3 (C.chans.length) c3 ((pickL (planL C) (C.parts.length + 0) C.chans.length).flatMap spanC) [wd46.heap.size, wd0.heap.size]) ∧ Kp (RowN wz 2 v4 (C.chans.length) c4 ((pickL (planL C) (C.parts.length + 1) C.chans.length).flatMap spanC) [wd46.heap.size, wd0.heap.size]) ∧ Kp (wz.heap[wd46.heap.size]? = some (.cells #[.int .i64 0, .slice v3 C.chans.length c3, .int .i64 0] 79 (0, 0))) ∧ wd48.heap.size ≤ wz.heap.size) ⟨⟨(blk_set_ne (p := ⟨wd0.heap.size, 2, none⟩) (blk_set_ne (p := ⟨wd0.heap.size, 1, none⟩) (blk_set_ne (p := ⟨wd0.heap.size, 0, none⟩) p3.out (by show w1.heap.size ≠ wd0.heap.size; omega) _) (by show w1.heap.size ≠ wd0.heap.size; omega) _) (by show w1.heap.size ≠ wd0.heap.size; omega) _)⟩, ⟨(blk_set_ne (p := ⟨wd0.heap.size, 2, none⟩) (blk_set_ne (p := ⟨wd0.heap.size, 1, none⟩) (blk_set_ne (p := ⟨wd0.heap.size, 0, none⟩) q3.out (by show w.heap.size ≠ wd0.heap.size; omega) _) (by show w.heap.size ≠ wd0.heap.size; omega) _) (by show w.heap.size ≠ wd0.heap.size; omega) _)⟩, ⟨(((HB3.out.setCell (p := ⟨wd0.heap.size, 0, none⟩) (by show w.heap.size ≤ wd0.heap.size; omega) _).setCell (p := ⟨wd0.heap.size, 1, none⟩) (by show w.heap.size ≤ wd0.heap.size; omega) _).setCell (p := ⟨wd0.heap.size, 2, none⟩) (by show w.heap.size ≤ wd0.heap.size; omega) _)⟩, ⟨(blk_set (blk_set (blk_set BD.out 0 _) 1 _) 2 _).trans rfl⟩, ⟨(RowN.set (RowN.set (RowN.set R1.out (p := ⟨wd0.heap.size, 0, none⟩) (by simp) _) (p := ⟨wd0.heap.size, 1, none⟩) (by simp) _) (p := ⟨wd0.heap.size, 2, none⟩) (by simp) _)⟩, ⟨(RowN.set (RowN.set (RowN.set R2.out (p := ⟨wd0.heap.size, 0, none⟩) (by simp) _) (p := ⟨wd0.heap.size, 1, none⟩) (by simp) _) (p := ⟨wd0.heap.size, 2, none⟩) (by simp) _)⟩, ⟨(blk_set_ne (p := ⟨wd0.heap.size, 2, none⟩) (blk_set_ne (p := ⟨wd0.heap.size, 1, none⟩) (blk_set_ne (p := ⟨wd0.heap.size, 0, none⟩) BS.out (by show wd46.heap.size ≠ wd0.heap.size; omega) _) (by show wd46.heap.size ≠ wd0.heap.size; omega) _) (by show wd46.heap.size ≠ wd0.heap.size; omega) _)⟩, (by simp [World.setCell])⟩ (sx_of0 ((ButB.set (ButB.set (ButB.set (And.left hHeld) (p := ⟨wd0.heap.size, 0, none⟩) (by first | (left; simp; done) | (right; show w3.heap.size ≤ wd0.heap.size; omega)) _) (p := ⟨wd0.heap.size, 1, none⟩) (by first | (left; simp; done) | (right; show w3.heap.size ≤ wd0.heap.size; omega)) _) (p := ⟨wd0.heap.size, 2, none⟩) (by first | (left; simp; done) | (right; show w3.heap.size ≤ wd0.heap.size; omega)) _))) (fun wd49 hRn hHn => ?_)
          clear hK K hHeld p3 q3 HB3 BD R1 R2 BS sd0 sf0 sd1 sf1 sd2 sf2 sl
          obtain ⟨p3, q3, HB3, BD, R1, R2, BS, hsz49⟩ := hRn
          have hHeld := hHn
          clear hHn
          try simp only [Act.put, List.setIfInBounds_toArray, List.set_cons_zero, List.set_cons_succ]
          refine wpAnyH_done (by kernel_rfl) ?_ _
          go_wp2_with fail
          go_meet
          exact ⟨_, _, v3, v4, c3, c4, rfl, rfl, HB3, q3, BS, BD, ⟨R1.out.1⟩, ⟨R2.out.1⟩⟩
        · have ge_BS : w3.heap.size ≤ wd45.heap.size := (And.left hHeld).size
          go_simp
          try go_wp2_with fail
          refine out_gen hK _ _ (fun wz : World => Kp (wz.heap[w1.heap.size]? = some (.cells #[.int .i64 C.parts.length, .slice va (planL C).length vc, .int .i64 (planE C)] 79 (0, 0))) ∧ Kp (wz.heap[w.heap.size]? = some (.cells #[.slice pa C.parts.length pc, .slice ca C.chans.length cc, .int .i64 C.l0, .slice a0 C.w0.length c0, .int .i64 C.l1, .slice a1 C.w1.length c1] 29 (0, 0))) ∧ Kp (Below w.heap.size w wz) ∧ Kp (RowAt wz 2 (.slice va (planL C).length vc) (planL C).length ((planL C).flatMap spanC)) ∧ Kp (wz.heap[wd0.heap.size]? = some (.cells #[.int .i64 0, .slice none 0 0, .int .i64 0] 79 (0, 0))) ∧ Kp (RowN wz 2 v3 (C.chans.length) c3 ((pickL (planL C) (C.parts.length + 0) C.chans.length).flatMap spanC) [wd45.heap.size, wd0.heap.size]) ∧ Kp (wz.heap[wd45.heap.size]? = some (.cells #[.int .i64 0, .slice none 0 0, .int .i64 0] 79 (0, 0))) ∧ wd45.heap.size < wz.heap.size) ⟨⟨blk_al p3.out _⟩, ⟨blk_al q3.out _⟩, ⟨below_al HB3.out _⟩, ⟨O3.out.below (below_al (Below.refl _ _) _)⟩, ⟨blk_al BD.out _⟩, ⟨RowN.al_new R1.out _⟩, ⟨blk_new wd45 _⟩, (by simp)⟩ (sx_of0 (ButB.al (And.left hHeld) _)) (fun wd50 hRn hHn => ?_)
          clear hK K hHeld p3 q3 HB3 O3 BD R1
          obtain ⟨p3, q3, HB3, O3, BD, R1, BS, hsz50⟩ := hRn
          have hHeld := hHn
          clear hHn
          try simp only [Act.put, List.setIfInBounds_toArray, List.set_cons_zero, List.set_cons_succ]
          have lt_BS := blk_lt BS.out
          refine wpAnyH_ready (rs := [3]) (by kernel_rfl) (by simp) ?_
          refine (AllReadyH.cons (o := ⟨_, _, _, _, _, _⟩) rfl (fun K hK => ?_) AllReadyH.nil)
          go_simp
          go_at_call 57
          refine (chans_any C.parts.length C.chans.length 1 (planE C) _ (planL C) (by omega) (by omega) (by omega) HPL.out _ O3.out).mono ?_
          rintro e w9 ⟨vv, rfl, hO, hb⟩
          obtain ⟨v4, c4, rfl, hx1, hx2⟩ := (RowAt.of_own hO).shape
          try go_wp2_with fail
          refine out_gen hK _ _ (fun wz : World => Kp (wz.heap[w1.heap.size]? = some (.cells #[.int .i64 C.parts.length, .slice va (planL C).length vc, .int .i64 (planE C)] 79 (0, 0))) ∧ Kp (wz.heap[w.heap.size]? = some (.cells #[.slice pa C.parts.length pc, .slice ca C.chans.length cc, .int .i64 C.l0, .slice a0 C.w0.length c0, .int .i64 C.l1, .slice a1 C.w1.length c1] 29 (0, 0))) ∧ Kp (Below w.heap.size w wz) ∧ Kp (wz.heap[wd0.heap.size]? = some (.cells #[.int .i64 0, .slice none 0 0, .int .i64 0] 79 (0, 0))) ∧ Kp (RowN wz 2 v3 (C.chans.length) c3 ((pickL (planL C) (C.parts.length + 0) C.chans.length).flatMap spanC) [wd45.heap.size, wd0.heap.size]) ∧ Kp (wz.heap[wd45.heap.size]? = some (.cells #[.int .i64 0, .slice none 0 0, .int .i64 0] 79 (0, 0))) ∧ Kp (RowN wz 2 v4 (C.chans.length) c4 ((pickL (planL C) (C.parts.length + 1) C.chans.length).flatMap spanC) [wd0.heap.size, wd45.heap.size]) ∧ wd50.heap.size ≤ wz.heap.size) ⟨⟨blk_below p3.out hb⟩, ⟨blk_below q3.out hb⟩, ⟨below_call HB3.out hb⟩, ⟨blk_below BD.out hb⟩, ⟨RowN.call R1.out hb⟩, ⟨blk_below BS.out hb⟩, ⟨RowN.of_own hO (by simp; try omega)⟩, hb.size⟩ (sx_of0 (ButB.call (And.left hHeld) hb)) (fun wd51 hRn hHn => ?_)
          clear hK K hHeld p3 q3 HB3 O3 BD R1 BS hO hb hx1 hx2
          obtain ⟨p3, q3, HB3, BD, R1, BS, R2, hsz51⟩ := hRn
          have hHeld := hHn
          clear hHn
          try simp only [Act.put, List.setIfInBounds_toArray, List.set_cons_zero, List.set_cons_succ]
          refine wpAnyH_ready (rs := [6]) (by kernel_rfl) (by simp) ?_
          refine (AllReadyH.cons (o := ⟨_, _, _, _, _, _⟩) rfl (fun K hK => ?_) AllReadyH.nil)
          have sd0 : wd51.cell? ⟨wd45.heap.size, 0, none⟩ = some (.int .i64 0) := (cell_blk BS.out 0).trans rfl
          have sf0 : wd51.frozen? ⟨wd45.heap.size, 0, none⟩ = false := frozen_blk BS.out 0
          have sd1 : wd51.cell? ⟨wd45.heap.size, 1, none⟩ = some (.slice none 0 0) := (cell_blk BS.out 1).trans rfl
          have sf1 : wd51.frozen? ⟨wd45.heap.size, 1, none⟩ = false := frozen_blk BS.out 1
          have sd2 : wd51.cell? ⟨wd45.heap.size, 2, none⟩ = some (.int .i64 0) := (cell_blk BS.out 2).trans rfl
          have sf2 : wd51.frozen? ⟨wd45.heap.size, 2, none⟩ = false := frozen_blk BS.out 2
          have sl := blk_lt BS.out
          go_simp
          try go_wp2_with fail
          refine out_gen hK _ _ (fun wz : World => Kp (wz.heap[w1.heap.size]? = some (.cells #[.int .i64 C.parts.length, .slice va (planL C).length vc, .int .i64 (planE C)] 79 (0, 0))) ∧ Kp (wz.heap[w.heap.size]? = some (.cells #[.slice pa C.parts.length pc, .slice ca C.chans.length cc, .int .i64 C.l0, .slice a0 C.w0.length c0, .int .i64 C.l1, .slice a1 C.w1.length c1] 29 (0, 0))) ∧ Kp (Below w.heap.size w wz) ∧ Kp (wz.heap[wd0.heap.size]? = some (.cells #[.int .i64 0, .slice none 0 0, .int .i64 0] 79 (0, 0))) ∧ Kp (RowN wz 2 v3 (C.chans.length) c3 ((pickL (planL C) (C.parts.length + 0) C.chans.length).flatMap spanC) [wd45.heap.size, wd0.heap.size]) ∧ Kp (wz.heap[wd45.heap.size]? = some (.cells #[.int .i64 0, .slice v3 C.chans.length c3, .int .i64 0] 79 (0, 0))) ∧ Kp (RowN wz 2 v4 (C.chans.length) c4 ((pickL (planL C) (C.parts.length + 1) C.chans.length).flatMap spanC) [wd0.heap.size, wd45.heap.size]) ∧ wd51.heap.size ≤ wz.heap.size) ⟨⟨(blk_set_ne (p := ⟨wd45.heap.size, 2, none⟩) (blk_set_ne (p := ⟨wd45.heap.size, 1, none⟩) (blk_set_ne (p := ⟨wd45.heap.size, 0, none⟩) p3.out (by show w1.heap.size ≠ wd45.heap.size; omega) _) (by show w1.heap.size ≠ wd45.heap.size; omega) _) (by show w1.heap.size ≠ wd45.heap.size; omega) _)⟩, ⟨(blk_set_ne (p := ⟨wd45.heap.size, 2, none⟩) (blk_set_ne (p := ⟨wd45.heap.size, 1, none⟩) (blk_set_ne (p := ⟨wd45.heap.size, 0, none⟩) q3.out (by show w.heap.size ≠ wd45.heap.size; omega) _) (by show w.heap.size ≠ wd45.heap.size; omega) _) (by show w.heap.size ≠ wd45.heap.size; omega) _)⟩, ⟨(((HB3.out.setCell (p := ⟨wd45.heap.size, 0, none⟩) (by show w.heap.size ≤ wd45.heap.size; omega) _).setCell (p := ⟨wd45.heap.size, 1, none⟩) (by show w.heap.size ≤ wd45.heap.size; omega) _).setCell (p := ⟨wd45.heap.size, 2, none⟩) (by show w.heap.size ≤ wd45.heap.size; omega) _)⟩, ⟨(blk_set_ne (p := ⟨wd45.heap.size, 2, none⟩) (blk_set_ne (p := ⟨wd45.heap.size, 1, none⟩) (blk_set_ne (p := ⟨wd45.heap.size, 0, none⟩) BD.out (by show wd0.heap.size ≠ wd45.heap.size; omega) _) (by show wd0.heap.size ≠ wd45.heap.size; omega) _) (by show wd0.heap.size ≠ wd45.heap.size; omega) _)⟩, ⟨(RowN.set (RowN.set (RowN.set R1.out (p := ⟨wd45.heap.size, 0, none⟩) (by simp) _) (p := ⟨wd45.heap.size, 1, none⟩) (by simp) _) (p := ⟨wd45.heap.size, 2, none⟩) (by simp) _)⟩, ⟨(blk_set (blk_set (blk_set BS.out 0 _) 1 _) 2 _).trans rfl⟩, ⟨(RowN.set (RowN.set (RowN.set R2.out (p := ⟨wd45.heap.size, 0, none⟩) (by simp) _) (p := ⟨wd45.heap.size, 1, none⟩) (by simp) _) (p := ⟨wd45.heap.size, 2, none⟩) (by simp) _)⟩, (by simp [World.setCell])⟩ (sx_of0 ((ButB.set (ButB.set (ButB.set (And.left hHeld) (p := ⟨wd45.heap.size, 0, none⟩) (by first | (left; simp; done) | (right; show w3.heap.size ≤ wd45.heap.size; omega)) _) (p := ⟨wd45.heap.size, 1, none⟩) (by first | (left; simp; done) | (right; show w3.heap.size ≤ wd45.heap.size; omega)) _) (p := ⟨wd45.heap.size, 2, none⟩) (by first | (left; simp; done) | (right; show w3.heap.size ≤ wd45.heap.size; omega)) _))) (fun wd52 hRn hHn => ?_)
          clear hK K hHeld p3 q3 HB3 BD R1 BS R2 sd0 sf0 sd1 sf1 sd2 sf2 sl
          obtain ⟨p3, q3, HB3, BD, R1, BS, R2, hsz52⟩ := hRn
          have hHeld := hHn
          clear hHn
          try simp only [Act.put, List.setIfInBounds_toArray, List.set_cons_zero, List.set_cons_succ]
          refine wpAnyH_ready (rs := [7]) (by kernel_rfl) (by simp) ?_
          refine (AllReadyH.cons (o := ⟨_, _, _, _, _, _⟩) rfl (fun K hK => ?_) AllReadyH.nil)
          have sd0 : wd52.cell? ⟨wd0.heap.size, 0, none⟩ = some (.int .i64 0) := (cell_blk BD.out 0).trans rfl
          have sf0 : wd52.frozen? ⟨wd0.heap.size, 0, none⟩ = false := frozen_blk BD.out 0
          have sd1 : wd52.cell? ⟨wd0.heap.size, 1, none⟩ = some (.slice none 0 0) := (cell_blk BD.out 1).trans rfl
          have sf1 : wd52.frozen? ⟨wd0.heap.size, 1, none⟩ = false := frozen_blk BD.out 1
          have sd2 : wd52.cell? ⟨wd0.heap.size, 2, none⟩ = some (.int .i64 0) := (cell_blk BD.out 2).trans rfl
          have sf2 : wd52.frozen? ⟨wd0.heap.size, 2, none⟩ = false := frozen_blk BD.out 2
          have sl := blk_lt BD.out
          go_simp
          try go_wp2_with fail
          refine out_gen hK _ _ (fun wz : World => Kp (wz.heap[w1.heap.size]? = some (.cells #[.int .i64 C.parts.length, .slice va (planL C).length vc, .int .i64 (planE C)] 79 (0, 0))) ∧ Kp (wz.heap[w.heap.size]? = some (.cells #[.slice pa C.parts.length pc, .slice ca C.chans.length cc, .int .i64 C.l0, .slice a0 C.w0.length c0, .int .i64 C.l1, .slice a1 C.w1.length c1] 29 (0, 0))) ∧ Kp (Below w.heap.size w wz) ∧ Kp (wz.heap[wd0.heap.size]? = some (.cells #[.int .i64 0, .slice v4 C.chans.length c4, .int .i64 0] 79 (0, 0))) ∧ Kp (RowN wz 2 v3 (C.chans.length) c3 ((pickL (planL C) (C.parts.length + 0) C.chans.length).flatMap spanC) [wd45.heap.size, wd0.heap.size]) ∧ Kp (wz.heap[wd45.heap.size]? = some (.cells #[.int .i64 0, .slice v3 C.chans.length c3, .int .i64 0] 79 (0, 0))) ∧ Kp (RowN wz 2 v4 (C.chans.length) c4 ((pickL (planL C) (C.parts.length + 1) C.chans.length).flatMap spanC) [wd0.heap.size, wd45.heap.size]) ∧ wd52.heap.size ≤ wz.heap.size) ⟨⟨(blk_set_ne (p := ⟨wd0.heap.size, 2, none⟩) (blk_set_ne (p := ⟨wd0.heap.size, 1, none⟩) (blk_set_ne (p := ⟨wd0.heap.size, 0, none⟩) p3.out (by show w1.heap.size ≠ wd0.heap.size; omega) _) (by show w1.heap.size ≠ wd0.heap.size; omega) _) (by show w1.heap.size ≠ wd0.heap.size; omega) _)⟩, ⟨(blk_set_ne (p := ⟨wd0.heap.size, 2, none⟩) (blk_set_ne (p := ⟨wd0.heap.size, 1, none⟩) (blk_set_ne (p := ⟨wd0.heap.size, 0, none⟩) q3.out (by show w.heap.size ≠ wd0.heap.size; omega) _) (by show w.heap.size ≠ wd0.heap.size; omega) _) (by show w.heap.size ≠ wd0.heap.size; omega) _)⟩, ⟨(((HB3.out.setCell (p := ⟨wd0.heap.size, 0, none⟩) (by show w.heap.size ≤ wd0.heap.size; omega) _).setCell (p := ⟨wd0.heap.size, 1, none⟩) (by show w.heap.size ≤ wd0.heap.size; omega) _).setCell (p := ⟨wd0.heap.size, 2, none⟩) (by show w.heap.size ≤ wd0.heap.size; omega) _)⟩, ⟨(blk_set (blk_set (blk_set BD.out 0 _) 1 _) 2 _).trans rfl⟩, ⟨(RowN.set (RowN.set (RowN.set R1.out (p := ⟨wd0.heap.size, 0, none⟩) (by simp) _) (p := ⟨wd0.heap.size, 1, none⟩) (by simp) _) (p := ⟨wd0.heap.size, 2, none⟩) (by simp) _)⟩, ⟨(blk_set_ne (p := ⟨wd0.heap.size, 2, none⟩) (blk_set_ne (p := ⟨wd0.heap.size, 1, none⟩) (blk_set_ne (p := ⟨wd0.heap.size, 0, none⟩) BS.out (by show wd45.heap.size ≠ wd0.heap.size; omega) _) (by show wd45.heap.size ≠ wd0.heap.size; omega) _) (by show wd45.heap.size ≠ wd0.heap.size; omega) _)⟩, ⟨(RowN.set (RowN.set (RowN.set R2.out (p := ⟨wd0.heap.size, 0, none⟩) (by simp) _) (p := ⟨wd0.heap.size, 1, none⟩) (by simp) _) (p := ⟨wd0.heap.size, 2, none⟩) (by simp) _)⟩, (by simp [World.setCell])⟩ (sx_of0 ((ButB.set (ButB.set (ButB.set (And.left hHeld) (p := ⟨wd0.heap.size, 0, none⟩) (by first | (left; simp; done) | (right; show w3.heap.size ≤ wd0.heap.size; omega)) _) (p := ⟨wd0.heap.size, 1, none⟩) (by first | (left; simp; done) | (right; show w3.heap.size ≤ wd0.heap.size; omega)) _) (p := ⟨wd0.heap.size, 2, none⟩) (by first | (left; simp; done) | (right; show w3.heap.size ≤ wd0.heap.size; omega)) _))) (fun wd53 hRn hHn => ?_)
          clear hK K hHeld p3 q3 HB3 BD R1 BS R2 sd0 sf0 sd1 sf1 sd2 sf2 sl
          obtain ⟨p3, q3, HB3, BD, R1, BS, R2, hsz53⟩ := hRn
          have hHeld := hHn
          clear hHn
          try simp only [Act.put, List.setIfInBounds_toArray, List.set_cons_zero, List.set_cons_succ]
          refine wpAnyH_done (by kernel_rfl) ?_ _
          go_wp2_with fail
          go_meet
          exact ⟨_, _, v3, v4, c3, c4, rfl, rfl, HB3, q3, BS, BD, ⟨R1.out.1⟩, ⟨R2.out.1⟩⟩
      · have ge_BS : w3.heap.size ≤ wd44.heap.size := (And.left hHeld).size
        go_simp
        try go_wp2_with fail
        refine out_gen hK _ _ (fun wz : World => Kp (wz.heap[w1.heap.size]? = some (.cells #[.int .i64 C.parts.length, .slice va (planL C).length vc, .int .i64 (planE C)] 79 (0, 0))) ∧ Kp (wz.heap[w.heap.size]? = some (.cells #[.slice pa C.parts.length pc, .slice ca C.chans.length cc, .int .i64 C.l0, .slice a0 C.w0.length c0, .int .i64 C.l1, .slice a1 C.w1.length c1] 29 (0, 0))) ∧ Kp (Below w.heap.size w wz) ∧ Kp (RowAt wz 2 (.slice va (planL C).length vc) (planL C).length ((planL C).flatMap spanC)) ∧ Kp (wz.heap[wd0.heap.size]? = some (.cells #[.int .i64 0, .slice none 0 0, .int .i64 0] 79 (0, 0))) ∧ Kp (wz.heap[wd44.heap.size]? = some (.cells #[.int .i64 0, .slice none 0 0, .int .i64 0] 79 (0, 0))) ∧ wd44.heap.size < wz.heap.size) ⟨⟨blk_al p3.out _⟩, ⟨blk_al q3.out _⟩, ⟨below_al HB3.out _⟩, ⟨O3.out.below (below_al (Below.refl _ _) _)⟩, ⟨blk_al BD.out _⟩, ⟨blk_new wd44 _⟩, (by simp)⟩ (sx_of0 (ButB.al (And.left hHeld) _)) (fun wd54 hRn hHn => ?_)
        clear hK K hHeld p3 q3 HB3 O3 BD
        obtain ⟨p3, q3, HB3, O3, BD, BS, hsz54⟩ := hRn
        have hHeld := hHn
        clear hHn
        try simp only [Act.put, List.setIfInBounds_toArray, List.set_cons_zero, List.set_cons_succ]
        have lt_BS := blk_lt BS.out
        refine wpAnyH_ready (rs := [1]) (by kernel_rfl) (by simp) ?_
        refine (AllReadyH.cons (o := ⟨_, _, _, _, _, _⟩) rfl (fun K hK => ?_) AllReadyH.nil)
        go_simp
        go_at_call 57
        refine (chans_any C.parts.length C.chans.length 0 (planE C) _ (planL C) (by omega) (by omega) (by omega) HPL.out _ O3.out).mono ?_
        rintro e w9 ⟨vv, rfl, hO, hb⟩
        obtain ⟨v3, c3, rfl, hx1, hx2⟩ := (RowAt.of_own hO).shape
        try go_wp2_with fail
        refine out_gen hK _ _ (fun wz : World => Kp (wz.heap[w1.heap.size]? = some (.cells #[.int .i64 C.parts.length, .slice va (planL C).length vc, .int .i64 (planE C)] 79 (0, 0))) ∧ Kp (wz.heap[w.heap.size]? = some (.cells #[.slice pa C.parts.length pc, .slice ca C.chans.length cc, .int .i64 C.l0, .slice a0 C.w0.length c0, .int .i64 C.l1, .slice a1 C.w1.length c1] 29 (0, 0))) ∧ Kp (Below w.heap.size w wz) ∧ Kp (RowAt wz 2 (.slice va (planL C).length vc) (planL C).length ((planL C).flatMap spanC)) ∧ Kp (wz.heap[wd0.heap.size]? = some (.cells #[.int .i64 0, .slice none 0 0, .int .i64 0] 79 (0, 0))) ∧ Kp (wz.heap[wd44.heap.size]? = some (.cells #[.int .i64 0, .slice none 0 0, .int .i64 0] 79 (0, 0))) ∧ Kp (RowN wz 2 v3 (C.chans.length) c3 ((pickL (planL C) (C.parts.length + 0) C.chans.length).flatMap spanC) [wd0.heap.size, wd44.heap.size]) ∧ wd54.heap.size ≤ wz.heap.size) ⟨⟨blk_below p3.out hb⟩, ⟨blk_below q3.out hb⟩, ⟨below_call HB3.out hb⟩, ⟨O3.out.below hb⟩, ⟨blk_below BD.out hb⟩, ⟨blk_below BS.out hb⟩, ⟨RowN.of_own hO (by simp; try omega)⟩, hb.size⟩ (sx_of0 (ButB.call (And.left hHeld) hb)) (fun wd55 hRn hHn => ?_)
        clear hK K hHeld p3 q3 HB3 O3 BD BS hO hb hx1 hx2
        obtain ⟨p3, q3, HB3, O3, BD, BS, R1, hsz55⟩ := hRn
        have hHeld := hHn
        clear hHn
        try simp only [Act.put, List.setIfInBounds_toArray, List.set_cons_zero, List.set_cons_succ]
        refine wpAnyH_ready (rs := [3]) (by kernel_rfl) (by simp) ?_
        refine (AllReadyH.cons (o := ⟨_, _, _, _, _, _⟩) rfl (fun K hK => ?_) AllReadyH.nil)
        go_simp
        go_at_call 57
        refine (chans_any C.parts.length C.chans.length 1 (planE C) _ (planL C) (by omega) (by omega) (by omega) HPL.out _ O3.out).mono ?_
        rintro e w9 ⟨vv, rfl, hO, hb⟩
        obtain ⟨v4, c4, rfl, hx1, hx2⟩ := (RowAt.of_own hO).shape
        try go_wp2_with fail
        refine out_gen hK _ _ (fun wz : World => Kp (wz.heap[w1.heap.size]? = some (.cells #[.int .i64 C.parts.length, .slice va (planL C).length vc, .int .i64 (planE C)] 79 (0, 0))) ∧ Kp (wz.heap[w.heap.size]? = some (.cells #[.slice pa C.parts.length pc, .slice ca C.chans.length cc, .int .i64 C.l0, .slice a0 C.w0.length c0, .int .i64 C.l1, .slice a1 C.w1.length c1] 29 (0, 0))) ∧ Kp (Below w.heap.size w wz) ∧ Kp (wz.heap[wd0.heap.size]? = some (.cells #[.int .i64 0, .slice none 0 0, .int .i64 0] 79 (0, 0))) ∧ Kp (wz.heap[wd44.heap.size]? = some (.cells #[.int .i64 0, .slice none 0 0, .int .i64 0] 79 (0, 0))) ∧ Kp (RowN wz 2 v3 (C.chans.length) c3 ((pickL (planL C) (C.parts.length + 0) C.chans.length).flatMap spanC) [wd0.heap.size, wd44.heap.size]) ∧ Kp (RowN wz 2 v4 (C.chans.length) c4 ((pickL (planL C) (C.parts.length + 1) C.chans.length).flatMap spanC) [wd0.heap.size, wd44.heap.size]) ∧ wd55.heap.size ≤ wz.heap.size) ⟨⟨blk_below p3.out hb⟩, ⟨blk_below q3.out hb⟩, ⟨below_call HB3.out hb⟩, ⟨blk_below BD.out hb⟩, ⟨blk_below BS.out hb⟩, ⟨RowN.call R1.out hb⟩, ⟨RowN.of_own hO (by simp; try omega)⟩, hb.size⟩ (sx_of0 (ButB.call (And.left hHeld) hb)) (fun wd56 hRn hHn => ?_)
        clear hK K hHeld p3 q3 HB3 O3 BD BS R1 hO hb hx1 hx2
        obtain ⟨p3, q3, HB3, BD, BS, R1, R2, hsz56⟩ := hRn
        have hHeld := hHn
        clear hHn
        try simp only [Act.put, List.setIfInBounds_toArray, List.set_cons_zero, List.set_cons_succ]
        refine wpAnyH_ready (rs := [6]) (by kernel_rfl) (by simp) ?_
        refine (AllReadyH.cons (o := ⟨_, _, _, _, _, _⟩) rfl (fun K hK => ?_) AllReadyH.nil)
        have sd0 : wd56.cell? ⟨wd44.heap.size, 0, none⟩ = some (.int .i64 0) := (cell_blk BS.out 0).trans rfl
        have sf0 : wd56.frozen? ⟨wd44.heap.size, 0, none⟩ = false := frozen_blk BS.out 0
        have sd1 : wd56.cell? ⟨wd44.heap.size, 1, none⟩ = some (.slice none 0 0) := (cell_blk BS.out 1).trans rfl
        have sf1 : wd56.frozen? ⟨wd44.heap.size, 1, none⟩ = false := frozen_blk BS.out 1
        have sd2 : wd56.cell? ⟨wd44.heap.size, 2, none⟩ = some (.int .i64 0) := (cell_blk BS.out 2).trans rfl
        have sf2 : wd56.frozen? ⟨wd44.heap.size, 2, none⟩ = false := frozen_blk BS.out 2
        have sl := blk_lt BS.out
        go_simp
        try go_wp2_with fail
        refine out_gen hK _ _ (fun wz : World => Kp (wz.heap[w1.heap.size]? = some (.cells #[.int .i64 C.parts.length, .slice va (planL C).length vc, .int .i64 (planE C)] 79 (0, 0))) ∧ Kp (wz.heap[w.heap.size]? = some (.cells #[.slice pa C.parts.length pc, .slice ca C.chans.length cc, .int .i64 C.l0, .slice a0 C.w0.length c0, .int .i64 C.l1, .slice a1 C.w1.length c1] 29 (0, 0))) ∧ Kp (Below w.heap.size w wz) ∧ Kp (wz.heap[wd0.heap.size]? = some (.cells #[.int .i64 0, .slice none 0 0, .int .i64 0] 79 (0, 0))) ∧ Kp (wz.heap[wd44.heap.size]? = some (.cells #[.int .i64 0, .slice v3 C.chans.length c3, .int .i64 0] 79 (0, 0))) ∧ Kp (RowN wz 2 v3 (C.chans.length) c3 ((pickL (planL C) (C.parts.length + 0) C.chans.length).flatMap spanC) [wd0.heap.size, wd44.heap.size]) ∧ Kp (RowN wz 2 v4 (C.chans.length) c4 ((pickL (planL C) (C.parts.length + 1) C.chans.length).flatMap spanC) [wd0.heap.size, wd44.heap.size]) ∧ wd56.heap.size ≤ wz.heap.size) ⟨⟨(blk_set_ne (p := ⟨wd44.heap.size, 2, none⟩) (blk_set_ne (p := ⟨wd44.heap.size, 1, none⟩) (blk_set_ne (p := ⟨wd44.heap.size, 0, none⟩) p3.out (by show w1.heap.size ≠ wd44.heap.size; omega) _) (by show w1.heap.size ≠ wd44.heap.size; omega) _) (by show w1.heap.size ≠ wd44.heap.size; omega) _)⟩, ⟨(blk_set_ne (p := ⟨wd44.heap.size, 2, none⟩) (blk_set_ne (p := ⟨wd44.heap.size, 1, none⟩) (blk_set_ne (p := ⟨wd44.heap.size, 0, none⟩) q3.out (by show w.heap.size ≠ wd44.heap.size; omega) _) (by show w.heap.size ≠ wd44.heap.size; omega) _) (by show w.heap.size ≠ wd44.heap.size; omega) _)⟩, ⟨(((HB3.out.setCell (p := ⟨wd44.heap.size, 0, none⟩) (by show w.heap.size ≤ wd44.heap.size; omega) _).setCell (p := ⟨wd44.heap.size, 1, none⟩) (by show w.heap.size ≤ wd44.heap.size; omega) _).setCell (p := ⟨wd44.heap.size, 2, none⟩) (by show w.heap.size ≤ wd44.heap.size; omega) _)⟩, ⟨(blk_set_ne (p := ⟨wd44.heap.size, 2, none⟩) (blk_set_ne (p := ⟨wd44.heap.size, 1, none⟩) (blk_set_ne (p := ⟨wd44.heap.size, 0, none⟩) BD.out (by show wd0.heap.size ≠ wd44.heap.size; omega) _) (by show wd0.heap.size ≠ wd44.heap.size; omega) _) (by show wd0.heap.size ≠ wd44.heap.size; omega) _)⟩, ⟨(blk_set (blk_set (blk_set BS.out 0 _) 1 _) 2 _).trans rfl⟩, ⟨(RowN.set (RowN.set (RowN.set R1.out (p := ⟨wd44.heap.size, 0, none⟩) (by simp) _) (p := ⟨wd44.heap.size, 1, none⟩) (by simp) _) (p := ⟨wd44.heap.size, 2, none⟩) (by simp) _)⟩, ⟨(RowN.set (RowN.set (RowN.set R2.out (p := ⟨wd44.heap.size, 0, none⟩) (by simp) _) (p := ⟨wd44.heap.size, 1, none⟩) (by simp) _) (p := ⟨wd44.heap.size, 2, none⟩) (by simp) _)⟩, (by simp [World.setCell])⟩ (sx_of0 ((ButB.set (ButB.set (ButB.set (And.left hHeld) (p := ⟨wd44.heap.size, 0, none⟩) (by first | (left; simp; done) | (right; show w3.heap.size ≤ wd44.heap.size; omega)) _) (p := ⟨wd44.heap.size, 1, none⟩) (by first | (left; simp; done) | (right; show w3.heap.size ≤ wd44.heap.size; omega)) _) (p := ⟨wd44.heap.size, 2, none⟩) (by first | (left; simp; done) | (right; show w3.heap.size ≤ wd44.heap.size; omega)) _))) (fun wd57 hRn hHn => ?_)
        clear hK K hHeld p3 q3 HB3 BD BS R1 R2 sd0 sf0 sd1 sf1 sd2 sf2 sl
        obtain ⟨p3, q3, HB3, BD, BS, R1, R2, hsz57⟩ := hRn
        have hHeld := hHn
        clear hHn
        try simp only [Act.put, List.setIfInBounds_toArray, List.set_cons_zero, List.set_cons_succ]
        refine wpAnyH_ready (rs := [7]) (by kernel_rfl) (by simp) ?_
        refine (AllReadyH.cons (o := ⟨_, _, _, _, _, _⟩) rfl (fun K hK => ?_) AllReadyH.nil)
        have sd0 : wd57.cell? ⟨wd0.heap.size, 0, none⟩ = some (.int .i64 0) := (cell_blk BD.out 0).trans rfl
        have sf0 : wd57.frozen? ⟨wd0.heap.size, 0, none⟩ = false := frozen_blk BD.out 0
        have sd1 : wd57.cell? ⟨wd0.heap.size, 1, none⟩ = some (.slice none 0 0) := (cell_blk BD.out 1).trans rfl
        have sf1 : wd57.frozen? ⟨wd0.heap.size, 1, none⟩ = false := frozen_blk BD.out 1
        have sd2 : wd57.cell? ⟨wd0.heap.size, 2, none⟩ = some (.int .i64 0) := (cell_blk BD.out 2).trans rfl
        have sf2 : wd57.frozen? ⟨wd0.heap.size, 2, none⟩ = false := frozen_blk BD.out 2
        have sl := blk_lt BD.out
        go_simp
        try go_wp2_with fail
        refine out_gen hK _ _ (fun wz : World => Kp (wz.heap[w1.heap.size]? = some (.cells #[.int .i64 C.parts.length, .slice va (planL C).length vc, .int .i64 (planE C)] 79 (0, 0))) ∧ Kp (wz.heap[w.heap.size]? = some (.cells #[.slice pa C.parts.length pc, .slice ca C.chans.length cc, .int .i64 C.l0, .slice a0 C.w0.length c0, .int .i64 C.l1, .slice a1 C.w1.length c1] 29 (0, 0))) ∧ Kp (Below w.heap.size w wz) ∧ Kp (wz.heap[wd0.heap.size]? = some (.cells #[.int .i64 0, .slice v4 C.chans.length c4, .int .i64 0] 79 (0, 0))) ∧ Kp (wz.heap[wd44.heap.size]? = some (.cells #[.int .i64 0, .slice v3 C.chans.length c3, .int .i64 0] 79 (0, 0))) ∧ Kp (RowN wz 2 v3 (C.chans.length) c3 ((pickL (planL C) (C.parts.length + 0) C.chans.length).flatMap spanC) [wd0.heap.size, wd44.heap.size]) ∧ Kp (RowN wz 2 v4 (C.chans.length) c4 ((pickL (planL C) (C.parts.length + 1) C.chans.length).flatMap spanC) [wd0.heap.size, wd44.heap.size]) ∧ wd57.heap.size ≤ wz.heap.size) ⟨⟨(blk_set_ne (p := ⟨wd0.heap.size, 2, none⟩) (blk_set_ne (p := ⟨wd0.heap.size, 1, none⟩) (blk_set_ne (p := ⟨wd0.heap.size, 0, none⟩) p3.out (by show w1.heap.size ≠ wd0.heap.size; omega) _) (by show w1.heap.size ≠ wd0.heap.size; omega) _) (by show w1.heap.size ≠ wd0.heap.size; omega) _)⟩, ⟨(blk_set_ne (p := ⟨wd0.heap.size, 2, none⟩) (blk_set_ne (p := ⟨wd0.heap.size, 1, none⟩) (blk_set_ne (p := ⟨wd0.heap.size, 0, none⟩) q3.out (by show w.heap.size ≠ wd0.heap.size; omega) _) (by show w.heap.size ≠ wd0.heap.size; omega) _) (by show w.heap.size ≠ wd0.heap.size; omega) _)⟩, ⟨(((HB3.out.setCell (p := ⟨wd0.heap.size, 0, none⟩) (by show w.heap.size ≤ wd0.heap.size; omega) _).setCell (p := ⟨wd0.heap.size, 1, none⟩) (by show w.heap.size ≤ wd0.heap.size; omega) _).setCell (p := ⟨wd0.heap.size, 2, none⟩) (by show w.heap.size ≤ wd0.heap.size; omega) _)⟩, ⟨(blk_set (blk_set (blk_set BD.out 0 _) 1 _) 2 _).trans rfl⟩, ⟨(blk_set_ne (p := ⟨wd0.heap.size, 2, none⟩) (blk_set_ne (p := ⟨wd0.heap.size, 1, none⟩) (blk_set_ne (p := ⟨wd0.heap.size, 0, none⟩) BS.out (by show wd44.heap.size ≠ wd0.heap.size; omega) _) (by show wd44.heap.size ≠ wd0.heap.size; omega) _) (by show wd44.heap.size ≠ wd0.heap.size; omega) _)⟩, ⟨(RowN.set (RowN.set (RowN.set R1.out (p := ⟨wd0.heap.size, 0, none⟩) (by simp) _) (p := ⟨wd0.heap.size, 1, none⟩) (by simp) _) (p := ⟨wd0.heap.size, 2, none⟩) (by simp) _)⟩, ⟨(RowN.set (RowN.set (RowN.set R2.out (p := ⟨wd0.heap.size, 0, none⟩) (by simp) _) (p := ⟨wd0.heap.size, 1, none⟩) (by simp) _) (p := ⟨wd0.heap.size, 2, none⟩) (by simp) _)⟩, (by simp [World.setCell])⟩ (sx_of0 ((ButB.set (ButB.set (ButB.set (And.left hHeld) (p := ⟨wd0.heap.size, 0, none⟩) (by first | (left; simp; done) | (right; show w3.heap.size ≤ wd0.heap.size; omega)) _) (p := ⟨wd0.heap.size, 1, none⟩) (by first | (left; simp; done) | (right; show w3.heap.size ≤ wd0.heap.size; omega)) _) (p := ⟨wd0.heap.size, 2, none⟩) (by first | (left; simp; done) | (right; show w3.heap.size ≤ wd0.heap.size; omega)) _))) (fun wd58 hRn hHn => ?_)
        clear hK K hHeld p3 q3 HB3 BD BS R1 R2 sd0 sf0 sd1 sf1 sd2 sf2 sl
        obtain ⟨p3, q3, HB3, BD, BS, R1, R2, hsz58⟩ := hRn
        have hHeld := hHn
        clear hHn
        try simp only [Act.put, List.setIfInBounds_toArray, List.set_cons_zero, List.set_cons_succ]
        refine wpAnyH_done (by kernel_rfl) ?_ _
        go_wp2_with fail
        go_meet
        exact ⟨_, _, v3, v4, c3, c4, rfl, rfl, HB3, q3, BS, BD, ⟨R1.out.1⟩, ⟨R2.out.1⟩⟩
  case rest =>
    obtain ⟨bs, bd, v3, v4, c3, c4, rfl, rfl, HB, HK, HSB, HDB, R1, R2⟩ := hcut
    have hwc := HB.out.size
    have s1 : wc.cell? ⟨bs, 1, none⟩ = some (.slice v3 C.chans.length c3) := (cell_blk HSB.out 1).trans rfl
    have ls := blk_lt HSB.out
    go_wp2_with fail
    clear s1 ls
    go_loopw [28] (fun i wr => ∃ k : Nat, k ≤ C.chans.length ∧ i = .int .i64 k ∧ Kp (Below w.heap.size w wr) ∧ Kp (Below wc.heap.size wc wr) ∧ Kp (wr.heap[w.heap.size]? = some (.cells #[.slice pa C.parts.length pc, .slice ca C.chans.length cc, .int .i64 C.l0, .slice a0 C.w0.length c0, .int .i64 C.l1, .slice a1 C.w1.length c1] 29 (0, 0))) ∧ Kp (wr.heap[bs]? = some (.cells #[.int .i64 0, .slice v3 C.chans.length c3, .int .i64 0] 79 (0, 0))) ∧ Kp (wr.heap[bd]? = some (.cells #[.int .i64 0, .slice v4 C.chans.length c4, .int .i64 0] 79 (0, 0))) ∧ Kp (mayTo C p a k = false)) (fun i wr => C.chans.length - (intOf i).toNat)
    case atStart => exact ⟨0, Nat.zero_le _, rfl, HB, ⟨Below.refl _ _⟩, HK, HSB, HDB, ⟨mayTo_zero C p a⟩⟩
    case round =>
      clear HB HK HSB HDB
      obtain ⟨k, hk, rfl, HB, HBC, HK, HSB, HDB, HT⟩ := hrel
      by_cases hlt : k < C.chans.length
      · obtain ⟨g3, o3, rfl, hg3, hc3⟩ := R1.out.at (by omega)
        obtain ⟨g4, o4, rfl, hg4, hc4⟩ := R2.out.at (by omega)
        obtain ⟨g, o, rfl, hg, hcc⟩ := HCH.out.at (by omega)
        obtain ⟨x, hx⟩ : ∃ x, C.chans[k] = x := ⟨_, rfl⟩
        have HXG : Kp (C.chans.getD k default = x) := ⟨by rw [getD_at _ _ _ (by omega), hx]⟩
        have HCU : Kp (∀ j, j < 7 → w.cell? ⟨g, o + k * 7 + j, none⟩ = (chanC x)[j]?) := ⟨fun j hj => by
          have h1 := hcc (k * 7 + j) (by omega)
          rw [flat_at chanC 7 chanC_len C.chans k j (by omega) hj, hx] at h1
          rw [Nat.add_assoc]
          exact h1⟩
        have hl1 : k < (pickL (planL C) (C.parts.length + 0) C.chans.length).length := by rw [pickL_len]; exact hlt
        have hl2 : k < (pickL (planL C) (C.parts.length + 1) C.chans.length).length := by rw [pickL_len]; exact hlt
        have hp1 : (pickL (planL C) (C.parts.length + 0) C.chans.length)[k] = srcB C k := by
          have h := srcB_yes C ha k hlt
          rw [Nat.zero_add, List.getElem?_eq_getElem hl1] at h
          exact Option.some.inj h
        have hp2 : (pickL (planL C) (C.parts.length + 1) C.chans.length)[k] = dstB C k := by
          have h := dstB_yes C ha k hlt
          rw [Nat.zero_add, List.getElem?_eq_getElem hl2] at h
          exact Option.some.inj h
        have HE3 : Kp (∀ j, j < 2 → wc.cell? ⟨g3, o3 + k * 2 + j, none⟩ = (spanC (srcB C k))[j]?) := ⟨fun j hj => by
          have h1 := hc3 (k * 2 + j) (by omega)
          rw [flat_at spanC 2 spanC_len _ k j hl1 hj, hp1] at h1
          rw [Nat.add_assoc]
          exact h1⟩
        have HF : Kp (∀ j, j < 2 → wc.cell? ⟨g4, o4 + k * 2 + j, none⟩ = (spanC (dstB C k))[j]?) := ⟨fun j hj => by
          have h1 := hc4 (k * 2 + j) (by omega)
          rw [flat_at spanC 2 spanC_len _ k j hl2 hj, hp2] at h1
          rw [Nat.add_assoc]
          exact h1⟩
        have z0 : wr.cell? ⟨g3, o3 + k * 2, none⟩ = some (.int .i64 (srcB C k).1) := (HBC.out.cell (p := ⟨g3, o3 + k * 2, none⟩) hg3).trans (HE3.out 0 (by omega))
        have z1 : wr.cell? ⟨g3, o3 + k * 2 + 1, none⟩ = some (.int .i64 (srcB C k).2) := (HBC.out.cell (p := ⟨g3, o3 + k * 2 + 1, none⟩) hg3).trans (HE3.out 1 (by omega))
        have hk0 : (0 : Int) ≤ (k : Int) := by omega
        have hk1 : (k : Int) < (C.chans.length : Int) := by omega
        have q0_ : wr.cell? ⟨w.heap.size, 0, none⟩ = some (.slice pa C.parts.length pc) := (cell_blk HK.out 0).trans rfl
        have q1_ : wr.cell? ⟨w.heap.size, 1, none⟩ = some (.slice (some ⟨g, o, none⟩) C.chans.length cc) := (cell_blk HK.out 1).trans rfl
        have lq_ := blk_lt HK.out
        have e1_ : wr.cell? ⟨g, o + k * 7 + 1, none⟩ = some (.int .i64 x.frm) := (HB.out.cell (p := ⟨g, o + k * 7 + 1, none⟩) hg).trans (HCU.out 1 (by omega))
        have e2_ : wr.cell? ⟨g, o + k * 7 + 2, none⟩ = some (.int .i64 x.to) := (HB.out.cell (p := ⟨g, o + k * 7 + 2, none⟩) hg).trans (HCU.out 2 (by omega))
        have d1_ : wr.cell? ⟨bd, 1, none⟩ = some (.slice (some ⟨g4, o4, none⟩) C.chans.length c4) := (cell_blk HDB.out 1).trans rfl
        have ld_ := blk_lt HDB.out
        have f0_ : wr.cell? ⟨g4, o4 + k * 2, none⟩ = some (.int .i64 (dstB C k).1) := (HBC.out.cell (p := ⟨g4, o4 + k * 2, none⟩) hg4).trans (HF.out 0 (by omega))
        have f1_ : wr.cell? ⟨g4, o4 + k * 2 + 1, none⟩ = some (.int .i64 (dstB C k).2) := (HBC.out.cell (p := ⟨g4, o4 + k * 2 + 1, none⟩) hg4).trans (HF.out 1 (by omega))
        have lb_ := HB.out.size
        have lc_ := HBC.out.size
        have lg_ : g < wr.heap.size := by omega
        have l4_ : g4 < wr.heap.size := by omega
        have l3_ : g3 < wr.heap.size := by omega
        clear hcc hc3 hc4 hx hp1 hp2
        by_cases hf : x.frm = p
        · have hf1 : (x.frm == p) = true := by simpa using hf
          cases hs : hasS (srcB C k) a with
          | true =>
            have HS := Kp.mk hs
            clear hs
            have HKK : Kp (mayK C p a k = true) := ⟨by rw [mayK, HXG.out, hf1, HS.out]; simp⟩
            have HB2 : Kp (Below w.heap.size w (wr.alloc (.cells #[.int .i64 (srcB C k).1, .int .i64 (srcB C k).2] 49))) := ⟨below_al HB.out _⟩
            have HBC2 : Kp (Below wc.heap.size wc (wr.alloc (.cells #[.int .i64 (srcB C k).1, .int .i64 (srcB C k).2] 49))) := ⟨below_al HBC.out _⟩
            have HK2 := Kp.mk (blk_al HK.out (.cells #[.int .i64 (srcB C k).1, .int .i64 (srcB C k).2] 49))
            have HSB2 := Kp.mk (blk_al HSB.out (.cells #[.int .i64 (srcB C k).1, .int .i64 (srcB C k).2] 49))
            have HDB2 := Kp.mk (blk_al HDB.out (.cells #[.int .i64 (srcB C k).1, .int .i64 (srcB C k).2] 49))
            go_wp2_with fail
            refine (hasS_any (srcB C k) a true HS.out _).mono ?_
            rintro e wb3 ⟨rfl, hb3⟩
            have HB3 := Kp.mk (below_call HB2.out hb3)
            have HBC3 := Kp.mk (below_call HBC2.out hb3)
            have HK3 := Kp.mk (blk_below HK2.out hb3)
            have HSB3 := Kp.mk (blk_below HSB2.out hb3)
            have HDB3 := Kp.mk (blk_below HDB2.out hb3)
            clear hb3
            have q0_3 : wb3.cell? ⟨w.heap.size, 0, none⟩ = some (.slice pa C.parts.length pc) := (cell_blk HK3.out 0).trans rfl
            have q1_3 : wb3.cell? ⟨w.heap.size, 1, none⟩ = some (.slice (some ⟨g, o, none⟩) C.chans.length cc) := (cell_blk HK3.out 1).trans rfl
            have lq_3 := blk_lt HK3.out
            have e1_3 : wb3.cell? ⟨g, o + k * 7 + 1, none⟩ = some (.int .i64 x.frm) := (HB3.out.cell (p := ⟨g, o + k * 7 + 1, none⟩) hg).trans (HCU.out 1 (by omega))
            have e2_3 : wb3.cell? ⟨g, o + k * 7 + 2, none⟩ = some (.int .i64 x.to) := (HB3.out.cell (p := ⟨g, o + k * 7 + 2, none⟩) hg).trans (HCU.out 2 (by omega))
            have d1_3 : wb3.cell? ⟨bd, 1, none⟩ = some (.slice (some ⟨g4, o4, none⟩) C.chans.length c4) := (cell_blk HDB3.out 1).trans rfl
            have ld_3 := blk_lt HDB3.out
            have f0_3 : wb3.cell? ⟨g4, o4 + k * 2, none⟩ = some (.int .i64 (dstB C k).1) := (HBC3.out.cell (p := ⟨g4, o4 + k * 2, none⟩) hg4).trans (HF.out 0 (by omega))
            have f1_3 : wb3.cell? ⟨g4, o4 + k * 2 + 1, none⟩ = some (.int .i64 (dstB C k).2) := (HBC3.out.cell (p := ⟨g4, o4 + k * 2 + 1, none⟩) hg4).trans (HF.out 1 (by omega))
            have lb_3 := HB3.out.size
            have lc_3 := HBC3.out.size
            have lg_3 : g < wb3.heap.size := by omega
            have l4_3 : g4 < wb3.heap.size := by omega
            go_wp2
            go_ret
            exact ⟨ret_bool (by rw [HM.out, mayTo_yes HKK.out hlt]), HB3.out⟩
          | false =>
            by_cases ht : x.to = p
            · have ht1 : (x.to == p) = true := by simpa using ht
              cases hd : hasS (dstB C k) a with
              | true =>
                have HS := Kp.mk hs
                clear hs
                have HD := Kp.mk hd
                clear hd
                have HKK : Kp (mayK C p a k = true) := ⟨by rw [mayK, HXG.out, hf1, HS.out, ht1, HD.out]; simp⟩
                have HB2 : Kp (Below w.heap.size w (wr.alloc (.cells #[.int .i64 (srcB C k).1, .int .i64 (srcB C k).2] 49))) := ⟨below_al HB.out _⟩
                have HBC2 : Kp (Below wc.heap.size wc (wr.alloc (.cells #[.int .i64 (srcB C k).1, .int .i64 (srcB C k).2] 49))) := ⟨below_al HBC.out _⟩
                have HK2 := Kp.mk (blk_al HK.out (.cells #[.int .i64 (srcB C k).1, .int .i64 (srcB C k).2] 49))
                have HSB2 := Kp.mk (blk_al HSB.out (.cells #[.int .i64 (srcB C k).1, .int .i64 (srcB C k).2] 49))
                have HDB2 := Kp.mk (blk_al HDB.out (.cells #[.int .i64 (srcB C k).1, .int .i64 (srcB C k).2] 49))
                go_wp2_with fail
                refine (hasS_any (srcB C k) a false HS.out _).mono ?_
                rintro e wb3 ⟨rfl, hb3⟩
                have HB3 := Kp.mk (below_call HB2.out hb3)
                have HBC3 := Kp.mk (below_call HBC2.out hb3)
                have HK3 := Kp.mk (blk_below HK2.out hb3)
                have HSB3 := Kp.mk (blk_below HSB2.out hb3)
                have HDB3 := Kp.mk (blk_below HDB2.out hb3)
                clear hb3
                have q0_3 : wb3.cell? ⟨w.heap.size, 0, none⟩ = some (.slice pa C.parts.length pc) := (cell_blk HK3.out 0).trans rfl
                have q1_3 : wb3.cell? ⟨w.heap.size, 1, none⟩ = some (.slice (some ⟨g, o, none⟩) C.chans.length cc) := (cell_blk HK3.out 1).trans rfl
                have lq_3 := blk_lt HK3.out
                have e1_3 : wb3.cell? ⟨g, o + k * 7 + 1, none⟩ = some (.int .i64 x.frm) := (HB3.out.cell (p := ⟨g, o + k * 7 + 1, none⟩) hg).trans (HCU.out 1 (by omega))
                have e2_3 : wb3.cell? ⟨g, o + k * 7 + 2, none⟩ = some (.int .i64 x.to) := (HB3.out.cell (p := ⟨g, o + k * 7 + 2, none⟩) hg).trans (HCU.out 2 (by omega))
                have d1_3 : wb3.cell? ⟨bd, 1, none⟩ = some (.slice (some ⟨g4, o4, none⟩) C.chans.length c4) := (cell_blk HDB3.out 1).trans rfl
                have ld_3 := blk_lt HDB3.out
                have f0_3 : wb3.cell? ⟨g4, o4 + k * 2, none⟩ = some (.int .i64 (dstB C k).1) := (HBC3.out.cell (p := ⟨g4, o4 + k * 2, none⟩) hg4).trans (HF.out 0 (by omega))
                have f1_3 : wb3.cell? ⟨g4, o4 + k * 2 + 1, none⟩ = some (.int .i64 (dstB C k).2) := (HBC3.out.cell (p := ⟨g4, o4 + k * 2 + 1, none⟩) hg4).trans (HF.out 1 (by omega))
                have lb_3 := HB3.out.size
                have lc_3 := HBC3.out.size
                have lg_3 : g < wb3.heap.size := by omega
                have l4_3 : g4 < wb3.heap.size := by omega
                go_wp2_with fail
                refine (hasS_any (dstB C k) a true HD.out _).mono ?_
                rintro e wb4 ⟨rfl, hb4⟩
                have HB4 := Kp.mk (below_call HB3.out hb4)
                have HBC4 := Kp.mk (below_call HBC3.out hb4)
                have HK4 := Kp.mk (blk_below HK3.out hb4)
                have HSB4 := Kp.mk (blk_below HSB3.out hb4)
                have HDB4 := Kp.mk (blk_below HDB3.out hb4)
                clear hb4
                have q0_4 : wb4.cell? ⟨w.heap.size, 0, none⟩ = some (.slice pa C.parts.length pc) := (cell_blk HK4.out 0).trans rfl
                have q1_4 : wb4.cell? ⟨w.heap.size, 1, none⟩ = some (.slice (some ⟨g, o, none⟩) C.chans.length cc) := (cell_blk HK4.out 1).trans rfl
                have lq_4 := blk_lt HK4.out
                have e1_4 : wb4.cell? ⟨g, o + k * 7 + 1, none⟩ = some (.int .i64 x.frm) := (HB4.out.cell (p := ⟨g, o + k * 7 + 1, none⟩) hg).trans (HCU.out 1 (by omega))
                have e2_4 : wb4.cell? ⟨g, o + k * 7 + 2, none⟩ = some (.int .i64 x.to) := (HB4.out.cell (p := ⟨g, o + k * 7 + 2, none⟩) hg).trans (HCU.out 2 (by omega))
                have d1_4 : wb4.cell? ⟨bd, 1, none⟩ = some (.slice (some ⟨g4, o4, none⟩) C.chans.length c4) := (cell_blk HDB4.out 1).trans rfl
                have ld_4 := blk_lt HDB4.out
                have f0_4 : wb4.cell? ⟨g4, o4 + k * 2, none⟩ = some (.int .i64 (dstB C k).1) := (HBC4.out.cell (p := ⟨g4, o4 + k * 2, none⟩) hg4).trans (HF.out 0 (by omega))
                have f1_4 : wb4.cell? ⟨g4, o4 + k * 2 + 1, none⟩ = some (.int .i64 (dstB C k).2) := (HBC4.out.cell (p := ⟨g4, o4 + k * 2 + 1, none⟩) hg4).trans (HF.out 1 (by omega))
                have lb_4 := HB4.out.size
                have lc_4 := HBC4.out.size
                have lg_4 : g < wb4.heap.size := by omega
                have l4_4 : g4 < wb4.heap.size := by omega
                go_wp2
                go_ret
                exact ⟨ret_bool (by rw [HM.out, mayTo_yes HKK.out hlt]), HB4.out⟩
              | false =>
                have HS := Kp.mk hs
                clear hs
                have HD := Kp.mk hd
                clear hd
                have HKK : Kp (mayK C p a k = false) := ⟨by rw [mayK, HXG.out, hf1, HS.out, ht1, HD.out]; simp⟩
                have HB2 : Kp (Below w.heap.size w (wr.alloc (.cells #[.int .i64 (srcB C k).1, .int .i64 (srcB C k).2] 49))) := ⟨below_al HB.out _⟩
                have HBC2 : Kp (Below wc.heap.size wc (wr.alloc (.cells #[.int .i64 (srcB C k).1, .int .i64 (srcB C k).2] 49))) := ⟨below_al HBC.out _⟩
                have HK2 := Kp.mk (blk_al HK.out (.cells #[.int .i64 (srcB C k).1, .int .i64 (srcB C k).2] 49))
                have HSB2 := Kp.mk (blk_al HSB.out (.cells #[.int .i64 (srcB C k).1, .int .i64 (srcB C k).2] 49))
                have HDB2 := Kp.mk (blk_al HDB.out (.cells #[.int .i64 (srcB C k).1, .int .i64 (srcB C k).2] 49))
                go_wp2_with fail
                refine (hasS_any (srcB C k) a false HS.out _).mono ?_
                rintro e wb3 ⟨rfl, hb3⟩
                have HB3 := Kp.mk (below_call HB2.out hb3)
                have HBC3 := Kp.mk (below_call HBC2.out hb3)
                have HK3 := Kp.mk (blk_below HK2.out hb3)
                have HSB3 := Kp.mk (blk_below HSB2.out hb3)
                have HDB3 := Kp.mk (blk_below HDB2.out hb3)
                clear hb3
                have q0_3 : wb3.cell? ⟨w.heap.size, 0, none⟩ = some (.slice pa C.parts.length pc) := (cell_blk HK3.out 0).trans rfl
                have q1_3 : wb3.cell? ⟨w.heap.size, 1, none⟩ = some (.slice (some ⟨g, o, none⟩) C.chans.length cc) := (cell_blk HK3.out 1).trans rfl
                have lq_3 := blk_lt HK3.out
                have e1_3 : wb3.cell? ⟨g, o + k * 7 + 1, none⟩ = some (.int .i64 x.frm) := (HB3.out.cell (p := ⟨g, o + k * 7 + 1, none⟩) hg).trans (HCU.out 1 (by omega))
                have e2_3 : wb3.cell? ⟨g, o + k * 7 + 2, none⟩ = some (.int .i64 x.to) := (HB3.out.cell (p := ⟨g, o + k * 7 + 2, none⟩) hg).trans (HCU.out 2 (by omega))
                have d1_3 : wb3.cell? ⟨bd, 1, none⟩ = some (.slice (some ⟨g4, o4, none⟩) C.chans.length c4) := (cell_blk HDB3.out 1).trans rfl
                have ld_3 := blk_lt HDB3.out
                have f0_3 : wb3.cell? ⟨g4, o4 + k * 2, none⟩ = some (.int .i64 (dstB C k).1) := (HBC3.out.cell (p := ⟨g4, o4 + k * 2, none⟩) hg4).trans (HF.out 0 (by omega))
                have f1_3 : wb3.cell? ⟨g4, o4 + k * 2 + 1, none⟩ = some (.int .i64 (dstB C k).2) := (HBC3.out.cell (p := ⟨g4, o4 + k * 2 + 1, none⟩) hg4).trans (HF.out 1 (by omega))
                have lb_3 := HB3.out.size
                have lc_3 := HBC3.out.size
                have lg_3 : g < wb3.heap.size := by omega
                have l4_3 : g4 < wb3.heap.size := by omega
                go_wp2_with fail
                refine (hasS_any (dstB C k) a false HD.out _).mono ?_
                rintro e wb4 ⟨rfl, hb4⟩
                have HB4 := Kp.mk (below_call HB3.out hb4)
                have HBC4 := Kp.mk (below_call HBC3.out hb4)
                have HK4 := Kp.mk (blk_below HK3.out hb4)
                have HSB4 := Kp.mk (blk_below HSB3.out hb4)
                have HDB4 := Kp.mk (blk_below HDB3.out hb4)
                clear hb4
                have q0_4 : wb4.cell? ⟨w.heap.size, 0, none⟩ = some (.slice pa C.parts.length pc) := (cell_blk HK4.out 0).trans rfl
                have q1_4 : wb4.cell? ⟨w.heap.size, 1, none⟩ = some (.slice (some ⟨g, o, none⟩) C.chans.length cc) := (cell_blk HK4.out 1).trans rfl
                have lq_4 := blk_lt HK4.out
                have e1_4 : wb4.cell? ⟨g, o + k * 7 + 1, none⟩ = some (.int .i64 x.frm) := (HB4.out.cell (p := ⟨g, o + k * 7 + 1, none⟩) hg).trans (HCU.out 1 (by omega))
                have e2_4 : wb4.cell? ⟨g, o + k * 7 + 2, none⟩ = some (.int .i64 x.to) := (HB4.out.cell (p := ⟨g, o + k * 7 + 2, none⟩) hg).trans (HCU.out 2 (by omega))
                have d1_4 : wb4.cell? ⟨bd, 1, none⟩ = some (.slice (some ⟨g4, o4, none⟩) C.chans.length c4) := (cell_blk HDB4.out 1).trans rfl
                have ld_4 := blk_lt HDB4.out
                have f0_4 : wb4.cell? ⟨g4, o4 + k * 2, none⟩ = some (.int .i64 (dstB C k).1) := (HBC4.out.cell (p := ⟨g4, o4 + k * 2, none⟩) hg4).trans (HF.out 0 (by omega))
                have f1_4 : wb4.cell? ⟨g4, o4 + k * 2 + 1, none⟩ = some (.int .i64 (dstB C k).2) := (HBC4.out.cell (p := ⟨g4, o4 + k * 2 + 1, none⟩) hg4).trans (HF.out 1 (by omega))
                have lb_4 := HB4.out.size
                have lc_4 := HBC4.out.size
                have lg_4 : g < wb4.heap.size := by omega
                have l4_4 : g4 < wb4.heap.size := by omega
                go_wp2
                go_roundw
                case rel => exact ⟨k + 1, by omega, by go_num, HB4, HBC4, HK4, HSB4, HDB4, ⟨by rw [mayTo_succ, HT.out, HKK.out]; rfl⟩⟩
                case measure => simp [intOf]; omega
            · have ht1 : (x.to == p) = false := by simpa using ht
              have HS := Kp.mk hs
              clear hs
              have HKK : Kp (mayK C p a k = false) := ⟨by rw [mayK, HXG.out, hf1, HS.out, ht1]; simp⟩
              have HB2 : Kp (Below w.heap.size w (wr.alloc (.cells #[.int .i64 (srcB C k).1, .int .i64 (srcB C k).2] 49))) := ⟨below_al HB.out _⟩
              have HBC2 : Kp (Below wc.heap.size wc (wr.alloc (.cells #[.int .i64 (srcB C k).1, .int .i64 (srcB C k).2] 49))) := ⟨below_al HBC.out _⟩
              have HK2 := Kp.mk (blk_al HK.out (.cells #[.int .i64 (srcB C k).1, .int .i64 (srcB C k).2] 49))
              have HSB2 := Kp.mk (blk_al HSB.out (.cells #[.int .i64 (srcB C k).1, .int .i64 (srcB C k).2] 49))
              have HDB2 := Kp.mk (blk_al HDB.out (.cells #[.int .i64 (srcB C k).1, .int .i64 (srcB C k).2] 49))
              go_wp2_with fail
              refine (hasS_any (srcB C k) a false HS.out _).mono ?_
              rintro e wb3 ⟨rfl, hb3⟩
              have HB3 := Kp.mk (below_call HB2.out hb3)
              have HBC3 := Kp.mk (below_call HBC2.out hb3)
              have HK3 := Kp.mk (blk_below HK2.out hb3)
              have HSB3 := Kp.mk (blk_below HSB2.out hb3)
              have HDB3 := Kp.mk (blk_below HDB2.out hb3)
              clear hb3
              have q0_3 : wb3.cell? ⟨w.heap.size, 0, none⟩ = some (.slice pa C.parts.length pc) := (cell_blk HK3.out 0).trans rfl
              have q1_3 : wb3.cell? ⟨w.heap.size, 1, none⟩ = some (.slice (some ⟨g, o, none⟩) C.chans.length cc) := (cell_blk HK3.out 1).trans rfl
              have lq_3 := blk_lt HK3.out
              have e1_3 : wb3.cell? ⟨g, o + k * 7 + 1, none⟩ = some (.int .i64 x.frm) := (HB3.out.cell (p := ⟨g, o + k * 7 + 1, none⟩) hg).trans (HCU.out 1 (by omega))
              have e2_3 : wb3.cell? ⟨g, o + k * 7 + 2, none⟩ = some (.int .i64 x.to) := (HB3.out.cell (p := ⟨g, o + k * 7 + 2, none⟩) hg).trans (HCU.out 2 (by omega))
              have d1_3 : wb3.cell? ⟨bd, 1, none⟩ = some (.slice (some ⟨g4, o4, none⟩) C.chans.length c4) := (cell_blk HDB3.out 1).trans rfl
              have ld_3 := blk_lt HDB3.out
              have f0_3 : wb3.cell? ⟨g4, o4 + k * 2, none⟩ = some (.int .i64 (dstB C k).1) := (HBC3.out.cell (p := ⟨g4, o4 + k * 2, none⟩) hg4).trans (HF.out 0 (by omega))
              have f1_3 : wb3.cell? ⟨g4, o4 + k * 2 + 1, none⟩ = some (.int .i64 (dstB C k).2) := (HBC3.out.cell (p := ⟨g4, o4 + k * 2 + 1, none⟩) hg4).trans (HF.out 1 (by omega))
              have lb_3 := HB3.out.size
              have lc_3 := HBC3.out.size
              have lg_3 : g < wb3.heap.size := by omega
              have l4_3 : g4 < wb3.heap.size := by omega
              go_wp2
              go_roundw
              case rel => exact ⟨k + 1, by omega, by go_num, HB3, HBC3, HK3, HSB3, HDB3, ⟨by rw [mayTo_succ, HT.out, HKK.out]; rfl⟩⟩
              case measure => simp [intOf]; omega
        · have hf1 : (x.frm == p) = false := by simpa using hf
          by_cases ht : x.to = p
          · have ht1 : (x.to == p) = true := by simpa using ht
            cases hd : hasS (dstB C k) a with
            | true =>
              have HD := Kp.mk hd
              clear hd
              have HKK : Kp (mayK C p a k = true) := ⟨by rw [mayK, HXG.out, hf1, ht1, HD.out]; simp⟩
              have HB2 : Kp (Below w.heap.size w (wr.alloc (.cells #[.int .i64 (srcB C k).1, .int .i64 (srcB C k).2] 49))) := ⟨below_al HB.out _⟩
              have HBC2 : Kp (Below wc.heap.size wc (wr.alloc (.cells #[.int .i64 (srcB C k).1, .int .i64 (srcB C k).2] 49))) := ⟨below_al HBC.out _⟩
              have HK2 := Kp.mk (blk_al HK.out (.cells #[.int .i64 (srcB C k).1, .int .i64 (srcB C k).2] 49))
              have HSB2 := Kp.mk (blk_al HSB.out (.cells #[.int .i64 (srcB C k).1, .int .i64 (srcB C k).2] 49))
              have HDB2 := Kp.mk (blk_al HDB.out (.cells #[.int .i64 (srcB C k).1, .int .i64 (srcB C k).2] 49))
              go_wp2_with fail
              refine (hasS_any (dstB C k) a true HD.out _).mono ?_
              rintro e wb3 ⟨rfl, hb3⟩
              have HB3 := Kp.mk (below_call HB2.out hb3)
              have HBC3 := Kp.mk (below_call HBC2.out hb3)
              have HK3 := Kp.mk (blk_below HK2.out hb3)
              have HSB3 := Kp.mk (blk_below HSB2.out hb3)
              have HDB3 := Kp.mk (blk_below HDB2.out hb3)
              clear hb3
              have q0_3 : wb3.cell? ⟨w.heap.size, 0, none⟩ = some (.slice pa C.parts.length pc) := (cell_blk HK3.out 0).trans rfl
              have q1_3 : wb3.cell? ⟨w.heap.size, 1, none⟩ = some (.slice (some ⟨g, o, none⟩) C.chans.length cc) := (cell_blk HK3.out 1).trans rfl
              have lq_3 := blk_lt HK3.out
              have e1_3 : wb3.cell? ⟨g, o + k * 7 + 1, none⟩ = some (.int .i64 x.frm) := (HB3.out.cell (p := ⟨g, o + k * 7 + 1, none⟩) hg).trans (HCU.out 1 (by omega))
              have e2_3 : wb3.cell? ⟨g, o + k * 7 + 2, none⟩ = some (.int .i64 x.to) := (HB3.out.cell (p := ⟨g, o + k * 7 + 2, none⟩) hg).trans (HCU.out 2 (by omega))
              have d1_3 : wb3.cell? ⟨bd, 1, none⟩ = some (.slice (some ⟨g4, o4, none⟩) C.chans.length c4) := (cell_blk HDB3.out 1).trans rfl
              have ld_3 := blk_lt HDB3.out
              have f0_3 : wb3.cell? ⟨g4, o4 + k * 2, none⟩ = some (.int .i64 (dstB C k).1) := (HBC3.out.cell (p := ⟨g4, o4 + k * 2, none⟩) hg4).trans (HF.out 0 (by omega))
              have f1_3 : wb3.cell? ⟨g4, o4 + k * 2 + 1, none⟩ = some (.int .i64 (dstB C k).2) := (HBC3.out.cell (p := ⟨g4, o4 + k * 2 + 1, none⟩) hg4).trans (HF.out 1 (by omega))
              have lb_3 := HB3.out.size
              have lc_3 := HBC3.out.size
              have lg_3 : g < wb3.heap.size := by omega
              have l4_3 : g4 < wb3.heap.size := by omega
              go_wp2
              go_ret
              exact ⟨ret_bool (by rw [HM.out, mayTo_yes HKK.out hlt]), HB3.out⟩
            | false =>
              have HD := Kp.mk hd
              clear hd
              have HKK : Kp (mayK C p a k = false) := ⟨by rw [mayK, HXG.out, hf1, ht1, HD.out]; simp⟩
              have HB2 : Kp (Below w.heap.size w (wr.alloc (.cells #[.int .i64 (srcB C k).1, .int .i64 (srcB C k).2] 49))) := ⟨below_al HB.out _⟩
              have HBC2 : Kp (Below wc.heap.size wc (wr.alloc (.cells #[.int .i64 (srcB C k).1, .int .i64 (srcB C k).2] 49))) := ⟨below_al HBC.out _⟩
              have HK2 := Kp.mk (blk_al HK.out (.cells #[.int .i64 (srcB C k).1, .int .i64 (srcB C k).2] 49))
              have HSB2 := Kp.mk (blk_al HSB.out (.cells #[.int .i64 (srcB C k).1, .int .i64 (srcB C k).2] 49))
              have HDB2 := Kp.mk (blk_al HDB.out (.cells #[.int .i64 (srcB C k).1, .int .i64 (srcB C k).2] 49))
              go_wp2_with fail
              refine (hasS_any (dstB C k) a false HD.out _).mono ?_
              rintro e wb3 ⟨rfl, hb3⟩
              have HB3 := Kp.mk (below_call HB2.out hb3)
              have HBC3 := Kp.mk (below_call HBC2.out hb3)
              have HK3 := Kp.mk (blk_below HK2.out hb3)
              have HSB3 := Kp.mk (blk_below HSB2.out hb3)
              have HDB3 := Kp.mk (blk_below HDB2.out hb3)
              clear hb3
              have q0_3 : wb3.cell? ⟨w.heap.size, 0, none⟩ = some (.slice pa C.parts.length pc) := (cell_blk HK3.out 0).trans rfl
              have q1_3 : wb3.cell? ⟨w.heap.size, 1, none⟩ = some (.slice (some ⟨g, o, none⟩) C.chans.length cc) := (cell_blk HK3.out 1).trans rfl
              have lq_3 := blk_lt HK3.out
              have e1_3 : wb3.cell? ⟨g, o + k * 7 + 1, none⟩ = some (.int .i64 x.frm) := (HB3.out.cell (p := ⟨g, o + k * 7 + 1, none⟩) hg).trans (HCU.out 1 (by omega))
              have e2_3 : wb3.cell? ⟨g, o + k * 7 + 2, none⟩ = some (.int .i64 x.to) := (HB3.out.cell (p := ⟨g, o + k * 7 + 2, none⟩) hg).trans (HCU.out 2 (by omega))
              have d1_3 : wb3.cell? ⟨bd, 1, none⟩ = some (.slice (some ⟨g4, o4, none⟩) C.chans.length c4) := (cell_blk HDB3.out 1).trans rfl
              have ld_3 := blk_lt HDB3.out
              have f0_3 : wb3.cell? ⟨g4, o4 + k * 2, none⟩ = some (.int .i64 (dstB C k).1) := (HBC3.out.cell (p := ⟨g4, o4 + k * 2, none⟩) hg4).trans (HF.out 0 (by omega))
              have f1_3 : wb3.cell? ⟨g4, o4 + k * 2 + 1, none⟩ = some (.int .i64 (dstB C k).2) := (HBC3.out.cell (p := ⟨g4, o4 + k * 2 + 1, none⟩) hg4).trans (HF.out 1 (by omega))
              have lb_3 := HB3.out.size
              have lc_3 := HBC3.out.size
              have lg_3 : g < wb3.heap.size := by omega
              have l4_3 : g4 < wb3.heap.size := by omega
              go_wp2
              go_roundw
              case rel => exact ⟨k + 1, by omega, by go_num, HB3, HBC3, HK3, HSB3, HDB3, ⟨by rw [mayTo_succ, HT.out, HKK.out]; rfl⟩⟩
              case measure => simp [intOf]; omega
          · have ht1 : (x.to == p) = false := by simpa using ht
            have HKK : Kp (mayK C p a k = false) := ⟨by rw [mayK, HXG.out, hf1, ht1]; simp⟩
            have HB2 : Kp (Below w.heap.size w (wr.alloc (.cells #[.int .i64 (srcB C k).1, .int .i64 (srcB C k).2] 49))) := ⟨below_al HB.out _⟩
            have HBC2 : Kp (Below wc.heap.size wc (wr.alloc (.cells #[.int .i64 (srcB C k).1, .int .i64 (srcB C k).2] 49))) := ⟨below_al HBC.out _⟩
            have HK2 := Kp.mk (blk_al HK.out (.cells #[.int .i64 (srcB C k).1, .int .i64 (srcB C k).2] 49))
            have HSB2 := Kp.mk (blk_al HSB.out (.cells #[.int .i64 (srcB C k).1, .int .i64 (srcB C k).2] 49))
            have HDB2 := Kp.mk (blk_al HDB.out (.cells #[.int .i64 (srcB C k).1, .int .i64 (srcB C k).2] 49))
            go_wp2
            go_roundw
            case rel => exact ⟨k + 1, by omega, by go_num, HB2, HBC2, HK2, HSB2, HDB2, ⟨by rw [mayTo_succ, HT.out, HKK.out]; rfl⟩⟩
            case measure => simp [intOf]; omega
      · obtain rfl : k = C.chans.length := by omega
        go_wp2
        go_ret
        exact ⟨ret_bool (by rw [HM.out, HT.out]), HB.out⟩
end Go.Proofs.Ytpeajlponlmceaa

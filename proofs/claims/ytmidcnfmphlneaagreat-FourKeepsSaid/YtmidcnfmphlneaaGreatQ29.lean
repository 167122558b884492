/- May a partition change an address? By the reference, whatever the address (out of the layout's texts). -/
import Derived.Test.YtmidcnfmphlneaaGreatQ28
namespace Go.Proofs.YtmidcnfmphlneaaGreat
open Go.RowKit
set_option linter.unusedSimpArgs false
set_option linter.unusedVariables false
theorem mayTo_zero (C : Cfg) (p a : Int) : mayTo C p a 0 = false := rfl
theorem mayTo_succ (C : Cfg) (p a : Int) (k : Nat) : mayTo C p a (k + 1) = (mayTo C p a k || mayK C p a k) := by rw [mayTo, List.range_succ, List.any_append]; simp [mayTo]
theorem mayTo_yes {C : Cfg} {p a : Int} {k n : Nat} (h : mayK C p a k = true) (hk : k < n) : mayTo C p a n = true := List.any_eq_true.2 ⟨k, List.mem_range.2 hk, h⟩
set_option maxRecDepth 100000 in
set_option maxHeartbeats 8000000 in
theorem rmay_rest (cv : Value) (C : Cfg) (hsm : C.small) (p a : Int) (hh : hasS (privB C p) a = false) (w : World) (h : CfgAt w cv C) : Calls Tryz.prog 18 #[cv, .int .i64 p, .int .i64 a] w fun e w' => e = .returned (.bool (mayB C p a)) ∧ Below w.heap.size w w' := by
  have HC := Kp.mk h
  have HH := Kp.mk hh
  have HM : Kp (mayB C p a = mayTo C p a C.chans.length) := ⟨by rw [mayB, hh]; rfl⟩
  have hs2 := hsm.2.1
  obtain ⟨ho, pa, pc, ca, cc, a0, c0, a1, c1, rfl, bp, bc, b0, b1, hp, hc, hw0, hw1⟩ := h
  have HCH := Kp.mk hc
  clear ho hp hc hw0 hw1 hh
  go_enter Tryz.func18, Tryz.ntmps18
  have HB0 : Kp (Below w.heap.size w w) := ⟨Below.refl _ _⟩
  go_wp2_with fail
  refine (rprivate_any _ C hsm p _ (HC.out.below (below_al HB0.out _))).mono ?_
  rintro e w1 ⟨rfl, hb⟩
  have q1 : Kp (w1.heap[w.heap.size]? = some (.cells #[.slice pa C.parts.length pc, .slice ca C.chans.length cc, .int .i64 C.l0, .slice a0 C.w0.length c0, .int .i64 C.l1, .slice a1 C.w1.length c1] 31 (0, 0))) := ⟨blk_below (blk_new _ _) hb⟩
  have HB1 : Kp (Below w.heap.size w w1) := ⟨below_call (below_al HB0.out _) hb⟩
  clear HB0 hb
  have qc0 := cbk q1.out 0 (.slice pa C.parts.length pc) rfl
  have qc1 := cbk q1.out 1 (.slice ca C.chans.length cc) rfl
  have qc2 := cbk q1.out 2 (.int .i64 C.l0) rfl
  have qc3 := cbk q1.out 3 (.slice a0 C.w0.length c0) rfl
  have qc4 := cbk q1.out 4 (.int .i64 C.l1) rfl
  have qc5 := cbk q1.out 5 (.slice a1 C.w1.length c1) rfl
  have ql := blk_lt q1.out
  go_wp2_with fail
  refine (rhasS_any (privB C p) a false HH.out _).mono ?_
  rintro e w2 ⟨rfl, hb⟩
  have q2 : Kp (w2.heap[w.heap.size]? = some (.cells #[.slice pa C.parts.length pc, .slice ca C.chans.length cc, .int .i64 C.l0, .slice a0 C.w0.length c0, .int .i64 C.l1, .slice a1 C.w1.length c1] 31 (0, 0))) := ⟨blk_below q1.out hb⟩
  have HB2 : Kp (Below w.heap.size w w2) := ⟨below_call HB1.out hb⟩
  clear qc0 qc1 qc2 qc3 qc4 qc5 ql q1 HB1 hb
  have qc0 := cbk q2.out 0 (.slice pa C.parts.length pc) rfl
  have qc1 := cbk q2.out 1 (.slice ca C.chans.length cc) rfl
  have qc2 := cbk q2.out 2 (.int .i64 C.l0) rfl
  have qc3 := cbk q2.out 3 (.slice a0 C.w0.length c0) rfl
  have qc4 := cbk q2.out 4 (.int .i64 C.l1) rfl
  have qc5 := cbk q2.out 5 (.slice a1 C.w1.length c1) rfl
  have ql := blk_lt q2.out
  go_wp2_with fail
  clear qc0 qc1 qc2 qc3 qc4 qc5 ql
  go_loopw [7] (fun i wr => ∃ k : Nat, k ≤ C.chans.length ∧ i = .int .i64 k ∧ Kp (Below w.heap.size w wr) ∧ Kp (wr.heap[w.heap.size]? = some (.cells #[.slice pa C.parts.length pc, .slice ca C.chans.length cc, .int .i64 C.l0, .slice a0 C.w0.length c0, .int .i64 C.l1, .slice a1 C.w1.length c1] 31 (0, 0))) ∧ Kp (mayTo C p a k = false)) (fun i wr => C.chans.length - (intOf i).toNat)
  case atStart => exact ⟨0, Nat.zero_le _, rfl, HB2, q2, ⟨mayTo_zero C p a⟩⟩
  case round =>
    obtain ⟨k, hk, rfl, HB, HK, HT⟩ := hrel
    by_cases hlt : k < C.chans.length
    · obtain ⟨g, o, rfl, hg, hcc⟩ := HCH.out.at (by omega)
      obtain ⟨x, hx⟩ : ∃ x, C.chans[k] = x := ⟨_, rfl⟩
      have HXG : Kp (C.chans.getD k default = x) := ⟨by rw [getD_at _ _ _ (by omega), hx]⟩
      have HCU : Kp (∀ j, j < 7 → w.cell? ⟨g, o + k * 7 + j, none⟩ = (chanC x)[j]?) := ⟨fun j hj => by
        have h1 := hcc (k * 7 + j) (by omega)
        rw [flat_at chanC 7 chanC_len C.chans k j (by omega) hj, hx] at h1
        rw [Nat.add_assoc]
        exact h1⟩
      have hk0 : (0 : Int) ≤ (k : Int) := by omega
      have hk1 : (k : Int) < (C.chans.length : Int) := by omega
      have q0_ := cbk HK.out 0 (.slice pa C.parts.length pc) rfl
      have q1_ := cbk HK.out 1 (.slice (some ⟨g, o, none⟩) C.chans.length cc) rfl
      have q2_ := cbk HK.out 2 (.int .i64 C.l0) rfl
      have q3_ := cbk HK.out 3 (.slice a0 C.w0.length c0) rfl
      have q4_ := cbk HK.out 4 (.int .i64 C.l1) rfl
      have q5_ := cbk HK.out 5 (.slice a1 C.w1.length c1) rfl
      have lq_ := blk_lt HK.out
      have e1_ : wr.cell? ⟨g, o + k * 7 + 1, none⟩ = some (.int .i64 x.frm) := (HB.out.cell (p := ⟨g, o + k * 7 + 1, none⟩) hg).trans (HCU.out 1 (by omega))
      have e2_ : wr.cell? ⟨g, o + k * 7 + 2, none⟩ = some (.int .i64 x.to) := (HB.out.cell (p := ⟨g, o + k * 7 + 2, none⟩) hg).trans (HCU.out 2 (by omega))
      have lb_ := HB.out.size
      have lg_ : g < wr.heap.size := by omega
      clear hcc hx
      by_cases hf : x.frm = p
      · have hf1 : (x.frm == p) = true := by simpa using hf
        cases hs : hasS (srcB C k) a with
        | true =>
          have HS := Kp.mk hs
          clear hs
          have HKK : Kp (mayK C p a k = true) := ⟨by rw [mayK, HXG.out, hf1, HS.out]; simp⟩
          go_wp2_with fail
          refine (rsource0_any _ C hsm k _ (HC.out.below HB.out)).mono ?_
          rintro e wb1 ⟨rfl, hb1⟩
          have HB1 := Kp.mk (below_call HB.out hb1)
          have HK1 := Kp.mk (blk_below HK.out hb1)
          clear hb1
          have q0_1 := cbk HK1.out 0 (.slice pa C.parts.length pc) rfl
          have q1_1 := cbk HK1.out 1 (.slice (some ⟨g, o, none⟩) C.chans.length cc) rfl
          have q2_1 := cbk HK1.out 2 (.int .i64 C.l0) rfl
          have q3_1 := cbk HK1.out 3 (.slice a0 C.w0.length c0) rfl
          have q4_1 := cbk HK1.out 4 (.int .i64 C.l1) rfl
          have q5_1 := cbk HK1.out 5 (.slice a1 C.w1.length c1) rfl
          have lq_1 := blk_lt HK1.out
          have e1_1 : wb1.cell? ⟨g, o + k * 7 + 1, none⟩ = some (.int .i64 x.frm) := (HB1.out.cell (p := ⟨g, o + k * 7 + 1, none⟩) hg).trans (HCU.out 1 (by omega))
          have e2_1 : wb1.cell? ⟨g, o + k * 7 + 2, none⟩ = some (.int .i64 x.to) := (HB1.out.cell (p := ⟨g, o + k * 7 + 2, none⟩) hg).trans (HCU.out 2 (by omega))
          have lb_1 := HB1.out.size
          have lg_1 : g < wb1.heap.size := by omega
          go_wp2_with fail
          refine (rhasS_any (srcB C k) a true HS.out _).mono ?_
          rintro e wb2 ⟨rfl, hb2⟩
          have HB2 := Kp.mk (below_call HB1.out hb2)
          have HK2 := Kp.mk (blk_below HK1.out hb2)
          clear hb2
          have q0_2 := cbk HK2.out 0 (.slice pa C.parts.length pc) rfl
          have q1_2 := cbk HK2.out 1 (.slice (some ⟨g, o, none⟩) C.chans.length cc) rfl
          have q2_2 := cbk HK2.out 2 (.int .i64 C.l0) rfl
          have q3_2 := cbk HK2.out 3 (.slice a0 C.w0.length c0) rfl
          have q4_2 := cbk HK2.out 4 (.int .i64 C.l1) rfl
          have q5_2 := cbk HK2.out 5 (.slice a1 C.w1.length c1) rfl
          have lq_2 := blk_lt HK2.out
          have e1_2 : wb2.cell? ⟨g, o + k * 7 + 1, none⟩ = some (.int .i64 x.frm) := (HB2.out.cell (p := ⟨g, o + k * 7 + 1, none⟩) hg).trans (HCU.out 1 (by omega))
          have e2_2 : wb2.cell? ⟨g, o + k * 7 + 2, none⟩ = some (.int .i64 x.to) := (HB2.out.cell (p := ⟨g, o + k * 7 + 2, none⟩) hg).trans (HCU.out 2 (by omega))
          have lb_2 := HB2.out.size
          have lg_2 : g < wb2.heap.size := by omega
          go_wp2
          go_ret
          exact ⟨ret_bool (by rw [HM.out, mayTo_yes HKK.out hlt]), HB2.out⟩
        | false =>
          by_cases ht : x.to = p
          · have ht1 : (x.to == p) = true := by simpa using ht
            cases hd : hasS (dstB C k) a with
            | true =>
              have HS := Kp.mk hs
              clear hs
              have HD := Kp.mk hd
              clear hd
              have HKK : Kp (mayK C p a k = true) := ⟨by rw [mayK, HXG.out, hf1, HS.out, ht1, HD.out]; simp⟩
              go_wp2_with fail
              refine (rsource0_any _ C hsm k _ (HC.out.below HB.out)).mono ?_
              rintro e wb1 ⟨rfl, hb1⟩
              have HB1 := Kp.mk (below_call HB.out hb1)
              have HK1 := Kp.mk (blk_below HK.out hb1)
              clear hb1
              have q0_1 := cbk HK1.out 0 (.slice pa C.parts.length pc) rfl
              have q1_1 := cbk HK1.out 1 (.slice (some ⟨g, o, none⟩) C.chans.length cc) rfl
              have q2_1 := cbk HK1.out 2 (.int .i64 C.l0) rfl
              have q3_1 := cbk HK1.out 3 (.slice a0 C.w0.length c0) rfl
              have q4_1 := cbk HK1.out 4 (.int .i64 C.l1) rfl
              have q5_1 := cbk HK1.out 5 (.slice a1 C.w1.length c1) rfl
              have lq_1 := blk_lt HK1.out
              have e1_1 : wb1.cell? ⟨g, o + k * 7 + 1, none⟩ = some (.int .i64 x.frm) := (HB1.out.cell (p := ⟨g, o + k * 7 + 1, none⟩) hg).trans (HCU.out 1 (by omega))
              have e2_1 : wb1.cell? ⟨g, o + k * 7 + 2, none⟩ = some (.int .i64 x.to) := (HB1.out.cell (p := ⟨g, o + k * 7 + 2, none⟩) hg).trans (HCU.out 2 (by omega))
              have lb_1 := HB1.out.size
              have lg_1 : g < wb1.heap.size := by omega
              go_wp2_with fail
              refine (rhasS_any (srcB C k) a false HS.out _).mono ?_
              rintro e wb2 ⟨rfl, hb2⟩
              have HB2 := Kp.mk (below_call HB1.out hb2)
              have HK2 := Kp.mk (blk_below HK1.out hb2)
              clear hb2
              have q0_2 := cbk HK2.out 0 (.slice pa C.parts.length pc) rfl
              have q1_2 := cbk HK2.out 1 (.slice (some ⟨g, o, none⟩) C.chans.length cc) rfl
              have q2_2 := cbk HK2.out 2 (.int .i64 C.l0) rfl
              have q3_2 := cbk HK2.out 3 (.slice a0 C.w0.length c0) rfl
              have q4_2 := cbk HK2.out 4 (.int .i64 C.l1) rfl
              have q5_2 := cbk HK2.out 5 (.slice a1 C.w1.length c1) rfl
              have lq_2 := blk_lt HK2.out
              have e1_2 : wb2.cell? ⟨g, o + k * 7 + 1, none⟩ = some (.int .i64 x.frm) := (HB2.out.cell (p := ⟨g, o + k * 7 + 1, none⟩) hg).trans (HCU.out 1 (by omega))
              have e2_2 : wb2.cell? ⟨g, o + k * 7 + 2, none⟩ = some (.int .i64 x.to) := (HB2.out.cell (p := ⟨g, o + k * 7 + 2, none⟩) hg).trans (HCU.out 2 (by omega))
              have lb_2 := HB2.out.size
              have lg_2 : g < wb2.heap.size := by omega
              go_wp2_with fail
              refine (rdest_any _ C hsm k _ (HC.out.below HB2.out)).mono ?_
              rintro e wb3 ⟨rfl, hb3⟩
              have HB3 := Kp.mk (below_call HB2.out hb3)
              have HK3 := Kp.mk (blk_below HK2.out hb3)
              clear hb3
              have q0_3 := cbk HK3.out 0 (.slice pa C.parts.length pc) rfl
              have q1_3 := cbk HK3.out 1 (.slice (some ⟨g, o, none⟩) C.chans.length cc) rfl
              have q2_3 := cbk HK3.out 2 (.int .i64 C.l0) rfl
              have q3_3 := cbk HK3.out 3 (.slice a0 C.w0.length c0) rfl
              have q4_3 := cbk HK3.out 4 (.int .i64 C.l1) rfl
              have q5_3 := cbk HK3.out 5 (.slice a1 C.w1.length c1) rfl
              have lq_3 := blk_lt HK3.out
              have e1_3 : wb3.cell? ⟨g, o + k * 7 + 1, none⟩ = some (.int .i64 x.frm) := (HB3.out.cell (p := ⟨g, o + k * 7 + 1, none⟩) hg).trans (HCU.out 1 (by omega))
              have e2_3 : wb3.cell? ⟨g, o + k * 7 + 2, none⟩ = some (.int .i64 x.to) := (HB3.out.cell (p := ⟨g, o + k * 7 + 2, none⟩) hg).trans (HCU.out 2 (by omega))
              have lb_3 := HB3.out.size
              have lg_3 : g < wb3.heap.size := by omega
              go_wp2_with fail
              refine (rhasS_any (dstB C k) a true HD.out _).mono ?_
              rintro e wb4 ⟨rfl, hb4⟩
              have HB4 := Kp.mk (below_call HB3.out hb4)
              have HK4 := Kp.mk (blk_below HK3.out hb4)
              clear hb4
              have q0_4 := cbk HK4.out 0 (.slice pa C.parts.length pc) rfl
              have q1_4 := cbk HK4.out 1 (.slice (some ⟨g, o, none⟩) C.chans.length cc) rfl
              have q2_4 := cbk HK4.out 2 (.int .i64 C.l0) rfl
              have q3_4 := cbk HK4.out 3 (.slice a0 C.w0.length c0) rfl
              have q4_4 := cbk HK4.out 4 (.int .i64 C.l1) rfl
              have q5_4 := cbk HK4.out 5 (.slice a1 C.w1.length c1) rfl
              have lq_4 := blk_lt HK4.out
              have e1_4 : wb4.cell? ⟨g, o + k * 7 + 1, none⟩ = some (.int .i64 x.frm) := (HB4.out.cell (p := ⟨g, o + k * 7 + 1, none⟩) hg).trans (HCU.out 1 (by omega))
              have e2_4 : wb4.cell? ⟨g, o + k * 7 + 2, none⟩ = some (.int .i64 x.to) := (HB4.out.cell (p := ⟨g, o + k * 7 + 2, none⟩) hg).trans (HCU.out 2 (by omega))
              have lb_4 := HB4.out.size
              have lg_4 : g < wb4.heap.size := by omega
              go_wp2
              go_ret
              exact ⟨ret_bool (by rw [HM.out, mayTo_yes HKK.out hlt]), HB4.out⟩
            | false =>
              have HS := Kp.mk hs
              clear hs
              have HD := Kp.mk hd
              clear hd
              have HKK : Kp (mayK C p a k = false) := ⟨by rw [mayK, HXG.out, hf1, HS.out, ht1, HD.out]; simp⟩
              go_wp2_with fail
              refine (rsource0_any _ C hsm k _ (HC.out.below HB.out)).mono ?_
              rintro e wb1 ⟨rfl, hb1⟩
              have HB1 := Kp.mk (below_call HB.out hb1)
              have HK1 := Kp.mk (blk_below HK.out hb1)
              clear hb1
              have q0_1 := cbk HK1.out 0 (.slice pa C.parts.length pc) rfl
              have q1_1 := cbk HK1.out 1 (.slice (some ⟨g, o, none⟩) C.chans.length cc) rfl
              have q2_1 := cbk HK1.out 2 (.int .i64 C.l0) rfl
              have q3_1 := cbk HK1.out 3 (.slice a0 C.w0.length c0) rfl
              have q4_1 := cbk HK1.out 4 (.int .i64 C.l1) rfl
              have q5_1 := cbk HK1.out 5 (.slice a1 C.w1.length c1) rfl
              have lq_1 := blk_lt HK1.out
              have e1_1 : wb1.cell? ⟨g, o + k * 7 + 1, none⟩ = some (.int .i64 x.frm) := (HB1.out.cell (p := ⟨g, o + k * 7 + 1, none⟩) hg).trans (HCU.out 1 (by omega))
              have e2_1 : wb1.cell? ⟨g, o + k * 7 + 2, none⟩ = some (.int .i64 x.to) := (HB1.out.cell (p := ⟨g, o + k * 7 + 2, none⟩) hg).trans (HCU.out 2 (by omega))
              have lb_1 := HB1.out.size
              have lg_1 : g < wb1.heap.size := by omega
              go_wp2_with fail
              refine (rhasS_any (srcB C k) a false HS.out _).mono ?_
              rintro e wb2 ⟨rfl, hb2⟩
              have HB2 := Kp.mk (below_call HB1.out hb2)
              have HK2 := Kp.mk (blk_below HK1.out hb2)
              clear hb2
              have q0_2 := cbk HK2.out 0 (.slice pa C.parts.length pc) rfl
              have q1_2 := cbk HK2.out 1 (.slice (some ⟨g, o, none⟩) C.chans.length cc) rfl
              have q2_2 := cbk HK2.out 2 (.int .i64 C.l0) rfl
              have q3_2 := cbk HK2.out 3 (.slice a0 C.w0.length c0) rfl
              have q4_2 := cbk HK2.out 4 (.int .i64 C.l1) rfl
              have q5_2 := cbk HK2.out 5 (.slice a1 C.w1.length c1) rfl
              have lq_2 := blk_lt HK2.out
              have e1_2 : wb2.cell? ⟨g, o + k * 7 + 1, none⟩ = some (.int .i64 x.frm) := (HB2.out.cell (p := ⟨g, o + k * 7 + 1, none⟩) hg).trans (HCU.out 1 (by omega))
              have e2_2 : wb2.cell? ⟨g, o + k * 7 + 2, none⟩ = some (.int .i64 x.to) := (HB2.out.cell (p := ⟨g, o + k * 7 + 2, none⟩) hg).trans (HCU.out 2 (by omega))
              have lb_2 := HB2.out.size
              have lg_2 : g < wb2.heap.size := by omega
              go_wp2_with fail
              refine (rdest_any _ C hsm k _ (HC.out.below HB2.out)).mono ?_
              rintro e wb3 ⟨rfl, hb3⟩
              have HB3 := Kp.mk (below_call HB2.out hb3)
              have HK3 := Kp.mk (blk_below HK2.out hb3)
              clear hb3
              have q0_3 := cbk HK3.out 0 (.slice pa C.parts.length pc) rfl
              have q1_3 := cbk HK3.out 1 (.slice (some ⟨g, o, none⟩) C.chans.length cc) rfl
              have q2_3 := cbk HK3.out 2 (.int .i64 C.l0) rfl
              have q3_3 := cbk HK3.out 3 (.slice a0 C.w0.length c0) rfl
              have q4_3 := cbk HK3.out 4 (.int .i64 C.l1) rfl
              have q5_3 := cbk HK3.out 5 (.slice a1 C.w1.length c1) rfl
              have lq_3 := blk_lt HK3.out
              have e1_3 : wb3.cell? ⟨g, o + k * 7 + 1, none⟩ = some (.int .i64 x.frm) := (HB3.out.cell (p := ⟨g, o + k * 7 + 1, none⟩) hg).trans (HCU.out 1 (by omega))
              have e2_3 : wb3.cell? ⟨g, o + k * 7 + 2, none⟩ = some (.int .i64 x.to) := (HB3.out.cell (p := ⟨g, o + k * 7 + 2, none⟩) hg).trans (HCU.out 2 (by omega))
              have lb_3 := HB3.out.size
              have lg_3 : g < wb3.heap.size := by omega
              go_wp2_with fail
              refine (rhasS_any (dstB C k) a false HD.out _).mono ?_
              rintro e wb4 ⟨rfl, hb4⟩
              have HB4 := Kp.mk (below_call HB3.out hb4)
              have HK4 := Kp.mk (blk_below HK3.out hb4)
              clear hb4
              have q0_4 := cbk HK4.out 0 (.slice pa C.parts.length pc) rfl
              have q1_4 := cbk HK4.out 1 (.slice (some ⟨g, o, none⟩) C.chans.length cc) rfl
              have q2_4 := cbk HK4.out 2 (.int .i64 C.l0) rfl
              have q3_4 := cbk HK4.out 3 (.slice a0 C.w0.length c0) rfl
              have q4_4 := cbk HK4.out 4 (.int .i64 C.l1) rfl
              have q5_4 := cbk HK4.out 5 (.slice a1 C.w1.length c1) rfl
              have lq_4 := blk_lt HK4.out
              have e1_4 : wb4.cell? ⟨g, o + k * 7 + 1, none⟩ = some (.int .i64 x.frm) := (HB4.out.cell (p := ⟨g, o + k * 7 + 1, none⟩) hg).trans (HCU.out 1 (by omega))
              have e2_4 : wb4.cell? ⟨g, o + k * 7 + 2, none⟩ = some (.int .i64 x.to) := (HB4.out.cell (p := ⟨g, o + k * 7 + 2, none⟩) hg).trans (HCU.out 2 (by omega))
              have lb_4 := HB4.out.size
              have lg_4 : g < wb4.heap.size := by omega
              go_wp2
              go_roundw
              case rel => exact ⟨k + 1, by omega, by go_num, HB4, HK4, ⟨by rw [mayTo_succ, HT.out, HKK.out]; rfl⟩⟩
              case measure => simp [intOf]; omega
          · have ht1 : (x.to == p) = false := by simpa using ht
            have HS := Kp.mk hs
            clear hs
            have HKK : Kp (mayK C p a k = false) := ⟨by rw [mayK, HXG.out, hf1, HS.out, ht1]; simp⟩
            go_wp2_with fail
            refine (rsource0_any _ C hsm k _ (HC.out.below HB.out)).mono ?_
            rintro e wb1 ⟨rfl, hb1⟩
            have HB1 := Kp.mk (below_call HB.out hb1)
            have HK1 := Kp.mk (blk_below HK.out hb1)
            clear hb1
            have q0_1 := cbk HK1.out 0 (.slice pa C.parts.length pc) rfl
            have q1_1 := cbk HK1.out 1 (.slice (some ⟨g, o, none⟩) C.chans.length cc) rfl
            have q2_1 := cbk HK1.out 2 (.int .i64 C.l0) rfl
            have q3_1 := cbk HK1.out 3 (.slice a0 C.w0.length c0) rfl
            have q4_1 := cbk HK1.out 4 (.int .i64 C.l1) rfl
            have q5_1 := cbk HK1.out 5 (.slice a1 C.w1.length c1) rfl
            have lq_1 := blk_lt HK1.out
            have e1_1 : wb1.cell? ⟨g, o + k * 7 + 1, none⟩ = some (.int .i64 x.frm) := (HB1.out.cell (p := ⟨g, o + k * 7 + 1, none⟩) hg).trans (HCU.out 1 (by omega))
            have e2_1 : wb1.cell? ⟨g, o + k * 7 + 2, none⟩ = some (.int .i64 x.to) := (HB1.out.cell (p := ⟨g, o + k * 7 + 2, none⟩) hg).trans (HCU.out 2 (by omega))
            have lb_1 := HB1.out.size
            have lg_1 : g < wb1.heap.size := by omega
            go_wp2_with fail
            refine (rhasS_any (srcB C k) a false HS.out _).mono ?_
            rintro e wb2 ⟨rfl, hb2⟩
            have HB2 := Kp.mk (below_call HB1.out hb2)
            have HK2 := Kp.mk (blk_below HK1.out hb2)
            clear hb2
            have q0_2 := cbk HK2.out 0 (.slice pa C.parts.length pc) rfl
            have q1_2 := cbk HK2.out 1 (.slice (some ⟨g, o, none⟩) C.chans.length cc) rfl
            have q2_2 := cbk HK2.out 2 (.int .i64 C.l0) rfl
            have q3_2 := cbk HK2.out 3 (.slice a0 C.w0.length c0) rfl
            have q4_2 := cbk HK2.out 4 (.int .i64 C.l1) rfl
            have q5_2 := cbk HK2.out 5 (.slice a1 C.w1.length c1) rfl
            have lq_2 := blk_lt HK2.out
            have e1_2 : wb2.cell? ⟨g, o + k * 7 + 1, none⟩ = some (.int .i64 x.frm) := (HB2.out.cell (p := ⟨g, o + k * 7 + 1, none⟩) hg).trans (HCU.out 1 (by omega))
            have e2_2 : wb2.cell? ⟨g, o + k * 7 + 2, none⟩ = some (.int .i64 x.to) := (HB2.out.cell (p := ⟨g, o + k * 7 + 2, none⟩) hg).trans (HCU.out 2 (by omega))
            have lb_2 := HB2.out.size
            have lg_2 : g < wb2.heap.size := by omega
            go_wp2
            go_roundw
            case rel => exact ⟨k + 1, by omega, by go_num, HB2, HK2, ⟨by rw [mayTo_succ, HT.out, HKK.out]; rfl⟩⟩
            case measure => simp [intOf]; omega
      · have hf1 : (x.frm == p) = false := by simpa using hf
        by_cases ht : x.to = p
        · have ht1 : (x.to == p) = true := by simpa using ht
          cases hd : hasS (dstB C k) a with
          | true =>
            have HD := Kp.mk hd
            clear hd
            have HKK : Kp (mayK C p a k = true) := ⟨by rw [mayK, HXG.out, hf1, ht1, HD.out]; simp⟩
            go_wp2_with fail
            refine (rdest_any _ C hsm k _ (HC.out.below HB.out)).mono ?_
            rintro e wb1 ⟨rfl, hb1⟩
            have HB1 := Kp.mk (below_call HB.out hb1)
            have HK1 := Kp.mk (blk_below HK.out hb1)
            clear hb1
            have q0_1 := cbk HK1.out 0 (.slice pa C.parts.length pc) rfl
            have q1_1 := cbk HK1.out 1 (.slice (some ⟨g, o, none⟩) C.chans.length cc) rfl
            have q2_1 := cbk HK1.out 2 (.int .i64 C.l0) rfl
            have q3_1 := cbk HK1.out 3 (.slice a0 C.w0.length c0) rfl
            have q4_1 := cbk HK1.out 4 (.int .i64 C.l1) rfl
            have q5_1 := cbk HK1.out 5 (.slice a1 C.w1.length c1) rfl
            have lq_1 := blk_lt HK1.out
            have e1_1 : wb1.cell? ⟨g, o + k * 7 + 1, none⟩ = some (.int .i64 x.frm) := (HB1.out.cell (p := ⟨g, o + k * 7 + 1, none⟩) hg).trans (HCU.out 1 (by omega))
            have e2_1 : wb1.cell? ⟨g, o + k * 7 + 2, none⟩ = some (.int .i64 x.to) := (HB1.out.cell (p := ⟨g, o + k * 7 + 2, none⟩) hg).trans (HCU.out 2 (by omega))
            have lb_1 := HB1.out.size
            have lg_1 : g < wb1.heap.size := by omega
            go_wp2_with fail
            refine (rhasS_any (dstB C k) a true HD.out _).mono ?_
            rintro e wb2 ⟨rfl, hb2⟩
            have HB2 := Kp.mk (below_call HB1.out hb2)
            have HK2 := Kp.mk (blk_below HK1.out hb2)
            clear hb2
            have q0_2 := cbk HK2.out 0 (.slice pa C.parts.length pc) rfl
            have q1_2 := cbk HK2.out 1 (.slice (some ⟨g, o, none⟩) C.chans.length cc) rfl
            have q2_2 := cbk HK2.out 2 (.int .i64 C.l0) rfl
            have q3_2 := cbk HK2.out 3 (.slice a0 C.w0.length c0) rfl
            have q4_2 := cbk HK2.out 4 (.int .i64 C.l1) rfl
            have q5_2 := cbk HK2.out 5 (.slice a1 C.w1.length c1) rfl
            have lq_2 := blk_lt HK2.out
            have e1_2 : wb2.cell? ⟨g, o + k * 7 + 1, none⟩ = some (.int .i64 x.frm) := (HB2.out.cell (p := ⟨g, o + k * 7 + 1, none⟩) hg).trans (HCU.out 1 (by omega))
            have e2_2 : wb2.cell? ⟨g, o + k * 7 + 2, none⟩ = some (.int .i64 x.to) := (HB2.out.cell (p := ⟨g, o + k * 7 + 2, none⟩) hg).trans (HCU.out 2 (by omega))
            have lb_2 := HB2.out.size
            have lg_2 : g < wb2.heap.size := by omega
            go_wp2
            go_ret
            exact ⟨ret_bool (by rw [HM.out, mayTo_yes HKK.out hlt]), HB2.out⟩
          | false =>
            have HD := Kp.mk hd
            clear hd
            have HKK : Kp (mayK C p a k = false) := ⟨by rw [mayK, HXG.out, hf1, ht1, HD.out]; simp⟩
            go_wp2_with fail
            refine (rdest_any _ C hsm k _ (HC.out.below HB.out)).mono ?_
            rintro e wb1 ⟨rfl, hb1⟩
            have HB1 := Kp.mk (below_call HB.out hb1)
            have HK1 := Kp.mk (blk_below HK.out hb1)
            clear hb1
            have q0_1 := cbk HK1.out 0 (.slice pa C.parts.length pc) rfl
            have q1_1 := cbk HK1.out 1 (.slice (some ⟨g, o, none⟩) C.chans.length cc) rfl
            have q2_1 := cbk HK1.out 2 (.int .i64 C.l0) rfl
            have q3_1 := cbk HK1.out 3 (.slice a0 C.w0.length c0) rfl
            have q4_1 := cbk HK1.out 4 (.int .i64 C.l1) rfl
            have q5_1 := cbk HK1.out 5 (.slice a1 C.w1.length c1) rfl
            have lq_1 := blk_lt HK1.out
            have e1_1 : wb1.cell? ⟨g, o + k * 7 + 1, none⟩ = some (.int .i64 x.frm) := (HB1.out.cell (p := ⟨g, o + k * 7 + 1, none⟩) hg).trans (HCU.out 1 (by omega))
            have e2_1 : wb1.cell? ⟨g, o + k * 7 + 2, none⟩ = some (.int .i64 x.to) := (HB1.out.cell (p := ⟨g, o + k * 7 + 2, none⟩) hg).trans (HCU.out 2 (by omega))
            have lb_1 := HB1.out.size
            have lg_1 : g < wb1.heap.size := by omega
            go_wp2_with fail
            refine (rhasS_any (dstB C k) a false HD.out _).mono ?_
            rintro e wb2 ⟨rfl, hb2⟩
            have HB2 := Kp.mk (below_call HB1.out hb2)
            have HK2 := Kp.mk (blk_below HK1.out hb2)
            clear hb2
            have q0_2 := cbk HK2.out 0 (.slice pa C.parts.length pc) rfl
            have q1_2 := cbk HK2.out 1 (.slice (some ⟨g, o, none⟩) C.chans.length cc) rfl
            have q2_2 := cbk HK2.out 2 (.int .i64 C.l0) rfl
            have q3_2 := cbk HK2.out 3 (.slice a0 C.w0.length c0) rfl
            have q4_2 := cbk HK2.out 4 (.int .i64 C.l1) rfl
            have q5_2 := cbk HK2.out 5 (.slice a1 C.w1.length c1) rfl
            have lq_2 := blk_lt HK2.out
            have e1_2 : wb2.cell? ⟨g, o + k * 7 + 1, none⟩ = some (.int .i64 x.frm) := (HB2.out.cell (p := ⟨g, o + k * 7 + 1, none⟩) hg).trans (HCU.out 1 (by omega))
            have e2_2 : wb2.cell? ⟨g, o + k * 7 + 2, none⟩ = some (.int .i64 x.to) := (HB2.out.cell (p := ⟨g, o + k * 7 + 2, none⟩) hg).trans (HCU.out 2 (by omega))
            have lb_2 := HB2.out.size
            have lg_2 : g < wb2.heap.size := by omega
            go_wp2
            go_roundw
            case rel => exact ⟨k + 1, by omega, by go_num, HB2, HK2, ⟨by rw [mayTo_succ, HT.out, HKK.out]; rfl⟩⟩
            case measure => simp [intOf]; omega
        · have ht1 : (x.to == p) = false := by simpa using ht
          have HKK : Kp (mayK C p a k = false) := ⟨by rw [mayK, HXG.out, hf1, ht1]; simp⟩
          go_wp2
          go_roundw
          case rel => exact ⟨k + 1, by omega, by go_num, HB, HK, ⟨by rw [mayTo_succ, HT.out, HKK.out]; rfl⟩⟩
          case measure => simp [intOf]; omega
    · obtain rfl : k = C.chans.length := by omega
      have q0 := cbk HK.out 0 (.slice pa C.parts.length pc) rfl
      have q1 := cbk HK.out 1 (.slice ca C.chans.length cc) rfl
      have lq := blk_lt HK.out
      go_wp2
      go_ret
      exact ⟨ret_bool (by rw [HM.out, HT.out]), HB.out⟩
theorem rmay_any (cv : Value) (C : Cfg) (hsm : C.small) (p a : Int) (w : World) (h : CfgAt w cv C) : Calls Tryz.prog 18 #[cv, .int .i64 p, .int .i64 a] w fun e w' => e = .returned (.bool (mayB C p a)) ∧ Below w.heap.size w w' := by
  cases hh : hasS (privB C p) a with
  | true => exact rmay_priv cv C hsm p a hh w h
  | false => exact rmay_rest cv C hsm p a hh w h
end Go.Proofs.YtmidcnfmphlneaaGreat

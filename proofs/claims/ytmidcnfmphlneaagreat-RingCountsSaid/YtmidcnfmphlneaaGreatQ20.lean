/- Contracts of the layout's reference.; Contracts of the layout's reference: spans.; Layer 12's play: the configuration; what a play is in memory; the size of a message; a play begins. -/
import Derived.Test.YtmidcnfmphlneaaGreatQ11
import Derived.Test.YtmidcnfmphlneaaGreatQ19
import Derived.Test.YtmidcnfmphlneaaGreatQ16
namespace Go.Proofs.YtmidcnfmphlneaaGreat
section
open Go.RowKit
set_option linter.unusedSimpArgs false
set_option linter.unusedVariables false
set_option maxHeartbeats 400000 in
theorem rsource_any (x : Chn) (h1 : 1 ≤ x.words) (h2 : x.words ≤ 16) (h3 : 0 ≤ x.depth) (h4 : x.depth ≤ 8) (w : World) : Calls Tryz.prog 77 #[.agg #[.int .i64 x.kind, .int .i64 x.frm, .int .i64 x.to, .int .i64 x.words, .int .i64 x.depth, .int .i64 x.period, .int .u32 x.boot]] w fun e w' => e = .returned (.int .i64 (sizedC x)) ∧ Below w.heap.size w w' := by
  obtain ⟨kd, fr, to, wd, dp, pe, bo⟩ := x
  dsimp only at h1 h2 h3 h4
  by_cases hk : kd = 1
  · have HS : Kp (sizedC ⟨kd, fr, to, wd, dp, pe, bo⟩ = 3 + 4 * (2 + wd)) := ⟨if_pos hk⟩
    have s2 : IntKind.i64.wrap (4 * wd) = 4 * wd := IntWalk.i64_in _ (by omega)
    have s3 : IntKind.i64.wrap (11 + 4 * wd) = 11 + 4 * wd := IntWalk.i64_in _ (by omega)
    subst hk
    go_enter Tryz.func77, Tryz.ntmps77
    go_wp2
    go_ret
    exact ⟨ret_int (by rw [HS.out]; omega), (by repeat (first | exact Below.refl _ _ | apply below_al))⟩
  · have HS : Kp (sizedC ⟨kd, fr, to, wd, dp, pe, bo⟩ = 1 + dp * (1 + wd)) := ⟨if_neg hk⟩
    have hk' : (kd == 1) = false := by simpa using hk
    obtain ⟨m, hm⟩ : ∃ m, dp * wd = m := ⟨_, rfl⟩
    have hm1 : 0 ≤ m := hm ▸ Int.mul_nonneg h3 (by omega)
    have hm2 : m ≤ 8 * 16 := hm ▸ Int.mul_le_mul h4 (by omega) (by omega) (by omega)
    have HS2 : Kp (sizedC ⟨kd, fr, to, wd, dp, pe, bo⟩ = 1 + dp + m) := ⟨by rw [HS.out, Int.mul_add, hm]; omega⟩
    have s1 : IntKind.i64.wrap (1 + dp) = 1 + dp := IntWalk.i64_in _ (by omega)
    have s2 : IntKind.i64.wrap (dp * wd) = m := by rw [hm]; exact IntWalk.i64_in _ (by omega)
    have s3 : IntKind.i64.wrap (1 + dp + m) = 1 + dp + m := IntWalk.i64_in _ (by omega)
    clear hm
    go_enter Tryz.func77, Tryz.ntmps77
    go_wp2
    go_ret
    exact ⟨ret_int HS2.out.symm, (by repeat (first | exact Below.refl _ _ | apply below_al))⟩
set_option maxRecDepth 100000 in
set_option maxHeartbeats 4000000 in
theorem rbefore_any (cv : Value) (C : Cfg) (hsm : C.small) (ha : accB C = true) (k : Nat) (hk : k ≤ C.chans.length) (w : World) (h : CfgAt w cv C) : Calls Tryz.prog 43 #[cv, .int .i64 k] w fun e w' => e = .returned (.int .i64 (befC C k)) ∧ Below w.heap.size w w' := by
  have hs1 := hsm.1
  have hs2 := hsm.2.1
  obtain ⟨ho, pa, pc, ca, cc, a0, c0, a1, c1, rfl, bp, bc, b0, b1, hp, hc, hw0, hw1⟩ := h
  have HP := Kp.mk hp
  have HCH := Kp.mk hc
  clear hp hc hw0 hw1 ho
  go_enter Tryz.func43, Tryz.ntmps43
  go_wp2_with fail
  go_loopw [5, 6] (fun n i wr => ∃ j : Nat, j ≤ C.parts.length ∧ i = .int .i64 j ∧ n = .int .i64 (privS C j) ∧ Kp (Below w.heap.size w wr) ∧ Kp (wr.heap[w.heap.size]? = some (.cells #[.slice pa C.parts.length pc, .slice ca C.chans.length cc, .int .i64 C.l0, .slice a0 C.w0.length c0, .int .i64 C.l1, .slice a1 C.w1.length c1] 31 (0, 0)))) (fun n i wr => C.parts.length - (intOf i).toNat)
  case atStart => exact ⟨0, Nat.zero_le _, rfl, rfl, ⟨below_al (Below.refl _ _) _⟩, ⟨blk_new w _⟩⟩
  case round =>
    obtain ⟨j, hj, rfl, rfl, HB, HK⟩ := hrel
    have q0 := cbk HK.out 0 (.slice pa C.parts.length pc) rfl
    have q1 := cbk HK.out 1 (.slice ca C.chans.length cc) rfl
    have lq := blk_lt HK.out
    by_cases hlt : j < C.parts.length
    · have HNS := Kp.mk (privS_succ C j hlt)
      have hps := privS_small ha j
      have hps2 := part_small ha j hlt
      obtain ⟨g, o, ha', hg, hcc⟩ := HP.out.at (by omega)
      obtain ⟨x, hx⟩ : ∃ x, C.parts[j] = x := ⟨_, rfl⟩
      have e1 : wr.cell? ⟨g, o + j * 2 + 1, none⟩ = some (.int .i64 x.2) := by
        have h1 := hcc (j * 2 + 1) (by omega)
        rw [flat_at partC 2 partC_len C.parts j 1 (by omega) (by omega), hx] at h1
        exact (HB.out.cell (p := ⟨g, o + (j * 2 + 1), none⟩) hg).trans h1
      subst ha'
      rw [hx] at HNS hps2
      obtain ⟨ps, hps'⟩ : ∃ ps, privS C j = ps := ⟨_, rfl⟩
      rw [hps'] at hps ⊢
      have HPS := Kp.mk hps'
      have hgr : g < wr.heap.size := Nat.lt_of_lt_of_le hg HB.out.size
      clear hcc hx hps'
      go_wp2
      go_roundw
      case rel => exact ⟨j + 1, by omega, by go_num, by rw [HNS.out, HPS.out], HB, HK⟩
      case measure => simp [intOf]; omega
    · obtain rfl : j = C.parts.length := by omega
      obtain ⟨wo, rfl⟩ : ∃ wo : World, wo = wr := ⟨_, rfl⟩
      have hzero : befC C 0 = privS C C.parts.length := by simp [befC]
      rw [← hzero]
      clear hzero
      go_wp2_with fail
      go_loopw [5, 7] (fun n i wr => ∃ m : Nat, m ≤ k ∧ i = .int .i64 m ∧ n = .int .i64 (befC C m) ∧ Kp (Below w.heap.size w wr) ∧ Kp (wr.heap[w.heap.size]? = some (.cells #[.slice pa C.parts.length pc, .slice ca C.chans.length cc, .int .i64 C.l0, .slice a0 C.w0.length c0, .int .i64 C.l1, .slice a1 C.w1.length c1] 31 (0, 0)))) (fun n i wr => k - (intOf i).toNat)
      case atStart => exact ⟨0, Nat.zero_le _, rfl, rfl, HB, HK⟩
      case round =>
        clear HB HK q0 q1 lq
        obtain ⟨m, hm, rfl, rfl, HB, HK⟩ := hrel
        have q0 := cbk HK.out 0 (.slice pa C.parts.length pc) rfl
        have q1 := cbk HK.out 1 (.slice ca C.chans.length cc) rfl
        have lq := blk_lt HK.out
        by_cases hlt2 : m < k
        · have hml : m < C.chans.length := by omega
          have HNS := Kp.mk (befC_succ C m hml)
          have hps := befC_small ha m
          have hcs := chn_small ha (List.getElem_mem hml)
          obtain ⟨g, o, ha', hg, hcc⟩ := HCH.out.at (by omega)
          obtain ⟨x, hx⟩ : ∃ x, C.chans[m] = x := ⟨_, rfl⟩
          have hcu : ∀ j, j < 7 → wr.cell? ⟨g, o + m * 7 + j, none⟩ = (chanC x)[j]? := fun j hj => by
            have h1 := hcc (m * 7 + j) (by omega)
            rw [flat_at chanC 7 chanC_len C.chans m j hml hj, hx] at h1
            rw [Nat.add_assoc]
            exact (HB.out.cell (p := ⟨g, o + (m * 7 + j), none⟩) hg).trans h1
          have e0 : wr.cell? ⟨g, o + m * 7, none⟩ = some (.int .i64 x.kind) := hcu 0 (by omega)
          have e1 : wr.cell? ⟨g, o + m * 7 + 1, none⟩ = some (.int .i64 x.frm) := hcu 1 (by omega)
          have e2 : wr.cell? ⟨g, o + m * 7 + 2, none⟩ = some (.int .i64 x.to) := hcu 2 (by omega)
          have e3 : wr.cell? ⟨g, o + m * 7 + 3, none⟩ = some (.int .i64 x.words) := hcu 3 (by omega)
          have e4 : wr.cell? ⟨g, o + m * 7 + 4, none⟩ = some (.int .i64 x.depth) := hcu 4 (by omega)
          have e5 : wr.cell? ⟨g, o + m * 7 + 5, none⟩ = some (.int .i64 x.period) := hcu 5 (by omega)
          have e6 : wr.cell? ⟨g, o + m * 7 + 6, none⟩ = some (.int .u32 x.boot) := hcu 6 (by omega)
          rw [hx] at HNS hcs
          subst ha'
          obtain ⟨ps, hps'⟩ : ∃ ps, befC C m = ps := ⟨_, rfl⟩
          rw [hps'] at hps ⊢
          have HPS := Kp.mk hps'
          have hgr : g < wr.heap.size := Nat.lt_of_lt_of_le hg HB.out.size
          have hm0 : (0 : Int) ≤ (m : Int) := by omega
          have hm1 : (m : Int) < (C.chans.length : Int) := by omega
          clear hcc hcu hx hps'
          go_wp2_with fail
          refine (rsource_any x (by omega) (by omega) (by omega) (by omega) _).mono ?_
          rintro e w3 ⟨rfl, hb3⟩
          have HB3 := Kp.mk (below_call HB.out hb3)
          have HK3 := Kp.mk (blk_below HK.out hb3)
          clear hb3 HB HK q0 q1 lq e0 e1 e2 e3 e4 e5 e6
          obtain ⟨sz, hszd⟩ : ∃ sz, sizedC x = sz := ⟨_, rfl⟩
          rw [hszd] at HNS hcs ⊢
          clear hszd
          go_wp2
          go_roundw
          case rel => exact ⟨m + 1, by omega, by go_num, by rw [HNS.out, HPS.out]; congr 1; omega, HB3, HK3⟩
          case measure => simp [intOf]; omega
        · obtain rfl : m = k := by omega
          go_wp2
          go_ret
          exact ⟨rfl, HB.out⟩
set_option maxRecDepth 100000 in
set_option maxHeartbeats 4000000 in
theorem rsize_yes (cv : Value) (C : Cfg) (hsm : C.small) (ha : accB C = true) (w : World) (h : CfgAt w cv C) : Calls Tryz.prog 14 #[cv] w fun e w' => e = .returned (.int .i64 (planE C)) ∧ Below w.heap.size w w' := by
  have HC := Kp.mk h
  have HE := Kp.mk (planE_acc C ha)
  obtain ⟨ho, pa, pc, ca, cc, a0, c0, a1, c1, rfl, bp, bc, b0, b1, hp, hc, hw0, hw1⟩ := h
  clear ho hp hc hw0 hw1
  go_enter Tryz.func14, Tryz.ntmps14
  have HB0 : Kp (Below w.heap.size w w) := ⟨Below.refl _ _⟩
  go_wp2_with fail
  refine (refAccepts_any _ C hsm _ (HC.out.below (below_al HB0.out _))).mono ?_
  rw [ha]
  rintro e w1 ⟨rfl, hb⟩
  have q1 : Kp (w1.heap[w.heap.size]? = some (.cells #[.slice pa C.parts.length pc, .slice ca C.chans.length cc, .int .i64 C.l0, .slice a0 C.w0.length c0, .int .i64 C.l1, .slice a1 C.w1.length c1] 31 (0, 0))) := ⟨blk_below (blk_new _ _) hb⟩
  have HB1 : Kp (Below w.heap.size w w1) := ⟨below_call (below_al HB0.out _) hb⟩
  clear HB0 hb
  have qc0 := cbk q1.out 0 (.slice pa C.parts.length pc) rfl
  have qc1 := cbk q1.out 1 (.slice ca C.chans.length cc) rfl
  have qc2 := cbk q1.out 2 (.int .i64 C.l0) rfl
  have qc3 := cbk q1.out 3 (.slice a0 C.w0.length c0) rfl
  have qc4 := cbk q1.out 4 (.int .i64 C.l1) rfl
  have qc5 := cbk q1.out 5 (.slice a1 C.w1.length c1) rfl
  have ql := blk_lt q1.out
  go_wp2_with fail
  refine (rbefore_any _ C hsm ha C.chans.length (Nat.le_refl _) _ (HC.out.below HB1.out)).mono ?_
  rintro e w2 ⟨rfl, hb⟩
  have q2 : Kp (w2.heap[w.heap.size]? = some (.cells #[.slice pa C.parts.length pc, .slice ca C.chans.length cc, .int .i64 C.l0, .slice a0 C.w0.length c0, .int .i64 C.l1, .slice a1 C.w1.length c1] 31 (0, 0))) := ⟨blk_below q1.out hb⟩
  have HB2 : Kp (Below w.heap.size w w2) := ⟨below_call HB1.out hb⟩
  clear qc0 qc1 qc2 qc3 qc4 qc5 ql q1 HB1 hb
  have qc0 := cbk q2.out 0 (.slice pa C.parts.length pc) rfl
  have qc1 := cbk q2.out 1 (.slice ca C.chans.length cc) rfl
  have qc2 := cbk q2.out 2 (.int .i64 C.l0) rfl
  have qc3 := cbk q2.out 3 (.slice a0 C.w0.length c0) rfl
  have qc4 := cbk q2.out 4 (.int .i64 C.l1) rfl
  have qc5 := cbk q2.out 5 (.slice a1 C.w1.length c1) rfl
  have ql := blk_lt q2.out
  go_wp2
  go_ret
  exact ⟨(by rw [HE.out]; rfl), HB2.out⟩
set_option maxRecDepth 100000 in
set_option maxHeartbeats 4000000 in
theorem rsize_no (cv : Value) (C : Cfg) (hsm : C.small) (ha : accB C = false) (w : World) (h : CfgAt w cv C) : Calls Tryz.prog 14 #[cv] w fun e w' => e = .returned (.int .i64 (planE C)) ∧ Below w.heap.size w w' := by
  have HC := Kp.mk h
  have HE := Kp.mk (planE_no C ha)
  obtain ⟨ho, pa, pc, ca, cc, a0, c0, a1, c1, rfl, bp, bc, b0, b1, hp, hc, hw0, hw1⟩ := h
  clear ho hp hc hw0 hw1
  go_enter Tryz.func14, Tryz.ntmps14
  have HB0 : Kp (Below w.heap.size w w) := ⟨Below.refl _ _⟩
  go_wp2_with fail
  refine (refAccepts_any _ C hsm _ (HC.out.below (below_al HB0.out _))).mono ?_
  rw [ha]
  rintro e w1 ⟨rfl, hb⟩
  have q1 : Kp (w1.heap[w.heap.size]? = some (.cells #[.slice pa C.parts.length pc, .slice ca C.chans.length cc, .int .i64 C.l0, .slice a0 C.w0.length c0, .int .i64 C.l1, .slice a1 C.w1.length c1] 31 (0, 0))) := ⟨blk_below (blk_new _ _) hb⟩
  have HB1 : Kp (Below w.heap.size w w1) := ⟨below_call (below_al HB0.out _) hb⟩
  clear HB0 hb
  have qc0 := cbk q1.out 0 (.slice pa C.parts.length pc) rfl
  have qc1 := cbk q1.out 1 (.slice ca C.chans.length cc) rfl
  have qc2 := cbk q1.out 2 (.int .i64 C.l0) rfl
  have qc3 := cbk q1.out 3 (.slice a0 C.w0.length c0) rfl
  have qc4 := cbk q1.out 4 (.int .i64 C.l1) rfl
  have qc5 := cbk q1.out 5 (.slice a1 C.w1.length c1) rfl
  have ql := blk_lt q1.out
  go_wp2
  go_ret
  exact ⟨(by rw [HE.out]; rfl), HB1.out⟩
theorem rsize_any (cv : Value) (C : Cfg) (hsm : C.small) (w : World) (h : CfgAt w cv C) : Calls Tryz.prog 14 #[cv] w fun e w' => e = .returned (.int .i64 (planE C)) ∧ Below w.heap.size w w' := by
  cases ha : accB C with
  | true => exact rsize_yes cv C hsm ha w h
  | false => exact rsize_no cv C hsm ha w h
def chanB (C : Cfg) (k : Int) : Bool := decide (0 ≤ k ∧ k < C.chans.length) && accB C
theorem chanB_yes {C : Cfg} {k : Int} (h : chanB C k = true) : accB C = true ∧ 0 ≤ k ∧ k < C.chans.length := by
  rw [chanB, Bool.and_eq_true, decide_eq_true_iff] at h
  exact ⟨h.2, h.1⟩
theorem chanB_no {C : Cfg} {k : Int} (h : chanB C k = false) : ¬ (accB C = true ∧ 0 ≤ k ∧ k < C.chans.length) := fun hh => by
  rw [chanB, decide_eq_true hh.2, hh.1] at h; cases h
set_option maxRecDepth 100000 in
set_option maxHeartbeats 4000000 in
theorem rchannel_out (cv : Value) (C : Cfg) (hsm : C.small) (k : Int) (hk : ¬ (0 ≤ k ∧ k < C.chans.length)) (w : World) (h : CfgAt w cv C) : Calls Tryz.prog 79 #[cv, .int .i64 k] w fun e w' => e = .returned (.bool (chanB C k)) ∧ Below w.heap.size w w' := by
  have HC := Kp.mk h
  have HZ : Kp (chanB C k = false) := ⟨by rw [chanB, decide_eq_false hk]; rfl⟩
  obtain ⟨ho, pa, pc, ca, cc, a0, c0, a1, c1, rfl, bp, bc, b0, b1, hp, hc, hw0, hw1⟩ := h
  clear ho hp hc hw0 hw1
  by_cases h0 : 0 ≤ k
  · have h1 : decide (k < (C.chans.length : Int)) = false := decide_eq_false (by omega)
    clear hk
    go_enter Tryz.func79, Tryz.ntmps79
    go_wp2
    go_ret
    exact ⟨ret_bool (by rw [HZ.out]), (by repeat (first | exact Below.refl _ _ | apply below_al))⟩
  · have h1 : decide (0 ≤ k) = false := decide_eq_false h0
    clear hk
    go_enter Tryz.func79, Tryz.ntmps79
    go_wp2
    go_ret
    exact ⟨ret_bool (by rw [HZ.out]), (by repeat (first | exact Below.refl _ _ | apply below_al))⟩
set_option maxRecDepth 100000 in
set_option maxHeartbeats 4000000 in
theorem rchannel_in (cv : Value) (C : Cfg) (hsm : C.small) (k : Int) (hk : 0 ≤ k ∧ k < C.chans.length) (b : Bool) (hb : accB C = b) (w : World) (h : CfgAt w cv C) : Calls Tryz.prog 79 #[cv, .int .i64 k] w fun e w' => e = .returned (.bool (chanB C k)) ∧ Below w.heap.size w w' := by
  have HC := Kp.mk h
  have HZ : Kp (chanB C k = b) := ⟨by rw [chanB, decide_eq_true hk, hb]; rfl⟩
  have hk0 := hk.1
  have hk1 := hk.2
  have HAB := Kp.mk hb
  clear hb hk
  obtain ⟨ho, pa, pc, ca, cc, a0, c0, a1, c1, rfl, bp, bc, b0, b1, hp, hc, hw0, hw1⟩ := h
  clear ho hp hc hw0 hw1
  go_enter Tryz.func79, Tryz.ntmps79
  have HB0 : Kp (Below w.heap.size w w) := ⟨Below.refl _ _⟩
  go_wp2_with fail
  refine (refAccepts_any _ C hsm _ (HC.out.below (below_al HB0.out _))).mono ?_
  rw [HAB.out]
  rintro e w1 ⟨rfl, hb⟩
  have q1 : Kp (w1.heap[w.heap.size]? = some (.cells #[.slice pa C.parts.length pc, .slice ca C.chans.length cc, .int .i64 C.l0, .slice a0 C.w0.length c0, .int .i64 C.l1, .slice a1 C.w1.length c1] 31 (0, 0))) := ⟨blk_below (blk_new _ _) hb⟩
  have HB1 : Kp (Below w.heap.size w w1) := ⟨below_call (below_al HB0.out _) hb⟩
  clear HB0 hb
  have qc0 := cbk q1.out 0 (.slice pa C.parts.length pc) rfl
  have qc1 := cbk q1.out 1 (.slice ca C.chans.length cc) rfl
  have qc2 := cbk q1.out 2 (.int .i64 C.l0) rfl
  have qc3 := cbk q1.out 3 (.slice a0 C.w0.length c0) rfl
  have qc4 := cbk q1.out 4 (.int .i64 C.l1) rfl
  have qc5 := cbk q1.out 5 (.slice a1 C.w1.length c1) rfl
  have ql := blk_lt q1.out
  go_wp2
  go_ret
  exact ⟨ret_bool (by rw [HZ.out]), HB1.out⟩
theorem rchannel_any (cv : Value) (C : Cfg) (hsm : C.small) (k : Int) (w : World) (h : CfgAt w cv C) : Calls Tryz.prog 79 #[cv, .int .i64 k] w fun e w' => e = .returned (.bool (chanB C k)) ∧ Below w.heap.size w w' := by
  by_cases hk : 0 ≤ k ∧ k < C.chans.length
  · exact rchannel_in cv C hsm k hk _ rfl w h
  · exact rchannel_out cv C hsm k hk w h
end
section
open Go.RowKit
set_option linter.unusedSimpArgs false
set_option linter.unusedVariables false
set_option maxRecDepth 100000 in
set_option maxHeartbeats 4000000 in
theorem rsource0_no (cv : Value) (C : Cfg) (hsm : C.small) (k : Int) (hch : chanB C k = false) (w : World) (h : CfgAt w cv C) : Calls Tryz.prog 47 #[cv, .int .i64 k] w fun e w' => e = .returned (.agg #[.int .i64 (srcB C k).1, .int .i64 (srcB C k).2]) ∧ Below w.heap.size w w' := by
  have HC := Kp.mk h
  have HZ := Kp.mk (srcB_no C k (chanB_no hch))
  have HCH := Kp.mk hch
  clear hch
  obtain ⟨ho, pa, pc, ca, cc, a0, c0, a1, c1, rfl, bp, bc, b0, b1, hp, hc, hw0, hw1⟩ := h
  clear ho hp hc hw0 hw1
  go_enter Tryz.func47, Tryz.ntmps47
  have HB0 : Kp (Below w.heap.size w w) := ⟨Below.refl _ _⟩
  go_wp2_with fail
  refine (rchannel_any _ C hsm k _ (HC.out.below (below_al (below_al HB0.out _) _))).mono ?_
  rw [HCH.out]
  rintro e w1 ⟨rfl, hb⟩
  have q1 : Kp (w1.heap[w.heap.size]? = some (.cells #[.slice pa C.parts.length pc, .slice ca C.chans.length cc, .int .i64 C.l0, .slice a0 C.w0.length c0, .int .i64 C.l1, .slice a1 C.w1.length c1] 31 (0, 0))) := ⟨blk_below (blk_al (blk_new _ _) _) hb⟩
  have r1 : Kp (w1.heap[w.heap.size + 1]? = some (.cells #[.int .i64 0, .int .i64 0] 105 (0, 0))) := ⟨blk_below (blk_at (w := (w.alloc (.cells #[.slice pa C.parts.length pc, .slice ca C.chans.length cc, .int .i64 C.l0, .slice a0 C.w0.length c0, .int .i64 C.l1, .slice a1 C.w1.length c1] 31))) (by simp) _) hb⟩
  have HB1 : Kp (Below w.heap.size w w1) := ⟨below_call (below_al (below_al HB0.out _) _) hb⟩
  clear HB0 hb
  have qc0 := cbk q1.out 0 (.slice pa C.parts.length pc) rfl
  have qc1 := cbk q1.out 1 (.slice ca C.chans.length cc) rfl
  have qc2 := cbk q1.out 2 (.int .i64 C.l0) rfl
  have qc3 := cbk q1.out 3 (.slice a0 C.w0.length c0) rfl
  have qc4 := cbk q1.out 4 (.int .i64 C.l1) rfl
  have qc5 := cbk q1.out 5 (.slice a1 C.w1.length c1) rfl
  have ql := blk_lt q1.out
  have rc0 := cbk r1.out 0 (.int .i64 0) rfl
  have rc1 := cbk r1.out 1 (.int .i64 0) rfl
  have rl := blk_lt r1.out
  have rf0 := frozen_blk r1.out 0
  have rf1 := frozen_blk r1.out 1
  go_wp2
  exact bodyPost_ret (v := .agg #[.int .i64 0, .int .i64 0]) (results_cell_row rfl _ _ _ _ _ _ _ rfl ((blk_set (blk_set r1.out 0 _) 1 _).trans rfl) Tryz.underlying105 rfl (by kernel_rfl)) rfl ⟨zero_out HZ.out, (Below.setCell (Below.setCell HB1.out (p := ⟨w.heap.size + 1, 0, none⟩) (by show w.heap.size ≤ w.heap.size + 1; omega) _) (p := ⟨w.heap.size + 1, 1, none⟩) (by show w.heap.size ≤ w.heap.size + 1; omega) _)⟩
set_option maxRecDepth 100000 in
set_option maxHeartbeats 4000000 in
theorem rsource0_yes (cv : Value) (C : Cfg) (hsm : C.small) (ha : accB C = true) (k : Nat) (hk : k < C.chans.length) (w : World) (h : CfgAt w cv C) : Calls Tryz.prog 47 #[cv, .int .i64 k] w fun e w' => e = .returned (.agg #[.int .i64 (srcB C k).1, .int .i64 (srcB C k).2]) ∧ Below w.heap.size w w' := by
  have HC := Kp.mk h
  have HCB : Kp (chanB C k = true) := ⟨by rw [chanB, decide_eq_true ⟨by omega, by omega⟩, ha]; rfl⟩
  have HS : Kp (srcB C k = (befC C k, sizedC (C.chans.getD k default))) := ⟨by rw [srcB, if_pos ⟨ha, by omega, by omega⟩, Int.toNat_natCast]⟩
  have hbs := befC_small ha k
  have hcs := chn_small ha (List.getElem_mem hk)
  obtain ⟨ho, pa, pc, ca, cc, a0, c0, a1, c1, rfl, bp, bc, b0, b1, hp, hc, hw0, hw1⟩ := h
  obtain ⟨g, o, rfl, hg, hcc⟩ := hc.at (by omega)
  obtain ⟨x, hx⟩ : ∃ x, C.chans[k] = x := ⟨_, rfl⟩
  have HXG : Kp (C.chans.getD k default = x) := ⟨by rw [getD_at _ _ _ (by omega), hx]⟩
  have hcu : ∀ j, j < 7 → w.cell? ⟨g, o + k * 7 + j, none⟩ = (chanC x)[j]? := fun j hj => by
    have h1 := hcc (k * 7 + j) (by omega)
    rw [flat_at chanC 7 chanC_len C.chans k j (by omega) hj, hx] at h1
    rw [Nat.add_assoc]
    exact h1
  have HCU := Kp.mk hcu
  have hk0 : (0 : Int) ≤ (k : Int) := by omega
  have hk1 : (k : Int) < (C.chans.length : Int) := by omega
  clear hcu hcc
  rw [hx] at hcs
  have HS2 : Kp (srcB C k = (befC C k, sizedC x)) := ⟨by rw [HS.out, HXG.out]⟩
  obtain ⟨bf, hbf⟩ : ∃ bf, befC C k = bf := ⟨_, rfl⟩
  obtain ⟨sx, hsx⟩ : ∃ sx, sizedC x = sx := ⟨_, rfl⟩
  have HBF := Kp.mk hbf
  have HSX := Kp.mk hsx
  rw [hbf] at hbs
  rw [hsx] at hcs
  have s1 : IntKind.i64.wrap (bf + sx) = bf + sx := IntWalk.i64_in _ (by omega)
  clear hx hbf hsx
  clear ho hp hc hw0 hw1
  go_enter Tryz.func47, Tryz.ntmps47
  have HB0 : Kp (Below w.heap.size w w) := ⟨Below.refl _ _⟩
  go_wp2_with fail
  refine (rchannel_any _ C hsm k _ (HC.out.below (below_al (below_al HB0.out _) _))).mono ?_
  rw [HCB.out]
  rintro e w1 ⟨rfl, hb⟩
  have q1 : Kp (w1.heap[w.heap.size]? = some (.cells #[.slice pa C.parts.length pc, .slice (some ⟨g, o, none⟩) C.chans.length cc, .int .i64 C.l0, .slice a0 C.w0.length c0, .int .i64 C.l1, .slice a1 C.w1.length c1] 31 (0, 0))) := ⟨blk_below (blk_al (blk_new _ _) _) hb⟩
  have r1 : Kp (w1.heap[w.heap.size + 1]? = some (.cells #[.int .i64 0, .int .i64 0] 105 (0, 0))) := ⟨blk_below (blk_at (w := (w.alloc (.cells #[.slice pa C.parts.length pc, .slice (some ⟨g, o, none⟩) C.chans.length cc, .int .i64 C.l0, .slice a0 C.w0.length c0, .int .i64 C.l1, .slice a1 C.w1.length c1] 31))) (by simp) _) hb⟩
  have HB1 : Kp (Below w.heap.size w w1) := ⟨below_call (below_al (below_al HB0.out _) _) hb⟩
  clear HB0 hb
  have qc0 := cbk q1.out 0 (.slice pa C.parts.length pc) rfl
  have qc1 := cbk q1.out 1 (.slice (some ⟨g, o, none⟩) C.chans.length cc) rfl
  have qc2 := cbk q1.out 2 (.int .i64 C.l0) rfl
  have qc3 := cbk q1.out 3 (.slice a0 C.w0.length c0) rfl
  have qc4 := cbk q1.out 4 (.int .i64 C.l1) rfl
  have qc5 := cbk q1.out 5 (.slice a1 C.w1.length c1) rfl
  have ql := blk_lt q1.out
  have rc0 := cbk r1.out 0 (.int .i64 0) rfl
  have rc1 := cbk r1.out 1 (.int .i64 0) rfl
  have rl := blk_lt r1.out
  have x0 : w1.cell? ⟨g, o + k * 7, none⟩ = some (.int .i64 x.kind) := (HB1.out.cell (p := ⟨g, o + k * 7, none⟩) hg).trans (HCU.out 0 (by omega))
  have x1 : w1.cell? ⟨g, o + k * 7 + 1, none⟩ = some (.int .i64 x.frm) := (HB1.out.cell (p := ⟨g, o + k * 7 + 1, none⟩) hg).trans (HCU.out 1 (by omega))
  have x2 : w1.cell? ⟨g, o + k * 7 + 2, none⟩ = some (.int .i64 x.to) := (HB1.out.cell (p := ⟨g, o + k * 7 + 2, none⟩) hg).trans (HCU.out 2 (by omega))
  have x3 : w1.cell? ⟨g, o + k * 7 + 3, none⟩ = some (.int .i64 x.words) := (HB1.out.cell (p := ⟨g, o + k * 7 + 3, none⟩) hg).trans (HCU.out 3 (by omega))
  have x4 : w1.cell? ⟨g, o + k * 7 + 4, none⟩ = some (.int .i64 x.depth) := (HB1.out.cell (p := ⟨g, o + k * 7 + 4, none⟩) hg).trans (HCU.out 4 (by omega))
  have x5 : w1.cell? ⟨g, o + k * 7 + 5, none⟩ = some (.int .i64 x.period) := (HB1.out.cell (p := ⟨g, o + k * 7 + 5, none⟩) hg).trans (HCU.out 5 (by omega))
  have x6 : w1.cell? ⟨g, o + k * 7 + 6, none⟩ = some (.int .u32 x.boot) := (HB1.out.cell (p := ⟨g, o + k * 7 + 6, none⟩) hg).trans (HCU.out 6 (by omega))
  have hgw : g < w1.heap.size := Nat.lt_of_lt_of_le hg HB1.out.size
  have nq : ¬ w.heap.size = w.heap.size + 1 := by omega
  have ng : ¬ g = w.heap.size + 1 := by omega
  go_wp2_with fail
  refine held_start_gen (S := (fun w' : World => ButB (w1.heap.size) [(w.heap.size + 1)] w1 w' ∧ ∀ bb o, bb < w1.heap.size → bb ≠ (w.heap.size + 1) → w'.cell? ⟨bb, o, none⟩ = w1.cell? ⟨bb, o, none⟩)) (by kernel_rfl) (fun wz : World => Kp (wz.heap[w.heap.size + 1]? = some (.cells #[.int .i64 0, .int .i64 0] 105 (0, 0))) ∧ Kp (Below w.heap.size w wz) ∧ w1.heap.size ≤ wz.heap.size) ⟨⟨blk_dr r1.out⟩, ⟨below_dr HB1.out⟩, Nat.le_refl _⟩ (sx_of1 (ButB.dr (ButB.refl _ (by omega)))) (fun wd0 hRn hHeld => ?_)
  clear r1 HB1
  obtain ⟨r1, HB1, hsz⟩ := hRn
  refine wtk 0 ?_ rfl (.inl ⟨by rfl, ?_⟩) ?_
  rotate_left 1
  · (intro w hSw; go_simp; try with_reducible rfl)
  try simp only [Act.put, ls0, ls1, ls2]
  refine wtk 1 ?_ rfl (.inl ⟨by rfl, ?_⟩) ?_
  rotate_left 1
  · (intro w hSw; go_simp; try with_reducible rfl)
  try simp only [Act.put, ls0, ls1, ls2]
  refine wtk 3 ?_ rfl (.inl ⟨by rfl, ?_⟩) ?_
  rotate_left 1
  · (intro w hSw; go_simp; try with_reducible rfl)
  try simp only [Act.put, ls0, ls1, ls2]
  refine wtk 4 ?_ rfl (.inl ⟨by rfl, ?_⟩) ?_
  rotate_left 1
  · (intro w hSw; go_simp; try with_reducible rfl)
  try simp only [Act.put, ls0, ls1, ls2]
  refine wtk 5 ?_ rfl (.inl ⟨by rfl, ?_⟩) ?_
  rotate_left 1
  · (intro w hSw; go_simp; try with_reducible rfl)
  try simp only [Act.put, ls0, ls1, ls2]
  refine wtk 6 ?_ rfl (.inl ⟨by rfl, ?_⟩) ?_
  rotate_left 1
  · (intro w hSw; go_simp; try with_reducible rfl)
  try simp only [Act.put, ls0, ls1, ls2]
  refine wtk 7 ?_ rfl (.inl ⟨by rfl, ?_⟩) ?_
  rotate_left 1
  · (intro w hSw; go_simp; try with_reducible rfl)
  try simp only [Act.put, ls0, ls1, ls2]
  refine wrd [2] ?_
  refine (arc rfl (fun K hK => ?_) arn)
  go_simp
  go_at_call 43
  refine (rbefore_any _ C hsm ha k (by omega) _ (HC.out.below HB1.out)).mono ?_
  rw [HBF.out]
  rintro e w9 ⟨rfl, hb⟩
  try go_wp2_with fail
  refine out_gen hK _ _ (fun wz : World => Kp (wz.heap[w.heap.size + 1]? = some (.cells #[.int .i64 0, .int .i64 0] 105 (0, 0))) ∧ Kp (Below w.heap.size w wz) ∧ wd0.heap.size ≤ wz.heap.size) ⟨⟨blk_below r1.out hb⟩, ⟨below_call HB1.out hb⟩, hb.size⟩ (sx_of1 (ButB.call (And.left hHeld) hb)) (fun wd1 hRn hHn => ?_)
  clear hK K hHeld r1 HB1 hb
  obtain ⟨r1, HB1, hsz1⟩ := hRn
  have hHeld := hHn
  clear hHn
  try simp only [Act.put, ls0, ls1, ls2]
  refine wrd [8] ?_
  refine (arc rfl (fun K hK => ?_) arn)
  go_simp
  go_at_call 77
  refine (rsource_any x (by omega) (by omega) (by omega) (by omega) _).mono ?_
  rw [HSX.out]
  rintro e w9 ⟨rfl, hb⟩
  try go_wp2_with fail
  refine out_gen hK _ _ (fun wz : World => Kp (wz.heap[w.heap.size + 1]? = some (.cells #[.int .i64 0, .int .i64 0] 105 (0, 0))) ∧ Kp (Below w.heap.size w wz) ∧ wd1.heap.size ≤ wz.heap.size) ⟨⟨blk_below r1.out hb⟩, ⟨below_call HB1.out hb⟩, hb.size⟩ (sx_of1 (ButB.call (And.left hHeld) hb)) (fun wd2 hRn hHn => ?_)
  clear hK K hHeld r1 HB1 hb
  obtain ⟨r1, HB1, hsz2⟩ := hRn
  have hHeld := hHn
  clear hHn
  try simp only [Act.put, ls0, ls1, ls2]
  refine wtk 9 ?_ rfl (.inl ⟨by rfl, ?_⟩) ?_
  rotate_left 1
  · (intro w hSw; go_simp; try with_reducible rfl)
  try simp only [Act.put, ls0, ls1, ls2]
  refine wrd [10] ?_
  refine (arc rfl (fun K hK => ?_) arn)
  have sd0 := cbk r1.out 0 (.int .i64 0) rfl
  have sf0 := frozen_blk r1.out 0
  have sd1 := cbk r1.out 1 (.int .i64 0) rfl
  have sf1 := frozen_blk r1.out 1
  have sl := blk_lt r1.out
  go_simp
  try go_wp2_with fail
  refine out_gen hK _ _ (fun wz : World => Kp (wz.heap[w.heap.size + 1]? = some (.cells #[.int .i64 bf, .int .i64 sx] 105 (0, 0))) ∧ Kp (Below w.heap.size w wz) ∧ wd2.heap.size ≤ wz.heap.size) ⟨⟨(blk_set (blk_set r1.out 0 _) 1 _).trans rfl⟩, ⟨((HB1.out.setCell (p := ⟨w.heap.size + 1, 0, none⟩) (by show w.heap.size ≤ w.heap.size + 1; omega) _).setCell (p := ⟨w.heap.size + 1, 1, none⟩) (by show w.heap.size ≤ w.heap.size + 1; omega) _)⟩, (by simp [World.setCell])⟩ (sx_of1 ((ButB.set (ButB.set (And.left hHeld) (p := ⟨w.heap.size + 1, 0, none⟩) (by first | (left; simp; done) | (right; show _ ≤ w.heap.size + 1; omega)) _) (p := ⟨w.heap.size + 1, 1, none⟩) (by first | (left; simp; done) | (right; show _ ≤ w.heap.size + 1; omega)) _))) (fun wd3 hRn hHn => ?_)
  clear hK K hHeld r1 HB1 sd0 sf0 sd1 sf1 sl
  obtain ⟨r1, HB1, hsz3⟩ := hRn
  have hHeld := hHn
  clear hHn
  try simp only [Act.put, ls0, ls1, ls2]
  refine wpAnyH_done (by kernel_rfl) ?_ _
  go_wp2
  exact bodyPost_ret (v := .agg #[.int .i64 bf, .int .i64 sx]) (results_cell_row rfl _ _ _ _ _ _ _ rfl r1.out Tryz.underlying105 rfl (by kernel_rfl)) rfl ⟨by rw [HS2.out, HBF.out, HSX.out], HB1.out⟩
theorem rsource0_any (cv : Value) (C : Cfg) (hsm : C.small) (k : Int) (w : World) (h : CfgAt w cv C) : Calls Tryz.prog 47 #[cv, .int .i64 k] w fun e w' => e = .returned (.agg #[.int .i64 (srcB C k).1, .int .i64 (srcB C k).2]) ∧ Below w.heap.size w w' := by
  cases hch : chanB C k with
  | false => exact rsource0_no cv C hsm k hch w h
  | true =>
    obtain ⟨ha, h0, h1⟩ := chanB_yes hch
    obtain ⟨j, rfl⟩ := Int.eq_ofNat_of_zero_le h0
    exact rsource0_yes cv C hsm ha j (by omega) w h
set_option maxRecDepth 100000 in
set_option maxHeartbeats 4000000 in
theorem rdest_no (cv : Value) (C : Cfg) (hsm : C.small) (k : Int) (hch : chanB C k = false) (w : World) (h : CfgAt w cv C) : Calls Tryz.prog 48 #[cv, .int .i64 k] w fun e w' => e = .returned (.agg #[.int .i64 (dstB C k).1, .int .i64 (dstB C k).2]) ∧ Below w.heap.size w w' := by
  have HC := Kp.mk h
  have HZ := Kp.mk (dstB_no C k (chanB_no hch))
  have HCH := Kp.mk hch
  clear hch
  obtain ⟨ho, pa, pc, ca, cc, a0, c0, a1, c1, rfl, bp, bc, b0, b1, hp, hc, hw0, hw1⟩ := h
  clear ho hp hc hw0 hw1
  go_enter Tryz.func48, Tryz.ntmps48
  have HB0 : Kp (Below w.heap.size w w) := ⟨Below.refl _ _⟩
  go_wp2_with fail
  refine (rchannel_any _ C hsm k _ (HC.out.below (below_al (below_al HB0.out _) _))).mono ?_
  rw [HCH.out]
  rintro e w1 ⟨rfl, hb⟩
  have q1 : Kp (w1.heap[w.heap.size]? = some (.cells #[.slice pa C.parts.length pc, .slice ca C.chans.length cc, .int .i64 C.l0, .slice a0 C.w0.length c0, .int .i64 C.l1, .slice a1 C.w1.length c1] 31 (0, 0))) := ⟨blk_below (blk_al (blk_new _ _) _) hb⟩
  have r1 : Kp (w1.heap[w.heap.size + 1]? = some (.cells #[.int .i64 0, .int .i64 0] 105 (0, 0))) := ⟨blk_below (blk_at (w := (w.alloc (.cells #[.slice pa C.parts.length pc, .slice ca C.chans.length cc, .int .i64 C.l0, .slice a0 C.w0.length c0, .int .i64 C.l1, .slice a1 C.w1.length c1] 31))) (by simp) _) hb⟩
  have HB1 : Kp (Below w.heap.size w w1) := ⟨below_call (below_al (below_al HB0.out _) _) hb⟩
  clear HB0 hb
  have qc0 := cbk q1.out 0 (.slice pa C.parts.length pc) rfl
  have qc1 := cbk q1.out 1 (.slice ca C.chans.length cc) rfl
  have qc2 := cbk q1.out 2 (.int .i64 C.l0) rfl
  have qc3 := cbk q1.out 3 (.slice a0 C.w0.length c0) rfl
  have qc4 := cbk q1.out 4 (.int .i64 C.l1) rfl
  have qc5 := cbk q1.out 5 (.slice a1 C.w1.length c1) rfl
  have ql := blk_lt q1.out
  have rc0 := cbk r1.out 0 (.int .i64 0) rfl
  have rc1 := cbk r1.out 1 (.int .i64 0) rfl
  have rl := blk_lt r1.out
  have rf0 := frozen_blk r1.out 0
  have rf1 := frozen_blk r1.out 1
  go_wp2
  exact bodyPost_ret (v := .agg #[.int .i64 0, .int .i64 0]) (results_cell_row rfl _ _ _ _ _ _ _ rfl ((blk_set (blk_set r1.out 0 _) 1 _).trans rfl) Tryz.underlying105 rfl (by kernel_rfl)) rfl ⟨zero_out HZ.out, (Below.setCell (Below.setCell HB1.out (p := ⟨w.heap.size + 1, 0, none⟩) (by show w.heap.size ≤ w.heap.size + 1; omega) _) (p := ⟨w.heap.size + 1, 1, none⟩) (by show w.heap.size ≤ w.heap.size + 1; omega) _)⟩
set_option maxRecDepth 100000 in
set_option maxHeartbeats 4000000 in
theorem rdest_yes (cv : Value) (C : Cfg) (hsm : C.small) (ha : accB C = true) (k : Nat) (hk : k < C.chans.length) (w : World) (h : CfgAt w cv C) : Calls Tryz.prog 48 #[cv, .int .i64 k] w fun e w' => e = .returned (.agg #[.int .i64 (dstB C k).1, .int .i64 (dstB C k).2]) ∧ Below w.heap.size w w' := by
  have HC := Kp.mk h
  have HCB : Kp (chanB C k = true) := ⟨by rw [chanB, decide_eq_true ⟨by omega, by omega⟩, ha]; rfl⟩
  have HS : Kp (dstB C k = (befC C k + sizedC (C.chans.getD k default), 1)) := ⟨by rw [dstB, if_pos ⟨ha, by omega, by omega⟩, Int.toNat_natCast]⟩
  have hbs := befC_small ha k
  have hcs := chn_small ha (List.getElem_mem hk)
  obtain ⟨ho, pa, pc, ca, cc, a0, c0, a1, c1, rfl, bp, bc, b0, b1, hp, hc, hw0, hw1⟩ := h
  obtain ⟨g, o, rfl, hg, hcc⟩ := hc.at (by omega)
  obtain ⟨x, hx⟩ : ∃ x, C.chans[k] = x := ⟨_, rfl⟩
  have HXG : Kp (C.chans.getD k default = x) := ⟨by rw [getD_at _ _ _ (by omega), hx]⟩
  have hcu : ∀ j, j < 7 → w.cell? ⟨g, o + k * 7 + j, none⟩ = (chanC x)[j]? := fun j hj => by
    have h1 := hcc (k * 7 + j) (by omega)
    rw [flat_at chanC 7 chanC_len C.chans k j (by omega) hj, hx] at h1
    rw [Nat.add_assoc]
    exact h1
  have HCU := Kp.mk hcu
  have hk0 : (0 : Int) ≤ (k : Int) := by omega
  have hk1 : (k : Int) < (C.chans.length : Int) := by omega
  clear hcu hcc
  rw [hx] at hcs
  have HS2 : Kp (dstB C k = (befC C k + sizedC x, 1)) := ⟨by rw [HS.out, HXG.out]⟩
  obtain ⟨bf, hbf⟩ : ∃ bf, befC C k = bf := ⟨_, rfl⟩
  obtain ⟨sx, hsx⟩ : ∃ sx, sizedC x = sx := ⟨_, rfl⟩
  have HBF := Kp.mk hbf
  have HSX := Kp.mk hsx
  rw [hbf] at hbs
  rw [hsx] at hcs
  have s1 : IntKind.i64.wrap (bf + sx) = bf + sx := IntWalk.i64_in _ (by omega)
  clear hx hbf hsx
  clear ho hp hc hw0 hw1
  go_enter Tryz.func48, Tryz.ntmps48
  have HB0 : Kp (Below w.heap.size w w) := ⟨Below.refl _ _⟩
  go_wp2_with fail
  refine (rchannel_any _ C hsm k _ (HC.out.below (below_al (below_al HB0.out _) _))).mono ?_
  rw [HCB.out]
  rintro e w1 ⟨rfl, hb⟩
  have q1 : Kp (w1.heap[w.heap.size]? = some (.cells #[.slice pa C.parts.length pc, .slice (some ⟨g, o, none⟩) C.chans.length cc, .int .i64 C.l0, .slice a0 C.w0.length c0, .int .i64 C.l1, .slice a1 C.w1.length c1] 31 (0, 0))) := ⟨blk_below (blk_al (blk_new _ _) _) hb⟩
  have r1 : Kp (w1.heap[w.heap.size + 1]? = some (.cells #[.int .i64 0, .int .i64 0] 105 (0, 0))) := ⟨blk_below (blk_at (w := (w.alloc (.cells #[.slice pa C.parts.length pc, .slice (some ⟨g, o, none⟩) C.chans.length cc, .int .i64 C.l0, .slice a0 C.w0.length c0, .int .i64 C.l1, .slice a1 C.w1.length c1] 31))) (by simp) _) hb⟩
  have HB1 : Kp (Below w.heap.size w w1) := ⟨below_call (below_al (below_al HB0.out _) _) hb⟩
  clear HB0 hb
  have qc0 := cbk q1.out 0 (.slice pa C.parts.length pc) rfl
  have qc1 := cbk q1.out 1 (.slice (some ⟨g, o, none⟩) C.chans.length cc) rfl
  have qc2 := cbk q1.out 2 (.int .i64 C.l0) rfl
  have qc3 := cbk q1.out 3 (.slice a0 C.w0.length c0) rfl
  have qc4 := cbk q1.out 4 (.int .i64 C.l1) rfl
  have qc5 := cbk q1.out 5 (.slice a1 C.w1.length c1) rfl
  have ql := blk_lt q1.out
  have rc0 := cbk r1.out 0 (.int .i64 0) rfl
  have rc1 := cbk r1.out 1 (.int .i64 0) rfl
  have rl := blk_lt r1.out
  have x0 : w1.cell? ⟨g, o + k * 7, none⟩ = some (.int .i64 x.kind) := (HB1.out.cell (p := ⟨g, o + k * 7, none⟩) hg).trans (HCU.out 0 (by omega))
  have x1 : w1.cell? ⟨g, o + k * 7 + 1, none⟩ = some (.int .i64 x.frm) := (HB1.out.cell (p := ⟨g, o + k * 7 + 1, none⟩) hg).trans (HCU.out 1 (by omega))
  have x2 : w1.cell? ⟨g, o + k * 7 + 2, none⟩ = some (.int .i64 x.to) := (HB1.out.cell (p := ⟨g, o + k * 7 + 2, none⟩) hg).trans (HCU.out 2 (by omega))
  have x3 : w1.cell? ⟨g, o + k * 7 + 3, none⟩ = some (.int .i64 x.words) := (HB1.out.cell (p := ⟨g, o + k * 7 + 3, none⟩) hg).trans (HCU.out 3 (by omega))
  have x4 : w1.cell? ⟨g, o + k * 7 + 4, none⟩ = some (.int .i64 x.depth) := (HB1.out.cell (p := ⟨g, o + k * 7 + 4, none⟩) hg).trans (HCU.out 4 (by omega))
  have x5 : w1.cell? ⟨g, o + k * 7 + 5, none⟩ = some (.int .i64 x.period) := (HB1.out.cell (p := ⟨g, o + k * 7 + 5, none⟩) hg).trans (HCU.out 5 (by omega))
  have x6 : w1.cell? ⟨g, o + k * 7 + 6, none⟩ = some (.int .u32 x.boot) := (HB1.out.cell (p := ⟨g, o + k * 7 + 6, none⟩) hg).trans (HCU.out 6 (by omega))
  have hgw : g < w1.heap.size := Nat.lt_of_lt_of_le hg HB1.out.size
  have nq : ¬ w.heap.size = w.heap.size + 1 := by omega
  have ng : ¬ g = w.heap.size + 1 := by omega
  go_wp2_with fail
  refine held_start_gen (S := (fun w' : World => ButB (w1.heap.size) [(w.heap.size + 1)] w1 w' ∧ ∀ bb o, bb < w1.heap.size → bb ≠ (w.heap.size + 1) → w'.cell? ⟨bb, o, none⟩ = w1.cell? ⟨bb, o, none⟩)) (by kernel_rfl) (fun wz : World => Kp (wz.heap[w.heap.size + 1]? = some (.cells #[.int .i64 0, .int .i64 0] 105 (0, 0))) ∧ Kp (Below w.heap.size w wz) ∧ w1.heap.size ≤ wz.heap.size) ⟨⟨blk_dr r1.out⟩, ⟨below_dr HB1.out⟩, Nat.le_refl _⟩ (sx_of1 (ButB.dr (ButB.refl _ (by omega)))) (fun wd0 hRn hHeld => ?_)
  clear r1 HB1
  obtain ⟨r1, HB1, hsz⟩ := hRn
  refine wtk 0 ?_ rfl (.inl ⟨by rfl, ?_⟩) ?_
  rotate_left 1
  · (intro w hSw; go_simp; try with_reducible rfl)
  try simp only [Act.put, ls0, ls1, ls2]
  refine wtk 1 ?_ rfl (.inl ⟨by rfl, ?_⟩) ?_
  rotate_left 1
  · (intro w hSw; go_simp; try with_reducible rfl)
  try simp only [Act.put, ls0, ls1, ls2]
  refine wtk 3 ?_ rfl (.inl ⟨by rfl, ?_⟩) ?_
  rotate_left 1
  · (intro w hSw; go_simp; try with_reducible rfl)
  try simp only [Act.put, ls0, ls1, ls2]
  refine wtk 4 ?_ rfl (.inl ⟨by rfl, ?_⟩) ?_
  rotate_left 1
  · (intro w hSw; go_simp; try with_reducible rfl)
  try simp only [Act.put, ls0, ls1, ls2]
  refine wtk 5 ?_ rfl (.inl ⟨by rfl, ?_⟩) ?_
  rotate_left 1
  · (intro w hSw; go_simp; try with_reducible rfl)
  try simp only [Act.put, ls0, ls1, ls2]
  refine wtk 6 ?_ rfl (.inl ⟨by rfl, ?_⟩) ?_
  rotate_left 1
  · (intro w hSw; go_simp; try with_reducible rfl)
  try simp only [Act.put, ls0, ls1, ls2]
  refine wtk 7 ?_ rfl (.inl ⟨by rfl, ?_⟩) ?_
  rotate_left 1
  · (intro w hSw; go_simp; try with_reducible rfl)
  try simp only [Act.put, ls0, ls1, ls2]
  refine wrd [2] ?_
  refine (arc rfl (fun K hK => ?_) arn)
  go_simp
  go_at_call 43
  refine (rbefore_any _ C hsm ha k (by omega) _ (HC.out.below HB1.out)).mono ?_
  rw [HBF.out]
  rintro e w9 ⟨rfl, hb⟩
  try go_wp2_with fail
  refine out_gen hK _ _ (fun wz : World => Kp (wz.heap[w.heap.size + 1]? = some (.cells #[.int .i64 0, .int .i64 0] 105 (0, 0))) ∧ Kp (Below w.heap.size w wz) ∧ wd0.heap.size ≤ wz.heap.size) ⟨⟨blk_below r1.out hb⟩, ⟨below_call HB1.out hb⟩, hb.size⟩ (sx_of1 (ButB.call (And.left hHeld) hb)) (fun wd1 hRn hHn => ?_)
  clear hK K hHeld r1 HB1 hb
  obtain ⟨r1, HB1, hsz1⟩ := hRn
  have hHeld := hHn
  clear hHn
  try simp only [Act.put, ls0, ls1, ls2]
  refine wrd [8] ?_
  refine (arc rfl (fun K hK => ?_) arn)
  go_simp
  go_at_call 77
  refine (rsource_any x (by omega) (by omega) (by omega) (by omega) _).mono ?_
  rw [HSX.out]
  rintro e w9 ⟨rfl, hb⟩
  try go_wp2_with fail
  refine out_gen hK _ _ (fun wz : World => Kp (wz.heap[w.heap.size + 1]? = some (.cells #[.int .i64 0, .int .i64 0] 105 (0, 0))) ∧ Kp (Below w.heap.size w wz) ∧ wd1.heap.size ≤ wz.heap.size) ⟨⟨blk_below r1.out hb⟩, ⟨below_call HB1.out hb⟩, hb.size⟩ (sx_of1 (ButB.call (And.left hHeld) hb)) (fun wd2 hRn hHn => ?_)
  clear hK K hHeld r1 HB1 hb
  obtain ⟨r1, HB1, hsz2⟩ := hRn
  have hHeld := hHn
  clear hHn
  try simp only [Act.put, ls0, ls1, ls2]
  refine wtk 9 ?_ rfl (.inl ⟨by rfl, ?_⟩) ?_
  rotate_left 1
  · (intro w hSw; go_simp; try with_reducible rfl)
  try simp only [Act.put, ls0, ls1, ls2]
  refine wtk 10 ?_ rfl (.inl ⟨by rfl, ?_⟩) ?_
  rotate_left 1
  · (intro w hSw; go_simp; try with_reducible rfl)
  try simp only [Act.put, ls0, ls1, ls2]
  refine wrd [11] ?_
  refine (arc rfl (fun K hK => ?_) arn)
  have sd0 := cbk r1.out 0 (.int .i64 0) rfl
  have sf0 := frozen_blk r1.out 0
  have sd1 := cbk r1.out 1 (.int .i64 0) rfl
  have sf1 := frozen_blk r1.out 1
  have sl := blk_lt r1.out
  go_simp
  try go_wp2_with fail
  refine out_gen hK _ _ (fun wz : World => Kp (wz.heap[w.heap.size + 1]? = some (.cells #[.int .i64 (bf + sx), .int .i64 1] 105 (0, 0))) ∧ Kp (Below w.heap.size w wz) ∧ wd2.heap.size ≤ wz.heap.size) ⟨⟨(blk_set (blk_set r1.out 0 _) 1 _).trans rfl⟩, ⟨((HB1.out.setCell (p := ⟨w.heap.size + 1, 0, none⟩) (by show w.heap.size ≤ w.heap.size + 1; omega) _).setCell (p := ⟨w.heap.size + 1, 1, none⟩) (by show w.heap.size ≤ w.heap.size + 1; omega) _)⟩, (by simp [World.setCell])⟩ (sx_of1 ((ButB.set (ButB.set (And.left hHeld) (p := ⟨w.heap.size + 1, 0, none⟩) (by first | (left; simp; done) | (right; show _ ≤ w.heap.size + 1; omega)) _) (p := ⟨w.heap.size + 1, 1, none⟩) (by first | (left; simp; done) | (right; show _ ≤ w.heap.size + 1; omega)) _))) (fun wd3 hRn hHn => ?_)
  clear hK K hHeld r1 HB1 sd0 sf0 sd1 sf1 sl
  obtain ⟨r1, HB1, hsz3⟩ := hRn
  have hHeld := hHn
  clear hHn
  try simp only [Act.put, ls0, ls1, ls2]
  refine wpAnyH_done (by kernel_rfl) ?_ _
  go_wp2
  exact bodyPost_ret (v := .agg #[.int .i64 (bf + sx), .int .i64 1]) (results_cell_row rfl _ _ _ _ _ _ _ rfl r1.out Tryz.underlying105 rfl (by kernel_rfl)) rfl ⟨by rw [HS2.out, HBF.out, HSX.out], HB1.out⟩
theorem rdest_any (cv : Value) (C : Cfg) (hsm : C.small) (k : Int) (w : World) (h : CfgAt w cv C) : Calls Tryz.prog 48 #[cv, .int .i64 k] w fun e w' => e = .returned (.agg #[.int .i64 (dstB C k).1, .int .i64 (dstB C k).2]) ∧ Below w.heap.size w w' := by
  cases hch : chanB C k with
  | false => exact rdest_no cv C hsm k hch w h
  | true =>
    obtain ⟨ha, h0, h1⟩ := chanB_yes hch
    obtain ⟨j, rfl⟩ := Int.eq_ofNat_of_zero_le h0
    exact rdest_yes cv C hsm ha j (by omega) w h
end
section
open Go.RowKit
set_option linter.unusedSimpArgs false
set_option linter.unusedVariables false
theorem row_blk {w : World} {b : Nat} {cs : Array Value} {ty : TypeId} {fz : Nat × Nat} {k n : Nat} {xs : List Value} (h : w.heap[b]? = some (.cells cs ty fz)) (hx : cs.toList = xs) (hl : xs.length = n * k) (hn : n ≤ 100) : RowAt w k (.slice (some ⟨b, 0, none⟩) n n) n xs :=
  ⟨hl, .inr ⟨b, 0, n, rfl, Nat.le_refl _, by unfold maxLen; omega, blk_lt h, fun i hi => by rw [Nat.zero_add, cell_blk h i, ← hx, Array.getElem?_toList]⟩⟩
theorem CfgAt.cells {w : World} {cs : Array Value} {C : Cfg} (h : CfgAt w (.agg cs) C) : ∃ v0 v1 v2 v3 v4 v5 : Value, cs = #[v0, v1, v2, v3, v4, v5] ∧ (∃ a n c, v0 = .slice a n c) ∧ (∃ a n c, v1 = .slice a n c) ∧ (∃ n, v2 = .int .i64 n) ∧ (∃ a n c, v3 = .slice a n c) ∧ (∃ n, v4 = .int .i64 n) ∧ ∃ a n c, v5 = .slice a n c := by
  obtain ⟨ho, pa, pc, ca, cc, a0, c0, a1, c1, hv, _⟩ := h
  simp only [Value.agg.injEq] at hv
  exact ⟨_, _, _, _, _, _, hv, ⟨_, _, _, rfl⟩, ⟨_, _, _, rfl⟩, ⟨_, rfl⟩, ⟨_, _, _, rfl⟩, ⟨_, rfl⟩, ⟨_, _, _, rfl⟩⟩
def two12 (wd dp bt : Int) : Cfg := ⟨[(0, 1), (1, 0)], [⟨2, 0, 1, wd, dp, 0, bt⟩], 1, [⟨0, 0, 1⟩], 1, [⟨1, 0, 1⟩]⟩
structure In12 (wd dp bt : Int) : Prop where
  w : 1 ≤ wd ∧ wd ≤ 16
  d : dp = 1 ∨ dp = 2 ∨ dp = 4 ∨ dp = 8
  b : 0 ≤ bt ∧ bt < 4294967296
theorem i64_small (x : Int) (h : 0 ≤ x ∧ x ≤ 1048576) : I64 x := by
  show (Lit.int .i64 x).wf = true
  simp [Lit.wf, IntKind.wrap]
  exact ⟨by show -9223372036854775808 ≤ x; omega, by omega⟩
theorem two12_ok (wd dp bt : Int) (h : In12 wd dp bt) : (two12 wd dp bt).ok := by
  have i1 := i64_small wd (by have := h.w; omega)
  have i2 := i64_small dp (by have := h.d; omega)
  have i3 : (Lit.int .u32 bt).wf = true := by
    have h1 : IntKind.u32.wrap bt = bt := IntWalk.u32_in _ (by have := h.b; omega)
    simp [Lit.wf, h1]
    exact ⟨by show (0 : Int) ≤ bt; exact h.b.1, by show bt ≤ 4294967295; have := h.b; omega⟩
  exact ⟨fun p hp => by simp only [two12, List.mem_cons, List.not_mem_nil, or_false] at hp; rcases hp with rfl | rfl <;> exact ⟨rfl, rfl⟩, fun x hx => by simp only [two12, List.mem_cons, List.not_mem_nil, or_false] at hx; subst hx; exact ⟨rfl, rfl, rfl, i1, i2, rfl, i3⟩, rfl, rfl, fun x hx => by simp only [two12, List.mem_cons, List.not_mem_nil, or_false] at hx; subst hx; exact ⟨rfl, rfl, rfl⟩, fun x hx => by simp only [two12, List.mem_cons, List.not_mem_nil, or_false] at hx; subst hx; exact ⟨rfl, rfl, rfl⟩⟩
theorem two12_small (wd dp bt : Int) : (two12 wd dp bt).small := ⟨show 2 ≤ 200 by decide, show 1 ≤ 200 by decide, show 1 ≤ 200 by decide, show 1 ≤ 200 by decide⟩
theorem two12_acc {wd dp bt : Int} (h : In12 wd dp bt) : accB (two12 wd dp bt) = true := by
  have e1 : inB wd 1 16 = true := decide_eq_true h.w
  have e2 : (dp == 1 || dp == 2 || dp == 4 || dp == 8) = true := by rcases h.d with rfl | rfl | rfl | rfl <;> rfl
  have h : ∀ i, i < 17 → ruleB (i + 1) (two12 wd dp bt) = false := by
    intro i hi
    match i, hi with
    | 0, _ => rfl
    | 1, _ => rfl
    | 2, _ => rfl
    | 3, _ => rfl
    | 4, _ => rfl
    | 5, _ => rfl
    | 6, _ => rfl
    | 7, _ => show ((!inB wd 1 16) || false) = false; rw [e1]; rfl
    | 8, _ => show ((!(dp == 1 || dp == 2 || dp == 4 || dp == 8)) || false) = false; rw [e2]; rfl
    | 9, _ => rfl
    | 10, _ => rfl
    | 11, _ => rfl
    | 12, _ => rfl
    | 13, _ => rfl
    | 14, _ => rfl
    | 15, _ => rfl
    | 16, _ => rfl
    | n + 17, h => omega
  rw [accB, defsB, defsK, List.isEmpty_iff, List.map_eq_nil_iff, List.filter_eq_nil_iff]
  intro i hi
  rw [h i (List.mem_range.1 hi)]
  exact Bool.false_ne_true
theorem two12_src {wd dp bt : Int} (h : In12 wd dp bt) : srcB (two12 wd dp bt) (0 : Nat) = (1, 1 + dp * (1 + wd)) := by rw [srcB, if_pos ⟨two12_acc h, by decide, (show ((0 : Nat) : Int) < ((1 : Nat) : Int) by decide)⟩]; rfl
theorem two12_dst {wd dp bt : Int} (h : In12 wd dp bt) : dstB (two12 wd dp bt) (0 : Nat) = (1 + (1 + dp * (1 + wd)), 1) := by rw [dstB, if_pos ⟨two12_acc h, by decide, (show ((0 : Nat) : Int) < ((1 : Nat) : Int) by decide)⟩]; rfl
theorem two12_cell {wd dp bt : Int} (h : In12 wd dp bt) (i : Int) (h0 : 0 ≤ i) (h1 : i < dp) : cellB (two12 wd dp bt) (0 : Nat) i = (1 + (1 + i * (1 + wd)), 1 + wd) := by rw [cellB, if_pos ⟨two12_acc h, by decide, (show ((0 : Nat) : Int) < ((1 : Nat) : Int) by decide), rfl, h0, h1⟩]; rfl
theorem two12_size {wd dp bt : Int} (h : In12 wd dp bt) : planE (two12 wd dp bt) = 3 + dp * (1 + wd) := by
  rw [planE, if_pos (two12_acc h)]
  show 1 + (0 + ((1 + dp * (1 + wd)) + (1 + 0))) = _
  omega
def pl12 (wd dp : Int) : Pl := ⟨1, 2 + dp * (1 + wd), 2, wd, dp⟩
theorem dp_bound {wd dp bt : Int} (h : In12 wd dp bt) : 0 ≤ dp * (1 + wd) ∧ dp * (1 + wd) ≤ 136 := by
  have := h.w
  rcases h.d with rfl | rfl | rfl | rfl <;> omega
theorem pl12_ok {wd dp bt : Int} (h : In12 wd dp bt) (n : Nat) (hn : (n : Int) = 3 + dp * (1 + wd)) : (pl12 wd dp).ok n := ⟨by show (0 : Int) ≤ 1; omega, by show (1 : Int) < 2; omega, h.w, h.d, by show 2 + dp * (1 + wd) ≤ 2 + dp * (1 + wd); omega, by show 2 + dp * (1 + wd) < (n : Int); omega⟩
def qu12 (wd dp : Int) (own : Int) : Qu := ⟨0, 1, 1 + (1 + dp * (1 + wd)), 1 + (1 + own % dp * (1 + wd)), wd, dp⟩
theorem qu12_cell (wd dp own : Int) : (qu12 wd dp own).cell = (pl12 wd dp).cell own := by show 1 + (1 + own % dp * (1 + wd)) = 2 + own % dp * (1 + wd); omega
theorem qu12_fits (wd dp own : Int) : Fits (pl12 wd dp) (qu12 wd dp own) := ⟨rfl, by show 1 + (1 + dp * (1 + wd)) = 2 + dp * (1 + wd); omega, rfl, rfl⟩
theorem qu12_ok {wd dp bt : Int} (h : In12 wd dp bt) (own : Int) (n : Nat) (hn : (n : Int) = 3 + dp * (1 + wd)) : (qu12 wd dp own).ok n := by
  have hc := cell_at (pl12 wd dp) (pl12_ok h n hn) own
  have hb := dp_bound h
  rw [← qu12_cell] at hc
  refine ⟨by show (0 : Int) ≤ 0 ∧ (0 : Int) ≤ 200; omega, by show (0 : Int) ≤ 1 ∧ (1 : Int) < n; omega, by show 0 ≤ 1 + (1 + dp * (1 + wd)) ∧ 1 + (1 + dp * (1 + wd)) < (n : Int); omega, ?_, h.w, by show 1 ≤ dp ∧ dp ≤ 8; have := h.d; omega⟩
  have h1 : (2 : Int) ≤ (qu12 wd dp own).cell := hc.1
  have h2 : (qu12 wd dp own).cell + 1 + wd ≤ 2 + dp * (1 + wd) := hc.2
  exact ⟨by omega, by show (qu12 wd dp own).cell + 1 + wd ≤ (n : Int); omega⟩
set_option maxRecDepth 100000 in
set_option maxHeartbeats 4000000 in
theorem two12_any (wd dp bt : Int) (w : World) (hok : (two12 wd dp bt).ok) : Calls Tryz.prog 32 #[.int .i64 wd, .int .i64 dp, .int .u32 bt] w fun e w' => ∃ cs : Array Value, e = .returned (.agg cs) ∧ CfgAt w' (.agg cs) (two12 wd dp bt) ∧ Below w.heap.size w w' := by
  go_enter Tryz.func32, Tryz.ntmps32
  go_wp2
  refine bodyPost_ret (v := .agg #[.slice (some ⟨w.heap.size + 1, 0, none⟩) 2 2, .slice (some ⟨w.heap.size + 1 + 1, 0, none⟩) 1 1, .int .i64 1, .slice (some ⟨w.heap.size + 1 + 1 + 1 + 1, 0, none⟩) 1 1, .int .i64 1, .slice (some ⟨w.heap.size + 1 + 1 + 1 + 1 + 1, 0, none⟩) 1 1]) (results_cell_row rfl _ _ _ _ _ _ _ rfl (blk_al (blk_al (blk_al (blk_al (blk_al (blk_new _ _) _) _) _) _) _) Tryz.underlying31 rfl (by kernel_rfl)) rfl ⟨_, rfl, ⟨hok, _, 2, _, 1, _, 1, _, 1, rfl, ?_, ?_, ?_, ?_, ?_, ?_, ?_, ?_⟩, (by repeat (first | exact Below.refl _ _ | apply below_al))⟩
  · exact ⟨Nat.le_refl _, by unfold maxLen; omega⟩
  · exact ⟨Nat.le_refl _, by unfold maxLen; omega⟩
  · exact ⟨Nat.le_refl _, by unfold maxLen; omega⟩
  · exact ⟨Nat.le_refl _, by unfold maxLen; omega⟩
  · exact row_blk (blk_al (blk_al (blk_al (blk_al (blk_at (w := (w.alloc (.cells #[.slice (some ⟨w.heap.size + 1, 0, none⟩) 2 2, .slice (some ⟨w.heap.size + 1 + 1, 0, none⟩) 1 1, .int .i64 1, .slice (some ⟨w.heap.size + 1 + 1 + 1 + 1, 0, none⟩) 1 1, .int .i64 1, .slice (some ⟨w.heap.size + 1 + 1 + 1 + 1 + 1, 0, none⟩) 1 1] 31))) (by simp) _) _) _) _) _) rfl rfl (show 2 ≤ 100 by decide)
  · exact row_blk (blk_al (blk_al (blk_al (blk_at (w := ((w.alloc (.cells #[.slice (some ⟨w.heap.size + 1, 0, none⟩) 2 2, .slice (some ⟨w.heap.size + 1 + 1, 0, none⟩) 1 1, .int .i64 1, .slice (some ⟨w.heap.size + 1 + 1 + 1 + 1, 0, none⟩) 1 1, .int .i64 1, .slice (some ⟨w.heap.size + 1 + 1 + 1 + 1 + 1, 0, none⟩) 1 1] 31)).alloc (.cells #[.int .i64 0, .int .i64 1, .int .i64 1, .int .i64 0] 97))) (by simp) _) _) _) _) rfl rfl (show 1 ≤ 100 by decide)
  · exact row_blk (blk_al (blk_at (w := ((((w.alloc (.cells #[.slice (some ⟨w.heap.size + 1, 0, none⟩) 2 2, .slice (some ⟨w.heap.size + 1 + 1, 0, none⟩) 1 1, .int .i64 1, .slice (some ⟨w.heap.size + 1 + 1 + 1 + 1, 0, none⟩) 1 1, .int .i64 1, .slice (some ⟨w.heap.size + 1 + 1 + 1 + 1 + 1, 0, none⟩) 1 1] 31)).alloc (.cells #[.int .i64 0, .int .i64 1, .int .i64 1, .int .i64 0] 97)).alloc (.cells #[.int .i64 2, .int .i64 0, .int .i64 1, .int .i64 wd, .int .i64 dp, .int .i64 0, .int .u32 bt] 52)).alloc (.cells #[.slice (some ⟨w.heap.size + 1, 0, none⟩) 2 2, .slice (some ⟨w.heap.size + 1 + 1, 0, none⟩) 1 1, .int .i64 1, .slice (some ⟨w.heap.size + 1 + 1 + 1 + 1, 0, none⟩) 1 1, .int .i64 1, .slice (some ⟨w.heap.size + 1 + 1 + 1 + 1 + 1, 0, none⟩) 1 1] 31))) (by simp) _) _) rfl rfl (show 1 ≤ 100 by decide)
  · exact row_blk (blk_at (w := (((((w.alloc (.cells #[.slice (some ⟨w.heap.size + 1, 0, none⟩) 2 2, .slice (some ⟨w.heap.size + 1 + 1, 0, none⟩) 1 1, .int .i64 1, .slice (some ⟨w.heap.size + 1 + 1 + 1 + 1, 0, none⟩) 1 1, .int .i64 1, .slice (some ⟨w.heap.size + 1 + 1 + 1 + 1 + 1, 0, none⟩) 1 1] 31)).alloc (.cells #[.int .i64 0, .int .i64 1, .int .i64 1, .int .i64 0] 97)).alloc (.cells #[.int .i64 2, .int .i64 0, .int .i64 1, .int .i64 wd, .int .i64 dp, .int .i64 0, .int .u32 bt] 52)).alloc (.cells #[.slice (some ⟨w.heap.size + 1, 0, none⟩) 2 2, .slice (some ⟨w.heap.size + 1 + 1, 0, none⟩) 1 1, .int .i64 1, .slice (some ⟨w.heap.size + 1 + 1 + 1 + 1, 0, none⟩) 1 1, .int .i64 1, .slice (some ⟨w.heap.size + 1 + 1 + 1 + 1 + 1, 0, none⟩) 1 1] 31)).alloc (.cells #[.int .i64 0, .int .i64 0, .int .i64 1] 99))) (by simp) _) rfl rfl (show 1 ≤ 100 by decide)
structure Cf12 where
  (pa : Option Addr) (pc cg co cc : Nat) (a0 : Option Addr) (c0 : Nat) (a1 : Option Addr) (c1 : Nat)
structure Cf12Ok (w0 : World) (kc : Cf12) (wd dp bt : Int) : Prop where
  cfg : CfgAt w0 (.agg #[.slice kc.pa 2 kc.pc, .slice (some ⟨kc.cg, kc.co, none⟩) 1 kc.cc, .int .i64 1, .slice kc.a0 1 kc.c0, .int .i64 1, .slice kc.a1 1 kc.c1]) (two12 wd dp bt)
  lt : kc.cg < w0.heap.size
  words : w0.cell? ⟨kc.cg, kc.co + 3, none⟩ = some (.int .i64 wd)
  depth : w0.cell? ⟨kc.cg, kc.co + 4, none⟩ = some (.int .i64 dp)
  boot : w0.cell? ⟨kc.cg, kc.co + 6, none⟩ = some (.int .u32 bt)
  i : In12 wd dp bt
theorem Cf12Ok.below {w0 w : World} {kc : Cf12} {wd dp bt : Int} (h : Cf12Ok w0 kc wd dp bt) (hb : Below w0.heap.size w0 w) : Cf12Ok w kc wd dp bt :=
  ⟨h.cfg.below hb, Nat.lt_of_lt_of_le h.lt hb.size, (hb.cell (p := ⟨kc.cg, kc.co + 3, none⟩) h.lt).trans h.words, (hb.cell (p := ⟨kc.cg, kc.co + 4, none⟩) h.lt).trans h.depth, (hb.cell (p := ⟨kc.cg, kc.co + 6, none⟩) h.lt).trans h.boot, h.i⟩
theorem cf12_of {w : World} {cs : Array Value} {wd dp bt : Int} (h : CfgAt w (.agg cs) (two12 wd dp bt)) (hi : In12 wd dp bt) : ∃ kc : Cf12, cs = #[.slice kc.pa 2 kc.pc, .slice (some ⟨kc.cg, kc.co, none⟩) 1 kc.cc, .int .i64 1, .slice kc.a0 1 kc.c0, .int .i64 1, .slice kc.a1 1 kc.c1] ∧ Cf12Ok w kc wd dp bt := by
  have h0 := h
  obtain ⟨ho, pa, pc, ca, cc, a0, c0, a1, c1, hv, b1, b2, b3, b4, hpr, hc, hw0, hw1⟩ := h
  obtain ⟨g, o, rfl, hg, hcc⟩ := hc.at (show 0 < 1 by decide)
  have e : cs = _ := Value.agg.inj hv
  refine ⟨⟨pa, pc, g, o, cc, a0, c0, a1, c1⟩, e, ?_⟩
  rw [e] at h0
  exact ⟨h0, hg, (hcc 3 (by show 3 < 1 * 7; decide)).trans rfl, (hcc 4 (by show 4 < 1 * 7; decide)).trans rfl, (hcc 6 (by show 6 < 1 * 7; decide)).trans rfl, hi⟩
theorem receive_two {kc : Cf12} {wd dp bt : Int} (own : Int) (hown : 0 ≤ own ∧ own < 4294967296) (w : World) (h : Cf12Ok w kc wd dp bt) :
    Calls Tryz.prog 39 #[.agg #[.slice kc.pa 2 kc.pc, .slice (some ⟨kc.cg, kc.co, none⟩) 1 kc.cc, .int .i64 1, .slice kc.a0 1 kc.c0, .int .i64 1, .slice kc.a1 1 kc.c1], .int .i64 0, .int .u32 own] w fun e w' => ∃ O g QB OBB DB EB WB : Nat, e = .returned (.pointer (some ⟨O, 0, none⟩)) ∧ RcvNew w' (qu12 wd dp own) own O g QB OBB DB EB WB ∧ Below w.heap.size w w' ∧ w.heap.size ≤ O ∧ w.heap.size ≤ g ∧ w.heap.size ≤ QB ∧ w.heap.size ≤ OBB ∧ w.heap.size ≤ DB ∧ w.heap.size ≤ EB ∧ w.heap.size ≤ WB := by
  have hd := h.i.d
  have hm : 0 ≤ own % dp ∧ own % dp < dp := ⟨Int.emod_nonneg _ (by omega), Int.emod_lt_of_pos _ (by omega)⟩
  exact rgReceive_any _ (two12 wd dp bt) (two12_small _ _ _) 0 (show 0 < 1 by decide) ⟨2, 0, 1, wd, dp, 0, bt⟩ rfl own hown (show 1 ≤ dp ∧ dp ≤ 8 by omega) _ _ _ _ _ _ (two12_src h.i) (two12_dst h.i) (two12_cell h.i (own % dp) hm.1 hm.2) w h.cfg
theorem size_two12 {kc : Cf12} {wd dp bt : Int} (w : World) (h : Cf12Ok w kc wd dp bt) : Calls Tryz.prog 14 #[.agg #[.slice kc.pa 2 kc.pc, .slice (some ⟨kc.cg, kc.co, none⟩) 1 kc.cc, .int .i64 1, .slice kc.a0 1 kc.c0, .int .i64 1, .slice kc.a1 1 kc.c1]] w fun e w' => e = .returned (.int .i64 (3 + dp * (1 + wd))) ∧ Below w.heap.size w w' := by
  refine (rsize_any _ (two12 wd dp bt) (two12_small _ _ _) w h.cfg).mono ?_
  rw [two12_size h.i]
  exact fun e w' h => h
theorem src_two12 {kc : Cf12} {wd dp bt : Int} (w : World) (h : Cf12Ok w kc wd dp bt) : Calls Tryz.prog 47 #[.agg #[.slice kc.pa 2 kc.pc, .slice (some ⟨kc.cg, kc.co, none⟩) 1 kc.cc, .int .i64 1, .slice kc.a0 1 kc.c0, .int .i64 1, .slice kc.a1 1 kc.c1], .int .i64 0] w fun e w' => e = .returned (.agg #[.int .i64 1, .int .i64 (1 + dp * (1 + wd))]) ∧ Below w.heap.size w w' := by
  refine (rsource0_any _ (two12 wd dp bt) (two12_small _ _ _) (0 : Nat) w h.cfg).mono ?_
  rw [two12_src h.i]
  exact fun e w' h => h
theorem dst_two12 {kc : Cf12} {wd dp bt : Int} (w : World) (h : Cf12Ok w kc wd dp bt) : Calls Tryz.prog 48 #[.agg #[.slice kc.pa 2 kc.pc, .slice (some ⟨kc.cg, kc.co, none⟩) 1 kc.cc, .int .i64 1, .slice kc.a0 1 kc.c0, .int .i64 1, .slice kc.a1 1 kc.c1], .int .i64 0] w fun e w' => e = .returned (.agg #[.int .i64 (1 + (1 + dp * (1 + wd))), .int .i64 1]) ∧ Below w.heap.size w w' := by
  refine (rdest_any _ (two12 wd dp bt) (two12_small _ _ _) (0 : Nat) w h.cfg).mono ?_
  rw [two12_dst h.i]
  exact fun e w' h => h
set_option maxHeartbeats 1000000 in
theorem psize_any {kc : Cf12} {wd dp bt : Int} (n : Nat) (hn : n < 4294967296) (P : Nat) (w : World) (h : Cf12Ok w kc wd dp bt) (c1 : w.cell? ⟨P, 1, none⟩ = some (.slice (some ⟨kc.cg, kc.co, none⟩) 1 kc.cc)) (lP : P < w.heap.size) :
    Calls Tryz.prog 58 #[.pointer (some ⟨P, 0, none⟩), .int .i64 n] w fun e w' => e = .returned (.int .i64 ((1 + n % wd.toNat : Nat) : Int)) ∧ w' = w := by
  have hlt := h.lt
  have cw := h.words
  have hw := h.i.w
  have m6 : (wd == 0) = false := by simp; omega
  have m8 : ¬ wd = 0 := by omega
  obtain ⟨L, hL⟩ : ∃ L : Nat, 1 + n % wd.toNat = L := ⟨_, rfl⟩
  have hlm := Nat.mod_lt n (show 0 < wd.toNat by omega)
  have hrem : Int.tmod (n : Int) wd = ((L : Int) - 1) := by
    rw [Int.tmod_eq_emod_of_nonneg (by omega)]
    have e : (((n % wd.toNat : Nat)) : Int) = (n : Int) % wd := by
      rw [Int.natCast_emod]
      congr 1
      omega
    omega
  have m4 : IntKind.i64.wrap (Int.tmod (n : Int) wd) = (L : Int) - 1 := by rw [hrem]; exact IntWalk.i64_in _ (by omega)
  have m4b : IntKind.i64.wrap ((L : Int) - 1) = (L : Int) - 1 := IntWalk.i64_in _ (by omega)
  have m5 : IntKind.i64.wrap (1 + ((L : Int) - 1)) = (L : Int) := by rw [show 1 + ((L : Int) - 1) = (L : Int) by omega]; exact IntWalk.i64_in _ (by omega)
  rw [hL]
  clear h hL hlm
  go_enter Tryz.func58, Tryz.ntmps58
  go_wp2
  go_ret
  exact ⟨rfl, rfl⟩
end
end Go.Proofs.YtmidcnfmphlneaaGreat

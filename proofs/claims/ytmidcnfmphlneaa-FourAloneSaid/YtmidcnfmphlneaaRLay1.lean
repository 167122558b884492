/- Contracts of the layout's reference. -/
import Derived.Test.YtmidcnfmphlneaaLay7
namespace Go.Proofs.Ytmidcnfmphlneaa
open Go.RowKit
set_option linter.unusedSimpArgs false
set_option linter.unusedVariables false

theorem ret_span {a b c d : Int} (h1 : a = c) (h2 : b = d) : Ending.returned (.agg #[.int .i64 a, .int .i64 b]) = .returned (.agg #[.int .i64 c, .int .i64 d]) := by rw [h1, h2]
set_option maxHeartbeats 400000 in
theorem rsource_any (x : Chn) (h1 : 1 ≤ x.words) (h2 : x.words ≤ 16) (h3 : 0 ≤ x.depth) (h4 : x.depth ≤ 8) (w : World) : Calls Try.prog 27 #[.agg #[.int .i64 x.kind, .int .i64 x.frm, .int .i64 x.to, .int .i64 x.words, .int .i64 x.depth, .int .i64 x.period, .int .u32 x.boot]] w fun e w' => e = .returned (.int .i64 (sizedC x)) ∧ Below w.heap.size w w' := by
  obtain ⟨kd, fr, to, wd, dp, pe, bo⟩ := x
  dsimp only at h1 h2 h3 h4
  by_cases hk : kd = 1
  · have HS : Kp (sizedC ⟨kd, fr, to, wd, dp, pe, bo⟩ = 3 + 4 * (2 + wd)) := ⟨if_pos hk⟩
    have s2 : IntKind.i64.wrap (4 * wd) = 4 * wd := IntWalk.i64_in _ (by omega)
    have s3 : IntKind.i64.wrap (11 + 4 * wd) = 11 + 4 * wd := IntWalk.i64_in _ (by omega)
    subst hk
    go_enter Try.func27, Try.ntmps27
    go_wp2
    go_ret
    exact ⟨ret_int (by rw [HS.out]; omega), (by repeat (first | exact Below.refl _ _ | apply below_al))⟩
  · have HS : Kp (sizedC ⟨kd, fr, to, wd, dp, pe, bo⟩ = 1 + dp * (1 + wd)) := ⟨if_neg hk⟩
    have hk' : (kd == 1) = false := by simpa using hk
    obtain ⟨m, hm⟩ : ∃ m, dp * wd = m := ⟨_, rfl⟩
    have hm1 : 0 ≤ m := hm ▸ Int.mul_nonneg h3 (by omega)
    have hm2 : m ≤ 8 * 16 := hm ▸ Int.mul_le_mul h4 (by omega) (by omega) (by omega)
    have HS2 : Kp (sizedC ⟨kd, fr, to, wd, dp, pe, bo⟩ = 1 + dp + m) := ⟨by rw [HS.out, Int.mul_add, hm]; omega⟩
    have s1 : IntKind.i64.wrap (1 + dp) = 1 + dp := IntWalk.i64_in _ (by omega)
    have s2 : IntKind.i64.wrap (dp * wd) = m := by rw [hm]; exact IntWalk.i64_in _ (by omega)
    have s3 : IntKind.i64.wrap (1 + dp + m) = 1 + dp + m := IntWalk.i64_in _ (by omega)
    clear hm
    go_enter Try.func27, Try.ntmps27
    go_wp2
    go_ret
    exact ⟨ret_int HS2.out.symm, (by repeat (first | exact Below.refl _ _ | apply below_al))⟩

set_option maxRecDepth 100000 in
set_option maxHeartbeats 4000000 in
theorem rbefore_any (cv : Value) (C : Cfg) (hsm : C.small) (ha : accB C = true) (k : Nat) (hk : k ≤ C.chans.length) (w : World) (h : CfgAt w cv C) : Calls Try.prog 20 #[cv, .int .i64 k] w fun e w' => e = .returned (.int .i64 (befC C k)) ∧ Below w.heap.size w w' := by
  have hs1 := hsm.1
  have hs2 := hsm.2.1
  obtain ⟨ho, pa, pc, ca, cc, a0, c0, a1, c1, rfl, bp, bc, b0, b1, hp, hc, hw0, hw1⟩ := h
  have HP := Kp.mk hp
  have HCH := Kp.mk hc
  clear hp hc hw0 hw1 ho
  go_enter Try.func20, Try.ntmps20
  go_wp2_with fail
  go_loopw [5, 6] (fun n i wr => ∃ j : Nat, j ≤ C.parts.length ∧ i = .int .i64 j ∧ n = .int .i64 (privS C j) ∧ Kp (Below w.heap.size w wr) ∧ Kp (wr.heap[w.heap.size]? = some (.cells #[.slice pa C.parts.length pc, .slice ca C.chans.length cc, .int .i64 C.l0, .slice a0 C.w0.length c0, .int .i64 C.l1, .slice a1 C.w1.length c1] 31 (0, 0)))) (fun n i wr => C.parts.length - (intOf i).toNat)
  case atStart => exact ⟨0, Nat.zero_le _, rfl, rfl, ⟨below_al (Below.refl _ _) _⟩, ⟨blk_new w _⟩⟩
  case round =>
    obtain ⟨j, hj, rfl, rfl, HB, HK⟩ := hrel
    have q0 : wr.cell? ⟨w.heap.size, 0, none⟩ = some (.slice pa C.parts.length pc) := (cell_blk HK.out 0).trans rfl
    have q1 : wr.cell? ⟨w.heap.size, 1, none⟩ = some (.slice ca C.chans.length cc) := (cell_blk HK.out 1).trans rfl
    have lq := blk_lt HK.out
    by_cases hlt : j < C.parts.length
    · have HNS := Kp.mk (privS_succ C j hlt)
      have hps := privS_small ha j
      have hps2 := part_small ha j hlt
      obtain ⟨g, o, ha', hg, hcc⟩ := HP.out.at (by omega)
      obtain ⟨x, hx⟩ : ∃ x, C.parts[j] = x := ⟨_, rfl⟩
      have e1 : wr.cell? ⟨g, o + j * 2 + 1, none⟩ = some (.int .i64 x.2) := by
        have h1 := hcc (j * 2 + 1) (by omega)
        rw [flat_at partC 2 partC_len C.parts j 1 (by omega) (by omega), hx] at h1
        exact (HB.out.cell (p := ⟨g, o + (j * 2 + 1), none⟩) hg).trans h1
      subst ha'
      rw [hx] at HNS hps2
      obtain ⟨ps, hps'⟩ : ∃ ps, privS C j = ps := ⟨_, rfl⟩
      rw [hps'] at hps ⊢
      have HPS := Kp.mk hps'
      have hgr : g < wr.heap.size := Nat.lt_of_lt_of_le hg HB.out.size
      clear hcc hx hps'
      go_wp2
      go_roundw
      case rel => exact ⟨j + 1, by omega, by go_num, by rw [HNS.out, HPS.out], HB, HK⟩
      case measure => simp [intOf]; omega
    · obtain rfl : j = C.parts.length := by omega
      obtain ⟨wo, rfl⟩ : ∃ wo : World, wo = wr := ⟨_, rfl⟩
      have hzero : befC C 0 = privS C C.parts.length := by simp [befC]
      rw [← hzero]
      clear hzero
      go_wp2_with fail
      go_loopw [5, 7] (fun n i wr => ∃ m : Nat, m ≤ k ∧ i = .int .i64 m ∧ n = .int .i64 (befC C m) ∧ Kp (Below w.heap.size w wr) ∧ Kp (wr.heap[w.heap.size]? = some (.cells #[.slice pa C.parts.length pc, .slice ca C.chans.length cc, .int .i64 C.l0, .slice a0 C.w0.length c0, .int .i64 C.l1, .slice a1 C.w1.length c1] 31 (0, 0)))) (fun n i wr => k - (intOf i).toNat)
      case atStart => exact ⟨0, Nat.zero_le _, rfl, rfl, HB, HK⟩
      case round =>
        clear HB HK q0 q1 lq
        obtain ⟨m, hm, rfl, rfl, HB, HK⟩ := hrel
        have q0 : wr.cell? ⟨w.heap.size, 0, none⟩ = some (.slice pa C.parts.length pc) := (cell_blk HK.out 0).trans rfl
        have q1 : wr.cell? ⟨w.heap.size, 1, none⟩ = some (.slice ca C.chans.length cc) := (cell_blk HK.out 1).trans rfl
        have lq := blk_lt HK.out
        by_cases hlt2 : m < k
        · have hml : m < C.chans.length := by omega
          have HNS := Kp.mk (befC_succ C m hml)
          have hps := befC_small ha m
          have hcs := chn_small ha (List.getElem_mem hml)
          obtain ⟨g, o, ha', hg, hcc⟩ := HCH.out.at (by omega)
          obtain ⟨x, hx⟩ : ∃ x, C.chans[m] = x := ⟨_, rfl⟩
          have hcu : ∀ j, j < 7 → wr.cell? ⟨g, o + m * 7 + j, none⟩ = (chanC x)[j]? := fun j hj => by
            have h1 := hcc (m * 7 + j) (by omega)
            rw [flat_at chanC 7 chanC_len C.chans m j hml hj, hx] at h1
            rw [Nat.add_assoc]
            exact (HB.out.cell (p := ⟨g, o + (m * 7 + j), none⟩) hg).trans h1
          have e0 : wr.cell? ⟨g, o + m * 7, none⟩ = some (.int .i64 x.kind) := hcu 0 (by omega)
          have e1 : wr.cell? ⟨g, o + m * 7 + 1, none⟩ = some (.int .i64 x.frm) := hcu 1 (by omega)
          have e2 : wr.cell? ⟨g, o + m * 7 + 2, none⟩ = some (.int .i64 x.to) := hcu 2 (by omega)
          have e3 : wr.cell? ⟨g, o + m * 7 + 3, none⟩ = some (.int .i64 x.words) := hcu 3 (by omega)
          have e4 : wr.cell? ⟨g, o + m * 7 + 4, none⟩ = some (.int .i64 x.depth) := hcu 4 (by omega)
          have e5 : wr.cell? ⟨g, o + m * 7 + 5, none⟩ = some (.int .i64 x.period) := hcu 5 (by omega)
          have e6 : wr.cell? ⟨g, o + m * 7 + 6, none⟩ = some (.int .u32 x.boot) := hcu 6 (by omega)
          rw [hx] at HNS hcs
          subst ha'
          obtain ⟨ps, hps'⟩ : ∃ ps, befC C m = ps := ⟨_, rfl⟩
          rw [hps'] at hps ⊢
          have HPS := Kp.mk hps'
          have hgr : g < wr.heap.size := Nat.lt_of_lt_of_le hg HB.out.size
          have hm0 : (0 : Int) ≤ (m : Int) := by omega
          have hm1 : (m : Int) < (C.chans.length : Int) := by omega
          clear hcc hcu hx hps'
          go_wp2_with fail
          refine (rsource_any x (by omega) (by omega) (by omega) (by omega) _).mono ?_
          rintro e w3 ⟨rfl, hb3⟩
          have HB3 := Kp.mk (below_call HB.out hb3)
          have HK3 := Kp.mk (blk_below HK.out hb3)
          clear hb3 HB HK q0 q1 lq e0 e1 e2 e3 e4 e5 e6
          obtain ⟨sz, hszd⟩ : ∃ sz, sizedC x = sz := ⟨_, rfl⟩
          rw [hszd] at HNS hcs ⊢
          clear hszd
          go_wp2
          go_roundw
          case rel => exact ⟨m + 1, by omega, by go_num, by rw [HNS.out, HPS.out]; congr 1; omega, HB3, HK3⟩
          case measure => simp [intOf]; omega
        · obtain rfl : m = k := by omega
          go_wp2
          go_ret
          exact ⟨rfl, HB.out⟩

set_option maxRecDepth 100000 in
set_option maxHeartbeats 4000000 in
theorem rsize_yes (cv : Value) (C : Cfg) (hsm : C.small) (ha : accB C = true) (w : World) (h : CfgAt w cv C) : Calls Try.prog 10 #[cv] w fun e w' => e = .returned (.int .i64 (planE C)) ∧ Below w.heap.size w w' := by
  have HC := Kp.mk h
  have HE := Kp.mk (planE_acc C ha)
  obtain ⟨ho, pa, pc, ca, cc, a0, c0, a1, c1, rfl, bp, bc, b0, b1, hp, hc, hw0, hw1⟩ := h
  clear ho hp hc hw0 hw1
  go_enter Try.func10, Try.ntmps10
  have HB0 : Kp (Below w.heap.size w w) := ⟨Below.refl _ _⟩
  go_wp2_with fail
  refine (refAccepts_any _ C hsm _ (HC.out.below (below_al HB0.out _))).mono ?_
  rw [ha]
  rintro e w1 ⟨rfl, hb⟩
  have q1 : Kp (w1.heap[w.heap.size]? = some (.cells #[.slice pa C.parts.length pc, .slice ca C.chans.length cc, .int .i64 C.l0, .slice a0 C.w0.length c0, .int .i64 C.l1, .slice a1 C.w1.length c1] 31 (0, 0))) := ⟨blk_below (blk_new _ _) hb⟩
  have HB1 : Kp (Below w.heap.size w w1) := ⟨below_call (below_al HB0.out _) hb⟩
  clear HB0 hb
  have qc0 : w1.cell? ⟨w.heap.size, 0, none⟩ = some (.slice pa C.parts.length pc) := (cell_blk q1.out 0).trans rfl
  have qc1 : w1.cell? ⟨w.heap.size, 1, none⟩ = some (.slice ca C.chans.length cc) := (cell_blk q1.out 1).trans rfl
  have qc2 : w1.cell? ⟨w.heap.size, 2, none⟩ = some (.int .i64 C.l0) := (cell_blk q1.out 2).trans rfl
  have qc3 : w1.cell? ⟨w.heap.size, 3, none⟩ = some (.slice a0 C.w0.length c0) := (cell_blk q1.out 3).trans rfl
  have qc4 : w1.cell? ⟨w.heap.size, 4, none⟩ = some (.int .i64 C.l1) := (cell_blk q1.out 4).trans rfl
  have qc5 : w1.cell? ⟨w.heap.size, 5, none⟩ = some (.slice a1 C.w1.length c1) := (cell_blk q1.out 5).trans rfl
  have ql := blk_lt q1.out
  go_wp2_with fail
  refine (rbefore_any _ C hsm ha C.chans.length (Nat.le_refl _) _ (HC.out.below HB1.out)).mono ?_
  rintro e w2 ⟨rfl, hb⟩
  have q2 : Kp (w2.heap[w.heap.size]? = some (.cells #[.slice pa C.parts.length pc, .slice ca C.chans.length cc, .int .i64 C.l0, .slice a0 C.w0.length c0, .int .i64 C.l1, .slice a1 C.w1.length c1] 31 (0, 0))) := ⟨blk_below q1.out hb⟩
  have HB2 : Kp (Below w.heap.size w w2) := ⟨below_call HB1.out hb⟩
  clear qc0 qc1 qc2 qc3 qc4 qc5 ql q1 HB1 hb
  have qc0 : w2.cell? ⟨w.heap.size, 0, none⟩ = some (.slice pa C.parts.length pc) := (cell_blk q2.out 0).trans rfl
  have qc1 : w2.cell? ⟨w.heap.size, 1, none⟩ = some (.slice ca C.chans.length cc) := (cell_blk q2.out 1).trans rfl
  have qc2 : w2.cell? ⟨w.heap.size, 2, none⟩ = some (.int .i64 C.l0) := (cell_blk q2.out 2).trans rfl
  have qc3 : w2.cell? ⟨w.heap.size, 3, none⟩ = some (.slice a0 C.w0.length c0) := (cell_blk q2.out 3).trans rfl
  have qc4 : w2.cell? ⟨w.heap.size, 4, none⟩ = some (.int .i64 C.l1) := (cell_blk q2.out 4).trans rfl
  have qc5 : w2.cell? ⟨w.heap.size, 5, none⟩ = some (.slice a1 C.w1.length c1) := (cell_blk q2.out 5).trans rfl
  have ql := blk_lt q2.out
  go_wp2
  go_ret
  exact ⟨(by rw [HE.out]; rfl), HB2.out⟩

set_option maxRecDepth 100000 in
set_option maxHeartbeats 4000000 in
theorem rsize_no (cv : Value) (C : Cfg) (hsm : C.small) (ha : accB C = false) (w : World) (h : CfgAt w cv C) : Calls Try.prog 10 #[cv] w fun e w' => e = .returned (.int .i64 (planE C)) ∧ Below w.heap.size w w' := by
  have HC := Kp.mk h
  have HE := Kp.mk (planE_no C ha)
  obtain ⟨ho, pa, pc, ca, cc, a0, c0, a1, c1, rfl, bp, bc, b0, b1, hp, hc, hw0, hw1⟩ := h
  clear ho hp hc hw0 hw1
  go_enter Try.func10, Try.ntmps10
  have HB0 : Kp (Below w.heap.size w w) := ⟨Below.refl _ _⟩
  go_wp2_with fail
  refine (refAccepts_any _ C hsm _ (HC.out.below (below_al HB0.out _))).mono ?_
  rw [ha]
  rintro e w1 ⟨rfl, hb⟩
  have q1 : Kp (w1.heap[w.heap.size]? = some (.cells #[.slice pa C.parts.length pc, .slice ca C.chans.length cc, .int .i64 C.l0, .slice a0 C.w0.length c0, .int .i64 C.l1, .slice a1 C.w1.length c1] 31 (0, 0))) := ⟨blk_below (blk_new _ _) hb⟩
  have HB1 : Kp (Below w.heap.size w w1) := ⟨below_call (below_al HB0.out _) hb⟩
  clear HB0 hb
  have qc0 : w1.cell? ⟨w.heap.size, 0, none⟩ = some (.slice pa C.parts.length pc) := (cell_blk q1.out 0).trans rfl
  have qc1 : w1.cell? ⟨w.heap.size, 1, none⟩ = some (.slice ca C.chans.length cc) := (cell_blk q1.out 1).trans rfl
  have qc2 : w1.cell? ⟨w.heap.size, 2, none⟩ = some (.int .i64 C.l0) := (cell_blk q1.out 2).trans rfl
  have qc3 : w1.cell? ⟨w.heap.size, 3, none⟩ = some (.slice a0 C.w0.length c0) := (cell_blk q1.out 3).trans rfl
  have qc4 : w1.cell? ⟨w.heap.size, 4, none⟩ = some (.int .i64 C.l1) := (cell_blk q1.out 4).trans rfl
  have qc5 : w1.cell? ⟨w.heap.size, 5, none⟩ = some (.slice a1 C.w1.length c1) := (cell_blk q1.out 5).trans rfl
  have ql := blk_lt q1.out
  go_wp2
  go_ret
  exact ⟨(by rw [HE.out]; rfl), HB1.out⟩
theorem rsize_any (cv : Value) (C : Cfg) (hsm : C.small) (w : World) (h : CfgAt w cv C) : Calls Try.prog 10 #[cv] w fun e w' => e = .returned (.int .i64 (planE C)) ∧ Below w.heap.size w w' := by
  cases ha : accB C with
  | true => exact rsize_yes cv C hsm ha w h
  | false => exact rsize_no cv C hsm ha w h

def chanB (C : Cfg) (k : Int) : Bool := decide (0 ≤ k ∧ k < C.chans.length) && accB C
theorem chanB_yes {C : Cfg} {k : Int} (h : chanB C k = true) : accB C = true ∧ 0 ≤ k ∧ k < C.chans.length := by
  rw [chanB, Bool.and_eq_true, decide_eq_true_iff] at h
  exact ⟨h.2, h.1⟩
theorem chanB_no {C : Cfg} {k : Int} (h : chanB C k = false) : ¬ (accB C = true ∧ 0 ≤ k ∧ k < C.chans.length) := fun hh => by
  rw [chanB, decide_eq_true hh.2, hh.1] at h; cases h

end Go.Proofs.Ytmidcnfmphlneaa

/- Contracts of package defect: the tests of windows, one by one. -/
import Derived.Test.YtmidcnfmphlneaaDef1
namespace Go.Proofs.Ytmidcnfmphlneaa
open Go.RowKit
set_option linter.unusedSimpArgs false
set_option linter.unusedVariables false

set_option maxHeartbeats 1000000 in
theorem foreign_any (cv : Value) (C : Cfg) (core : Bool) (x : Win) (w : World) (h : CfgAt w cv C) : Calls Try.prog 85 #[cv, .int .i64 (cI core), .agg #[.int .i64 x.part, .int .i64 x.start, .int .i64 x.len]] w fun e w' => e = .returned (.bool (foreignB C core x)) ∧ Below w.heap.size w w' := by
  have HC := Kp.mk h
  obtain ⟨ho, pa, pc, ca, cc, a0, c0, a1, c1, rfl, bp, bc, b0, b1, hp, hc, hw0, hw1⟩ := h
  obtain ⟨pt, st, ln⟩ := x
  dsimp only
  have HP := Kp.mk hp
  cases hs : strangeB C pt with
  | true =>
    have HV : Kp (foreignB C core ⟨pt, st, ln⟩ = true) := ⟨by rw [foreignB, hs]; rfl⟩
    clear hp hc hw0 hw1
    go_enter Try.func85, Try.ntmps85
    go_wp2_with fail
    refine (strange_any _ C pt true hs _ (HC.out.below (by repeat (first | exact Below.refl _ _ | apply below_al)))).mono ?_
    rintro e w1 ⟨rfl, hb1⟩
    go_wp2
    go_ret
    exact ⟨ret_bool HV.out.symm, below_call (by repeat (first | exact Below.refl _ _ | apply below_al)) hb1⟩
  | false =>
    have hin : ∃ j : Nat, pt = (j : Int) ∧ j < C.parts.length := by
      simp only [strangeB, Bool.not_eq_false', inB_iff] at hs
      exact ⟨pt.toNat, by omega, by omega⟩
    obtain ⟨j, rfl, hj⟩ := hin
    have HV : Kp (foreignB C core ⟨(j : Int), st, ln⟩ = ((C.parts[j].1 != cI core))) := ⟨by rw [foreignB, hs]; simp [hj]⟩
    obtain ⟨g, o, rfl, hg, hcc⟩ := HP.out.at (by omega)
    have hcj := hcc (j * 2 + 0) (by omega)
    rw [flat_at partC 2 partC_len C.parts j 0 hj (by omega)] at hcj
    have HCJ : Kp (w.cell? ⟨g, o + j * 2, none⟩ = some (.int .i64 C.parts[j].1)) := ⟨hcj⟩
    have HCH : Kp (w.cell? ⟨g, o + j * 2 + 1, none⟩ = some (.int .i64 C.parts[j].2)) := ⟨by
      have h2 := hcc (j * 2 + 1) (by omega)
      rw [flat_at partC 2 partC_len C.parts j 1 hj (by omega)] at h2
      exact h2⟩
    have hj0 : (0 : Int) ≤ (j : Int) := by omega
    have hj1 : (j : Int) < (C.parts.length : Int) := by omega
    clear hp hc hw0 hw1 hcj hcc
    go_enter Try.func85, Try.ntmps85
    go_wp2_with fail
    refine (strange_any _ C j false hs _ (HC.out.below (by repeat (first | exact Below.refl _ _ | apply below_al)))).mono ?_
    rintro e w1 ⟨rfl, hb1⟩
    have HB1 : Kp (Below w.heap.size w w1) := ⟨below_call (by repeat (first | exact Below.refl _ _ | apply below_al)) hb1⟩
    have k0 : w1.heap[w.heap.size]? = some (.cells #[.slice (some ⟨g, o, none⟩) C.parts.length pc, .slice ca C.chans.length cc, .int .i64 C.l0, .slice a0 C.w0.length c0, .int .i64 C.l1, .slice a1 C.w1.length c1] 31 (0, 0)) := blk_below (blk_al (blk_new w _) _) hb1
    have k1 : w1.heap[w.heap.size + 1]? = some (.cells #[.int .i64 (j : Int), .int .i64 st, .int .i64 ln] 65 (0, 0)) := blk_below (blk_at (by simp) _) hb1
    have l0 := blk_lt k0
    have l1 := blk_lt k1
    have e0 : w1.cell? ⟨w.heap.size, 0, none⟩ = some (.slice (some ⟨g, o, none⟩) C.parts.length pc) := (cell_blk k0 0).trans rfl
    have e1 : w1.cell? ⟨w.heap.size + 1, 0, none⟩ = some (.int .i64 (j : Int)) := (cell_blk k1 0).trans rfl
    obtain ⟨q, hq⟩ : ∃ q, C.parts[j].1 = q := ⟨_, rfl⟩
    have e2 : w1.cell? ⟨g, o + j * 2, none⟩ = some (.int .i64 q) := (HB1.out.cell (p := ⟨g, _, none⟩) hg).trans (HCJ.out.trans (by rw [hq]))
    have HV2 : Kp (foreignB C core ⟨(j : Int), st, ln⟩ = (q != cI core)) := ⟨by rw [HV.out, hq]⟩
    clear hb1 k0 k1 hq
    go_wp2
    all_goals
      go_ret
      exact ⟨ret_bool (by have h := HV2.out; first | exact h.symm | (rw [h]; simp [*]; done) | (rw [h]; simp_all; done)), HB1.out⟩

set_option maxHeartbeats 1000000 in
theorem beyond_any (x : Win) (en : Int) (h0 : 0 ≤ x.start) (h1 : I64 en) (b : Bool) (hb : beyondB x en = b) (w : World) : Calls Try.prog 98 #[.agg #[.int .i64 x.part, .int .i64 x.start, .int .i64 x.len], .int .i64 en] w fun e w' => e = .returned (.bool b) ∧ Below w.heap.size w w' := by
  subst hb
  obtain ⟨pt, st, ln⟩ := x
  dsimp only at h0 ⊢
  have hle := h1.le
  by_cases h2 : en < st
  · go_enter Try.func98, Try.ntmps98
    go_wp2
    go_ret
    exact ⟨ret_bool (by simp [beyondB, h2]), (by repeat (first | exact Below.refl _ _ | apply below_al))⟩
  · have s1 : IntKind.i64.wrap (en - st) = en - st := IntWalk.i64_in _ (by omega)
    have h3 : decide (en < st) = false := decide_eq_false h2
    by_cases h4 : en - st < ln
    · go_enter Try.func98, Try.ntmps98
      go_wp2
      go_ret
      exact ⟨ret_bool (by simp [beyondB, h4]), (by repeat (first | exact Below.refl _ _ | apply below_al))⟩
    · have h5 : decide (en - st < ln) = false := decide_eq_false h4
      go_enter Try.func98, Try.ntmps98
      go_wp2
      go_ret
      exact ⟨ret_bool (by simp [beyondB, h2, h4]), (by repeat (first | exact Below.refl _ _ | apply below_al))⟩

set_option maxHeartbeats 1000000 in
theorem outside0_any (cv : Value) (C : Cfg) (x : Win) (w : World) (h : CfgAt w cv C) : Calls Try.prog 86 #[cv, .int .i64 0, .agg #[.int .i64 x.part, .int .i64 x.start, .int .i64 x.len]] w fun e w' => e = .returned (.bool (outsideB C false x)) ∧ Below w.heap.size w w' := by
  obtain ⟨ho, pa, pc, ca, cc, a0, c0, a1, c1, rfl, bp, bc, b0, b1, hp, hc, hw0, hw1⟩ := h
  have hlen : I64 C.l0 := by first | exact ho.2.2.1 | exact ho.2.2.2.1
  have HO : Kp (outsideB C false x = (decide (x.start < 0) || decide (x.len < 1) || beyondB x C.l0)) := ⟨rfl⟩
  clear hp hc hw0 hw1
  by_cases h1 : x.start < 0
  · have HV : Kp (outsideB C false x = true) := ⟨by rw [HO.out, decide_eq_true h1]; rfl⟩
    go_enter Try.func86, Try.ntmps86
    go_wp2_with fail
    go_quiet (fail)
    go_wp2
    go_ret
    exact ⟨ret_bool HV.out.symm, below_drN (by repeat (first | exact Below.refl _ _ | apply below_al))⟩
  · have h2 : decide (x.start < 0) = false := decide_eq_false h1
    by_cases h3 : x.len < 1
    · have HV : Kp (outsideB C false x = true) := ⟨by rw [HO.out, h2, decide_eq_true h3]; rfl⟩
      go_enter Try.func86, Try.ntmps86
      go_wp2_with fail
      go_quiet (fail)
      go_wp2
      go_ret
      exact ⟨ret_bool HV.out.symm, below_drN (by repeat (first | exact Below.refl _ _ | apply below_al))⟩
    · have h4 : decide (x.len < 1) = false := decide_eq_false h3
      have HV : Kp (outsideB C false x = beyondB x C.l0) := ⟨by rw [HO.out, h2, h4]; rfl⟩
      have h5 : 0 ≤ x.start := by omega
      obtain ⟨d, hd⟩ : ∃ d, beyondB x C.l0 = d := ⟨_, rfl⟩
      go_enter Try.func86, Try.ntmps86
      go_wp2_with fail
      have B0 : Below w.heap.size w ((w.alloc (.cells #[.slice pa C.parts.length pc, .slice ca C.chans.length cc, .int .i64 C.l0, .slice a0 C.w0.length c0, .int .i64 C.l1, .slice a1 C.w1.length c1] 31)).alloc (.cells #[.int .i64 x.part, .int .i64 x.start, .int .i64 x.len] 65)) := (by repeat (first | exact Below.refl _ _ | apply below_al))
      have HB0 := Kp.mk B0
      have k0 : ((w.alloc (.cells #[.slice pa C.parts.length pc, .slice ca C.chans.length cc, .int .i64 C.l0, .slice a0 C.w0.length c0, .int .i64 C.l1, .slice a1 C.w1.length c1] 31)).alloc (.cells #[.int .i64 x.part, .int .i64 x.start, .int .i64 x.len] 65)).heap[w.heap.size]? = some (.cells #[.slice pa C.parts.length pc, .slice ca C.chans.length cc, .int .i64 C.l0, .slice a0 C.w0.length c0, .int .i64 C.l1, .slice a1 C.w1.length c1] 31 (0, 0)) := blk_al (blk_new w _) _
      have k1 : ((w.alloc (.cells #[.slice pa C.parts.length pc, .slice ca C.chans.length cc, .int .i64 C.l0, .slice a0 C.w0.length c0, .int .i64 C.l1, .slice a1 C.w1.length c1] 31)).alloc (.cells #[.int .i64 x.part, .int .i64 x.start, .int .i64 x.len] 65)).heap[w.heap.size + 1]? = some (.cells #[.int .i64 x.part, .int .i64 x.start, .int .i64 x.len] 65 (0, 0)) := blk_at (by simp) _
      generalize ((w.alloc (.cells #[.slice pa C.parts.length pc, .slice ca C.chans.length cc, .int .i64 C.l0, .slice a0 C.w0.length c0, .int .i64 C.l1, .slice a1 C.w1.length c1] 31)).alloc (.cells #[.int .i64 x.part, .int .i64 x.start, .int .i64 x.len] 65)) = W1 at HB0 k0 k1 ⊢
      have l0 := blk_lt k0
      have l1 := blk_lt k1
      have e0 : W1.cell? ⟨w.heap.size, 2, none⟩ = some (.int .i64 C.l0) := (cell_blk k0 2).trans rfl
      have f0 : W1.cell? ⟨w.heap.size + 1, 0, none⟩ = some (.int .i64 x.part) := (cell_blk k1 0).trans rfl
      have f1 : W1.cell? ⟨w.heap.size + 1, 1, none⟩ = some (.int .i64 x.start) := (cell_blk k1 1).trans rfl
      have f2 : W1.cell? ⟨w.heap.size + 1, 2, none⟩ = some (.int .i64 x.len) := (cell_blk k1 2).trans rfl
      clear k0 k1 B0
      go_region_held3 (fun w' : World => Below W1.heap.size W1 w' ∧ w'.cell? ⟨w.heap.size, 2, none⟩ = some (.int .i64 C.l0) ∧ w'.cell? ⟨w.heap.size + 1, 0, none⟩ = some (.int .i64 x.part) ∧ w'.cell? ⟨w.heap.size + 1, 1, none⟩ = some (.int .i64 x.start) ∧ w'.cell? ⟨w.heap.size + 1, 2, none⟩ = some (.int .i64 x.len)) (first | exact ⟨below_dr (Below.refl _ _), e0, f0, f1, f2⟩ | exact hK1) (first
        | (go_at_call 98; (with_reducible refine (beyond_any x C.l0 h5 hlen d hd _).mono ?_); rintro e w2 ⟨rfl, hb⟩; have hS := ‹Below W1.heap.size W1 _ ∧ _›; have hK1 := (show Below W1.heap.size W1 w2 ∧ w2.cell? ⟨w.heap.size, 2, none⟩ = some (.int .i64 C.l0) ∧ w2.cell? ⟨w.heap.size + 1, 0, none⟩ = some (.int .i64 x.part) ∧ w2.cell? ⟨w.heap.size + 1, 1, none⟩ = some (.int .i64 x.start) ∧ w2.cell? ⟨w.heap.size + 1, 2, none⟩ = some (.int .i64 x.len) from ⟨below_call hS.1 hb, ((below_call hS.1 hb).cell (p := ⟨w.heap.size, _, none⟩) l0).trans e0, ((below_call hS.1 hb).cell (p := ⟨w.heap.size + 1, _, none⟩) l1).trans f0, ((below_call hS.1 hb).cell (p := ⟨w.heap.size + 1, _, none⟩) l1).trans f1, ((below_call hS.1 hb).cell (p := ⟨w.heap.size + 1, _, none⟩) l1).trans f2⟩)))
      have hb := And.left ‹Below W1.heap.size W1 _ ∧ _›
      go_wp2
      go_ret
      exact ⟨ret_bool (by rw [HV.out, hd]), below_call HB0.out hb⟩

set_option maxHeartbeats 1000000 in
theorem outside1_any (cv : Value) (C : Cfg) (x : Win) (w : World) (h : CfgAt w cv C) : Calls Try.prog 86 #[cv, .int .i64 1, .agg #[.int .i64 x.part, .int .i64 x.start, .int .i64 x.len]] w fun e w' => e = .returned (.bool (outsideB C true x)) ∧ Below w.heap.size w w' := by
  obtain ⟨ho, pa, pc, ca, cc, a0, c0, a1, c1, rfl, bp, bc, b0, b1, hp, hc, hw0, hw1⟩ := h
  have hlen : I64 C.l1 := by first | exact ho.2.2.1 | exact ho.2.2.2.1
  have HO : Kp (outsideB C true x = (decide (x.start < 0) || decide (x.len < 1) || beyondB x C.l1)) := ⟨rfl⟩
  clear hp hc hw0 hw1
  by_cases h1 : x.start < 0
  · have HV : Kp (outsideB C true x = true) := ⟨by rw [HO.out, decide_eq_true h1]; rfl⟩
    go_enter Try.func86, Try.ntmps86
    go_wp2_with fail
    go_quiet (fail)
    go_wp2
    go_ret
    exact ⟨ret_bool HV.out.symm, below_drN (by repeat (first | exact Below.refl _ _ | apply below_al))⟩
  · have h2 : decide (x.start < 0) = false := decide_eq_false h1
    by_cases h3 : x.len < 1
    · have HV : Kp (outsideB C true x = true) := ⟨by rw [HO.out, h2, decide_eq_true h3]; rfl⟩
      go_enter Try.func86, Try.ntmps86
      go_wp2_with fail
      go_quiet (fail)
      go_wp2
      go_ret
      exact ⟨ret_bool HV.out.symm, below_drN (by repeat (first | exact Below.refl _ _ | apply below_al))⟩
    · have h4 : decide (x.len < 1) = false := decide_eq_false h3
      have HV : Kp (outsideB C true x = beyondB x C.l1) := ⟨by rw [HO.out, h2, h4]; rfl⟩
      have h5 : 0 ≤ x.start := by omega
      obtain ⟨d, hd⟩ : ∃ d, beyondB x C.l1 = d := ⟨_, rfl⟩
      go_enter Try.func86, Try.ntmps86
      go_wp2_with fail
      have B0 : Below w.heap.size w ((w.alloc (.cells #[.slice pa C.parts.length pc, .slice ca C.chans.length cc, .int .i64 C.l0, .slice a0 C.w0.length c0, .int .i64 C.l1, .slice a1 C.w1.length c1] 31)).alloc (.cells #[.int .i64 x.part, .int .i64 x.start, .int .i64 x.len] 65)) := (by repeat (first | exact Below.refl _ _ | apply below_al))
      have HB0 := Kp.mk B0
      have k0 : ((w.alloc (.cells #[.slice pa C.parts.length pc, .slice ca C.chans.length cc, .int .i64 C.l0, .slice a0 C.w0.length c0, .int .i64 C.l1, .slice a1 C.w1.length c1] 31)).alloc (.cells #[.int .i64 x.part, .int .i64 x.start, .int .i64 x.len] 65)).heap[w.heap.size]? = some (.cells #[.slice pa C.parts.length pc, .slice ca C.chans.length cc, .int .i64 C.l0, .slice a0 C.w0.length c0, .int .i64 C.l1, .slice a1 C.w1.length c1] 31 (0, 0)) := blk_al (blk_new w _) _
      have k1 : ((w.alloc (.cells #[.slice pa C.parts.length pc, .slice ca C.chans.length cc, .int .i64 C.l0, .slice a0 C.w0.length c0, .int .i64 C.l1, .slice a1 C.w1.length c1] 31)).alloc (.cells #[.int .i64 x.part, .int .i64 x.start, .int .i64 x.len] 65)).heap[w.heap.size + 1]? = some (.cells #[.int .i64 x.part, .int .i64 x.start, .int .i64 x.len] 65 (0, 0)) := blk_at (by simp) _
      generalize ((w.alloc (.cells #[.slice pa C.parts.length pc, .slice ca C.chans.length cc, .int .i64 C.l0, .slice a0 C.w0.length c0, .int .i64 C.l1, .slice a1 C.w1.length c1] 31)).alloc (.cells #[.int .i64 x.part, .int .i64 x.start, .int .i64 x.len] 65)) = W1 at HB0 k0 k1 ⊢
      have l0 := blk_lt k0
      have l1 := blk_lt k1
      have e0 : W1.cell? ⟨w.heap.size, 4, none⟩ = some (.int .i64 C.l1) := (cell_blk k0 4).trans rfl
      have f0 : W1.cell? ⟨w.heap.size + 1, 0, none⟩ = some (.int .i64 x.part) := (cell_blk k1 0).trans rfl
      have f1 : W1.cell? ⟨w.heap.size + 1, 1, none⟩ = some (.int .i64 x.start) := (cell_blk k1 1).trans rfl
      have f2 : W1.cell? ⟨w.heap.size + 1, 2, none⟩ = some (.int .i64 x.len) := (cell_blk k1 2).trans rfl
      clear k0 k1 B0
      go_region_held3 (fun w' : World => Below W1.heap.size W1 w' ∧ w'.cell? ⟨w.heap.size, 4, none⟩ = some (.int .i64 C.l1) ∧ w'.cell? ⟨w.heap.size + 1, 0, none⟩ = some (.int .i64 x.part) ∧ w'.cell? ⟨w.heap.size + 1, 1, none⟩ = some (.int .i64 x.start) ∧ w'.cell? ⟨w.heap.size + 1, 2, none⟩ = some (.int .i64 x.len)) (first | exact ⟨below_dr (Below.refl _ _), e0, f0, f1, f2⟩ | exact hK1) (first
        | (go_at_call 98; (with_reducible refine (beyond_any x C.l1 h5 hlen d hd _).mono ?_); rintro e w2 ⟨rfl, hb⟩; have hS := ‹Below W1.heap.size W1 _ ∧ _›; have hK1 := (show Below W1.heap.size W1 w2 ∧ w2.cell? ⟨w.heap.size, 4, none⟩ = some (.int .i64 C.l1) ∧ w2.cell? ⟨w.heap.size + 1, 0, none⟩ = some (.int .i64 x.part) ∧ w2.cell? ⟨w.heap.size + 1, 1, none⟩ = some (.int .i64 x.start) ∧ w2.cell? ⟨w.heap.size + 1, 2, none⟩ = some (.int .i64 x.len) from ⟨below_call hS.1 hb, ((below_call hS.1 hb).cell (p := ⟨w.heap.size, _, none⟩) l0).trans e0, ((below_call hS.1 hb).cell (p := ⟨w.heap.size + 1, _, none⟩) l1).trans f0, ((below_call hS.1 hb).cell (p := ⟨w.heap.size + 1, _, none⟩) l1).trans f1, ((below_call hS.1 hb).cell (p := ⟨w.heap.size + 1, _, none⟩) l1).trans f2⟩)))
      have hb := And.left ‹Below W1.heap.size W1 _ ∧ _›
      go_wp2
      go_ret
      exact ⟨ret_bool (by rw [HV.out, hd]), below_call HB0.out hb⟩
end Go.Proofs.Ytmidcnfmphlneaa

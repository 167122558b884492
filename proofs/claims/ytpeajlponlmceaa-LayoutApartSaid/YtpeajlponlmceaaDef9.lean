/- The contract of defect.Holds. -/
import Derived.Test.YtpeajlponlmceaaDef8
namespace Go.Proofs.Ytpeajlponlmceaa
open Go.RowKit
set_option linter.unusedSimpArgs false
set_option linter.unusedVariables false

def holdsB (C : Cfg) (k : Int) : Bool := inB k 1 17 && ruleB k.toNat C
set_option maxHeartbeats 400000 in
theorem within_same (n lo hi : Int) (b : Bool) (hb : inB n lo hi = b) (w : World) : Calls Try.prog 46 #[.int .i64 n, .int .i64 lo, .int .i64 hi] w fun e w' => e = .returned (.bool b) ∧ w' = w := by
  subst hb
  by_cases h1 : lo ≤ n
  · by_cases h2 : n ≤ hi
    · go_enter Try.func46, Try.ntmps46
      go_wp2
      go_ret
      exact ⟨ret_bool (inB_true ⟨h1, h2⟩).symm, rfl⟩
    · have h3 : decide (n ≤ hi) = false := decide_eq_false h2
      go_enter Try.func46, Try.ntmps46
      go_wp2
      go_ret
      exact ⟨ret_bool (inB_false (by omega)).symm, rfl⟩
  · have h3 : decide (lo ≤ n) = false := decide_eq_false h1
    go_enter Try.func46, Try.ntmps46
    go_wp2
    go_ret
    exact ⟨ret_bool (inB_false (by omega)).symm, rfl⟩

set_option maxRecDepth 100000 in
set_option maxHeartbeats 4000000 in
theorem defHolds_any (cv : Value) (C : Cfg) (hsm : C.small) (k : Int) (w : World) (h : CfgAt w cv C) : Calls Try.prog 17 #[cv, .int .i64 k] w fun e w' => e = .returned (.bool (holdsB C k)) ∧ Below w.heap.size w w' := by
  have HC := Kp.mk h
  obtain ⟨ho, pa, pc, ca, cc, a0, c0, a1, c1, rfl, bp, bc, b0, b1, hp, hc, hw0, hw1⟩ := h
  clear hp hc hw0 hw1
  have q17 : ((17 : Nat) : Int) = 17 := rfl
  cases hk : inB k 1 17 with
  | false =>
    have HV : Kp (holdsB C k = false) := ⟨by rw [holdsB, hk]; rfl⟩
    go_enter Try.func17, Try.ntmps17
    go_wp2_with fail
    refine (rules_any _).mono ?_
    rintro e w1 ⟨R, rfl, hR, hb1, hRl⟩
    have HB1 : Kp (Below w.heap.size w w1) := ⟨below_call (by repeat (first | exact Below.refl _ _ | apply below_al)) hb1⟩
    clear hb1
    go_wp2_with fail
    go_quiet ((go_at_call 46; exact Calls.quiet_of_same (within_same k 1 17 false hk _)))
    go_wp2
    go_ret
    exact ⟨ret_bool HV.out.symm, below_drN HB1.out⟩
  | true =>
    have hin := inB_iff.1 hk
    obtain ⟨j, hj⟩ : ∃ j : Nat, k = (j : Int) + 1 := ⟨(k - 1).toNat, by omega⟩
    have hj17 : j < 17 := by omega
    have HV : Kp (holdsB C k = ruleB (j + 1) C) := ⟨by rw [holdsB, hk, hj]; rfl⟩
    have s1 : IntKind.i64.wrap (k - 1) = (j : Int) := by rw [show k - 1 = (j : Int) by omega]; exact IntWalk.i64_in _ (by omega)
    have s2 : (0 : Int) ≤ (j : Int) := by omega
    have s3 : (j : Int) < 17 := by omega
    clear hj hin
    go_enter Try.func17, Try.ntmps17
    go_wp2_with fail
    refine (rules_any _).mono ?_
    rintro e w1 ⟨R, rfl, hR, hb1, hRl⟩
    have HB1 : Kp (Below w.heap.size w w1) := ⟨below_call (by repeat (first | exact Below.refl _ _ | apply below_al)) hb1⟩
    have K0 : w1.heap[w.heap.size]? = some (.cells #[.slice pa C.parts.length pc, .slice ca C.chans.length cc, .int .i64 C.l0, .slice a0 C.w0.length c0, .int .i64 C.l1, .slice a1 C.w1.length c1] 29 (0, 0)) := blk_below (blk_new w _) hb1
    have q0 : w1.cell? ⟨w.heap.size, 0, none⟩ = some (.slice pa C.parts.length pc) := (cell_blk K0 0).trans rfl
    have q1 : w1.cell? ⟨w.heap.size, 1, none⟩ = some (.slice ca C.chans.length cc) := (cell_blk K0 1).trans rfl
    have q2 : w1.cell? ⟨w.heap.size, 2, none⟩ = some (.int .i64 C.l0) := (cell_blk K0 2).trans rfl
    have q3 : w1.cell? ⟨w.heap.size, 3, none⟩ = some (.slice a0 C.w0.length c0) := (cell_blk K0 3).trans rfl
    have q4 : w1.cell? ⟨w.heap.size, 4, none⟩ = some (.int .i64 C.l1) := (cell_blk K0 4).trans rfl
    have q5 : w1.cell? ⟨w.heap.size, 5, none⟩ = some (.slice a1 C.w1.length c1) := (cell_blk K0 5).trans rfl
    have l0 := blk_lt K0
    obtain ⟨fs, hfs, hrs⟩ := hR.out
    obtain ⟨f, hf, bs, hown, fn, caps, rfl, hE, hr⟩ := hrs j hj17
    have l1 := blk_lt hfs
    have cR : w1.cell? ⟨R, j, none⟩ = some (.func (.func fn) #[] caps) := (cell_blk hfs j).trans hf
    have HR := Kp.mk hr
    have HOWN : Kp (∀ b, b ∈ bs → b < w1.heap.size) := ⟨fun b hm => (hown b hm).lt⟩
    have hE' := hE.out
    clear hb1 K0 hR hfs hrs hf hown hE hr
    go_wp2_with fail
    go_region_held3 (fun w' : World => Below (w1).heap.size (w1) w' ∧ ∀ b o, b < (w1).heap.size → w'.cell? ⟨b, o, none⟩ = (w1).cell? ⟨b, o, none⟩) (first | exact old_drew _ | exact old_call (by assumption) hb) (first
      | (go_at_call 46; (with_reducible refine (within_any k 1 17 true hk _).mono ?_); rintro e w2 ⟨rfl, hb⟩)
      | (refine (HR.out _ _ C (KeepB.of_below HOWN.out (And.left ‹Below w1.heap.size w1 _ ∧ _›)) (HC.out.below (below_call HB1.out (And.left ‹Below w1.heap.size w1 _ ∧ _›))) hsm).mono ?_; rintro e w2 ⟨rfl, hb⟩))
    have hb := And.left ‹Below w1.heap.size w1 _ ∧ _›
    go_wp2
    go_ret
    exact ⟨ret_bool HV.out.symm, below_call HB1.out hb⟩
end Go.Proofs.Ytpeajlponlmceaa

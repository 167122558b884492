/- Plain facts on spans: which addresses a span has, which spans meet, lie in one another.; Contracts of package span: which addresses a span has.; May a partition change an address of its own? By the reference (out of the layout's texts). -/
import Derived.Test.YtmidcnfmphlneaaGreatRows
import Derived.Test.YtmidcnfmphlneaaGreatQ0
import Derived.Test.YtmidcnfmphlneaaGreatQ27
namespace Go.Proofs.YtmidcnfmphlneaaGreat
section
/-- A span is right: From and Size are 0 or more and end at most at 2^31 - 1. -/
def rightB (f s : Int) : Bool := decide (0 ≤ f ∧ 0 ≤ s ∧ f ≤ 2147483647 ∧ s ≤ 2147483647 - f)
/-- It has an address. -/
def hasB (f s a : Int) : Bool := decide (0 ≤ f ∧ 0 ≤ s ∧ f ≤ 2147483647 ∧ s ≤ 2147483647 - f ∧ f ≤ a ∧ a < f + s)
theorem rightB_true {f s : Int} : rightB f s = true ↔ (0 ≤ f ∧ 0 ≤ s ∧ f ≤ 2147483647 ∧ s ≤ 2147483647 - f) := by unfold rightB; exact decide_eq_true_iff
theorem rightB_false {f s : Int} : rightB f s = false ↔ ¬ (0 ≤ f ∧ 0 ≤ s ∧ f ≤ 2147483647 ∧ s ≤ 2147483647 - f) := by unfold rightB; exact decide_eq_false_iff_not
end
section
open Go.RowKit
set_option linter.unusedSimpArgs false
set_option linter.unusedVariables false

set_option maxHeartbeats 400000 in
theorem rright_any (f s : Int) (b : Bool) (h : rightB f s = b) (w : World) :
    Calls Tryz.prog 78 #[.agg #[.int .i64 f, .int .i64 s]] w fun e w' => e = .returned (.bool b) ∧ Below w.heap.size w w' := by
  subst h
  go_enter Tryz.func78, Tryz.ntmps78
  go_wp2
  all_goals (go_ret; exact ⟨ret_bool (by unfold rightB; first | exact decide_eq_decide.2 (by omega) | exact (decide_eq_false (by omega)).symm), below_al (Below.refl _ _) _⟩)

set_option maxHeartbeats 400000 in
theorem rhas_any (f s a : Int) (b : Bool) (h : hasB f s a = b) (w : World) :
    Calls Tryz.prog 45 #[.agg #[.int .i64 f, .int .i64 s], .int .i64 a] w fun e w' => e = .returned (.bool b) ∧ Below w.heap.size w w' := by
  subst h
  cases hr : rightB f s with
  | true =>
    obtain ⟨h1, h2, h3, h4⟩ := rightB_true.1 hr
    go_enter Tryz.func45, Tryz.ntmps45
    go_wp2_with (go_at_call 78; refine (rright_any _ _ _ hr _).mono ?_; rintro e w1 ⟨rfl, hb⟩; obtain ⟨hc, hf⟩ := bcell hb)
    all_goals (go_ret; exact ⟨ret_bool (by unfold hasB; first | exact decide_eq_decide.2 (by omega) | exact (decide_eq_false (by omega)).symm), below_call (below_al (Below.refl _ _) _) hb⟩)
  | false =>
    have h1 := rightB_false.1 hr
    go_enter Tryz.func45, Tryz.ntmps45
    go_wp2_with (go_at_call 78; refine (rright_any _ _ _ hr _).mono ?_; rintro e w1 ⟨rfl, hb⟩; obtain ⟨hc, hf⟩ := bcell hb)
    all_goals (go_ret; exact ⟨ret_bool (by unfold hasB; exact (decide_eq_false (by omega)).symm), below_call (below_al (Below.refl _ _) _) hb⟩)
end
section
open Go.RowKit
set_option linter.unusedSimpArgs false
set_option linter.unusedVariables false
def hasS (s : Int × Int) (a : Int) : Bool := hasB s.1 s.2 a
def mayK (C : Cfg) (p a : Int) (k : Nat) : Bool := ((C.chans.getD k default).frm == p && hasS (srcB C k) a) || ((C.chans.getD k default).to == p && hasS (dstB C k) a)
def mayTo (C : Cfg) (p a : Int) (k : Nat) : Bool := (List.range k).any (mayK C p a)
def mayB (C : Cfg) (p a : Int) : Bool := hasS (privB C p) a || mayTo C p a C.chans.length
theorem rhasS_any (s : Int × Int) (a : Int) (b : Bool) (h : hasS s a = b) (w : World) : Calls Tryz.prog 45 #[.agg #[.int .i64 s.1, .int .i64 s.2], .int .i64 a] w fun e w' => e = .returned (.bool b) ∧ Below w.heap.size w w' := rhas_any s.1 s.2 a b h w
set_option maxRecDepth 100000 in
set_option maxHeartbeats 4000000 in
theorem rmay_priv (cv : Value) (C : Cfg) (hsm : C.small) (p a : Int) (hh : hasS (privB C p) a = true) (w : World) (h : CfgAt w cv C) : Calls Tryz.prog 18 #[cv, .int .i64 p, .int .i64 a] w fun e w' => e = .returned (.bool (mayB C p a)) ∧ Below w.heap.size w w' := by
  have HC := Kp.mk h
  have HH := Kp.mk hh
  have HM : Kp (mayB C p a = true) := ⟨by rw [mayB, hh]; rfl⟩
  obtain ⟨ho, pa, pc, ca, cc, a0, c0, a1, c1, rfl, bp, bc, b0, b1, hp, hc, hw0, hw1⟩ := h
  clear ho hp hc hw0 hw1 hh
  go_enter Tryz.func18, Tryz.ntmps18
  have HB0 : Kp (Below w.heap.size w w) := ⟨Below.refl _ _⟩
  go_wp2_with fail
  refine (rprivate_any _ C hsm p _ (HC.out.below (below_al HB0.out _))).mono ?_
  rintro e w1 ⟨rfl, hb⟩
  have q1 : Kp (w1.heap[w.heap.size]? = some (.cells #[.slice pa C.parts.length pc, .slice ca C.chans.length cc, .int .i64 C.l0, .slice a0 C.w0.length c0, .int .i64 C.l1, .slice a1 C.w1.length c1] 31 (0, 0))) := ⟨blk_below (blk_new _ _) hb⟩
  have HB1 : Kp (Below w.heap.size w w1) := ⟨below_call (below_al HB0.out _) hb⟩
  clear HB0 hb
  have qc0 := cbk q1.out 0 (.slice pa C.parts.length pc) rfl
  have qc1 := cbk q1.out 1 (.slice ca C.chans.length cc) rfl
  have qc2 := cbk q1.out 2 (.int .i64 C.l0) rfl
  have qc3 := cbk q1.out 3 (.slice a0 C.w0.length c0) rfl
  have qc4 := cbk q1.out 4 (.int .i64 C.l1) rfl
  have qc5 := cbk q1.out 5 (.slice a1 C.w1.length c1) rfl
  have ql := blk_lt q1.out
  go_wp2_with fail
  refine (rhasS_any (privB C p) a true HH.out _).mono ?_
  rintro e w2 ⟨rfl, hb⟩
  have q2 : Kp (w2.heap[w.heap.size]? = some (.cells #[.slice pa C.parts.length pc, .slice ca C.chans.length cc, .int .i64 C.l0, .slice a0 C.w0.length c0, .int .i64 C.l1, .slice a1 C.w1.length c1] 31 (0, 0))) := ⟨blk_below q1.out hb⟩
  have HB2 : Kp (Below w.heap.size w w2) := ⟨below_call HB1.out hb⟩
  clear qc0 qc1 qc2 qc3 qc4 qc5 ql q1 HB1 hb
  have qc0 := cbk q2.out 0 (.slice pa C.parts.length pc) rfl
  have qc1 := cbk q2.out 1 (.slice ca C.chans.length cc) rfl
  have qc2 := cbk q2.out 2 (.int .i64 C.l0) rfl
  have qc3 := cbk q2.out 3 (.slice a0 C.w0.length c0) rfl
  have qc4 := cbk q2.out 4 (.int .i64 C.l1) rfl
  have qc5 := cbk q2.out 5 (.slice a1 C.w1.length c1) rfl
  have ql := blk_lt q2.out
  go_wp2
  go_ret
  exact ⟨ret_bool (by rw [HM.out]), HB2.out⟩
end
end Go.Proofs.YtmidcnfmphlneaaGreat

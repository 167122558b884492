/- Contracts of package span: which addresses a span has. -/
import Derived.Test.YtpeajlponlmceaaRows
import Derived.Test.YtpeajlponlmceaaSpanPure
import Derived.Test.YtpeajlponlmceaaLib
namespace Go.Proofs.Ytpeajlponlmceaa
open Go.RowKit
set_option linter.unusedSimpArgs false
set_option linter.unusedVariables false

set_option maxHeartbeats 400000 in
theorem right_any (f s : Int) (b : Bool) (h : rightB f s = b) (w : World) :
    Calls Try.prog 94 #[.agg #[.int .i64 f, .int .i64 s]] w fun e w' => e = .returned (.bool b) ∧ Below w.heap.size w w' := by
  subst h
  go_enter Try.func94, Try.ntmps94
  go_wp2
  all_goals (go_ret; exact ⟨ret_bool (by unfold rightB; first | exact decide_eq_decide.2 (by omega) | exact (decide_eq_false (by omega)).symm), below_al (Below.refl _ _) _⟩)

set_option maxHeartbeats 400000 in
theorem rright_any (f s : Int) (b : Bool) (h : rightB f s = b) (w : World) :
    Calls Try.prog 62 #[.agg #[.int .i64 f, .int .i64 s]] w fun e w' => e = .returned (.bool b) ∧ Below w.heap.size w w' := by
  subst h
  go_enter Try.func62, Try.ntmps62
  go_wp2
  all_goals (go_ret; exact ⟨ret_bool (by unfold rightB; first | exact decide_eq_decide.2 (by omega) | exact (decide_eq_false (by omega)).symm), below_al (Below.refl _ _) _⟩)

set_option maxHeartbeats 400000 in
theorem has_any (f s a : Int) (b : Bool) (h : hasB f s a = b) (w : World) :
    Calls Try.prog 59 #[.agg #[.int .i64 f, .int .i64 s], .int .i64 a] w fun e w' => e = .returned (.bool b) ∧ Below w.heap.size w w' := by
  subst h
  cases hr : rightB f s with
  | true =>
    obtain ⟨h1, h2, h3, h4⟩ := rightB_true.1 hr
    go_enter Try.func59, Try.ntmps59
    go_wp2_with (go_at_call 94; refine (right_any _ _ _ hr _).mono ?_; rintro e w1 ⟨rfl, hb⟩; obtain ⟨hc, hf⟩ := bcell hb)
    all_goals (go_ret; exact ⟨ret_bool (by unfold hasB; first | exact decide_eq_decide.2 (by omega) | exact (decide_eq_false (by omega)).symm), below_call (below_al (Below.refl _ _) _) hb⟩)
  | false =>
    have h1 := rightB_false.1 hr
    go_enter Try.func59, Try.ntmps59
    go_wp2_with (go_at_call 94; refine (right_any _ _ _ hr _).mono ?_; rintro e w1 ⟨rfl, hb⟩; obtain ⟨hc, hf⟩ := bcell hb)
    all_goals (go_ret; exact ⟨ret_bool (by unfold hasB; exact (decide_eq_false (by omega)).symm), below_call (below_al (Below.refl _ _) _) hb⟩)

set_option maxHeartbeats 400000 in
theorem rhas_any (f s a : Int) (b : Bool) (h : hasB f s a = b) (w : World) :
    Calls Try.prog 60 #[.agg #[.int .i64 f, .int .i64 s], .int .i64 a] w fun e w' => e = .returned (.bool b) ∧ Below w.heap.size w w' := by
  subst h
  cases hr : rightB f s with
  | true =>
    obtain ⟨h1, h2, h3, h4⟩ := rightB_true.1 hr
    go_enter Try.func60, Try.ntmps60
    go_wp2_with (go_at_call 62; refine (rright_any _ _ _ hr _).mono ?_; rintro e w1 ⟨rfl, hb⟩; obtain ⟨hc, hf⟩ := bcell hb)
    all_goals (go_ret; exact ⟨ret_bool (by unfold hasB; first | exact decide_eq_decide.2 (by omega) | exact (decide_eq_false (by omega)).symm), below_call (below_al (Below.refl _ _) _) hb⟩)
  | false =>
    have h1 := rightB_false.1 hr
    go_enter Try.func60, Try.ntmps60
    go_wp2_with (go_at_call 62; refine (rright_any _ _ _ hr _).mono ?_; rintro e w1 ⟨rfl, hb⟩; obtain ⟨hc, hf⟩ := bcell hb)
    all_goals (go_ret; exact ⟨ret_bool (by unfold hasB; exact (decide_eq_false (by omega)).symm), below_call (below_al (Below.refl _ _) _) hb⟩)

end Go.Proofs.Ytpeajlponlmceaa

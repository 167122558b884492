/- Contracts of package span: which addresses a span has. -/
import Derived.Test.YtdajadfgiifioaaDoorRows
import Derived.Test.YtdajadfgiifioaaDoorSpanPure
import Derived.Test.YtdajadfgiifioaaDoorLib
namespace Go.Proofs.YtdajadfgiifioaaDoor
open Go.RowKit
set_option linter.unusedSimpArgs false
set_option linter.unusedVariables false

set_option maxHeartbeats 400000 in
theorem right_any (f s : Int) (b : Bool) (h : rightB f s = b) (w : World) :
    Calls Tryd.prog 84 #[.agg #[.int .i64 f, .int .i64 s]] w fun e w' => e = .returned (.bool b) ∧ Below w.heap.size w w' := by
  subst h
  go_enter Tryd.func84, Tryd.ntmps84
  go_wp2
  all_goals (go_ret; exact ⟨ret_bool (by unfold rightB; first | exact decide_eq_decide.2 (by omega) | exact (decide_eq_false (by omega)).symm), below_al (Below.refl _ _) _⟩)

set_option maxHeartbeats 400000 in
theorem rright_any (f s : Int) (b : Bool) (h : rightB f s = b) (w : World) :
    Calls Tryd.prog 64 #[.agg #[.int .i64 f, .int .i64 s]] w fun e w' => e = .returned (.bool b) ∧ Below w.heap.size w w' := by
  subst h
  go_enter Tryd.func64, Tryd.ntmps64
  go_wp2
  all_goals (go_ret; exact ⟨ret_bool (by unfold rightB; first | exact decide_eq_decide.2 (by omega) | exact (decide_eq_false (by omega)).symm), below_al (Below.refl _ _) _⟩)

set_option maxHeartbeats 400000 in
theorem has_any (f s a : Int) (b : Bool) (h : hasB f s a = b) (w : World) :
    Calls Tryd.prog 74 #[.agg #[.int .i64 f, .int .i64 s], .int .i64 a] w fun e w' => e = .returned (.bool b) ∧ Below w.heap.size w w' := by
  subst h
  cases hr : rightB f s with
  | true =>
    obtain ⟨h1, h2, h3, h4⟩ := rightB_true.1 hr
    go_enter Tryd.func74, Tryd.ntmps74
    go_wp2_with (go_at_call 84; refine (right_any _ _ _ hr _).mono ?_; rintro e w1 ⟨rfl, hb⟩; obtain ⟨hc, hf⟩ := bcell hb)
    all_goals (go_ret; exact ⟨ret_bool (by unfold hasB; first | exact decide_eq_decide.2 (by omega) | exact (decide_eq_false (by omega)).symm), below_call (below_al (Below.refl _ _) _) hb⟩)
  | false =>
    have h1 := rightB_false.1 hr
    go_enter Tryd.func74, Tryd.ntmps74
    go_wp2_with (go_at_call 84; refine (right_any _ _ _ hr _).mono ?_; rintro e w1 ⟨rfl, hb⟩; obtain ⟨hc, hf⟩ := bcell hb)
    all_goals (go_ret; exact ⟨ret_bool (by unfold hasB; exact (decide_eq_false (by omega)).symm), below_call (below_al (Below.refl _ _) _) hb⟩)

set_option maxHeartbeats 400000 in
theorem rhas_any (f s a : Int) (b : Bool) (h : hasB f s a = b) (w : World) :
    Calls Tryd.prog 36 #[.agg #[.int .i64 f, .int .i64 s], .int .i64 a] w fun e w' => e = .returned (.bool b) ∧ Below w.heap.size w w' := by
  subst h
  cases hr : rightB f s with
  | true =>
    obtain ⟨h1, h2, h3, h4⟩ := rightB_true.1 hr
    go_enter Tryd.func36, Tryd.ntmps36
    go_wp2_with (go_at_call 64; refine (rright_any _ _ _ hr _).mono ?_; rintro e w1 ⟨rfl, hb⟩; obtain ⟨hc, hf⟩ := bcell hb)
    all_goals (go_ret; exact ⟨ret_bool (by unfold hasB; first | exact decide_eq_decide.2 (by omega) | exact (decide_eq_false (by omega)).symm), below_call (below_al (Below.refl _ _) _) hb⟩)
  | false =>
    have h1 := rightB_false.1 hr
    go_enter Tryd.func36, Tryd.ntmps36
    go_wp2_with (go_at_call 64; refine (rright_any _ _ _ hr _).mono ?_; rintro e w1 ⟨rfl, hb⟩; obtain ⟨hc, hf⟩ := bcell hb)
    all_goals (go_ret; exact ⟨ret_bool (by unfold hasB; exact (decide_eq_false (by omega)).symm), below_call (below_al (Below.refl _ _) _) hb⟩)

end Go.Proofs.YtdajadfgiifioaaDoor

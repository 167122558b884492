/- Contracts of package span: which spans meet. -/
import Derived.Test.YtpeajlponlmceaaSpanH
namespace Go.Proofs.Ytpeajlponlmceaa
open Go.RowKit
set_option linter.unusedSimpArgs false
set_option linter.unusedVariables false

set_option maxHeartbeats 400000 in
theorem meets_any (f s g t : Int) (b : Bool) (h : meetsB f s g t = b) (w : World) :
    Calls Try.prog 61 #[.agg #[.int .i64 f, .int .i64 s], .agg #[.int .i64 g, .int .i64 t]] w fun e w' => e = .returned (.bool b) ∧ Below w.heap.size w w' := by
  subst h
  have key : ∀ m : Int, (if f < g then g else f) = m → ∀ b1 b2, hasB f s m = b1 → hasB g t m = b2 → Calls Try.prog 61 #[.agg #[.int .i64 f, .int .i64 s], .agg #[.int .i64 g, .int .i64 t]] w fun e w' => e = .returned (.bool (b1 && b2)) ∧ Below w.heap.size w w' := by
    intro m hm b1 b2 h1 h2
    by_cases hlt : f < g
    all_goals
      simp only [hlt, if_true, if_false] at hm
      subst hm
      cases b1
      · go_enter Try.func61, Try.ntmps61
        go_wp2_with (go_at_call 59; refine (has_any _ _ _ _ h1 _).mono ?_; rintro e w1 ⟨rfl, hb1⟩; obtain ⟨hc1, hf1⟩ := bcell hb1)
        go_ret
        exact ⟨rfl, below_call (below_al (below_al (Below.refl _ _) _) _) hb1⟩
      · go_enter Try.func61, Try.ntmps61
        go_wp2_with fail
        refine (has_any _ _ _ _ h1 _).mono ?_
        rintro e w1 ⟨rfl, hb1⟩; obtain ⟨hc1, hf1⟩ := bcell hb1
        go_wp2_with fail
        refine (has_any _ _ _ _ h2 _).mono ?_
        rintro e w2 ⟨rfl, hb2⟩; obtain ⟨hc2, hf2⟩ := bcell hb2
        go_wp2
        go_ret
        exact ⟨rfl, below_call (below_call (below_al (below_al (Below.refl _ _) _) _) hb1) hb2⟩
  refine (key _ rfl _ _ rfl rfl).mono ?_
  rintro e w' ⟨rfl, hb⟩
  exact ⟨ret_bool (by unfold meetsB; split <;> rfl), hb⟩

end Go.Proofs.Ytpeajlponlmceaa

/- Contracts of package span, and of its reference, over spans as pairs of numbers. -/
import Derived.Test.YtimikgencnkcnaaRows
import Derived.Test.YtimikgencnkcnaaSpanPure
import Derived.Test.YtimikgencnkcnaaLib
namespace Go.Proofs.Ytimikgencnkcnaa
open Go.RowKit
set_option linter.unusedSimpArgs false
set_option linter.unusedVariables false

set_option maxHeartbeats 400000 in
theorem right_any (f s : Int) (b : Bool) (h : rightB f s = b) (w : World) :
    Calls Try.prog 14 #[.agg #[.int .i64 f, .int .i64 s]] w fun e w' => e = .returned (.bool b) ∧ Below w.heap.size w w' := by
  subst h
  go_enter Try.func14, Try.ntmps14
  go_wp2
  all_goals (go_ret; exact ⟨ret_bool (by unfold rightB; first | exact decide_eq_decide.2 (by omega) | exact (decide_eq_false (by omega)).symm), below_al (Below.refl _ _) _⟩)

set_option maxHeartbeats 400000 in
theorem rright_any (f s : Int) (b : Bool) (h : rightB f s = b) (w : World) :
    Calls Try.prog 15 #[.agg #[.int .i64 f, .int .i64 s]] w fun e w' => e = .returned (.bool b) ∧ Below w.heap.size w w' := by
  subst h
  go_enter Try.func15, Try.ntmps15
  go_wp2
  all_goals (go_ret; exact ⟨ret_bool (by unfold rightB; first | exact decide_eq_decide.2 (by omega) | exact (decide_eq_false (by omega)).symm), below_al (Below.refl _ _) _⟩)

set_option maxHeartbeats 400000 in
theorem has_any (f s a : Int) (b : Bool) (h : hasB f s a = b) (w : World) :
    Calls Try.prog 16 #[.agg #[.int .i64 f, .int .i64 s], .int .i64 a] w fun e w' => e = .returned (.bool b) ∧ Below w.heap.size w w' := by
  subst h
  cases hr : rightB f s with
  | true =>
    obtain ⟨h1, h2, h3, h4⟩ := rightB_true.1 hr
    go_enter Try.func16, Try.ntmps16
    go_wp2_with (go_at_call 14; refine (right_any _ _ _ hr _).mono ?_; rintro e w1 ⟨rfl, hb⟩; obtain ⟨hc, hf⟩ := bcell hb)
    all_goals (go_ret; exact ⟨ret_bool (by unfold hasB; first | exact decide_eq_decide.2 (by omega) | exact (decide_eq_false (by omega)).symm), below_call (below_al (Below.refl _ _) _) hb⟩)
  | false =>
    have h1 := rightB_false.1 hr
    go_enter Try.func16, Try.ntmps16
    go_wp2_with (go_at_call 14; refine (right_any _ _ _ hr _).mono ?_; rintro e w1 ⟨rfl, hb⟩; obtain ⟨hc, hf⟩ := bcell hb)
    all_goals (go_ret; exact ⟨ret_bool (by unfold hasB; exact (decide_eq_false (by omega)).symm), below_call (below_al (Below.refl _ _) _) hb⟩)

set_option maxHeartbeats 400000 in
theorem rhas_any (f s a : Int) (b : Bool) (h : hasB f s a = b) (w : World) :
    Calls Try.prog 17 #[.agg #[.int .i64 f, .int .i64 s], .int .i64 a] w fun e w' => e = .returned (.bool b) ∧ Below w.heap.size w w' := by
  subst h
  cases hr : rightB f s with
  | true =>
    obtain ⟨h1, h2, h3, h4⟩ := rightB_true.1 hr
    go_enter Try.func17, Try.ntmps17
    go_wp2_with (go_at_call 15; refine (rright_any _ _ _ hr _).mono ?_; rintro e w1 ⟨rfl, hb⟩; obtain ⟨hc, hf⟩ := bcell hb)
    all_goals (go_ret; exact ⟨ret_bool (by unfold hasB; first | exact decide_eq_decide.2 (by omega) | exact (decide_eq_false (by omega)).symm), below_call (below_al (Below.refl _ _) _) hb⟩)
  | false =>
    have h1 := rightB_false.1 hr
    go_enter Try.func17, Try.ntmps17
    go_wp2_with (go_at_call 15; refine (rright_any _ _ _ hr _).mono ?_; rintro e w1 ⟨rfl, hb⟩; obtain ⟨hc, hf⟩ := bcell hb)
    all_goals (go_ret; exact ⟨ret_bool (by unfold hasB; exact (decide_eq_false (by omega)).symm), below_call (below_al (Below.refl _ _) _) hb⟩)

set_option maxHeartbeats 400000 in
theorem meets_any (f s g t : Int) (b : Bool) (h : meetsB f s g t = b) (w : World) :
    Calls Try.prog 18 #[.agg #[.int .i64 f, .int .i64 s], .agg #[.int .i64 g, .int .i64 t]] w fun e w' => e = .returned (.bool b) ∧ Below w.heap.size w w' := by
  subst h
  have key : ∀ m : Int, (if f < g then g else f) = m → ∀ b1 b2, hasB f s m = b1 → hasB g t m = b2 → Calls Try.prog 18 #[.agg #[.int .i64 f, .int .i64 s], .agg #[.int .i64 g, .int .i64 t]] w fun e w' => e = .returned (.bool (b1 && b2)) ∧ Below w.heap.size w w' := by
    intro m hm b1 b2 h1 h2
    by_cases hlt : f < g
    all_goals
      simp only [hlt, if_true, if_false] at hm
      subst hm
      cases b1
      · go_enter Try.func18, Try.ntmps18
        go_wp2_with (go_at_call 16; refine (has_any _ _ _ _ h1 _).mono ?_; rintro e w1 ⟨rfl, hb1⟩; obtain ⟨hc1, hf1⟩ := bcell hb1)
        go_ret
        exact ⟨rfl, below_call (below_al (below_al (Below.refl _ _) _) _) hb1⟩
      · go_enter Try.func18, Try.ntmps18
        go_wp2_with fail
        refine (has_any _ _ _ _ h1 _).mono ?_
        rintro e w1 ⟨rfl, hb1⟩; obtain ⟨hc1, hf1⟩ := bcell hb1
        go_wp2_with fail
        refine (has_any _ _ _ _ h2 _).mono ?_
        rintro e w2 ⟨rfl, hb2⟩; obtain ⟨hc2, hf2⟩ := bcell hb2
        go_wp2
        go_ret
        exact ⟨rfl, below_call (below_call (below_al (below_al (Below.refl _ _) _) _) hb1) hb2⟩
  refine (key _ rfl _ _ rfl rfl).mono ?_
  rintro e w' ⟨rfl, hb⟩
  exact ⟨ret_bool (by unfold meetsB; split <;> rfl), hb⟩

set_option maxHeartbeats 400000 in
theorem in_any (f s g t : Int) (b : Bool) (h : inB f s g t = b) (w : World) :
    Calls Try.prog 20 #[.agg #[.int .i64 f, .int .i64 s], .agg #[.int .i64 g, .int .i64 t]] w fun e w' => e = .returned (.bool b) ∧ Below w.heap.size w w' := by
  subst h
  cases hr : rightB f s with
  | false =>
    go_enter Try.func20, Try.ntmps20
    go_wp2_with (go_at_call 14; refine (right_any _ _ _ hr _).mono ?_; rintro e w1 ⟨rfl, hb1⟩; obtain ⟨hc1, hf1⟩ := bcell hb1; obtain ⟨hz1a, hz1b⟩ := hz2 (n := w.heap.size) (by simpa using hb1.size))
    go_ret
    exact ⟨ret_bool (by simp [inB, hr]), below_call (below_al (below_al (Below.refl _ _) _) _) hb1⟩
  | true =>
    by_cases h0 : s = 0
    · subst h0
      go_enter Try.func20, Try.ntmps20
      go_wp2_with (go_at_call 14; refine (right_any _ _ _ hr _).mono ?_; rintro e w1 ⟨rfl, hb1⟩; obtain ⟨hc1, hf1⟩ := bcell hb1; obtain ⟨hz1a, hz1b⟩ := hz2 (n := w.heap.size) (by simpa using hb1.size))
      go_ret
      exact ⟨ret_bool (by simp [inB]), below_call (below_al (below_al (Below.refl _ _) _) _) hb1⟩
    · obtain ⟨h1, h2, h3, h4⟩ := rightB_true.1 hr
      have hs : (s == 0) = false := by simpa using h0
      cases hx : hasB g t f with
      | false =>
        go_enter Try.func20, Try.ntmps20
        go_wp2_with (first | (go_at_call 14; refine (right_any _ _ _ hr _).mono ?_; rintro e w1 ⟨rfl, hb1⟩; obtain ⟨hc1, hf1⟩ := bcell hb1; obtain ⟨hz1a, hz1b⟩ := hz2 (n := w.heap.size) (by simpa using hb1.size)) | (go_at_call 16; refine (has_any _ _ _ _ hx _).mono ?_; rintro e w2 ⟨rfl, hb2⟩; obtain ⟨hc2, hf2⟩ := bcell hb2; obtain ⟨hz2a, hz2b⟩ := hz2 (n := w.heap.size) (Nat.le_trans (by simpa using hb1.size) hb2.size)))
        go_ret
        exact ⟨ret_bool (by simp [inB, hr, h0, hx]), below_call (below_call (below_al (below_al (Below.refl _ _) _) _) hb1) hb2⟩
      | true =>
        cases hy : hasB g t (f + s - 1)
        all_goals
          go_enter Try.func20, Try.ntmps20
          go_wp2_with fail
          refine (right_any _ _ _ hr _).mono ?_
          rintro e w1 ⟨rfl, hb1⟩; obtain ⟨hc1, hf1⟩ := bcell hb1; obtain ⟨hz1a, hz1b⟩ := hz2 (n := w.heap.size) (by simpa using hb1.size)
          go_wp2_with fail
          refine (has_any _ _ _ _ hx _).mono ?_
          rintro e w2 ⟨rfl, hb2⟩; obtain ⟨hc2, hf2⟩ := bcell hb2; obtain ⟨hz2a, hz2b⟩ := hz2 (n := w.heap.size) (Nat.le_trans (by simpa using hb1.size) hb2.size)
          go_wp2_with fail
          refine (has_any _ _ _ _ hy _).mono ?_
          rintro e w3 ⟨rfl, hb3⟩
          go_wp2
          go_ret
          exact ⟨ret_bool (by simp [inB, hr, h0, hx, hy]), below_call (below_call (below_call (below_al (below_al (Below.refl _ _) _) _) hb1) hb2) hb3⟩
end Go.Proofs.Ytimikgencnkcnaa

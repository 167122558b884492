/- The reference's Meets and In over spans. -/
import Derived.Test.YtpeajlponlmceaaSpanM
namespace Go.Proofs.Ytpeajlponlmceaa
open Go.RowKit
set_option linter.unusedSimpArgs false
set_option linter.unusedVariables false

set_option maxHeartbeats 400000 in
theorem rmeets_any (f s g t : Int) (b : Bool) (h : meetsB f s g t = b) (w : World) :
    Calls Try.prog 63 #[.agg #[.int .i64 f, .int .i64 s], .agg #[.int .i64 g, .int .i64 t]] w fun e w' => e = .returned (.bool b) ∧ Below w.heap.size w w' := by
  subst h
  rw [meetsB_ref]
  cases h1 : hasB f s f
  · go_enter Try.func63, Try.ntmps63
    go_wp2_with fail
    refine (rhas_any _ _ _ _ h1 _).mono ?_
    rintro e w1 ⟨rfl, hb1⟩; obtain ⟨hc1, hf1⟩ := bcell hb1
    have hq1 : w.heap.size + 1 + 1 ≤ w1.heap.size := (by simpa using hb1.size)
    obtain ⟨hz1a, hz1b⟩ := hz2 (n := w.heap.size) hq1
    go_wp2
    go_ret
    exact ⟨rfl, below_call (below_al (below_al (Below.refl _ _) _) _) hb1⟩

  cases h2 : hasB g t g
  · go_enter Try.func63, Try.ntmps63
    go_wp2_with fail
    refine (rhas_any _ _ _ _ h1 _).mono ?_
    rintro e w1 ⟨rfl, hb1⟩; obtain ⟨hc1, hf1⟩ := bcell hb1
    have hq1 : w.heap.size + 1 + 1 ≤ w1.heap.size := (by simpa using hb1.size)
    obtain ⟨hz1a, hz1b⟩ := hz2 (n := w.heap.size) hq1
    go_wp2_with fail
    refine (rhas_any _ _ _ _ h2 _).mono ?_
    rintro e w2 ⟨rfl, hb2⟩; obtain ⟨hc2, hf2⟩ := bcell hb2
    have hq2 : w.heap.size + 1 + 1 ≤ w2.heap.size := (Nat.le_trans hq1 hb2.size)
    obtain ⟨hz2a, hz2b⟩ := hz2 (n := w.heap.size) hq2
    go_wp2
    go_ret
    exact ⟨rfl, below_call (below_call (below_al (below_al (Below.refl _ _) _) _) hb1) hb2⟩

  cases h3 : hasB f s g
  · cases h4 : hasB g t f
    all_goals
      go_enter Try.func63, Try.ntmps63
      go_wp2_with fail
      refine (rhas_any _ _ _ _ h1 _).mono ?_
      rintro e w1 ⟨rfl, hb1⟩; obtain ⟨hc1, hf1⟩ := bcell hb1
      have hq1 : w.heap.size + 1 + 1 ≤ w1.heap.size := (by simpa using hb1.size)
      obtain ⟨hz1a, hz1b⟩ := hz2 (n := w.heap.size) hq1
      go_wp2_with fail
      refine (rhas_any _ _ _ _ h2 _).mono ?_
      rintro e w2 ⟨rfl, hb2⟩; obtain ⟨hc2, hf2⟩ := bcell hb2
      have hq2 : w.heap.size + 1 + 1 ≤ w2.heap.size := (Nat.le_trans hq1 hb2.size)
      obtain ⟨hz2a, hz2b⟩ := hz2 (n := w.heap.size) hq2
      go_wp2_with fail
      refine (rhas_any _ _ _ _ h3 _).mono ?_
      rintro e w3 ⟨rfl, hb3⟩; obtain ⟨hc3, hf3⟩ := bcell hb3
      have hq3 : w.heap.size + 1 + 1 ≤ w3.heap.size := (Nat.le_trans hq2 hb3.size)
      obtain ⟨hz3a, hz3b⟩ := hz2 (n := w.heap.size) hq3
      go_wp2_with fail
      refine (rhas_any _ _ _ _ h4 _).mono ?_
      rintro e w4 ⟨rfl, hb4⟩; obtain ⟨hc4, hf4⟩ := bcell hb4
      have hq4 : w.heap.size + 1 + 1 ≤ w4.heap.size := (Nat.le_trans hq3 hb4.size)
      obtain ⟨hz4a, hz4b⟩ := hz2 (n := w.heap.size) hq4
      go_wp2
      go_ret
      exact ⟨rfl, below_call (below_call (below_call (below_call (below_al (below_al (Below.refl _ _) _) _) hb1) hb2) hb3) hb4⟩

  · go_enter Try.func63, Try.ntmps63
    go_wp2_with fail
    refine (rhas_any _ _ _ _ h1 _).mono ?_
    rintro e w1 ⟨rfl, hb1⟩; obtain ⟨hc1, hf1⟩ := bcell hb1
    have hq1 : w.heap.size + 1 + 1 ≤ w1.heap.size := (by simpa using hb1.size)
    obtain ⟨hz1a, hz1b⟩ := hz2 (n := w.heap.size) hq1
    go_wp2_with fail
    refine (rhas_any _ _ _ _ h2 _).mono ?_
    rintro e w2 ⟨rfl, hb2⟩; obtain ⟨hc2, hf2⟩ := bcell hb2
    have hq2 : w.heap.size + 1 + 1 ≤ w2.heap.size := (Nat.le_trans hq1 hb2.size)
    obtain ⟨hz2a, hz2b⟩ := hz2 (n := w.heap.size) hq2
    go_wp2_with fail
    refine (rhas_any _ _ _ _ h3 _).mono ?_
    rintro e w3 ⟨rfl, hb3⟩; obtain ⟨hc3, hf3⟩ := bcell hb3
    have hq3 : w.heap.size + 1 + 1 ≤ w3.heap.size := (Nat.le_trans hq2 hb3.size)
    obtain ⟨hz3a, hz3b⟩ := hz2 (n := w.heap.size) hq3
    go_wp2
    go_ret
    exact ⟨rfl, below_call (below_call (below_call (below_al (below_al (Below.refl _ _) _) _) hb1) hb2) hb3⟩


set_option maxHeartbeats 400000 in
theorem rin_any (f s g t : Int) (b : Bool) (h : lieB f s g t = b) (w : World) :
    Calls Try.prog 42 #[.agg #[.int .i64 f, .int .i64 s], .agg #[.int .i64 g, .int .i64 t]] w fun e w' => e = .returned (.bool b) ∧ Below w.heap.size w w' := by
  subst h
  rw [lieB_ref]
  cases h1 : hasB f s f
  · go_enter Try.func42, Try.ntmps42
    go_wp2_with fail
    refine (rhas_any _ _ _ _ h1 _).mono ?_
    rintro e w1 ⟨rfl, hb1⟩; obtain ⟨hc1, hf1⟩ := bcell hb1
    have hq1 : w.heap.size + 1 + 1 ≤ w1.heap.size := (by simpa using hb1.size)
    obtain ⟨hz1a, hz1b⟩ := hz2 (n := w.heap.size) hq1
    go_wp2
    go_ret
    exact ⟨rfl, below_call (below_al (below_al (Below.refl _ _) _) _) hb1⟩

  obtain ⟨k1, k2, k3, k4, _, _⟩ := hasB_true.1 h1
  cases h2 : rightB g t
  · go_enter Try.func42, Try.ntmps42
    go_wp2_with fail
    refine (rhas_any _ _ _ _ h1 _).mono ?_
    rintro e w1 ⟨rfl, hb1⟩; obtain ⟨hc1, hf1⟩ := bcell hb1
    have hq1 : w.heap.size + 1 + 1 ≤ w1.heap.size := (by simpa using hb1.size)
    obtain ⟨hz1a, hz1b⟩ := hz2 (n := w.heap.size) hq1
    go_wp2_with fail
    refine (rright_any _ _ _ h2 _).mono ?_
    rintro e w2 ⟨rfl, hb2⟩; obtain ⟨hc2, hf2⟩ := bcell hb2
    have hq2 : w.heap.size + 1 + 1 ≤ w2.heap.size := (Nat.le_trans hq1 hb2.size)
    obtain ⟨hz2a, hz2b⟩ := hz2 (n := w.heap.size) hq2
    go_wp2
    go_ret
    exact ⟨rfl, below_call (below_call (below_al (below_al (Below.refl _ _) _) _) hb1) hb2⟩

  obtain ⟨k5, k6, k7, k8⟩ := rightB_true.1 h2
  by_cases h3 : g ≤ f
  · go_enter Try.func42, Try.ntmps42
    go_wp2_with fail
    refine (rhas_any _ _ _ _ h1 _).mono ?_
    rintro e w1 ⟨rfl, hb1⟩; obtain ⟨hc1, hf1⟩ := bcell hb1
    have hq1 : w.heap.size + 1 + 1 ≤ w1.heap.size := (by simpa using hb1.size)
    obtain ⟨hz1a, hz1b⟩ := hz2 (n := w.heap.size) hq1
    go_wp2_with fail
    refine (rright_any _ _ _ h2 _).mono ?_
    rintro e w2 ⟨rfl, hb2⟩; obtain ⟨hc2, hf2⟩ := bcell hb2
    have hq2 : w.heap.size + 1 + 1 ≤ w2.heap.size := (Nat.le_trans hq1 hb2.size)
    obtain ⟨hz2a, hz2b⟩ := hz2 (n := w.heap.size) hq2
    go_wp2
    go_ret
    exact ⟨ret_bool (by simp [h3] <;> omega), below_call (below_call (below_al (below_al (Below.refl _ _) _) _) hb1) hb2⟩

  · go_enter Try.func42, Try.ntmps42
    go_wp2_with fail
    refine (rhas_any _ _ _ _ h1 _).mono ?_
    rintro e w1 ⟨rfl, hb1⟩; obtain ⟨hc1, hf1⟩ := bcell hb1
    have hq1 : w.heap.size + 1 + 1 ≤ w1.heap.size := (by simpa using hb1.size)
    obtain ⟨hz1a, hz1b⟩ := hz2 (n := w.heap.size) hq1
    go_wp2_with fail
    refine (rright_any _ _ _ h2 _).mono ?_
    rintro e w2 ⟨rfl, hb2⟩; obtain ⟨hc2, hf2⟩ := bcell hb2
    have hq2 : w.heap.size + 1 + 1 ≤ w2.heap.size := (Nat.le_trans hq1 hb2.size)
    obtain ⟨hz2a, hz2b⟩ := hz2 (n := w.heap.size) hq2
    go_wp2
    go_ret
    exact ⟨ret_bool (by simp [h3] <;> omega), below_call (below_call (below_al (below_al (Below.refl _ _) _) _) hb1) hb2⟩


end Go.Proofs.Ytpeajlponlmceaa

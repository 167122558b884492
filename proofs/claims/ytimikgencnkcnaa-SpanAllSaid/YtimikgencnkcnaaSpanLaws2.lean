/- The reference's Meets and In; the laws SpanMeets and SpanMoves: their walks. -/
import Derived.Test.YtimikgencnkcnaaSpanLaws
namespace Go.Proofs.Ytimikgencnkcnaa
open Go.RowKit
set_option linter.unusedSimpArgs false
set_option linter.unusedVariables false

set_option maxHeartbeats 400000 in
theorem rmeets_any (f s g t : Int) (b : Bool) (h : meetsB f s g t = b) (w : World) :
    Calls Try.prog 19 #[.agg #[.int .i64 f, .int .i64 s], .agg #[.int .i64 g, .int .i64 t]] w fun e w' => e = .returned (.bool b) ∧ Below w.heap.size w w' := by
  subst h
  rw [meetsB_ref]
  cases h1 : hasB f s f
  · go_enter Try.func19, Try.ntmps19
    go_wp2_with fail
    refine (rhas_any _ _ _ _ h1 _).mono ?_
    rintro e w1 ⟨rfl, hb1⟩; obtain ⟨hc1, hf1⟩ := bcell hb1
    have hq1 : w.heap.size + 1 + 1 ≤ w1.heap.size := (by simpa using hb1.size)
    obtain ⟨hz1a, hz1b⟩ := hz2 (n := w.heap.size) hq1
    go_wp2
    go_ret
    exact ⟨rfl, below_call (below_al (below_al (Below.refl _ _) _) _) hb1⟩

  cases h2 : hasB g t g
  · go_enter Try.func19, Try.ntmps19
    go_wp2_with fail
    refine (rhas_any _ _ _ _ h1 _).mono ?_
    rintro e w1 ⟨rfl, hb1⟩; obtain ⟨hc1, hf1⟩ := bcell hb1
    have hq1 : w.heap.size + 1 + 1 ≤ w1.heap.size := (by simpa using hb1.size)
    obtain ⟨hz1a, hz1b⟩ := hz2 (n := w.heap.size) hq1
    go_wp2_with fail
    refine (rhas_any _ _ _ _ h2 _).mono ?_
    rintro e w2 ⟨rfl, hb2⟩; obtain ⟨hc2, hf2⟩ := bcell hb2
    have hq2 : w.heap.size + 1 + 1 ≤ w2.heap.size := (Nat.le_trans hq1 hb2.size)
    obtain ⟨hz2a, hz2b⟩ := hz2 (n := w.heap.size) hq2
    go_wp2
    go_ret
    exact ⟨rfl, below_call (below_call (below_al (below_al (Below.refl _ _) _) _) hb1) hb2⟩

  cases h3 : hasB f s g
  · cases h4 : hasB g t f
    all_goals
      go_enter Try.func19, Try.ntmps19
      go_wp2_with fail
      refine (rhas_any _ _ _ _ h1 _).mono ?_
      rintro e w1 ⟨rfl, hb1⟩; obtain ⟨hc1, hf1⟩ := bcell hb1
      have hq1 : w.heap.size + 1 + 1 ≤ w1.heap.size := (by simpa using hb1.size)
      obtain ⟨hz1a, hz1b⟩ := hz2 (n := w.heap.size) hq1
      go_wp2_with fail
      refine (rhas_any _ _ _ _ h2 _).mono ?_
      rintro e w2 ⟨rfl, hb2⟩; obtain ⟨hc2, hf2⟩ := bcell hb2
      have hq2 : w.heap.size + 1 + 1 ≤ w2.heap.size := (Nat.le_trans hq1 hb2.size)
      obtain ⟨hz2a, hz2b⟩ := hz2 (n := w.heap.size) hq2
      go_wp2_with fail
      refine (rhas_any _ _ _ _ h3 _).mono ?_
      rintro e w3 ⟨rfl, hb3⟩; obtain ⟨hc3, hf3⟩ := bcell hb3
      have hq3 : w.heap.size + 1 + 1 ≤ w3.heap.size := (Nat.le_trans hq2 hb3.size)
      obtain ⟨hz3a, hz3b⟩ := hz2 (n := w.heap.size) hq3
      go_wp2_with fail
      refine (rhas_any _ _ _ _ h4 _).mono ?_
      rintro e w4 ⟨rfl, hb4⟩; obtain ⟨hc4, hf4⟩ := bcell hb4
      have hq4 : w.heap.size + 1 + 1 ≤ w4.heap.size := (Nat.le_trans hq3 hb4.size)
      obtain ⟨hz4a, hz4b⟩ := hz2 (n := w.heap.size) hq4
      go_wp2
      go_ret
      exact ⟨rfl, below_call (below_call (below_call (below_call (below_al (below_al (Below.refl _ _) _) _) hb1) hb2) hb3) hb4⟩

  · go_enter Try.func19, Try.ntmps19
    go_wp2_with fail
    refine (rhas_any _ _ _ _ h1 _).mono ?_
    rintro e w1 ⟨rfl, hb1⟩; obtain ⟨hc1, hf1⟩ := bcell hb1
    have hq1 : w.heap.size + 1 + 1 ≤ w1.heap.size := (by simpa using hb1.size)
    obtain ⟨hz1a, hz1b⟩ := hz2 (n := w.heap.size) hq1
    go_wp2_with fail
    refine (rhas_any _ _ _ _ h2 _).mono ?_
    rintro e w2 ⟨rfl, hb2⟩; obtain ⟨hc2, hf2⟩ := bcell hb2
    have hq2 : w.heap.size + 1 + 1 ≤ w2.heap.size := (Nat.le_trans hq1 hb2.size)
    obtain ⟨hz2a, hz2b⟩ := hz2 (n := w.heap.size) hq2
    go_wp2_with fail
    refine (rhas_any _ _ _ _ h3 _).mono ?_
    rintro e w3 ⟨rfl, hb3⟩; obtain ⟨hc3, hf3⟩ := bcell hb3
    have hq3 : w.heap.size + 1 + 1 ≤ w3.heap.size := (Nat.le_trans hq2 hb3.size)
    obtain ⟨hz3a, hz3b⟩ := hz2 (n := w.heap.size) hq3
    go_wp2
    go_ret
    exact ⟨rfl, below_call (below_call (below_call (below_al (below_al (Below.refl _ _) _) _) hb1) hb2) hb3⟩


set_option maxHeartbeats 400000 in
theorem rin_any (f s g t : Int) (b : Bool) (h : inB f s g t = b) (w : World) :
    Calls Try.prog 21 #[.agg #[.int .i64 f, .int .i64 s], .agg #[.int .i64 g, .int .i64 t]] w fun e w' => e = .returned (.bool b) ∧ Below w.heap.size w w' := by
  subst h
  rw [inB_ref]
  cases h1 : hasB f s f
  · go_enter Try.func21, Try.ntmps21
    go_wp2_with fail
    refine (rhas_any _ _ _ _ h1 _).mono ?_
    rintro e w1 ⟨rfl, hb1⟩; obtain ⟨hc1, hf1⟩ := bcell hb1
    have hq1 : w.heap.size + 1 + 1 ≤ w1.heap.size := (by simpa using hb1.size)
    obtain ⟨hz1a, hz1b⟩ := hz2 (n := w.heap.size) hq1
    go_wp2
    go_ret
    exact ⟨rfl, below_call (below_al (below_al (Below.refl _ _) _) _) hb1⟩

  obtain ⟨k1, k2, k3, k4, _, _⟩ := hasB_true.1 h1
  cases h2 : rightB g t
  · go_enter Try.func21, Try.ntmps21
    go_wp2_with fail
    refine (rhas_any _ _ _ _ h1 _).mono ?_
    rintro e w1 ⟨rfl, hb1⟩; obtain ⟨hc1, hf1⟩ := bcell hb1
    have hq1 : w.heap.size + 1 + 1 ≤ w1.heap.size := (by simpa using hb1.size)
    obtain ⟨hz1a, hz1b⟩ := hz2 (n := w.heap.size) hq1
    go_wp2_with fail
    refine (rright_any _ _ _ h2 _).mono ?_
    rintro e w2 ⟨rfl, hb2⟩; obtain ⟨hc2, hf2⟩ := bcell hb2
    have hq2 : w.heap.size + 1 + 1 ≤ w2.heap.size := (Nat.le_trans hq1 hb2.size)
    obtain ⟨hz2a, hz2b⟩ := hz2 (n := w.heap.size) hq2
    go_wp2
    go_ret
    exact ⟨rfl, below_call (below_call (below_al (below_al (Below.refl _ _) _) _) hb1) hb2⟩

  obtain ⟨k5, k6, k7, k8⟩ := rightB_true.1 h2
  by_cases h3 : g ≤ f
  · go_enter Try.func21, Try.ntmps21
    go_wp2_with fail
    refine (rhas_any _ _ _ _ h1 _).mono ?_
    rintro e w1 ⟨rfl, hb1⟩; obtain ⟨hc1, hf1⟩ := bcell hb1
    have hq1 : w.heap.size + 1 + 1 ≤ w1.heap.size := (by simpa using hb1.size)
    obtain ⟨hz1a, hz1b⟩ := hz2 (n := w.heap.size) hq1
    go_wp2_with fail
    refine (rright_any _ _ _ h2 _).mono ?_
    rintro e w2 ⟨rfl, hb2⟩; obtain ⟨hc2, hf2⟩ := bcell hb2
    have hq2 : w.heap.size + 1 + 1 ≤ w2.heap.size := (Nat.le_trans hq1 hb2.size)
    obtain ⟨hz2a, hz2b⟩ := hz2 (n := w.heap.size) hq2
    go_wp2
    go_ret
    exact ⟨ret_bool (by simp [h3] <;> omega), below_call (below_call (below_al (below_al (Below.refl _ _) _) _) hb1) hb2⟩

  · go_enter Try.func21, Try.ntmps21
    go_wp2_with fail
    refine (rhas_any _ _ _ _ h1 _).mono ?_
    rintro e w1 ⟨rfl, hb1⟩; obtain ⟨hc1, hf1⟩ := bcell hb1
    have hq1 : w.heap.size + 1 + 1 ≤ w1.heap.size := (by simpa using hb1.size)
    obtain ⟨hz1a, hz1b⟩ := hz2 (n := w.heap.size) hq1
    go_wp2_with fail
    refine (rright_any _ _ _ h2 _).mono ?_
    rintro e w2 ⟨rfl, hb2⟩; obtain ⟨hc2, hf2⟩ := bcell hb2
    have hq2 : w.heap.size + 1 + 1 ≤ w2.heap.size := (Nat.le_trans hq1 hb2.size)
    obtain ⟨hz2a, hz2b⟩ := hz2 (n := w.heap.size) hq2
    go_wp2
    go_ret
    exact ⟨ret_bool (by simp [h3] <;> omega), below_call (below_call (below_al (below_al (Below.refl _ _) _) _) hb1) hb2⟩


set_option maxHeartbeats 400000 in
theorem spanMeets_core (f s g t : Int) (w : World) : Calls Try.prog 4 #[.agg #[.int .i64 f, .int .i64 s], .agg #[.int .i64 g, .int .i64 t]] w fun e w' => e = .returned (.bool true) ∧ Below w.heap.size w w' := by
  obtain ⟨b1, h1⟩ : ∃ b, meetsB f s g t = b := ⟨_, rfl⟩
  have h2 : meetsB g t f s = b1 := by rw [meetsB_comm, h1]
  obtain ⟨b3, h3⟩ : ∃ b, inB f s g t = b := ⟨_, rfl⟩
  have h4 := inB_self f s
  go_enter Try.func4, Try.ntmps4
  go_wp2_with (go_at_call 13; refine (spanWakes _).mono ?_; rintro e wa ⟨rfl, ha⟩)
  obtain ⟨hc, hf⟩ := bcell ha
  obtain ⟨hza, hzb⟩ := hz2 (n := w.heap.size) (by simpa using ha.size)
  go_region_held3 (fun w' : World => Below (wa).heap.size (wa) w' ∧ ∀ b o, b < (wa).heap.size → w'.cell? ⟨b, o, none⟩ = (wa).cell? ⟨b, o, none⟩) (first | exact old_drew _ | exact old_call (by assumption) hb) (first | (go_at_call 18; (with_reducible refine (meets_any f s g t b1 h1 _).mono ?_); rintro e w1 ⟨rfl, hb⟩) | (go_at_call 19; (with_reducible refine (rmeets_any f s g t b1 h1 _).mono ?_); rintro e w1 ⟨rfl, hb⟩) | (go_at_call 18; (with_reducible refine (meets_any g t f s b1 h2 _).mono ?_); rintro e w1 ⟨rfl, hb⟩) | (go_at_call 20; (with_reducible refine (in_any f s g t b3 h3 _).mono ?_); rintro e w1 ⟨rfl, hb⟩) | (go_at_call 21; (with_reducible refine (rin_any f s g t b3 h3 _).mono ?_); rintro e w1 ⟨rfl, hb⟩) | (go_at_call 20; (with_reducible refine (in_any f s f s true h4 _).mono ?_); rintro e w1 ⟨rfl, hb⟩))
  have hr := And.left ‹Below wa.heap.size wa _ ∧ _›
  go_wp2
  go_ret
  exact ⟨rfl, below_call (below_call (below_al (below_al (Below.refl _ _) _) _) ha) hr⟩
theorem spanMeets_any (v0 v1 : Value) (w : World) (h0 : RdV w (.pair 1 (.int .i64) (.pair 1 (.int .i64) .nil)) v0) (h1 : RdV w (.pair 1 (.int .i64) (.pair 1 (.int .i64) .nil)) v1) : Calls Try.prog 4 #[v0, v1] w fun e w' => e = .returned (.bool true) ∧ Below w.heap.size w w' := by
  obtain ⟨cs, rfl, h0⟩ := h0
  obtain ⟨f, s, rfl, wf, ws⟩ := rd_two h0
  obtain ⟨cs, rfl, h1⟩ := h1
  obtain ⟨g, t, rfl, wg, wt⟩ := rd_two h1
  exact spanMeets_core f s g t w
end Go.Proofs.Ytimikgencnkcnaa

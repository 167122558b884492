/- Laws 1 to 3 of layer 1: their walks. -/
import Derived.Test.YtimikgencnkcnaaSpan
import Derived.Test.YtimikgencnkcnaaRead
namespace Go.Proofs.Ytimikgencnkcnaa
open Go.RowKit
set_option linter.unusedSimpArgs false
set_option linter.unusedVariables false

set_option maxHeartbeats 400000 in
theorem spanWakes (w : World) : Calls Try.prog 13 #[] w fun e w' => e = .returned (.bool true) ∧ Below w.heap.size w w' := by
  go_enter Try.func13, Try.ntmps13
  go_wp2_with fail
  refine (has_any 3 2 3 true (by decide) _).mono ?_
  rintro e w1 ⟨rfl, hb1⟩; obtain ⟨hc1, hf1⟩ := bcell hb1
  have hq1 : w.heap.size + 1 ≤ w1.heap.size := (by simpa using hb1.size)
  have hz1a := hz1 (n := w.heap.size) hq1
  go_wp2_with fail
  refine (has_any 3 2 4 true (by decide) _).mono ?_
  rintro e w2 ⟨rfl, hb2⟩; obtain ⟨hc2, hf2⟩ := bcell hb2
  have hq2 : w.heap.size + 1 ≤ w2.heap.size := (Nat.le_trans hq1 hb2.size)
  have hz2a := hz1 (n := w.heap.size) hq2
  go_wp2_with fail
  refine (has_any 3 2 5 false (by decide) _).mono ?_
  rintro e w3 ⟨rfl, hb3⟩; obtain ⟨hc3, hf3⟩ := bcell hb3
  have hq3 : w.heap.size + 1 ≤ w3.heap.size := (Nat.le_trans hq2 hb3.size)
  have hz3a := hz1 (n := w.heap.size) hq3
  go_wp2_with fail
  refine (meets_any 3 2 4 1 true (by decide) _).mono ?_
  rintro e w4 ⟨rfl, hb4⟩; obtain ⟨hc4, hf4⟩ := bcell hb4
  have hq4 : w.heap.size + 1 ≤ w4.heap.size := (Nat.le_trans hq3 hb4.size)
  have hz4a := hz1 (n := w.heap.size) hq4
  go_wp2_with fail
  refine (meets_any 3 2 5 9 false (by decide) _).mono ?_
  rintro e w5 ⟨rfl, hb5⟩; obtain ⟨hc5, hf5⟩ := bcell hb5
  have hq5 : w.heap.size + 1 ≤ w5.heap.size := (Nat.le_trans hq4 hb5.size)
  have hz5a := hz1 (n := w.heap.size) hq5
  go_wp2
  go_ret
  exact ⟨rfl, below_call (below_call (below_call (below_call (below_call (below_al (Below.refl _ _) _) hb1) hb2) hb3) hb4) hb5⟩

set_option maxHeartbeats 400000 in
theorem spanHas_core (f s a : Int) (w : World) : Calls Try.prog 3 #[.agg #[.int .i64 f, .int .i64 s], .int .i64 a] w fun e w' => e = .returned (.bool true) ∧ Below w.heap.size w w' := by
  obtain ⟨b1, h1⟩ : ∃ b, rightB f s = b := ⟨_, rfl⟩
  obtain ⟨b2, h2⟩ : ∃ b, hasB f s a = b := ⟨_, rfl⟩
  go_enter Try.func3, Try.ntmps3
  go_wp2_with (go_at_call 13; refine (spanWakes _).mono ?_; rintro e wa ⟨rfl, ha⟩)
  obtain ⟨hc, hf⟩ := bcell ha
  have hz := hz1 (n := w.heap.size) (by simpa using ha.size)
  go_region_held3 (fun w' : World => Below (wa).heap.size (wa) w' ∧ ∀ b o, b < (wa).heap.size → w'.cell? ⟨b, o, none⟩ = (wa).cell? ⟨b, o, none⟩) (first | exact old_drew _ | exact old_call (by assumption) hb) (first | (go_at_call 14; (with_reducible refine (right_any f s b1 h1 _).mono ?_); rintro e w1 ⟨rfl, hb⟩) | (go_at_call 15; (with_reducible refine (rright_any f s b1 h1 _).mono ?_); rintro e w1 ⟨rfl, hb⟩) | (go_at_call 16; (with_reducible refine (has_any f s a b2 h2 _).mono ?_); rintro e w1 ⟨rfl, hb⟩) | (go_at_call 17; (with_reducible refine (rhas_any f s a b2 h2 _).mono ?_); rintro e w1 ⟨rfl, hb⟩))
  have hr := And.left ‹Below wa.heap.size wa _ ∧ _›
  go_wp2
  go_ret
  exact ⟨rfl, below_call (below_call (below_al (Below.refl _ _) _) ha) hr⟩
theorem spanHas_any (v0 v1 : Value) (w : World) (h0 : RdV w (.pair 1 (.int .i64) (.pair 1 (.int .i64) .nil)) v0) (h1 : RdV w (.int .i64) v1) : Calls Try.prog 3 #[v0, v1] w fun e w' => e = .returned (.bool true) ∧ Below w.heap.size w w' := by
  obtain ⟨cs, rfl, h0⟩ := h0
  obtain ⟨f, s, rfl, wf, ws⟩ := rd_two h0
  obtain ⟨a, rfl, wa⟩ := h1
  exact spanHas_core f s a w
end Go.Proofs.Ytimikgencnkcnaa

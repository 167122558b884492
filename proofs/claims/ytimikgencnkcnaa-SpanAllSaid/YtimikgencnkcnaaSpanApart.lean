/- The law SpanApart: its walk. -/
import Derived.Test.YtimikgencnkcnaaRApart
namespace Go.Proofs.Ytimikgencnkcnaa
open Go.RowKit
set_option linter.unusedSimpArgs false
set_option linter.unusedVariables false

theorem spansAt_of {w : World} {v : Value} (h : RdV w (.slice 2 (.pair 1 (.int .i64) (.pair 1 (.int .i64) .nil))) v) : ∃ a n cap F S, v = .slice a n cap ∧ n ≤ cap ∧ cap ≤ maxLen ∧ SpansAt w a n F S := by
  obtain ⟨a, n, cap, xs, rfl, h2, h3, h4⟩ := rd_slice h
  rcases h4 with h4 | ⟨b, o, rfl, hb, h4⟩
  · exact ⟨a, n, cap, fun _ => 0, fun _ => 0, rfl, h2, h3, .inl h4⟩
  · obtain ⟨f, hf⟩ := pick_lt (n := n) (p := fun i (p : Int × Int) => xs i = [.int .i64 p.1, .int .i64 p.2]) fun i hi => by
      obtain ⟨x, y, hx, _, _⟩ := rd_two (h4 i hi).2.2
      exact ⟨(x, y), hx⟩
    refine ⟨_, n, cap, fun i => (f i).1, fun i => (f i).2, rfl, h2, h3, .inr ⟨b, o, rfl, hb, fun i hi => ?_⟩⟩
    obtain ⟨_, g, _⟩ := h4 i hi
    have e1 := g 0 (by omega)
    have e2 := g 1 (by omega)
    rw [hf i hi] at e1 e2
    exact ⟨e1, e2⟩

set_option maxHeartbeats 400000 in
theorem spanApart_any (v : Value) (w : World) (h0 : RdV w (.slice 2 (.pair 1 (.int .i64) (.pair 1 (.int .i64) .nil))) v) : Calls Try.prog 7 #[v] w fun e w' => e = .returned (.bool true) ∧ Below w.heap.size w w' := by
  obtain ⟨a, n, cap, F, S, rfl, h1, h2, h3⟩ := spansAt_of h0
  unfold maxLen at h2
  by_cases hn : 60 < n
  · go_enter Try.func7, Try.ntmps7
    go_wp2_with (go_at_call 13; refine (spanWakes _).mono ?_; rintro e wa ⟨rfl, ha⟩)
    go_ret
    exact ⟨rfl, ha⟩
  · obtain ⟨x, hx⟩ : ∃ x, apartB n F S = x := ⟨_, rfl⟩
    go_enter Try.func7, Try.ntmps7
    go_wp2_with fail
    refine (spanWakes _).mono ?_
    rintro e wa ⟨rfl, ha⟩
    go_wp2_with fail
    refine (apart_any a n cap F S x hx _ h1 (by omega) (h3.below ha)).mono ?_
    rintro e wb ⟨rfl, hb⟩
    go_wp2_with fail
    refine (rapart_any a n cap F S x hx _ h1 (by omega) ((h3.below ha).below hb)).mono ?_
    rintro e wc ⟨rfl, hc⟩
    go_wp2
    go_ret
    exact ⟨rfl, below_call (below_call ha hb) hc⟩
end Go.Proofs.Ytimikgencnkcnaa

/- The law SpanMoves: its walk. -/
import Derived.Test.YtimikgencnkcnaaSpanLaws2
import Derived.IntWalk
namespace Go.Proofs.Ytimikgencnkcnaa
open Go.RowKit
set_option linter.unusedSimpArgs false
set_option linter.unusedVariables false

theorem hasB_move (f s a d : Int) (h0 : 0 ≤ f) (hd : 0 ≤ d) (h : f + s + d ≤ 2147483647) : hasB (f + d) s (a + d) = hasB f s a := bool_eq (by rw [hasB_true, hasB_true]; omega)
theorem meetsB_move (f s g t d : Int) (h0 : 0 ≤ f) (h1 : 0 ≤ g) (hd : 0 ≤ d) (h2 : f + s + d ≤ 2147483647) (h3 : g + t + d ≤ 2147483647) : meetsB (f + d) s (g + d) t = meetsB f s g t := bool_eq (by rw [meetsB_true, meetsB_true]; omega)
theorem inB_move (f s g t d : Int) (h0 : 0 ≤ f) (h1 : 0 ≤ g) (hd : 0 ≤ d) (h2 : f + s + d ≤ 2147483647) (h3 : g + t + d ≤ 2147483647) : inB (f + d) s (g + d) t = inB f s g t := bool_eq (by rw [inB_true, inB_true]; omega)

set_option maxHeartbeats 1000000 in
theorem spanMoves_core (f s g t d : Int) (hd0 : 0 ≤ d) (hd : d ≤ 65535) (w : World) : Calls Try.prog 5 #[.agg #[.int .i64 f, .int .i64 s], .agg #[.int .i64 g, .int .i64 t], .int .u16 d] w fun e w' => e = .returned (.bool true) ∧ Below w.heap.size w w' := by
  cases h1 : rightB f s
  · go_enter Try.func5, Try.ntmps5
    have HB0 : Kp (Below w.heap.size w ((w.alloc (.cells #[.int .i64 f, .int .i64 s] 23)).alloc (.cells #[.int .i64 g, .int .i64 t] 23))) := ⟨below_al (below_al (Below.refl _ _) _) _⟩
    have bk0_0 : Kp (((w.alloc (.cells #[.int .i64 f, .int .i64 s] 23)).alloc (.cells #[.int .i64 g, .int .i64 t] 23)).heap[w.heap.size]? = some (.cells #[.int .i64 f, .int .i64 s] 23)) := ⟨blk_al (blk_new _ _) _⟩
    have bk0_1 : Kp (((w.alloc (.cells #[.int .i64 f, .int .i64 s] 23)).alloc (.cells #[.int .i64 g, .int .i64 t] 23)).heap[w.heap.size + 1]? = some (.cells #[.int .i64 g, .int .i64 t] 23)) := ⟨blk_at (w := (w.alloc (.cells #[.int .i64 f, .int .i64 s] 23))) (by simp) _⟩
    go_wp2_with fail
    refine (spanWakes _).mono ?_
    rintro e w1 ⟨rfl, hb⟩
    have HB1 : Kp (Below w.heap.size w w1) := ⟨below_call HB0.out hb⟩
    have bk1_0 : Kp (w1.heap[w.heap.size]? = some (.cells #[.int .i64 f, .int .i64 s] 23)) := ⟨blk_below bk0_0.out hb⟩
    have bk1_1 : Kp (w1.heap[w.heap.size + 1]? = some (.cells #[.int .i64 g, .int .i64 t] 23)) := ⟨blk_below bk0_1.out hb⟩
    clear hb HB0 bk0_0 bk0_1
    have c1_0_0 : w1.cell? ⟨w.heap.size, 0, none⟩ = some (.int .i64 f) := (cell_blk bk1_0.out 0).trans rfl
    have c1_0_1 : w1.cell? ⟨w.heap.size, 1, none⟩ = some (.int .i64 s) := (cell_blk bk1_0.out 1).trans rfl
    have lt1_0 : w.heap.size < w1.heap.size := blk_lt bk1_0.out
    have c1_1_0 : w1.cell? ⟨w.heap.size + 1, 0, none⟩ = some (.int .i64 g) := (cell_blk bk1_1.out 0).trans rfl
    have c1_1_1 : w1.cell? ⟨w.heap.size + 1, 1, none⟩ = some (.int .i64 t) := (cell_blk bk1_1.out 1).trans rfl
    have lt1_1 : w.heap.size + 1 < w1.heap.size := blk_lt bk1_1.out
    go_wp2_with fail
    refine (rright_any _ _ _ h1 _).mono ?_
    rintro e w2 ⟨rfl, hb⟩
    have HB2 : Kp (Below w.heap.size w w2) := ⟨below_call HB1.out hb⟩
    have bk2_0 : Kp (w2.heap[w.heap.size]? = some (.cells #[.int .i64 f, .int .i64 s] 23)) := ⟨blk_below bk1_0.out hb⟩
    have bk2_1 : Kp (w2.heap[w.heap.size + 1]? = some (.cells #[.int .i64 g, .int .i64 t] 23)) := ⟨blk_below bk1_1.out hb⟩
    clear hb HB1 bk1_0 bk1_1 c1_0_0 c1_0_1 lt1_0 c1_1_0 c1_1_1 lt1_1
    have c2_0_0 : w2.cell? ⟨w.heap.size, 0, none⟩ = some (.int .i64 f) := (cell_blk bk2_0.out 0).trans rfl
    have c2_0_1 : w2.cell? ⟨w.heap.size, 1, none⟩ = some (.int .i64 s) := (cell_blk bk2_0.out 1).trans rfl
    have lt2_0 : w.heap.size < w2.heap.size := blk_lt bk2_0.out
    have c2_1_0 : w2.cell? ⟨w.heap.size + 1, 0, none⟩ = some (.int .i64 g) := (cell_blk bk2_1.out 0).trans rfl
    have c2_1_1 : w2.cell? ⟨w.heap.size + 1, 1, none⟩ = some (.int .i64 t) := (cell_blk bk2_1.out 1).trans rfl
    have lt2_1 : w.heap.size + 1 < w2.heap.size := blk_lt bk2_1.out
    go_wp2
    go_ret
    exact ⟨rfl, HB2.out⟩

  cases h2 : rightB g t
  · go_enter Try.func5, Try.ntmps5
    have HB0 : Kp (Below w.heap.size w ((w.alloc (.cells #[.int .i64 f, .int .i64 s] 23)).alloc (.cells #[.int .i64 g, .int .i64 t] 23))) := ⟨below_al (below_al (Below.refl _ _) _) _⟩
    have bk0_0 : Kp (((w.alloc (.cells #[.int .i64 f, .int .i64 s] 23)).alloc (.cells #[.int .i64 g, .int .i64 t] 23)).heap[w.heap.size]? = some (.cells #[.int .i64 f, .int .i64 s] 23)) := ⟨blk_al (blk_new _ _) _⟩
    have bk0_1 : Kp (((w.alloc (.cells #[.int .i64 f, .int .i64 s] 23)).alloc (.cells #[.int .i64 g, .int .i64 t] 23)).heap[w.heap.size + 1]? = some (.cells #[.int .i64 g, .int .i64 t] 23)) := ⟨blk_at (w := (w.alloc (.cells #[.int .i64 f, .int .i64 s] 23))) (by simp) _⟩
    go_wp2_with fail
    refine (spanWakes _).mono ?_
    rintro e w1 ⟨rfl, hb⟩
    have HB1 : Kp (Below w.heap.size w w1) := ⟨below_call HB0.out hb⟩
    have bk1_0 : Kp (w1.heap[w.heap.size]? = some (.cells #[.int .i64 f, .int .i64 s] 23)) := ⟨blk_below bk0_0.out hb⟩
    have bk1_1 : Kp (w1.heap[w.heap.size + 1]? = some (.cells #[.int .i64 g, .int .i64 t] 23)) := ⟨blk_below bk0_1.out hb⟩
    clear hb HB0 bk0_0 bk0_1
    have c1_0_0 : w1.cell? ⟨w.heap.size, 0, none⟩ = some (.int .i64 f) := (cell_blk bk1_0.out 0).trans rfl
    have c1_0_1 : w1.cell? ⟨w.heap.size, 1, none⟩ = some (.int .i64 s) := (cell_blk bk1_0.out 1).trans rfl
    have lt1_0 : w.heap.size < w1.heap.size := blk_lt bk1_0.out
    have c1_1_0 : w1.cell? ⟨w.heap.size + 1, 0, none⟩ = some (.int .i64 g) := (cell_blk bk1_1.out 0).trans rfl
    have c1_1_1 : w1.cell? ⟨w.heap.size + 1, 1, none⟩ = some (.int .i64 t) := (cell_blk bk1_1.out 1).trans rfl
    have lt1_1 : w.heap.size + 1 < w1.heap.size := blk_lt bk1_1.out
    go_wp2_with fail
    refine (rright_any _ _ _ h1 _).mono ?_
    rintro e w2 ⟨rfl, hb⟩
    have HB2 : Kp (Below w.heap.size w w2) := ⟨below_call HB1.out hb⟩
    have bk2_0 : Kp (w2.heap[w.heap.size]? = some (.cells #[.int .i64 f, .int .i64 s] 23)) := ⟨blk_below bk1_0.out hb⟩
    have bk2_1 : Kp (w2.heap[w.heap.size + 1]? = some (.cells #[.int .i64 g, .int .i64 t] 23)) := ⟨blk_below bk1_1.out hb⟩
    clear hb HB1 bk1_0 bk1_1 c1_0_0 c1_0_1 lt1_0 c1_1_0 c1_1_1 lt1_1
    have c2_0_0 : w2.cell? ⟨w.heap.size, 0, none⟩ = some (.int .i64 f) := (cell_blk bk2_0.out 0).trans rfl
    have c2_0_1 : w2.cell? ⟨w.heap.size, 1, none⟩ = some (.int .i64 s) := (cell_blk bk2_0.out 1).trans rfl
    have lt2_0 : w.heap.size < w2.heap.size := blk_lt bk2_0.out
    have c2_1_0 : w2.cell? ⟨w.heap.size + 1, 0, none⟩ = some (.int .i64 g) := (cell_blk bk2_1.out 0).trans rfl
    have c2_1_1 : w2.cell? ⟨w.heap.size + 1, 1, none⟩ = some (.int .i64 t) := (cell_blk bk2_1.out 1).trans rfl
    have lt2_1 : w.heap.size + 1 < w2.heap.size := blk_lt bk2_1.out
    go_wp2_with fail
    refine (rright_any _ _ _ h2 _).mono ?_
    rintro e w3 ⟨rfl, hb⟩
    have HB3 : Kp (Below w.heap.size w w3) := ⟨below_call HB2.out hb⟩
    have bk3_0 : Kp (w3.heap[w.heap.size]? = some (.cells #[.int .i64 f, .int .i64 s] 23)) := ⟨blk_below bk2_0.out hb⟩
    have bk3_1 : Kp (w3.heap[w.heap.size + 1]? = some (.cells #[.int .i64 g, .int .i64 t] 23)) := ⟨blk_below bk2_1.out hb⟩
    clear hb HB2 bk2_0 bk2_1 c2_0_0 c2_0_1 lt2_0 c2_1_0 c2_1_1 lt2_1
    have c3_0_0 : w3.cell? ⟨w.heap.size, 0, none⟩ = some (.int .i64 f) := (cell_blk bk3_0.out 0).trans rfl
    have c3_0_1 : w3.cell? ⟨w.heap.size, 1, none⟩ = some (.int .i64 s) := (cell_blk bk3_0.out 1).trans rfl
    have lt3_0 : w.heap.size < w3.heap.size := blk_lt bk3_0.out
    have c3_1_0 : w3.cell? ⟨w.heap.size + 1, 0, none⟩ = some (.int .i64 g) := (cell_blk bk3_1.out 0).trans rfl
    have c3_1_1 : w3.cell? ⟨w.heap.size + 1, 1, none⟩ = some (.int .i64 t) := (cell_blk bk3_1.out 1).trans rfl
    have lt3_1 : w.heap.size + 1 < w3.heap.size := blk_lt bk3_1.out
    go_wp2
    go_ret
    exact ⟨rfl, HB3.out⟩

  obtain ⟨k1, k2, k3, k4⟩ := rightB_true.1 h1
  obtain ⟨k5, k6, k7, k8⟩ := rightB_true.1 h2
  by_cases h3 : 1073741824 < f + s
  · go_enter Try.func5, Try.ntmps5
    have HB0 : Kp (Below w.heap.size w ((w.alloc (.cells #[.int .i64 f, .int .i64 s] 23)).alloc (.cells #[.int .i64 g, .int .i64 t] 23))) := ⟨below_al (below_al (Below.refl _ _) _) _⟩
    have bk0_0 : Kp (((w.alloc (.cells #[.int .i64 f, .int .i64 s] 23)).alloc (.cells #[.int .i64 g, .int .i64 t] 23)).heap[w.heap.size]? = some (.cells #[.int .i64 f, .int .i64 s] 23)) := ⟨blk_al (blk_new _ _) _⟩
    have bk0_1 : Kp (((w.alloc (.cells #[.int .i64 f, .int .i64 s] 23)).alloc (.cells #[.int .i64 g, .int .i64 t] 23)).heap[w.heap.size + 1]? = some (.cells #[.int .i64 g, .int .i64 t] 23)) := ⟨blk_at (w := (w.alloc (.cells #[.int .i64 f, .int .i64 s] 23))) (by simp) _⟩
    go_wp2_with fail
    refine (spanWakes _).mono ?_
    rintro e w1 ⟨rfl, hb⟩
    have HB1 : Kp (Below w.heap.size w w1) := ⟨below_call HB0.out hb⟩
    have bk1_0 : Kp (w1.heap[w.heap.size]? = some (.cells #[.int .i64 f, .int .i64 s] 23)) := ⟨blk_below bk0_0.out hb⟩
    have bk1_1 : Kp (w1.heap[w.heap.size + 1]? = some (.cells #[.int .i64 g, .int .i64 t] 23)) := ⟨blk_below bk0_1.out hb⟩
    clear hb HB0 bk0_0 bk0_1
    have c1_0_0 : w1.cell? ⟨w.heap.size, 0, none⟩ = some (.int .i64 f) := (cell_blk bk1_0.out 0).trans rfl
    have c1_0_1 : w1.cell? ⟨w.heap.size, 1, none⟩ = some (.int .i64 s) := (cell_blk bk1_0.out 1).trans rfl
    have lt1_0 : w.heap.size < w1.heap.size := blk_lt bk1_0.out
    have c1_1_0 : w1.cell? ⟨w.heap.size + 1, 0, none⟩ = some (.int .i64 g) := (cell_blk bk1_1.out 0).trans rfl
    have c1_1_1 : w1.cell? ⟨w.heap.size + 1, 1, none⟩ = some (.int .i64 t) := (cell_blk bk1_1.out 1).trans rfl
    have lt1_1 : w.heap.size + 1 < w1.heap.size := blk_lt bk1_1.out
    go_wp2_with fail
    refine (rright_any _ _ _ h1 _).mono ?_
    rintro e w2 ⟨rfl, hb⟩
    have HB2 : Kp (Below w.heap.size w w2) := ⟨below_call HB1.out hb⟩
    have bk2_0 : Kp (w2.heap[w.heap.size]? = some (.cells #[.int .i64 f, .int .i64 s] 23)) := ⟨blk_below bk1_0.out hb⟩
    have bk2_1 : Kp (w2.heap[w.heap.size + 1]? = some (.cells #[.int .i64 g, .int .i64 t] 23)) := ⟨blk_below bk1_1.out hb⟩
    clear hb HB1 bk1_0 bk1_1 c1_0_0 c1_0_1 lt1_0 c1_1_0 c1_1_1 lt1_1
    have c2_0_0 : w2.cell? ⟨w.heap.size, 0, none⟩ = some (.int .i64 f) := (cell_blk bk2_0.out 0).trans rfl
    have c2_0_1 : w2.cell? ⟨w.heap.size, 1, none⟩ = some (.int .i64 s) := (cell_blk bk2_0.out 1).trans rfl
    have lt2_0 : w.heap.size < w2.heap.size := blk_lt bk2_0.out
    have c2_1_0 : w2.cell? ⟨w.heap.size + 1, 0, none⟩ = some (.int .i64 g) := (cell_blk bk2_1.out 0).trans rfl
    have c2_1_1 : w2.cell? ⟨w.heap.size + 1, 1, none⟩ = some (.int .i64 t) := (cell_blk bk2_1.out 1).trans rfl
    have lt2_1 : w.heap.size + 1 < w2.heap.size := blk_lt bk2_1.out
    go_wp2_with fail
    refine (rright_any _ _ _ h2 _).mono ?_
    rintro e w3 ⟨rfl, hb⟩
    have HB3 : Kp (Below w.heap.size w w3) := ⟨below_call HB2.out hb⟩
    have bk3_0 : Kp (w3.heap[w.heap.size]? = some (.cells #[.int .i64 f, .int .i64 s] 23)) := ⟨blk_below bk2_0.out hb⟩
    have bk3_1 : Kp (w3.heap[w.heap.size + 1]? = some (.cells #[.int .i64 g, .int .i64 t] 23)) := ⟨blk_below bk2_1.out hb⟩
    clear hb HB2 bk2_0 bk2_1 c2_0_0 c2_0_1 lt2_0 c2_1_0 c2_1_1 lt2_1
    have c3_0_0 : w3.cell? ⟨w.heap.size, 0, none⟩ = some (.int .i64 f) := (cell_blk bk3_0.out 0).trans rfl
    have c3_0_1 : w3.cell? ⟨w.heap.size, 1, none⟩ = some (.int .i64 s) := (cell_blk bk3_0.out 1).trans rfl
    have lt3_0 : w.heap.size < w3.heap.size := blk_lt bk3_0.out
    have c3_1_0 : w3.cell? ⟨w.heap.size + 1, 0, none⟩ = some (.int .i64 g) := (cell_blk bk3_1.out 0).trans rfl
    have c3_1_1 : w3.cell? ⟨w.heap.size + 1, 1, none⟩ = some (.int .i64 t) := (cell_blk bk3_1.out 1).trans rfl
    have lt3_1 : w.heap.size + 1 < w3.heap.size := blk_lt bk3_1.out
    go_wp2
    go_ret
    exact ⟨rfl, HB3.out⟩

  by_cases h4 : 1073741824 < g + t
  · go_enter Try.func5, Try.ntmps5
    have HB0 : Kp (Below w.heap.size w ((w.alloc (.cells #[.int .i64 f, .int .i64 s] 23)).alloc (.cells #[.int .i64 g, .int .i64 t] 23))) := ⟨below_al (below_al (Below.refl _ _) _) _⟩
    have bk0_0 : Kp (((w.alloc (.cells #[.int .i64 f, .int .i64 s] 23)).alloc (.cells #[.int .i64 g, .int .i64 t] 23)).heap[w.heap.size]? = some (.cells #[.int .i64 f, .int .i64 s] 23)) := ⟨blk_al (blk_new _ _) _⟩
    have bk0_1 : Kp (((w.alloc (.cells #[.int .i64 f, .int .i64 s] 23)).alloc (.cells #[.int .i64 g, .int .i64 t] 23)).heap[w.heap.size + 1]? = some (.cells #[.int .i64 g, .int .i64 t] 23)) := ⟨blk_at (w := (w.alloc (.cells #[.int .i64 f, .int .i64 s] 23))) (by simp) _⟩
    go_wp2_with fail
    refine (spanWakes _).mono ?_
    rintro e w1 ⟨rfl, hb⟩
    have HB1 : Kp (Below w.heap.size w w1) := ⟨below_call HB0.out hb⟩
    have bk1_0 : Kp (w1.heap[w.heap.size]? = some (.cells #[.int .i64 f, .int .i64 s] 23)) := ⟨blk_below bk0_0.out hb⟩
    have bk1_1 : Kp (w1.heap[w.heap.size + 1]? = some (.cells #[.int .i64 g, .int .i64 t] 23)) := ⟨blk_below bk0_1.out hb⟩
    clear hb HB0 bk0_0 bk0_1
    have c1_0_0 : w1.cell? ⟨w.heap.size, 0, none⟩ = some (.int .i64 f) := (cell_blk bk1_0.out 0).trans rfl
    have c1_0_1 : w1.cell? ⟨w.heap.size, 1, none⟩ = some (.int .i64 s) := (cell_blk bk1_0.out 1).trans rfl
    have lt1_0 : w.heap.size < w1.heap.size := blk_lt bk1_0.out
    have c1_1_0 : w1.cell? ⟨w.heap.size + 1, 0, none⟩ = some (.int .i64 g) := (cell_blk bk1_1.out 0).trans rfl
    have c1_1_1 : w1.cell? ⟨w.heap.size + 1, 1, none⟩ = some (.int .i64 t) := (cell_blk bk1_1.out 1).trans rfl
    have lt1_1 : w.heap.size + 1 < w1.heap.size := blk_lt bk1_1.out
    go_wp2_with fail
    refine (rright_any _ _ _ h1 _).mono ?_
    rintro e w2 ⟨rfl, hb⟩
    have HB2 : Kp (Below w.heap.size w w2) := ⟨below_call HB1.out hb⟩
    have bk2_0 : Kp (w2.heap[w.heap.size]? = some (.cells #[.int .i64 f, .int .i64 s] 23)) := ⟨blk_below bk1_0.out hb⟩
    have bk2_1 : Kp (w2.heap[w.heap.size + 1]? = some (.cells #[.int .i64 g, .int .i64 t] 23)) := ⟨blk_below bk1_1.out hb⟩
    clear hb HB1 bk1_0 bk1_1 c1_0_0 c1_0_1 lt1_0 c1_1_0 c1_1_1 lt1_1
    have c2_0_0 : w2.cell? ⟨w.heap.size, 0, none⟩ = some (.int .i64 f) := (cell_blk bk2_0.out 0).trans rfl
    have c2_0_1 : w2.cell? ⟨w.heap.size, 1, none⟩ = some (.int .i64 s) := (cell_blk bk2_0.out 1).trans rfl
    have lt2_0 : w.heap.size < w2.heap.size := blk_lt bk2_0.out
    have c2_1_0 : w2.cell? ⟨w.heap.size + 1, 0, none⟩ = some (.int .i64 g) := (cell_blk bk2_1.out 0).trans rfl
    have c2_1_1 : w2.cell? ⟨w.heap.size + 1, 1, none⟩ = some (.int .i64 t) := (cell_blk bk2_1.out 1).trans rfl
    have lt2_1 : w.heap.size + 1 < w2.heap.size := blk_lt bk2_1.out
    go_wp2_with fail
    refine (rright_any _ _ _ h2 _).mono ?_
    rintro e w3 ⟨rfl, hb⟩
    have HB3 : Kp (Below w.heap.size w w3) := ⟨below_call HB2.out hb⟩
    have bk3_0 : Kp (w3.heap[w.heap.size]? = some (.cells #[.int .i64 f, .int .i64 s] 23)) := ⟨blk_below bk2_0.out hb⟩
    have bk3_1 : Kp (w3.heap[w.heap.size + 1]? = some (.cells #[.int .i64 g, .int .i64 t] 23)) := ⟨blk_below bk2_1.out hb⟩
    clear hb HB2 bk2_0 bk2_1 c2_0_0 c2_0_1 lt2_0 c2_1_0 c2_1_1 lt2_1
    have c3_0_0 : w3.cell? ⟨w.heap.size, 0, none⟩ = some (.int .i64 f) := (cell_blk bk3_0.out 0).trans rfl
    have c3_0_1 : w3.cell? ⟨w.heap.size, 1, none⟩ = some (.int .i64 s) := (cell_blk bk3_0.out 1).trans rfl
    have lt3_0 : w.heap.size < w3.heap.size := blk_lt bk3_0.out
    have c3_1_0 : w3.cell? ⟨w.heap.size + 1, 0, none⟩ = some (.int .i64 g) := (cell_blk bk3_1.out 0).trans rfl
    have c3_1_1 : w3.cell? ⟨w.heap.size + 1, 1, none⟩ = some (.int .i64 t) := (cell_blk bk3_1.out 1).trans rfl
    have lt3_1 : w.heap.size + 1 < w3.heap.size := blk_lt bk3_1.out
    go_wp2
    go_ret
    exact ⟨rfl, HB3.out⟩

  obtain ⟨m1, e2⟩ : ∃ b, meetsB f s g t = b := ⟨_, rfl⟩
  obtain ⟨m2, e4⟩ : ∃ b, inB f s g t = b := ⟨_, rfl⟩
  obtain ⟨m3, e6⟩ : ∃ b, hasB f s f = b := ⟨_, rfl⟩
  have e1 : meetsB (f + d) s (g + d) t = m1 := by rw [meetsB_move f s g t d k1 k5 hd0 (by omega) (by omega), e2]
  have e3 : inB (f + d) s (g + d) t = m2 := by rw [inB_move f s g t d k1 k5 hd0 (by omega) (by omega), e4]
  have e5 : hasB (f + d) s (f + d) = m3 := by rw [hasB_move f s f d k1 hd0 (by omega), e6]
  go_enter Try.func5, Try.ntmps5
  have HB0 : Kp (Below w.heap.size w ((w.alloc (.cells #[.int .i64 f, .int .i64 s] 23)).alloc (.cells #[.int .i64 g, .int .i64 t] 23))) := ⟨below_al (below_al (Below.refl _ _) _) _⟩
  have bk0_0 : Kp (((w.alloc (.cells #[.int .i64 f, .int .i64 s] 23)).alloc (.cells #[.int .i64 g, .int .i64 t] 23)).heap[w.heap.size]? = some (.cells #[.int .i64 f, .int .i64 s] 23)) := ⟨blk_al (blk_new _ _) _⟩
  have bk0_1 : Kp (((w.alloc (.cells #[.int .i64 f, .int .i64 s] 23)).alloc (.cells #[.int .i64 g, .int .i64 t] 23)).heap[w.heap.size + 1]? = some (.cells #[.int .i64 g, .int .i64 t] 23)) := ⟨blk_at (w := (w.alloc (.cells #[.int .i64 f, .int .i64 s] 23))) (by simp) _⟩
  go_wp2_with fail
  refine (spanWakes _).mono ?_
  rintro e w1 ⟨rfl, hb⟩
  have HB1 : Kp (Below w.heap.size w w1) := ⟨below_call HB0.out hb⟩
  have bk1_0 : Kp (w1.heap[w.heap.size]? = some (.cells #[.int .i64 f, .int .i64 s] 23)) := ⟨blk_below bk0_0.out hb⟩
  have bk1_1 : Kp (w1.heap[w.heap.size + 1]? = some (.cells #[.int .i64 g, .int .i64 t] 23)) := ⟨blk_below bk0_1.out hb⟩
  clear hb HB0 bk0_0 bk0_1
  have c1_0_0 : w1.cell? ⟨w.heap.size, 0, none⟩ = some (.int .i64 f) := (cell_blk bk1_0.out 0).trans rfl
  have c1_0_1 : w1.cell? ⟨w.heap.size, 1, none⟩ = some (.int .i64 s) := (cell_blk bk1_0.out 1).trans rfl
  have lt1_0 : w.heap.size < w1.heap.size := blk_lt bk1_0.out
  have c1_1_0 : w1.cell? ⟨w.heap.size + 1, 0, none⟩ = some (.int .i64 g) := (cell_blk bk1_1.out 0).trans rfl
  have c1_1_1 : w1.cell? ⟨w.heap.size + 1, 1, none⟩ = some (.int .i64 t) := (cell_blk bk1_1.out 1).trans rfl
  have lt1_1 : w.heap.size + 1 < w1.heap.size := blk_lt bk1_1.out
  go_wp2_with fail
  refine (rright_any _ _ _ h1 _).mono ?_
  rintro e w2 ⟨rfl, hb⟩
  have HB2 : Kp (Below w.heap.size w w2) := ⟨below_call HB1.out hb⟩
  have bk2_0 : Kp (w2.heap[w.heap.size]? = some (.cells #[.int .i64 f, .int .i64 s] 23)) := ⟨blk_below bk1_0.out hb⟩
  have bk2_1 : Kp (w2.heap[w.heap.size + 1]? = some (.cells #[.int .i64 g, .int .i64 t] 23)) := ⟨blk_below bk1_1.out hb⟩
  clear hb HB1 bk1_0 bk1_1 c1_0_0 c1_0_1 lt1_0 c1_1_0 c1_1_1 lt1_1
  have c2_0_0 : w2.cell? ⟨w.heap.size, 0, none⟩ = some (.int .i64 f) := (cell_blk bk2_0.out 0).trans rfl
  have c2_0_1 : w2.cell? ⟨w.heap.size, 1, none⟩ = some (.int .i64 s) := (cell_blk bk2_0.out 1).trans rfl
  have lt2_0 : w.heap.size < w2.heap.size := blk_lt bk2_0.out
  have c2_1_0 : w2.cell? ⟨w.heap.size + 1, 0, none⟩ = some (.int .i64 g) := (cell_blk bk2_1.out 0).trans rfl
  have c2_1_1 : w2.cell? ⟨w.heap.size + 1, 1, none⟩ = some (.int .i64 t) := (cell_blk bk2_1.out 1).trans rfl
  have lt2_1 : w.heap.size + 1 < w2.heap.size := blk_lt bk2_1.out
  go_wp2_with fail
  refine (rright_any _ _ _ h2 _).mono ?_
  rintro e w3 ⟨rfl, hb⟩
  have HB3 : Kp (Below w.heap.size w w3) := ⟨below_call HB2.out hb⟩
  have bk3_0 : Kp (w3.heap[w.heap.size]? = some (.cells #[.int .i64 f, .int .i64 s] 23)) := ⟨blk_below bk2_0.out hb⟩
  have bk3_1 : Kp (w3.heap[w.heap.size + 1]? = some (.cells #[.int .i64 g, .int .i64 t] 23)) := ⟨blk_below bk2_1.out hb⟩
  clear hb HB2 bk2_0 bk2_1 c2_0_0 c2_0_1 lt2_0 c2_1_0 c2_1_1 lt2_1
  have c3_0_0 : w3.cell? ⟨w.heap.size, 0, none⟩ = some (.int .i64 f) := (cell_blk bk3_0.out 0).trans rfl
  have c3_0_1 : w3.cell? ⟨w.heap.size, 1, none⟩ = some (.int .i64 s) := (cell_blk bk3_0.out 1).trans rfl
  have lt3_0 : w.heap.size < w3.heap.size := blk_lt bk3_0.out
  have c3_1_0 : w3.cell? ⟨w.heap.size + 1, 0, none⟩ = some (.int .i64 g) := (cell_blk bk3_1.out 0).trans rfl
  have c3_1_1 : w3.cell? ⟨w.heap.size + 1, 1, none⟩ = some (.int .i64 t) := (cell_blk bk3_1.out 1).trans rfl
  have lt3_1 : w.heap.size + 1 < w3.heap.size := blk_lt bk3_1.out

  go_wp2_with fail
  have wf1 : IntKind.i64.wrap (f + d) = f + d := IntWalk.i64_in _ (by omega)
  have wf2 : IntKind.i64.wrap (g + d) = g + d := IntWalk.i64_in _ (by omega)
  go_region_held3 (fun w' : World => Below (w3).heap.size (w3) w' ∧ ∀ b o, b < (w3).heap.size → w'.cell? ⟨b, o, none⟩ = (w3).cell? ⟨b, o, none⟩) (first | exact old_drew _ | (refine old_of ?_; repeat (first | exact Below.refl _ _ | apply below_dr | apply below_al)) | exact old_call (by assumption) hb) (fail)
  · have bn0 : Kp ((((w3.alloc (.cells #[.int .i64 (f + d), .int .i64 s] 23)).alloc (.cells #[.int .i64 (g + d), .int .i64 t] 23)).drew).heap[w3.heap.size]? = some (.cells #[.int .i64 (f + d), .int .i64 s] 23)) := ⟨blk_dr (blk_al (blk_new w3 _) _)⟩
    have bn1 : Kp ((((w3.alloc (.cells #[.int .i64 (f + d), .int .i64 s] 23)).alloc (.cells #[.int .i64 (g + d), .int .i64 t] 23)).drew).heap[w3.heap.size + 1]? = some (.cells #[.int .i64 (g + d), .int .i64 t] 23)) := ⟨blk_dr (blk_at (w := w3.alloc (.cells #[.int .i64 (f + d), .int .i64 s] 23)) (by simp) _)⟩
    have hbn : Below w3.heap.size w3 (((w3.alloc (.cells #[.int .i64 (f + d), .int .i64 s] 23)).alloc (.cells #[.int .i64 (g + d), .int .i64 t] 23)).drew) := (below_al (below_al (Below.refl _ _) _) _).drew
    have HB4 : Kp (Below w.heap.size w (((w3.alloc (.cells #[.int .i64 (f + d), .int .i64 s] 23)).alloc (.cells #[.int .i64 (g + d), .int .i64 t] 23)).drew)) := ⟨below_call HB3.out hbn⟩
    have b4_0 : Kp ((((w3.alloc (.cells #[.int .i64 (f + d), .int .i64 s] 23)).alloc (.cells #[.int .i64 (g + d), .int .i64 t] 23)).drew).heap[w.heap.size]? = some (.cells #[.int .i64 f, .int .i64 s] 23)) := ⟨blk_below bk3_0.out hbn⟩
    have b4_1 : Kp ((((w3.alloc (.cells #[.int .i64 (f + d), .int .i64 s] 23)).alloc (.cells #[.int .i64 (g + d), .int .i64 t] 23)).drew).heap[w.heap.size + 1]? = some (.cells #[.int .i64 g, .int .i64 t] 23)) := ⟨blk_below bk3_1.out hbn⟩
    clear hbn HB3 bk3_0 bk3_1 c3_0_0 c3_0_1 lt3_0 c3_1_0 c3_1_1 lt3_1 wf1 wf2
    rename_i hOld
    clear hOld
    generalize (((w3.alloc (.cells #[.int .i64 (f + d), .int .i64 s] 23)).alloc (.cells #[.int .i64 (g + d), .int .i64 t] 23)).drew) = w4 at *
    have d0 : w4.cell? ⟨w.heap.size, 0, none⟩ = some (.int .i64 f) := (cell_blk b4_0.out 0).trans rfl
    have d1 : w4.cell? ⟨w.heap.size, 1, none⟩ = some (.int .i64 s) := (cell_blk b4_0.out 1).trans rfl
    have d2 : w4.cell? ⟨w.heap.size + 1, 0, none⟩ = some (.int .i64 g) := (cell_blk b4_1.out 0).trans rfl
    have d3 : w4.cell? ⟨w.heap.size + 1, 1, none⟩ = some (.int .i64 t) := (cell_blk b4_1.out 1).trans rfl
    have d4 : w4.cell? ⟨w3.heap.size, 0, none⟩ = some (.int .i64 (f + d)) := (cell_blk bn0.out 0).trans rfl
    have d5 : w4.cell? ⟨w3.heap.size, 1, none⟩ = some (.int .i64 s) := (cell_blk bn0.out 1).trans rfl
    have d6 : w4.cell? ⟨w3.heap.size + 1, 0, none⟩ = some (.int .i64 (g + d)) := (cell_blk bn1.out 0).trans rfl
    have d7 : w4.cell? ⟨w3.heap.size + 1, 1, none⟩ = some (.int .i64 t) := (cell_blk bn1.out 1).trans rfl
    have l0 := blk_lt b4_0.out
    have l1 := blk_lt b4_1.out
    have l2 := blk_lt bn0.out
    have l3 := blk_lt bn1.out
    have wf1 : IntKind.i64.wrap (f + d) = f + d := IntWalk.i64_in _ (by omega)
    clear bn0 bn1 b4_0 b4_1
    go_wp2_with fail
    go_region_held3 (fun w' : World => Below (w4).heap.size (w4) w' ∧ ∀ b o, b < (w4).heap.size → w'.cell? ⟨b, o, none⟩ = (w4).cell? ⟨b, o, none⟩) (first | exact old_drew _ | exact old_call (by assumption) hb) (first | (go_at_call 18; (with_reducible refine (meets_any (f + d) s (g + d) t m1 e1 _).mono ?_); rintro e w1 ⟨rfl, hb⟩) | (go_at_call 18; (with_reducible refine (meets_any f s g t m1 e2 _).mono ?_); rintro e w1 ⟨rfl, hb⟩) | (go_at_call 20; (with_reducible refine (in_any (f + d) s (g + d) t m2 e3 _).mono ?_); rintro e w1 ⟨rfl, hb⟩) | (go_at_call 20; (with_reducible refine (in_any f s g t m2 e4 _).mono ?_); rintro e w1 ⟨rfl, hb⟩) | (go_at_call 16; (with_reducible refine (has_any (f + d) s (f + d) m3 e5 _).mono ?_); rintro e w1 ⟨rfl, hb⟩) | (go_at_call 16; (with_reducible refine (has_any f s f m3 e6 _).mono ?_); rintro e w1 ⟨rfl, hb⟩))
    have hr := And.left ‹Below w4.heap.size w4 _ ∧ _›
    go_wp2
    go_ret
    exact ⟨rfl, below_call HB4.out hr⟩
  · have bn0 : Kp ((((w3.alloc (.cells #[.int .i64 (g + d), .int .i64 t] 23)).alloc (.cells #[.int .i64 (f + d), .int .i64 s] 23)).drew).heap[w3.heap.size]? = some (.cells #[.int .i64 (g + d), .int .i64 t] 23)) := ⟨blk_dr (blk_al (blk_new w3 _) _)⟩
    have bn1 : Kp ((((w3.alloc (.cells #[.int .i64 (g + d), .int .i64 t] 23)).alloc (.cells #[.int .i64 (f + d), .int .i64 s] 23)).drew).heap[w3.heap.size + 1]? = some (.cells #[.int .i64 (f + d), .int .i64 s] 23)) := ⟨blk_dr (blk_at (w := w3.alloc (.cells #[.int .i64 (g + d), .int .i64 t] 23)) (by simp) _)⟩
    have hbn : Below w3.heap.size w3 (((w3.alloc (.cells #[.int .i64 (g + d), .int .i64 t] 23)).alloc (.cells #[.int .i64 (f + d), .int .i64 s] 23)).drew) := (below_al (below_al (Below.refl _ _) _) _).drew
    have HB4 : Kp (Below w.heap.size w (((w3.alloc (.cells #[.int .i64 (g + d), .int .i64 t] 23)).alloc (.cells #[.int .i64 (f + d), .int .i64 s] 23)).drew)) := ⟨below_call HB3.out hbn⟩
    have b4_0 : Kp ((((w3.alloc (.cells #[.int .i64 (g + d), .int .i64 t] 23)).alloc (.cells #[.int .i64 (f + d), .int .i64 s] 23)).drew).heap[w.heap.size]? = some (.cells #[.int .i64 f, .int .i64 s] 23)) := ⟨blk_below bk3_0.out hbn⟩
    have b4_1 : Kp ((((w3.alloc (.cells #[.int .i64 (g + d), .int .i64 t] 23)).alloc (.cells #[.int .i64 (f + d), .int .i64 s] 23)).drew).heap[w.heap.size + 1]? = some (.cells #[.int .i64 g, .int .i64 t] 23)) := ⟨blk_below bk3_1.out hbn⟩
    clear hbn HB3 bk3_0 bk3_1 c3_0_0 c3_0_1 lt3_0 c3_1_0 c3_1_1 lt3_1 wf1 wf2
    rename_i hOld
    clear hOld
    generalize (((w3.alloc (.cells #[.int .i64 (g + d), .int .i64 t] 23)).alloc (.cells #[.int .i64 (f + d), .int .i64 s] 23)).drew) = w4 at *
    have d0 : w4.cell? ⟨w.heap.size, 0, none⟩ = some (.int .i64 f) := (cell_blk b4_0.out 0).trans rfl
    have d1 : w4.cell? ⟨w.heap.size, 1, none⟩ = some (.int .i64 s) := (cell_blk b4_0.out 1).trans rfl
    have d2 : w4.cell? ⟨w.heap.size + 1, 0, none⟩ = some (.int .i64 g) := (cell_blk b4_1.out 0).trans rfl
    have d3 : w4.cell? ⟨w.heap.size + 1, 1, none⟩ = some (.int .i64 t) := (cell_blk b4_1.out 1).trans rfl
    have d4 : w4.cell? ⟨w3.heap.size + 1, 0, none⟩ = some (.int .i64 (f + d)) := (cell_blk bn1.out 0).trans rfl
    have d5 : w4.cell? ⟨w3.heap.size + 1, 1, none⟩ = some (.int .i64 s) := (cell_blk bn1.out 1).trans rfl
    have d6 : w4.cell? ⟨w3.heap.size, 0, none⟩ = some (.int .i64 (g + d)) := (cell_blk bn0.out 0).trans rfl
    have d7 : w4.cell? ⟨w3.heap.size, 1, none⟩ = some (.int .i64 t) := (cell_blk bn0.out 1).trans rfl
    have l0 := blk_lt b4_0.out
    have l1 := blk_lt b4_1.out
    have l2 := blk_lt bn0.out
    have l3 := blk_lt bn1.out
    have wf1 : IntKind.i64.wrap (f + d) = f + d := IntWalk.i64_in _ (by omega)
    clear bn0 bn1 b4_0 b4_1
    go_wp2_with fail
    go_region_held3 (fun w' : World => Below (w4).heap.size (w4) w' ∧ ∀ b o, b < (w4).heap.size → w'.cell? ⟨b, o, none⟩ = (w4).cell? ⟨b, o, none⟩) (first | exact old_drew _ | exact old_call (by assumption) hb) (first | (go_at_call 18; (with_reducible refine (meets_any (f + d) s (g + d) t m1 e1 _).mono ?_); rintro e w1 ⟨rfl, hb⟩) | (go_at_call 18; (with_reducible refine (meets_any f s g t m1 e2 _).mono ?_); rintro e w1 ⟨rfl, hb⟩) | (go_at_call 20; (with_reducible refine (in_any (f + d) s (g + d) t m2 e3 _).mono ?_); rintro e w1 ⟨rfl, hb⟩) | (go_at_call 20; (with_reducible refine (in_any f s g t m2 e4 _).mono ?_); rintro e w1 ⟨rfl, hb⟩) | (go_at_call 16; (with_reducible refine (has_any (f + d) s (f + d) m3 e5 _).mono ?_); rintro e w1 ⟨rfl, hb⟩) | (go_at_call 16; (with_reducible refine (has_any f s f m3 e6 _).mono ?_); rintro e w1 ⟨rfl, hb⟩))
    have hr := And.left ‹Below w4.heap.size w4 _ ∧ _›
    go_wp2
    go_ret
    exact ⟨rfl, below_call HB4.out hr⟩

theorem spanMoves_any (v0 v1 v2 : Value) (w : World) (h0 : RdV w (.pair 1 (.int .i64) (.pair 1 (.int .i64) .nil)) v0) (h1 : RdV w (.pair 1 (.int .i64) (.pair 1 (.int .i64) .nil)) v1) (h2 : RdV w (.int .u16) v2) : Calls Try.prog 5 #[v0, v1, v2] w fun e w' => e = .returned (.bool true) ∧ Below w.heap.size w w' := by
  obtain ⟨cs, rfl, h0⟩ := h0
  obtain ⟨f, s, rfl, wf, ws⟩ := rd_two h0
  obtain ⟨cs, rfl, h1⟩ := h1
  obtain ⟨g, t, rfl, wg, wt⟩ := rd_two h1
  obtain ⟨d, rfl, wd⟩ := h2
  exact spanMoves_core f s g t d (bounds_u16 wd).1 (bounds_u16 wd).2 w
end Go.Proofs.Ytimikgencnkcnaa

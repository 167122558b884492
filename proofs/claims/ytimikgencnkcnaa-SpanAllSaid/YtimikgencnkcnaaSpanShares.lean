/- The law SpanShares: its walk. -/
import Derived.Test.YtimikgencnkcnaaRAll
namespace Go.Proofs.Ytimikgencnkcnaa
open Go.RowKit
set_option linter.unusedSimpArgs false
set_option linter.unusedVariables false

theorem any_snoc (l : List Int) (p : Int → Bool) (k : Nat) (h : k < l.length) : (l.take (k + 1)).any p = ((l.take k).any p || p l[k]) := by
  rw [List.take_succ_eq_append_getElem h, List.any_append]; simp
theorem all_snoc (l : List Int) (p : Int → Bool) (k : Nat) (h : k < l.length) : (l.take (k + 1)).all p = ((l.take k).all p && p l[k]) := by
  rw [List.take_succ_eq_append_getElem h, List.all_append]; simp
theorem allL_one (f s : Int) : allL (fun _ => f) (fun _ => s) 1 = (List.range (cnt f s)).map fun j : Nat => f + (j : Int) := by simp [allL]
theorem mem_allL {f s x : Int} : x ∈ allL (fun _ => f) (fun _ => s) 1 ↔ hasB f s x = true := by
  rw [allL_one, hasB_true]
  simp only [List.mem_map, List.mem_range]
  unfold cnt
  constructor
  · rintro ⟨j, hj, rfl⟩
    split at hj
    · rename_i h; obtain ⟨a, b, c, d⟩ := rightB_true.1 h; omega
    · omega
  · rintro ⟨a, b, c, d, e, g⟩
    refine ⟨(x - f).toNat, ?_, by omega⟩
    rw [if_pos (rightB_true.2 ⟨a, b, c, d⟩)]
    omega
theorem shares_some (f s g t : Int) : (allL (fun _ => f) (fun _ => s) 1).any (hasB g t) = meetsB f s g t := bool_eq (by
  rw [List.any_eq_true]
  constructor
  · rintro ⟨x, hx, h2⟩
    have h1 := hasB_true.1 (mem_allL.1 hx)
    have h2 := hasB_true.1 h2
    exact meetsB_true.2 (by omega)
  · intro h
    have h := meetsB_true.1 h
    by_cases hf : f < g
    · exact ⟨g, mem_allL.2 (hasB_true.2 (by omega)), hasB_true.2 (by omega)⟩
    · exact ⟨f, mem_allL.2 (hasB_true.2 (by omega)), hasB_true.2 (by omega)⟩)
theorem shares_every (f s g t : Int) : (allL (fun _ => f) (fun _ => s) 1).all (hasB g t) = inB f s g t := bool_eq (by
  rw [List.all_eq_true, inB_true]
  constructor
  · intro h h1
    have e1 := hasB_true.1 (h f (mem_allL.2 (hasB_true.2 (by omega))))
    have e2 := hasB_true.1 (h (f + s - 1) (mem_allL.2 (hasB_true.2 (by omega))))
    omega
  · intro h x hx
    have h1 := hasB_true.1 (mem_allL.1 hx)
    have h2 := h (by omega)
    exact hasB_true.2 (by omega))

theorem int_map_at (xs : List Int) (k : Nat) (h : k < xs.length) : (xs.map (Value.int .i64))[k]? = some (.int .i64 xs[k]) := by simp [h]
def someB (xs : List Int) (g t : Int) (k : Nat) : Bool := (xs.take k).any (hasB g t)
def everyB (xs : List Int) (g t : Int) (k : Nat) : Bool := (xs.take k).all (hasB g t)
theorem someB_succ {xs : List Int} {g t : Int} {k : Nat} {p x : Bool} (h : k < xs.length) (hp : someB xs g t k = p) (hx : hasB g t xs[k] = x) : someB xs g t (k + 1) = (p || x) := by unfold someB at *; rw [any_snoc _ _ _ h, hp, hx]
theorem everyB_succ {xs : List Int} {g t : Int} {k : Nat} {p x : Bool} (h : k < xs.length) (hp : everyB xs g t k = p) (hx : hasB g t xs[k] = x) : everyB xs g t (k + 1) = (p && x) := by unfold everyB at *; rw [all_snoc _ _ _ h, hp, hx]

set_option maxHeartbeats 1000000 in
theorem spanShares_core (f s g t : Int) (w : World) : Calls Try.prog 6 #[.agg #[.int .i64 f, .int .i64 s], .agg #[.int .i64 g, .int .i64 t]] w fun e w' => e = .returned (.bool true) ∧ Below w.heap.size w w' := by
  by_cases hbig : rightB f s = true ∧ 200 < s
  · obtain ⟨h1, h2⟩ := hbig
    go_enter Try.func6, Try.ntmps6
    have HB0 : Kp (Below w.heap.size w ((w.alloc (.cells #[.int .i64 f, .int .i64 s] 23)).alloc (.cells #[.int .i64 g, .int .i64 t] 23))) := ⟨below_al (below_al (Below.refl _ _) _) _⟩
    have bk0_0 : Kp (((w.alloc (.cells #[.int .i64 f, .int .i64 s] 23)).alloc (.cells #[.int .i64 g, .int .i64 t] 23)).heap[w.heap.size]? = some (.cells #[.int .i64 f, .int .i64 s] 23)) := ⟨blk_al (blk_new _ _) _⟩
    have bk0_1 : Kp (((w.alloc (.cells #[.int .i64 f, .int .i64 s] 23)).alloc (.cells #[.int .i64 g, .int .i64 t] 23)).heap[w.heap.size + 1]? = some (.cells #[.int .i64 g, .int .i64 t] 23)) := ⟨blk_at (w := (w.alloc (.cells #[.int .i64 f, .int .i64 s] 23))) (by simp) _⟩
    go_wp2_with fail
    refine (spanWakes _).mono ?_
    rintro e w1 ⟨rfl, hb⟩
    have HB1 : Kp (Below w.heap.size w w1) := ⟨below_call HB0.out hb⟩
    have bk1_0 : Kp (w1.heap[w.heap.size]? = some (.cells #[.int .i64 f, .int .i64 s] 23)) := ⟨blk_below bk0_0.out hb⟩
    have bk1_1 : Kp (w1.heap[w.heap.size + 1]? = some (.cells #[.int .i64 g, .int .i64 t] 23)) := ⟨blk_below bk0_1.out hb⟩
    clear hb HB0 bk0_0 bk0_1
    have c1_0_0 : w1.cell? ⟨w.heap.size, 0, none⟩ = some (.int .i64 f) := (cell_blk bk1_0.out 0).trans rfl
    have c1_0_1 : w1.cell? ⟨w.heap.size, 1, none⟩ = some (.int .i64 s) := (cell_blk bk1_0.out 1).trans rfl
    have lt1_0 : w.heap.size < w1.heap.size := blk_lt bk1_0.out
    have c1_1_0 : w1.cell? ⟨w.heap.size + 1, 0, none⟩ = some (.int .i64 g) := (cell_blk bk1_1.out 0).trans rfl
    have c1_1_1 : w1.cell? ⟨w.heap.size + 1, 1, none⟩ = some (.int .i64 t) := (cell_blk bk1_1.out 1).trans rfl
    have lt1_1 : w.heap.size + 1 < w1.heap.size := blk_lt bk1_1.out
    go_wp2_with fail
    refine (rright_any _ _ _ h1 _).mono ?_
    rintro e w2 ⟨rfl, hb⟩
    have HB2 : Kp (Below w.heap.size w w2) := ⟨below_call HB1.out hb⟩
    have bk2_0 : Kp (w2.heap[w.heap.size]? = some (.cells #[.int .i64 f, .int .i64 s] 23)) := ⟨blk_below bk1_0.out hb⟩
    have bk2_1 : Kp (w2.heap[w.heap.size + 1]? = some (.cells #[.int .i64 g, .int .i64 t] 23)) := ⟨blk_below bk1_1.out hb⟩
    clear hb HB1 bk1_0 bk1_1 c1_0_0 c1_0_1 lt1_0 c1_1_0 c1_1_1 lt1_1
    have c2_0_0 : w2.cell? ⟨w.heap.size, 0, none⟩ = some (.int .i64 f) := (cell_blk bk2_0.out 0).trans rfl
    have c2_0_1 : w2.cell? ⟨w.heap.size, 1, none⟩ = some (.int .i64 s) := (cell_blk bk2_0.out 1).trans rfl
    have lt2_0 : w.heap.size < w2.heap.size := blk_lt bk2_0.out
    have c2_1_0 : w2.cell? ⟨w.heap.size + 1, 0, none⟩ = some (.int .i64 g) := (cell_blk bk2_1.out 0).trans rfl
    have c2_1_1 : w2.cell? ⟨w.heap.size + 1, 1, none⟩ = some (.int .i64 t) := (cell_blk bk2_1.out 1).trans rfl
    have lt2_1 : w.heap.size + 1 < w2.heap.size := blk_lt bk2_1.out
    go_wp2
    go_ret
    exact ⟨rfl, HB2.out⟩

  obtain ⟨x1, h1⟩ : ∃ x, rightB f s = x := ⟨_, rfl⟩
  have hs : ∀ i, i < 1 → rightB ((fun _ : Nat => f) i) ((fun _ : Nat => s) i) = true → (fun _ : Nat => s) i ≤ 200 := fun _ _ hr => by
    refine Int.not_lt.1 fun h => hbig ⟨hr, h⟩
  have hlt : x1 = true → s ≤ 200 := fun e => hs 0 (by omega) (by rw [← e]; exact h1)
  cases x1
  all_goals
    (try have hlt' : s ≤ 200 := hlt rfl)
    clear hlt hbig
    go_enter Try.func6, Try.ntmps6
    have HB0 : Kp (Below w.heap.size w ((w.alloc (.cells #[.int .i64 f, .int .i64 s] 23)).alloc (.cells #[.int .i64 g, .int .i64 t] 23))) := ⟨below_al (below_al (Below.refl _ _) _) _⟩
    have bk0_0 : Kp (((w.alloc (.cells #[.int .i64 f, .int .i64 s] 23)).alloc (.cells #[.int .i64 g, .int .i64 t] 23)).heap[w.heap.size]? = some (.cells #[.int .i64 f, .int .i64 s] 23)) := ⟨blk_al (blk_new _ _) _⟩
    have bk0_1 : Kp (((w.alloc (.cells #[.int .i64 f, .int .i64 s] 23)).alloc (.cells #[.int .i64 g, .int .i64 t] 23)).heap[w.heap.size + 1]? = some (.cells #[.int .i64 g, .int .i64 t] 23)) := ⟨blk_at (w := (w.alloc (.cells #[.int .i64 f, .int .i64 s] 23))) (by simp) _⟩
    go_wp2_with fail
    refine (spanWakes _).mono ?_
    rintro e w1 ⟨rfl, hb⟩
    have HB1 : Kp (Below w.heap.size w w1) := ⟨below_call HB0.out hb⟩
    have bk1_0 : Kp (w1.heap[w.heap.size]? = some (.cells #[.int .i64 f, .int .i64 s] 23)) := ⟨blk_below bk0_0.out hb⟩
    have bk1_1 : Kp (w1.heap[w.heap.size + 1]? = some (.cells #[.int .i64 g, .int .i64 t] 23)) := ⟨blk_below bk0_1.out hb⟩
    clear hb HB0 bk0_0 bk0_1
    have c1_0_0 : w1.cell? ⟨w.heap.size, 0, none⟩ = some (.int .i64 f) := (cell_blk bk1_0.out 0).trans rfl
    have c1_0_1 : w1.cell? ⟨w.heap.size, 1, none⟩ = some (.int .i64 s) := (cell_blk bk1_0.out 1).trans rfl
    have lt1_0 : w.heap.size < w1.heap.size := blk_lt bk1_0.out
    have c1_1_0 : w1.cell? ⟨w.heap.size + 1, 0, none⟩ = some (.int .i64 g) := (cell_blk bk1_1.out 0).trans rfl
    have c1_1_1 : w1.cell? ⟨w.heap.size + 1, 1, none⟩ = some (.int .i64 t) := (cell_blk bk1_1.out 1).trans rfl
    have lt1_1 : w.heap.size + 1 < w1.heap.size := blk_lt bk1_1.out
    go_wp2_with fail
    refine (rright_any _ _ _ h1 _).mono ?_
    rintro e w2 ⟨rfl, hb⟩
    have HB2 : Kp (Below w.heap.size w w2) := ⟨below_call HB1.out hb⟩
    have bk2_0 : Kp (w2.heap[w.heap.size]? = some (.cells #[.int .i64 f, .int .i64 s] 23)) := ⟨blk_below bk1_0.out hb⟩
    have bk2_1 : Kp (w2.heap[w.heap.size + 1]? = some (.cells #[.int .i64 g, .int .i64 t] 23)) := ⟨blk_below bk1_1.out hb⟩
    clear hb HB1 bk1_0 bk1_1 c1_0_0 c1_0_1 lt1_0 c1_1_0 c1_1_1 lt1_1
    have c2_0_0 : w2.cell? ⟨w.heap.size, 0, none⟩ = some (.int .i64 f) := (cell_blk bk2_0.out 0).trans rfl
    have c2_0_1 : w2.cell? ⟨w.heap.size, 1, none⟩ = some (.int .i64 s) := (cell_blk bk2_0.out 1).trans rfl
    have lt2_0 : w.heap.size < w2.heap.size := blk_lt bk2_0.out
    have c2_1_0 : w2.cell? ⟨w.heap.size + 1, 0, none⟩ = some (.int .i64 g) := (cell_blk bk2_1.out 0).trans rfl
    have c2_1_1 : w2.cell? ⟨w.heap.size + 1, 1, none⟩ = some (.int .i64 t) := (cell_blk bk2_1.out 1).trans rfl
    have lt2_1 : w.heap.size + 1 < w2.heap.size := blk_lt bk2_1.out

    go_wp2_with fail
    refine (rall_any _ 1 1 (fun _ => f) (fun _ => s) _ (Nat.le_refl _) (by omega) (.inr ⟨w2.heap.size, 0, rfl, by simp, fun i hi => ?_⟩) hs).mono ?_
    · obtain rfl : i = 0 := by omega
      exact ⟨(cell_blk (blk_new w2 _) 0).trans rfl, (cell_blk (blk_new w2 _) 1).trans rfl⟩
    rintro e w3 ⟨v, rfl, hown, hb⟩
    have hrow := RowAt.of_own hown
    obtain ⟨a, cap, rfl, hcap, hcapm⟩ := hrow.shape
    unfold maxLen at hcapm
    have HR := Kp.mk hrow
    have hb' := below_call (below_al (Below.refl _ _) _) hb
    clear hown hrow hb
    have HB3 : Kp (Below w.heap.size w w3) := ⟨below_call HB2.out hb'⟩
    have bk3_0 : Kp (w3.heap[w.heap.size]? = some (.cells #[.int .i64 f, .int .i64 s] 23)) := ⟨blk_below bk2_0.out hb'⟩
    have bk3_1 : Kp (w3.heap[w.heap.size + 1]? = some (.cells #[.int .i64 g, .int .i64 t] 23)) := ⟨blk_below bk2_1.out hb'⟩
    clear hb' HB2 bk2_0 bk2_1 c2_0_0 c2_0_1 lt2_0 c2_1_0 c2_1_1 lt2_1
    have c3_0_0 : w3.cell? ⟨w.heap.size, 0, none⟩ = some (.int .i64 f) := (cell_blk bk3_0.out 0).trans rfl
    have c3_0_1 : w3.cell? ⟨w.heap.size, 1, none⟩ = some (.int .i64 s) := (cell_blk bk3_0.out 1).trans rfl
    have lt3_0 : w.heap.size < w3.heap.size := blk_lt bk3_0.out
    have c3_1_0 : w3.cell? ⟨w.heap.size + 1, 0, none⟩ = some (.int .i64 g) := (cell_blk bk3_1.out 0).trans rfl
    have c3_1_1 : w3.cell? ⟨w.heap.size + 1, 1, none⟩ = some (.int .i64 t) := (cell_blk bk3_1.out 1).trans rfl
    have lt3_1 : w.heap.size + 1 < w3.heap.size := blk_lt bk3_1.out

    have HB := HB3
    have BK0 := bk3_0
    have BK1 := bk3_1
    clear HB3 bk3_0 bk3_1 c3_0_0 c3_0_1 c3_1_0 c3_1_1 lt3_0 lt3_1
    obtain ⟨xs, hxs⟩ : ∃ xs, allL (fun _ => f) (fun _ => s) 1 = xs := ⟨_, rfl⟩
    have HX := Kp.mk hxs
    rw [hxs] at HR ⊢
    clear hxs
    have hxlen : xs.length ≤ 200 := by
      rw [← HX.out]
      simpa using allL_len hs 1 (Nat.le_refl _)
    go_wp2_with fail
    go_loopw [5, 6, 23] (fun u v i wr => ∃ (k : Nat) (p q : Bool), k ≤ xs.length ∧ i = .int .i64 k ∧ u = .bool p ∧ v = .bool q ∧ Kp (someB xs g t k = p) ∧ Kp (everyB xs g t k = q) ∧ Kp (Below w.heap.size w wr) ∧ Kp (wr.heap[w.heap.size]? = some (.cells #[.int .i64 f, .int .i64 s] 23)) ∧ Kp (wr.heap[w.heap.size + 1]? = some (.cells #[.int .i64 g, .int .i64 t] 23)) ∧ Kp (RowAt wr 1 (.slice a xs.length cap) xs.length (xs.map (Value.int .i64)))) (fun _ _ i wr => xs.length - (intOf i).toNat)
    case atStart => exact ⟨0, false, true, Nat.zero_le _, rfl, rfl, rfl, ⟨by simp [someB]⟩, ⟨by simp [everyB]⟩, HB, BK0, BK1, HR⟩
    case round =>
      obtain ⟨k, p, q, hk, rfl, rfl, rfl, HP, HQ, HB4, HB0, HB1, HR4⟩ := hrel
      by_cases hlt : k < xs.length
      · obtain ⟨b, o, rfl, hb, hc⟩ := HR4.out.at (by omega)
        have c0 : wr.cell? ⟨b, o + k, none⟩ = some (.int .i64 xs[k]) := (hc k (by omega)).trans (int_map_at xs k hlt)
        have c1 : wr.cell? ⟨w.heap.size + 1, 0, none⟩ = some (.int .i64 g) := (cell_blk HB1.out 0).trans rfl
        have c2 : wr.cell? ⟨w.heap.size + 1, 1, none⟩ = some (.int .i64 t) := (cell_blk HB1.out 1).trans rfl
        clear hc
        obtain ⟨x, hx⟩ : ∃ x, hasB g t xs[k] = x := ⟨_, rfl⟩
        have HS := Kp.mk (someB_succ hlt HP.out hx)
        have HE := Kp.mk (everyB_succ hlt HQ.out hx)
        have HXX := Kp.mk hx
        clear hx HP HQ
        cases p <;> cases q <;> cases x
        all_goals
          go_wp2_with (go_at_call 16; refine (has_any _ _ _ _ HXX.out _).mono ?_; rintro e w4 ⟨rfl, hb4⟩)
          go_roundw
          case rel => exact ⟨k + 1, _, _, by omega, by go_num, rfl, rfl, HS, HE, ⟨below_call HB4.out hb4⟩, ⟨blk_below HB0.out hb4⟩, ⟨blk_below HB1.out hb4⟩, ⟨HR4.out.below hb4⟩⟩
          case measure => simp [intOf]; omega
      · obtain rfl : k = xs.length := by omega
        have hm : meetsB f s g t = p := by rw [← shares_some, HX.out, ← HP.out]; simp [someB]
        have hi : inB f s g t = q := by rw [← shares_every, HX.out, ← HQ.out]; simp [everyB]
        have c0 : wr.cell? ⟨w.heap.size, 0, none⟩ = some (.int .i64 f) := (cell_blk HB0.out 0).trans rfl
        have c1 : wr.cell? ⟨w.heap.size, 1, none⟩ = some (.int .i64 s) := (cell_blk HB0.out 1).trans rfl
        have c2 : wr.cell? ⟨w.heap.size + 1, 0, none⟩ = some (.int .i64 g) := (cell_blk HB1.out 0).trans rfl
        have c3 : wr.cell? ⟨w.heap.size + 1, 1, none⟩ = some (.int .i64 t) := (cell_blk HB1.out 1).trans rfl
        have l0 := blk_lt HB0.out
        have l1 := blk_lt HB1.out
        go_wp2_with fail
        refine (meets_any f s g t p hm _).mono ?_
        rintro e w5 ⟨rfl, hb5⟩
        have e0 := blk_below HB0.out hb5
        have e1 := blk_below HB1.out hb5
        have d0 : w5.cell? ⟨w.heap.size, 0, none⟩ = some (.int .i64 f) := (cell_blk e0 0).trans rfl
        have d1 : w5.cell? ⟨w.heap.size, 1, none⟩ = some (.int .i64 s) := (cell_blk e0 1).trans rfl
        have d2 : w5.cell? ⟨w.heap.size + 1, 0, none⟩ = some (.int .i64 g) := (cell_blk e1 0).trans rfl
        have d3 : w5.cell? ⟨w.heap.size + 1, 1, none⟩ = some (.int .i64 t) := (cell_blk e1 1).trans rfl
        clear e0 e1 c0 c1 c2 c3
        go_wp2_with fail
        refine (in_any f s g t q hi _).mono ?_
        rintro e w6 ⟨rfl, hb6⟩
        go_wp2
        go_ret
        exact ⟨rfl, below_call (below_call HB4.out hb5) hb6⟩
theorem spanShares_any (v0 v1 : Value) (w : World) (h0 : RdV w (.pair 1 (.int .i64) (.pair 1 (.int .i64) .nil)) v0) (h1 : RdV w (.pair 1 (.int .i64) (.pair 1 (.int .i64) .nil)) v1) : Calls Try.prog 6 #[v0, v1] w fun e w' => e = .returned (.bool true) ∧ Below w.heap.size w w' := by
  obtain ⟨cs, rfl, h0⟩ := h0
  obtain ⟨f, s, rfl, wf, ws⟩ := rd_two h0
  obtain ⟨cs, rfl, h1⟩ := h1
  obtain ⟨g, t, rfl, wg, wt⟩ := rd_two h1
  exact spanShares_core f s g t w
end Go.Proofs.Ytimikgencnkcnaa

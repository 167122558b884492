/- Contracts of package layout: the spans, one by one. -/
import Derived.Test.YtmidcnfmphlneaaGreatQ8
namespace Go.Proofs.YtmidcnfmphlneaaGreat
open Go.RowKit
set_option linter.unusedSimpArgs false
set_option linter.unusedVariables false
set_option maxRecDepth 100000 in
set_option maxHeartbeats 1000000 in
theorem at_no (P E : Int) (v : Value) (f i m : Int) (hi : ¬ (0 ≤ i ∧ i < m)) (w : World) : Calls Tryz.prog 97 #[.agg #[.int .i64 P, v, .int .i64 E], .int .i64 f, .int .i64 i, .int .i64 m] w fun e w' => e = .returned (.agg #[.int .i64 0, .int .i64 0]) ∧ Below w.heap.size w w' := by
  by_cases h1 : i < 0
  · go_enter Tryz.func97, Tryz.ntmps97
    go_wp2
    exact bodyPost_ret (v := .agg #[.int .i64 0, .int .i64 0]) (results_cell_row rfl _ _ _ _ _ _ _ rfl (blk_at (w := (w.alloc (.cells #[.int .i64 P, v, .int .i64 E] 157))) (by simp) _) Tryz.underlying105 rfl (by kernel_rfl)) rfl ⟨rfl, (by repeat (first | exact Below.refl _ _ | apply below_al))⟩
  · have h2 : decide (i < 0) = false := decide_eq_false h1
    have h3 : m ≤ i := by omega
    go_enter Tryz.func97, Tryz.ntmps97
    go_wp2
    exact bodyPost_ret (v := .agg #[.int .i64 0, .int .i64 0]) (results_cell_row rfl _ _ _ _ _ _ _ rfl (blk_at (w := (w.alloc (.cells #[.int .i64 P, v, .int .i64 E] 157))) (by simp) _) Tryz.underlying105 rfl (by kernel_rfl)) rfl ⟨rfl, (by repeat (first | exact Below.refl _ _ | apply below_al))⟩
set_option maxRecDepth 100000 in
set_option maxHeartbeats 1000000 in
theorem at_yes (P E : Int) (v : Value) (L : List (Int × Int)) (f i : Nat) (m : Int) (hf : f ≤ 1) (hi : (i : Int) < m) (hj : f + i < L.length) (hl : L.length ≤ 1000) (s : Int × Int) (hs : L[f + i]? = some s) (w : World) (h : RowAt w 2 v L.length (L.flatMap spanC)) :
    Calls Tryz.prog 97 #[.agg #[.int .i64 P, v, .int .i64 E], .int .i64 f, .int .i64 i, .int .i64 m] w fun e w' => e = .returned (.agg #[.int .i64 s.1, .int .i64 s.2]) ∧ Below w.heap.size w w' := by
  obtain ⟨va, vc, rfl, hv1, hv2⟩ := h.shape
  obtain ⟨g, o, rfl, hg, hc⟩ := h.at (by omega)
  have hsx : L[f + i] = s := by rw [List.getElem?_eq_getElem hj] at hs; exact Option.some.inj hs
  have e0 : w.cell? ⟨g, o + (f + i) * 2, none⟩ = some (.int .i64 s.1) := by
    have h1 := hc ((f + i) * 2 + 0) (by omega)
    rw [flat_at spanC 2 spanC_len L (f + i) 0 hj (by omega), hsx] at h1
    exact h1
  have e1 : w.cell? ⟨g, o + (f + i) * 2 + 1, none⟩ = some (.int .i64 s.2) := by
    have h1 := hc ((f + i) * 2 + 1) (by omega)
    rw [flat_at spanC 2 spanC_len L (f + i) 1 hj (by omega), hsx] at h1
    exact h1
  obtain ⟨j, hj'⟩ : ∃ j, f + i = j := ⟨_, rfl⟩
  have s1 : IntKind.i64.wrap ((f : Int) + (i : Int)) = (j : Int) := by rw [← hj']; exact (IntWalk.i64_in _ (by omega)).trans (by omega)
  rw [hj'] at e0 e1 hj
  have h2 : decide ((i : Int) < 0) = false := decide_eq_false (by omega)
  have h3 : decide (m ≤ (i : Int)) = false := decide_eq_false (by omega)
  have k0 : (0 : Int) ≤ (j : Int) := by omega
  have k1 : (j : Int) < (L.length : Int) := by omega
  clear hsx hs hc hj' h
  go_enter Tryz.func97, Tryz.ntmps97
  go_wp2
  exact bodyPost_ret (v := .agg #[.int .i64 s.1, .int .i64 s.2]) (results_cell_row rfl _ _ _ _ _ _ _ rfl (blk_at (w := (w.alloc (.cells #[.int .i64 P, .slice (some ⟨g, o, none⟩) L.length vc, .int .i64 E] 157))) (by simp) _) Tryz.underlying105 rfl (by kernel_rfl)) rfl ⟨rfl, (by repeat (first | exact Below.refl _ _ | apply below_al))⟩
def pickL (L : List (Int × Int)) (p n : Nat) : List (Int × Int) := (List.range n).map fun j => L.getD (p + j * 2) (0, 0)
theorem pickL_len (L : List (Int × Int)) (p n : Nat) : (pickL L p n).length = n := by simp [pickL]
theorem pickL_succ (L : List (Int × Int)) (p n : Nat) (s : Int × Int) (h : L[p + n * 2]? = some s) : (pickL L p (n + 1)).flatMap spanC = (pickL L p n).flatMap spanC ++ spanC s := by
  rw [pickL, List.range_succ, List.map_append, List.flatMap_append]
  simp [pickL, List.getD_eq_getElem?_getD, h]
set_option maxRecDepth 100000 in
set_option maxHeartbeats 8000000 in
theorem chans_any (P n s : Nat) (E : Int) (v : Value) (L : List (Int × Int)) (hP : P ≤ 6) (hn : n ≤ 100) (hs : s ≤ 1) (hL : L.length = P + n * 2) (w : World) (h : RowAt w 2 v L.length (L.flatMap spanC)) :
    Calls Tryz.prog 96 #[.agg #[.int .i64 P, v, .int .i64 E], .int .i64 s] w fun e w' => ∃ v', e = .returned (.agg #[.int .i64 0, v', .int .i64 0]) ∧ w'.ownsRow w.heap.size 105 2 v' n ((pickL L (P + s) n).flatMap spanC) ∧ Below w.heap.size w w' := by
  obtain ⟨i0, hi, hz0, hz1, hz2⟩ := info_parts Tryz.infoSpan
  obtain ⟨va, vc, rfl, hv1, hv2⟩ := h.shape
  have H := Kp.mk h
  have HL := Kp.mk hL
  obtain ⟨p, hp⟩ : ∃ p, P + s = p := ⟨_, rfl⟩
  have hpn : p ≤ 7 := by omega
  have hpl1 : p + n * 2 ≤ L.length + 1 := by omega
  have hpl2 : L.length ≤ p + n * 2 := by omega
  have s0 : IntKind.i64.wrap ((P : Int) + (s : Int)) = (p : Int) := by rw [← hp]; exact (IntWalk.i64_in _ (by omega)).trans (by omega)
  have HP := Kp.mk hp
  rw [hp]
  clear h hL hp
  go_enter Tryz.func96, Tryz.ntmps96
  go_wp2_with fail
  go_loopw [6] (fun i wr => ∃ (k : Nat) (v : Value), k ≤ n ∧ i = .int .i64 ((p + k * 2 : Nat) : Int) ∧ w.heap.size + 1 + 1 + 1 ≤ wr.heap.size ∧ Kp (Below w.heap.size w wr) ∧ Kp (wr.heap[w.heap.size]? = some (.cells #[.int .i64 P, .slice va L.length vc, .int .i64 E] 157 (0, 0))) ∧ Kp (wr.heap[w.heap.size + 1]? = some (.cells #[.int .i64 0, .slice none 0 0, .int .i64 0] 157 (0, 0))) ∧ Kp (wr.heap[w.heap.size + 1 + 1]? = some (.cells #[.int .i64 0, v, .int .i64 0] 157 (0, 0))) ∧ Kp (wr.ownsRow (w.heap.size + 1 + 1 + 1) 105 2 v k ((pickL L p k).flatMap spanC))) (fun i wr => L.length + 2 - (intOf i).toNat)
  case atStart => exact ⟨0, .slice none 0 0, Nat.zero_le _, by simp, by simp, ⟨(by repeat (first | exact Below.refl _ _ | apply below_al))⟩, ⟨blk_al (blk_al (blk_new w _) _) _⟩, ⟨blk_al (blk_at (w := w.alloc _) (by simp) _) _⟩, ⟨blk_at (w := (w.alloc _).alloc _) (by simp) _⟩, ⟨World.ownsRow_nil _ _ _ _⟩⟩
  case round =>
    obtain ⟨k, v, hk, rfl, hbw, HB, HQ, HR, HX, HO⟩ := hrel
    obtain ⟨av, cv, rfl, hw1, hw2⟩ := (RowAt.of_own HO.out).shape
    have q0 := cbk HQ.out 0 (.int .i64 P) rfl
    have q1 := cbk HQ.out 1 (.slice va L.length vc) rfl
    have lq := blk_lt HQ.out
    by_cases hlt : k < n
    · have hjl : p + k * 2 < L.length := by omega
      obtain ⟨s, hs⟩ : ∃ s, L[p + k * 2] = s := ⟨_, rfl⟩
      have HN := Kp.mk (pickL_succ L p k s (by rw [List.getElem?_eq_getElem hjl, hs]))
      obtain ⟨g, o, rfl, hg, hc⟩ := H.out.at (by omega)
      obtain ⟨j, hj⟩ : ∃ j, p + k * 2 = j := ⟨_, rfl⟩
      have e0 : wr.cell? ⟨g, o + j * 2, none⟩ = some (.int .i64 s.1) := by
        have h1 := hc (j * 2 + 0) (by omega)
        rw [← hj, flat_at spanC 2 spanC_len L (p + k * 2) 0 hjl (by omega), hs, hj] at h1
        exact (HB.out.cell (p := ⟨g, o + j * 2, none⟩) hg).trans h1
      have e1 : wr.cell? ⟨g, o + j * 2 + 1, none⟩ = some (.int .i64 s.2) := by
        have h1 := hc (j * 2 + 1) (by omega)
        rw [← hj, flat_at spanC 2 spanC_len L (p + k * 2) 1 hjl (by omega), hs, hj] at h1
        exact (HB.out.cell (p := ⟨g, o + (j * 2 + 1), none⟩) hg).trans h1
      have HI : Kp (Value.int .i64 ((j : Int) + 2) = .int .i64 ((p + (k + 1) * 2 : Nat) : Int)) := ⟨by rw [← hj]; congr 1; omega⟩
      rw [hj] at hjl ⊢
      have k0 : (0 : Int) ≤ (j : Int) := by omega
      have k1 : (j : Int) < (L.length : Int) := by omega
      have hgw : g < w.heap.size + 1 + 1 + 1 := by omega
      have hgn : ¬ g = w.heap.size + 1 + 1 := by omega
      have hwn : ¬ w.heap.size = w.heap.size + 1 + 1 := by omega
      have hjk : j ≤ 300 := by omega
      clear hs hc hj
      go_wp2_with fail
      refine held_start_gen (S := (fun w' : World => ButB (w.heap.size + 1 + 1 + 1) [(w.heap.size + 1 + 1)] wr w' ∧ ∀ bb o, bb < w.heap.size + 1 + 1 + 1 → bb ≠ (w.heap.size + 1 + 1) → w'.cell? ⟨bb, o, none⟩ = wr.cell? ⟨bb, o, none⟩)) (by kernel_rfl) (fun wz : World => Kp (Below w.heap.size w wz) ∧ Kp (wz.heap[w.heap.size]? = some (.cells #[.int .i64 P, .slice (some ⟨g, o, none⟩) L.length vc, .int .i64 E] 157 (0, 0))) ∧ Kp (wz.heap[w.heap.size + 1]? = some (.cells #[.int .i64 0, .slice none 0 0, .int .i64 0] 157 (0, 0))) ∧ Kp (wz.heap[w.heap.size + 1 + 1]? = some (.cells #[.int .i64 0, .slice av k cv, .int .i64 0] 157 (0, 0))) ∧ Kp (wz.ownsRow (w.heap.size + 1 + 1 + 1) 105 2 (.slice av k cv) (k) ((pickL L p k).flatMap spanC)) ∧ wr.heap.size ≤ wz.heap.size) ⟨⟨below_dr HB.out⟩, ⟨blk_dr HQ.out⟩, ⟨blk_dr HR.out⟩, ⟨blk_dr HX.out⟩, ⟨HO.out⟩, Nat.le_refl _⟩ (sx_of1 (ButB.dr (ButB.refl _ (by omega)))) (fun wd0 hRn hHeld => ?_)
      clear HB HQ HR HX HO
      obtain ⟨HB, HQ, HR, HX, HO, hsz⟩ := hRn
      refine wtk 0 ?_ rfl (.inl ⟨by rfl, ?_⟩) ?_
      rotate_left 1
      · (intro w hSw; go_simp; try with_reducible rfl)
      try simp only [Act.put, ls0, ls1, ls2]
      refine wtk 2 ?_ rfl (.inl ⟨by rfl, ?_⟩) ?_
      rotate_left 1
      · (intro w hSw; go_simp; try with_reducible rfl)
      try simp only [Act.put, ls0, ls1, ls2]
      refine wtk 3 ?_ rfl (.inl ⟨by rfl, ?_⟩) ?_
      rotate_left 1
      · (intro w hSw; go_simp; try with_reducible rfl)
      try simp only [Act.put, ls0, ls1, ls2]
      refine wtk 4 ?_ rfl (.inl ⟨by rfl, ?_⟩) ?_
      rotate_left 1
      · (intro w hSw; go_simp; try with_reducible rfl)
      try simp only [Act.put, ls0, ls1, ls2]
      refine wtk 5 ?_ rfl (.inl ⟨by rfl, ?_⟩) ?_
      rotate_left 1
      · (intro w hSw; go_simp; try with_reducible rfl)
      try simp only [Act.put, ls0, ls1, ls2]
      refine wtk 6 ?_ rfl (.inl ⟨by rfl, ?_⟩) ?_
      rotate_left 1
      · (intro w hSw; go_simp; try with_reducible rfl)
      try simp only [Act.put, ls0, ls1, ls2]
      refine wrd [1, 7] ?_
      refine (arc rfl (fun K hK => ?_) (arc rfl (fun K hK => ?_) arn))
      · have sd1 := cbk HX.out 1 (.slice av k cv) rfl
        have sl := blk_lt HX.out
        go_simp
        try go_wp2_with fail
        refine out_gen hK _ _ (fun wz : World => Kp (Below w.heap.size w wz) ∧ Kp (wz.heap[w.heap.size]? = some (.cells #[.int .i64 P, .slice (some ⟨g, o, none⟩) L.length vc, .int .i64 E] 157 (0, 0))) ∧ Kp (wz.heap[w.heap.size + 1]? = some (.cells #[.int .i64 0, .slice none 0 0, .int .i64 0] 157 (0, 0))) ∧ Kp (wz.heap[w.heap.size + 1 + 1]? = some (.cells #[.int .i64 0, .slice av k cv, .int .i64 0] 157 (0, 0))) ∧ Kp (wz.ownsRow (w.heap.size + 1 + 1 + 1) 105 2 (.slice av k cv) (k) ((pickL L p k).flatMap spanC)) ∧ wd0.heap.size ≤ wz.heap.size) ⟨⟨HB.out⟩, ⟨HQ.out⟩, ⟨HR.out⟩, ⟨HX.out⟩, ⟨HO.out⟩, Nat.le_refl _⟩ (sx_of1 ((And.left hHeld))) (fun wd1 hRn hHn => ?_)
        clear hK K hHeld HB HQ HR HX HO  sd1 sl
        obtain ⟨HB, HQ, HR, HX, HO, hsz1⟩ := hRn
        have hHeld := hHn
        clear hHn
        try simp only [Act.put, ls0, ls1, ls2]
        refine wrd [7] ?_
        refine (arc rfl (fun K hK => ?_) arn)
        have ge_HE : wr.heap.size ≤ wd1.heap.size := (And.left hHeld).size
        go_simp
        try go_wp2_with fail
        refine out_gen hK _ _ (fun wz : World => Kp (Below w.heap.size w wz) ∧ Kp (wz.heap[w.heap.size]? = some (.cells #[.int .i64 P, .slice (some ⟨g, o, none⟩) L.length vc, .int .i64 E] 157 (0, 0))) ∧ Kp (wz.heap[w.heap.size + 1]? = some (.cells #[.int .i64 0, .slice none 0 0, .int .i64 0] 157 (0, 0))) ∧ Kp (wz.heap[w.heap.size + 1 + 1]? = some (.cells #[.int .i64 0, .slice av k cv, .int .i64 0] 157 (0, 0))) ∧ Kp (wz.ownsRow (w.heap.size + 1 + 1 + 1) 105 2 (.slice av k cv) (k) ((pickL L p k).flatMap spanC)) ∧ Kp (wz.heap[wd1.heap.size]? = some (.cells #[.int .i64 s.1, .int .i64 s.2] 105 (0, 0))) ∧ wd1.heap.size < wz.heap.size) ⟨⟨below_al HB.out _⟩, ⟨blk_al HQ.out _⟩, ⟨blk_al HR.out _⟩, ⟨blk_al HX.out _⟩, ⟨HO.out.alloc _⟩, ⟨blk_new wd1 _⟩, (by simp)⟩ (sx_of1 (ButB.al (And.left hHeld) _)) (fun wd2 hRn hHn => ?_)
        clear hK K hHeld HB HQ HR HX HO
        obtain ⟨HB, HQ, HR, HX, HO, HE, hsz2⟩ := hRn
        have hHeld := hHn
        clear hHn
        try simp only [Act.put, ls0, ls1, ls2]
        have lt_HE := blk_lt HE.out
        refine wrd [8] ?_
        refine (arc rfl (fun K hK => ?_) arn)
        have hws := (And.left hHeld).size
        refine step_append_lies _ (by rfl) _ _ 155 (by rfl) (w.heap.size + 1 + 1 + 1) 105 i0 (.agg #[.int .i64 0, .int .i64 0]) 2 16 Tryz.underlying155 hi hz0 hz1 hz2 (by rfl) (by decide) _ _ _ (by rfl) HO.out _ 1 _ (spanC s) (by rfl) rfl (World.news_of_block HE.out) (by simp [spanC, Value.oneCell']) (by omega) (by unfold maxLen; omega) (by omega) (by have := hws; omega) _ rfl ?_
        intro g3 k3 w9 hown hgrow hat hlt
        refine out_gen hK _ _ (fun wz : World => Kp (Below w.heap.size w wz) ∧ Kp (wz.heap[w.heap.size]? = some (.cells #[.int .i64 P, .slice (some ⟨g, o, none⟩) L.length vc, .int .i64 E] 157 (0, 0))) ∧ Kp (wz.heap[w.heap.size + 1]? = some (.cells #[.int .i64 0, .slice none 0 0, .int .i64 0] 157 (0, 0))) ∧ Kp (wz.heap[w.heap.size + 1 + 1]? = some (.cells #[.int .i64 0, .slice av k cv, .int .i64 0] 157 (0, 0))) ∧ Kp (wz.ownsRow (w.heap.size + 1 + 1 + 1) 105 2 (.slice (some ⟨g3, 0, none⟩) (k + 1) k3) (k + 1) ((pickL L p (k + 1)).flatMap spanC)) ∧ wd2.heap.size ≤ wz.heap.size) ⟨⟨below_own2 HB.out (by have := HB.out.size; omega) (by omega) HO.out hgrow⟩, ⟨blk_grownR HQ.out HO.out hgrow (by first | (intro hq; have := (HO.out.lt _ hq).1; omega) | (intro hq; simp [Value.ownBlock] at hq; omega))⟩, ⟨blk_grownR HR.out HO.out hgrow (by first | (intro hq; have := (HO.out.lt _ hq).1; omega) | (intro hq; simp [Value.ownBlock] at hq; omega))⟩, ⟨blk_grownR HX.out HO.out hgrow (by first | (intro hq; have := (HO.out.lt _ hq).1; omega) | (intro hq; simp [Value.ownBlock] at hq; omega))⟩, ⟨by rw [HN.out]; exact hown⟩, hgrow.size⟩ (sx_of1 (ButB.grown (And.left hHeld) HO.out hgrow (by omega))) (fun wd3 hRn hHn => ?_)
        clear hK K hHeld HB HQ HR HX HO HE hown hgrow hat hlt hws
        obtain ⟨HB, HQ, HR, HX, HO, hsz3⟩ := hRn
        have hHeld := hHn
        clear hHn
        try simp only [Act.put, ls0, ls1, ls2]
        try simp only [Nat.zero_add]
        refine wtk 9 ?_ rfl (.inl ⟨by rfl, ?_⟩) ?_
        rotate_left 1
        · (intro w hSw; go_simp; try with_reducible rfl)
        try simp only [Act.put, ls0, ls1, ls2]
        refine wrd [10] ?_
        refine (arc rfl (fun K hK => ?_) arn)
        have sd := cbk HX.out 1 (.slice av k cv) rfl
        have sf := frozen_blk HX.out 1
        have sl := blk_lt HX.out
        go_simp
        try go_wp2_with fail
        refine out_gen hK _ _ (fun wz : World => Kp (Below w.heap.size w wz) ∧ Kp (wz.heap[w.heap.size]? = some (.cells #[.int .i64 P, .slice (some ⟨g, o, none⟩) L.length vc, .int .i64 E] 157 (0, 0))) ∧ Kp (wz.heap[w.heap.size + 1]? = some (.cells #[.int .i64 0, .slice none 0 0, .int .i64 0] 157 (0, 0))) ∧ Kp (wz.heap[w.heap.size + 1 + 1]? = some (.cells #[.int .i64 0, .slice (some ⟨g3, 0, none⟩) (k + 1) k3, .int .i64 0] 157 (0, 0))) ∧ Kp (wz.ownsRow (w.heap.size + 1 + 1 + 1) 105 2 (.slice (some ⟨g3, 0, none⟩) (k + 1) k3) (k + 1) ((pickL L p (k + 1)).flatMap spanC)) ∧ wd3.heap.size ≤ wz.heap.size) ⟨⟨HB.out.setCell (p := ⟨w.heap.size + 1 + 1, 1, none⟩) (by show w.heap.size ≤ w.heap.size + 1 + 1; omega) _⟩, ⟨blk_set_ne (p := ⟨w.heap.size + 1 + 1, 1, none⟩) HQ.out (by show w.heap.size ≠ w.heap.size + 1 + 1; omega) _⟩, ⟨blk_set_ne (p := ⟨w.heap.size + 1 + 1, 1, none⟩) HR.out (by show w.heap.size + 1 ≠ w.heap.size + 1 + 1; omega) _⟩, ⟨(blk_set HX.out 1 _).trans rfl⟩, ⟨own_set_ne HO.out (p := ⟨w.heap.size + 1 + 1, 1, none⟩) (by show w.heap.size + 1 + 1 < w.heap.size + 1 + 1 + 1; omega) _⟩, (by simp [World.setCell])⟩ (sx_of1 (ButB.set (And.left hHeld) (p := ⟨w.heap.size + 1 + 1, 1, none⟩) (by first | (left; simp; done) | (right; show w.heap.size + 1 + 1 + 1 ≤ w.heap.size + 1 + 1; omega)) _)) (fun wd4 hRn hHn => ?_)
        clear hK K hHeld HB HQ HR HX HO sd sf sl
        obtain ⟨HB, HQ, HR, HX, HO, hsz4⟩ := hRn
        have hHeld := hHn
        clear hHn
        try simp only [Act.put, ls0, ls1, ls2]
        refine wpAnyH_done (by kernel_rfl) ?_ _
        go_wp2
        go_roundw
        case rel => exact ⟨k + 1, _, by omega, by rw [HI.out], by omega, HB, HQ, HR, HX, HO⟩
        case measure => simp [intOf]; omega
      · have ge_HE : wr.heap.size ≤ wd0.heap.size := (And.left hHeld).size
        go_simp
        try go_wp2_with fail
        refine out_gen hK _ _ (fun wz : World => Kp (Below w.heap.size w wz) ∧ Kp (wz.heap[w.heap.size]? = some (.cells #[.int .i64 P, .slice (some ⟨g, o, none⟩) L.length vc, .int .i64 E] 157 (0, 0))) ∧ Kp (wz.heap[w.heap.size + 1]? = some (.cells #[.int .i64 0, .slice none 0 0, .int .i64 0] 157 (0, 0))) ∧ Kp (wz.heap[w.heap.size + 1 + 1]? = some (.cells #[.int .i64 0, .slice av k cv, .int .i64 0] 157 (0, 0))) ∧ Kp (wz.ownsRow (w.heap.size + 1 + 1 + 1) 105 2 (.slice av k cv) (k) ((pickL L p k).flatMap spanC)) ∧ Kp (wz.heap[wd0.heap.size]? = some (.cells #[.int .i64 s.1, .int .i64 s.2] 105 (0, 0))) ∧ wd0.heap.size < wz.heap.size) ⟨⟨below_al HB.out _⟩, ⟨blk_al HQ.out _⟩, ⟨blk_al HR.out _⟩, ⟨blk_al HX.out _⟩, ⟨HO.out.alloc _⟩, ⟨blk_new wd0 _⟩, (by simp)⟩ (sx_of1 (ButB.al (And.left hHeld) _)) (fun wd5 hRn hHn => ?_)
        clear hK K hHeld HB HQ HR HX HO
        obtain ⟨HB, HQ, HR, HX, HO, HE, hsz5⟩ := hRn
        have hHeld := hHn
        clear hHn
        try simp only [Act.put, ls0, ls1, ls2]
        have lt_HE := blk_lt HE.out
        refine wrd [1] ?_
        refine (arc rfl (fun K hK => ?_) arn)
        have sd1 := cbk HX.out 1 (.slice av k cv) rfl
        have sl := blk_lt HX.out
        go_simp
        try go_wp2_with fail
        refine out_gen hK _ _ (fun wz : World => Kp (Below w.heap.size w wz) ∧ Kp (wz.heap[w.heap.size]? = some (.cells #[.int .i64 P, .slice (some ⟨g, o, none⟩) L.length vc, .int .i64 E] 157 (0, 0))) ∧ Kp (wz.heap[w.heap.size + 1]? = some (.cells #[.int .i64 0, .slice none 0 0, .int .i64 0] 157 (0, 0))) ∧ Kp (wz.heap[w.heap.size + 1 + 1]? = some (.cells #[.int .i64 0, .slice av k cv, .int .i64 0] 157 (0, 0))) ∧ Kp (wz.ownsRow (w.heap.size + 1 + 1 + 1) 105 2 (.slice av k cv) (k) ((pickL L p k).flatMap spanC)) ∧ Kp (wz.heap[wd0.heap.size]? = some (.cells #[.int .i64 s.1, .int .i64 s.2] 105 (0, 0))) ∧ wd5.heap.size ≤ wz.heap.size) ⟨⟨HB.out⟩, ⟨HQ.out⟩, ⟨HR.out⟩, ⟨HX.out⟩, ⟨HO.out⟩, ⟨HE.out⟩, Nat.le_refl _⟩ (sx_of1 ((And.left hHeld))) (fun wd6 hRn hHn => ?_)
        clear hK K hHeld HB HQ HR HX HO HE  sd1 sl
        obtain ⟨HB, HQ, HR, HX, HO, HE, hsz6⟩ := hRn
        have hHeld := hHn
        clear hHn
        try simp only [Act.put, ls0, ls1, ls2]
        refine wrd [8] ?_
        refine (arc rfl (fun K hK => ?_) arn)
        have hws := (And.left hHeld).size
        refine step_append_lies _ (by rfl) _ _ 155 (by rfl) (w.heap.size + 1 + 1 + 1) 105 i0 (.agg #[.int .i64 0, .int .i64 0]) 2 16 Tryz.underlying155 hi hz0 hz1 hz2 (by rfl) (by decide) _ _ _ (by rfl) HO.out _ 1 _ (spanC s) (by rfl) rfl (World.news_of_block HE.out) (by simp [spanC, Value.oneCell']) (by omega) (by unfold maxLen; omega) (by omega) (by have := hws; omega) _ rfl ?_
        intro g3 k3 w9 hown hgrow hat hlt
        refine out_gen hK _ _ (fun wz : World => Kp (Below w.heap.size w wz) ∧ Kp (wz.heap[w.heap.size]? = some (.cells #[.int .i64 P, .slice (some ⟨g, o, none⟩) L.length vc, .int .i64 E] 157 (0, 0))) ∧ Kp (wz.heap[w.heap.size + 1]? = some (.cells #[.int .i64 0, .slice none 0 0, .int .i64 0] 157 (0, 0))) ∧ Kp (wz.heap[w.heap.size + 1 + 1]? = some (.cells #[.int .i64 0, .slice av k cv, .int .i64 0] 157 (0, 0))) ∧ Kp (wz.ownsRow (w.heap.size + 1 + 1 + 1) 105 2 (.slice (some ⟨g3, 0, none⟩) (k + 1) k3) (k + 1) ((pickL L p (k + 1)).flatMap spanC)) ∧ wd6.heap.size ≤ wz.heap.size) ⟨⟨below_own2 HB.out (by have := HB.out.size; omega) (by omega) HO.out hgrow⟩, ⟨blk_grownR HQ.out HO.out hgrow (by first | (intro hq; have := (HO.out.lt _ hq).1; omega) | (intro hq; simp [Value.ownBlock] at hq; omega))⟩, ⟨blk_grownR HR.out HO.out hgrow (by first | (intro hq; have := (HO.out.lt _ hq).1; omega) | (intro hq; simp [Value.ownBlock] at hq; omega))⟩, ⟨blk_grownR HX.out HO.out hgrow (by first | (intro hq; have := (HO.out.lt _ hq).1; omega) | (intro hq; simp [Value.ownBlock] at hq; omega))⟩, ⟨by rw [HN.out]; exact hown⟩, hgrow.size⟩ (sx_of1 (ButB.grown (And.left hHeld) HO.out hgrow (by omega))) (fun wd7 hRn hHn => ?_)
        clear hK K hHeld HB HQ HR HX HO HE hown hgrow hat hlt hws
        obtain ⟨HB, HQ, HR, HX, HO, hsz7⟩ := hRn
        have hHeld := hHn
        clear hHn
        try simp only [Act.put, ls0, ls1, ls2]
        try simp only [Nat.zero_add]
        refine wtk 9 ?_ rfl (.inl ⟨by rfl, ?_⟩) ?_
        rotate_left 1
        · (intro w hSw; go_simp; try with_reducible rfl)
        try simp only [Act.put, ls0, ls1, ls2]
        refine wrd [10] ?_
        refine (arc rfl (fun K hK => ?_) arn)
        have sd := cbk HX.out 1 (.slice av k cv) rfl
        have sf := frozen_blk HX.out 1
        have sl := blk_lt HX.out
        go_simp
        try go_wp2_with fail
        refine out_gen hK _ _ (fun wz : World => Kp (Below w.heap.size w wz) ∧ Kp (wz.heap[w.heap.size]? = some (.cells #[.int .i64 P, .slice (some ⟨g, o, none⟩) L.length vc, .int .i64 E] 157 (0, 0))) ∧ Kp (wz.heap[w.heap.size + 1]? = some (.cells #[.int .i64 0, .slice none 0 0, .int .i64 0] 157 (0, 0))) ∧ Kp (wz.heap[w.heap.size + 1 + 1]? = some (.cells #[.int .i64 0, .slice (some ⟨g3, 0, none⟩) (k + 1) k3, .int .i64 0] 157 (0, 0))) ∧ Kp (wz.ownsRow (w.heap.size + 1 + 1 + 1) 105 2 (.slice (some ⟨g3, 0, none⟩) (k + 1) k3) (k + 1) ((pickL L p (k + 1)).flatMap spanC)) ∧ wd7.heap.size ≤ wz.heap.size) ⟨⟨HB.out.setCell (p := ⟨w.heap.size + 1 + 1, 1, none⟩) (by show w.heap.size ≤ w.heap.size + 1 + 1; omega) _⟩, ⟨blk_set_ne (p := ⟨w.heap.size + 1 + 1, 1, none⟩) HQ.out (by show w.heap.size ≠ w.heap.size + 1 + 1; omega) _⟩, ⟨blk_set_ne (p := ⟨w.heap.size + 1 + 1, 1, none⟩) HR.out (by show w.heap.size + 1 ≠ w.heap.size + 1 + 1; omega) _⟩, ⟨(blk_set HX.out 1 _).trans rfl⟩, ⟨own_set_ne HO.out (p := ⟨w.heap.size + 1 + 1, 1, none⟩) (by show w.heap.size + 1 + 1 < w.heap.size + 1 + 1 + 1; omega) _⟩, (by simp [World.setCell])⟩ (sx_of1 (ButB.set (And.left hHeld) (p := ⟨w.heap.size + 1 + 1, 1, none⟩) (by first | (left; simp; done) | (right; show w.heap.size + 1 + 1 + 1 ≤ w.heap.size + 1 + 1; omega)) _)) (fun wd8 hRn hHn => ?_)
        clear hK K hHeld HB HQ HR HX HO sd sf sl
        obtain ⟨HB, HQ, HR, HX, HO, hsz8⟩ := hRn
        have hHeld := hHn
        clear hHn
        try simp only [Act.put, ls0, ls1, ls2]
        refine wpAnyH_done (by kernel_rfl) ?_ _
        go_wp2
        go_roundw
        case rel => exact ⟨k + 1, _, by omega, by rw [HI.out], by omega, HB, HQ, HR, HX, HO⟩
        case measure => simp [intOf]; omega
    · obtain rfl : k = n := by omega
      have z0 := frozen_blk HR.out 0
      have z1 := frozen_blk HR.out 1
      have z2 := frozen_blk HR.out 2
      have r0 := cbk HR.out 0 (.int .i64 0) rfl
      have r1 := cbk HR.out 1 (.slice none 0 0) rfl
      have r2 := cbk HR.out 2 (.int .i64 0) rfl
      have lr := blk_lt HR.out
      have p0 := cbk HX.out 0 (.int .i64 0) rfl
      have p1 := cbk HX.out 1 (.slice av k cv) rfl
      have p2 := cbk HX.out 2 (.int .i64 0) rfl
      have lp := blk_lt HX.out
      have hge : ¬ ((p + k * 2 : Nat) : Int) < (L.length : Int) := by omega
      have hge2 : decide (p + k * 2 < L.length) = false := decide_eq_false (by omega)
      go_wp2
      exact bodyPost_ret (v := .agg #[.int .i64 0, _, .int .i64 0]) (results_cell_row rfl _ _ _ _ _ _ _ rfl ((blk_set (blk_set (blk_set HR.out 0 _) 1 _) 2 _).trans rfl) Tryz.underlying157 rfl (by kernel_rfl)) rfl
        ⟨_, rfl, own_base (own_set_ne (own_set_ne (own_set_ne HO.out (p := ⟨w.heap.size + 1, 0, none⟩) (by show w.heap.size + 1 < w.heap.size + 1 + 1 + 1; omega) _) (p := ⟨w.heap.size + 1, 1, none⟩) (by show w.heap.size + 1 < w.heap.size + 1 + 1 + 1; omega) _) (p := ⟨w.heap.size + 1, 2, none⟩) (by show w.heap.size + 1 < w.heap.size + 1 + 1 + 1; omega) _) (by omega),
         ((HB.out.setCell (p := ⟨w.heap.size + 1, 0, none⟩) (by show w.heap.size ≤ w.heap.size + 1; omega) _).setCell (p := ⟨w.heap.size + 1, 1, none⟩) (by show w.heap.size ≤ w.heap.size + 1; omega) _).setCell (p := ⟨w.heap.size + 1, 2, none⟩) (by show w.heap.size ≤ w.heap.size + 1; omega) _⟩
end Go.Proofs.YtmidcnfmphlneaaGreat

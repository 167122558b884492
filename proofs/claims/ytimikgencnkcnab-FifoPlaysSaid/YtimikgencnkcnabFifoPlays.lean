/- The law FifoPlays: its walk. -/
import Derived.Test.YtimikgencnkcnabTold3
import Derived.Test.YtimikgencnkcnabRead
import Derived.Test.YtimikgencnkcnabInts
import Derived.Deep.RegionWith
namespace Go.Proofs.Ytimikgencnkcnab
open Go.RowKit
set_option linter.unusedSimpArgs false
set_option linter.unusedVariables false

set_option maxRecDepth 100000 in
set_option maxHeartbeats 4000000 in
theorem fifoPlays_core (cap : Nat) (h1 : 1 ≤ cap) (h2 : cap ≤ 4096) (v : Value) (xs : List Int) (hx : xs.length ≤ 300) (w : World) (h : RowAt w 1 v xs.length (xs.map (Value.int .i64))) :
    Calls Try.prog 4 #[.int .i64 cap, v] w fun e w' => e = .returned (.bool true) ∧ Below w.heap.size w w' := by
  obtain ⟨a, ca, rfl, h3, h4⟩ := h.shape
  have H1 := Kp.mk h
  clear h
  go_enter Try.func4, Try.ntmps4
  go_wp2_with fail
  refine (wakes3_any _).mono ?_
  rintro e w1 ⟨rfl, hb1⟩
  go_wp2_with fail
  refine (fifoNew_any cap h1 h2 _).mono ?_
  rintro e w2 ⟨B, D, rfl, hq, hb2, hB, hD⟩
  have HB0 := Kp.mk (below_al (below_call hb1 hb2) (.cells #[.int .i64 (cap : Int), .slice none 0 0] 40))
  have HQ0 := Kp.mk (hq.out.below (below_al (Below.refl _ _) (.cells #[.int .i64 (cap : Int), .slice none 0 0] 40)))
  have HR0 : Kp (RQ (w2.alloc (.cells #[.int .i64 (cap : Int), .slice none 0 0] 40)) w2.heap.size cap []) := ⟨_, blk_new _ _, SlAt.nil _ _ _ _⟩
  obtain ⟨hBl, hDl, hBD, _, _, _⟩ := hq.out.lt
  have hw1 := hb1.size
  have hw2 := hb2.size
  clear hb1 hb2 hq
  go_wp2_with fail
  obtain ⟨X, hX⟩ : ∃ X, w2.heap.size = X := ⟨_, rfl⟩
  rw [hX] at HR0 hBl hDl
  simp only [hX]
  generalize (w2.alloc (.cells #[.int .i64 (cap : Int), .slice none 0 0] 40)) = w3 at HB0 HQ0 HR0 ⊢
  have hwX : w.heap.size ≤ X := by omega
  clear hX hw2
  go_loopw [56] (fun i wr => ∃ (k : Nat) (q : List Int), k ≤ xs.length ∧ i = .int .i64 k ∧ Kp (Below w.heap.size w wr) ∧ Kp (QAt wr B D cap q) ∧ Kp (RQ wr X cap q) ∧ Kp (q.length ≤ k)) (fun i wr => xs.length - (intOf i).toNat)
  case atStart => exact ⟨0, [], Nat.zero_le _, rfl, HB0, HQ0, HR0, ⟨by simp⟩⟩
  case round =>
    obtain ⟨k, q, hk, rfl, HB, HQ, HR, HK⟩ := hrel
    by_cases hlt : k < xs.length
    · obtain ⟨g, o, rfl, hg, hc⟩ := H1.out.at (by omega)
      have c0 : wr.cell? ⟨g, o + k, none⟩ = some (.int .i64 xs[k]) := (HB.out.cell (p := ⟨g, o + k, none⟩) hg).trans ((hc k (by omega)).trans (by simp [hlt]))
      clear hc
      have hks := HK.out
      by_cases hn : 0 ≤ xs[k]
      · by_cases hf : q.length = cap
        · go_wp2_with fail
          refine (fifoPut_full B D cap q xs[k] _ HQ.out hf).mono ?_
          rintro e w4 ⟨rfl, hb4⟩
          have HQ4 := Kp.mk (HQ.out.below hb4)
          have HR4 := Kp.mk (HR.out.below hb4)
          have HB4 := Kp.mk (below_call HB.out hb4)
          clear hb4
          go_wp2_with fail
          refine (refPut_full X cap q xs[k] _ HR4.out (by omega)).mono ?_
          rintro e w5 ⟨rfl, hb5⟩
          have HBz := Kp.mk (below_call HB4.out hb5)
          have HQz : Kp (QAt w5 B D cap q) := ⟨HQ4.out.below hb5⟩
          have HRz : Kp (RQ w5 X cap q) := ⟨HR4.out.below hb5⟩
          have HBz' : ∀ n, Kp (Below w.heap.size w (w5.drewN n)) := fun n => ⟨below_drN HBz.out⟩
          have HQz' : ∀ n, Kp (QAt (w5.drewN n) B D cap q) := fun n => ⟨HQz.out.below (below_drN (Below.refl _ _))⟩
          have HRz' : ∀ n, Kp (RQ (w5.drewN n) X cap q) := fun n => ⟨HRz.out.below (below_drN (Below.refl _ _))⟩
          obtain ⟨v, hv1, hv2⟩ := HRz.out
          obtain ⟨av, cv, rfl, hcv1, hcv2⟩ := hv2.row.shape
          have c8 : w5.cell? ⟨X, 1, none⟩ = some (.slice av (q).length cv) := (cell_blk hv1 1).trans rfl
          clear hv1 hv2
          clear hb5
          go_wp2_with fail
          go_quiet ((go_at_call 18; exact Calls.quiet_of_same (fifoLen_any B D cap q _ (HQz.out.below (below_drN (Below.refl _ _))))))
          go_wp2
          go_roundw
          case rel => exact ⟨k + 1, q, by omega, by go_num, HBz' _, HQz' _, HRz' _, ⟨by omega⟩⟩
          case measure => simp [intOf]; omega
        · have hroom : q.length < cap := by have := HQ.out.lt; omega
          go_wp2_with fail
          refine (fifoPut_room B D cap q xs[k] _ HQ.out hroom).mono ?_
          rintro e w4 ⟨rfl, hb4, hq4⟩
          have HR4 := Kp.mk (HR.out.but hb4 (by intro b hb; simp at hb; omega))
          have HB4 := Kp.mk (hb4.below HB.out (by intro b hb; simp at hb; omega) HB.out.size)
          clear hb4
          go_wp2_with fail
          refine (refPut_room X cap q xs[k] _ HR4.out (by omega) (by omega)).mono ?_
          rintro e w5 ⟨rfl, hb5, hr5⟩
          have HBz := Kp.mk (HB4.out.trans (hb5.mono hwX))
          have HQz : Kp (QAt w5 B D cap (q ++ [xs[k]])) := ⟨hq4.out.low hb5 hBl hDl⟩
          have HRz : Kp (RQ w5 X cap (q ++ [xs[k]])) := ⟨hr5.out⟩
          have HBz' : ∀ n, Kp (Below w.heap.size w (w5.drewN n)) := fun n => ⟨below_drN HBz.out⟩
          have HQz' : ∀ n, Kp (QAt (w5.drewN n) B D cap (q ++ [xs[k]])) := fun n => ⟨HQz.out.below (below_drN (Below.refl _ _))⟩
          have HRz' : ∀ n, Kp (RQ (w5.drewN n) X cap (q ++ [xs[k]])) := fun n => ⟨HRz.out.below (below_drN (Below.refl _ _))⟩
          obtain ⟨v, hv1, hv2⟩ := HRz.out
          obtain ⟨av, cv, rfl, hcv1, hcv2⟩ := hv2.row.shape
          have c8 : w5.cell? ⟨X, 1, none⟩ = some (.slice av ((q ++ [xs[k]])).length cv) := (cell_blk hv1 1).trans rfl
          clear hv1 hv2
          clear hb5
          go_wp2_with fail
          go_quiet ((go_at_call 18; exact Calls.quiet_of_same (fifoLen_any B D cap (q ++ [xs[k]]) _ (HQz.out.below (below_drN (Below.refl _ _))))))
          go_wp2
          go_roundw
          case rel => exact ⟨k + 1, (q ++ [xs[k]]), by omega, by go_num, HBz' _, HQz' _, HRz' _, ⟨by simp; omega⟩⟩
          case measure => simp [intOf]; omega
      · cases q with
        | nil =>
          go_wp2_with fail
          refine (fifoTake_none B D cap _ HQ.out).mono ?_
          rintro e w4 ⟨rfl, rfl⟩
          go_wp2_with fail
          refine (refTake_none X cap _ HR.out).mono ?_
          rintro e w5 ⟨rfl, rfl⟩
          have HBz := Kp.mk (HB.out)
          have HQz : Kp (QAt w5 B D cap []) := ⟨HQ.out⟩
          have HRz : Kp (RQ w5 X cap []) := ⟨HR.out⟩
          have HBz' : ∀ n, Kp (Below w.heap.size w (w5.drewN n)) := fun n => ⟨below_drN HBz.out⟩
          have HQz' : ∀ n, Kp (QAt (w5.drewN n) B D cap []) := fun n => ⟨HQz.out.below (below_drN (Below.refl _ _))⟩
          have HRz' : ∀ n, Kp (RQ (w5.drewN n) X cap []) := fun n => ⟨HRz.out.below (below_drN (Below.refl _ _))⟩
          obtain ⟨v, hv1, hv2⟩ := HRz.out
          obtain ⟨av, cv, rfl, hcv1, hcv2⟩ := hv2.row.shape
          have c8 : w5.cell? ⟨X, 1, none⟩ = some (.slice av ([]).length cv) := (cell_blk hv1 1).trans rfl
          clear hv1 hv2
          go_wp2_with fail
          go_quiet ((go_at_call 18; exact Calls.quiet_of_same (fifoLen_any B D cap [] _ (HQz.out.below (below_drN (Below.refl _ _))))))
          go_wp2
          go_roundw
          case rel => exact ⟨k + 1, [], by omega, by go_num, HBz' _, HQz' _, HRz' _, ⟨by simp⟩⟩
          case measure => simp [intOf]; omega
        | cons x q =>
          go_wp2_with fail
          refine (fifoTake_some B D cap x q _ HQ.out).mono ?_
          rintro e w4 ⟨rfl, hb4, hq4⟩
          have HR4 := Kp.mk (HR.out.but hb4 (by intro b hb; simp at hb; omega))
          have HB4 := Kp.mk (hb4.below HB.out (by intro b hb; simp at hb; omega) HB.out.size)
          clear hb4
          go_wp2_with fail
          refine (refTake_some X cap x q _ HR4.out).mono ?_
          rintro e w5 ⟨rfl, hb5, hr5⟩
          rw [List.length_cons] at hks
          have HBz := Kp.mk (HB4.out.trans (hb5.mono hwX))
          have HQz : Kp (QAt w5 B D cap q) := ⟨hq4.out.low hb5 hBl hDl⟩
          have HRz : Kp (RQ w5 X cap q) := ⟨hr5.out⟩
          have HBz' : ∀ n, Kp (Below w.heap.size w (w5.drewN n)) := fun n => ⟨below_drN HBz.out⟩
          have HQz' : ∀ n, Kp (QAt (w5.drewN n) B D cap q) := fun n => ⟨HQz.out.below (below_drN (Below.refl _ _))⟩
          have HRz' : ∀ n, Kp (RQ (w5.drewN n) X cap q) := fun n => ⟨HRz.out.below (below_drN (Below.refl _ _))⟩
          obtain ⟨v, hv1, hv2⟩ := HRz.out
          obtain ⟨av, cv, rfl, hcv1, hcv2⟩ := hv2.row.shape
          have c8 : w5.cell? ⟨X, 1, none⟩ = some (.slice av (q).length cv) := (cell_blk hv1 1).trans rfl
          clear hv1 hv2
          clear hb5
          go_wp2_with fail
          go_quiet ((go_at_call 18; exact Calls.quiet_of_same (fifoLen_any B D cap q _ (HQz.out.below (below_drN (Below.refl _ _))))))
          go_wp2
          go_roundw
          case rel => exact ⟨k + 1, q, by omega, by go_num, HBz' _, HQz' _, HRz' _, ⟨by omega⟩⟩
          case measure => simp [intOf]; omega
    · obtain rfl : k = xs.length := by omega
      obtain ⟨v, hv1, hv2⟩ := HR.out
      obtain ⟨av, cv, rfl, hcv1, hcv2⟩ := hv2.row.shape
      have c8 : wr.cell? ⟨X, 1, none⟩ = some (.slice av q.length cv) := (cell_blk hv1 1).trans rfl
      have V1 := Kp.mk hv1
      have V2 := Kp.mk hv2.row
      have hXl := blk_lt hv1
      have hm : q.take (5000 : Int).toNat = q := List.take_of_length_le (by have := HK.out; simp; omega)
      have HM := Kp.mk hm
      clear hv1 hv2 hm
      go_wp2_with fail
      go_region_with (first
        | (go_at_call 19; refine (told3_any 5000 B D cap q _ (HQ.out.below (below_drN (n := 1) (Below.refl _ _)))).mono ?_; rintro e w6 ⟨vt, rfl, hown, hb6⟩; rw [HM.out] at hown; have OW := Kp.mk hown; have B6 := Kp.mk hb6; have d8 : w6.cell? ⟨X, 1, none⟩ = some (.slice av q.length cv) := (hb6.cell (p := ⟨X, 1, none⟩) hXl).trans c8; clear hown hb6)
        | (go_at_call 12; refine (rsame_any _ _ q q true (by simp) _ (RowAt.of_own OW.out) (V2.out.below (below_call (below_dr (Below.refl _ _)) B6.out))).mono ?_; rintro e w7 ⟨rfl, hb7⟩))
      all_goals
        go_wp2
        go_ret
        exact ⟨rfl, below_call (below_call (below_dr HB.out) B6.out) hb7⟩

set_option maxHeartbeats 1000000 in
theorem fifoPlays_bad (m : Int) (hm : m < 1 ∨ 4096 < m) (v : Value) (w : World) :
    Calls Try.prog 4 #[.int .i64 m, v] w fun e w' => e = .returned (.bool true) ∧ Below w.heap.size w w' := by
  rcases hm with hm | hm
  · go_enter Try.func4, Try.ntmps4
    go_wp2_with fail
    refine (wakes3_any _).mono ?_
    rintro e w1 ⟨rfl, hb1⟩
    go_wp2_with fail
    refine (fifoNew_bad m (.inl hm) _).mono ?_
    rintro e w2 ⟨rfl, rfl⟩
    go_wp2
    go_ret
    exact ⟨rfl, hb1⟩
  · have hm1 : ¬ m < 1 := by omega
    go_enter Try.func4, Try.ntmps4
    go_wp2_with fail
    refine (wakes3_any _).mono ?_
    rintro e w1 ⟨rfl, hb1⟩
    go_wp2_with fail
    refine (fifoNew_bad m (.inr hm) _).mono ?_
    rintro e w2 ⟨rfl, rfl⟩
    go_wp2
    go_ret
    exact ⟨rfl, hb1⟩

set_option maxHeartbeats 1000000 in
theorem fifoPlays_long (cap : Nat) (h1 : 1 ≤ cap) (h2 : cap ≤ 4096) (a : Option Addr) (n ca : Nat) (hx : 300 < n) (w : World) :
    Calls Try.prog 4 #[.int .i64 cap, .slice a n ca] w fun e w' => e = .returned (.bool true) ∧ Below w.heap.size w w' := by
  go_enter Try.func4, Try.ntmps4
  go_wp2_with fail
  refine (wakes3_any _).mono ?_
  rintro e w1 ⟨rfl, hb1⟩
  go_wp2_with fail
  refine (fifoNew_any cap h1 h2 _).mono ?_
  rintro e w2 ⟨B, D, rfl, hq, hb2, hB, hD⟩
  go_wp2
  go_ret
  exact ⟨rfl, below_call hb1 hb2⟩

theorem fifoPlays_any (v0 v1 : Value) (w : World) (h0 : RdV w (.int .i64) v0) (h1 : RdV w (.slice 1 (.int .i64)) v1) : Calls Try.prog 4 #[v0, v1] w fun e w' => e = .returned (.bool true) ∧ Below w.heap.size w w' := by
  obtain ⟨m, rfl, wm⟩ := h0
  obtain ⟨xs, hr, hw⟩ := intsAt_of h1
  by_cases hm : m < 1 ∨ 4096 < m
  · exact fifoPlays_bad m hm v1 w
  · obtain ⟨cap, rfl⟩ := Int.eq_ofNat_of_zero_le (show 0 ≤ m by omega)
    by_cases hl : xs.length ≤ 300
    · exact fifoPlays_core cap (by omega) (by omega) v1 xs hl w hr
    · obtain ⟨a, ca, rfl, _, _⟩ := hr.shape
      exact fifoPlays_long cap (by omega) (by omega) a xs.length ca (by omega) w
end Go.Proofs.Ytimikgencnkcnab

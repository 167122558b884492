/- The law FifoRoom: its walk. -/
import Derived.Test.YtimikgencnkcnabTold3
import Derived.Test.YtimikgencnkcnabRead
import Derived.Test.YtimikgencnkcnabInts
namespace Go.Proofs.Ytimikgencnkcnab
open Go.RowKit
set_option linter.unusedSimpArgs false
set_option linter.unusedVariables false

set_option maxRecDepth 100000 in
set_option maxHeartbeats 4000000 in
theorem fifoRoom_core (m : Int) (hm0 : 0 ≤ m) (hm1 : m ≤ 255) (v : Value) (xs : List Int) (hx : xs.length ≤ 300) (w : World) (h : RowAt w 1 v xs.length (xs.map (Value.int .i64))) :
    Calls Try.prog 6 #[.int .u8 m, v] w fun e w' => e = .returned (.bool true) ∧ Below w.heap.size w w' := by
  obtain ⟨a, ca, rfl, h3, h4⟩ := h.shape
  obtain ⟨cap, hcap⟩ : ∃ cap : Nat, (cap : Int) = 1 + m := ⟨(1 + m).toNat, by omega⟩
  have h1 : 1 ≤ cap := by omega
  have h2 : cap ≤ 4096 := by omega
  have hcw : IntKind.i64.wrap (1 + m) = (cap : Int) := by rw [hcap]; exact IntWalk.i64_in _ (by omega)
  have H1 := Kp.mk h
  clear h
  go_enter Try.func6, Try.ntmps6
  go_wp2_with fail
  refine (wakes3_any _).mono ?_
  rintro e w1 ⟨rfl, hb1⟩
  go_wp2_with fail
  try rw [← hcap]
  refine (fifoNew_any cap h1 h2 _).mono ?_
  rintro e w2 ⟨B, D, rfl, hq, hb2, hB, hD⟩
  have HB0 := Kp.mk (below_call hb1 hb2)
  obtain ⟨hBl, hDl, hBD, _, _, _⟩ := hq.out.lt
  have hw1 := hb1.size
  clear hb1 hb2
  try rw [← hcap]
  go_wp2_with fail
  go_loopw [37] (fun i wr => ∃ (k : Nat) (q : List Int), k ≤ xs.length ∧ i = .int .i64 k ∧ Kp (Below w.heap.size w wr) ∧ Kp (QAt wr B D cap q)) (fun i wr => xs.length - (intOf i).toNat)
  case atStart => exact ⟨0, [], Nat.zero_le _, rfl, HB0, hq⟩
  case round =>
    obtain ⟨k, q, hk, rfl, HB, HQ⟩ := hrel
    by_cases hlt : k < xs.length
    · obtain ⟨g, o, rfl, hg, hc⟩ := H1.out.at (by omega)
      have c0 : wr.cell? ⟨g, o + k, none⟩ = some (.int .i64 xs[k]) := (HB.out.cell (p := ⟨g, o + k, none⟩) hg).trans ((hc k (by omega)).trans (by simp [hlt]))
      clear hc
      obtain ⟨_, _, _, hqc, _, _⟩ := HQ.out.lt
      by_cases hn : (Int.tmod xs[k] 4 == 0) = true
      · cases q with
        | nil =>
          go_wp2_with fail
          refine (fifoLen_any B D cap [] _ HQ.out).mono ?_
          rintro e wl ⟨rfl, rfl⟩
          go_wp2_with fail
          refine (fifoTake_none B D cap _ HQ.out).mono ?_
          rintro e w4 ⟨rfl, rfl⟩
          go_wp2
          go_roundw
          case rel => exact ⟨k + 1, [], by omega, by go_num, HB, HQ⟩
          case measure => simp [intOf]; omega
        | cons x q =>
          rw [List.length_cons] at hqc
          go_wp2_with fail
          refine (fifoLen_any B D cap (x :: q) _ HQ.out).mono ?_
          rintro e wl ⟨rfl, rfl⟩
          go_wp2_with fail
          refine (fifoTake_some B D cap x q _ HQ.out).mono ?_
          rintro e w4 ⟨rfl, hb4, hq4⟩
          have HB4 := Kp.mk (hb4.below HB.out (by intro b hb; simp at hb; omega) HB.out.size)
          clear hb4
          go_wp2_with fail
          refine (fifoLen_any B D cap q _ hq4.out).mono ?_
          rintro e wl ⟨rfl, rfl⟩
          go_wp2_with fail
          refine (fifoPut_room B D cap q xs[k] _ hq4.out (by omega)).mono ?_
          rintro e w5 ⟨rfl, hb5, hq5⟩
          have HB5 := Kp.mk (hb5.below HB4.out (by intro b hb; simp at hb; omega) HB4.out.size)
          clear hb5
          go_wp2
          go_roundw
          case rel => exact ⟨k + 1, _, by omega, by go_num, HB5, hq5⟩
          case measure => simp [intOf]; omega
      · rw [Bool.not_eq_true] at hn
        go_wp2_with fail
        refine (fifoLen_any B D cap q _ HQ.out).mono ?_
        rintro e wl ⟨rfl, rfl⟩
        by_cases hf : q.length = cap
        · have hge : cap ≤ q.length := by omega
          have HF := Kp.mk hf
          clear hf
          go_wp2_with fail
          refine (fifoPut_full B D cap q xs[k] _ HQ.out HF.out).mono ?_
          rintro e w5 ⟨rfl, hb5⟩
          have HQ5 := Kp.mk (HQ.out.below hb5)
          have HB5 := Kp.mk (below_call HB.out hb5)
          clear hb5
          go_wp2_with fail
          refine (fifoLen_any B D cap q _ HQ5.out).mono ?_
          rintro e wl ⟨rfl, rfl⟩
          have hm : (q).take (5000 : Int).toNat = q := List.take_of_length_le (by have := HQ5.out.lt; simp only [show (5000 : Int).toNat = 5000 from rfl]; omega)
          have HM := Kp.mk hm
          clear hm
          go_wp2_with fail
          refine (told3_any 5000 B D cap (q) _ HQ5.out).mono ?_
          rintro e w6 ⟨vt, rfl, hown, hb6⟩
          rw [HM.out] at hown
          obtain ⟨a1, c1, rfl, hc1, hc1m⟩ := (RowAt.of_own hown).shape
          have R1 := Kp.mk (RowAt.of_own hown)
          have HQ6 := Kp.mk (HQ5.out.below hb6)
          have HB6 := Kp.mk (below_call HB5.out hb6)
          clear hown hb6
          go_wp2_with fail
          refine (told3_any 5000 B D cap (q) _ HQ6.out).mono ?_
          rintro e w7 ⟨vt, rfl, hown, hb7⟩
          rw [HM.out] at hown
          obtain ⟨a2, c2, rfl, hc2, hc2m⟩ := (RowAt.of_own hown).shape
          have R2 := Kp.mk (RowAt.of_own hown)
          have R17 := Kp.mk (R1.out.below hb7)
          have HQ7 := Kp.mk (HQ6.out.below hb7)
          have HB7 := Kp.mk (below_call HB6.out hb7)
          clear hown hb7
          go_wp2_with fail
          refine (rsame_any _ _ (q) (q) true (by simp) _ R17.out R2.out).mono ?_
          rintro e w8 ⟨rfl, hb8⟩
          have HQ8 := Kp.mk (HQ7.out.below hb8)
          have HB8 := Kp.mk (below_call HB7.out hb8)
          clear hb8
          go_wp2_with fail
          refine (fifoLen_any B D cap (q) _ HQ8.out).mono ?_
          rintro e wl ⟨rfl, rfl⟩
          go_wp2
          go_roundw
          case rel => exact ⟨k + 1, q, by omega, by go_num, HB8, HQ8⟩
          case measure => simp [intOf]; omega
        · have hroom : q.length < cap := by omega
          go_wp2_with fail
          refine (fifoPut_room B D cap q xs[k] _ HQ.out hroom).mono ?_
          rintro e w5 ⟨rfl, hb5, HQ5⟩
          have HB5 := Kp.mk (hb5.below HB.out (by intro b hb; simp at hb; omega) HB.out.size)
          clear hb5
          have hl5 : (q ++ [xs[k]]).length = q.length + 1 := by simp
          generalize q ++ [xs[k]] = q2 at HQ5 hl5
          have b1 : ((q2.length : Int) != (q.length : Int) + 1) = false := by rw [hl5]; simp
          have b2 : (q2.length != q.length + 1) = false := by rw [hl5]; simp
          have HL5 := Kp.mk hl5
          clear hl5
          go_wp2_with fail
          refine (fifoLen_any B D cap q2 _ HQ5.out).mono ?_
          rintro e wl ⟨rfl, rfl⟩
          have hm : (q2).take (5000 : Int).toNat = q2 := List.take_of_length_le (by have := HQ5.out.lt; simp only [show (5000 : Int).toNat = 5000 from rfl]; omega)
          have HM := Kp.mk hm
          clear hm
          go_wp2_with fail
          refine (told3_any 5000 B D cap (q2) _ HQ5.out).mono ?_
          rintro e w6 ⟨vt, rfl, hown, hb6⟩
          rw [HM.out] at hown
          obtain ⟨a1, c1, rfl, hc1, hc1m⟩ := (RowAt.of_own hown).shape
          have R1 := Kp.mk (RowAt.of_own hown)
          have HQ6 := Kp.mk (HQ5.out.below hb6)
          have HB6 := Kp.mk (below_call HB5.out hb6)
          clear hown hb6
          go_wp2_with fail
          refine (told3_any 5000 B D cap (q2) _ HQ6.out).mono ?_
          rintro e w7 ⟨vt, rfl, hown, hb7⟩
          rw [HM.out] at hown
          obtain ⟨a2, c2, rfl, hc2, hc2m⟩ := (RowAt.of_own hown).shape
          have R2 := Kp.mk (RowAt.of_own hown)
          have R17 := Kp.mk (R1.out.below hb7)
          have HQ7 := Kp.mk (HQ6.out.below hb7)
          have HB7 := Kp.mk (below_call HB6.out hb7)
          clear hown hb7
          go_wp2_with fail
          refine (rsame_any _ _ (q2) (q2) true (by simp) _ R17.out R2.out).mono ?_
          rintro e w8 ⟨rfl, hb8⟩
          have HQ8 := Kp.mk (HQ7.out.below hb8)
          have HB8 := Kp.mk (below_call HB7.out hb8)
          clear hb8
          go_wp2_with fail
          refine (fifoLen_any B D cap (q2) _ HQ8.out).mono ?_
          rintro e wl ⟨rfl, rfl⟩
          go_wp2
          go_roundw
          case rel => exact ⟨k + 1, q2, by omega, by go_num, HB8, HQ8⟩
          case measure => simp [intOf]; omega
    · obtain rfl : k = xs.length := by omega
      go_wp2
      go_ret
      exact ⟨rfl, HB.out⟩

set_option maxHeartbeats 1000000 in
theorem fifoRoom_long (m : Int) (a : Option Addr) (n ca : Nat) (hx : 300 < n) (w : World) :
    Calls Try.prog 6 #[.int .u8 m, .slice a n ca] w fun e w' => e = .returned (.bool true) ∧ Below w.heap.size w w' := by
  go_enter Try.func6, Try.ntmps6
  go_wp2_with fail
  refine (wakes3_any _).mono ?_
  rintro e w1 ⟨rfl, hb1⟩
  go_wp2
  go_ret
  exact ⟨rfl, hb1⟩

theorem fifoRoom_any (v0 v1 : Value) (w : World) (h0 : RdV w (.int .u8) v0) (h1 : RdV w (.slice 1 (.int .i64)) v1) : Calls Try.prog 6 #[v0, v1] w fun e w' => e = .returned (.bool true) ∧ Below w.heap.size w w' := by
  obtain ⟨m, rfl, wm⟩ := h0
  obtain ⟨xs, hr, hw⟩ := intsAt_of h1
  by_cases hl : xs.length ≤ 300
  · exact fifoRoom_core m (bounds_u8 wm).1 (bounds_u8 wm).2 v1 xs hl w hr
  · obtain ⟨a, ca, rfl, _, _⟩ := hr.shape
    exact fifoRoom_long m a xs.length ca (by omega) w
end Go.Proofs.Ytimikgencnkcnab

/- The law BellOnce: its walk. -/
import Derived.Test.YtimikgencnkcnabDoorBellHas
namespace Go.Proofs.YtimikgencnkcnabDoor
open Go.RowKit
set_option linter.unusedSimpArgs false
set_option linter.unusedVariables false

theorem takeT_one (x : List Bool) (n : Nat) : takeT x [(n : Int)] = if hasB x n = true then (offB x n, [(n : Int)]) else (x, []) := by
  rw [takeT, List.foldl_cons, List.foldl_nil, stepT]
  rfl
theorem hasB_off_self (x : List Bool) (n : Nat) : hasB (offB x n) n = false := by rw [hasB_off]; simp
theorem row_nil (w : World) : RowAt w 1 (.slice none 0 0) 0 [] := ⟨by simp, .inl ⟨⟨none, 0, rfl, Nat.zero_le _⟩, rfl⟩⟩

set_option maxRecDepth 100000 in
set_option maxHeartbeats 4000000 in
theorem bellOnce_core (by_ : Nat) (hby : by_ ≤ 255) (v : Value) (ls : List Int) (hl : ls.length ≤ 200) (w : World) (hT : TabAt 0 Lib.deBruijn64tab w) (h0 : 0 < w.heap.size) (h : RowAt w 1 v ls.length (ls.map (Value.int .i64))) :
    Calls Tryd.prog 5 #[v, .int .u8 by_] w fun e w' => e = .returned (.bool true) ∧ Below w.heap.size w w' := by
  obtain ⟨a, ca, rfl, h3, h4⟩ := h.shape
  have H1 := Kp.mk h
  have HT := Kp.mk hT
  clear h hT
  go_enter Tryd.func5, Tryd.ntmps5
  go_wp2_with fail
  refine (wakes4_any _ HT.out h0).mono ?_
  rintro e w1 ⟨rfl, hb1⟩
  go_wp2_with fail
  refine (bellNew_any 64 (by decide) _).mono ?_
  rintro e w2 ⟨B, rfl, hx, hb2, hB⟩
  have HB0 := Kp.mk (below_call hb1 hb2)
  have hw1 := hb1.size
  have hBw : w.heap.size ≤ B := by omega
  clear hb1 hb2
  go_wp2_with fail
  go_loopw [29] (fun i' wr => ∃ (k : Nat) (x : List Bool), k ≤ ls.length ∧ i' = .int .i64 k ∧ Kp (Below w.heap.size w wr) ∧ Kp (BAt wr B x) ∧ Kp (x.length = 64)) (fun i' wr => ls.length - (intOf i').toNat)
  case atStart => exact ⟨0, List.replicate 64 false, Nat.zero_le _, rfl, HB0, hx, ⟨by simp⟩⟩
  case round =>
    obtain ⟨k, x, hk, rfl, HB, HX, HL⟩ := hrel
    have hwr := HB.out.size
    have hBr := HX.out.lt
    by_cases hlt : k < ls.length
    · obtain ⟨g, o, rfl, hg, hc⟩ := H1.out.at (by omega)
      obtain ⟨y, hy⟩ : ∃ y, ls[k] = y := ⟨_, rfl⟩
      have c0 : wr.cell? ⟨g, o + k, none⟩ = some (.int .i64 y) := (HB.out.cell (p := ⟨g, o + k, none⟩) hg).trans ((hc k (by omega)).trans (by simp [hlt, hy]))
      clear hc hy
      go_wp2_with fail
      obtain ⟨r, hr⟩ : ∃ r : Int, (if 0 ≤ y ∧ y < x.length then (0 : Int) else 7) = r := ⟨_, rfl⟩
      refine (bellRing_any B x y _ HX.out).mono ?_
      rw [hr]
      clear hr
      rintro e w4 ⟨rfl, hb4, hx4⟩
      have HB4 := Kp.mk (hb4.below HB.out (by intro b hb; simp at hb; omega) hwr)
      clear hb4
      go_wp2
      go_roundw
      case rel => exact ⟨k + 1, _, by omega, by go_num, HB4, hx4, ⟨by rw [ringB_len]; exact HL.out⟩⟩
      case measure => simp [intOf]; omega
    · obtain rfl : k = ls.length := by omega
      obtain ⟨n, hn⟩ : ∃ n : Nat, by_ % 64 = n := ⟨_, rfl⟩
      have hn64 : n < 64 := by omega
      have t2 : (by_ : Int) % 64 = (n : Int) := by omega
      have t1 : (by_ : Int).tmod 64 = (n : Int) := by rw [Int.tmod_eq_emod_of_nonneg (by omega)]; exact t2
      have t3 : IntKind.i64.wrap ((by_ : Int).tmod 64) = (n : Int) := by rw [t1]; exact IntWalk.i64_in _ (by omega)
      have t4 : ((by_ % 64 : Nat) : Int) = (n : Int) := by omega
      clear hn
      have hS : ∀ k, k ∈ [B] → w.heap.size ≤ k := by intro k hk; simp at hk; omega
      have HX1 := Kp.mk hS
      clear hS
      obtain ⟨x1, q1, HP1⟩ : ∃ x1 q1, Kp (takeT x [(n : Int)] = (x1, q1)) := ⟨_, _, ⟨rfl⟩⟩
      have hf1 : hasB x1 n = false ∧ q1.length ≤ 1 ∧ x1.length = 64 := by
        have h := HP1.out
        rw [takeT_one] at h
        by_cases hh : hasB x n = true
        · rw [if_pos hh, Prod.mk.injEq] at h
          rw [← h.1, ← h.2]
          exact ⟨hasB_off_self x n, by simp, by rw [offB, List.length_set]; exact HL.out⟩
        · rw [if_neg hh, Prod.mk.injEq] at h
          rw [← h.1, ← h.2]
          exact ⟨by simpa using hh, by simp, HL.out⟩
      obtain ⟨hf1, hq1, hx1⟩ := hf1
      have HP2 : Kp (takeT x1 [(n : Int)] = (x1, [])) := ⟨by rw [takeT_one, if_neg (by rw [hf1]; simp)]⟩
      obtain ⟨x3, hx3⟩ : ∃ x3, ringB x1 n = x3 := ⟨_, rfl⟩
      have hh3 : hasB x3 n = true := by
        have h64 : (n : Int) < ((64 : Nat) : Int) := by omega
        rw [← hx3, hasB_ring, hf1, hx1, decide_eq_true (by omega)]; rfl
      have HP3 : Kp (takeT x3 [(n : Int)] = (offB x3 n, [(n : Int)])) := ⟨by rw [takeT_one, if_pos hh3]⟩
      have HH3 := Kp.mk (hasB_off_self x3 n)
      have HX3 := Kp.mk hx3
      clear hf1 hx1 hx3 hh3 HL
      -- three takings and a ringing
      try simp only [t1, t2, t3, t4]
      go_wp2_with fail
      refine (bellTake_any B x _ [(n : Int)] (by simp) _ (HX.out.below (below_al (Below.refl _ _) _)) (row_new _ _ _ 1 rfl (by decide) (by decide)) (fun _ a n c he => by simp at he; rw [← he.1]; simp; omega)).mono ?_
      rw [HP1.out]
      rintro e w5 ⟨a5, c5, rfl, x5, o5, hb5⟩
      obtain ⟨_, _, he5, hc5, hc5m⟩ := (RowAt.of_own o5.out).shape
      simp only [Value.slice.injEq, true_and] at he5
      obtain ⟨rfl, rfl⟩ := he5
      have HB5 := Kp.mk (hb5.below (HB.out.alloc HB.out.size _) HX1.out (by simp; omega))
      have hw5 := HB5.out.size
      have hB5 := x5.out.lt
      clear hb5 o5
      go_wp2_with fail
      refine (bellTake_any B x1 _ [(n : Int)] (by simp) _ (x5.out.below (below_al (Below.refl _ _) _)) (row_new _ _ _ 1 rfl (by decide) (by decide)) (fun _ a n c he => by simp at he; rw [← he.1]; simp; omega)).mono ?_
      rw [HP2.out]
      rintro e w6 ⟨a6, c6, rfl, x6, o6, hb6⟩
      have HB6 := Kp.mk (hb6.below (HB5.out.alloc HB5.out.size _) HX1.out (by simp; omega))
      have hw6 := HB6.out.size
      clear hb6 o6
      go_wp2_with fail
      obtain ⟨r, hr⟩ : ∃ r : Int, (if 0 ≤ (n : Int) ∧ (n : Int) < x1.length then (0 : Int) else 7) = r := ⟨_, rfl⟩
      refine (bellRing_any B x1 n _ x6.out).mono ?_
      rw [hr, HX3.out]
      clear hr
      rintro e w7 ⟨rfl, hb7, x7⟩
      have HB7 := Kp.mk (hb7.below HB6.out HX1.out hw6)
      have hw7 := HB7.out.size
      have hB7 := x7.out.lt
      clear hb7
      go_wp2_with fail
      refine (bellTake_any B x3 _ [(n : Int)] (by simp) _ (x7.out.below (below_al (Below.refl _ _) _)) (row_new _ _ _ 1 rfl (by decide) (by decide)) (fun _ a n c he => by simp at he; rw [← he.1]; simp; omega)).mono ?_
      rw [HP3.out]
      rintro e w8 ⟨a8, c8, rfl, x8, o8, hb8⟩
      have HB8 := Kp.mk (hb8.below (HB7.out.alloc HB7.out.size _) HX1.out (by simp; omega))
      clear hb8
      go_wp2_with fail
      refine (rsame_any _ _ [(n : Int)] [] false (by simp) _ (RowAt.of_own o8.out) (row_nil _)).mono ?_
      rintro e w9 ⟨rfl, hb9⟩
      have HB9 := Kp.mk (below_call HB8.out hb9)
      have x9 := Kp.mk (x8.out.below hb9)
      clear hb9
      go_wp2_with fail
      refine (bellHas_any B _ n _ x9.out).mono ?_
      rw [HH3.out]
      rintro e wl ⟨rfl, hwl⟩
      subst wl
      go_wp2
      go_ret
      exact ⟨rfl, HB9.out⟩

set_option maxHeartbeats 1000000 in
theorem bellOnce_long (st : Int) (a : Option Addr) (n ca : Nat) (hx : 200 < n) (w : World) (hT : TabAt 0 Lib.deBruijn64tab w) (h0 : 0 < w.heap.size) :
    Calls Tryd.prog 5 #[.slice a n ca, .int .u8 st] w fun e w' => e = .returned (.bool true) ∧ Below w.heap.size w w' := by
  have HT := Kp.mk hT
  clear hT
  go_enter Tryd.func5, Tryd.ntmps5
  go_wp2_with fail
  refine (wakes4_any _ HT.out h0).mono ?_
  rintro e w1 ⟨rfl, hb1⟩
  go_wp2
  go_ret
  exact ⟨rfl, hb1⟩

theorem bellOnce_any' (v0 v1 : Value) (w : World) (hT : TabAt 0 Lib.deBruijn64tab w) (hz : 0 < w.heap.size) (h0 : RdV w (.slice 1 (.int .i64)) v0) (h1 : RdV w (.int .u8) v1) : Calls Tryd.prog 5 #[v0, v1] w fun e w' => e = .returned (.bool true) ∧ Below w.heap.size w w' := by
  obtain ⟨m, rfl, wm⟩ := h1
  obtain ⟨xs, hr, hw⟩ := intsAt_of h0
  obtain ⟨st, rfl⟩ := Int.eq_ofNat_of_zero_le (bounds_u8 wm).1
  by_cases hl : xs.length ≤ 200
  · exact bellOnce_core st (by have := (bounds_u8 wm).2; omega) v0 xs hl w hT hz hr
  · obtain ⟨a, ca, rfl, _, _⟩ := hr.shape
    exact bellOnce_long _ a xs.length ca (by omega) w hT hz
end Go.Proofs.YtimikgencnkcnabDoor

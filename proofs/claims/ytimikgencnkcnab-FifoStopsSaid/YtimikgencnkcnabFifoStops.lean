/- The law FifoStops: its walk. -/
import Derived.Test.YtimikgencnkcnabTold3
import Derived.Test.YtimikgencnkcnabSl
import Derived.Test.YtimikgencnkcnabRead
import Derived.Test.YtimikgencnkcnabInts
import Derived.Deep.RegionWith
namespace Go.Proofs.Ytimikgencnkcnab
open Go.RowKit
set_option linter.unusedSimpArgs false
set_option linter.unusedVariables false

def qS (xs : List Int) (k : Nat) : List Int := (xs.take k).drop (k / 3)
theorem qS_len (xs : List Int) (k : Nat) (h : k ≤ xs.length) : (qS xs k).length = k - k / 3 := by simp [qS]; omega
theorem qS_put (xs : List Int) (k : Nat) (h : k < xs.length) : qS xs k ++ [xs[k]] = (xs.take (k + 1)).drop (k / 3) := by
  rw [qS, List.take_succ_eq_append_getElem h, List.drop_append_of_le_length (by simp; omega)]
theorem qS_take (xs : List Int) (k : Nat) (h : k < xs.length) : ∃ x, (xs.take (k + 1)).drop (k / 3) = x :: (xs.take (k + 1)).drop (k / 3 + 1) := by
  have hl : k / 3 < (xs.take (k + 1)).length := by simp; omega
  exact ⟨_, List.drop_eq_getElem_cons hl⟩

set_option maxRecDepth 100000 in
set_option maxHeartbeats 8000000 in
theorem fifoStops_core (st : Nat) (hst : st ≤ 255) (v : Value) (xs : List Int) (hx : xs.length ≤ 300) (w : World) (h : RowAt w 1 v xs.length (xs.map (Value.int .i64))) :
    Calls Try.prog 5 #[v, .int .u8 st] w fun e w' => e = .returned (.bool true) ∧ Below w.heap.size w w' := by
  obtain ⟨a, ca, rfl, h3, h4⟩ := h.shape
  have H1 := Kp.mk h
  clear h
  go_enter Try.func5, Try.ntmps5
  go_wp2_with fail
  refine (wakes3_any _).mono ?_
  rintro e w1 ⟨rfl, hb1⟩
  go_wp2_with fail
  refine (fifoNew_any 300 (by decide) (by decide) _).mono ?_
  rintro e w2 ⟨B, D, rfl, hq, hb2, hB, hD⟩
  have HB0 := Kp.mk (below_call hb1 hb2)
  obtain ⟨hBl, hDl, hBD, _, _, _⟩ := hq.out.lt
  have hw1 := hb1.size
  clear hb1 hb2
  go_wp2_with fail
  go_loopw [28] (fun i wr => ∃ k : Nat, k ≤ xs.length ∧ i = .int .i64 k ∧ Kp (Below w.heap.size w wr) ∧ Kp (QAt wr B D 300 (qS xs k))) (fun i wr => xs.length - (intOf i).toNat)
  case atStart => exact ⟨0, Nat.zero_le _, rfl, HB0, hq⟩
  case round =>
    obtain ⟨k, hk, rfl, HB, HQ⟩ := hrel
    by_cases hlt : k < xs.length
    · obtain ⟨g, o, rfl, hg, hc⟩ := H1.out.at (by omega)
      have c0 : wr.cell? ⟨g, o + k, none⟩ = some (.int .i64 xs[k]) := (HB.out.cell (p := ⟨g, o + k, none⟩) hg).trans ((hc k (by omega)).trans (by simp [hlt]))
      clear hc
      have hql := qS_len xs k (by omega)
      have HP := Kp.mk (qS_put xs k hlt)
      have hroom : (qS xs k).length < 300 := by omega
      clear hql
      by_cases hn : k % 3 = 2
      · have n1 : (k % 3 == 2) = true := by simpa using hn
        have n2 : ((k : Int) % 3 == 2) = true := by rw [beq_iff_eq]; omega
        have n3 : (((k % 3 : Nat) : Int) == 2) = true := by rw [beq_iff_eq]; omega
        have n4 : ((k : Int).tmod 3 == 2) = true := by rw [Int.tmod_eq_emod_of_nonneg (by omega)]; exact n2
        have HN := Kp.mk hn
        clear hn
        go_wp2_with fail
        refine (fifoPut_room B D 300 (qS xs k) xs[k] _ HQ.out hroom).mono ?_
        rintro e w4 ⟨rfl, hb4, hq4⟩
        rw [HP.out] at hq4
        obtain ⟨x, ht⟩ := qS_take xs k hlt
        rw [ht] at hq4
        have HB4 := Kp.mk (hb4.below HB.out (by intro b hb; simp at hb; omega) HB.out.size)
        have HT := Kp.mk ht
        clear hb4 ht
        go_wp2_with fail
        refine (fifoTake_some B D 300 x _ _ hq4.out).mono ?_
        rintro e w5 ⟨rfl, hb5, hq5⟩
        have HB5 := Kp.mk (hb5.below HB4.out (by intro b hb; simp at hb; omega) HB4.out.size)
        clear hb5
        go_wp2
        go_roundw
        case rel => exact ⟨k + 1, by omega, by go_num, HB5, ⟨by
          have hd : (k + 1) / 3 = k / 3 + 1 := by have := HN.out; omega
          rw [qS, hd]; exact hq5.out⟩⟩
        case measure => simp [intOf]; omega
      · have n1 : (k % 3 == 2) = false := by simpa using hn
        have n2 : ((k : Int) % 3 == 2) = false := by rw [beq_eq_false_iff_ne]; omega
        have n3 : (((k % 3 : Nat) : Int) == 2) = false := by rw [beq_eq_false_iff_ne]; omega
        have n4 : ((k : Int).tmod 3 == 2) = false := by rw [Int.tmod_eq_emod_of_nonneg (by omega)]; exact n2
        have HN := Kp.mk hn
        clear hn
        go_wp2_with fail
        refine (fifoPut_room B D 300 (qS xs k) xs[k] _ HQ.out hroom).mono ?_
        rintro e w4 ⟨rfl, hb4, hq4⟩
        rw [HP.out] at hq4
        have HB4 := Kp.mk (hb4.below HB.out (by intro b hb; simp at hb; omega) HB.out.size)
        clear hb4
        go_wp2
        go_roundw
        case rel => exact ⟨k + 1, by omega, by go_num, HB4, ⟨by
          have hd : (k + 1) / 3 = k / 3 := by have := HN.out; omega
          rw [qS, hd]; exact hq4.out⟩⟩
        case measure => simp [intOf]; omega
    · obtain rfl : k = xs.length := by omega
      obtain ⟨m, hm⟩ : ∃ m, xs.length / 3 = m := ⟨_, rfl⟩
      have hqs : qS xs xs.length = xs.drop m := by rw [qS, List.take_length, hm]
      have hq1 := HQ.out
      rw [hqs] at hq1
      have HQ1 := Kp.mk hq1
      have hmn : m ≤ xs.length := by omega
      obtain ⟨i0, hi, hz0, hz1, hz2⟩ := info_parts Try.infoInt
      have hsl := fun w => run_slice_low 22 3 Try.underlying22 hi a xs.length ca m hmn w
      have hrow := H1.out.drop (by omega) hmn
      rw [hz1] at hsl
      rw [Nat.mul_one] at hsl hrow
      rw [List.map_drop.symm] at hrow
      obtain ⟨al, hal⟩ : ∃ al, (if ca = m then a else a.map (·.add m)) = al := ⟨_, rfl⟩
      rw [hal] at hsl hrow
      obtain ⟨cl, hcl⟩ : ∃ cl, ca - m = cl := ⟨_, rfl⟩
      rw [hcl] at hsl hrow
      obtain ⟨nl, hnl⟩ : ∃ nl, xs.length - m = nl := ⟨_, rfl⟩
      rw [hnl] at hsl hrow
      have hd1 : (xs.length : Int) / 3 = (m : Int) := by omega
      have hd2 : ((xs.length : Int)).tdiv 3 = (m : Int) := by rw [Int.tdiv_eq_ediv_of_nonneg (by omega)]; exact hd1
      have hd3 : IntKind.i64.wrap (((xs.length : Int)).tdiv 3) = (m : Int) := by rw [hd2]; exact IntWalk.i64_in _ (by omega)
      have hncl : nl ≤ cl := by omega
      have HX : Kp ((xs.drop m).length = nl) := ⟨by rw [List.length_drop]; exact hnl⟩
      have HROW := Kp.mk hrow
      have HS := Kp.mk (And.intro hm (And.intro hnl hcl))
      have hnl3 : nl ≤ 300 := by omega
      clear hm hal hcl hnl hrow hqs hq1 HQ
      have key : ∀ kk : Nat, kk ≤ nl → Kp (((xs.drop m).take (kk : Int).toNat).length = kk ∧ RowAt w 1 (.slice al kk cl) ((xs.drop m).take (kk : Int).toNat).length (((xs.drop m).take (kk : Int).toNat).map (Value.int .i64))) := fun kk hkk => ⟨by
        have hl : ((xs.drop m).take (kk : Int).toNat).length = kk := by rw [List.length_take, HX.out]; simp; omega
        refine ⟨hl, ?_⟩
        rw [hl]
        have h := HROW.out.take hkk
        rw [Nat.mul_one, ← List.map_take] at h
        simpa using h⟩
      have hfin : ∀ kk : Nat, kk ≤ nl → ∃ zs : List Int, Kp (zs = (xs.drop m).take (kk : Int).toNat) ∧ zs.length = kk ∧ Kp (RowAt w 1 (.slice al kk cl) zs.length (zs.map (Value.int .i64))) := fun kk hkk => ⟨_, ⟨rfl⟩, (key kk hkk).out.1, ⟨(key kk hkk).out.2⟩⟩
      clear key HROW
      by_cases hs : st ≤ nl
      · have hlo := fun w => run_slice_to 22 3 Try.underlying22 hi al nl cl st (by omega) w
        obtain ⟨zs, HZ, hzl, HROW⟩ := hfin st hs
        have HZL := Kp.mk hzl
        clear hfin hzl
        go_wp2_with fail
        go_region_with (first
          | (go_at_call 19; refine (told3_any (st : Int) B D 300 (xs.drop m) _ (HQ1.out.below (below_dr (Below.refl _ _)))).mono ?_; rintro e w6 ⟨vt, rfl, hown, hb6⟩; rw [← HZ.out] at hown; have OW := Kp.mk hown; have B6 := Kp.mk (below_call (below_dr HB.out) hb6); have HQ6 := Kp.mk ((HQ1.out.below (below_dr (Below.refl _ _))).below hb6); clear hown hb6)
          | (go_at_call 12; refine (rsame_any _ _ zs zs true (by simp) _ (RowAt.of_own OW.out) (HROW.out.below B6.out)).mono ?_; rintro e w7 ⟨rfl, hb7⟩; have B7 := Kp.mk (below_call B6.out hb7); have HQ7 := Kp.mk (HQ6.out.below hb7); clear hb7)
          | (go_at_call 18; refine (fifoLen_any B D 300 (xs.drop m) _ HQ7.out).mono ?_; rw [HX.out]; rintro e w8 ⟨rfl, rfl⟩))
        all_goals
          go_wp2
          go_ret
          exact ⟨rfl, B7.out⟩
      · have hlo := fun w => run_slice_to 22 3 Try.underlying22 hi al nl cl nl (by omega) w
        obtain ⟨zs, HZ, hzl, HROW⟩ := hfin nl (Nat.le_refl _)
        have HZL := Kp.mk hzl
        clear hfin hzl
        go_wp2_with fail
        go_region_with (first
          | (go_at_call 19; refine (told3_any (nl : Int) B D 300 (xs.drop m) _ (HQ1.out.below (below_dr (Below.refl _ _)))).mono ?_; rintro e w6 ⟨vt, rfl, hown, hb6⟩; rw [← HZ.out] at hown; have OW := Kp.mk hown; have B6 := Kp.mk (below_call (below_dr HB.out) hb6); have HQ6 := Kp.mk ((HQ1.out.below (below_dr (Below.refl _ _))).below hb6); clear hown hb6)
          | (go_at_call 12; refine (rsame_any _ _ zs zs true (by simp) _ (RowAt.of_own OW.out) (HROW.out.below B6.out)).mono ?_; rintro e w7 ⟨rfl, hb7⟩; have B7 := Kp.mk (below_call B6.out hb7); have HQ7 := Kp.mk (HQ6.out.below hb7); clear hb7)
          | (go_at_call 18; refine (fifoLen_any B D 300 (xs.drop m) _ HQ7.out).mono ?_; rw [HX.out]; rintro e w8 ⟨rfl, rfl⟩))
        all_goals
          go_wp2
          go_ret
          exact ⟨rfl, B7.out⟩

set_option maxHeartbeats 1000000 in
theorem fifoStops_long (m : Int) (a : Option Addr) (n ca : Nat) (hx : 300 < n) (w : World) :
    Calls Try.prog 5 #[.slice a n ca, .int .u8 m] w fun e w' => e = .returned (.bool true) ∧ Below w.heap.size w w' := by
  go_enter Try.func5, Try.ntmps5
  go_wp2_with fail
  refine (wakes3_any _).mono ?_
  rintro e w1 ⟨rfl, hb1⟩
  go_wp2
  go_ret
  exact ⟨rfl, hb1⟩

theorem fifoStops_any (v0 v1 : Value) (w : World) (h0 : RdV w (.slice 1 (.int .i64)) v0) (h1 : RdV w (.int .u8) v1) : Calls Try.prog 5 #[v0, v1] w fun e w' => e = .returned (.bool true) ∧ Below w.heap.size w w' := by
  obtain ⟨m, rfl, wm⟩ := h1
  obtain ⟨xs, hr, hw⟩ := intsAt_of h0
  obtain ⟨st, rfl⟩ := Int.eq_ofNat_of_zero_le (bounds_u8 wm).1
  by_cases hl : xs.length ≤ 300
  · exact fifoStops_core st (by have := (bounds_u8 wm).2; omega) v0 xs hl w hr
  · obtain ⟨a, ca, rfl, _, _⟩ := hr.shape
    exact fifoStops_long _ a xs.length ca (by omega) w
end Go.Proofs.Ytimikgencnkcnab

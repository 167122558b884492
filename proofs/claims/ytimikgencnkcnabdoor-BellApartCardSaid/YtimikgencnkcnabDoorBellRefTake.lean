/- The contract of the reference's Take. -/
import Derived.Test.YtimikgencnkcnabDoorBellWithout
namespace Go.Proofs.YtimikgencnkcnabDoor
open Go.RowKit
set_option linter.unusedSimpArgs false
set_option linter.unusedVariables false

set_option maxRecDepth 100000 in
set_option maxHeartbeats 4000000 in
theorem refTake_any (v v2 : Value) (x : List Bool) (ls : List Int) (hx : x.length ≤ 64) (hl : ls.length ≤ 5000) (w : World) (h : RowAt w 1 v x.length (bs x)) (h2 : RowAt w 1 v2 ls.length (i64s ls)) :
    Calls Tryd.prog 11 #[v, v2] w fun e w' => ∃ a c, e = .returned (.slice a (takeR x ls).length c) ∧ Kp (w'.ownsRow w.heap.size 3 1 (.slice a (takeR x ls).length c) (takeR x ls).length (i64s (takeR x ls))) ∧ Below w.heap.size w w' := by
  obtain ⟨a, ca, rfl, h3, h4⟩ := h.shape
  obtain ⟨a2, ca2, rfl, h5, h6⟩ := h2.shape
  obtain ⟨i0, hi, hz0, hz1, hz2⟩ := info_parts Tryd.infoInt
  have H1 := Kp.mk h
  have H2 := Kp.mk h2
  clear h h2
  unfold maxLen at h4 h6
  go_enter Tryd.func11, Tryd.ntmps11
  go_wp2_with fail
  go_loopw [5, 6] (fun vo i wr => ∃ (k : Nat) (q : List Int), k ≤ ls.length ∧ i = .int .i64 k ∧ Kp (Below w.heap.size w wr) ∧ Kp (wr.ownsRow w.heap.size 3 1 vo q.length (i64s q)) ∧ Kp (takeR x (ls.take k) = q) ∧ Kp (q.length ≤ k)) (fun vo i wr => ls.length - (intOf i).toNat)
  case atStart => exact ⟨0, [], Nat.zero_le _, rfl, ⟨Below.refl _ _⟩, ⟨World.ownsRow_nil _ _ _ _⟩, ⟨rfl⟩, ⟨Nat.le_refl _⟩⟩
  case round =>
    obtain ⟨k, q, hk, rfl, HB, HO, HT, HL⟩ := hrel
    have hql := HL.out
    obtain ⟨av, cv, rfl, hv1, hv2⟩ := (RowAt.of_own HO.out).shape
    obtain ⟨wo, rfl⟩ : ∃ wo : World, wo = wr := ⟨_, rfl⟩
    have hwr := HB.out.size
    by_cases hlt : k < ls.length
    · obtain ⟨g, o, rfl, hg, hc⟩ := H2.out.at (by omega)
      have HT1 : Kp (takeR x (ls.take (k + 1)) = stepR x q ls[k]) := ⟨by rw [takeR_succ x ls k hlt, HT.out]⟩
      have c0 : wo.cell? ⟨g, o + k, none⟩ = some (.int .i64 ls[k]) := (HB.out.cell (p := ⟨g, o + k, none⟩) hg).trans ((hc k (by omega)).trans (i64s_at ls k hlt))
      obtain ⟨y, hy⟩ : ∃ y, ls[k] = y := ⟨_, rfl⟩
      rw [hy] at c0 HT1
      clear hc hy HT
      by_cases hy0 : y < 0
      · obtain ⟨hb, HHB⟩ : ∃ hb, Kp (hasB x y = hb) := ⟨_, ⟨rfl⟩⟩
        obtain rfl : hb = false := by rw [← HHB.out, hasB, decide_eq_false (by omega)]; rfl
        go_wp2_with fail
        go_loopw [8, 9] (fun vb i wr => ∃ (m : Nat) (p : Bool), m ≤ q.length ∧ i = .int .i64 m ∧ vb = .bool p ∧ wr = wo ∧ Kp ((false && outB (q.take m) y) = p)) (fun vb i wr => q.length - (intOf i).toNat)
        case atStart => exact ⟨0, false, Nat.zero_le _, rfl, by first | rfl | trivial, rfl, ⟨rfl⟩⟩
        case round =>
          obtain ⟨m, p, hm, rfl, rfl, rfl, HP⟩ := hrel
          by_cases hlt2 : m < q.length
          · obtain ⟨g2, o2, rfl, hg2, hc2⟩ := (RowAt.of_own HO.out).at (by omega)
            have HS : Kp ((false && outB (q.take (m + 1)) y) = (p && (q[m] != y))) := ⟨by rw [outB_succ q y m hlt2, ← HP.out, Bool.and_assoc]⟩
            have c1 : wr.cell? ⟨g2, o2 + m, none⟩ = some (.int .i64 q[m]) := (hc2 m (by omega)).trans (i64s_at q m hlt2)
            clear hc2
            obtain ⟨u, hu⟩ : ∃ u, q[m] = u := ⟨_, rfl⟩
            rw [hu] at c1 HS
            clear hu
            cases p with
            | false =>
              go_wp2
              go_roundw
              case rel => exact ⟨m + 1, false, by omega, by go_num, by first | rfl | trivial, by first | rfl | trivial, HS⟩
              case measure => simp [intOf]; omega
            | true =>
              obtain ⟨d, hd⟩ : ∃ d, (u != y) = d := ⟨_, rfl⟩
              rw [hd] at HS
              cases d
              · go_wp2
                go_roundw
                case rel => exact ⟨m + 1, false, by omega, by go_num, by first | rfl | trivial, by first | rfl | trivial, HS⟩
                case measure => simp [intOf]; omega
              · go_wp2
                go_roundw
                case rel => exact ⟨m + 1, true, by omega, by go_num, by first | rfl | trivial, by first | rfl | trivial, HS⟩
                case measure => simp [intOf]; omega
          · obtain rfl : m = q.length := by omega
            have h := HP.out
            rw [List.take_length, ← HHB.out] at h
            cases p with
            | false =>
              have HN : Kp (takeR x (ls.take (k + 1)) = q) := ⟨by rw [HT1.out, stepR, h, if_neg (by simp)]⟩
              clear h
              go_wp2
              go_roundw
              case rel => exact ⟨k + 1, q, by omega, by go_num, HB, HO, HN, ⟨by omega⟩⟩
              case measure => simp [intOf]; omega
            | true =>
              have HN : Kp (takeR x (ls.take (k + 1)) = q ++ [y]) := ⟨by rw [HT1.out, stepR, h, if_pos rfl]⟩
              clear h
              go_wp2_with (at_builtin; refine wpList_append_own _ rfl _ _ 29 rfl w.heap.size 3 i0 (.int .i64 0) 1 8 Tryd.underlying29 hi hz0 hz1 hz2 rfl (by decide) _ _ _ rfl (HO.out.alloc _) ⟨wr.heap.size, 0, none⟩ 1 1 [.int .i64 y] rfl rfl (cell_one_new _ _ _) (by simp [Value.oneCell']) (by unfold maxLen; omega) (by omega) (by simp; omega) ?_; intro v' w9 hown' hgrow _)
              go_roundw
              case rel => exact ⟨k + 1, q ++ [y], by omega, by go_num, ⟨below_own (below_al HB.out _) (Nat.le_refl _) (HO.out.alloc _) hgrow⟩, ⟨by
                rw [List.length_append, i64s, List.map_append]
                exact hown'⟩, HN, ⟨by simp; omega⟩⟩
              case measure => simp [intOf]; omega
      · obtain ⟨j, rfl⟩ := Int.eq_ofNat_of_zero_le (Int.not_lt.1 hy0)
        by_cases hj : j < x.length
        · obtain ⟨g1, o1, rfl, hg1, hc1⟩ := H1.out.at (by omega)
          obtain ⟨b, hb⟩ : ∃ b, x[j] = b := ⟨_, rfl⟩
          have c3 : wo.cell? ⟨g1, o1 + j, none⟩ = some (.bool b) := (HB.out.cell (p := ⟨g1, o1 + j, none⟩) hg1).trans ((hc1 j (by omega)).trans (by rw [bs_at x j hj, hb]))
          have HHB : Kp (hasB x j = b) := ⟨by rw [hasB_nat, ← hb]; simp [List.getD_eq_getElem?_getD, hj]⟩
          clear hc1 hb
          cases b with
          | true =>
            go_wp2_with fail
            go_loopw [8, 9] (fun vb i wr => ∃ (m : Nat) (p : Bool), m ≤ q.length ∧ i = .int .i64 m ∧ vb = .bool p ∧ wr = wo ∧ Kp ((true && outB (q.take m) (j : Int)) = p)) (fun vb i wr => q.length - (intOf i).toNat)
            case atStart => exact ⟨0, true, Nat.zero_le _, rfl, by first | rfl | trivial, rfl, ⟨rfl⟩⟩
            case round =>
              obtain ⟨m, p, hm, rfl, rfl, rfl, HP⟩ := hrel
              by_cases hlt2 : m < q.length
              · obtain ⟨g2, o2, rfl, hg2, hc2⟩ := (RowAt.of_own HO.out).at (by omega)
                have HS : Kp ((true && outB (q.take (m + 1)) (j : Int)) = (p && (q[m] != (j : Int)))) := ⟨by rw [outB_succ q (j : Int) m hlt2, ← HP.out, Bool.and_assoc]⟩
                have c1 : wr.cell? ⟨g2, o2 + m, none⟩ = some (.int .i64 q[m]) := (hc2 m (by omega)).trans (i64s_at q m hlt2)
                clear hc2
                obtain ⟨u, hu⟩ : ∃ u, q[m] = u := ⟨_, rfl⟩
                rw [hu] at c1 HS
                clear hu
                cases p with
                | false =>
                  go_wp2
                  go_roundw
                  case rel => exact ⟨m + 1, false, by omega, by go_num, by first | rfl | trivial, by first | rfl | trivial, HS⟩
                  case measure => simp [intOf]; omega
                | true =>
                  obtain ⟨d, hd⟩ : ∃ d, (u != (j : Int)) = d := ⟨_, rfl⟩
                  rw [hd] at HS
                  cases d
                  · go_wp2
                    go_roundw
                    case rel => exact ⟨m + 1, false, by omega, by go_num, by first | rfl | trivial, by first | rfl | trivial, HS⟩
                    case measure => simp [intOf]; omega
                  · go_wp2
                    go_roundw
                    case rel => exact ⟨m + 1, true, by omega, by go_num, by first | rfl | trivial, by first | rfl | trivial, HS⟩
                    case measure => simp [intOf]; omega
              · obtain rfl : m = q.length := by omega
                have h := HP.out
                rw [List.take_length, ← HHB.out] at h
                cases p with
                | false =>
                  have HN : Kp (takeR x (ls.take (k + 1)) = q) := ⟨by rw [HT1.out, stepR, h, if_neg (by simp)]⟩
                  clear h
                  go_wp2
                  go_roundw
                  case rel => exact ⟨k + 1, q, by omega, by go_num, HB, HO, HN, ⟨by omega⟩⟩
                  case measure => simp [intOf]; omega
                | true =>
                  have HN : Kp (takeR x (ls.take (k + 1)) = q ++ [(j : Int)]) := ⟨by rw [HT1.out, stepR, h, if_pos rfl]⟩
                  clear h
                  go_wp2_with (at_builtin; refine wpList_append_own _ rfl _ _ 29 rfl w.heap.size 3 i0 (.int .i64 0) 1 8 Tryd.underlying29 hi hz0 hz1 hz2 rfl (by decide) _ _ _ rfl (HO.out.alloc _) ⟨wr.heap.size, 0, none⟩ 1 1 [.int .i64 (j : Int)] rfl rfl (cell_one_new _ _ _) (by simp [Value.oneCell']) (by unfold maxLen; omega) (by omega) (by simp; omega) ?_; intro v' w9 hown' hgrow _)
                  go_roundw
                  case rel => exact ⟨k + 1, q ++ [(j : Int)], by omega, by go_num, ⟨below_own (below_al HB.out _) (Nat.le_refl _) (HO.out.alloc _) hgrow⟩, ⟨by
                    rw [List.length_append, i64s, List.map_append]
                    exact hown'⟩, HN, ⟨by simp; omega⟩⟩
                  case measure => simp [intOf]; omega
          | false =>
            go_wp2_with fail
            go_loopw [8, 9] (fun vb i wr => ∃ (m : Nat) (p : Bool), m ≤ q.length ∧ i = .int .i64 m ∧ vb = .bool p ∧ wr = wo ∧ Kp ((false && outB (q.take m) (j : Int)) = p)) (fun vb i wr => q.length - (intOf i).toNat)
            case atStart => exact ⟨0, false, Nat.zero_le _, rfl, by first | rfl | trivial, rfl, ⟨rfl⟩⟩
            case round =>
              obtain ⟨m, p, hm, rfl, rfl, rfl, HP⟩ := hrel
              by_cases hlt2 : m < q.length
              · obtain ⟨g2, o2, rfl, hg2, hc2⟩ := (RowAt.of_own HO.out).at (by omega)
                have HS : Kp ((false && outB (q.take (m + 1)) (j : Int)) = (p && (q[m] != (j : Int)))) := ⟨by rw [outB_succ q (j : Int) m hlt2, ← HP.out, Bool.and_assoc]⟩
                have c1 : wr.cell? ⟨g2, o2 + m, none⟩ = some (.int .i64 q[m]) := (hc2 m (by omega)).trans (i64s_at q m hlt2)
                clear hc2
                obtain ⟨u, hu⟩ : ∃ u, q[m] = u := ⟨_, rfl⟩
                rw [hu] at c1 HS
                clear hu
                cases p with
                | false =>
                  go_wp2
                  go_roundw
                  case rel => exact ⟨m + 1, false, by omega, by go_num, by first | rfl | trivial, by first | rfl | trivial, HS⟩
                  case measure => simp [intOf]; omega
                | true =>
                  obtain ⟨d, hd⟩ : ∃ d, (u != (j : Int)) = d := ⟨_, rfl⟩
                  rw [hd] at HS
                  cases d
                  · go_wp2
                    go_roundw
                    case rel => exact ⟨m + 1, false, by omega, by go_num, by first | rfl | trivial, by first | rfl | trivial, HS⟩
                    case measure => simp [intOf]; omega
                  · go_wp2
                    go_roundw
                    case rel => exact ⟨m + 1, true, by omega, by go_num, by first | rfl | trivial, by first | rfl | trivial, HS⟩
                    case measure => simp [intOf]; omega
              · obtain rfl : m = q.length := by omega
                have h := HP.out
                rw [List.take_length, ← HHB.out] at h
                cases p with
                | false =>
                  have HN : Kp (takeR x (ls.take (k + 1)) = q) := ⟨by rw [HT1.out, stepR, h, if_neg (by simp)]⟩
                  clear h
                  go_wp2
                  go_roundw
                  case rel => exact ⟨k + 1, q, by omega, by go_num, HB, HO, HN, ⟨by omega⟩⟩
                  case measure => simp [intOf]; omega
                | true =>
                  have HN : Kp (takeR x (ls.take (k + 1)) = q ++ [(j : Int)]) := ⟨by rw [HT1.out, stepR, h, if_pos rfl]⟩
                  clear h
                  go_wp2_with (at_builtin; refine wpList_append_own _ rfl _ _ 29 rfl w.heap.size 3 i0 (.int .i64 0) 1 8 Tryd.underlying29 hi hz0 hz1 hz2 rfl (by decide) _ _ _ rfl (HO.out.alloc _) ⟨wr.heap.size, 0, none⟩ 1 1 [.int .i64 (j : Int)] rfl rfl (cell_one_new _ _ _) (by simp [Value.oneCell']) (by unfold maxLen; omega) (by omega) (by simp; omega) ?_; intro v' w9 hown' hgrow _)
                  go_roundw
                  case rel => exact ⟨k + 1, q ++ [(j : Int)], by omega, by go_num, ⟨below_own (below_al HB.out _) (Nat.le_refl _) (HO.out.alloc _) hgrow⟩, ⟨by
                    rw [List.length_append, i64s, List.map_append]
                    exact hown'⟩, HN, ⟨by simp; omega⟩⟩
                  case measure => simp [intOf]; omega
        · have hj2 : (x.length : Int) ≤ (j : Int) := by omega
          have HHB : Kp (hasB x j = false) := ⟨by rw [hasB, decide_eq_false (by omega)]; rfl⟩
          go_wp2_with fail
          go_loopw [8, 9] (fun vb i wr => ∃ (m : Nat) (p : Bool), m ≤ q.length ∧ i = .int .i64 m ∧ vb = .bool p ∧ wr = wo ∧ Kp ((false && outB (q.take m) (j : Int)) = p)) (fun vb i wr => q.length - (intOf i).toNat)
          case atStart => exact ⟨0, false, Nat.zero_le _, rfl, by first | rfl | trivial, rfl, ⟨rfl⟩⟩
          case round =>
            obtain ⟨m, p, hm, rfl, rfl, rfl, HP⟩ := hrel
            by_cases hlt2 : m < q.length
            · obtain ⟨g2, o2, rfl, hg2, hc2⟩ := (RowAt.of_own HO.out).at (by omega)
              have HS : Kp ((false && outB (q.take (m + 1)) (j : Int)) = (p && (q[m] != (j : Int)))) := ⟨by rw [outB_succ q (j : Int) m hlt2, ← HP.out, Bool.and_assoc]⟩
              have c1 : wr.cell? ⟨g2, o2 + m, none⟩ = some (.int .i64 q[m]) := (hc2 m (by omega)).trans (i64s_at q m hlt2)
              clear hc2
              obtain ⟨u, hu⟩ : ∃ u, q[m] = u := ⟨_, rfl⟩
              rw [hu] at c1 HS
              clear hu
              cases p with
              | false =>
                go_wp2
                go_roundw
                case rel => exact ⟨m + 1, false, by omega, by go_num, by first | rfl | trivial, by first | rfl | trivial, HS⟩
                case measure => simp [intOf]; omega
              | true =>
                obtain ⟨d, hd⟩ : ∃ d, (u != (j : Int)) = d := ⟨_, rfl⟩
                rw [hd] at HS
                cases d
                · go_wp2
                  go_roundw
                  case rel => exact ⟨m + 1, false, by omega, by go_num, by first | rfl | trivial, by first | rfl | trivial, HS⟩
                  case measure => simp [intOf]; omega
                · go_wp2
                  go_roundw
                  case rel => exact ⟨m + 1, true, by omega, by go_num, by first | rfl | trivial, by first | rfl | trivial, HS⟩
                  case measure => simp [intOf]; omega
            · obtain rfl : m = q.length := by omega
              have h := HP.out
              rw [List.take_length, ← HHB.out] at h
              cases p with
              | false =>
                have HN : Kp (takeR x (ls.take (k + 1)) = q) := ⟨by rw [HT1.out, stepR, h, if_neg (by simp)]⟩
                clear h
                go_wp2
                go_roundw
                case rel => exact ⟨k + 1, q, by omega, by go_num, HB, HO, HN, ⟨by omega⟩⟩
                case measure => simp [intOf]; omega
              | true =>
                have HN : Kp (takeR x (ls.take (k + 1)) = q ++ [(j : Int)]) := ⟨by rw [HT1.out, stepR, h, if_pos rfl]⟩
                clear h
                go_wp2_with (at_builtin; refine wpList_append_own _ rfl _ _ 29 rfl w.heap.size 3 i0 (.int .i64 0) 1 8 Tryd.underlying29 hi hz0 hz1 hz2 rfl (by decide) _ _ _ rfl (HO.out.alloc _) ⟨wr.heap.size, 0, none⟩ 1 1 [.int .i64 (j : Int)] rfl rfl (cell_one_new _ _ _) (by simp [Value.oneCell']) (by unfold maxLen; omega) (by omega) (by simp; omega) ?_; intro v' w9 hown' hgrow _)
                go_roundw
                case rel => exact ⟨k + 1, q ++ [(j : Int)], by omega, by go_num, ⟨below_own (below_al HB.out _) (Nat.le_refl _) (HO.out.alloc _) hgrow⟩, ⟨by
                  rw [List.length_append, i64s, List.map_append]
                  exact hown'⟩, HN, ⟨by simp; omega⟩⟩
                case measure => simp [intOf]; omega
    · obtain rfl : k = ls.length := by omega
      have ht := HT.out
      rw [List.take_length] at ht
      have HT3 := Kp.mk ht
      clear ht HT
      go_wp2
      go_ret
      rw [HT3.out]
      exact ⟨_, _, rfl, HO, HB.out⟩
end Go.Proofs.YtimikgencnkcnabDoor

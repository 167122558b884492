/- Contracts of the reference of bells: Ring, Without, All, Take. -/
import Derived.Test.YtimikgencnkcnabDoorTold4
namespace Go.Proofs.YtimikgencnkcnabDoor
open Go.RowKit
set_option linter.unusedSimpArgs false
set_option linter.unusedVariables false

def bs (x : List Bool) : List Value := x.map Value.bool
theorem bs_at (x : List Bool) (k : Nat) (h : k < x.length) : (bs x)[k]? = some (.bool x[k]) := by simp [bs, h]
theorem Tryd.infoBool : (Tryd.prog.info? 4).map (fun i => (i.zero, i.size, i.bytes)) = some (some (.bool false), 1, 1) := by kernel_rfl
theorem ringB_at (x : List Bool) (i : Int) (k : Nat) (h : k < x.length) : (ringB x i)[k]? = some (x[k] || decide ((k : Int) = i)) := by
  simp [ringB, h]

set_option maxRecDepth 100000 in
set_option maxHeartbeats 2000000 in
theorem refRing_any (v : Value) (x : List Bool) (hx : x.length ≤ 64) (i : Int) (w : World) (h : RowAt w 1 v x.length (bs x)) :
    Calls Tryd.prog 10 #[v, .int .i64 i] w fun e w' => ∃ v', e = .returned v' ∧ Kp (w'.ownsRow w.heap.size 4 1 v' (ringB x i).length (bs (ringB x i))) ∧ Below w.heap.size w w' := by
  obtain ⟨a, ca, rfl, h3, h4⟩ := h.shape
  obtain ⟨i0, hi, hz0, hz1, hz2⟩ := info_parts Tryd.infoBool
  have H1 := Kp.mk h
  have hzl := ringB_len x i
  have hza := ringB_at x i
  generalize ringB x i = z at hzl hza ⊢
  have HZL := Kp.mk hzl
  have HZ : Kp (∀ (k : Nat) (h : k < x.length), z[k]? = some (x[k] || decide ((k : Int) = i))) := ⟨hza⟩
  clear h hza
  unfold maxLen at h4
  go_enter Tryd.func10, Tryd.ntmps10
  go_wp2_with fail
  go_loopw [5, 6] (fun vo i wr => ∃ k : Nat, k ≤ x.length ∧ i = .int .i64 k ∧ Kp (Below w.heap.size w wr) ∧ Kp (wr.ownsRow w.heap.size 4 1 vo k (bs (z.take k)))) (fun vo i wr => x.length - (intOf i).toNat)
  case atStart => exact ⟨0, Nat.zero_le _, rfl, ⟨Below.refl _ _⟩, ⟨by simpa [bs] using World.ownsRow_nil _ _ _ _⟩⟩
  case round =>
    obtain ⟨k, hk, rfl, HB, HO⟩ := hrel
    obtain ⟨av, cv, rfl, hv1, hv2⟩ := (RowAt.of_own HO.out).shape
    by_cases hlt : k < x.length
    · obtain ⟨g, o, rfl, hg, hc⟩ := H1.out.at (by omega)
      have c0 : wr.cell? ⟨g, o + k, none⟩ = some (.bool x[k]) := (HB.out.cell (p := ⟨g, o + k, none⟩) hg).trans ((hc k (by omega)).trans (bs_at x k hlt))
      clear hc
      have hwr := HB.out.size
      have key : ∃ b : Bool, Kp ((x[k] || decide ((k : Int) = i)) = b) ∧ Kp (bs (z.take k) ++ [.bool b] = bs (z.take (k + 1))) := ⟨_, ⟨rfl⟩, ⟨by
        rw [List.take_add_one, bs, bs, List.map_append, HZ.out k hlt]
        rfl⟩⟩
      obtain ⟨b, HX, HN⟩ := key
      clear hzl
      by_cases hxk : x[k] = true
      · obtain rfl : b = true := by rw [← HX.out, hxk]; rfl
        rw [hxk] at c0
        clear hxk
        go_wp2_with (at_builtin; refine wpList_append_own _ rfl _ _ 28 rfl w.heap.size 4 i0 (.bool false) 1 1 Tryd.underlying28 hi hz0 hz1 hz2 rfl (by decide) _ _ _ rfl (HO.out.alloc _) ⟨wr.heap.size, 0, none⟩ 1 1 [.bool true] rfl rfl (cell_one_new _ _ _) (by simp [Value.oneCell']) (by unfold maxLen; omega) (by omega) (by simp; omega) ?_; intro v' w9 hown' hgrow _)
        go_roundw
        case rel => exact ⟨k + 1, by omega, by go_num, ⟨below_own (below_al HB.out _) (Nat.le_refl _) (HO.out.alloc _) hgrow⟩, ⟨by rw [← HN.out]; exact hown'⟩⟩
        case measure => simp [intOf]; omega
      · rw [Bool.not_eq_true] at hxk
        rw [hxk] at c0
        by_cases hki : (k : Int) = i
        · obtain rfl : b = true := by rw [← HX.out, hxk, decide_eq_true hki]; rfl
          have hk1 : ((k : Int) == i) = true := by simpa using hki
          clear hxk hki
          go_wp2_with (at_builtin; refine wpList_append_own _ rfl _ _ 28 rfl w.heap.size 4 i0 (.bool false) 1 1 Tryd.underlying28 hi hz0 hz1 hz2 rfl (by decide) _ _ _ rfl (HO.out.alloc _) ⟨wr.heap.size, 0, none⟩ 1 1 [.bool true] rfl rfl (cell_one_new _ _ _) (by simp [Value.oneCell']) (by unfold maxLen; omega) (by omega) (by simp; omega) ?_; intro v' w9 hown' hgrow _)
          go_roundw
          case rel => exact ⟨k + 1, by omega, by go_num, ⟨below_own (below_al HB.out _) (Nat.le_refl _) (HO.out.alloc _) hgrow⟩, ⟨by rw [← HN.out]; exact hown'⟩⟩
          case measure => simp [intOf]; omega
        · obtain rfl : b = false := by rw [← HX.out, hxk, decide_eq_false hki]; rfl
          have hk1 : ((k : Int) == i) = false := by simpa using hki
          clear hxk hki
          go_wp2_with (at_builtin; refine wpList_append_own _ rfl _ _ 28 rfl w.heap.size 4 i0 (.bool false) 1 1 Tryd.underlying28 hi hz0 hz1 hz2 rfl (by decide) _ _ _ rfl (HO.out.alloc _) ⟨wr.heap.size, 0, none⟩ 1 1 [.bool false] rfl rfl (cell_one_new _ _ _) (by simp [Value.oneCell']) (by unfold maxLen; omega) (by omega) (by simp; omega) ?_; intro v' w9 hown' hgrow _)
          go_roundw
          case rel => exact ⟨k + 1, by omega, by go_num, ⟨below_own (below_al HB.out _) (Nat.le_refl _) (HO.out.alloc _) hgrow⟩, ⟨by rw [← HN.out]; exact hown'⟩⟩
          case measure => simp [intOf]; omega
    · obtain rfl : k = x.length := by omega
      have HZZ := Kp.mk hzl
      clear hzl
      go_wp2
      go_ret
      refine ⟨_, rfl, ⟨?_⟩, HB.out⟩
      have h := HO.out
      rw [← HZZ.out, List.take_length] at h
      rw [HZZ.out] at h ⊢
      exact h

/-- The bells below k that are pending. -/
def allK (x : List Bool) (k : Nat) : List Int := ((List.range k).filter fun i => x.getD i false).map Int.ofNat
theorem allK_succ (x : List Bool) (k : Nat) : allK x (k + 1) = if x.getD k false = true then allK x k ++ [(k : Int)] else allK x k := by
  rw [allK, List.range_succ, List.filter_append, List.map_append]
  by_cases h : x.getD k false = true
  · rw [if_pos h, List.filter_cons_of_pos (by simpa using h)]; rfl
  · rw [if_neg h, List.filter_cons_of_neg (by simpa using h)]; simp [allK]
theorem allK_le (x : List Bool) (k : Nat) : (allK x k).length ≤ k := by
  rw [allK, List.length_map]
  exact Nat.le_trans (List.length_filter_le _ _) (by simp)

set_option maxRecDepth 100000 in
set_option maxHeartbeats 2000000 in
theorem refAll_any (v : Value) (x : List Bool) (hx : x.length ≤ 64) (w : World) (h : RowAt w 1 v x.length (bs x)) :
    Calls Tryd.prog 16 #[v] w fun e w' => ∃ a c, e = .returned (.slice a (allB x).length c) ∧ Kp (w'.ownsRow w.heap.size 3 1 (.slice a (allB x).length c) (allB x).length (i64s (allB x))) ∧ Below w.heap.size w w' := by
  obtain ⟨a, ca, rfl, h3, h4⟩ := h.shape
  obtain ⟨i0, hi, hz0, hz1, hz2⟩ := info_parts Tryd.infoInt
  have H1 := Kp.mk h
  have HA : Kp (allB x = allK x x.length) := ⟨rfl⟩
  clear h
  unfold maxLen at h4
  go_enter Tryd.func16, Tryd.ntmps16
  go_wp2_with fail
  go_loopw [3, 4] (fun vo i wr => ∃ (k : Nat) (q : List Int), k ≤ x.length ∧ i = .int .i64 k ∧ Kp (Below w.heap.size w wr) ∧ Kp (allK x k = q) ∧ Kp (wr.ownsRow w.heap.size 3 1 vo q.length (i64s q))) (fun vo i wr => x.length - (intOf i).toNat)
  case atStart => exact ⟨0, [], Nat.zero_le _, rfl, ⟨Below.refl _ _⟩, ⟨rfl⟩, ⟨World.ownsRow_nil _ _ _ _⟩⟩
  case round =>
    obtain ⟨k, q, hk, rfl, HB, HQ, HO⟩ := hrel
    obtain ⟨av, cv, rfl, hv1, hv2⟩ := (RowAt.of_own HO.out).shape
    have hql : q.length ≤ k := by rw [← HQ.out]; exact allK_le x k
    by_cases hlt : k < x.length
    · obtain ⟨g, o, rfl, hg, hc⟩ := H1.out.at (by omega)
      have c0 : wr.cell? ⟨g, o + k, none⟩ = some (.bool x[k]) := (HB.out.cell (p := ⟨g, o + k, none⟩) hg).trans ((hc k (by omega)).trans (bs_at x k hlt))
      clear hc
      have hwr := HB.out.size
      have hgd : x.getD k false = x[k] := by simp [List.getD_eq_getElem?_getD, hlt]
      by_cases hxk : x[k] = true
      · have HN : Kp (allK x (k + 1) = q ++ [(k : Int)]) := ⟨by rw [allK_succ, if_pos (hgd.trans hxk), HQ.out]⟩
        rw [hxk] at c0
        clear hxk hgd
        go_wp2_with (at_builtin; refine wpList_append_own _ rfl _ _ 29 rfl w.heap.size 3 i0 (.int .i64 0) 1 8 Tryd.underlying29 hi hz0 hz1 hz2 rfl (by decide) _ _ _ rfl (HO.out.alloc _) ⟨wr.heap.size, 0, none⟩ 1 1 [.int .i64 (k : Int)] rfl rfl (cell_one_new _ _ _) (by simp [Value.oneCell']) (by unfold maxLen; omega) (by omega) (by simp; omega) ?_; intro v' w9 hown' hgrow _)
        go_roundw
        case rel => exact ⟨k + 1, q ++ [(k : Int)], by omega, by go_num, ⟨below_own (below_al HB.out _) (Nat.le_refl _) (HO.out.alloc _) hgrow⟩, HN, ⟨by
          rw [List.length_append, i64s, List.map_append]
          exact hown'⟩⟩
        case measure => simp [intOf]; omega
      · have HN : Kp (allK x (k + 1) = q) := ⟨by rw [allK_succ, if_neg (by rw [hgd]; exact hxk), HQ.out]⟩
        rw [Bool.not_eq_true] at hxk
        rw [hxk] at c0
        clear hxk hgd
        go_wp2
        go_roundw
        case rel => exact ⟨k + 1, q, by omega, by go_num, HB, HN, HO⟩
        case measure => simp [intOf]; omega
    · obtain rfl : k = x.length := by omega
      go_wp2
      go_ret
      rw [HA.out, HQ.out]
      exact ⟨_, _, rfl, HO, HB.out⟩
end Go.Proofs.YtimikgencnkcnabDoor

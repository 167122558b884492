/- The contract of the iterator span.All: the addresses of spans, one by one, as long as the caller's round goes on. -/
import Derived.Test.YtimikgencnkcnaaRAll
import Derived.Test.YtimikgencnkcnaaIter
import Derived.RangeFuncNested
import Derived.RangeFuncBound
import Derived.RangeFuncCalls
import Derived.RangeFuncLeaves
import Derived.Shelf.Abstract
import Derived.Shelf.RegionOpen
import Derived.WalkKit
import Derived.OwnWalkIn
import Derived.TacticsInMore
import Derived.LoopNIn
import Derived.LoopIn
namespace Go.Proofs.Ytimikgencnkcnaa
open Go.RowKit
set_option linter.unusedSimpArgs false
set_option linter.unusedVariables false
open Go.Shelf
attribute [local go_sem] Oper.semAt_some
theorem has_cnt (f s : Int) (m : Nat) (h : m ≤ cnt f s) : hasB f s (f + (m : Int)) = decide (m < cnt f s) := bool_eq (by
  rw [hasB_true, decide_eq_true_iff]
  cases hr : rightB f s with
  | false =>
    have h0 : cnt f s = 0 := by simp [cnt, hr]
    have := rightB_false.1 hr
    omega
  | true =>
    have h0 : cnt f s = s.toNat := by simp [cnt, hr]
    obtain ⟨a, b, c, d⟩ := rightB_true.1 hr
    omega)
theorem allL_prefix (F S : Nat → Int) {k n : Nat} (hk : k ≤ n) : allL F S k <+: allL F S n := by
  induction n with
  | zero => obtain rfl : k = 0 := by omega
            exact List.prefix_refl _
  | succ n ih =>
    by_cases e : k = n + 1
    · subst e; exact List.prefix_refl _
    · exact (ih (by omega)).trans (by rw [allL]; exact List.prefix_append _ _)
/-- So many spans whole, and so many addresses of the next one. -/
def allP (F S : Nat → Int) (k m : Nat) : List Int := allL F S k ++ (List.range m).map fun j : Nat => F k + (j : Int)
theorem allP_zero (F S : Nat → Int) (k : Nat) : allP F S k 0 = allL F S k := by simp [allP]
theorem allP_full (F S : Nat → Int) (k : Nat) : allP F S k (cnt (F k) (S k)) = allL F S (k + 1) := rfl
theorem allP_snoc (F S : Nat → Int) (k m : Nat) : allP F S k m ++ [F k + (m : Int)] = allP F S k (m + 1) := by simp [allP, List.range_succ]
theorem allP_prefix (F S : Nat → Int) {k n m : Nat} (hk : k < n) (hm : m ≤ cnt (F k) (S k)) : allP F S k m <+: allL F S n := by
  refine List.IsPrefix.trans ?_ (allL_prefix F S (show k + 1 ≤ n from hk))
  rw [allL, allP]
  refine (List.prefix_append_right_inj _).2 ?_
  refine ⟨(List.range' m (cnt (F k) (S k) - m)).map fun j : Nat => F k + (j : Int), ?_⟩
  rw [← List.map_append]
  congr 1
  rw [List.range_eq_range', List.range_eq_range']
  have h := List.range'_append (s := 0) (m := m) (n := cnt (F k) (S k) - m) (step := 1)
  simp only [Nat.zero_add, Nat.one_mul] at h
  rw [h]
  congr 1
  omega
theorem allP_lt (F S : Nat → Int) {k n m : Nat} (hk : k < n) (hm : m < cnt (F k) (S k)) : (allP F S k m).length < (allL F S n).length := by
  have h := (allP_prefix F S hk (show m + 1 ≤ cnt (F k) (S k) from hm)).length_le
  rw [← allP_snoc, List.length_append] at h
  simp at h
  omega

set_option maxRecDepth 100000 in
set_option maxHeartbeats 1000000 in
theorem all1_in (N : Nat) (hn1 : 1 ≤ N) (l Bn n₀ n cap : Nat) (a : Option Addr) (F S : Nat → Int) (hn : n ≤ maxLen) (J Jx : List Int → World → Prop)
    (hY : ∀ pre x W, J pre W → pre.length < (allL F S n).length → YieldAt Fence.wide (N - 1) Try.prog l #[.int .i64 x] W fun e W' =>
      (e = .returned (.bool true) ∧ J (pre ++ [x]) W' ∧ KeepT 23 n₀ W W') ∨ (e = .returned (.bool false) ∧ Jx (pre ++ [x]) W'))
    (W : World) (hJ : AbidesFrom W.heap.size J) (hn₀ : n₀ ≤ W.heap.size) (hBn : W.cell? ⟨Bn, 0, none⟩ = some (.slice a n cap)) (hL : n = 0 ∨ ∃ b o, a = some ⟨b, o, none⟩ ∧ b < n₀ ∧ ∀ i, i < n → W.cell? ⟨b, o + i * 2, none⟩ = some (.int .i64 (F i)) ∧ W.cell? ⟨b, o + i * 2 + 1, none⟩ = some (.int .i64 (S i))) (h0 : J [] W) :
    CallsIn Fence.wide N Try.prog 39 #[.func (.yield l) #[] #[], .pointer (some ⟨Bn, 0, none⟩)] W fun e W' => (∃ v, e = .returned v) ∧
      ((∃ ys, ys = allL F S n ∧ J ys W') ∨ (∃ pre, pre <+: allL F S n ∧ Jx pre W')) := by
  unfold maxLen at hn
  have HJ := Kp.mk hJ
  have HL := Kp.mk hL
  have HY := Kp.mk hY
  clear hJ hL hY
  refine callsIn_of_wp Try.func39 rfl trivial ?_ rfl
  simp only [Try.ntmps39, List.size_toArray, List.length_cons, List.length_nil, Nat.reduceAdd, Nat.reduceSub, Array.replicate_succ, Array.replicate_zero, List.push_toArray, List.append_toArray, List.nil_append, List.cons_append]
  gi_wp2
  gi_loopw [8] (fun i wr => ∃ k : Nat, k ≤ n ∧ i = .int .i64 k ∧ Kp (Below n₀ W wr) ∧ Kp (W.heap.size ≤ wr.heap.size) ∧ Kp (J (allL F S k) wr)) (fun i wr => n - (intOf i).toNat)
  case atStart => exact ⟨0, Nat.zero_le _, rfl, ⟨Below.refl _ _⟩, ⟨Nat.le_refl _⟩, ⟨h0⟩⟩
  case round =>
    obtain ⟨k, hk, rfl, HB, HZ, HJk⟩ := hrel
    obtain ⟨wo, rfl⟩ : ∃ wo : World, wo = wr := ⟨_, rfl⟩
    by_cases hlt : k < n
    · rcases HL.out with h0 | ⟨b, o, rfl, hb, hc⟩
      · omega
      have c0 : wo.cell? ⟨b, o + k * 2, none⟩ = some (.int .i64 (F k)) := (HB.out.cell (p := ⟨b, o + k * 2, none⟩) hb).trans (hc k hlt).1
      have c1 : wo.cell? ⟨b, o + k * 2 + 1, none⟩ = some (.int .i64 (S k)) := (HB.out.cell (p := ⟨b, o + k * 2 + 1, none⟩) hb).trans (hc k hlt).2
      clear hc
      gi_wp2_with fail
      clear c0 c1
      gi_loopw [5] (fun i wr => ∃ m : Nat, m ≤ cnt (F k) (S k) ∧ i = .int .i64 (F k + (m : Int)) ∧ Kp (Below n₀ W wr) ∧ Kp (W.heap.size ≤ wr.heap.size) ∧ Kp (wr.heap[wo.heap.size]? = some (.cells #[.int .i64 (F k), .int .i64 (S k)] 23)) ∧ Kp (J (allP F S k m) wr)) (fun i wr => (F k + cnt (F k) (S k) - (intOf i)).toNat)
      case atStart => exact ⟨0, Nat.zero_le _, by simp, ⟨HB.out.alloc (by have := HZ.out; omega) _⟩, ⟨by have := HZ.out; simp; omega⟩, ⟨blk_new _ _⟩, ⟨by rw [allP_zero]; exact HJ.out _ _ _ none HJk.out (World.grownBy_alloc _ _ none) (fun r e => by cases e)⟩⟩
      case round =>
        obtain ⟨m, hm, rfl, HB2, HZ2, HBK, HJm⟩ := hrel
        have c0 : wr.cell? ⟨wo.heap.size, 0, none⟩ = some (.int .i64 (F k)) := (cell_blk HBK.out 0).trans rfl
        have c1 : wr.cell? ⟨wo.heap.size, 1, none⟩ = some (.int .i64 (S k)) := (cell_blk HBK.out 1).trans rfl
        have l0 := blk_lt HBK.out
        by_cases hlt2 : m < cnt (F k) (S k)
        · have hx : hasB (F k) (S k) (F k + (m : Int)) = true := by rw [has_cnt _ _ _ hm]; exact decide_eq_true hlt2
          obtain ⟨g1, g2, g3, g4, g5, g6⟩ := hasB_true.1 hx
          gi_wp2_with fail
          refine ⟨trivial, (callsIn_wide.2 (has_any _ _ _ _ hx _)).mono ?_⟩
          rintro e w1 ⟨rfl, hb1⟩
          have HB3 := Kp.mk (HB2.out.trans (hb1.mono (Nat.le_trans hn₀ HZ2.out)))
          have HZ3 := Kp.mk (Nat.le_trans HZ2.out hb1.size)
          have HBK3 := Kp.mk (blk_below HBK.out hb1)
          obtain ⟨fn, tmps, assign, body, hy, hR⟩ := HY.out (allP F S k m) (F k + (m : Int)) w1 (HJ.out _ wr w1 none HJm.out (grown_below hb1) (fun r e => by cases e)) (allP_lt F S hlt hlt2)
          clear hb1 c0 c1
          gi_wp2
          refine hR.mono ?_
          rintro e W3 (⟨rfl, hJ3, hk3⟩ | ⟨rfl, hJx3⟩)
          · have HK3 := Kp.mk hk3
            clear hk3
            gi_wp2
            go_roundw
            case rel => exact ⟨m + 1, by omega, by go_num, ⟨HB3.out.trans HK3.out.1⟩, ⟨Nat.le_trans HZ3.out HK3.out.1.size⟩, ⟨HK3.out.2 _ _ _ HBK3.out⟩, ⟨by rw [← allP_snoc]; exact hJ3⟩⟩
            case measure => simp [intOf]; omega
          · gi_wp2
            refine bodyPost_ret (results_none rfl _ _ _) rfl ?_
            exact ⟨⟨_, rfl⟩, .inr ⟨_, by rw [allP_snoc]; exact allP_prefix F S hlt (by omega), hJx3⟩⟩
        · obtain rfl : m = cnt (F k) (S k) := by omega
          have hx : hasB (F k) (S k) (F k + (cnt (F k) (S k) : Int)) = false := by rw [has_cnt _ _ _ hm]; exact decide_eq_false hlt2
          gi_wp2_with (refine ⟨trivial, ?_⟩; gi_at_call 16; refine (callsIn_wide.2 (has_any _ _ _ _ hx _)).mono ?_; rintro e w1 ⟨rfl, hb1⟩)
          go_roundw
          case rel => exact ⟨k + 1, by omega, by go_num, ⟨HB2.out.trans (hb1.mono (Nat.le_trans hn₀ HZ2.out))⟩, ⟨Nat.le_trans HZ2.out hb1.size⟩, ⟨by rw [← allP_full]; exact HJ.out _ wr w1 none HJm.out (grown_below hb1) (fun r e => by cases e)⟩⟩
          case measure => simp [intOf]; omega
    · obtain rfl : k = n := by omega
      gi_wp2
      go_end0
      exact ⟨⟨_, rfl⟩, .inl ⟨_, rfl, HJk.out⟩⟩
end Go.Proofs.Ytimikgencnkcnaa

/- The iterator mem.All: words with their addresses, as long as the caller's round goes on. -/
import Derived.Test.YtimikgencnkcnaaMem
import Derived.Test.YtimikgencnkcnaaIter
import Derived.RangeFuncNested
import Derived.RangeFuncBound
import Derived.RangeFuncCalls
import Derived.RangeFuncLeaves
import Derived.Shelf.Abstract
import Derived.Shelf.RegionOpen
import Derived.WalkKit
import Derived.OwnWalkIn
import Derived.TacticsInMore
import Derived.LoopNIn
import Derived.LoopIn
namespace Go.Proofs.Ytimikgencnkcnaa
open Go.RowKit
set_option linter.unusedSimpArgs false
set_option linter.unusedVariables false
open Go.Shelf
attribute [local go_sem] Oper.semAt_some
/-- The first k words with their addresses. -/
def uptoW (ws : List Int) (k : Nat) : List (Int × Int) := (List.range k).map fun i : Nat => ((i : Int), ws[i]?.getD 0)
theorem uptoW_len (ws : List Int) (k : Nat) : (uptoW ws k).length = k := by simp [uptoW]
theorem uptoW_snoc (ws : List Int) (k : Nat) (h : k < ws.length) : uptoW ws k ++ [((k : Int), ws[k])] = uptoW ws (k + 1) := by simp [uptoW, List.range_succ, h]
theorem uptoW_prefix (ws : List Int) {k n : Nat} (h : k ≤ n) : uptoW ws k <+: uptoW ws n := by
  refine ⟨((List.range' k (n - k)).map fun i : Nat => ((i : Int), ws[i]?.getD 0)), ?_⟩
  rw [uptoW, uptoW, ← List.map_append]
  congr 1
  rw [List.range_eq_range', List.range_eq_range']
  have h := List.range'_append (s := 0) (m := k) (n := n - k) (step := 1)
  simp only [Nat.zero_add, Nat.one_mul] at h
  rw [h]
  congr 1
  omega
theorem uptoW_at (ws : List Int) {k i : Nat} (h : i < k) : (uptoW ws k)[i]? = some ((i : Int), ws[i]?.getD 0) := by simp [uptoW, h]

set_option maxRecDepth 100000 in
set_option maxHeartbeats 1000000 in
theorem memAll1_in (N : Nat) (hn1 : 1 ≤ N) (l Bn n₀ B D : Nat) (ws : List Int) (J Jx : List (Int × Int) → World → Prop)
    (hY : ∀ pre x W, J pre W → pre.length < ws.length → YieldAt Fence.wide (N - 1) Try.prog l #[.int .i64 x.1, .int .u32 x.2] W fun e W' =>
      (e = .returned (.bool true) ∧ J (pre ++ [x]) W' ∧ Below n₀ W W') ∨ (e = .returned (.bool false) ∧ Jx (pre ++ [x]) W'))
    (W : World) (hBn : W.cell? ⟨Bn, 0, none⟩ = some (.pointer (some ⟨B, 0, none⟩))) (hM : MemAt W B D ws) (hB : B < n₀) (hD : D < n₀) (h0 : J [] W) :
    CallsIn Fence.wide N Try.prog 38 #[.func (.yield l) #[] #[], .pointer (some ⟨Bn, 0, none⟩)] W fun e W' => (∃ v, e = .returned v) ∧
      ((∃ ys, ys = uptoW ws ws.length ∧ J ys W') ∨ (∃ pre, pre <+: uptoW ws ws.length ∧ Jx pre W')) := by
  have hs := hM.slice
  have hlen := hM.len
  have HM := Kp.mk hM
  have HY := Kp.mk hY
  clear hM hY
  refine callsIn_of_wp Try.func38 rfl trivial ?_ rfl
  simp only [Try.ntmps38, List.size_toArray, List.length_cons, List.length_nil, Nat.reduceAdd, Nat.reduceSub, Array.replicate_succ, Array.replicate_zero, List.push_toArray, List.append_toArray, List.nil_append, List.cons_append]
  gi_wp2
  gi_loopw [10] (fun i wr => ∃ k : Nat, k ≤ ws.length ∧ i = .int .i64 k ∧ Kp (Below n₀ W wr) ∧ Kp (J (uptoW ws k) wr)) (fun i wr => ws.length - (intOf i).toNat)
  case atStart => exact ⟨0, Nat.zero_le _, rfl, ⟨Below.refl _ _⟩, ⟨h0⟩⟩
  case round =>
    obtain ⟨k, hk, rfl, HB, HJ⟩ := hrel
    by_cases hlt : k < ws.length
    · have c0 : wr.cell? ⟨D, k, none⟩ = some (.int .u32 ws[k]) := (HB.out.cell (p := ⟨D, k, none⟩) hD).trans (HM.out.cell hlt)
      obtain ⟨fn, tmps, assign, body, hy, hR⟩ := HY.out (uptoW ws k) ((k : Int), ws[k]) wr HJ.out (by rw [uptoW_len]; exact hlt)
      dsimp only at hy
      gi_wp2
      refine hR.mono ?_
      rintro e W3 (⟨rfl, hJ3, hk3⟩ | ⟨rfl, hJx3⟩)
      · gi_wp2
        go_roundw
        case rel => exact ⟨k + 1, by omega, by go_num, ⟨HB.out.trans hk3⟩, ⟨by rw [← uptoW_snoc ws k hlt]; exact hJ3⟩⟩
        case measure => simp [intOf]; omega
      · gi_wp2
        refine bodyPost_ret (results_none rfl _ _ _) rfl ?_
        exact ⟨⟨_, rfl⟩, .inr ⟨_, by rw [uptoW_snoc ws k hlt]; exact uptoW_prefix ws hlt, hJx3⟩⟩
    · obtain rfl : k = ws.length := by omega
      gi_wp2
      go_end0
      exact ⟨⟨_, rfl⟩, .inl ⟨_, rfl, HJ.out⟩⟩

theorem memAll_stops (N : Nat) (hn1 : 1 ≤ N) (Bn n₀ B D : Nat) (ws : List Int) (w : World) (hn₀ : n₀ ≤ w.heap.size) (hBn : w.heap[Bn]? = some (.cells #[.pointer (some ⟨B, 0, none⟩)] 40 (0, 0))) (hM : MemAt w B D ws) (hB : B < n₀) (hD : D < n₀) :
    SeqStopsK Fence.wide N Try.prog 38 #[.pointer (some ⟨Bn, 0, none⟩)] (fun x : Int × Int => #[Value.int .i64 x.1, Value.int .u32 x.2]) (Below n₀) (fun ys => ys = uptoW ws ws.length) (fun pre => pre <+: uptoW ws ws.length) ws.length w := fun l J Jx W hW hJ hJx hY h0 =>
  memAll1_in N hn1 l Bn n₀ B D ws J Jx hY W ((cell_blk (blk_below hBn hW) 0).trans rfl) (hM.below hW) hB hD h0

set_option maxHeartbeats 400000 in
theorem memAll_any (B : Nat) (w : World) : Calls Try.prog 34 #[.pointer (some ⟨B, 0, none⟩)] w fun e w' => e = .returned (.func (.func 38) #[] #[.pointer (some ⟨w.heap.size, 0, none⟩)]) ∧ w' = w.alloc (.cells #[.pointer (some ⟨B, 0, none⟩)] 40) := by
  go_enter Try.func34, Try.ntmps34
  go_wp2
  go_ret
  exact ⟨rfl, rfl⟩
end Go.Proofs.Ytimikgencnkcnaa

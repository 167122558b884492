/- The iterator fifo.All of whole numbers: what is in the row, as long as the caller's round goes on. -/
import Derived.Test.YtimikgencnkcnabFifo
import Derived.Test.YtimikgencnkcnabIter
import Derived.RangeFuncNested
import Derived.RangeFuncBound
import Derived.RangeFuncCalls
import Derived.RangeFuncLeaves
import Derived.Shelf.Abstract
import Derived.Shelf.RegionOpen
import Derived.WalkKit
import Derived.OwnWalkIn
import Derived.TacticsInMore
import Derived.LoopNIn
import Derived.LoopIn
import Derived.Stop.RegionWithIn
namespace Go.Proofs.Ytimikgencnkcnab
open Go.RowKit
set_option linter.unusedSimpArgs false
set_option linter.unusedVariables false
open Go.Shelf
attribute [local go_sem] Oper.semAt_some

theorem grown_drN {w : World} {n : Nat} : w.grownBy (w.drewN n) none := ⟨rfl, rfl, rfl, Nat.le_refl _, fun _ _ _ => rfl⟩
theorem ringL_prefix (rs : List Int) (first : Nat) {k n : Nat} (h : k < n) : ringL rs first (k + 1) <+: ringL rs first n := by
  obtain ⟨m, rfl⟩ : ∃ m, n = k + 1 + m := ⟨n - (k + 1), by omega⟩
  have h : List.range (k + 1 + m) = List.range (k + 1) ++ (List.range m).map (k + 1 + ·) := List.range_add ..
  rw [ringL, ringL, h, List.map_append]
  exact List.prefix_append _ _

set_option maxRecDepth 100000 in
set_option maxHeartbeats 2000000 in
theorem fifoAll1_in (N : Nat) (hn1 : 1 ≤ N) (l Bn n₀ B D cap first n : Nat) (rs q : List Int) (hq : q = ringL rs first n) (J Jx : List Int → World → Prop) (hJ : ∀ s W1 W2, J s W1 → W1.grownBy W2 none → J s W2)
    (hY : ∀ pre x W, J pre W → pre.length < n → YieldAt Fence.wide (N - 1) Try.prog l #[.int .i64 x] W fun e W' =>
      ∃ b, e = .returned (.bool b) ∧ (b = true → J (pre ++ [x]) W' ∧ KeepT 35 n₀ W W') ∧ (b = false → Jx (pre ++ [x]) W'))
    (W : World) (hW : n₀ ≤ W.heap.size) (hBn : W.heap[Bn]? = some (.cells #[.pointer (some ⟨B, 0, none⟩)] 35 (0, 0))) (hM : RingAt W B D cap rs first n) (hB : B < n₀) (hD : D < n₀) (h0 : J [] W) :
    CallsIn Fence.wide N Try.prog 23 #[.func (.yield l) #[] #[], .pointer (some ⟨Bn, 0, none⟩)] W fun e W' => (∃ v, e = .returned v) ∧
      ((∃ ys, ys = q ∧ J ys W') ∨ (∃ pre, pre <+: q ∧ Jx pre W')) := by
  have HM := Kp.mk hM
  have HY := Kp.mk hY
  have HQ := Kp.mk hq
  have cB : W.cell? ⟨Bn, 0, none⟩ = some (.pointer (some ⟨B, 0, none⟩)) := (cell_blk hBn 0).trans rfl
  have c2 : W.cell? ⟨B, 2, none⟩ = some (.int .i64 (n : Int)) := (cell_blk hM.head 2).trans rfl
  have hpos := hM.pos
  have hmost := hM.most
  have hlt := hM.lt
  have hle := hM.le
  have HL := Kp.mk hM.len
  clear hM hY hq
  refine callsIn_of_wp Try.func23 rfl trivial ?_ rfl
  simp only [Try.ntmps23, List.size_toArray, List.length_cons, List.length_nil, Nat.reduceAdd, Nat.reduceSub, Array.replicate_succ, Array.replicate_zero, List.push_toArray, List.append_toArray, List.nil_append, List.cons_append]
  gi_wp2
  clear c2 cB
  gi_loopw [8] (fun i wr => ∃ k : Nat, k ≤ n ∧ i = .int .i64 k ∧ Kp (KeepT 35 n₀ W wr) ∧ Kp (J (ringL rs first k) wr)) (fun i wr => n - (intOf i).toNat)
  case atStart => exact ⟨0, Nat.zero_le _, rfl, ⟨KeepT.refl _ _ _⟩, ⟨h0⟩⟩
  case round =>
    obtain ⟨k, hk, rfl, HB, HJ⟩ := hrel
    by_cases hkn : k < n
    · obtain ⟨j, hj⟩ : ∃ j, (first + k) % cap = j := ⟨_, rfl⟩
      have hjc : j < cap := by rw [← hj]; exact Nat.mod_lt _ (by omega)
      have hB0 := (HB.out.1.block B hB).trans HM.out.head
      have c0 : wr.cell? ⟨B, 0, none⟩ = some (.slice (some ⟨D, 0, none⟩) cap cap) := (cell_blk hB0 0).trans rfl
      have c1 : wr.cell? ⟨B, 1, none⟩ = some (.int .i64 (first : Int)) := (cell_blk hB0 1).trans rfl
      have c3 : wr.cell? ⟨D, j, none⟩ = some (.int .i64 (rs[j]?.getD 0)) := by
        rw [cell_blk ((HB.out.1.block D hD).trans HM.out.ring) j, List.getElem?_toArray, i64s_at rs j (by rw [HL.out]; exact hjc)]
        simp [show j < rs.length by rw [HL.out]; exact hjc]
      have c4 : wr.cell? ⟨Bn, 0, none⟩ = some (.pointer (some ⟨B, 0, none⟩)) := (cell_blk (HB.out.2 Bn _ _ hBn) 0).trans rfl
      have hs : ringL rs first k ++ [rs[j]?.getD 0] = ringL rs first (k + 1) := by
        rw [ringL, ringL, List.range_succ, List.map_append]
        simp [HL.out, hj]
      have hw0 : n₀ ≤ wr.heap.size := Nat.le_trans hW HB.out.1.size
      have HS := Kp.mk hs
      have HJJ := Kp.mk hj
      clear hB0 hj hs
      gi_wp2_with fail
      gi_region_with (first | (refine ⟨trivial, ?_⟩; gi_at_call 21; refine (callsIn_wide.2 (fifoAt_any B D cap first k j HJJ.out _ hpos hmost hlt (by omega) (by exact c0) (by exact c1))).mono ?_; rintro e w1 ⟨rfl, nq, rfl⟩) | (obtain ⟨fn, tmps, assign, body, hy, hR⟩ := HY.out (ringL rs first k) (rs[j]?.getD 0) (wr.drewN (1 + nq)) (hJ _ _ _ HJ.out grown_drN) (by rw [ringL_len]; exact hkn); rw [hy, Oper.uponIn_round]; refine ⟨fun _ => hn1, hR.mono ?_⟩; rintro e w3 ⟨b, rfl, hb⟩))
      all_goals
        obtain ⟨hbt, hbf⟩ := hb
        cases b with
        | true =>
          obtain ⟨hJ3, hk3⟩ := hbt rfl
          have HJ3 := Kp.mk hJ3
          have HK3 := Kp.mk hk3
          clear hbt hbf hJ3 hk3
          gi_wp2
          go_roundw
          case rel => exact ⟨k + 1, by omega, by go_num, ⟨HB.out.trans (KeepT.trans ⟨below_drN (Below.refl _ _), fun _ _ _ h => h⟩ HK3.out)⟩, ⟨by rw [← HS.out]; exact HJ3.out⟩⟩
          case measure => simp [intOf]; omega
        | false =>
          have HJ3 := Kp.mk (hbf rfl)
          clear hbt hbf
          gi_wp2
          refine bodyPost_ret (results_none rfl _ _ _) rfl ?_
          exact ⟨⟨_, rfl⟩, .inr ⟨_, by rw [HS.out, HQ.out]; exact ringL_prefix rs first hkn, HJ3.out⟩⟩
    · obtain rfl : k = n := by omega
      gi_wp2
      go_end0
      exact ⟨⟨_, rfl⟩, .inl ⟨_, HQ.out.symm, HJ.out⟩⟩

theorem fifoAll_stops (N : Nat) (hn1 : 1 ≤ N) (Bn n₀ B D cap : Nat) (q : List Int) (w : World) (hn₀ : n₀ ≤ w.heap.size) (hBn : w.heap[Bn]? = some (.cells #[.pointer (some ⟨B, 0, none⟩)] 35 (0, 0))) (hM : QAt w B D cap q) (hB : B < n₀) (hD : D < n₀) :
    SeqStopsK Fence.wide N Try.prog 23 #[.pointer (some ⟨Bn, 0, none⟩)] (fun x : Int => #[Value.int .i64 x]) (KeepT 35 n₀) (fun ys => ys = q) (fun pre => pre <+: q) q.length w := fun l J Jx W hW hJ hJx hY h0 => by
  obtain ⟨rs, first, hr, hq⟩ := hM.below hW
  refine fifoAll1_in N hn1 l Bn n₀ B D cap first q.length rs q hq J Jx (fun s W1 W2 hs hg => hJ s W1 W2 none hs hg (by intro r h; cases h)) (fun pre x W1 hp hl => ?_) W (Nat.le_trans hn₀ hW.size) (blk_below hBn hW) hr hB hD h0
  obtain ⟨fn, tmps, assign, body, hy, hR⟩ := hY pre x W1 hp hl
  refine ⟨fn, tmps, assign, body, hy, hR.mono ?_⟩
  rintro e W3 (⟨rfl, hJ3, hk3⟩ | ⟨rfl, hJx3⟩)
  · exact ⟨true, rfl, fun _ => ⟨hJ3, hk3⟩, by simp⟩
  · exact ⟨false, rfl, by simp, fun _ => hJx3⟩

set_option maxHeartbeats 400000 in
theorem fifoAll_any (B : Nat) (w : World) : Calls Try.prog 22 #[.pointer (some ⟨B, 0, none⟩)] w fun e w' => e = .returned (.func (.func 23) #[] #[.pointer (some ⟨w.heap.size, 0, none⟩)]) ∧ w' = w.alloc (.cells #[.pointer (some ⟨B, 0, none⟩)] 35) := by
  go_enter Try.func22, Try.ntmps22
  go_wp2
  go_ret
  exact ⟨rfl, rfl⟩
end Go.Proofs.Ytimikgencnkcnab

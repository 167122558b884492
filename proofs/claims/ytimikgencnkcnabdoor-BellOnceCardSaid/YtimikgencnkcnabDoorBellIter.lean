/- The iterator bell.All: the bells that are pending, rising, as long as the caller's round goes on. -/
import Derived.Test.YtimikgencnkcnabDoorBellTake
namespace Go.Proofs.YtimikgencnkcnabDoor
open Go.RowKit
set_option linter.unusedSimpArgs false
set_option linter.unusedVariables false
open Go.Shelf
attribute [local go_sem] Oper.semAt_some

/-- The bells that are pending. -/
def allB (x : List Bool) : List Int := ((List.range x.length).filter fun i => x.getD i false).map Int.ofNat
theorem allB_len (x : List Bool) : (allB x).length ≤ x.length := by
  rw [allB, List.length_map]
  exact Nat.le_trans (List.length_filter_le _ _) (by simp)
theorem low_bits (m : Nat) (h0 : m ≠ 0) (h : m < 18446744073709551616) : Lib.ctz 64 m < 64 ∧ (∀ i, i < Lib.ctz 64 m → m.testBit i = false) ∧ m.testBit (Lib.ctz 64 m) = true ∧ ∀ i, (m &&& (m - 1)).testBit i = (m.testBit i && decide (i ≠ Lib.ctz 64 m)) := by
  obtain ⟨z, hz, hk⟩ := Lib.ctzFrom_spec 64 m (by omega) h
  rw [show Lib.ctz 64 m = Lib.ctzFrom 64 m by rw [Lib.ctz, if_neg h0]]
  generalize Lib.ctzFrom 64 m = k at hz hk ⊢
  have h1 : ∀ i, m.testBit i = (decide (k ≤ i) && (2 * z + 1).testBit (i - k)) := fun i => by rw [hz, Nat.testBit_two_pow_mul]
  have hp : 0 < 2 ^ k := Nat.pow_pos (by decide)
  have h2 : ∀ i, (m - 1).testBit i = if i < k then (2 ^ k - 1).testBit i else (2 * z).testBit (i - k) := fun i => by
    have h3 : m - 1 = 2 ^ k * (2 * z) + (2 ^ k - 1) := by
      rw [hz, Nat.mul_add, Nat.mul_one]
      omega
    rw [h3, Nat.testBit_two_pow_mul_add _ (by omega)]
  refine ⟨hk, fun i hi => ?_, ?_, fun i => ?_⟩
  · rw [h1, decide_eq_false (by omega), Bool.false_and]
  · rw [h1, Nat.sub_self]
    simp
  · rw [Nat.testBit_and, h1, h2]
    by_cases hi : i < k
    · have h4 : ¬ k ≤ i := by omega
      simp [h4]
    · by_cases he : i = k
      · subst he
        simp
      · obtain ⟨j, rfl⟩ : ∃ j, i = k + (j + 1) := ⟨i - k - 1, by omega⟩
        have h5 : (2 * z + 1) / 2 = z := by omega
        have h6 : 2 * z / 2 = z := by omega
        have h7 : decide (k + (j + 1) ≠ k) = true := by simp
        rw [if_neg hi, show k + (j + 1) - k = j + 1 by omega, Nat.testBit_succ, Nat.testBit_succ, h5, h6, h7, decide_eq_true (by omega : k ≤ k + (j + 1))]
        simp
theorem and_pred (m : Nat) (h0 : m ≠ 0) (h : m < 18446744073709551616) : bits .and .u64 (m : Int) ((m : Int) - 1) = ((m &&& (m - 1) : Nat) : Int) := by
  have h1 : bits .and .u64 (m : Int) ((m - 1 : Nat) : Int) = ((m &&& (m - 1) : Nat) : Int) := u64_and_nat m (m - 1) h (by omega)
  rw [show ((m - 1 : Nat) : Int) = (m : Int) - 1 by omega] at h1
  exact h1
/-- The bells below p that are pending. -/
def lowB (b : Nat) (p : Nat) : List Int := ((List.range p).filter b.testBit).map Int.ofNat
theorem lowB_next (b p k : Nat) (hp : p ≤ k) (h : ∀ i, p ≤ i → i < k → b.testBit i = false) (hk : b.testBit k = true) : lowB b (k + 1) = lowB b p ++ [(k : Int)] := by
  obtain ⟨d, rfl⟩ : ∃ d, k = p + d := ⟨k - p, by omega⟩
  have h1 : List.range (p + d + 1) = List.range p ++ (List.range d).map (p + ·) ++ [p + d] := by rw [List.range_succ, List.range_add]
  have h2 : ((List.range d).map (p + ·)).filter b.testBit = [] := by
    rw [List.filter_eq_nil_iff]
    intro a ha
    simp only [List.mem_map, List.mem_range] at ha
    obtain ⟨c, hc, rfl⟩ := ha
    simp [h (p + c) (by omega) (by omega)]
  rw [lowB, lowB, h1, List.filter_append, List.filter_append, h2, List.append_nil, List.map_append, List.filter_cons_of_pos (by simpa using hk)]
  rfl
theorem lowB_end (b p q : Nat) (hp : p ≤ q) (h : ∀ i, p ≤ i → b.testBit i = false) : lowB b q = lowB b p := by
  obtain ⟨d, rfl⟩ : ∃ d, q = p + d := ⟨q - p, by omega⟩
  have h2 : ((List.range d).map (p + ·)).filter b.testBit = [] := by
    rw [List.filter_eq_nil_iff]
    intro a ha
    simp only [List.mem_map, List.mem_range] at ha
    obtain ⟨c, hc, rfl⟩ := ha
    simp [h (p + c) (by omega)]
  rw [lowB, lowB, List.range_add, List.filter_append, h2, List.append_nil]
theorem lowB_prefix (b : Nat) {p q : Nat} (hp : p ≤ q) : lowB b p <+: lowB b q := by
  obtain ⟨d, rfl⟩ : ∃ d, q = p + d := ⟨q - p, by omega⟩
  rw [lowB, lowB, List.range_add, List.filter_append, List.map_append]
  exact List.prefix_append _ _
theorem lowB_all (b : Nat) (x : List Bool) (hb : ∀ i, b.testBit i = x.getD i false) (hx : x.length ≤ 64) : lowB b 64 = allB x := by
  rw [lowB_end b x.length 64 hx fun i hi => by rw [hb, List.getD_eq_getElem?_getD, List.getElem?_eq_none hi]; rfl]
  rw [lowB, allB]
  congr 1
  exact List.filter_congr fun i _ => hb i
theorem lowB_le (b : Nat) (p : Nat) : (lowB b p).length ≤ p := by
  rw [lowB, List.length_map]
  exact Nat.le_trans (List.length_filter_le _ _) (by simp)

set_option maxRecDepth 100000 in
set_option maxHeartbeats 2000000 in
theorem bellAll1_in (N : Nat) (hn1 : 1 ≤ N) (l Bn n₀ B b len : Nat) (hb64 : b < 18446744073709551616) (q : List Int) (hq : q = lowB b 64) (J Jx : List Int → World → Prop) (hJ : ∀ s W1 W2, J s W1 → W1.grownBy W2 none → J s W2)
    (hY : ∀ pre x W, J pre W → pre.length < q.length → YieldAt Fence.wide (N - 1) Tryd.prog l #[.int .i64 x] W fun e W' =>
      ∃ b, e = .returned (.bool b) ∧ (b = true → J (pre ++ [x]) W' ∧ KeepT 24 n₀ W W') ∧ (b = false → Jx (pre ++ [x]) W'))
    (W : World) (hW : n₀ ≤ W.heap.size) (hBn : W.heap[Bn]? = some (.cells #[.pointer (some ⟨B, 0, none⟩)] 24 (0, 0))) (hM : W.heap[B]? = some (.cells #[.int .i64 len, .int .u64 b] 47 (0, 0))) (hB : B < n₀) (hT : TabAt 0 Lib.deBruijn64tab W) (h0 : J [] W) :
    CallsIn Fence.wide N Tryd.prog 19 #[.func (.yield l) #[] #[], .pointer (some ⟨Bn, 0, none⟩)] W fun e W' => (∃ v, e = .returned v) ∧
      ((∃ ys, ys = q ∧ J ys W') ∨ (∃ pre, pre <+: q ∧ Jx pre W')) := by
  have HY := Kp.mk hY
  have HQ := Kp.mk hq
  have cB : W.cell? ⟨Bn, 0, none⟩ = some (.pointer (some ⟨B, 0, none⟩)) := (cell_blk hBn 0).trans rfl
  have c1 : W.cell? ⟨B, 1, none⟩ = some (.int .u64 b) := (cell_blk hM 1).trans rfl
  have HT := Kp.mk hT
  clear hM hY hq hBn hT
  refine callsIn_of_wp Tryd.func19 rfl trivial ?_ rfl
  simp only [Tryd.ntmps19, List.size_toArray, List.length_cons, List.length_nil, Nat.reduceAdd, Nat.reduceSub, Array.replicate_succ, Array.replicate_zero, List.push_toArray, List.append_toArray, List.nil_append, List.cons_append]
  gi_wp2
  clear c1 cB
  gi_loopw [3] (fun i wr => ∃ (p m : Nat), p ≤ 64 ∧ i = .int .u64 m ∧ m < 18446744073709551616 ∧ Kp (∀ i, m.testBit i = (decide (p ≤ i) && b.testBit i)) ∧ Kp (KeepT 24 n₀ W wr) ∧ Kp (J (lowB b p) wr)) (fun i wr => (intOf i).toNat)
  case atStart => exact ⟨0, b, by omega, rfl, hb64, ⟨fun i => by simp⟩, ⟨KeepT.refl _ _ _⟩, ⟨h0⟩⟩
  case round =>
    obtain ⟨p, m, hp, rfl, hm, HM, HB, HJ⟩ := hrel
    by_cases hm0 : m = 0
    · subst hm0
      have he : lowB b 64 = lowB b p := lowB_end b p 64 hp fun i hi => by have := HM.out i; simpa [hi] using this
      have HE := Kp.mk he
      clear he
      gi_wp2
      go_end0
      exact ⟨⟨_, rfl⟩, .inl ⟨_, rfl, by rw [HQ.out, HE.out]; exact HJ.out⟩⟩
    · obtain ⟨hk, hlo, hbk, hand⟩ := low_bits m hm0 hm
      obtain ⟨k, hkk⟩ : ∃ k, Lib.ctz 64 m = k := ⟨_, rfl⟩
      rw [hkk] at hk hlo hbk hand
      have hpk : p ≤ k := by
        have := HM.out k
        rw [hbk, eq_comm, Bool.and_eq_true, decide_eq_true_eq] at this
        exact this.1
      have hnext : lowB b (k + 1) = lowB b p ++ [(k : Int)] := lowB_next b p k hpk (fun i h1 h2 => by have := HM.out i; rw [hlo i h2] at this; simpa [h1] using this.symm) (by have := HM.out k; rw [hbk] at this; simpa [hpk] using this.symm)
      have hlt : (lowB b p).length < q.length := by
        have h1 := (lowB_prefix b (show k + 1 ≤ 64 by omega)).length_le
        rw [hnext, List.length_append, List.length_singleton, ← HQ.out] at h1
        omega
      have hmm : ((m &&& (m - 1) : Nat) : Int) < (m : Int) := by
        have : m &&& (m - 1) ≤ m - 1 := Nat.and_le_right
        omega
      have HMM : Kp (m &&& (m - 1) < m) := ⟨by omega⟩
      have HM' : Kp (∀ i, (m &&& (m - 1)).testBit i = (decide (k + 1 ≤ i) && b.testBit i)) := ⟨fun i => by
        rw [hand]
        by_cases h1 : i < k
        · have h2 : ¬ k + 1 ≤ i := by omega
          rw [hlo i h1, decide_eq_false h2]; rfl
        · by_cases h2 : i = k
          · have h3 : ¬ k + 1 ≤ i := by omega
            rw [decide_eq_false h3, decide_eq_false (by simpa using h2), Bool.and_false]; rfl
          · have h3 : k + 1 ≤ i := by omega
            have h4 : p ≤ i := by omega
            rw [HM.out i, decide_eq_true h3, decide_eq_true h4, decide_eq_true h2]; simp⟩
      have HN := Kp.mk hnext
      have HLT := Kp.mk hlt
      have HPN := Kp.mk (and_pred m hm0 hm)
      have HTW := Kp.mk (tab_low HT.out HB.out.1 (by omega))
      clear hlo hbk hand hnext hlt hmm
      gi_wp2_with fail
      refine ⟨trivial, (callsIn_wide.2 (tz_any m hm hm0 _ HTW.out)).mono ?_⟩
      rw [hkk]
      rintro e w1 ⟨rfl, hw1⟩
      subst w1
      gi_wp2_with fail
      obtain ⟨fn, tmps, assign, body, hy, hR⟩ := HY.out (lowB b p) (k : Int) wr (hJ _ _ _ HJ.out (World.grownBy.refl _ _)) HLT.out
      rw [hy, Oper.uponIn_round]
      refine ⟨fun _ => hn1, hR.mono ?_⟩
      rintro e w3 ⟨b', rfl, hb⟩
      obtain ⟨hbt, hbf⟩ := hb
      cases b' with
      | true =>
        obtain ⟨hJ3, hk3⟩ := hbt rfl
        have HJ3 := Kp.mk hJ3
        have HK3 := Kp.mk hk3
        clear hbt hbf hJ3 hk3
        gi_wp2
        go_roundw
        case rel => exact ⟨k + 1, m &&& (m - 1), by omega, by rw [← HPN.out], by have := HMM.out; omega, HM', ⟨HB.out.trans HK3.out⟩, ⟨by rw [HN.out]; exact HJ3.out⟩⟩
        case measure => rw [HPN.out]; have := HMM.out; simp [intOf]; omega
      | false =>
        have HJ3 := Kp.mk (hbf rfl)
        clear hbt hbf
        gi_wp2
        refine bodyPost_ret (results_none rfl _ _ _) rfl ?_
        exact ⟨⟨_, rfl⟩, .inr ⟨_, by rw [← HN.out, HQ.out]; exact lowB_prefix b (by omega), HJ3.out⟩⟩

theorem bellAll_stops (N : Nat) (hn1 : 1 ≤ N) (Bn n₀ B : Nat) (x : List Bool) (w : World) (hn₀ : n₀ ≤ w.heap.size) (hBn : w.heap[Bn]? = some (.cells #[.pointer (some ⟨B, 0, none⟩)] 24 (0, 0))) (hM : BAt w B x) (hT : TabAt 0 Lib.deBruijn64tab w) (hB : B < n₀) :
    SeqStopsK Fence.wide N Tryd.prog 19 #[.pointer (some ⟨Bn, 0, none⟩)] (fun x : Int => #[Value.int .i64 x]) (KeepT 24 n₀) (fun ys => ys = allB x) (fun pre => pre <+: allB x) (allB x).length w := fun l J Jx W hW hJ hJx hY h0 => by
  obtain ⟨b, h1, h2, h3⟩ := hM.below hW
  refine bellAll1_in N hn1 l Bn n₀ B b x.length (bits_lt h2 h3) (allB x) (lowB_all b x h2 h3).symm J Jx (fun s W1 W2 hs hg => hJ s W1 W2 none hs hg (by intro r h; cases h)) (fun pre x W1 hp hl => ?_) W (Nat.le_trans hn₀ hW.size) (blk_below hBn hW) h1 hB (tab_low hT hW (by omega)) h0
  obtain ⟨fn, tmps, assign, body, hy, hR⟩ := hY pre x W1 hp hl
  refine ⟨fn, tmps, assign, body, hy, hR.mono ?_⟩
  rintro e W3 (⟨rfl, hJ3, hk3⟩ | ⟨rfl, hJx3⟩)
  · exact ⟨true, rfl, fun _ => ⟨hJ3, hk3⟩, by simp⟩
  · exact ⟨false, rfl, by simp, fun _ => hJx3⟩

set_option maxHeartbeats 400000 in
theorem bellAll_any (B : Nat) (w : World) : Calls Tryd.prog 18 #[.pointer (some ⟨B, 0, none⟩)] w fun e w' => e = .returned (.func (.func 19) #[] #[.pointer (some ⟨w.heap.size, 0, none⟩)]) ∧ w' = w.alloc (.cells #[.pointer (some ⟨B, 0, none⟩)] 24) := by
  go_enter Tryd.func18, Tryd.ntmps18
  go_wp2
  go_ret
  exact ⟨rfl, rfl⟩
end Go.Proofs.YtimikgencnkcnabDoor

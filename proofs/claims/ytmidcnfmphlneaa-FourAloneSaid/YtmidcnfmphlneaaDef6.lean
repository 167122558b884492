/- Contracts of package defect: the iterator All, and All itself. -/
import Derived.Test.YtmidcnfmphlneaaDef5
import Derived.Test.YtmidcnfmphlneaaIterU
import Derived.Stop.RegionWithIn
namespace Go.Proofs.Ytmidcnfmphlneaa
open Go.RowKit
set_option linter.unusedSimpArgs false
set_option linter.unusedVariables false
open Go.Shelf
attribute [local go_sem] Oper.semAt_some

/-- The defects that a configuration has, as far as number k. -/
def defsK (C : Cfg) (k : Nat) : List Int := ((List.range k).filter fun i => ruleB (i + 1) C).map fun i : Nat => (i : Int) + 1
def defsB (C : Cfg) : List Int := defsK C 17
theorem defsK_succ (C : Cfg) (k : Nat) : defsK C (k + 1) = if ruleB (k + 1) C = true then defsK C k ++ [(k : Int) + 1] else defsK C k := by
  rw [defsK, List.range_succ, List.filter_append, List.map_append]
  by_cases h : ruleB (k + 1) C = true
  · rw [if_pos h, List.filter_cons_of_pos (by simpa using h)]; rfl
  · rw [if_neg h, List.filter_cons_of_neg (by simpa using h)]; simp [defsK]
theorem defsK_le (C : Cfg) (k : Nat) : (defsK C k).length ≤ k := by
  rw [defsK, List.length_map]
  exact Nat.le_trans (List.length_filter_le _ _) (by simp)
theorem defsK_prefix (C : Cfg) {k n : Nat} (h : k ≤ n) : defsK C k <+: defsK C n := by
  obtain ⟨d, rfl⟩ : ∃ d, n = k + d := ⟨n - k, by omega⟩
  rw [defsK, defsK, List.range_add, List.filter_append, List.map_append]
  exact List.prefix_append _ _
/-- The types of the boxes that the iterator holds between two rounds. -/
def UT : List TypeId := 31 :: 112 :: CLT
theorem OwnB.keep {bs : List Nat} {n : Nat} {w w1 : World} (h : ∀ b, b ∈ bs → OwnB w b) (hk : KeepU UT n w w1) : KeepB bs w w1 := fun b hm => by
  obtain ⟨c, t, h1, h2⟩ := h b hm
  rw [h2]
  exact hk.2 t (by simp only [UT, List.mem_cons]; exact .inr (.inr h1)) b c _ h2

set_option maxRecDepth 100000 in
set_option maxHeartbeats 4000000 in
theorem defAll1_in (N : Nat) (hn1 : 1 ≤ N) (l Bn : Nat) (C : Cfg) (hsm : C.small) (cs : Array Value) (w0 : World) (hC : CfgAt w0 (.agg cs) C) (J Jx : List Int → World → Prop) (hJ : ∀ s W1 W2, J s W1 → W1.grownBy W2 none → J s W2)
    (hY : ∀ pre x W, J pre W → pre.length < (defsB C).length → YieldAt Fence.wide (N - 1) Try.prog l #[.int .i64 x] W fun e W' =>
      ∃ b, e = .returned (.bool b) ∧ (b = true → J (pre ++ [x]) W' ∧ KeepU UT w0.heap.size W W') ∧ (b = false → Jx (pre ++ [x]) W'))
    (W : World) (hW : Below w0.heap.size w0 W) (hBn : W.heap[Bn]? = some (.cells cs 31 (0, 0))) (h0 : J [] W) :
    CallsIn Fence.wide N Try.prog 61 #[.func (.yield l) #[] #[], .pointer (some ⟨Bn, 0, none⟩)] W fun e W' => (∃ v, e = .returned v) ∧
      ((∃ ys, ys = defsB C ∧ J ys W') ∨ (∃ pre, pre <+: defsB C ∧ Jx pre W')) := by
  have HY := Kp.mk hY
  have HC := Kp.mk hC
  have HW := Kp.mk hW
  have HBN := Kp.mk hBn
  obtain ⟨ho, pa, pc, ca, cc, a0, c0, a1, c1, hcs, bp, bc, b0, b1, _, _, _, _⟩ := hC
  simp only [Value.agg.injEq] at hcs
  subst hcs
  clear hY hW hBn ho
  refine callsIn_of_wp Try.func61 rfl trivial ?_ rfl
  simp only [Try.ntmps61, List.size_toArray, List.length_cons, List.length_nil, Nat.reduceAdd, Nat.reduceSub, Array.replicate_succ, Array.replicate_zero, List.push_toArray, List.append_toArray, List.nil_append, List.cons_append]
  gi_wp2_with fail
  refine ⟨trivial, (callsIn_wide.2 (rules_any _)).mono ?_⟩
  rintro e w1 ⟨R, rfl, hR, hb1, hRl⟩
  have HB1 := Kp.mk hb1
  have HJ1 := Kp.mk (hJ _ _ _ h0 (grown_below hb1))
  have HK1 := Kp.mk (KeepU.of_below (Ts := UT) HW.out.size hb1)
  have hw1 := hb1.size
  clear hb1
  gi_wp2_with fail
  gi_loopw [7] (fun i wr => ∃ k : Nat, k ≤ 17 ∧ i = .int .i64 k ∧ Kp (KeepU UT w0.heap.size w1 wr) ∧ Kp (J (defsK C k) wr)) (fun i wr => 17 - (intOf i).toNat)
  case atStart => exact ⟨0, Nat.zero_le _, rfl, ⟨KeepU.refl _ _ _⟩, HJ1⟩
  case round =>
    obtain ⟨k, hk, rfl, HK, HJ⟩ := hrel
    by_cases hk17 : k < 17
    · obtain ⟨fs, hfs, hrs⟩ := hR.out
      obtain ⟨f, hf, bs, hown, fn, caps, rfl, hE, hr⟩ := hrs k hk17
      have hRr := HK.out.2 112 (by decide) R fs _ hfs
      have hRlt := blk_lt hRr
      have cR : wr.cell? ⟨R, k, none⟩ = some (.func (.func fn) #[] caps) := (cell_blk hRr k).trans hf
      have hcf := HK.out.2 31 (by decide) Bn _ _ (HK1.out.2 31 (by decide) Bn _ _ HBN.out)
      have hcl := blk_lt hcf
      have HCF := Kp.mk hcf
      have HCW : Kp (Below w0.heap.size w0 wr) := ⟨(HW.out.trans HK1.out.1).trans HK.out.1⟩
      have HR1 := Kp.mk hr
      have HKB := Kp.mk (OwnB.keep hown HK.out)
      have HOWN : Kp (∀ b, b ∈ bs → b < wr.heap.size) := ⟨fun b hm => Nat.lt_of_lt_of_le (hown b hm).lt HK.out.1.size⟩
      have hE' := hE.out
      have s1 : IntKind.i64.wrap ((k : Int) + 1) = (k : Int) + 1 := IntWalk.i64_in _ (by omega)
      have k0 : (0 : Int) ≤ (k : Int) := by omega
      have k1 : (k : Int) < 17 := by omega
      have HS := Kp.mk (defsK_succ C k)
      clear hfs hf hrs hr hRr hown hcf hE
      obtain ⟨d, hd⟩ : ∃ d, ruleB (k + 1) C = d := ⟨_, rfl⟩
      have q0 : wr.cell? ⟨Bn, 0, none⟩ = some (.slice pa C.parts.length pc) := (cell_blk HCF.out 0).trans rfl
      have q1 : wr.cell? ⟨Bn, 1, none⟩ = some (.slice ca C.chans.length cc) := (cell_blk HCF.out 1).trans rfl
      have q2 : wr.cell? ⟨Bn, 2, none⟩ = some (.int .i64 C.l0) := (cell_blk HCF.out 2).trans rfl
      have q3 : wr.cell? ⟨Bn, 3, none⟩ = some (.slice a0 C.w0.length c0) := (cell_blk HCF.out 3).trans rfl
      have q4 : wr.cell? ⟨Bn, 4, none⟩ = some (.int .i64 C.l1) := (cell_blk HCF.out 4).trans rfl
      have q5 : wr.cell? ⟨Bn, 5, none⟩ = some (.slice a1 C.w1.length c1) := (cell_blk HCF.out 5).trans rfl
      have HBW : Kp (Below wr.heap.size wr (wr.alloc (.cells #[.func (.func fn) #[] caps] 112))) := ⟨below_al (Below.refl _ _) _⟩
      gi_wp2_with fail
      refine ⟨trivial, (callsIn_wide.2 (HR1.out _ _ C (fun b hm => (HBW.out.block b (HOWN.out b hm)).trans (HKB.out b hm)) (HC.out.below (HCW.out.trans (HBW.out.mono HCW.out.size))) hsm)).mono ?_⟩
      rw [hd]
      rintro e w3 ⟨rfl, hb3⟩
      have HB3 := Kp.mk (below_call HBW.out hb3)
      clear hb3
      cases d with
      | false =>
        have HN : Kp (defsK C (k + 1) = defsK C k) := ⟨by rw [HS.out, hd, if_neg (by simp)]⟩
        gi_wp2_with fail
        refine ⟨fun _ h => (by cases h), ?_⟩
        gi_wp2
        go_roundw
        case rel => exact ⟨k + 1, by omega, by go_num, ⟨HK.out.trans (KeepU.of_below HCW.out.size HB3.out)⟩, ⟨by rw [HN.out]; exact hJ _ _ _ HJ.out (grown_below HB3.out)⟩⟩
        case measure => simp [intOf]; omega
      | true =>
        have HN : Kp (defsK C (k + 1) = defsK C k ++ [(k : Int) + 1]) := ⟨by rw [HS.out, hd, if_pos rfl]⟩
        have hlt : (defsK C k).length < (defsB C).length := by
          have h := (defsK_prefix C (show k + 1 ≤ 17 by omega)).length_le
          rw [HN.out, List.length_append] at h
          simp at h
          exact h
        gi_wp2_with fail
        try rw [s1]
        obtain ⟨fn', tmps, assign, body, hy, hR'⟩ := HY.out (defsK C k) ((k : Int) + 1) w3 (hJ _ _ _ HJ.out (grown_below HB3.out)) hlt
        rw [hy, Oper.uponIn_round]
        refine ⟨fun _ => hn1, hR'.mono ?_⟩
        rintro e w4 ⟨b', rfl, hb⟩
        obtain ⟨hbt, hbf⟩ := hb
        cases b' with
        | true =>
          obtain ⟨hJ3, hk3⟩ := hbt rfl
          have HJ3 := Kp.mk hJ3
          have HK3 := Kp.mk hk3
          clear hbt hbf hJ3 hk3
          gi_wp2
          go_roundw
          case rel => exact ⟨k + 1, by omega, by go_num, ⟨(HK.out.trans (KeepU.of_below HCW.out.size HB3.out)).trans HK3.out⟩, ⟨by rw [HN.out]; exact HJ3.out⟩⟩
          case measure => simp [intOf]; omega
        | false =>
          have HJ3 := Kp.mk (hbf rfl)
          clear hbt hbf
          gi_wp2
          refine bodyPost_ret (results_none rfl _ _ _) rfl ?_
          exact ⟨⟨_, rfl⟩, .inr ⟨_, by rw [← HN.out]; exact defsK_prefix C (by omega), HJ3.out⟩⟩
    · obtain rfl : k = 17 := by omega
      gi_wp2
      go_end0
      exact ⟨⟨_, rfl⟩, .inl ⟨_, rfl, HJ.out⟩⟩

theorem defAll_stops (N : Nat) (hn1 : 1 ≤ N) (Bn : Nat) (C : Cfg) (hsm : C.small) (cs : Array Value) (w0 w : World) (hC : CfgAt w0 (.agg cs) C) (hw : Below w0.heap.size w0 w) (hBn : w.heap[Bn]? = some (.cells cs 31 (0, 0))) :
    SeqStopsK Fence.wide N Try.prog 61 #[.pointer (some ⟨Bn, 0, none⟩)] (fun x : Int => #[Value.int .i64 x]) (KeepU UT w0.heap.size) (fun ys => ys = defsB C) (fun pre => pre <+: defsB C) (defsB C).length w := fun l J Jx W hW hJ hJx hY h0 => by
  refine defAll1_in N hn1 l Bn C hsm cs w0 hC J Jx (fun s W1 W2 hs hg => hJ s W1 W2 none hs hg (by intro r h; cases h)) (fun pre x W1 hp hl => ?_) W (below_call hw hW) (blk_below hBn hW) h0
  obtain ⟨fn, tmps, assign, body, hy, hR⟩ := hY pre x W1 hp hl
  refine ⟨fn, tmps, assign, body, hy, hR.mono ?_⟩
  rintro e W3 (⟨rfl, hJ3, hk3⟩ | ⟨rfl, hJx3⟩)
  · exact ⟨true, rfl, fun _ => ⟨hJ3, hk3⟩, by simp⟩
  · exact ⟨false, rfl, by simp, fun _ => hJx3⟩

set_option maxHeartbeats 400000 in
theorem defAll_any (v0 v1 v2 v3 v4 v5 : Value) (w : World) : Calls Try.prog 58 #[.agg #[v0, v1, v2, v3, v4, v5]] w fun e w' => e = .returned (.func (.func 61) #[] #[.pointer (some ⟨w.heap.size, 0, none⟩)]) ∧ w' = w.alloc (.cells #[v0, v1, v2, v3, v4, v5] 31) := by
  go_enter Try.func58, Try.ntmps58
  go_wp2
  go_ret
  exact ⟨rfl, rfl⟩
end Go.Proofs.Ytmidcnfmphlneaa

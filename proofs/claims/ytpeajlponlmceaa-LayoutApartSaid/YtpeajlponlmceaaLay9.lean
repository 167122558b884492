/- Contracts of package layout: the iterator All; what is told, as far as so many. -/
import Derived.Test.YtpeajlponlmceaaLay8
import Derived.Test.YtpeajlponlmceaaIterR
import Derived.Stop.RegionWithIn
namespace Go.Proofs.Ytpeajlponlmceaa
open Go.RowKit
set_option linter.unusedSimpArgs false
set_option linter.unusedVariables false
open Go.Shelf
attribute [local go_sem] Oper.semAt_some
theorem take_pre {α : Type} (l : List α) (k : Nat) : l.take k <+: l := List.take_prefix k l
theorem take_snoc' {α : Type} (l : List α) (k : Nat) (h : k < l.length) : l.take (k + 1) = l.take k ++ [l[k]] := List.take_succ_eq_append_getElem h

set_option maxRecDepth 100000 in
set_option maxHeartbeats 4000000 in
theorem layAll1_in (N : Nat) (hn1 : 1 ≤ N) (l Bn rb : Nat) (C : Cfg) (hsm : C.small) (cs : Array Value) (w0 : World) (hC : CfgAt w0 (.agg cs) C) (J Jx : List (Int × Int) → World → Prop) (hJ : ∀ s W1 W2, J s W1 → W1.grownBy W2 none → J s W2)
    (hY : ∀ pre x W, J pre W → pre.length < (planL C).length → YieldAt Fence.wide (N - 1) Try.prog l #[.agg #[.int .i64 x.1, .int .i64 x.2]] W fun e W' =>
      ∃ b, e = .returned (.bool b) ∧ (b = true → J (pre ++ [x]) W' ∧ KeepR rb 49 w0.heap.size W W') ∧ (b = false → Jx (pre ++ [x]) W'))
    (W : World) (hW : Below w0.heap.size w0 W) (hBn : W.heap[Bn]? = some (.cells cs 29 (0, 0))) (hrb : rb < W.heap.size) (hrn : ptrB W rb = none) (h0 : J [] W) :
    CallsIn Fence.wide N Try.prog 91 #[.func (.yield l) #[] #[], .pointer (some ⟨Bn, 0, none⟩)] W fun e W' => (∃ v, e = .returned v) ∧
      ((∃ ys, ys = planL C ∧ J ys W') ∨ (∃ pre, pre <+: planL C ∧ Jx pre W')) := by
  have HY := Kp.mk hY
  have HC := Kp.mk hC
  have HW := Kp.mk hW
  have HBN := Kp.mk hBn
  have HRN := Kp.mk hrn
  obtain ⟨ho, pa, pc, ca, cc, a0, c0, a1, c1, hcs, bp, bc, b0, b1, _, _, _, _⟩ := hC
  simp only [Value.agg.injEq] at hcs
  subst hcs
  have hfd := plan_field1
  have lq := blk_lt hBn
  have hw0 := hW.size
  have q0 : W.cell? ⟨Bn, 0, none⟩ = some (.slice pa C.parts.length pc) := (cell_blk HBN.out 0).trans rfl
  have q1 : W.cell? ⟨Bn, 1, none⟩ = some (.slice ca C.chans.length cc) := (cell_blk HBN.out 1).trans rfl
  have q2 : W.cell? ⟨Bn, 2, none⟩ = some (.int .i64 C.l0) := (cell_blk HBN.out 2).trans rfl
  have q3 : W.cell? ⟨Bn, 3, none⟩ = some (.slice a0 C.w0.length c0) := (cell_blk HBN.out 3).trans rfl
  have q4 : W.cell? ⟨Bn, 4, none⟩ = some (.int .i64 C.l1) := (cell_blk HBN.out 4).trans rfl
  have q5 : W.cell? ⟨Bn, 5, none⟩ = some (.slice a1 C.w1.length c1) := (cell_blk HBN.out 5).trans rfl
  clear hY hW hBn ho hrn
  obtain ⟨L, hL⟩ : ∃ L, planL C = L := ⟨_, rfl⟩
  have HL := Kp.mk hL
  have hle : L.length ≤ 22 := hL ▸ planL_le C
  rw [hL] at HY ⊢
  clear hL
  refine callsIn_of_wp Try.func91 rfl trivial ?_ rfl
  simp only [Try.ntmps91, List.size_toArray, List.length_cons, List.length_nil, Nat.reduceAdd, Nat.reduceSub, Array.replicate_succ, Array.replicate_zero, List.push_toArray, List.append_toArray, List.nil_append, List.cons_append]
  gi_wp2_with fail
  refine ⟨trivial, (callsIn_wide.2 (of_any _ C hsm _ (HC.out.below HW.out))).mono ?_⟩
  rw [HL.out]
  rintro e w1 ⟨v, rfl, hO, hb1⟩
  have HR := Kp.mk (RowAt.of_own hO)
  have HG : Kp (0 < L.length → ∃ g c0 cp, v = .slice (some ⟨g, 0, none⟩) L.length cp ∧ w1.heap[g]? = some (.cells c0 49 (0, 0)) ∧ c0.toList.take (L.length * 2) = L.flatMap spanC ∧ L.length ≤ cp ∧ c0.size = cp * 2) := ⟨fun hp => by
    rcases hO.2 with ⟨_, h0⟩ | ⟨g, cp, cur, hv, _, hg, h3, _, h5, h6⟩
    · omega
    · exact ⟨g, cur, cp, hv, hg, h6, h3, h5⟩⟩
  obtain ⟨va, vc, rfl, hv1, hv2⟩ := HR.out.shape
  have HJ1 := Kp.mk (hJ _ _ _ h0 (grown_below hb1))
  have HP1 : Kp (ptrB w1 rb = none) := ⟨(ptrB_eq (hb1.block rb hrb)).trans HRN.out⟩
  have hw1 := hb1.size
  clear hb1 hO q0 q1 q2 q3 q4 q5 lq HBN HW
  gi_wp2_with fail
  clear hfd
  gi_loopw [9] (fun i wr => ∃ k : Nat, k ≤ L.length ∧ i = .int .i64 k ∧ Kp (KeepR rb 49 w0.heap.size w1 wr) ∧ Kp (J (L.take k) wr)) (fun i wr => L.length - (intOf i).toNat)
  case atStart => exact ⟨0, Nat.zero_le _, rfl, ⟨KeepR.refl _ _ _ _⟩, HJ1⟩
  case round =>
    obtain ⟨k, hk, rfl, HK, HJ⟩ := hrel
    by_cases hlt : k < L.length
    · obtain ⟨g, cur, cp, hv, hg, ht, hcp, hsz⟩ := HG.out (by omega)
      simp only [Value.slice.injEq] at hv
      obtain ⟨rfl, _, rfl⟩ := hv
      have hgr := HK.out.2.2 g cur _ hg (by rw [HP1.out]; simp)
      have lg := blk_lt hgr
      obtain ⟨x, hx⟩ : ∃ x, L[k] = x := ⟨_, rfl⟩
      have hcell : ∀ j, j < 2 → cur[k * 2 + j]? = (spanC x)[j]? := fun j hj => by
        have h1 : (cur.toList.take (L.length * 2))[k * 2 + j]? = cur[k * 2 + j]? := by
          rw [List.getElem?_take_of_lt (by omega), Array.getElem?_toList]
        rw [← h1, ht, flat_at spanC 2 spanC_len L k j hlt hj, hx]
      have e0 : wr.cell? ⟨g, k * 2, none⟩ = some (.int .i64 x.1) := (cell_blk hgr _).trans (hcell 0 (by omega))
      have e1 : wr.cell? ⟨g, k * 2 + 1, none⟩ = some (.int .i64 x.2) := (cell_blk hgr _).trans (hcell 1 (by omega))
      have HN : Kp (L.take (k + 1) = L.take k ++ [x]) := ⟨by rw [take_snoc' L k hlt, hx]⟩
      have hlen : (L.take k).length < L.length := by rw [List.length_take]; omega
      have s1 : IntKind.i64.wrap ((k : Int) + 1) = (k : Int) + 1 := IntWalk.i64_in _ (by omega)
      have hwr := HK.out.1.size
      have HBA : Kp (Below wr.heap.size wr (wr.alloc (.cells #[.int .i64 x.1, .int .i64 x.2] 49))) := ⟨below_al (Below.refl _ _) _⟩
      clear hgr ht hcell hg hx
      gi_wp2_with fail
      obtain ⟨fn', tmps, assign, body, hy, hR'⟩ := HY.out (L.take k) x (wr.alloc (.cells #[.int .i64 x.1, .int .i64 x.2] 49)) (hJ _ _ _ HJ.out (grown_below HBA.out)) hlen
      rw [hy, Oper.uponIn_round]
      refine ⟨fun _ => hn1, hR'.mono ?_⟩
      rintro e w4 ⟨b', rfl, hb⟩
      obtain ⟨hbt, hbf⟩ := hb
      cases b' with
      | true =>
        obtain ⟨hJ3, hk3⟩ := hbt rfl
        have HJ3 := Kp.mk hJ3
        have HK3 := Kp.mk hk3
        clear hbt hbf hJ3 hk3
        gi_wp2
        go_roundw
        case rel => exact ⟨k + 1, by omega, by go_num, ⟨(HK.out.trans (KeepR.of_below (by omega) (by omega) HBA.out)).trans HK3.out⟩, ⟨by rw [HN.out]; exact HJ3.out⟩⟩
        case measure => simp [intOf]; omega
      | false =>
        have HJ3 := Kp.mk (hbf rfl)
        clear hbt hbf
        gi_wp2
        refine bodyPost_ret (results_none rfl _ _ _) rfl ?_
        exact ⟨⟨_, rfl⟩, .inr ⟨_, by rw [← HN.out]; exact take_pre _ _, HJ3.out⟩⟩
    · obtain rfl : k = L.length := by omega
      gi_wp2
      go_end0
      exact ⟨⟨_, rfl⟩, .inl ⟨_, rfl, by have h := HJ.out; rw [List.take_length] at h; exact h⟩⟩

theorem layAll_stops (N : Nat) (hn1 : 1 ≤ N) (Bn rb : Nat) (C : Cfg) (hsm : C.small) (cs : Array Value) (w0 w : World) (hC : CfgAt w0 (.agg cs) C) (hw : Below w0.heap.size w0 w) (hBn : w.heap[Bn]? = some (.cells cs 29 (0, 0))) (hrb : rb < w.heap.size) (hrn : ptrB w rb = none) :
    SeqStopsK Fence.wide N Try.prog 91 #[.pointer (some ⟨Bn, 0, none⟩)] (fun x : Int × Int => #[.agg #[.int .i64 x.1, .int .i64 x.2]]) (KeepR rb 49 w0.heap.size) (fun ys => ys = planL C) (fun pre => pre <+: planL C) (planL C).length w := fun l J Jx W hW hJ hJx hY h0 => by
  refine layAll1_in N hn1 l Bn rb C hsm cs w0 hC J Jx (fun s W1 W2 hs hg => hJ s W1 W2 none hs hg (by intro r h; cases h)) (fun pre x W1 hp hl => ?_) W (below_call hw hW) (blk_below hBn hW) (by have := hW.size; omega) ((ptrB_eq (hW.block rb hrb)).trans hrn) h0
  obtain ⟨fn, tmps, assign, body, hy, hR⟩ := hY pre x W1 hp hl
  refine ⟨fn, tmps, assign, body, hy, hR.mono ?_⟩
  rintro e W3 (⟨rfl, hJ3, hk3⟩ | ⟨rfl, hJx3⟩)
  · exact ⟨true, rfl, fun _ => ⟨hJ3, hk3⟩, by simp⟩
  · exact ⟨false, rfl, by simp, fun _ => hJx3⟩

set_option maxHeartbeats 400000 in
theorem layAll_any (v0 v1 v2 v3 v4 v5 : Value) (w : World) : Calls Try.prog 54 #[.agg #[v0, v1, v2, v3, v4, v5]] w fun e w' => e = .returned (.func (.func 91) #[] #[.pointer (some ⟨w.heap.size, 0, none⟩)]) ∧ w' = w.alloc (.cells #[v0, v1, v2, v3, v4, v5] 29) := by
  go_enter Try.func54, Try.ntmps54
  go_wp2
  go_ret
  exact ⟨rfl, rfl⟩
end Go.Proofs.Ytpeajlponlmceaa

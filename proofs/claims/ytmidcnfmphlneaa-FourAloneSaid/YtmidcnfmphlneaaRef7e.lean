/- The contracts of the reference's Holds, All and Accepts, of defects. -/
import Derived.Test.YtmidcnfmphlneaaRef7c
import Derived.Test.YtmidcnfmphlneaaRef7d
namespace Go.Proofs.Ytmidcnfmphlneaa
open Go.RowKit
set_option linter.unusedSimpArgs false
set_option linter.unusedVariables false

theorem refHolds_in (cv : Value) (C : Cfg) (hsm : C.small) (w : World) (h : CfgAt w cv C) (j : Nat) (hj : j < 17) : Calls Try.prog 33 #[cv, .int .i64 ((j + 1 : Nat) : Int)] w fun e w' => e = .returned (.bool (ruleB (j + 1) C)) ∧ Below w.heap.size w w' :=
  match j, hj with
  | 0, _ => refHolds1 cv C hsm w h
  | 1, _ => refHolds2 cv C hsm w h
  | 2, _ => refHolds3 cv C hsm w h
  | 3, _ => refHolds4 cv C hsm w h
  | 4, _ => refHolds5 cv C hsm w h
  | 5, _ => refHolds6 cv C hsm w h
  | 6, _ => refHolds7 cv C hsm w h
  | 7, _ => refHolds8 cv C hsm w h
  | 8, _ => refHolds9 cv C hsm w h
  | 9, _ => refHolds10 cv C hsm w h
  | 10, _ => refHolds11 cv C hsm w h
  | 11, _ => refHolds12 cv C hsm w h
  | 12, _ => refHolds13 cv C hsm w h
  | 13, _ => refHolds14 cv C hsm w h
  | 14, _ => refHolds15 cv C hsm w h
  | 15, _ => refHolds16 cv C hsm w h
  | 16, _ => refHolds17 cv C hsm w h
  | j + 17, hj => absurd hj (by omega)
set_option maxHeartbeats 1000000 in
theorem refHolds_out (cv : Value) (C : Cfg) (k : Int) (hk : k < 1 ∨ 17 < k) (w : World) (h : CfgAt w cv C) : Calls Try.prog 33 #[cv, .int .i64 k] w fun e w' => e = .returned (.bool false) ∧ Below w.heap.size w w' := by
  obtain ⟨ho, pa, pc, ca, cc, a0, c0, a1, c1, rfl, bp, bc, b0, b1, hp, hc, hw0, hw1⟩ := h
  clear hp hc hw0 hw1 ho
  have k1 : (k == 1) = false := by rw [beq_eq_false_iff_ne]; omega
  have k2 : (k == 2) = false := by rw [beq_eq_false_iff_ne]; omega
  have k3 : (k == 3) = false := by rw [beq_eq_false_iff_ne]; omega
  have k4 : (k == 4) = false := by rw [beq_eq_false_iff_ne]; omega
  have k17 : (k == 17) = false := by rw [beq_eq_false_iff_ne]; omega
  have n1 : ¬ k = 1 := by omega
  have n2 : ¬ k = 2 := by omega
  have n3 : ¬ k = 3 := by omega
  have n4 : ¬ k = 4 := by omega
  have n17 : ¬ k = 17 := by omega
  by_cases h5 : 5 ≤ k
  · have h11 : ¬ k ≤ 11 := by omega
    have h12 : 12 ≤ k := by omega
    have h16 : ¬ k ≤ 16 := by omega
    have d5 : decide (5 ≤ k) = true := decide_eq_true h5
    have d11 : decide (k ≤ 11) = false := decide_eq_false h11
    have d12 : decide (12 ≤ k) = true := decide_eq_true h12
    have d16 : decide (k ≤ 16) = false := decide_eq_false h16
    go_enter Try.func33, Try.ntmps33
    go_wp2
    go_ret
    exact ⟨rfl, (by repeat (first | exact Below.refl _ _ | apply below_al))⟩
  · have h12 : ¬ 12 ≤ k := by omega
    have d5 : decide (5 ≤ k) = false := decide_eq_false h5
    have d12 : decide (12 ≤ k) = false := decide_eq_false h12
    go_enter Try.func33, Try.ntmps33
    go_wp2
    go_ret
    exact ⟨rfl, (by repeat (first | exact Below.refl _ _ | apply below_al))⟩
theorem refHolds_any (cv : Value) (C : Cfg) (hsm : C.small) (k : Int) (b : Bool) (hb : holdsB C k = b) (w : World) (h : CfgAt w cv C) : Calls Try.prog 33 #[cv, .int .i64 k] w fun e w' => e = .returned (.bool b) ∧ Below w.heap.size w w' := by
  subst hb
  cases hk : inB k 1 17 with
  | true =>
    have hin := inB_iff.1 hk
    obtain ⟨j, rfl⟩ : ∃ j : Nat, k = ((j + 1 : Nat) : Int) := ⟨(k - 1).toNat, by omega⟩
    have hv : holdsB C ((j + 1 : Nat) : Int) = ruleB (j + 1) C := by rw [holdsB, hk]; rfl
    rw [hv]
    exact refHolds_in cv C hsm w h j (by omega)
  | false =>
    have hout := inB_niff.1 hk
    have hv : holdsB C k = false := by rw [holdsB, hk]; rfl
    rw [hv]
    exact refHolds_out cv C k (by omega) w h

set_option maxRecDepth 100000 in
set_option maxHeartbeats 2000000 in
theorem refDefs_any (cv : Value) (C : Cfg) (hsm : C.small) (w : World) (h : CfgAt w cv C) :
    Calls Try.prog 26 #[cv] w fun e w' => ∃ a c, e = .returned (.slice a (defsB C).length c) ∧ Kp (w'.ownsRow w.heap.size 3 1 (.slice a (defsB C).length c) (defsB C).length (i64s (defsB C))) ∧ Below w.heap.size w w' := by
  have HC := Kp.mk h
  obtain ⟨ho, pa, pc, ca, cc, a0, c0, a1, c1, rfl, bp, bc, b0, b1, hp, hc, hw0, hw1⟩ := h
  obtain ⟨i0, hi, hz0, hz1, hz2⟩ := info_parts Try.infoInt
  have HA : Kp (defsB C = defsK C 17) := ⟨rfl⟩
  clear hp hc hw0 hw1 ho
  go_enter Try.func26, Try.ntmps26
  go_wp2_with fail
  go_loopw [3, 4] (fun vo i wr => ∃ (k : Nat) (q : List Int), k ≤ 17 ∧ i = .int .i64 ((k : Int) + 1) ∧ Kp (Below w.heap.size w wr) ∧ Kp (wr.heap[w.heap.size]? = some (.cells #[.slice pa C.parts.length pc, .slice ca C.chans.length cc, .int .i64 C.l0, .slice a0 C.w0.length c0, .int .i64 C.l1, .slice a1 C.w1.length c1] 31 (0, 0))) ∧ Kp (defsK C k = q) ∧ Kp (wr.ownsRow (w.heap.size + 1) 3 1 vo q.length (i64s q))) (fun vo i wr => 18 - (intOf i).toNat)
  case atStart => exact ⟨0, [], Nat.zero_le _, rfl, ⟨below_al (Below.refl _ _) _⟩, ⟨blk_new w _⟩, ⟨rfl⟩, ⟨World.ownsRow_nil _ _ _ _⟩⟩
  case round =>
    obtain ⟨k, q, hk, rfl, HB, HK, HQ, HO⟩ := hrel
    obtain ⟨av, cv', rfl, hv1, hv2⟩ := (RowAt.of_own HO.out).shape
    have e0 : wr.cell? ⟨w.heap.size, 0, none⟩ = some (.slice pa C.parts.length pc) := (cell_blk HK.out 0).trans rfl
    have e1 : wr.cell? ⟨w.heap.size, 1, none⟩ = some (.slice ca C.chans.length cc) := (cell_blk HK.out 1).trans rfl
    have e2 : wr.cell? ⟨w.heap.size, 2, none⟩ = some (.int .i64 C.l0) := (cell_blk HK.out 2).trans rfl
    have e3 : wr.cell? ⟨w.heap.size, 3, none⟩ = some (.slice a0 C.w0.length c0) := (cell_blk HK.out 3).trans rfl
    have e4 : wr.cell? ⟨w.heap.size, 4, none⟩ = some (.int .i64 C.l1) := (cell_blk HK.out 4).trans rfl
    have e5 : wr.cell? ⟨w.heap.size, 5, none⟩ = some (.slice a1 C.w1.length c1) := (cell_blk HK.out 5).trans rfl
    have l0 := blk_lt HK.out
    have hql : q.length ≤ k := by rw [← HQ.out]; exact defsK_le C k
    by_cases hlt : k < 17
    · have h17 : (k : Int) + 1 ≤ 17 := by omega
      have s1 : IntKind.i64.wrap ((k : Int) + 1 + 1) = (k : Int) + 1 + 1 := IntWalk.i64_in _ (by omega)
      obtain ⟨d, hd⟩ : ∃ d, ruleB (k + 1) C = d := ⟨_, rfl⟩
      have HN : Kp (defsK C (k + 1) = if d = true then q ++ [(k : Int) + 1] else q) := ⟨by rw [defsK_succ, hd, HQ.out]⟩
      have HH : Kp (holdsB C ((k : Int) + 1) = d) := ⟨by
        rw [holdsB, inB_true (by omega), Bool.true_and, ← hd]; rfl⟩
      clear hd
      go_wp2_with fail
      refine (refHolds_any _ C hsm _ d HH.out _ (HC.out.below HB.out)).mono ?_
      rintro e w1 ⟨rfl, hb1⟩
      have HB1 := Kp.mk (below_call HB.out hb1)
      have HK1 := Kp.mk (blk_below HK.out hb1)
      have HO1 := Kp.mk (own_below HO.out hb1)
      have hw1 := HB1.out.size
      have hl1 := blk_lt HK1.out
      clear hb1
      cases d with
      | false =>
        have HN2 : Kp (defsK C (k + 1) = q) := ⟨by rw [HN.out, if_neg (by simp)]⟩
        go_wp2
        go_roundw
        case rel => exact ⟨k + 1, q, by omega, by go_num, HB1, HK1, HN2, HO1⟩
        case measure => simp [intOf]; omega
      | true =>
        have HN2 : Kp (defsK C (k + 1) = q ++ [(k : Int) + 1]) := ⟨by rw [HN.out, if_pos rfl]⟩
        go_wp2_with (at_builtin; refine wpList_append_own _ rfl _ _ 81 rfl (w.heap.size + 1) 3 i0 (.int .i64 0) 1 8 Try.underlying81 hi hz0 hz1 hz2 rfl (by decide) _ _ _ rfl (HO1.out.alloc _) ⟨w1.heap.size, 0, none⟩ 1 1 [.int .i64 ((k : Int) + 1)] rfl rfl (cell_one_new _ _ _) (by simp [Value.oneCell']) (by unfold maxLen; omega) (by omega) (by simp; omega) ?_; intro v' w9 hown' hgrow _)
        have e9 := blk_grown (blk_al HK1.out _) (b := w.heap.size) (by omega) (HO1.out.alloc _) hgrow
        go_roundw
        case rel => exact ⟨k + 1, q ++ [(k : Int) + 1], by omega, by go_num, ⟨below_own2 (below_al HB1.out _) (by simp; omega) (by omega) (HO1.out.alloc _) hgrow⟩, ⟨e9⟩, HN2, ⟨by
          rw [List.length_append, i64s, List.map_append]
          exact hown'⟩⟩
        case measure => simp [intOf]; omega
    · obtain rfl : k = 17 := by omega
      have h17 : ¬ ((17 : Nat) : Int) + 1 ≤ 17 := by omega
      go_wp2
      go_ret
      rw [HA.out, HQ.out]
      exact ⟨_, _, rfl, ⟨own_base HO.out (by omega)⟩, HB.out⟩
def accB (C : Cfg) : Bool := (defsB C).isEmpty
theorem accB_first (C : Cfg) : (firstB C == 0) = accB C := by
  rw [firstB, accB]
  cases h : defsB C with
  | nil => rfl
  | cons x l =>
    have hx : x ∈ defsB C := by rw [h]; simp
    have h1 : 1 ≤ x := by
      simp only [defsB, defsK, List.mem_map] at hx
      obtain ⟨i, _, rfl⟩ := hx
      omega
    simp only [List.headD_cons, List.isEmpty_cons]
    rw [beq_eq_false_iff_ne]
    omega
set_option maxHeartbeats 400000 in
theorem refAccepts_any (cv : Value) (C : Cfg) (hsm : C.small) (w : World) (h : CfgAt w cv C) : Calls Try.prog 19 #[cv] w fun e w' => e = .returned (.bool (accB C)) ∧ Below w.heap.size w w' := by
  have HC := Kp.mk h
  obtain ⟨ho, pa, pc, ca, cc, a0, c0, a1, c1, rfl, bp, bc, b0, b1, hp, hc, hw0, hw1⟩ := h
  obtain ⟨l, hl⟩ : ∃ l, defsB C = l := ⟨_, rfl⟩
  have HL := Kp.mk hl
  have HA : Kp (accB C = (l.length == 0)) := ⟨by rw [accB, hl]; cases l <;> rfl⟩
  clear hl
  go_enter Try.func19, Try.ntmps19
  go_wp2_with fail
  refine (refDefs_any _ C hsm _ (HC.out.below (by repeat (first | exact Below.refl _ _ | apply below_al)))).mono ?_
  rw [HL.out]
  rintro e w1 ⟨a, c, rfl, ho1, hb1⟩
  go_wp2
  go_ret
  exact ⟨ret_bool (by rw [HA.out]; cases l <;> first | rfl | (simp; omega)), below_call (by repeat (first | exact Below.refl _ _ | apply below_al)) hb1⟩
end Go.Proofs.Ytmidcnfmphlneaa

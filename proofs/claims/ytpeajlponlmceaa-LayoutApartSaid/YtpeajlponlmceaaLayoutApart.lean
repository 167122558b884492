/- The law LayoutApart. -/
import Derived.Test.YtpeajlponlmceaaLayAP
import Derived.WalkLawsBesides
import Derived.Deep.DeepCutAuto
namespace Go.Proofs.Ytpeajlponlmceaa
open Go.RowKit
set_option linter.unusedSimpArgs false
set_option linter.unusedVariables false

set_option maxRecDepth 100000 in
set_option maxHeartbeats 8000000 in
theorem layoutApart_great (cv : Value) (C : Cfg) (hg : C.great = true) (w : World) (h : CfgAt w cv C) : Calls Try.prog 12 #[cv] w fun e w' => e = .returned (.bool true) ∧ Below w.heap.size w w' := by
  have HC := Kp.mk h
  obtain ⟨ho, pa, pc, ca, cc, a0, c0, a1, c1, rfl, bp, bc, b0, b1, hp, hc, hw0, hw1⟩ := h
  clear ho hp hc hw0 hw1
  go_enter Try.func12, Try.ntmps12
  have HB0 : Kp (Below w.heap.size w w) := ⟨Below.refl _ _⟩
  go_wp2_with fail
  refine (wakes8_any _).mono ?_
  rintro e w1 ⟨rfl, hb⟩
  have q1 : Kp (w1.heap[w.heap.size]? = some (.cells #[.slice pa C.parts.length pc, .slice ca C.chans.length cc, .int .i64 C.l0, .slice a0 C.w0.length c0, .int .i64 C.l1, .slice a1 C.w1.length c1] 29 (0, 0))) := ⟨blk_below (blk_new _ _) hb⟩
  have HB1 : Kp (Below w.heap.size w w1) := ⟨below_call (below_al HB0.out _) hb⟩
  clear HB0 hb
  have qc0 : w1.cell? ⟨w.heap.size, 0, none⟩ = some (.slice pa C.parts.length pc) := (cell_blk q1.out 0).trans rfl
  have qc1 : w1.cell? ⟨w.heap.size, 1, none⟩ = some (.slice ca C.chans.length cc) := (cell_blk q1.out 1).trans rfl
  have qc2 : w1.cell? ⟨w.heap.size, 2, none⟩ = some (.int .i64 C.l0) := (cell_blk q1.out 2).trans rfl
  have qc3 : w1.cell? ⟨w.heap.size, 3, none⟩ = some (.slice a0 C.w0.length c0) := (cell_blk q1.out 3).trans rfl
  have qc4 : w1.cell? ⟨w.heap.size, 4, none⟩ = some (.int .i64 C.l1) := (cell_blk q1.out 4).trans rfl
  have qc5 : w1.cell? ⟨w.heap.size, 5, none⟩ = some (.slice a1 C.w1.length c1) := (cell_blk q1.out 5).trans rfl
  have ql := blk_lt q1.out
  go_wp2_with fail
  refine (great_any _ C _ (HC.out.below HB1.out)).mono ?_
  rw [hg]
  rintro e w2 ⟨rfl, hb⟩
  have q2 : Kp (w2.heap[w.heap.size]? = some (.cells #[.slice pa C.parts.length pc, .slice ca C.chans.length cc, .int .i64 C.l0, .slice a0 C.w0.length c0, .int .i64 C.l1, .slice a1 C.w1.length c1] 29 (0, 0))) := ⟨blk_below q1.out hb⟩
  have HB2 : Kp (Below w.heap.size w w2) := ⟨below_call HB1.out hb⟩
  clear qc0 qc1 qc2 qc3 qc4 qc5 ql q1 HB1 hb
  have qc0 : w2.cell? ⟨w.heap.size, 0, none⟩ = some (.slice pa C.parts.length pc) := (cell_blk q2.out 0).trans rfl
  have qc1 : w2.cell? ⟨w.heap.size, 1, none⟩ = some (.slice ca C.chans.length cc) := (cell_blk q2.out 1).trans rfl
  have qc2 : w2.cell? ⟨w.heap.size, 2, none⟩ = some (.int .i64 C.l0) := (cell_blk q2.out 2).trans rfl
  have qc3 : w2.cell? ⟨w.heap.size, 3, none⟩ = some (.slice a0 C.w0.length c0) := (cell_blk q2.out 3).trans rfl
  have qc4 : w2.cell? ⟨w.heap.size, 4, none⟩ = some (.int .i64 C.l1) := (cell_blk q2.out 4).trans rfl
  have qc5 : w2.cell? ⟨w.heap.size, 5, none⟩ = some (.slice a1 C.w1.length c1) := (cell_blk q2.out 5).trans rfl
  have ql := blk_lt q2.out
  go_wp2
  go_ret
  exact ⟨rfl, HB2.out⟩

set_option maxRecDepth 100000 in
set_option maxHeartbeats 8000000 in
theorem layoutApart_no (cv : Value) (C : Cfg) (hg : C.great = false) (hno : accB C = false) (w : World) (h : CfgAt w cv C) : Calls Try.prog 12 #[cv] w fun e w' => e = .returned (.bool true) ∧ Below w.heap.size w w' := by
  have HC := Kp.mk h
  have hsm := small_of_great hg
  obtain ⟨ho, pa, pc, ca, cc, a0, c0, a1, c1, rfl, bp, bc, b0, b1, hp, hc, hw0, hw1⟩ := h
  clear ho hp hc hw0 hw1
  go_enter Try.func12, Try.ntmps12
  have HB0 : Kp (Below w.heap.size w w) := ⟨Below.refl _ _⟩
  go_wp2_with fail
  refine (wakes8_any _).mono ?_
  rintro e w1 ⟨rfl, hb⟩
  have q1 : Kp (w1.heap[w.heap.size]? = some (.cells #[.slice pa C.parts.length pc, .slice ca C.chans.length cc, .int .i64 C.l0, .slice a0 C.w0.length c0, .int .i64 C.l1, .slice a1 C.w1.length c1] 29 (0, 0))) := ⟨blk_below (blk_new _ _) hb⟩
  have HB1 : Kp (Below w.heap.size w w1) := ⟨below_call (below_al HB0.out _) hb⟩
  clear HB0 hb
  have qc0 : w1.cell? ⟨w.heap.size, 0, none⟩ = some (.slice pa C.parts.length pc) := (cell_blk q1.out 0).trans rfl
  have qc1 : w1.cell? ⟨w.heap.size, 1, none⟩ = some (.slice ca C.chans.length cc) := (cell_blk q1.out 1).trans rfl
  have qc2 : w1.cell? ⟨w.heap.size, 2, none⟩ = some (.int .i64 C.l0) := (cell_blk q1.out 2).trans rfl
  have qc3 : w1.cell? ⟨w.heap.size, 3, none⟩ = some (.slice a0 C.w0.length c0) := (cell_blk q1.out 3).trans rfl
  have qc4 : w1.cell? ⟨w.heap.size, 4, none⟩ = some (.int .i64 C.l1) := (cell_blk q1.out 4).trans rfl
  have qc5 : w1.cell? ⟨w.heap.size, 5, none⟩ = some (.slice a1 C.w1.length c1) := (cell_blk q1.out 5).trans rfl
  have ql := blk_lt q1.out
  go_wp2_with fail
  refine (great_any _ C _ (HC.out.below HB1.out)).mono ?_
  rw [hg]
  rintro e w2 ⟨rfl, hb⟩
  have q2 : Kp (w2.heap[w.heap.size]? = some (.cells #[.slice pa C.parts.length pc, .slice ca C.chans.length cc, .int .i64 C.l0, .slice a0 C.w0.length c0, .int .i64 C.l1, .slice a1 C.w1.length c1] 29 (0, 0))) := ⟨blk_below q1.out hb⟩
  have HB2 : Kp (Below w.heap.size w w2) := ⟨below_call HB1.out hb⟩
  clear qc0 qc1 qc2 qc3 qc4 qc5 ql q1 HB1 hb
  have qc0 : w2.cell? ⟨w.heap.size, 0, none⟩ = some (.slice pa C.parts.length pc) := (cell_blk q2.out 0).trans rfl
  have qc1 : w2.cell? ⟨w.heap.size, 1, none⟩ = some (.slice ca C.chans.length cc) := (cell_blk q2.out 1).trans rfl
  have qc2 : w2.cell? ⟨w.heap.size, 2, none⟩ = some (.int .i64 C.l0) := (cell_blk q2.out 2).trans rfl
  have qc3 : w2.cell? ⟨w.heap.size, 3, none⟩ = some (.slice a0 C.w0.length c0) := (cell_blk q2.out 3).trans rfl
  have qc4 : w2.cell? ⟨w.heap.size, 4, none⟩ = some (.int .i64 C.l1) := (cell_blk q2.out 4).trans rfl
  have qc5 : w2.cell? ⟨w.heap.size, 5, none⟩ = some (.slice a1 C.w1.length c1) := (cell_blk q2.out 5).trans rfl
  have ql := blk_lt q2.out
  go_wp2_with fail
  refine (refAccepts_any _ C hsm _ (HC.out.below HB2.out)).mono ?_
  rw [hno]
  rintro e w3 ⟨rfl, hb⟩
  have q3 : Kp (w3.heap[w.heap.size]? = some (.cells #[.slice pa C.parts.length pc, .slice ca C.chans.length cc, .int .i64 C.l0, .slice a0 C.w0.length c0, .int .i64 C.l1, .slice a1 C.w1.length c1] 29 (0, 0))) := ⟨blk_below q2.out hb⟩
  have HB3 : Kp (Below w.heap.size w w3) := ⟨below_call HB2.out hb⟩
  clear qc0 qc1 qc2 qc3 qc4 qc5 ql q2 HB2 hb
  have qc0 : w3.cell? ⟨w.heap.size, 0, none⟩ = some (.slice pa C.parts.length pc) := (cell_blk q3.out 0).trans rfl
  have qc1 : w3.cell? ⟨w.heap.size, 1, none⟩ = some (.slice ca C.chans.length cc) := (cell_blk q3.out 1).trans rfl
  have qc2 : w3.cell? ⟨w.heap.size, 2, none⟩ = some (.int .i64 C.l0) := (cell_blk q3.out 2).trans rfl
  have qc3 : w3.cell? ⟨w.heap.size, 3, none⟩ = some (.slice a0 C.w0.length c0) := (cell_blk q3.out 3).trans rfl
  have qc4 : w3.cell? ⟨w.heap.size, 4, none⟩ = some (.int .i64 C.l1) := (cell_blk q3.out 4).trans rfl
  have qc5 : w3.cell? ⟨w.heap.size, 5, none⟩ = some (.slice a1 C.w1.length c1) := (cell_blk q3.out 5).trans rfl
  have ql := blk_lt q3.out
  go_wp2
  go_ret
  exact ⟨rfl, HB3.out⟩

set_option maxRecDepth 100000 in
set_option maxHeartbeats 32000000 in
theorem layoutApart_core (cv : Value) (C : Cfg) (hg : C.great = false) (ha : accB C = true) (w : World) (h : CfgAt w cv C) : Calls Try.prog 12 #[cv] w fun e w' => e = .returned (.bool true) ∧ Below w.heap.size w w' := by
  have HC := Kp.mk h
  have hsm := small_of_great hg
  have hs2 := hsm.2.1
  obtain ⟨i0, hi, hz0, hz1, hz2⟩ := info_parts Try.infoSpan
  obtain ⟨ho, pa, pc, ca, cc, a0, c0, a1, c1, rfl, bp, bc, b0, b1, hp, hc, hw0, hw1⟩ := h
  have HCH := Kp.mk hc
  clear ho hp hc hw0 hw1
  go_enter Try.func12, Try.ntmps12
  have HB0 : Kp (Below w.heap.size w w) := ⟨Below.refl _ _⟩
  go_wp2_with fail
  refine (wakes8_any _).mono ?_
  rintro e w1 ⟨rfl, hb⟩
  have q1 : Kp (w1.heap[w.heap.size]? = some (.cells #[.slice pa C.parts.length pc, .slice ca C.chans.length cc, .int .i64 C.l0, .slice a0 C.w0.length c0, .int .i64 C.l1, .slice a1 C.w1.length c1] 29 (0, 0))) := ⟨blk_below (blk_new _ _) hb⟩
  have HB1 : Kp (Below w.heap.size w w1) := ⟨below_call (below_al HB0.out _) hb⟩
  clear HB0 hb
  have qc0 : w1.cell? ⟨w.heap.size, 0, none⟩ = some (.slice pa C.parts.length pc) := (cell_blk q1.out 0).trans rfl
  have qc1 : w1.cell? ⟨w.heap.size, 1, none⟩ = some (.slice ca C.chans.length cc) := (cell_blk q1.out 1).trans rfl
  have qc2 : w1.cell? ⟨w.heap.size, 2, none⟩ = some (.int .i64 C.l0) := (cell_blk q1.out 2).trans rfl
  have qc3 : w1.cell? ⟨w.heap.size, 3, none⟩ = some (.slice a0 C.w0.length c0) := (cell_blk q1.out 3).trans rfl
  have qc4 : w1.cell? ⟨w.heap.size, 4, none⟩ = some (.int .i64 C.l1) := (cell_blk q1.out 4).trans rfl
  have qc5 : w1.cell? ⟨w.heap.size, 5, none⟩ = some (.slice a1 C.w1.length c1) := (cell_blk q1.out 5).trans rfl
  have ql := blk_lt q1.out
  go_wp2_with fail
  refine (great_any _ C _ (HC.out.below HB1.out)).mono ?_
  rw [hg]
  rintro e w2 ⟨rfl, hb⟩
  have q2 : Kp (w2.heap[w.heap.size]? = some (.cells #[.slice pa C.parts.length pc, .slice ca C.chans.length cc, .int .i64 C.l0, .slice a0 C.w0.length c0, .int .i64 C.l1, .slice a1 C.w1.length c1] 29 (0, 0))) := ⟨blk_below q1.out hb⟩
  have HB2 : Kp (Below w.heap.size w w2) := ⟨below_call HB1.out hb⟩
  clear qc0 qc1 qc2 qc3 qc4 qc5 ql q1 HB1 hb
  have qc0 : w2.cell? ⟨w.heap.size, 0, none⟩ = some (.slice pa C.parts.length pc) := (cell_blk q2.out 0).trans rfl
  have qc1 : w2.cell? ⟨w.heap.size, 1, none⟩ = some (.slice ca C.chans.length cc) := (cell_blk q2.out 1).trans rfl
  have qc2 : w2.cell? ⟨w.heap.size, 2, none⟩ = some (.int .i64 C.l0) := (cell_blk q2.out 2).trans rfl
  have qc3 : w2.cell? ⟨w.heap.size, 3, none⟩ = some (.slice a0 C.w0.length c0) := (cell_blk q2.out 3).trans rfl
  have qc4 : w2.cell? ⟨w.heap.size, 4, none⟩ = some (.int .i64 C.l1) := (cell_blk q2.out 4).trans rfl
  have qc5 : w2.cell? ⟨w.heap.size, 5, none⟩ = some (.slice a1 C.w1.length c1) := (cell_blk q2.out 5).trans rfl
  have ql := blk_lt q2.out
  go_wp2_with fail
  refine (refAccepts_any _ C hsm _ (HC.out.below HB2.out)).mono ?_
  rw [ha]
  rintro e w3 ⟨rfl, hb⟩
  have q3 : Kp (w3.heap[w.heap.size]? = some (.cells #[.slice pa C.parts.length pc, .slice ca C.chans.length cc, .int .i64 C.l0, .slice a0 C.w0.length c0, .int .i64 C.l1, .slice a1 C.w1.length c1] 29 (0, 0))) := ⟨blk_below q2.out hb⟩
  have HB3 : Kp (Below w.heap.size w w3) := ⟨below_call HB2.out hb⟩
  clear qc0 qc1 qc2 qc3 qc4 qc5 ql q2 HB2 hb
  have qc0 : w3.cell? ⟨w.heap.size, 0, none⟩ = some (.slice pa C.parts.length pc) := (cell_blk q3.out 0).trans rfl
  have qc1 : w3.cell? ⟨w.heap.size, 1, none⟩ = some (.slice ca C.chans.length cc) := (cell_blk q3.out 1).trans rfl
  have qc2 : w3.cell? ⟨w.heap.size, 2, none⟩ = some (.int .i64 C.l0) := (cell_blk q3.out 2).trans rfl
  have qc3 : w3.cell? ⟨w.heap.size, 3, none⟩ = some (.slice a0 C.w0.length c0) := (cell_blk q3.out 3).trans rfl
  have qc4 : w3.cell? ⟨w.heap.size, 4, none⟩ = some (.int .i64 C.l1) := (cell_blk q3.out 4).trans rfl
  have qc5 : w3.cell? ⟨w.heap.size, 5, none⟩ = some (.slice a1 C.w1.length c1) := (cell_blk q3.out 5).trans rfl
  have ql := blk_lt q3.out
  obtain ⟨l, hl⟩ : ∃ l, planL C = l := ⟨_, rfl⟩
  have HL := Kp.mk hl
  have hle : l.length ≤ 22 := hl ▸ planL_le C
  have HAT : Kp (∀ i (hi : i < l.length), l[i] = (((sizesC C).take i).sum, (sizesC C).getD i 0) ∧ i < (sizesC C).length) := ⟨fun i hi => by subst hl; exact planL_at ha i hi⟩
  have HAP : Kp (apartB l.length (fun i => (l.getD i (0, 0)).1) (fun i => (l.getD i (0, 0)).2) = true) := ⟨by subst hl; exact plan_apart ha⟩
  have HLEN : Kp (l.length = (sizesC C).length) := ⟨by subst hl; rw [planL_len C ha, sizesC_len]⟩
  have HPE : Kp (planE C = (sizesC C).sum) := ⟨by rw [planE, if_pos ha]⟩
  have HNN := Kp.mk (plan_nonneg ha)
  have H99 : Kp (l.take (99 : Int).toNat = l) := ⟨List.take_of_length_le (by simp; omega)⟩
  have hEs := planE_small C
  clear hl
  go_wp2_with fail
  refine (told8_any 99 _ C hsm _ (HC.out.below HB3.out)).mono ?_
  rw [HL.out, H99.out]
  rintro e w4 ⟨v, rfl, hO, hb⟩
  have q4 : Kp (w4.heap[w.heap.size]? = some (.cells #[.slice pa C.parts.length pc, .slice ca C.chans.length cc, .int .i64 C.l0, .slice a0 C.w0.length c0, .int .i64 C.l1, .slice a1 C.w1.length c1] 29 (0, 0))) := ⟨blk_below q3.out hb⟩
  have HB4 : Kp (Below w.heap.size w w4) := ⟨below_call HB3.out hb⟩
  have T4 : Kp (RowAt w4 2 v l.length (l.flatMap spanC)) := ⟨RowAt.of_own hO⟩
  clear qc0 qc1 qc2 qc3 qc4 qc5 ql q3 HB3 hb
  have qc0 : w4.cell? ⟨w.heap.size, 0, none⟩ = some (.slice pa C.parts.length pc) := (cell_blk q4.out 0).trans rfl
  have qc1 : w4.cell? ⟨w.heap.size, 1, none⟩ = some (.slice ca C.chans.length cc) := (cell_blk q4.out 1).trans rfl
  have qc2 : w4.cell? ⟨w.heap.size, 2, none⟩ = some (.int .i64 C.l0) := (cell_blk q4.out 2).trans rfl
  have qc3 : w4.cell? ⟨w.heap.size, 3, none⟩ = some (.slice a0 C.w0.length c0) := (cell_blk q4.out 3).trans rfl
  have qc4 : w4.cell? ⟨w.heap.size, 4, none⟩ = some (.int .i64 C.l1) := (cell_blk q4.out 4).trans rfl
  have qc5 : w4.cell? ⟨w.heap.size, 5, none⟩ = some (.slice a1 C.w1.length c1) := (cell_blk q4.out 5).trans rfl
  have ql := blk_lt q4.out
  clear hO
  obtain ⟨va, vc, rfl, hv1, hv2⟩ := T4.out.shape
  obtain ⟨wt, rfl⟩ : ∃ wt : World, wt = w4 := ⟨_, rfl⟩
  go_wp2_with fail
  clear qc0 qc1 qc2 qc3 qc4 qc5 ql
  go_loopw [27, 3] (fun i ev wr => ∃ k : Nat, k ≤ l.length ∧ i = .int .i64 k ∧ ev = .int .i64 ((sizesC C).take k).sum ∧ Kp (Below w.heap.size w wr) ∧ Kp (Below wt.heap.size wt wr)) (fun i ev wr => l.length - (intOf i).toNat)
  case atStart => exact ⟨0, Nat.zero_le _, rfl, rfl, HB4, ⟨Below.refl _ _⟩⟩
  case round =>
    obtain ⟨k, hk, rfl, rfl, HB, HBT⟩ := hrel
    by_cases hlt : k < l.length
    · obtain ⟨hat, hks⟩ := HAT.out k hlt
      have hn1 := HNN.out _ (List.getElem_mem hks)
      have hs1 := sum_take_le (sizesC C) HNN.out (k + 1) (sizesC C).length (by omega)
      have hs0 := sum_nonneg ((sizesC C).take k) fun x hx => HNN.out x (List.mem_of_mem_take hx)
      have HSU : Kp (((sizesC C).take (k + 1)).sum = ((sizesC C).take k).sum + (sizesC C).getD k 0) := ⟨by rw [List.take_succ_eq_append_getElem hks, List.sum_append, getD_at _ _ _ hks]; simp⟩
      rw [List.take_length, ← HPE.out, HSU.out] at hs1
      rw [← getD_at _ _ 0 hks] at hn1
      obtain ⟨g, o, hva, hg, hc⟩ := T4.out.at (by omega)
      obtain ⟨s0, hs0'⟩ : ∃ s0, ((sizesC C).take k).sum = s0 := ⟨_, rfl⟩
      obtain ⟨z, hz⟩ : ∃ z, (sizesC C).getD k 0 = z := ⟨_, rfl⟩
      rw [hs0', hz] at hat
      have p0 : wr.cell? ⟨g, o + k * 2, none⟩ = some (.int .i64 s0) := by
        have h1 := hc (k * 2 + 0) (by omega)
        rw [flat_at spanC 2 spanC_len l k 0 hlt (by omega), hat] at h1
        exact (HBT.out.cell (p := ⟨g, o + k * 2, none⟩) hg).trans h1
      have p1 : wr.cell? ⟨g, o + k * 2 + 1, none⟩ = some (.int .i64 z) := by
        have h1 := hc (k * 2 + 1) (by omega)
        rw [flat_at spanC 2 spanC_len l k 1 hlt (by omega), hat] at h1
        exact (HBT.out.cell (p := ⟨g, o + (k * 2 + 1), none⟩) hg).trans h1
      rw [hs0', hz] at HSU hs1
      rw [hs0'] at hs0 ⊢
      rw [hz] at hn1
      have hgw : g < wr.heap.size := Nat.lt_of_lt_of_le hg HBT.out.size
      have hz1' : decide (z < 0) = false := decide_eq_false (by omega)
      have sw : IntKind.i64.wrap (s0 + z) = s0 + z := IntWalk.i64_in _ (by omega)
      subst hva
      clear hc hat hks hs0' hz
      go_wp2
      go_roundw
      case rel => exact ⟨k + 1, by omega, by go_num, by rw [HSU.out], ⟨below_al HB.out _⟩, ⟨below_al HBT.out _⟩⟩
      case measure => simp [intOf]; omega
    · have hkl : k = l.length := by omega
      subst hkl
      have hend : ((sizesC C).take l.length).sum = planE C := by rw [HLEN.out, List.take_length, HPE.out]
      rw [hend]
      have HK := Kp.mk (blk_below q4.out HBT.out)
      clear hend HBT
      have q0 : wr.cell? ⟨w.heap.size, 0, none⟩ = some (.slice pa C.parts.length pc) := (cell_blk HK.out 0).trans rfl
      have q1 : wr.cell? ⟨w.heap.size, 1, none⟩ = some (.slice ca C.chans.length cc) := (cell_blk HK.out 1).trans rfl
      have q2 : wr.cell? ⟨w.heap.size, 2, none⟩ = some (.int .i64 C.l0) := (cell_blk HK.out 2).trans rfl
      have q3 : wr.cell? ⟨w.heap.size, 3, none⟩ = some (.slice a0 C.w0.length c0) := (cell_blk HK.out 3).trans rfl
      have q4 : wr.cell? ⟨w.heap.size, 4, none⟩ = some (.int .i64 C.l1) := (cell_blk HK.out 4).trans rfl
      have q5 : wr.cell? ⟨w.heap.size, 5, none⟩ = some (.slice a1 C.w1.length c1) := (cell_blk HK.out 5).trans rfl
      have lq := blk_lt HK.out
      obtain ⟨E, hE⟩ : ∃ E, planE C = E := ⟨_, rfl⟩
      have HE := Kp.mk hE
      rw [hE]
      clear hE
      go_wp2_with fail
      refine (size_any _ C hsm _ (HC.out.below HB.out)).mono ?_
      rw [HE.out]
      rintro e w2 ⟨rfl, hb⟩
      have HB2 := Kp.mk (below_call HB.out hb)
      have HK2 := Kp.mk (blk_below HK.out hb)
      clear hb HB HK q0 q1 q2 q3 q4 q5 lq
      have q0 : w2.cell? ⟨w.heap.size, 0, none⟩ = some (.slice pa C.parts.length pc) := (cell_blk HK2.out 0).trans rfl
      have q1 : w2.cell? ⟨w.heap.size, 1, none⟩ = some (.slice ca C.chans.length cc) := (cell_blk HK2.out 1).trans rfl
      have q2 : w2.cell? ⟨w.heap.size, 2, none⟩ = some (.int .i64 C.l0) := (cell_blk HK2.out 2).trans rfl
      have q3 : w2.cell? ⟨w.heap.size, 3, none⟩ = some (.slice a0 C.w0.length c0) := (cell_blk HK2.out 3).trans rfl
      have q4 : w2.cell? ⟨w.heap.size, 4, none⟩ = some (.int .i64 C.l1) := (cell_blk HK2.out 4).trans rfl
      have q5 : w2.cell? ⟨w.heap.size, 5, none⟩ = some (.slice a1 C.w1.length c1) := (cell_blk HK2.out 5).trans rfl
      have lq := blk_lt HK2.out
      go_wp2_with fail
      refine (told8_any 99 _ C hsm _ (HC.out.below HB2.out)).mono ?_
      rw [HL.out, H99.out]
      rintro e w3 ⟨v2, rfl, hO, hb⟩
      have HB3 := Kp.mk (below_call HB2.out hb)
      have HK3 := Kp.mk (blk_below HK2.out hb)
      have HR := Kp.mk (RowAt.of_own hO)
      obtain ⟨ua, uc, rfl, hu1, hu2⟩ := HR.out.shape
      clear hb hO HB2 HK2 q0 q1 q2 q3 q4 q5 lq
      have q0 : w3.cell? ⟨w.heap.size, 0, none⟩ = some (.slice pa C.parts.length pc) := (cell_blk HK3.out 0).trans rfl
      have q1 : w3.cell? ⟨w.heap.size, 1, none⟩ = some (.slice ca C.chans.length cc) := (cell_blk HK3.out 1).trans rfl
      have q2 : w3.cell? ⟨w.heap.size, 2, none⟩ = some (.int .i64 C.l0) := (cell_blk HK3.out 2).trans rfl
      have q3 : w3.cell? ⟨w.heap.size, 3, none⟩ = some (.slice a0 C.w0.length c0) := (cell_blk HK3.out 3).trans rfl
      have q4 : w3.cell? ⟨w.heap.size, 4, none⟩ = some (.int .i64 C.l1) := (cell_blk HK3.out 4).trans rfl
      have q5 : w3.cell? ⟨w.heap.size, 5, none⟩ = some (.slice a1 C.w1.length c1) := (cell_blk HK3.out 5).trans rfl
      have lq := blk_lt HK3.out
      go_wp2_with fail
      refine (apart_any ua l.length uc _ _ true HAP.out _ hu1 (by omega) (spansAt_row rfl HR.out)).mono ?_
      rintro e w4 ⟨rfl, hb⟩
      have HB4 := Kp.mk (below_call HB3.out hb)
      have HK4 := Kp.mk (blk_below HK3.out hb)
      clear hb HB3 HK3 HR q0 q1 q2 q3 q4 q5 lq
      have q0 : w4.cell? ⟨w.heap.size, 0, none⟩ = some (.slice pa C.parts.length pc) := (cell_blk HK4.out 0).trans rfl
      have q1 : w4.cell? ⟨w.heap.size, 1, none⟩ = some (.slice ca C.chans.length cc) := (cell_blk HK4.out 1).trans rfl
      have q2 : w4.cell? ⟨w.heap.size, 2, none⟩ = some (.int .i64 C.l0) := (cell_blk HK4.out 2).trans rfl
      have q3 : w4.cell? ⟨w.heap.size, 3, none⟩ = some (.slice a0 C.w0.length c0) := (cell_blk HK4.out 3).trans rfl
      have q4 : w4.cell? ⟨w.heap.size, 4, none⟩ = some (.int .i64 C.l1) := (cell_blk HK4.out 4).trans rfl
      have q5 : w4.cell? ⟨w.heap.size, 5, none⟩ = some (.slice a1 C.w1.length c1) := (cell_blk HK4.out 5).trans rfl
      have lq := blk_lt HK4.out
      go_wp2_with fail
      clear q0 q1 q2 q3 q4 q5 lq
      go_loopw [58] (fun i wr => ∃ k : Nat, k ≤ C.chans.length ∧ i = .int .i64 k ∧ Kp (Below w.heap.size w wr) ∧ Kp (wr.heap[w.heap.size]? = some (.cells #[.slice pa C.parts.length pc, .slice ca C.chans.length cc, .int .i64 C.l0, .slice a0 C.w0.length c0, .int .i64 C.l1, .slice a1 C.w1.length c1] 29 (0, 0)))) (fun i wr => C.chans.length - (intOf i).toNat)
      case atStart => exact ⟨0, Nat.zero_le _, rfl, HB4, HK4⟩
      case round =>
        clear HB4 HK4
        obtain ⟨k, hk, rfl, HB, HK⟩ := hrel
        obtain ⟨wo, rfl⟩ : ∃ wo : World, wo = wr := ⟨_, rfl⟩
        have q0 : wo.cell? ⟨w.heap.size, 0, none⟩ = some (.slice pa C.parts.length pc) := (cell_blk HK.out 0).trans rfl
        have q1 : wo.cell? ⟨w.heap.size, 1, none⟩ = some (.slice ca C.chans.length cc) := (cell_blk HK.out 1).trans rfl
        have q2 : wo.cell? ⟨w.heap.size, 2, none⟩ = some (.int .i64 C.l0) := (cell_blk HK.out 2).trans rfl
        have q3 : wo.cell? ⟨w.heap.size, 3, none⟩ = some (.slice a0 C.w0.length c0) := (cell_blk HK.out 3).trans rfl
        have q4 : wo.cell? ⟨w.heap.size, 4, none⟩ = some (.int .i64 C.l1) := (cell_blk HK.out 4).trans rfl
        have q5 : wo.cell? ⟨w.heap.size, 5, none⟩ = some (.slice a1 C.w1.length c1) := (cell_blk HK.out 5).trans rfl
        have lq := blk_lt HK.out
        by_cases hlt : k < C.chans.length
        · obtain ⟨g, o, hca, hg, hcc⟩ := HCH.out.at (by omega)
          obtain ⟨x, hx⟩ : ∃ x, C.chans[k] = x := ⟨_, rfl⟩
          have HXG : Kp (C.chans.getD k default = x) := ⟨by rw [getD_at _ _ _ (by omega), hx]⟩
          have hcs := chn_small ha (hx ▸ List.getElem_mem hlt)
          obtain ⟨hkk, _, _, _, _, hk1c, hk2c⟩ := (acc_of ha).chans x (hx ▸ List.getElem_mem hlt)
          have hbs := befC_small ha k
          have hcu : ∀ j, j < 7 → wo.cell? ⟨g, o + k * 7 + j, none⟩ = (chanC x)[j]? := fun j hj => by
            have h1 := hcc (k * 7 + j) (by omega)
            rw [flat_at chanC 7 chanC_len C.chans k j (by omega) hj, hx] at h1
            rw [Nat.add_assoc]
            exact (HB.out.cell (p := ⟨g, o + (k * 7 + j), none⟩) hg).trans h1
          have e0 : wo.cell? ⟨g, o + k * 7, none⟩ = some (.int .i64 x.kind) := hcu 0 (by omega)
          have e1 : wo.cell? ⟨g, o + k * 7 + 1, none⟩ = some (.int .i64 x.frm) := hcu 1 (by omega)
          have e2 : wo.cell? ⟨g, o + k * 7 + 2, none⟩ = some (.int .i64 x.to) := hcu 2 (by omega)
          have e3 : wo.cell? ⟨g, o + k * 7 + 3, none⟩ = some (.int .i64 x.words) := hcu 3 (by omega)
          have e4 : wo.cell? ⟨g, o + k * 7 + 4, none⟩ = some (.int .i64 x.depth) := hcu 4 (by omega)
          have e5 : wo.cell? ⟨g, o + k * 7 + 5, none⟩ = some (.int .i64 x.period) := hcu 5 (by omega)
          have e6 : wo.cell? ⟨g, o + k * 7 + 6, none⟩ = some (.int .u32 x.boot) := hcu 6 (by omega)
          have hgw : g < wo.heap.size := Nat.lt_of_lt_of_le hg HB.out.size
          obtain ⟨bf, hbf⟩ : ∃ bf, befC C k = bf := ⟨_, rfl⟩
          have HBEF := Kp.mk hbf
          have HSRC0 := srcB_at C ha k hlt
          rw [HXG.out, hbf] at HSRC0
          rw [hbf] at hbs
          obtain ⟨sf, hsf⟩ : ∃ sf, sf = bf := ⟨_, rfl⟩
          obtain ⟨ss, hss⟩ : ∃ ss, ss = sizedC x := ⟨_, rfl⟩
          have HSRC : Kp ((srcB C k).1 = sf ∧ (srcB C k).2 = ss) := ⟨by rw [HSRC0, hsf, hss]; exact ⟨rfl, rfl⟩⟩
          have HSFX : Kp (sf = bf ∧ ss = sizedC x) := ⟨hsf, hss⟩
          have hsfs : 0 ≤ sf ∧ sf ≤ 1488 := by omega
          have hsss : 3 ≤ ss ∧ ss ≤ 137 := by omega
          have hk0 : (0 : Int) ≤ (k : Int) := by omega
          have hk1 : (k : Int) < (C.chans.length : Int) := by omega
          obtain ⟨bx, hbxe⟩ : ∃ bx, wo.heap.size = bx := ⟨_, rfl⟩
          have hwbx : w.heap.size < bx := by have := blk_lt HK.out; omega
          have HXW : Kp ((wo.alloc (.cells #[.int .i64 x.kind, .int .i64 x.frm, .int .i64 x.to, .int .i64 x.words, .int .i64 x.depth, .int .i64 x.period, .int .u32 x.boot] 40)).heap[bx]? = some (.cells #[.int .i64 x.kind, .int .i64 x.frm, .int .i64 x.to, .int .i64 x.words, .int .i64 x.depth, .int .i64 x.period, .int .u32 x.boot] 40 (0, 0))) := ⟨blk_at hbxe _⟩
          have HBW : Kp (Below w.heap.size w (wo.alloc (.cells #[.int .i64 x.kind, .int .i64 x.frm, .int .i64 x.to, .int .i64 x.words, .int .i64 x.depth, .int .i64 x.period, .int .u32 x.boot] 40))) := ⟨below_al HB.out _⟩
          have HKW : Kp ((wo.alloc (.cells #[.int .i64 x.kind, .int .i64 x.frm, .int .i64 x.to, .int .i64 x.words, .int .i64 x.depth, .int .i64 x.period, .int .u32 x.boot] 40)).heap[w.heap.size]? = some (.cells #[.slice pa C.parts.length pc, .slice ca C.chans.length cc, .int .i64 C.l0, .slice a0 C.w0.length c0, .int .i64 C.l1, .slice a1 C.w1.length c1] 29 (0, 0))) := ⟨blk_al HK.out _⟩
          subst hca
          clear hcu hcc hx
          go_upto_region 20 with fail
          try rw [hbxe]
          clear hbf hbxe HB HK HSRC0 hsf hss q0 q1 q2 q3 q4 q5 lq e0 e1 e2 e3 e4 e5 e6 hgw
          generalize (wo.alloc (.cells #[.int .i64 x.kind, .int .i64 x.frm, .int .i64 x.to, .int .i64 x.words, .int .i64 x.depth, .int .i64 x.period, .int .u32 x.boot] 40)) = wx at HXW HBW HKW ⊢
          have HB := HBW
          have HK := HKW
          have HX := HXW
          have hbx : bx + 1 ≤ wx.heap.size := blk_lt HX.out
          clear HBW HKW HXW
          by_cases hkd1 : x.kind = 1
          · have HKD : Kp ((C.chans.getD k default).kind = 1) := ⟨by rw [HXG.out]; exact hkd1⟩
            have hd0 : x.depth = 0 := by have := hk1c hkd1; omega
            have HSS : Kp (sf + 3 = bf + 3 ∧ ss - 3 = ((4 : Nat) : Int) * (2 + x.words)) := ⟨by
              have h := HSFX.out
              rw [sizedC, if_pos hkd1] at h
              omega⟩
            rw [hkd1, hd0] at HX
            clear hkd1 hd0 hkk hk1c hk2c
            have x0 : wx.cell? ⟨bx, 0, none⟩ = some (.int .i64 1) := (cell_blk HX.out 0).trans rfl
            have x1 : wx.cell? ⟨bx, 1, none⟩ = some (.int .i64 x.frm) := (cell_blk HX.out 1).trans rfl
            have x2 : wx.cell? ⟨bx, 2, none⟩ = some (.int .i64 x.to) := (cell_blk HX.out 2).trans rfl
            have x3 : wx.cell? ⟨bx, 3, none⟩ = some (.int .i64 x.words) := (cell_blk HX.out 3).trans rfl
            have x4 : wx.cell? ⟨bx, 4, none⟩ = some (.int .i64 0) := (cell_blk HX.out 4).trans rfl
            have x5 : wx.cell? ⟨bx, 5, none⟩ = some (.int .i64 x.period) := (cell_blk HX.out 5).trans rfl
            have x6 : wx.cell? ⟨bx, 6, none⟩ = some (.int .u32 x.boot) := (cell_blk HX.out 6).trans rfl
            have lx := blk_lt HX.out
            go_wp2_with fail
            clear x0 x1 x2 x3 x4 x5 x6 lx
            go_loopw [66, 8] (fun i v wr => ∃ j : Nat, j ≤ 4 ∧ i = .int .i64 j ∧ Kp (Below w.heap.size w wr) ∧ Kp (wr.heap[w.heap.size]? = some (.cells #[.slice pa C.parts.length pc, .slice (some ⟨g, o, none⟩) C.chans.length cc, .int .i64 C.l0, .slice a0 C.w0.length c0, .int .i64 C.l1, .slice a1 C.w1.length c1] 29 (0, 0))) ∧ Kp (wr.heap[bx]? = some (.cells #[.int .i64 1, .int .i64 x.frm, .int .i64 x.to, .int .i64 x.words, .int .i64 0, .int .i64 x.period, .int .u32 x.boot] 40 (0, 0))) ∧ bx + 1 ≤ wr.heap.size ∧ Kp (wr.ownsRow (bx + 1) 49 2 v (j) ((pcs (bf + 3) (2 + x.words) j).flatMap spanC))) (fun i v wr => 4 - (intOf i).toNat)
            case atStart => exact ⟨0, Nat.zero_le _, rfl, HB, HK, HX, hbx, ⟨World.ownsRow_nil _ _ _ _⟩⟩
            case round =>
              clear HB HK HX hbx
              obtain ⟨j, hj, rfl, HB, HK, HX, hbx, HO⟩ := hrel
              obtain ⟨av, cv, rfl, hv1, hv2⟩ := (RowAt.of_own HO.out).shape
              have q0 : wr.cell? ⟨w.heap.size, 0, none⟩ = some (.slice pa C.parts.length pc) := (cell_blk HK.out 0).trans rfl
              have q1 : wr.cell? ⟨w.heap.size, 1, none⟩ = some (.slice (some ⟨g, o, none⟩) C.chans.length cc) := (cell_blk HK.out 1).trans rfl
              have q2 : wr.cell? ⟨w.heap.size, 2, none⟩ = some (.int .i64 C.l0) := (cell_blk HK.out 2).trans rfl
              have q3 : wr.cell? ⟨w.heap.size, 3, none⟩ = some (.slice a0 C.w0.length c0) := (cell_blk HK.out 3).trans rfl
              have q4 : wr.cell? ⟨w.heap.size, 4, none⟩ = some (.int .i64 C.l1) := (cell_blk HK.out 4).trans rfl
              have q5 : wr.cell? ⟨w.heap.size, 5, none⟩ = some (.slice a1 C.w1.length c1) := (cell_blk HK.out 5).trans rfl
              have lq := blk_lt HK.out
              have x0 : wr.cell? ⟨bx, 0, none⟩ = some (.int .i64 1) := (cell_blk HX.out 0).trans rfl
              have x1 : wr.cell? ⟨bx, 1, none⟩ = some (.int .i64 x.frm) := (cell_blk HX.out 1).trans rfl
              have x2 : wr.cell? ⟨bx, 2, none⟩ = some (.int .i64 x.to) := (cell_blk HX.out 2).trans rfl
              have x3 : wr.cell? ⟨bx, 3, none⟩ = some (.int .i64 x.words) := (cell_blk HX.out 3).trans rfl
              have x4 : wr.cell? ⟨bx, 4, none⟩ = some (.int .i64 0) := (cell_blk HX.out 4).trans rfl
              have x5 : wr.cell? ⟨bx, 5, none⟩ = some (.int .i64 x.period) := (cell_blk HX.out 5).trans rfl
              have x6 : wr.cell? ⟨bx, 6, none⟩ = some (.int .u32 x.boot) := (cell_blk HX.out 6).trans rfl
              have lx := blk_lt HX.out
              by_cases hj0 : j = 0
              · subst hj0
                have HBF : Kp ((bufB C k 0 0).1 = bf + 3 + 0 * (2 + x.words) ∧ (bufB C k 0 0).2 = 2 + x.words) := ⟨by
                  have h := buf_pcs ha k hlt HKD.out 0 0 0 (by omega) (by omega) rfl
                  rw [HXG.out, HBEF.out] at h
                  exact ⟨congrArg Prod.fst h, congrArg Prod.snd h⟩⟩
                have HN : Kp ((pcs (bf + 3) (2 + x.words) (0 + 1)).flatMap spanC = (pcs (bf + 3) (2 + x.words) 0).flatMap spanC ++ [.int .i64 (bf + 3 + 0 * (2 + x.words)), .int .i64 (2 + x.words)]) := ⟨pcs_snoc _ _ 0⟩
                obtain ⟨f0, hf0⟩ : ∃ f0, bf + 3 + 0 * (2 + x.words) = f0 := ⟨_, rfl⟩
                obtain ⟨z0, hz0'⟩ : ∃ z0, 2 + x.words = z0 := ⟨_, rfl⟩
                have hz2' : 2 + x.words = z0 := hz0'
                rw [hf0, hz0'] at HBF
                rw [show [Value.int .i64 (bf + 3 + 0 * (2 + x.words)), .int .i64 (2 + x.words)] = [.int .i64 f0, .int .i64 z0] by rw [hf0, hz0']] at HN
                clear hf0 hz0' hz2'
                go_wp2_with fail
                refine (buffer_any _ C hsm k 0 0 rfl rfl _ (HC.out.below HB.out)).mono ?_
                rw [HBF.out.1, HBF.out.2]
                rintro e w2 ⟨rfl, hb⟩
                have HB2 := Kp.mk (below_call HB.out hb)
                have HK2 := Kp.mk (blk_below HK.out hb)
                have HX2 := Kp.mk (blk_below HX.out hb)
                have HO2 := Kp.mk (own_below HO.out hb)
                have hw2 := hb.size
                clear hb HB HK HX HO q0 q1 q2 q3 q4 q5 lq x0 x1 x2 x3 x4 x5 x6 lx
                go_wp2_with (at_builtin; refine wpList_append_own _ rfl _ _ 53 rfl (bx + 1) 49 i0 (.agg #[.int .i64 0, .int .i64 0]) 2 16 Try.underlying53 hi hz0 hz1 hz2 rfl (by decide) _ _ _ rfl (HO2.out.alloc _) ⟨w2.heap.size, 0, none⟩ 1 1 [.int .i64 f0, .int .i64 z0] rfl rfl (cells_new_at w2 w2.heap.size rfl [.int .i64 f0, .int .i64 z0] 49) (by simp [Value.oneCell']) (by unfold maxLen; omega) (by omega) (by simp; omega) ?_; intro v' w9 hown' hgrow _; obtain ⟨g', cap', rfl⟩ := ownsRow_succ hown')
                have HK9 := Kp.mk (blk_grown (blk_al HK2.out _) (b := w.heap.size) (by omega) (HO2.out.alloc _) hgrow)
                have HX9 := Kp.mk (blk_grown (blk_al HX2.out _) (b := bx) (by omega) (HO2.out.alloc _) hgrow)
                have HB9 : Kp (Below w.heap.size w w9) := ⟨below_own2 (below_al HB2.out _) (by simp; omega) (by omega) (HO2.out.alloc _) hgrow⟩
                have hw9 : w2.heap.size < w9.heap.size := by have h := hgrow.size; simp at h; omega
                go_roundw
                case rel => exact ⟨0 + 1, by omega, by go_num, HB9, HK9, HX9, by omega, ⟨by rw [HN.out]; exact hown'⟩⟩
                case measure => simp [intOf]
              by_cases hj1 : j = 1
              · subst hj1
                have HBF : Kp ((bufB C k 0 1).1 = bf + 3 + 1 * (2 + x.words) ∧ (bufB C k 0 1).2 = 2 + x.words) := ⟨by
                  have h := buf_pcs ha k hlt HKD.out 0 1 1 (by omega) (by omega) rfl
                  rw [HXG.out, HBEF.out] at h
                  exact ⟨congrArg Prod.fst h, congrArg Prod.snd h⟩⟩
                have HN : Kp ((pcs (bf + 3) (2 + x.words) (1 + 1)).flatMap spanC = (pcs (bf + 3) (2 + x.words) 1).flatMap spanC ++ [.int .i64 (bf + 3 + 1 * (2 + x.words)), .int .i64 (2 + x.words)]) := ⟨pcs_snoc _ _ 1⟩
                obtain ⟨f0, hf0⟩ : ∃ f0, bf + 3 + 1 * (2 + x.words) = f0 := ⟨_, rfl⟩
                obtain ⟨z0, hz0'⟩ : ∃ z0, 2 + x.words = z0 := ⟨_, rfl⟩
                have hz2' : 2 + x.words = z0 := hz0'
                rw [hf0, hz0'] at HBF
                rw [show [Value.int .i64 (bf + 3 + 1 * (2 + x.words)), .int .i64 (2 + x.words)] = [.int .i64 f0, .int .i64 z0] by rw [hf0, hz0']] at HN
                clear hf0 hz0' hz2'
                go_wp2_with fail
                refine (buffer_any _ C hsm k 0 1 rfl rfl _ (HC.out.below HB.out)).mono ?_
                rw [HBF.out.1, HBF.out.2]
                rintro e w2 ⟨rfl, hb⟩
                have HB2 := Kp.mk (below_call HB.out hb)
                have HK2 := Kp.mk (blk_below HK.out hb)
                have HX2 := Kp.mk (blk_below HX.out hb)
                have HO2 := Kp.mk (own_below HO.out hb)
                have hw2 := hb.size
                clear hb HB HK HX HO q0 q1 q2 q3 q4 q5 lq x0 x1 x2 x3 x4 x5 x6 lx
                go_wp2_with (at_builtin; refine wpList_append_own _ rfl _ _ 53 rfl (bx + 1) 49 i0 (.agg #[.int .i64 0, .int .i64 0]) 2 16 Try.underlying53 hi hz0 hz1 hz2 rfl (by decide) _ _ _ rfl (HO2.out.alloc _) ⟨w2.heap.size, 0, none⟩ 1 1 [.int .i64 f0, .int .i64 z0] rfl rfl (cells_new_at w2 w2.heap.size rfl [.int .i64 f0, .int .i64 z0] 49) (by simp [Value.oneCell']) (by unfold maxLen; omega) (by omega) (by simp; omega) ?_; intro v' w9 hown' hgrow _; obtain ⟨g', cap', rfl⟩ := ownsRow_succ hown')
                have HK9 := Kp.mk (blk_grown (blk_al HK2.out _) (b := w.heap.size) (by omega) (HO2.out.alloc _) hgrow)
                have HX9 := Kp.mk (blk_grown (blk_al HX2.out _) (b := bx) (by omega) (HO2.out.alloc _) hgrow)
                have HB9 : Kp (Below w.heap.size w w9) := ⟨below_own2 (below_al HB2.out _) (by simp; omega) (by omega) (HO2.out.alloc _) hgrow⟩
                have hw9 : w2.heap.size < w9.heap.size := by have h := hgrow.size; simp at h; omega
                go_roundw
                case rel => exact ⟨1 + 1, by omega, by go_num, HB9, HK9, HX9, by omega, ⟨by rw [HN.out]; exact hown'⟩⟩
                case measure => simp [intOf]
              by_cases hj2 : j = 2
              · subst hj2
                have HBF : Kp ((bufB C k 1 0).1 = bf + 3 + 2 * (2 + x.words) ∧ (bufB C k 1 0).2 = 2 + x.words) := ⟨by
                  have h := buf_pcs ha k hlt HKD.out 1 0 2 (by omega) (by omega) rfl
                  rw [HXG.out, HBEF.out] at h
                  exact ⟨congrArg Prod.fst h, congrArg Prod.snd h⟩⟩
                have HN : Kp ((pcs (bf + 3) (2 + x.words) (2 + 1)).flatMap spanC = (pcs (bf + 3) (2 + x.words) 2).flatMap spanC ++ [.int .i64 (bf + 3 + 2 * (2 + x.words)), .int .i64 (2 + x.words)]) := ⟨pcs_snoc _ _ 2⟩
                obtain ⟨f0, hf0⟩ : ∃ f0, bf + 3 + 2 * (2 + x.words) = f0 := ⟨_, rfl⟩
                obtain ⟨z0, hz0'⟩ : ∃ z0, 2 + x.words = z0 := ⟨_, rfl⟩
                have hz2' : 2 + x.words = z0 := hz0'
                rw [hf0, hz0'] at HBF
                rw [show [Value.int .i64 (bf + 3 + 2 * (2 + x.words)), .int .i64 (2 + x.words)] = [.int .i64 f0, .int .i64 z0] by rw [hf0, hz0']] at HN
                clear hf0 hz0' hz2'
                go_wp2_with fail
                refine (buffer_any _ C hsm k 1 0 rfl rfl _ (HC.out.below HB.out)).mono ?_
                rw [HBF.out.1, HBF.out.2]
                rintro e w2 ⟨rfl, hb⟩
                have HB2 := Kp.mk (below_call HB.out hb)
                have HK2 := Kp.mk (blk_below HK.out hb)
                have HX2 := Kp.mk (blk_below HX.out hb)
                have HO2 := Kp.mk (own_below HO.out hb)
                have hw2 := hb.size
                clear hb HB HK HX HO q0 q1 q2 q3 q4 q5 lq x0 x1 x2 x3 x4 x5 x6 lx
                go_wp2_with (at_builtin; refine wpList_append_own _ rfl _ _ 53 rfl (bx + 1) 49 i0 (.agg #[.int .i64 0, .int .i64 0]) 2 16 Try.underlying53 hi hz0 hz1 hz2 rfl (by decide) _ _ _ rfl (HO2.out.alloc _) ⟨w2.heap.size, 0, none⟩ 1 1 [.int .i64 f0, .int .i64 z0] rfl rfl (cells_new_at w2 w2.heap.size rfl [.int .i64 f0, .int .i64 z0] 49) (by simp [Value.oneCell']) (by unfold maxLen; omega) (by omega) (by simp; omega) ?_; intro v' w9 hown' hgrow _; obtain ⟨g', cap', rfl⟩ := ownsRow_succ hown')
                have HK9 := Kp.mk (blk_grown (blk_al HK2.out _) (b := w.heap.size) (by omega) (HO2.out.alloc _) hgrow)
                have HX9 := Kp.mk (blk_grown (blk_al HX2.out _) (b := bx) (by omega) (HO2.out.alloc _) hgrow)
                have HB9 : Kp (Below w.heap.size w w9) := ⟨below_own2 (below_al HB2.out _) (by simp; omega) (by omega) (HO2.out.alloc _) hgrow⟩
                have hw9 : w2.heap.size < w9.heap.size := by have h := hgrow.size; simp at h; omega
                go_roundw
                case rel => exact ⟨2 + 1, by omega, by go_num, HB9, HK9, HX9, by omega, ⟨by rw [HN.out]; exact hown'⟩⟩
                case measure => simp [intOf]
              by_cases hj3 : j = 3
              · subst hj3
                have HBF : Kp ((bufB C k 1 1).1 = bf + 3 + 3 * (2 + x.words) ∧ (bufB C k 1 1).2 = 2 + x.words) := ⟨by
                  have h := buf_pcs ha k hlt HKD.out 1 1 3 (by omega) (by omega) rfl
                  rw [HXG.out, HBEF.out] at h
                  exact ⟨congrArg Prod.fst h, congrArg Prod.snd h⟩⟩
                have HN : Kp ((pcs (bf + 3) (2 + x.words) (3 + 1)).flatMap spanC = (pcs (bf + 3) (2 + x.words) 3).flatMap spanC ++ [.int .i64 (bf + 3 + 3 * (2 + x.words)), .int .i64 (2 + x.words)]) := ⟨pcs_snoc _ _ 3⟩
                obtain ⟨f0, hf0⟩ : ∃ f0, bf + 3 + 3 * (2 + x.words) = f0 := ⟨_, rfl⟩
                obtain ⟨z0, hz0'⟩ : ∃ z0, 2 + x.words = z0 := ⟨_, rfl⟩
                have hz2' : 2 + x.words = z0 := hz0'
                rw [hf0, hz0'] at HBF
                rw [show [Value.int .i64 (bf + 3 + 3 * (2 + x.words)), .int .i64 (2 + x.words)] = [.int .i64 f0, .int .i64 z0] by rw [hf0, hz0']] at HN
                clear hf0 hz0' hz2'
                go_wp2_with fail
                refine (buffer_any _ C hsm k 1 1 rfl rfl _ (HC.out.below HB.out)).mono ?_
                rw [HBF.out.1, HBF.out.2]
                rintro e w2 ⟨rfl, hb⟩
                have HB2 := Kp.mk (below_call HB.out hb)
                have HK2 := Kp.mk (blk_below HK.out hb)
                have HX2 := Kp.mk (blk_below HX.out hb)
                have HO2 := Kp.mk (own_below HO.out hb)
                have hw2 := hb.size
                clear hb HB HK HX HO q0 q1 q2 q3 q4 q5 lq x0 x1 x2 x3 x4 x5 x6 lx
                go_wp2_with (at_builtin; refine wpList_append_own _ rfl _ _ 53 rfl (bx + 1) 49 i0 (.agg #[.int .i64 0, .int .i64 0]) 2 16 Try.underlying53 hi hz0 hz1 hz2 rfl (by decide) _ _ _ rfl (HO2.out.alloc _) ⟨w2.heap.size, 0, none⟩ 1 1 [.int .i64 f0, .int .i64 z0] rfl rfl (cells_new_at w2 w2.heap.size rfl [.int .i64 f0, .int .i64 z0] 49) (by simp [Value.oneCell']) (by unfold maxLen; omega) (by omega) (by simp; omega) ?_; intro v' w9 hown' hgrow _; obtain ⟨g', cap', rfl⟩ := ownsRow_succ hown')
                have HK9 := Kp.mk (blk_grown (blk_al HK2.out _) (b := w.heap.size) (by omega) (HO2.out.alloc _) hgrow)
                have HX9 := Kp.mk (blk_grown (blk_al HX2.out _) (b := bx) (by omega) (HO2.out.alloc _) hgrow)
                have HB9 : Kp (Below w.heap.size w w9) := ⟨below_own2 (below_al HB2.out _) (by simp; omega) (by omega) (HO2.out.alloc _) hgrow⟩
                have hw9 : w2.heap.size < w9.heap.size := by have h := hgrow.size; simp at h; omega
                go_roundw
                case rel => exact ⟨3 + 1, by omega, by go_num, HB9, HK9, HX9, by omega, ⟨by rw [HN.out]; exact hown'⟩⟩
                case measure => simp [intOf]
              obtain rfl : j = 4 := by omega
              go_wp2_with fail
              obtain ⟨wq, rfl⟩ : ∃ wq : World, wq = wr := ⟨_, rfl⟩
              clear q0 q1 q2 q3 q4 q5 lq x0 x1 x2 x3 x4 x5 x6 lx
              go_loopw [82, 8] (fun i v wr => i = .int .i64 0 ∧ v = .slice av 4 cv ∧ wr = wq) (fun i v wr => 0)
              case atStart => exact ⟨rfl, rfl, rfl⟩
              case round =>
                obtain ⟨rfl, rfl, hwq⟩ := hrel
                subst hwq
                have q0 : wr.cell? ⟨w.heap.size, 0, none⟩ = some (.slice pa C.parts.length pc) := (cell_blk HK.out 0).trans rfl
                have q1 : wr.cell? ⟨w.heap.size, 1, none⟩ = some (.slice (some ⟨g, o, none⟩) C.chans.length cc) := (cell_blk HK.out 1).trans rfl
                have q2 : wr.cell? ⟨w.heap.size, 2, none⟩ = some (.int .i64 C.l0) := (cell_blk HK.out 2).trans rfl
                have q3 : wr.cell? ⟨w.heap.size, 3, none⟩ = some (.slice a0 C.w0.length c0) := (cell_blk HK.out 3).trans rfl
                have q4 : wr.cell? ⟨w.heap.size, 4, none⟩ = some (.int .i64 C.l1) := (cell_blk HK.out 4).trans rfl
                have q5 : wr.cell? ⟨w.heap.size, 5, none⟩ = some (.slice a1 C.w1.length c1) := (cell_blk HK.out 5).trans rfl
                have lq := blk_lt HK.out
                have x0 : wr.cell? ⟨bx, 0, none⟩ = some (.int .i64 1) := (cell_blk HX.out 0).trans rfl
                have x1 : wr.cell? ⟨bx, 1, none⟩ = some (.int .i64 x.frm) := (cell_blk HX.out 1).trans rfl
                have x2 : wr.cell? ⟨bx, 2, none⟩ = some (.int .i64 x.to) := (cell_blk HX.out 2).trans rfl
                have x3 : wr.cell? ⟨bx, 3, none⟩ = some (.int .i64 x.words) := (cell_blk HX.out 3).trans rfl
                have x4 : wr.cell? ⟨bx, 4, none⟩ = some (.int .i64 0) := (cell_blk HX.out 4).trans rfl
                have x5 : wr.cell? ⟨bx, 5, none⟩ = some (.int .i64 x.period) := (cell_blk HX.out 5).trans rfl
                have x6 : wr.cell? ⟨bx, 6, none⟩ = some (.int .u32 x.boot) := (cell_blk HX.out 6).trans rfl
                have lx := blk_lt HX.out
                go_wp2_with fail
                refine (source_any _ C hsm k _ (HC.out.below HB.out)).mono ?_
                rw [HSRC.out.1, HSRC.out.2]
                rintro e w2 ⟨rfl, hb⟩
                have HB2 := Kp.mk (below_call HB.out hb)
                have HK2 := Kp.mk (blk_below HK.out hb)
                have HX2 := Kp.mk (blk_below HX.out hb)
                have HO2 := Kp.mk (own_below HO.out hb)
                have hw2 := hb.size
                clear hb HB HK HX HO q0 q1 q2 q3 q4 q5 lq x0 x1 x2 x3 x4 x5 x6 lx
                have HRA := Kp.mk (RowAt.of_own HO2.out)
                obtain ⟨bs, hbs⟩ : ∃ bs, w2.heap.size = bs := ⟨_, rfl⟩
                have hbs1 : w.heap.size < bs := by omega
                have hbs2 : bx < bs := by omega
                have HSB : Kp ((w2.alloc (.cells #[.int .i64 sf, .int .i64 ss] 49)).heap[bs]? = some (.cells #[.int .i64 sf, .int .i64 ss] 49 (0, 0))) := ⟨blk_at hbs _⟩
                have HB3 : Kp (Below w.heap.size w (w2.alloc (.cells #[.int .i64 sf, .int .i64 ss] 49))) := ⟨below_al HB2.out _⟩
                have HK3 : Kp ((w2.alloc (.cells #[.int .i64 sf, .int .i64 ss] 49)).heap[w.heap.size]? = some (.cells #[.slice pa C.parts.length pc, .slice (some ⟨g, o, none⟩) C.chans.length cc, .int .i64 C.l0, .slice a0 C.w0.length c0, .int .i64 C.l1, .slice a1 C.w1.length c1] 29 (0, 0))) := ⟨blk_al HK2.out _⟩
                have HX3 : Kp ((w2.alloc (.cells #[.int .i64 sf, .int .i64 ss] 49)).heap[bx]? = some (.cells #[.int .i64 1, .int .i64 x.frm, .int .i64 x.to, .int .i64 x.words, .int .i64 0, .int .i64 x.period, .int .u32 x.boot] 40 (0, 0))) := ⟨blk_al HX2.out _⟩
                have HR3 : Kp (RowAt (w2.alloc (.cells #[.int .i64 sf, .int .i64 ss] 49)) 2 (.slice av (4) cv) (4) ((pcs (bf + 3) (2 + x.words) (4)).flatMap spanC)) := ⟨HRA.out.below (below_al (Below.refl _ _) _)⟩
                have hz3 := blk_lt HSB.out
                go_wp2_with fail
                try rw [hbs]
                clear hbs HB2 HK2 HX2 HO2 HRA
                generalize (w2.alloc (.cells #[.int .i64 sf, .int .i64 ss] 49)) = w3 at HSB HB3 HK3 HX3 HR3 hz3 ⊢
                go_loopw [98] (fun i wz => ∃ m : Nat, m ≤ 4 ∧ i = .int .i64 m ∧ Kp (Below w.heap.size w wz) ∧ Kp (Below w3.heap.size w3 wz)) (fun i wz => 4 - (intOf i).toNat)
                case atStart => exact ⟨0, Nat.zero_le _, rfl, HB3, ⟨Below.refl _ _⟩⟩
                case round =>
                  obtain ⟨wz, rfl⟩ : ∃ wz : World, wz = wr := ⟨_, rfl⟩
                  obtain ⟨m, hm, rfl, HBz, HBC⟩ := hrel
                  have hwz := HBC.out.size
                  have HKz := Kp.mk (blk_below HK3.out HBC.out)
                  have HXz := Kp.mk (blk_below HX3.out HBC.out)
                  have HSz := Kp.mk (blk_below HSB.out HBC.out)
                  by_cases hlt2 : m < 4
                  · obtain ⟨g2, o2, hav, hg2, hc2⟩ := HR3.out.at (by omega)
                    obtain ⟨hin, hi1, hi2, hi3, hi4⟩ := pcs_in (bf + 3) (2 + x.words) (4) m hlt2 (by omega) (by omega) (by omega)
                    have hpl : m < (pcs (bf + 3) (2 + x.words) (4)).length := by rw [pcs_len]; exact hlt2
                    have hpa : (pcs (bf + 3) (2 + x.words) (4))[m] = ((bf + 3) + (m : Int) * (2 + x.words), (2 + x.words)) := by rw [← getD_at _ _ (0, 0) hpl]; exact pcs_at _ _ _ _ hlt2
                    have p0 : wz.cell? ⟨g2, o2 + m * 2, none⟩ = some (.int .i64 ((bf + 3) + (m : Int) * (2 + x.words))) := by
                      have h1 := hc2 (m * 2 + 0) (by omega)
                      rw [flat_at spanC 2 spanC_len _ m 0 hpl (by omega), hpa] at h1
                      exact (HBC.out.cell (p := ⟨g2, o2 + m * 2, none⟩) hg2).trans h1
                    have p1 : wz.cell? ⟨g2, o2 + m * 2 + 1, none⟩ = some (.int .i64 ((2 + x.words))) := by
                      have h1 := hc2 (m * 2 + 1) (by omega)
                      rw [flat_at spanC 2 spanC_len _ m 1 hpl (by omega), hpa] at h1
                      exact (HBC.out.cell (p := ⟨g2, o2 + (m * 2 + 1), none⟩) hg2).trans h1
                    subst hav
                    obtain ⟨f0, hf0⟩ : ∃ f0, (bf + 3) + (m : Int) * (2 + x.words) = f0 := ⟨_, rfl⟩
                    obtain ⟨zz, hzz⟩ : ∃ zz, (2 + x.words) = zz := ⟨_, rfl⟩
                    rw [hf0] at hin p0
                    have hlw : ¬ zz ≤ x.words := by omega
                    have hlw2 : decide (zz ≤ x.words) = false := decide_eq_false hlw
                    have HIN : Kp (lieB f0 zz (sf + 3) (ss - 3) = true) := ⟨by
                      have h := HSS.out
                      rw [h.1, h.2, ← hzz]; exact hin⟩
                    rw [hzz] at p1
                    clear hin hpa hc2 hf0 hi1 hi2 hi3 hi4
                    have s1 : IntKind.i64.wrap (sf + 3) = sf + 3 := IntWalk.i64_in _ (by omega)
                    have s2 : IntKind.i64.wrap (ss - 3) = ss - 3 := IntWalk.i64_in _ (by omega)
                    have hgz : g2 < wz.heap.size := by omega
                    have hbz : bs < wz.heap.size := by omega
                    have z0 : wz.cell? ⟨bs, 0, none⟩ = some (.int .i64 sf) := (cell_blk HSz.out 0).trans rfl
                    have z1 : wz.cell? ⟨bs, 1, none⟩ = some (.int .i64 ss) := (cell_blk HSz.out 1).trans rfl
                    have x0 : wz.cell? ⟨bx, 0, none⟩ = some (.int .i64 1) := (cell_blk HXz.out 0).trans rfl
                    have x1 : wz.cell? ⟨bx, 1, none⟩ = some (.int .i64 x.frm) := (cell_blk HXz.out 1).trans rfl
                    have x2 : wz.cell? ⟨bx, 2, none⟩ = some (.int .i64 x.to) := (cell_blk HXz.out 2).trans rfl
                    have x3 : wz.cell? ⟨bx, 3, none⟩ = some (.int .i64 x.words) := (cell_blk HXz.out 3).trans rfl
                    have x4 : wz.cell? ⟨bx, 4, none⟩ = some (.int .i64 0) := (cell_blk HXz.out 4).trans rfl
                    have x5 : wz.cell? ⟨bx, 5, none⟩ = some (.int .i64 x.period) := (cell_blk HXz.out 5).trans rfl
                    have x6 : wz.cell? ⟨bx, 6, none⟩ = some (.int .u32 x.boot) := (cell_blk HXz.out 6).trans rfl
                    have lx := blk_lt HXz.out
                    go_wp2_with fail
                    refine (rin_any f0 zz (sf + 3) (ss - 3) true HIN.out _).mono ?_
                    rintro e w5 ⟨rfl, hb⟩
                    have HB5 := Kp.mk (below_call (below_al HBz.out (.cells #[.int .i64 f0, .int .i64 zz] 49)) hb)
                    have HBC5 := Kp.mk (below_call (below_al HBC.out (.cells #[.int .i64 f0, .int .i64 zz] 49)) hb)
                    clear hb z0 z1 x0 x1 x2 x3 x4 x5 x6 lx p0 p1
                    go_wp2
                    go_roundw
                    case rel => exact ⟨m + 1, by omega, by go_num, HB5, HBC5⟩
                    case measure => simp [intOf]; omega
                  · have hmN : 4 = m := by omega
                    subst hmN
                    go_wp2_with fail
                    refine (rapart_any av (4) cv _ _ true (pcs_apart (bf + 3) (2 + x.words) (by omega) (4)) _ hv1 (by omega) (spansAt_row (pcs_len _ _ _) (HR3.out.below HBC.out))).mono ?_
                    rintro e w6 ⟨rfl, hb⟩
                    have HB6 := Kp.mk (below_call HBz.out hb)
                    have HK6 := Kp.mk (blk_below HKz.out hb)
                    clear hb
                    go_wp2
                    go_roundw
                    case rel => exact ⟨k + 1, by omega, by go_num, HB6, HK6⟩
                    case measure => simp [intOf]; omega
          · have hkd2' : x.kind = 2 := by omega
            have HKD : Kp ((C.chans.getD k default).kind = 2) := ⟨by rw [HXG.out]; exact hkd2'⟩
            obtain ⟨d, hd⟩ : ∃ d : Nat, x.depth = (d : Int) := ⟨x.depth.toNat, by omega⟩
            have HSS : Kp (sf + 1 = bf + 1 ∧ ss - 1 = (d : Int) * (1 + x.words)) := ⟨by
              have h := HSFX.out
              rw [sizedC, if_neg hkd1, hd] at h
              omega⟩
            have hd8 : d ≤ 8 := by omega
            rw [hkd2', hd] at HX
            have HDX := Kp.mk hd
            clear hkd1 hkd2' hd hkk hk1c hk2c
            have x0 : wx.cell? ⟨bx, 0, none⟩ = some (.int .i64 2) := (cell_blk HX.out 0).trans rfl
            have x1 : wx.cell? ⟨bx, 1, none⟩ = some (.int .i64 x.frm) := (cell_blk HX.out 1).trans rfl
            have x2 : wx.cell? ⟨bx, 2, none⟩ = some (.int .i64 x.to) := (cell_blk HX.out 2).trans rfl
            have x3 : wx.cell? ⟨bx, 3, none⟩ = some (.int .i64 x.words) := (cell_blk HX.out 3).trans rfl
            have x4 : wx.cell? ⟨bx, 4, none⟩ = some (.int .i64 (d : Int)) := (cell_blk HX.out 4).trans rfl
            have x5 : wx.cell? ⟨bx, 5, none⟩ = some (.int .i64 x.period) := (cell_blk HX.out 5).trans rfl
            have x6 : wx.cell? ⟨bx, 6, none⟩ = some (.int .u32 x.boot) := (cell_blk HX.out 6).trans rfl
            have lx := blk_lt HX.out
            go_wp2_with fail
            clear x0 x1 x2 x3 x4 x5 x6 lx
            go_loopw [82, 8] (fun i v wr => ∃ j : Nat, j ≤ d ∧ i = .int .i64 j ∧ Kp (Below w.heap.size w wr) ∧ Kp (wr.heap[w.heap.size]? = some (.cells #[.slice pa C.parts.length pc, .slice (some ⟨g, o, none⟩) C.chans.length cc, .int .i64 C.l0, .slice a0 C.w0.length c0, .int .i64 C.l1, .slice a1 C.w1.length c1] 29 (0, 0))) ∧ Kp (wr.heap[bx]? = some (.cells #[.int .i64 2, .int .i64 x.frm, .int .i64 x.to, .int .i64 x.words, .int .i64 (d : Int), .int .i64 x.period, .int .u32 x.boot] 40 (0, 0))) ∧ bx + 1 ≤ wr.heap.size ∧ Kp (wr.ownsRow (bx + 1) 49 2 v (j) ((pcs (bf + 1) (1 + x.words) j).flatMap spanC))) (fun i v wr => d - (intOf i).toNat)
            case atStart => exact ⟨0, Nat.zero_le _, rfl, HB, HK, HX, hbx, ⟨World.ownsRow_nil _ _ _ _⟩⟩
            case round =>
              clear HB HK HX hbx
              obtain ⟨j, hj, rfl, HB, HK, HX, hbx, HO⟩ := hrel
              obtain ⟨av, cv, rfl, hv1, hv2⟩ := (RowAt.of_own HO.out).shape
              have q0 : wr.cell? ⟨w.heap.size, 0, none⟩ = some (.slice pa C.parts.length pc) := (cell_blk HK.out 0).trans rfl
              have q1 : wr.cell? ⟨w.heap.size, 1, none⟩ = some (.slice (some ⟨g, o, none⟩) C.chans.length cc) := (cell_blk HK.out 1).trans rfl
              have q2 : wr.cell? ⟨w.heap.size, 2, none⟩ = some (.int .i64 C.l0) := (cell_blk HK.out 2).trans rfl
              have q3 : wr.cell? ⟨w.heap.size, 3, none⟩ = some (.slice a0 C.w0.length c0) := (cell_blk HK.out 3).trans rfl
              have q4 : wr.cell? ⟨w.heap.size, 4, none⟩ = some (.int .i64 C.l1) := (cell_blk HK.out 4).trans rfl
              have q5 : wr.cell? ⟨w.heap.size, 5, none⟩ = some (.slice a1 C.w1.length c1) := (cell_blk HK.out 5).trans rfl
              have lq := blk_lt HK.out
              have x0 : wr.cell? ⟨bx, 0, none⟩ = some (.int .i64 2) := (cell_blk HX.out 0).trans rfl
              have x1 : wr.cell? ⟨bx, 1, none⟩ = some (.int .i64 x.frm) := (cell_blk HX.out 1).trans rfl
              have x2 : wr.cell? ⟨bx, 2, none⟩ = some (.int .i64 x.to) := (cell_blk HX.out 2).trans rfl
              have x3 : wr.cell? ⟨bx, 3, none⟩ = some (.int .i64 x.words) := (cell_blk HX.out 3).trans rfl
              have x4 : wr.cell? ⟨bx, 4, none⟩ = some (.int .i64 (d : Int)) := (cell_blk HX.out 4).trans rfl
              have x5 : wr.cell? ⟨bx, 5, none⟩ = some (.int .i64 x.period) := (cell_blk HX.out 5).trans rfl
              have x6 : wr.cell? ⟨bx, 6, none⟩ = some (.int .u32 x.boot) := (cell_blk HX.out 6).trans rfl
              have lx := blk_lt HX.out
              by_cases hjd : j < d
              · have HBF : Kp ((cellB C k j).1 = bf + 1 + (j : Int) * (1 + x.words) ∧ (cellB C k j).2 = 1 + x.words) := ⟨by
                  have h := cell_pcs ha k hlt HKD.out j (by rw [HXG.out, HDX.out]; omega)
                  rw [HXG.out, HBEF.out] at h
                  exact ⟨congrArg Prod.fst h, congrArg Prod.snd h⟩⟩
                have HN : Kp ((pcs (bf + 1) (1 + x.words) (j + 1)).flatMap spanC = (pcs (bf + 1) (1 + x.words) j).flatMap spanC ++ [.int .i64 (bf + 1 + (j : Int) * (1 + x.words)), .int .i64 (1 + x.words)]) := ⟨pcs_snoc _ _ j⟩
                obtain ⟨f0, hf0⟩ : ∃ f0, bf + 1 + (j : Int) * (1 + x.words) = f0 := ⟨_, rfl⟩
                rw [hf0] at HBF HN
                obtain ⟨z0, hz0'⟩ : ∃ z0, 1 + x.words = z0 := ⟨_, rfl⟩
                rw [hz0'] at HBF
                rw [show [Value.int .i64 f0, .int .i64 (1 + x.words)] = [.int .i64 f0, .int .i64 z0] by rw [hz0']] at HN
                clear hf0 hz0'
                go_wp2_with fail
                refine (cell_any _ C hsm k j _ (HC.out.below HB.out)).mono ?_
                rw [HBF.out.1, HBF.out.2]
                rintro e w2 ⟨rfl, hb⟩
                have HB2 := Kp.mk (below_call HB.out hb)
                have HK2 := Kp.mk (blk_below HK.out hb)
                have HX2 := Kp.mk (blk_below HX.out hb)
                have HO2 := Kp.mk (own_below HO.out hb)
                have hw2 := hb.size
                clear hb HB HK HX HO q0 q1 q2 q3 q4 q5 lq x0 x1 x2 x3 x4 x5 x6 lx
                go_wp2_with (at_builtin; refine wpList_append_own _ rfl _ _ 53 rfl (bx + 1) 49 i0 (.agg #[.int .i64 0, .int .i64 0]) 2 16 Try.underlying53 hi hz0 hz1 hz2 rfl (by decide) _ _ _ rfl (HO2.out.alloc _) ⟨w2.heap.size, 0, none⟩ 1 1 [.int .i64 f0, .int .i64 z0] rfl rfl (cells_new_at w2 w2.heap.size rfl [.int .i64 f0, .int .i64 z0] 49) (by simp [Value.oneCell']) (by unfold maxLen; omega) (by omega) (by simp; omega) ?_; intro v' w9 hown' hgrow _; obtain ⟨g', cap', rfl⟩ := ownsRow_succ hown')
                have HK9 := Kp.mk (blk_grown (blk_al HK2.out _) (b := w.heap.size) (by omega) (HO2.out.alloc _) hgrow)
                have HX9 := Kp.mk (blk_grown (blk_al HX2.out _) (b := bx) (by omega) (HO2.out.alloc _) hgrow)
                have HB9 : Kp (Below w.heap.size w w9) := ⟨below_own2 (below_al HB2.out _) (by simp; omega) (by omega) (HO2.out.alloc _) hgrow⟩
                have hw9 : w2.heap.size < w9.heap.size := by have h := hgrow.size; simp at h; omega
                go_roundw
                case rel => exact ⟨j + 1, by omega, by go_num, HB9, HK9, HX9, by omega, ⟨by rw [HN.out]; exact hown'⟩⟩
                case measure => simp [intOf]; omega
              · have hjd2 : d = j := by omega
                subst hjd2
                go_wp2_with fail
                refine (source_any _ C hsm k _ (HC.out.below HB.out)).mono ?_
                rw [HSRC.out.1, HSRC.out.2]
                rintro e w2 ⟨rfl, hb⟩
                have HB2 := Kp.mk (below_call HB.out hb)
                have HK2 := Kp.mk (blk_below HK.out hb)
                have HX2 := Kp.mk (blk_below HX.out hb)
                have HO2 := Kp.mk (own_below HO.out hb)
                have hw2 := hb.size
                clear hb HB HK HX HO q0 q1 q2 q3 q4 q5 lq x0 x1 x2 x3 x4 x5 x6 lx
                have HRA := Kp.mk (RowAt.of_own HO2.out)
                obtain ⟨bs, hbs⟩ : ∃ bs, w2.heap.size = bs := ⟨_, rfl⟩
                have hbs1 : w.heap.size < bs := by omega
                have hbs2 : bx < bs := by omega
                have HSB : Kp ((w2.alloc (.cells #[.int .i64 sf, .int .i64 ss] 49)).heap[bs]? = some (.cells #[.int .i64 sf, .int .i64 ss] 49 (0, 0))) := ⟨blk_at hbs _⟩
                have HB3 : Kp (Below w.heap.size w (w2.alloc (.cells #[.int .i64 sf, .int .i64 ss] 49))) := ⟨below_al HB2.out _⟩
                have HK3 : Kp ((w2.alloc (.cells #[.int .i64 sf, .int .i64 ss] 49)).heap[w.heap.size]? = some (.cells #[.slice pa C.parts.length pc, .slice (some ⟨g, o, none⟩) C.chans.length cc, .int .i64 C.l0, .slice a0 C.w0.length c0, .int .i64 C.l1, .slice a1 C.w1.length c1] 29 (0, 0))) := ⟨blk_al HK2.out _⟩
                have HX3 : Kp ((w2.alloc (.cells #[.int .i64 sf, .int .i64 ss] 49)).heap[bx]? = some (.cells #[.int .i64 2, .int .i64 x.frm, .int .i64 x.to, .int .i64 x.words, .int .i64 (d : Int), .int .i64 x.period, .int .u32 x.boot] 40 (0, 0))) := ⟨blk_al HX2.out _⟩
                have HR3 : Kp (RowAt (w2.alloc (.cells #[.int .i64 sf, .int .i64 ss] 49)) 2 (.slice av (d) cv) (d) ((pcs (bf + 1) (1 + x.words) (d)).flatMap spanC)) := ⟨HRA.out.below (below_al (Below.refl _ _) _)⟩
                have hz3 := blk_lt HSB.out
                go_wp2_with fail
                try rw [hbs]
                clear hbs HB2 HK2 HX2 HO2 HRA
                generalize (w2.alloc (.cells #[.int .i64 sf, .int .i64 ss] 49)) = w3 at HSB HB3 HK3 HX3 HR3 hz3 ⊢
                go_loopw [98] (fun i wz => ∃ m : Nat, m ≤ d ∧ i = .int .i64 m ∧ Kp (Below w.heap.size w wz) ∧ Kp (Below w3.heap.size w3 wz)) (fun i wz => d - (intOf i).toNat)
                case atStart => exact ⟨0, Nat.zero_le _, rfl, HB3, ⟨Below.refl _ _⟩⟩
                case round =>
                  obtain ⟨wz, rfl⟩ : ∃ wz : World, wz = wr := ⟨_, rfl⟩
                  obtain ⟨m, hm, rfl, HBz, HBC⟩ := hrel
                  have hwz := HBC.out.size
                  have HKz := Kp.mk (blk_below HK3.out HBC.out)
                  have HXz := Kp.mk (blk_below HX3.out HBC.out)
                  have HSz := Kp.mk (blk_below HSB.out HBC.out)
                  by_cases hlt2 : m < d
                  · obtain ⟨g2, o2, hav, hg2, hc2⟩ := HR3.out.at (by omega)
                    obtain ⟨hin, hi1, hi2, hi3, hi4⟩ := pcs_in (bf + 1) (1 + x.words) (d) m hlt2 (by omega) (by omega) (by omega)
                    have hpl : m < (pcs (bf + 1) (1 + x.words) (d)).length := by rw [pcs_len]; exact hlt2
                    have hpa : (pcs (bf + 1) (1 + x.words) (d))[m] = ((bf + 1) + (m : Int) * (1 + x.words), (1 + x.words)) := by rw [← getD_at _ _ (0, 0) hpl]; exact pcs_at _ _ _ _ hlt2
                    have p0 : wz.cell? ⟨g2, o2 + m * 2, none⟩ = some (.int .i64 ((bf + 1) + (m : Int) * (1 + x.words))) := by
                      have h1 := hc2 (m * 2 + 0) (by omega)
                      rw [flat_at spanC 2 spanC_len _ m 0 hpl (by omega), hpa] at h1
                      exact (HBC.out.cell (p := ⟨g2, o2 + m * 2, none⟩) hg2).trans h1
                    have p1 : wz.cell? ⟨g2, o2 + m * 2 + 1, none⟩ = some (.int .i64 ((1 + x.words))) := by
                      have h1 := hc2 (m * 2 + 1) (by omega)
                      rw [flat_at spanC 2 spanC_len _ m 1 hpl (by omega), hpa] at h1
                      exact (HBC.out.cell (p := ⟨g2, o2 + (m * 2 + 1), none⟩) hg2).trans h1
                    subst hav
                    obtain ⟨f0, hf0⟩ : ∃ f0, (bf + 1) + (m : Int) * (1 + x.words) = f0 := ⟨_, rfl⟩
                    obtain ⟨zz, hzz⟩ : ∃ zz, (1 + x.words) = zz := ⟨_, rfl⟩
                    rw [hf0] at hin p0
                    have hlw : ¬ zz ≤ x.words := by omega
                    have hlw2 : decide (zz ≤ x.words) = false := decide_eq_false hlw
                    have HIN : Kp (lieB f0 zz (sf + 1) (ss - 1) = true) := ⟨by
                      have h := HSS.out
                      rw [h.1, h.2, ← hzz]; exact hin⟩
                    rw [hzz] at p1
                    clear hin hpa hc2 hf0 hi1 hi2 hi3 hi4
                    have s1 : IntKind.i64.wrap (sf + 1) = sf + 1 := IntWalk.i64_in _ (by omega)
                    have s2 : IntKind.i64.wrap (ss - 1) = ss - 1 := IntWalk.i64_in _ (by omega)
                    have hgz : g2 < wz.heap.size := by omega
                    have hbz : bs < wz.heap.size := by omega
                    have z0 : wz.cell? ⟨bs, 0, none⟩ = some (.int .i64 sf) := (cell_blk HSz.out 0).trans rfl
                    have z1 : wz.cell? ⟨bs, 1, none⟩ = some (.int .i64 ss) := (cell_blk HSz.out 1).trans rfl
                    have x0 : wz.cell? ⟨bx, 0, none⟩ = some (.int .i64 2) := (cell_blk HXz.out 0).trans rfl
                    have x1 : wz.cell? ⟨bx, 1, none⟩ = some (.int .i64 x.frm) := (cell_blk HXz.out 1).trans rfl
                    have x2 : wz.cell? ⟨bx, 2, none⟩ = some (.int .i64 x.to) := (cell_blk HXz.out 2).trans rfl
                    have x3 : wz.cell? ⟨bx, 3, none⟩ = some (.int .i64 x.words) := (cell_blk HXz.out 3).trans rfl
                    have x4 : wz.cell? ⟨bx, 4, none⟩ = some (.int .i64 (d : Int)) := (cell_blk HXz.out 4).trans rfl
                    have x5 : wz.cell? ⟨bx, 5, none⟩ = some (.int .i64 x.period) := (cell_blk HXz.out 5).trans rfl
                    have x6 : wz.cell? ⟨bx, 6, none⟩ = some (.int .u32 x.boot) := (cell_blk HXz.out 6).trans rfl
                    have lx := blk_lt HXz.out
                    go_wp2_with fail
                    refine (rin_any f0 zz (sf + 1) (ss - 1) true HIN.out _).mono ?_
                    rintro e w5 ⟨rfl, hb⟩
                    have HB5 := Kp.mk (below_call (below_al HBz.out (.cells #[.int .i64 f0, .int .i64 zz] 49)) hb)
                    have HBC5 := Kp.mk (below_call (below_al HBC.out (.cells #[.int .i64 f0, .int .i64 zz] 49)) hb)
                    clear hb z0 z1 x0 x1 x2 x3 x4 x5 x6 lx p0 p1
                    go_wp2
                    go_roundw
                    case rel => exact ⟨m + 1, by omega, by go_num, HB5, HBC5⟩
                    case measure => simp [intOf]; omega
                  · have hmN : d = m := by omega
                    subst hmN
                    go_wp2_with fail
                    refine (rapart_any av (d) cv _ _ true (pcs_apart (bf + 1) (1 + x.words) (by omega) (d)) _ hv1 (by omega) (spansAt_row (pcs_len _ _ _) (HR3.out.below HBC.out))).mono ?_
                    rintro e w6 ⟨rfl, hb⟩
                    have HB6 := Kp.mk (below_call HBz.out hb)
                    have HK6 := Kp.mk (blk_below HKz.out hb)
                    clear hb
                    go_wp2
                    go_roundw
                    case rel => exact ⟨k + 1, by omega, by go_num, HB6, HK6⟩
                    case measure => simp [intOf]; omega
        · have hkl : k = C.chans.length := by omega
          subst hkl
          go_wp2
          go_ret
          exact ⟨rfl, HB.out⟩
theorem layoutApart_any (v : Value) (w : World) (h : RdV w cfgSh v) : Calls Try.prog 12 #[v] w fun e w' => e = .returned (.bool true) ∧ Below w.heap.size w w' := by
  obtain ⟨C, hC⟩ := cfgAt_of h
  cases hg : C.great with
  | true => exact layoutApart_great v C hg w hC
  | false =>
    cases ha : accB C with
    | false => exact layoutApart_no v C hg ha w hC
    | true => exact layoutApart_core v C hg ha w hC
end Go.Proofs.Ytpeajlponlmceaa

/- Contracts of package layout: pieces of a channel's span. -/
import Derived.Test.YtpeajlponlmceaaLay4
import Derived.Laws.BitsAllLaws
namespace Go.Proofs.Ytpeajlponlmceaa
open Go.RowKit
set_option linter.unusedSimpArgs false
set_option linter.unusedVariables false


theorem srcB_at (C : Cfg) (h : accB C = true) (k : Nat) (hk : k < C.chans.length) : srcB C k = (befC C k, sizedC (C.chans.getD k default)) := by
  rw [srcB, if_pos ⟨h, by omega, by omega⟩, Int.toNat_natCast]

set_option maxRecDepth 100000 in
set_option maxHeartbeats 4000000 in
theorem within_yes (cv : Value) (C : Cfg) (hsm : C.small) (ha : accB C = true) (k : Nat) (hk : k < C.chans.length) (kd fr sz : Int) (hkd : (C.chans.getD k default).kind = kd) (hfr : 0 ≤ fr ∧ fr ≤ 5000) (w : World) (h : CfgAt w cv C) : Calls Try.prog 51 #[cv, .int .i64 k, .int .i64 kd, .int .i64 fr, .int .i64 sz] w fun e w' => e = .returned (.agg #[.int .i64 (befC C k + fr), .int .i64 sz]) ∧ Below w.heap.size w w' := by
  have HC := Kp.mk h
  have HS := Kp.mk (srcB_at C ha k hk)
  have hbs := befC_small ha k
  have hcs := chn_small ha (List.getElem_mem hk)
  obtain ⟨ho, pa, pc, ca, cc, a0, c0, a1, c1, rfl, bp, bc, b0, b1, hp, hc, hw0, hw1⟩ := h
  obtain ⟨g, o, rfl, hg, hcc⟩ := hc.at (by omega)
  obtain ⟨x, hx⟩ : ∃ x, C.chans[k] = x := ⟨_, rfl⟩
  have HXG : Kp (C.chans.getD k default = x) := ⟨by rw [getD_at _ _ _ (by omega), hx]⟩
  have hcu : ∀ j, j < 7 → w.cell? ⟨g, o + k * 7 + j, none⟩ = (chanC x)[j]? := fun j hj => by
    have h1 := hcc (k * 7 + j) (by omega)
    rw [flat_at chanC 7 chanC_len C.chans k j (by omega) hj, hx] at h1
    rw [Nat.add_assoc]
    exact h1
  have HCU := Kp.mk hcu
  have hk0 : (0 : Int) ≤ (k : Int) := by omega
  have hk1 : (k : Int) < (C.chans.length : Int) := by omega
  clear hcu hcc
  have HXK : Kp (x.kind = kd) := ⟨by rw [← hkd, HXG.out]⟩
  rw [hx] at hcs
  obtain ⟨sx, hsx⟩ : ∃ sx, sizedC x = sx := ⟨_, rfl⟩
  obtain ⟨bf, hbf⟩ : ∃ bf, befC C k = bf := ⟨_, rfl⟩
  have HS2 : Kp ((srcB C k).1 = bf ∧ (srcB C k).2 = sx) := ⟨by rw [HS.out, HXG.out, hbf, hsx]; exact ⟨rfl, rfl⟩⟩
  have HBF := Kp.mk hbf
  have s1 : IntKind.i64.wrap (bf + fr) = bf + fr := IntWalk.i64_in _ (by omega)
  have hs0 : (sx == 0) = false := by rw [beq_eq_false_iff_ne]; omega
  clear hx hkd hsx
  rw [hbf] at hbs ⊢
  clear hbf
  clear ho hp hc hw0 hw1
  go_enter Try.func51, Try.ntmps51
  have HB0 : Kp (Below w.heap.size w w) := ⟨Below.refl _ _⟩
  go_wp2_with fail
  refine (source_any _ C hsm k _ (HC.out.below (below_al (below_al HB0.out _) _))).mono ?_
  rw [HS2.out.1, HS2.out.2]
  rintro e w1 ⟨rfl, hb⟩
  have q1 : Kp (w1.heap[w.heap.size]? = some (.cells #[.slice pa C.parts.length pc, .slice (some ⟨g, o, none⟩) C.chans.length cc, .int .i64 C.l0, .slice a0 C.w0.length c0, .int .i64 C.l1, .slice a1 C.w1.length c1] 29 (0, 0))) := ⟨blk_below (blk_al (blk_new _ _) _) hb⟩
  have r1 : Kp (w1.heap[w.heap.size + 1]? = some (.cells #[.int .i64 0, .int .i64 0] 49 (0, 0))) := ⟨blk_below (blk_at (w := (w.alloc (.cells #[.slice pa C.parts.length pc, .slice (some ⟨g, o, none⟩) C.chans.length cc, .int .i64 C.l0, .slice a0 C.w0.length c0, .int .i64 C.l1, .slice a1 C.w1.length c1] 29))) (by simp) _) hb⟩
  have HB1 : Kp (Below w.heap.size w w1) := ⟨below_call (below_al (below_al HB0.out _) _) hb⟩
  clear HB0 hb
  have qc0 : w1.cell? ⟨w.heap.size, 0, none⟩ = some (.slice pa C.parts.length pc) := (cell_blk q1.out 0).trans rfl
  have qc1 : w1.cell? ⟨w.heap.size, 1, none⟩ = some (.slice (some ⟨g, o, none⟩) C.chans.length cc) := (cell_blk q1.out 1).trans rfl
  have qc2 : w1.cell? ⟨w.heap.size, 2, none⟩ = some (.int .i64 C.l0) := (cell_blk q1.out 2).trans rfl
  have qc3 : w1.cell? ⟨w.heap.size, 3, none⟩ = some (.slice a0 C.w0.length c0) := (cell_blk q1.out 3).trans rfl
  have qc4 : w1.cell? ⟨w.heap.size, 4, none⟩ = some (.int .i64 C.l1) := (cell_blk q1.out 4).trans rfl
  have qc5 : w1.cell? ⟨w.heap.size, 5, none⟩ = some (.slice a1 C.w1.length c1) := (cell_blk q1.out 5).trans rfl
  have ql := blk_lt q1.out
  have rc0 : w1.cell? ⟨w.heap.size + 1, 0, none⟩ = some (.int .i64 0) := (cell_blk r1.out 0).trans rfl
  have rc1 : w1.cell? ⟨w.heap.size + 1, 1, none⟩ = some (.int .i64 0) := (cell_blk r1.out 1).trans rfl
  have rl := blk_lt r1.out
  have x0 : w1.cell? ⟨g, o + k * 7, none⟩ = some (.int .i64 x.kind) := (HB1.out.cell (p := ⟨g, o + k * 7, none⟩) hg).trans (HCU.out 0 (by omega))
  have hgw : g < w1.heap.size := Nat.lt_of_lt_of_le hg HB1.out.size
  rw [HXK.out] at x0
  have rf0 : w1.frozen? ⟨w.heap.size + 1, 0, none⟩ = false := frozen_blk r1.out 0
  have rf1 : w1.frozen? ⟨w.heap.size + 1, 1, none⟩ = false := frozen_blk r1.out 1
  go_wp2
  exact bodyPost_ret (v := .agg #[.int .i64 (bf + fr), .int .i64 sz]) (results_cell_row rfl _ _ _ _ _ _ _ rfl ((blk_al (blk_set (blk_set r1.out 0 _) 1 _) _).trans rfl) Try.underlying49 rfl (by kernel_rfl)) rfl ⟨rfl, (below_al (Below.setCell (Below.setCell HB1.out (p := ⟨w.heap.size + 1, 0, none⟩) (by show w.heap.size ≤ w.heap.size + 1; omega) _) (p := ⟨w.heap.size + 1, 1, none⟩) (by show w.heap.size ≤ w.heap.size + 1; omega) _) _)⟩

set_option maxRecDepth 100000 in
set_option maxHeartbeats 4000000 in
theorem within_kind (cv : Value) (C : Cfg) (hsm : C.small) (ha : accB C = true) (k : Nat) (hk : k < C.chans.length) (kd fr sz : Int) (hkd : (C.chans.getD k default).kind ≠ kd) (w : World) (h : CfgAt w cv C) : Calls Try.prog 51 #[cv, .int .i64 k, .int .i64 kd, .int .i64 fr, .int .i64 sz] w fun e w' => e = .returned (.agg #[.int .i64 0, .int .i64 0]) ∧ Below w.heap.size w w' := by
  have HC := Kp.mk h
  have HS := Kp.mk (srcB_at C ha k hk)
  have hcs := chn_small ha (List.getElem_mem hk)
  obtain ⟨ho, pa, pc, ca, cc, a0, c0, a1, c1, rfl, bp, bc, b0, b1, hp, hc, hw0, hw1⟩ := h
  obtain ⟨g, o, rfl, hg, hcc⟩ := hc.at (by omega)
  obtain ⟨x, hx⟩ : ∃ x, C.chans[k] = x := ⟨_, rfl⟩
  have HXG : Kp (C.chans.getD k default = x) := ⟨by rw [getD_at _ _ _ (by omega), hx]⟩
  have hcu : ∀ j, j < 7 → w.cell? ⟨g, o + k * 7 + j, none⟩ = (chanC x)[j]? := fun j hj => by
    have h1 := hcc (k * 7 + j) (by omega)
    rw [flat_at chanC 7 chanC_len C.chans k j (by omega) hj, hx] at h1
    rw [Nat.add_assoc]
    exact h1
  have HCU := Kp.mk hcu
  have hk0 : (0 : Int) ≤ (k : Int) := by omega
  have hk1 : (k : Int) < (C.chans.length : Int) := by omega
  clear hcu hcc
  have HXK : Kp ((x.kind == kd) = false ∧ (x.kind != kd) = true) := ⟨by rw [HXG.out] at hkd; simpa using hkd⟩
  rw [hx] at hcs
  obtain ⟨sx, hsx⟩ : ∃ sx, sizedC x = sx := ⟨_, rfl⟩
  obtain ⟨bf, hbf⟩ : ∃ bf, befC C k = bf := ⟨_, rfl⟩
  have HS2 : Kp ((srcB C k).1 = bf ∧ (srcB C k).2 = sx) := ⟨by rw [HS.out, HXG.out, hbf, hsx]; exact ⟨rfl, rfl⟩⟩
  have hs0 : (sx == 0) = false := by rw [beq_eq_false_iff_ne]; omega
  clear hx hkd hsx hbf
  clear ho hp hc hw0 hw1
  go_enter Try.func51, Try.ntmps51
  have HB0 : Kp (Below w.heap.size w w) := ⟨Below.refl _ _⟩
  go_wp2_with fail
  refine (source_any _ C hsm k _ (HC.out.below (below_al (below_al HB0.out _) _))).mono ?_
  rw [HS2.out.1, HS2.out.2]
  rintro e w1 ⟨rfl, hb⟩
  have q1 : Kp (w1.heap[w.heap.size]? = some (.cells #[.slice pa C.parts.length pc, .slice (some ⟨g, o, none⟩) C.chans.length cc, .int .i64 C.l0, .slice a0 C.w0.length c0, .int .i64 C.l1, .slice a1 C.w1.length c1] 29 (0, 0))) := ⟨blk_below (blk_al (blk_new _ _) _) hb⟩
  have r1 : Kp (w1.heap[w.heap.size + 1]? = some (.cells #[.int .i64 0, .int .i64 0] 49 (0, 0))) := ⟨blk_below (blk_at (w := (w.alloc (.cells #[.slice pa C.parts.length pc, .slice (some ⟨g, o, none⟩) C.chans.length cc, .int .i64 C.l0, .slice a0 C.w0.length c0, .int .i64 C.l1, .slice a1 C.w1.length c1] 29))) (by simp) _) hb⟩
  have HB1 : Kp (Below w.heap.size w w1) := ⟨below_call (below_al (below_al HB0.out _) _) hb⟩
  clear HB0 hb
  have qc0 : w1.cell? ⟨w.heap.size, 0, none⟩ = some (.slice pa C.parts.length pc) := (cell_blk q1.out 0).trans rfl
  have qc1 : w1.cell? ⟨w.heap.size, 1, none⟩ = some (.slice (some ⟨g, o, none⟩) C.chans.length cc) := (cell_blk q1.out 1).trans rfl
  have qc2 : w1.cell? ⟨w.heap.size, 2, none⟩ = some (.int .i64 C.l0) := (cell_blk q1.out 2).trans rfl
  have qc3 : w1.cell? ⟨w.heap.size, 3, none⟩ = some (.slice a0 C.w0.length c0) := (cell_blk q1.out 3).trans rfl
  have qc4 : w1.cell? ⟨w.heap.size, 4, none⟩ = some (.int .i64 C.l1) := (cell_blk q1.out 4).trans rfl
  have qc5 : w1.cell? ⟨w.heap.size, 5, none⟩ = some (.slice a1 C.w1.length c1) := (cell_blk q1.out 5).trans rfl
  have ql := blk_lt q1.out
  have rc0 : w1.cell? ⟨w.heap.size + 1, 0, none⟩ = some (.int .i64 0) := (cell_blk r1.out 0).trans rfl
  have rc1 : w1.cell? ⟨w.heap.size + 1, 1, none⟩ = some (.int .i64 0) := (cell_blk r1.out 1).trans rfl
  have rl := blk_lt r1.out
  have x0 : w1.cell? ⟨g, o + k * 7, none⟩ = some (.int .i64 x.kind) := (HB1.out.cell (p := ⟨g, o + k * 7, none⟩) hg).trans (HCU.out 0 (by omega))
  have hgw : g < w1.heap.size := Nat.lt_of_lt_of_le hg HB1.out.size
  have hx1 := HXK.out.1
  have hx2 := HXK.out.2
  have rf0 : w1.frozen? ⟨w.heap.size + 1, 0, none⟩ = false := frozen_blk r1.out 0
  have rf1 : w1.frozen? ⟨w.heap.size + 1, 1, none⟩ = false := frozen_blk r1.out 1
  go_wp2
  exact bodyPost_ret (v := .agg #[.int .i64 0, .int .i64 0]) (results_cell_row rfl _ _ _ _ _ _ _ rfl ((blk_al (blk_set (blk_set r1.out 0 _) 1 _) _).trans rfl) Try.underlying49 rfl (by kernel_rfl)) rfl ⟨rfl, (below_al (Below.setCell (Below.setCell HB1.out (p := ⟨w.heap.size + 1, 0, none⟩) (by show w.heap.size ≤ w.heap.size + 1; omega) _) (p := ⟨w.heap.size + 1, 1, none⟩) (by show w.heap.size ≤ w.heap.size + 1; omega) _) _)⟩

set_option maxRecDepth 100000 in
set_option maxHeartbeats 4000000 in
theorem within_no (cv : Value) (C : Cfg) (hsm : C.small) (ha : accB C = false) (k kd fr sz : Int) (w : World) (h : CfgAt w cv C) : Calls Try.prog 51 #[cv, .int .i64 k, .int .i64 kd, .int .i64 fr, .int .i64 sz] w fun e w' => e = .returned (.agg #[.int .i64 0, .int .i64 0]) ∧ Below w.heap.size w w' := by
  have HC := Kp.mk h
  have HS1 := srcB_no C k fun h => by rw [ha] at h; cases h.1
  have HS : Kp ((srcB C k).1 = 0 ∧ (srcB C k).2 = 0) := ⟨by rw [HS1]; exact ⟨rfl, rfl⟩⟩
  clear HS1
  obtain ⟨ho, pa, pc, ca, cc, a0, c0, a1, c1, rfl, bp, bc, b0, b1, hp, hc, hw0, hw1⟩ := h
  clear ho hp hc hw0 hw1
  go_enter Try.func51, Try.ntmps51
  have HB0 : Kp (Below w.heap.size w w) := ⟨Below.refl _ _⟩
  go_wp2_with fail
  refine (source_any _ C hsm k _ (HC.out.below (below_al (below_al HB0.out _) _))).mono ?_
  rw [HS.out.1, HS.out.2]
  rintro e w1 ⟨rfl, hb⟩
  have q1 : Kp (w1.heap[w.heap.size]? = some (.cells #[.slice pa C.parts.length pc, .slice ca C.chans.length cc, .int .i64 C.l0, .slice a0 C.w0.length c0, .int .i64 C.l1, .slice a1 C.w1.length c1] 29 (0, 0))) := ⟨blk_below (blk_al (blk_new _ _) _) hb⟩
  have r1 : Kp (w1.heap[w.heap.size + 1]? = some (.cells #[.int .i64 0, .int .i64 0] 49 (0, 0))) := ⟨blk_below (blk_at (w := (w.alloc (.cells #[.slice pa C.parts.length pc, .slice ca C.chans.length cc, .int .i64 C.l0, .slice a0 C.w0.length c0, .int .i64 C.l1, .slice a1 C.w1.length c1] 29))) (by simp) _) hb⟩
  have HB1 : Kp (Below w.heap.size w w1) := ⟨below_call (below_al (below_al HB0.out _) _) hb⟩
  clear HB0 hb
  have qc0 : w1.cell? ⟨w.heap.size, 0, none⟩ = some (.slice pa C.parts.length pc) := (cell_blk q1.out 0).trans rfl
  have qc1 : w1.cell? ⟨w.heap.size, 1, none⟩ = some (.slice ca C.chans.length cc) := (cell_blk q1.out 1).trans rfl
  have qc2 : w1.cell? ⟨w.heap.size, 2, none⟩ = some (.int .i64 C.l0) := (cell_blk q1.out 2).trans rfl
  have qc3 : w1.cell? ⟨w.heap.size, 3, none⟩ = some (.slice a0 C.w0.length c0) := (cell_blk q1.out 3).trans rfl
  have qc4 : w1.cell? ⟨w.heap.size, 4, none⟩ = some (.int .i64 C.l1) := (cell_blk q1.out 4).trans rfl
  have qc5 : w1.cell? ⟨w.heap.size, 5, none⟩ = some (.slice a1 C.w1.length c1) := (cell_blk q1.out 5).trans rfl
  have ql := blk_lt q1.out
  have rc0 : w1.cell? ⟨w.heap.size + 1, 0, none⟩ = some (.int .i64 0) := (cell_blk r1.out 0).trans rfl
  have rc1 : w1.cell? ⟨w.heap.size + 1, 1, none⟩ = some (.int .i64 0) := (cell_blk r1.out 1).trans rfl
  have rl := blk_lt r1.out
  have rf0 : w1.frozen? ⟨w.heap.size + 1, 0, none⟩ = false := frozen_blk r1.out 0
  have rf1 : w1.frozen? ⟨w.heap.size + 1, 1, none⟩ = false := frozen_blk r1.out 1
  go_wp2
  exact bodyPost_ret (v := .agg #[.int .i64 0, .int .i64 0]) (results_cell_row rfl _ _ _ _ _ _ _ rfl ((blk_al (blk_set (blk_set r1.out 0 _) 1 _) _).trans rfl) Try.underlying49 rfl (by kernel_rfl)) rfl ⟨rfl, (below_al (Below.setCell (Below.setCell HB1.out (p := ⟨w.heap.size + 1, 0, none⟩) (by show w.heap.size ≤ w.heap.size + 1; omega) _) (p := ⟨w.heap.size + 1, 1, none⟩) (by show w.heap.size ≤ w.heap.size + 1; omega) _) _)⟩
end Go.Proofs.Ytpeajlponlmceaa

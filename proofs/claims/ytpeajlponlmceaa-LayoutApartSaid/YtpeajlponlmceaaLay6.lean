/- Contracts of package layout: a buffer. -/
import Derived.Test.YtpeajlponlmceaaLay5
namespace Go.Proofs.Ytpeajlponlmceaa
open Go.RowKit
set_option linter.unusedSimpArgs false
set_option linter.unusedVariables false

theorem andNot_one (n : Int) (h : I64 n) (h0 : bits .andNot .i64 n 1 = 0) : n = 0 ∨ n = 1 := by
  have hn := h.le
  have hx : ∀ x : BitVec 64, x &&& ~~~(1#64) = 0#64 → x.toNat ≤ 1 := fun x hx => by
    have h1 : x = x &&& 1#64 := by
      ext i hi
      have h2 := congrArg (fun y : BitVec 64 => y.getLsbD i) hx
      simp only [BitVec.getLsbD_and, BitVec.getLsbD_not, hi, decide_true, Bool.true_and, BitVec.getLsbD_zero] at h2
      simp only [BitVec.getElem_and, ← BitVec.getLsbD_eq_getElem]
      cases hxi : x.getLsbD i <;> cases hoi : (1#64).getLsbD i <;> simp_all
    rw [h1, BitVec.toNat_and]
    exact Nat.le_trans (Nat.and_le_right) (by decide)
  have h1 : (BitVec.ofInt 64 n &&& ~~~(1#64)) = 0#64 := by
    have h2 : IntKind.i64.wrap ((BitVec.ofInt 64 n &&& ~~~(BitVec.ofInt 64 1)).toNat : Int) = 0 := h0
    rw [show BitVec.ofInt 64 1 = 1#64 from rfl] at h2
    have h3 := (BitVec.ofInt 64 n &&& ~~~(1#64)).isLt
    rw [IntKind.wrap_i64] at h2
    apply BitVec.eq_of_toNat_eq
    rw [BitVec.toNat_zero]
    omega
  have h4 := hx _ h1
  rw [BitVec.toNat_ofInt] at h4
  omega
theorem andNot_0 : bits .andNot .i64 0 1 = 0 := by decide
theorem andNot_1 : bits .andNot .i64 1 1 = 0 := by decide
theorem bufB_no (C : Cfg) (k p i : Int) (h : ¬ (accB C = true ∧ 0 ≤ k ∧ k < C.chans.length ∧ (C.chans.getD k.toNat default).kind = 1 ∧ (p = 0 ∨ p = 1) ∧ (i = 0 ∨ i = 1))) : bufB C k p i = (0, 0) := if_neg h
theorem bufB_yes (C : Cfg) (k : Nat) (p i : Int) (h : accB C = true ∧ k < C.chans.length ∧ (C.chans.getD k default).kind = 1 ∧ (p = 0 ∨ p = 1) ∧ (i = 0 ∨ i = 1)) : bufB C k p i = (befC C k + (3 + (2 * p + i) * (2 + (C.chans.getD k default).words)), 2 + (C.chans.getD k default).words) := by
  rw [bufB, if_pos ⟨h.1, by omega, by omega, by simpa using h.2.2.1, h.2.2.2.1, h.2.2.2.2⟩, Int.toNat_natCast]
theorem cellB_no (C : Cfg) (k i : Int) (h : ¬ (accB C = true ∧ 0 ≤ k ∧ k < C.chans.length ∧ (C.chans.getD k.toNat default).kind = 2 ∧ 0 ≤ i ∧ i < (C.chans.getD k.toNat default).depth)) : cellB C k i = (0, 0) := if_neg h
theorem cellB_yes (C : Cfg) (k : Nat) (i : Int) (h : accB C = true ∧ k < C.chans.length ∧ (C.chans.getD k default).kind = 2 ∧ 0 ≤ i ∧ i < (C.chans.getD k default).depth) : cellB C k i = (befC C k + (1 + i * (1 + (C.chans.getD k default).words)), 1 + (C.chans.getD k default).words) := by
  rw [cellB, if_pos ⟨h.1, by omega, by omega, by simpa using h.2.2.1, h.2.2.2.1, by simpa using h.2.2.2.2⟩, Int.toNat_natCast]

set_option maxRecDepth 100000 in
set_option maxHeartbeats 4000000 in
theorem buffer_k (cv : Value) (C : Cfg) (hsm : C.small) (k p i : Int) (hk : ¬ (0 ≤ k ∧ k < C.chans.length)) (w : World) (h : CfgAt w cv C) : Calls Try.prog 23 #[cv, .int .i64 k, .int .i64 p, .int .i64 i] w fun e w' => e = .returned (.agg #[.int .i64 (bufB C k p i).1, .int .i64 (bufB C k p i).2]) ∧ Below w.heap.size w w' := by
  have HC := Kp.mk h
  have HZ := Kp.mk (bufB_no C k p i fun h => hk ⟨h.2.1, h.2.2.1⟩)
  obtain ⟨ho, pa, pc, ca, cc, a0, c0, a1, c1, rfl, bp, bc, b0, b1, hp, hc, hw0, hw1⟩ := h
  clear ho hp hc hw0 hw1
  by_cases h0 : k < 0
  · go_enter Try.func23, Try.ntmps23
    have HB0 : Kp (Below w.heap.size w w) := ⟨Below.refl _ _⟩
    go_wp2
    exact bodyPost_ret (v := .agg #[.int .i64 0, .int .i64 0]) (results_cell_row rfl _ _ _ _ _ _ _ rfl (blk_at (w := (w.alloc (.cells #[.slice pa C.parts.length pc, .slice ca C.chans.length cc, .int .i64 C.l0, .slice a0 C.w0.length c0, .int .i64 C.l1, .slice a1 C.w1.length c1] 29))) (by simp) _) Try.underlying49 rfl (by kernel_rfl)) rfl ⟨zero_out HZ.out, (below_al (below_al HB0.out _) _)⟩
  · have h1 : decide (k < 0) = false := decide_eq_false h0
    have h2 : (C.chans.length : Int) ≤ k := by omega
    clear hk
    go_enter Try.func23, Try.ntmps23
    have HB0 : Kp (Below w.heap.size w w) := ⟨Below.refl _ _⟩
    go_wp2
    exact bodyPost_ret (v := .agg #[.int .i64 0, .int .i64 0]) (results_cell_row rfl _ _ _ _ _ _ _ rfl (blk_at (w := (w.alloc (.cells #[.slice pa C.parts.length pc, .slice ca C.chans.length cc, .int .i64 C.l0, .slice a0 C.w0.length c0, .int .i64 C.l1, .slice a1 C.w1.length c1] 29))) (by simp) _) Try.underlying49 rfl (by kernel_rfl)) rfl ⟨zero_out HZ.out, (below_al (below_al HB0.out _) _)⟩

set_option maxRecDepth 100000 in
set_option maxHeartbeats 4000000 in
theorem buffer_p (cv : Value) (C : Cfg) (hsm : C.small) (k : Nat) (hk : k < C.chans.length) (p i : Int) (hi1 : I64 p) (hb : ¬ (p = 0 ∨ p = 1)) (w : World) (h : CfgAt w cv C) : Calls Try.prog 23 #[cv, .int .i64 k, .int .i64 p, .int .i64 i] w fun e w' => e = .returned (.agg #[.int .i64 (bufB C k p i).1, .int .i64 (bufB C k p i).2]) ∧ Below w.heap.size w w' := by
  have HC := Kp.mk h
  have HZ := Kp.mk (bufB_no C k p i fun h => hb h.2.2.2.2.1)
  have h1 : decide ((k : Int) < 0) = false := decide_eq_false (by omega)
  have h2 : decide ((C.chans.length : Int) ≤ (k : Int)) = false := decide_eq_false (by omega)
  have h3 : decide (C.chans.length ≤ k) = false := decide_eq_false (by omega)
  have b1 : (bits .andNot .i64 p 1 == 0) = false := by rw [beq_eq_false_iff_ne]; exact fun h => hb (andNot_one p hi1 h)
  have b1' : (bits .andNot .i64 p 1 != 0) = true := by rw [bne_iff_ne]; exact fun h => hb (andNot_one p hi1 h)
  have b1'' : ¬ bits .andNot .i64 p 1 = 0 := fun h => hb (andNot_one p hi1 h)
  clear hb
  obtain ⟨ho, pa, pc, ca, cc, a0, c0, a1, c1, rfl, bp, bc, b0, b1, hp, hc, hw0, hw1⟩ := h
  clear ho hp hc hw0 hw1
  go_enter Try.func23, Try.ntmps23
  have HB0 : Kp (Below w.heap.size w w) := ⟨Below.refl _ _⟩
  go_wp2
  exact bodyPost_ret (v := .agg #[.int .i64 0, .int .i64 0]) (results_cell_row rfl _ _ _ _ _ _ _ rfl (blk_at (w := (w.alloc (.cells #[.slice pa C.parts.length pc, .slice ca C.chans.length cc, .int .i64 C.l0, .slice a0 C.w0.length c0, .int .i64 C.l1, .slice a1 C.w1.length c1] 29))) (by simp) _) Try.underlying49 rfl (by kernel_rfl)) rfl ⟨zero_out HZ.out, (below_al (below_al HB0.out _) _)⟩

set_option maxRecDepth 100000 in
set_option maxHeartbeats 4000000 in
theorem buffer_i0 (cv : Value) (C : Cfg) (hsm : C.small) (k : Nat) (hk : k < C.chans.length) (i : Int) (hi1 : I64 i) (hb : ¬ (i = 0 ∨ i = 1)) (w : World) (h : CfgAt w cv C) : Calls Try.prog 23 #[cv, .int .i64 k, .int .i64 0, .int .i64 i] w fun e w' => e = .returned (.agg #[.int .i64 (bufB C k 0 i).1, .int .i64 (bufB C k 0 i).2]) ∧ Below w.heap.size w w' := by
  have HC := Kp.mk h
  have HZ := Kp.mk (bufB_no C k 0 i fun h => hb h.2.2.2.2.2)
  have h1 : decide ((k : Int) < 0) = false := decide_eq_false (by omega)
  have h2 : decide ((C.chans.length : Int) ≤ (k : Int)) = false := decide_eq_false (by omega)
  have h3 : decide (C.chans.length ≤ k) = false := decide_eq_false (by omega)
  have b1 : (bits .andNot .i64 i 1 == 0) = false := by rw [beq_eq_false_iff_ne]; exact fun h => hb (andNot_one i hi1 h)
  have b1' : (bits .andNot .i64 i 1 != 0) = true := by rw [bne_iff_ne]; exact fun h => hb (andNot_one i hi1 h)
  have b1'' : ¬ bits .andNot .i64 i 1 = 0 := fun h => hb (andNot_one i hi1 h)
  have n0 := andNot_0
  have n1 := andNot_1
  clear hb
  obtain ⟨ho, pa, pc, ca, cc, a0, c0, a1, c1, rfl, bp, bc, b0, b1, hp, hc, hw0, hw1⟩ := h
  clear ho hp hc hw0 hw1
  go_enter Try.func23, Try.ntmps23
  have HB0 : Kp (Below w.heap.size w w) := ⟨Below.refl _ _⟩
  go_wp2
  exact bodyPost_ret (v := .agg #[.int .i64 0, .int .i64 0]) (results_cell_row rfl _ _ _ _ _ _ _ rfl (blk_at (w := (w.alloc (.cells #[.slice pa C.parts.length pc, .slice ca C.chans.length cc, .int .i64 C.l0, .slice a0 C.w0.length c0, .int .i64 C.l1, .slice a1 C.w1.length c1] 29))) (by simp) _) Try.underlying49 rfl (by kernel_rfl)) rfl ⟨zero_out HZ.out, (below_al (below_al HB0.out _) _)⟩

set_option maxRecDepth 100000 in
set_option maxHeartbeats 4000000 in
theorem buffer_i1 (cv : Value) (C : Cfg) (hsm : C.small) (k : Nat) (hk : k < C.chans.length) (i : Int) (hi1 : I64 i) (hb : ¬ (i = 0 ∨ i = 1)) (w : World) (h : CfgAt w cv C) : Calls Try.prog 23 #[cv, .int .i64 k, .int .i64 1, .int .i64 i] w fun e w' => e = .returned (.agg #[.int .i64 (bufB C k 1 i).1, .int .i64 (bufB C k 1 i).2]) ∧ Below w.heap.size w w' := by
  have HC := Kp.mk h
  have HZ := Kp.mk (bufB_no C k 1 i fun h => hb h.2.2.2.2.2)
  have h1 : decide ((k : Int) < 0) = false := decide_eq_false (by omega)
  have h2 : decide ((C.chans.length : Int) ≤ (k : Int)) = false := decide_eq_false (by omega)
  have h3 : decide (C.chans.length ≤ k) = false := decide_eq_false (by omega)
  have b1 : (bits .andNot .i64 i 1 == 0) = false := by rw [beq_eq_false_iff_ne]; exact fun h => hb (andNot_one i hi1 h)
  have b1' : (bits .andNot .i64 i 1 != 0) = true := by rw [bne_iff_ne]; exact fun h => hb (andNot_one i hi1 h)
  have b1'' : ¬ bits .andNot .i64 i 1 = 0 := fun h => hb (andNot_one i hi1 h)
  have n0 := andNot_0
  have n1 := andNot_1
  clear hb
  obtain ⟨ho, pa, pc, ca, cc, a0, c0, a1, c1, rfl, bp, bc, b0, b1, hp, hc, hw0, hw1⟩ := h
  clear ho hp hc hw0 hw1
  go_enter Try.func23, Try.ntmps23
  have HB0 : Kp (Below w.heap.size w w) := ⟨Below.refl _ _⟩
  go_wp2
  exact bodyPost_ret (v := .agg #[.int .i64 0, .int .i64 0]) (results_cell_row rfl _ _ _ _ _ _ _ rfl (blk_at (w := (w.alloc (.cells #[.slice pa C.parts.length pc, .slice ca C.chans.length cc, .int .i64 C.l0, .slice a0 C.w0.length c0, .int .i64 C.l1, .slice a1 C.w1.length c1] 29))) (by simp) _) Try.underlying49 rfl (by kernel_rfl)) rfl ⟨zero_out HZ.out, (below_al (below_al HB0.out _) _)⟩

set_option maxRecDepth 100000 in
set_option maxHeartbeats 4000000 in
theorem buffer_yes00 (cv : Value) (C : Cfg) (hsm : C.small) (ha : accB C = true) (k : Nat) (hk : k < C.chans.length) (hkd : (C.chans.getD k default).kind = 1) (w : World) (h : CfgAt w cv C) : Calls Try.prog 23 #[cv, .int .i64 k, .int .i64 0, .int .i64 0] w fun e w' => e = .returned (.agg #[.int .i64 (bufB C k 0 0).1, .int .i64 (bufB C k 0 0).2]) ∧ Below w.heap.size w w' := by
  have HC := Kp.mk h
  have HS := Kp.mk (bufB_yes C k 0 0 ⟨ha, hk, hkd, by omega, by omega⟩)
  have hcs := chn_small ha (List.getElem_mem hk)
  have h1 : decide ((k : Int) < 0) = false := decide_eq_false (by omega)
  have h2 : decide ((C.chans.length : Int) ≤ (k : Int)) = false := decide_eq_false (by omega)
  have h3 : decide (C.chans.length ≤ k) = false := decide_eq_false (by omega)
  have n0 := andNot_0
  have n1 := andNot_1
  obtain ⟨ho, pa, pc, ca, cc, a0, c0, a1, c1, rfl, bp, bc, b0, b1, hp, hc, hw0, hw1⟩ := h
  obtain ⟨g, o, rfl, hg, hcc⟩ := hc.at (by omega)
  obtain ⟨x, hx⟩ : ∃ x, C.chans[k] = x := ⟨_, rfl⟩
  have HXG : Kp (C.chans.getD k default = x) := ⟨by rw [getD_at _ _ _ (by omega), hx]⟩
  have hcu : ∀ j, j < 7 → w.cell? ⟨g, o + k * 7 + j, none⟩ = (chanC x)[j]? := fun j hj => by
    have h1 := hcc (k * 7 + j) (by omega)
    rw [flat_at chanC 7 chanC_len C.chans k j (by omega) hj, hx] at h1
    rw [Nat.add_assoc]
    exact h1
  have HCU := Kp.mk hcu
  have hk0 : (0 : Int) ≤ (k : Int) := by omega
  have hk1 : (k : Int) < (C.chans.length : Int) := by omega
  clear hcu hcc
  rw [hx] at hcs
  have HS2 : Kp (bufB C k 0 0 = (befC C k + 3, 2 + x.words)) := ⟨by rw [HS.out, HXG.out]; exact congrArg (fun z => (z, 2 + x.words)) (by omega)⟩
  have s1 : IntKind.i64.wrap (2 + x.words) = 2 + x.words := IntWalk.i64_in _ (by omega)
  clear hx
  clear ho hp hc hw0 hw1
  go_enter Try.func23, Try.ntmps23
  have x3 : w.cell? ⟨g, o + k * 7 + 3, none⟩ = some (.int .i64 x.words) := ((Below.refl w.heap.size w).cell (p := ⟨g, o + k * 7 + 3, none⟩) hg).trans (HCU.out 3 (by omega))
  have hgw : g < w.heap.size := Nat.lt_of_lt_of_le hg (Below.refl w.heap.size w).size
  have HB0 : Kp (Below w.heap.size w w) := ⟨Below.refl _ _⟩
  go_wp2_with fail
  refine (within_yes _ C hsm ha k hk 1 3 _ hkd (by omega) _ (HC.out.below (below_al (below_al HB0.out _) _))).mono ?_
  rintro e w1 ⟨rfl, hb⟩
  have q1 : Kp (w1.heap[w.heap.size]? = some (.cells #[.slice pa C.parts.length pc, .slice (some ⟨g, o, none⟩) C.chans.length cc, .int .i64 C.l0, .slice a0 C.w0.length c0, .int .i64 C.l1, .slice a1 C.w1.length c1] 29 (0, 0))) := ⟨blk_below (blk_al (blk_new _ _) _) hb⟩
  have r1 : Kp (w1.heap[w.heap.size + 1]? = some (.cells #[.int .i64 0, .int .i64 0] 49 (0, 0))) := ⟨blk_below (blk_at (w := (w.alloc (.cells #[.slice pa C.parts.length pc, .slice (some ⟨g, o, none⟩) C.chans.length cc, .int .i64 C.l0, .slice a0 C.w0.length c0, .int .i64 C.l1, .slice a1 C.w1.length c1] 29))) (by simp) _) hb⟩
  have HB1 : Kp (Below w.heap.size w w1) := ⟨below_call (below_al (below_al HB0.out _) _) hb⟩
  clear HB0 hb
  have qc0 : w1.cell? ⟨w.heap.size, 0, none⟩ = some (.slice pa C.parts.length pc) := (cell_blk q1.out 0).trans rfl
  have qc1 : w1.cell? ⟨w.heap.size, 1, none⟩ = some (.slice (some ⟨g, o, none⟩) C.chans.length cc) := (cell_blk q1.out 1).trans rfl
  have qc2 : w1.cell? ⟨w.heap.size, 2, none⟩ = some (.int .i64 C.l0) := (cell_blk q1.out 2).trans rfl
  have qc3 : w1.cell? ⟨w.heap.size, 3, none⟩ = some (.slice a0 C.w0.length c0) := (cell_blk q1.out 3).trans rfl
  have qc4 : w1.cell? ⟨w.heap.size, 4, none⟩ = some (.int .i64 C.l1) := (cell_blk q1.out 4).trans rfl
  have qc5 : w1.cell? ⟨w.heap.size, 5, none⟩ = some (.slice a1 C.w1.length c1) := (cell_blk q1.out 5).trans rfl
  have ql := blk_lt q1.out
  have rc0 : w1.cell? ⟨w.heap.size + 1, 0, none⟩ = some (.int .i64 0) := (cell_blk r1.out 0).trans rfl
  have rc1 : w1.cell? ⟨w.heap.size + 1, 1, none⟩ = some (.int .i64 0) := (cell_blk r1.out 1).trans rfl
  have rl := blk_lt r1.out
  have rf0 : w1.frozen? ⟨w.heap.size + 1, 0, none⟩ = false := frozen_blk r1.out 0
  have rf1 : w1.frozen? ⟨w.heap.size + 1, 1, none⟩ = false := frozen_blk r1.out 1
  go_wp2
  exact bodyPost_ret (v := .agg #[.int .i64 (befC C k + 3), .int .i64 (2 + x.words)]) (results_cell_row rfl _ _ _ _ _ _ _ rfl ((blk_set (blk_set r1.out 0 _) 1 _).trans rfl) Try.underlying49 rfl (by kernel_rfl)) rfl ⟨(by rw [HS2.out]), (Below.setCell (Below.setCell HB1.out (p := ⟨w.heap.size + 1, 0, none⟩) (by show w.heap.size ≤ w.heap.size + 1; omega) _) (p := ⟨w.heap.size + 1, 1, none⟩) (by show w.heap.size ≤ w.heap.size + 1; omega) _)⟩

set_option maxRecDepth 100000 in
set_option maxHeartbeats 4000000 in
theorem buffer_no00 (cv : Value) (C : Cfg) (hsm : C.small) (k : Nat) (hk : k < C.chans.length) (hno : accB C = false ∨ accB C = true ∧ (C.chans.getD k default).kind ≠ 1) (w : World) (h : CfgAt w cv C) : Calls Try.prog 23 #[cv, .int .i64 k, .int .i64 0, .int .i64 0] w fun e w' => e = .returned (.agg #[.int .i64 (bufB C k 0 0).1, .int .i64 (bufB C k 0 0).2]) ∧ Below w.heap.size w w' := by
  have HC := Kp.mk h
  have HZ := Kp.mk (bufB_no C k 0 0 fun h => by rcases hno with h1 | ⟨_, h1⟩; (rw [h1] at h; cases h.1); exact h1 (by simpa using h.2.2.2.1))
  have h1 : decide ((k : Int) < 0) = false := decide_eq_false (by omega)
  have h2 : decide ((C.chans.length : Int) ≤ (k : Int)) = false := decide_eq_false (by omega)
  have h3 : decide (C.chans.length ≤ k) = false := decide_eq_false (by omega)
  have n0 := andNot_0
  have n1 := andNot_1
  obtain ⟨ho, pa, pc, ca, cc, a0, c0, a1, c1, rfl, bp, bc, b0, b1, hp, hc, hw0, hw1⟩ := h
  obtain ⟨g, o, rfl, hg, hcc⟩ := hc.at (by omega)
  obtain ⟨x, hx⟩ : ∃ x, C.chans[k] = x := ⟨_, rfl⟩
  have HXG : Kp (C.chans.getD k default = x) := ⟨by rw [getD_at _ _ _ (by omega), hx]⟩
  have hcu : ∀ j, j < 7 → w.cell? ⟨g, o + k * 7 + j, none⟩ = (chanC x)[j]? := fun j hj => by
    have h1 := hcc (k * 7 + j) (by omega)
    rw [flat_at chanC 7 chanC_len C.chans k j (by omega) hj, hx] at h1
    rw [Nat.add_assoc]
    exact h1
  have HCU := Kp.mk hcu
  have hk0 : (0 : Int) ≤ (k : Int) := by omega
  have hk1 : (k : Int) < (C.chans.length : Int) := by omega
  clear hcu hcc
  clear hx
  clear ho hp hc hw0 hw1
  go_enter Try.func23, Try.ntmps23
  have x3 : w.cell? ⟨g, o + k * 7 + 3, none⟩ = some (.int .i64 x.words) := ((Below.refl w.heap.size w).cell (p := ⟨g, o + k * 7 + 3, none⟩) hg).trans (HCU.out 3 (by omega))
  have hgw : g < w.heap.size := Nat.lt_of_lt_of_le hg (Below.refl w.heap.size w).size
  have HB0 : Kp (Below w.heap.size w w) := ⟨Below.refl _ _⟩
  go_wp2_with fail
  have HW : ∀ kd fr sz : Int, kd = 1 → ∀ w1, CfgAt w1 (.agg #[.slice pa C.parts.length pc, .slice (some ⟨g, o, none⟩) C.chans.length cc, .int .i64 C.l0, .slice a0 C.w0.length c0, .int .i64 C.l1, .slice a1 C.w1.length c1]) C → Calls Try.prog 51 #[.agg #[.slice pa C.parts.length pc, .slice (some ⟨g, o, none⟩) C.chans.length cc, .int .i64 C.l0, .slice a0 C.w0.length c0, .int .i64 C.l1, .slice a1 C.w1.length c1], .int .i64 k, .int .i64 kd, .int .i64 fr, .int .i64 sz] w1 fun e w' => e = .returned (.agg #[.int .i64 0, .int .i64 0]) ∧ Below w1.heap.size w1 w' := fun kd fr sz hkd w1 hc1 => by
    rcases hno with h1 | ⟨h0, h1⟩
    · exact within_no _ C hsm h1 k kd fr sz w1 hc1
    · exact within_kind _ C hsm h0 k hk kd fr sz (hkd ▸ h1) w1 hc1
  have HW' := Kp.mk HW
  clear HW
  refine (HW'.out 1 _ _ rfl _ (HC.out.below (below_al (below_al HB0.out _) _))).mono ?_
  rintro e w1 ⟨rfl, hb⟩
  have q1 : Kp (w1.heap[w.heap.size]? = some (.cells #[.slice pa C.parts.length pc, .slice (some ⟨g, o, none⟩) C.chans.length cc, .int .i64 C.l0, .slice a0 C.w0.length c0, .int .i64 C.l1, .slice a1 C.w1.length c1] 29 (0, 0))) := ⟨blk_below (blk_al (blk_new _ _) _) hb⟩
  have r1 : Kp (w1.heap[w.heap.size + 1]? = some (.cells #[.int .i64 0, .int .i64 0] 49 (0, 0))) := ⟨blk_below (blk_at (w := (w.alloc (.cells #[.slice pa C.parts.length pc, .slice (some ⟨g, o, none⟩) C.chans.length cc, .int .i64 C.l0, .slice a0 C.w0.length c0, .int .i64 C.l1, .slice a1 C.w1.length c1] 29))) (by simp) _) hb⟩
  have HB1 : Kp (Below w.heap.size w w1) := ⟨below_call (below_al (below_al HB0.out _) _) hb⟩
  clear HB0 hb
  have qc0 : w1.cell? ⟨w.heap.size, 0, none⟩ = some (.slice pa C.parts.length pc) := (cell_blk q1.out 0).trans rfl
  have qc1 : w1.cell? ⟨w.heap.size, 1, none⟩ = some (.slice (some ⟨g, o, none⟩) C.chans.length cc) := (cell_blk q1.out 1).trans rfl
  have qc2 : w1.cell? ⟨w.heap.size, 2, none⟩ = some (.int .i64 C.l0) := (cell_blk q1.out 2).trans rfl
  have qc3 : w1.cell? ⟨w.heap.size, 3, none⟩ = some (.slice a0 C.w0.length c0) := (cell_blk q1.out 3).trans rfl
  have qc4 : w1.cell? ⟨w.heap.size, 4, none⟩ = some (.int .i64 C.l1) := (cell_blk q1.out 4).trans rfl
  have qc5 : w1.cell? ⟨w.heap.size, 5, none⟩ = some (.slice a1 C.w1.length c1) := (cell_blk q1.out 5).trans rfl
  have ql := blk_lt q1.out
  have rc0 : w1.cell? ⟨w.heap.size + 1, 0, none⟩ = some (.int .i64 0) := (cell_blk r1.out 0).trans rfl
  have rc1 : w1.cell? ⟨w.heap.size + 1, 1, none⟩ = some (.int .i64 0) := (cell_blk r1.out 1).trans rfl
  have rl := blk_lt r1.out
  have rf0 : w1.frozen? ⟨w.heap.size + 1, 0, none⟩ = false := frozen_blk r1.out 0
  have rf1 : w1.frozen? ⟨w.heap.size + 1, 1, none⟩ = false := frozen_blk r1.out 1
  go_wp2
  exact bodyPost_ret (v := .agg #[.int .i64 0, .int .i64 0]) (results_cell_row rfl _ _ _ _ _ _ _ rfl ((blk_set (blk_set r1.out 0 _) 1 _).trans rfl) Try.underlying49 rfl (by kernel_rfl)) rfl ⟨zero_out HZ.out, (Below.setCell (Below.setCell HB1.out (p := ⟨w.heap.size + 1, 0, none⟩) (by show w.heap.size ≤ w.heap.size + 1; omega) _) (p := ⟨w.heap.size + 1, 1, none⟩) (by show w.heap.size ≤ w.heap.size + 1; omega) _)⟩

set_option maxRecDepth 100000 in
set_option maxHeartbeats 4000000 in
theorem buffer_yes01 (cv : Value) (C : Cfg) (hsm : C.small) (ha : accB C = true) (k : Nat) (hk : k < C.chans.length) (hkd : (C.chans.getD k default).kind = 1) (w : World) (h : CfgAt w cv C) : Calls Try.prog 23 #[cv, .int .i64 k, .int .i64 0, .int .i64 1] w fun e w' => e = .returned (.agg #[.int .i64 (bufB C k 0 1).1, .int .i64 (bufB C k 0 1).2]) ∧ Below w.heap.size w w' := by
  have HC := Kp.mk h
  have HS := Kp.mk (bufB_yes C k 0 1 ⟨ha, hk, hkd, by omega, by omega⟩)
  have hcs := chn_small ha (List.getElem_mem hk)
  have h1 : decide ((k : Int) < 0) = false := decide_eq_false (by omega)
  have h2 : decide ((C.chans.length : Int) ≤ (k : Int)) = false := decide_eq_false (by omega)
  have h3 : decide (C.chans.length ≤ k) = false := decide_eq_false (by omega)
  have n0 := andNot_0
  have n1 := andNot_1
  obtain ⟨ho, pa, pc, ca, cc, a0, c0, a1, c1, rfl, bp, bc, b0, b1, hp, hc, hw0, hw1⟩ := h
  obtain ⟨g, o, rfl, hg, hcc⟩ := hc.at (by omega)
  obtain ⟨x, hx⟩ : ∃ x, C.chans[k] = x := ⟨_, rfl⟩
  have HXG : Kp (C.chans.getD k default = x) := ⟨by rw [getD_at _ _ _ (by omega), hx]⟩
  have hcu : ∀ j, j < 7 → w.cell? ⟨g, o + k * 7 + j, none⟩ = (chanC x)[j]? := fun j hj => by
    have h1 := hcc (k * 7 + j) (by omega)
    rw [flat_at chanC 7 chanC_len C.chans k j (by omega) hj, hx] at h1
    rw [Nat.add_assoc]
    exact h1
  have HCU := Kp.mk hcu
  have hk0 : (0 : Int) ≤ (k : Int) := by omega
  have hk1 : (k : Int) < (C.chans.length : Int) := by omega
  clear hcu hcc
  rw [hx] at hcs
  have HS2 : Kp (bufB C k 0 1 = (befC C k + (3 + (2 + x.words)), 2 + x.words)) := ⟨by rw [HS.out, HXG.out]; exact congrArg (fun z => (z, 2 + x.words)) (by omega)⟩
  have s1 : IntKind.i64.wrap (2 + x.words) = 2 + x.words := IntWalk.i64_in _ (by omega)
  clear hx
  clear ho hp hc hw0 hw1
  go_enter Try.func23, Try.ntmps23
  have x3 : w.cell? ⟨g, o + k * 7 + 3, none⟩ = some (.int .i64 x.words) := ((Below.refl w.heap.size w).cell (p := ⟨g, o + k * 7 + 3, none⟩) hg).trans (HCU.out 3 (by omega))
  have hgw : g < w.heap.size := Nat.lt_of_lt_of_le hg (Below.refl w.heap.size w).size
  have HB0 : Kp (Below w.heap.size w w) := ⟨Below.refl _ _⟩
  go_wp2_with fail
  refine (within_yes _ C hsm ha k hk 1 (3 + (2 + x.words)) _ hkd (by omega) _ (HC.out.below (below_al (below_al HB0.out _) _))).mono ?_
  rintro e w1 ⟨rfl, hb⟩
  have q1 : Kp (w1.heap[w.heap.size]? = some (.cells #[.slice pa C.parts.length pc, .slice (some ⟨g, o, none⟩) C.chans.length cc, .int .i64 C.l0, .slice a0 C.w0.length c0, .int .i64 C.l1, .slice a1 C.w1.length c1] 29 (0, 0))) := ⟨blk_below (blk_al (blk_new _ _) _) hb⟩
  have r1 : Kp (w1.heap[w.heap.size + 1]? = some (.cells #[.int .i64 0, .int .i64 0] 49 (0, 0))) := ⟨blk_below (blk_at (w := (w.alloc (.cells #[.slice pa C.parts.length pc, .slice (some ⟨g, o, none⟩) C.chans.length cc, .int .i64 C.l0, .slice a0 C.w0.length c0, .int .i64 C.l1, .slice a1 C.w1.length c1] 29))) (by simp) _) hb⟩
  have HB1 : Kp (Below w.heap.size w w1) := ⟨below_call (below_al (below_al HB0.out _) _) hb⟩
  clear HB0 hb
  have qc0 : w1.cell? ⟨w.heap.size, 0, none⟩ = some (.slice pa C.parts.length pc) := (cell_blk q1.out 0).trans rfl
  have qc1 : w1.cell? ⟨w.heap.size, 1, none⟩ = some (.slice (some ⟨g, o, none⟩) C.chans.length cc) := (cell_blk q1.out 1).trans rfl
  have qc2 : w1.cell? ⟨w.heap.size, 2, none⟩ = some (.int .i64 C.l0) := (cell_blk q1.out 2).trans rfl
  have qc3 : w1.cell? ⟨w.heap.size, 3, none⟩ = some (.slice a0 C.w0.length c0) := (cell_blk q1.out 3).trans rfl
  have qc4 : w1.cell? ⟨w.heap.size, 4, none⟩ = some (.int .i64 C.l1) := (cell_blk q1.out 4).trans rfl
  have qc5 : w1.cell? ⟨w.heap.size, 5, none⟩ = some (.slice a1 C.w1.length c1) := (cell_blk q1.out 5).trans rfl
  have ql := blk_lt q1.out
  have rc0 : w1.cell? ⟨w.heap.size + 1, 0, none⟩ = some (.int .i64 0) := (cell_blk r1.out 0).trans rfl
  have rc1 : w1.cell? ⟨w.heap.size + 1, 1, none⟩ = some (.int .i64 0) := (cell_blk r1.out 1).trans rfl
  have rl := blk_lt r1.out
  have rf0 : w1.frozen? ⟨w.heap.size + 1, 0, none⟩ = false := frozen_blk r1.out 0
  have rf1 : w1.frozen? ⟨w.heap.size + 1, 1, none⟩ = false := frozen_blk r1.out 1
  go_wp2
  exact bodyPost_ret (v := .agg #[.int .i64 (befC C k + (3 + (2 + x.words))), .int .i64 (2 + x.words)]) (results_cell_row rfl _ _ _ _ _ _ _ rfl ((blk_set (blk_set r1.out 0 _) 1 _).trans rfl) Try.underlying49 rfl (by kernel_rfl)) rfl ⟨(by rw [HS2.out]), (Below.setCell (Below.setCell HB1.out (p := ⟨w.heap.size + 1, 0, none⟩) (by show w.heap.size ≤ w.heap.size + 1; omega) _) (p := ⟨w.heap.size + 1, 1, none⟩) (by show w.heap.size ≤ w.heap.size + 1; omega) _)⟩

set_option maxRecDepth 100000 in
set_option maxHeartbeats 4000000 in
theorem buffer_no01 (cv : Value) (C : Cfg) (hsm : C.small) (k : Nat) (hk : k < C.chans.length) (hno : accB C = false ∨ accB C = true ∧ (C.chans.getD k default).kind ≠ 1) (w : World) (h : CfgAt w cv C) : Calls Try.prog 23 #[cv, .int .i64 k, .int .i64 0, .int .i64 1] w fun e w' => e = .returned (.agg #[.int .i64 (bufB C k 0 1).1, .int .i64 (bufB C k 0 1).2]) ∧ Below w.heap.size w w' := by
  have HC := Kp.mk h
  have HZ := Kp.mk (bufB_no C k 0 1 fun h => by rcases hno with h1 | ⟨_, h1⟩; (rw [h1] at h; cases h.1); exact h1 (by simpa using h.2.2.2.1))
  have h1 : decide ((k : Int) < 0) = false := decide_eq_false (by omega)
  have h2 : decide ((C.chans.length : Int) ≤ (k : Int)) = false := decide_eq_false (by omega)
  have h3 : decide (C.chans.length ≤ k) = false := decide_eq_false (by omega)
  have n0 := andNot_0
  have n1 := andNot_1
  obtain ⟨ho, pa, pc, ca, cc, a0, c0, a1, c1, rfl, bp, bc, b0, b1, hp, hc, hw0, hw1⟩ := h
  obtain ⟨g, o, rfl, hg, hcc⟩ := hc.at (by omega)
  obtain ⟨x, hx⟩ : ∃ x, C.chans[k] = x := ⟨_, rfl⟩
  have HXG : Kp (C.chans.getD k default = x) := ⟨by rw [getD_at _ _ _ (by omega), hx]⟩
  have hcu : ∀ j, j < 7 → w.cell? ⟨g, o + k * 7 + j, none⟩ = (chanC x)[j]? := fun j hj => by
    have h1 := hcc (k * 7 + j) (by omega)
    rw [flat_at chanC 7 chanC_len C.chans k j (by omega) hj, hx] at h1
    rw [Nat.add_assoc]
    exact h1
  have HCU := Kp.mk hcu
  have hk0 : (0 : Int) ≤ (k : Int) := by omega
  have hk1 : (k : Int) < (C.chans.length : Int) := by omega
  clear hcu hcc
  clear hx
  clear ho hp hc hw0 hw1
  go_enter Try.func23, Try.ntmps23
  have x3 : w.cell? ⟨g, o + k * 7 + 3, none⟩ = some (.int .i64 x.words) := ((Below.refl w.heap.size w).cell (p := ⟨g, o + k * 7 + 3, none⟩) hg).trans (HCU.out 3 (by omega))
  have hgw : g < w.heap.size := Nat.lt_of_lt_of_le hg (Below.refl w.heap.size w).size
  have HB0 : Kp (Below w.heap.size w w) := ⟨Below.refl _ _⟩
  go_wp2_with fail
  have HW : ∀ kd fr sz : Int, kd = 1 → ∀ w1, CfgAt w1 (.agg #[.slice pa C.parts.length pc, .slice (some ⟨g, o, none⟩) C.chans.length cc, .int .i64 C.l0, .slice a0 C.w0.length c0, .int .i64 C.l1, .slice a1 C.w1.length c1]) C → Calls Try.prog 51 #[.agg #[.slice pa C.parts.length pc, .slice (some ⟨g, o, none⟩) C.chans.length cc, .int .i64 C.l0, .slice a0 C.w0.length c0, .int .i64 C.l1, .slice a1 C.w1.length c1], .int .i64 k, .int .i64 kd, .int .i64 fr, .int .i64 sz] w1 fun e w' => e = .returned (.agg #[.int .i64 0, .int .i64 0]) ∧ Below w1.heap.size w1 w' := fun kd fr sz hkd w1 hc1 => by
    rcases hno with h1 | ⟨h0, h1⟩
    · exact within_no _ C hsm h1 k kd fr sz w1 hc1
    · exact within_kind _ C hsm h0 k hk kd fr sz (hkd ▸ h1) w1 hc1
  have HW' := Kp.mk HW
  clear HW
  refine (HW'.out 1 _ _ rfl _ (HC.out.below (below_al (below_al HB0.out _) _))).mono ?_
  rintro e w1 ⟨rfl, hb⟩
  have q1 : Kp (w1.heap[w.heap.size]? = some (.cells #[.slice pa C.parts.length pc, .slice (some ⟨g, o, none⟩) C.chans.length cc, .int .i64 C.l0, .slice a0 C.w0.length c0, .int .i64 C.l1, .slice a1 C.w1.length c1] 29 (0, 0))) := ⟨blk_below (blk_al (blk_new _ _) _) hb⟩
  have r1 : Kp (w1.heap[w.heap.size + 1]? = some (.cells #[.int .i64 0, .int .i64 0] 49 (0, 0))) := ⟨blk_below (blk_at (w := (w.alloc (.cells #[.slice pa C.parts.length pc, .slice (some ⟨g, o, none⟩) C.chans.length cc, .int .i64 C.l0, .slice a0 C.w0.length c0, .int .i64 C.l1, .slice a1 C.w1.length c1] 29))) (by simp) _) hb⟩
  have HB1 : Kp (Below w.heap.size w w1) := ⟨below_call (below_al (below_al HB0.out _) _) hb⟩
  clear HB0 hb
  have qc0 : w1.cell? ⟨w.heap.size, 0, none⟩ = some (.slice pa C.parts.length pc) := (cell_blk q1.out 0).trans rfl
  have qc1 : w1.cell? ⟨w.heap.size, 1, none⟩ = some (.slice (some ⟨g, o, none⟩) C.chans.length cc) := (cell_blk q1.out 1).trans rfl
  have qc2 : w1.cell? ⟨w.heap.size, 2, none⟩ = some (.int .i64 C.l0) := (cell_blk q1.out 2).trans rfl
  have qc3 : w1.cell? ⟨w.heap.size, 3, none⟩ = some (.slice a0 C.w0.length c0) := (cell_blk q1.out 3).trans rfl
  have qc4 : w1.cell? ⟨w.heap.size, 4, none⟩ = some (.int .i64 C.l1) := (cell_blk q1.out 4).trans rfl
  have qc5 : w1.cell? ⟨w.heap.size, 5, none⟩ = some (.slice a1 C.w1.length c1) := (cell_blk q1.out 5).trans rfl
  have ql := blk_lt q1.out
  have rc0 : w1.cell? ⟨w.heap.size + 1, 0, none⟩ = some (.int .i64 0) := (cell_blk r1.out 0).trans rfl
  have rc1 : w1.cell? ⟨w.heap.size + 1, 1, none⟩ = some (.int .i64 0) := (cell_blk r1.out 1).trans rfl
  have rl := blk_lt r1.out
  have rf0 : w1.frozen? ⟨w.heap.size + 1, 0, none⟩ = false := frozen_blk r1.out 0
  have rf1 : w1.frozen? ⟨w.heap.size + 1, 1, none⟩ = false := frozen_blk r1.out 1
  go_wp2
  exact bodyPost_ret (v := .agg #[.int .i64 0, .int .i64 0]) (results_cell_row rfl _ _ _ _ _ _ _ rfl ((blk_set (blk_set r1.out 0 _) 1 _).trans rfl) Try.underlying49 rfl (by kernel_rfl)) rfl ⟨zero_out HZ.out, (Below.setCell (Below.setCell HB1.out (p := ⟨w.heap.size + 1, 0, none⟩) (by show w.heap.size ≤ w.heap.size + 1; omega) _) (p := ⟨w.heap.size + 1, 1, none⟩) (by show w.heap.size ≤ w.heap.size + 1; omega) _)⟩

set_option maxRecDepth 100000 in
set_option maxHeartbeats 4000000 in
theorem buffer_yes10 (cv : Value) (C : Cfg) (hsm : C.small) (ha : accB C = true) (k : Nat) (hk : k < C.chans.length) (hkd : (C.chans.getD k default).kind = 1) (w : World) (h : CfgAt w cv C) : Calls Try.prog 23 #[cv, .int .i64 k, .int .i64 1, .int .i64 0] w fun e w' => e = .returned (.agg #[.int .i64 (bufB C k 1 0).1, .int .i64 (bufB C k 1 0).2]) ∧ Below w.heap.size w w' := by
  have HC := Kp.mk h
  have HS := Kp.mk (bufB_yes C k 1 0 ⟨ha, hk, hkd, by omega, by omega⟩)
  have hcs := chn_small ha (List.getElem_mem hk)
  have h1 : decide ((k : Int) < 0) = false := decide_eq_false (by omega)
  have h2 : decide ((C.chans.length : Int) ≤ (k : Int)) = false := decide_eq_false (by omega)
  have h3 : decide (C.chans.length ≤ k) = false := decide_eq_false (by omega)
  have n0 := andNot_0
  have n1 := andNot_1
  obtain ⟨ho, pa, pc, ca, cc, a0, c0, a1, c1, rfl, bp, bc, b0, b1, hp, hc, hw0, hw1⟩ := h
  obtain ⟨g, o, rfl, hg, hcc⟩ := hc.at (by omega)
  obtain ⟨x, hx⟩ : ∃ x, C.chans[k] = x := ⟨_, rfl⟩
  have HXG : Kp (C.chans.getD k default = x) := ⟨by rw [getD_at _ _ _ (by omega), hx]⟩
  have hcu : ∀ j, j < 7 → w.cell? ⟨g, o + k * 7 + j, none⟩ = (chanC x)[j]? := fun j hj => by
    have h1 := hcc (k * 7 + j) (by omega)
    rw [flat_at chanC 7 chanC_len C.chans k j (by omega) hj, hx] at h1
    rw [Nat.add_assoc]
    exact h1
  have HCU := Kp.mk hcu
  have hk0 : (0 : Int) ≤ (k : Int) := by omega
  have hk1 : (k : Int) < (C.chans.length : Int) := by omega
  clear hcu hcc
  rw [hx] at hcs
  have HS2 : Kp (bufB C k 1 0 = (befC C k + (3 + 2 * (2 + x.words)), 2 + x.words)) := ⟨by rw [HS.out, HXG.out]; exact congrArg (fun z => (z, 2 + x.words)) (by omega)⟩
  have s1 : IntKind.i64.wrap (2 + x.words) = 2 + x.words := IntWalk.i64_in _ (by omega)
  clear hx
  clear ho hp hc hw0 hw1
  go_enter Try.func23, Try.ntmps23
  have x3 : w.cell? ⟨g, o + k * 7 + 3, none⟩ = some (.int .i64 x.words) := ((Below.refl w.heap.size w).cell (p := ⟨g, o + k * 7 + 3, none⟩) hg).trans (HCU.out 3 (by omega))
  have hgw : g < w.heap.size := Nat.lt_of_lt_of_le hg (Below.refl w.heap.size w).size
  have HB0 : Kp (Below w.heap.size w w) := ⟨Below.refl _ _⟩
  go_wp2_with fail
  refine (within_yes _ C hsm ha k hk 1 (3 + 2 * (2 + x.words)) _ hkd (by omega) _ (HC.out.below (below_al (below_al HB0.out _) _))).mono ?_
  rintro e w1 ⟨rfl, hb⟩
  have q1 : Kp (w1.heap[w.heap.size]? = some (.cells #[.slice pa C.parts.length pc, .slice (some ⟨g, o, none⟩) C.chans.length cc, .int .i64 C.l0, .slice a0 C.w0.length c0, .int .i64 C.l1, .slice a1 C.w1.length c1] 29 (0, 0))) := ⟨blk_below (blk_al (blk_new _ _) _) hb⟩
  have r1 : Kp (w1.heap[w.heap.size + 1]? = some (.cells #[.int .i64 0, .int .i64 0] 49 (0, 0))) := ⟨blk_below (blk_at (w := (w.alloc (.cells #[.slice pa C.parts.length pc, .slice (some ⟨g, o, none⟩) C.chans.length cc, .int .i64 C.l0, .slice a0 C.w0.length c0, .int .i64 C.l1, .slice a1 C.w1.length c1] 29))) (by simp) _) hb⟩
  have HB1 : Kp (Below w.heap.size w w1) := ⟨below_call (below_al (below_al HB0.out _) _) hb⟩
  clear HB0 hb
  have qc0 : w1.cell? ⟨w.heap.size, 0, none⟩ = some (.slice pa C.parts.length pc) := (cell_blk q1.out 0).trans rfl
  have qc1 : w1.cell? ⟨w.heap.size, 1, none⟩ = some (.slice (some ⟨g, o, none⟩) C.chans.length cc) := (cell_blk q1.out 1).trans rfl
  have qc2 : w1.cell? ⟨w.heap.size, 2, none⟩ = some (.int .i64 C.l0) := (cell_blk q1.out 2).trans rfl
  have qc3 : w1.cell? ⟨w.heap.size, 3, none⟩ = some (.slice a0 C.w0.length c0) := (cell_blk q1.out 3).trans rfl
  have qc4 : w1.cell? ⟨w.heap.size, 4, none⟩ = some (.int .i64 C.l1) := (cell_blk q1.out 4).trans rfl
  have qc5 : w1.cell? ⟨w.heap.size, 5, none⟩ = some (.slice a1 C.w1.length c1) := (cell_blk q1.out 5).trans rfl
  have ql := blk_lt q1.out
  have rc0 : w1.cell? ⟨w.heap.size + 1, 0, none⟩ = some (.int .i64 0) := (cell_blk r1.out 0).trans rfl
  have rc1 : w1.cell? ⟨w.heap.size + 1, 1, none⟩ = some (.int .i64 0) := (cell_blk r1.out 1).trans rfl
  have rl := blk_lt r1.out
  have rf0 : w1.frozen? ⟨w.heap.size + 1, 0, none⟩ = false := frozen_blk r1.out 0
  have rf1 : w1.frozen? ⟨w.heap.size + 1, 1, none⟩ = false := frozen_blk r1.out 1
  go_wp2
  exact bodyPost_ret (v := .agg #[.int .i64 (befC C k + (3 + 2 * (2 + x.words))), .int .i64 (2 + x.words)]) (results_cell_row rfl _ _ _ _ _ _ _ rfl ((blk_set (blk_set r1.out 0 _) 1 _).trans rfl) Try.underlying49 rfl (by kernel_rfl)) rfl ⟨(by rw [HS2.out]), (Below.setCell (Below.setCell HB1.out (p := ⟨w.heap.size + 1, 0, none⟩) (by show w.heap.size ≤ w.heap.size + 1; omega) _) (p := ⟨w.heap.size + 1, 1, none⟩) (by show w.heap.size ≤ w.heap.size + 1; omega) _)⟩

set_option maxRecDepth 100000 in
set_option maxHeartbeats 4000000 in
theorem buffer_no10 (cv : Value) (C : Cfg) (hsm : C.small) (k : Nat) (hk : k < C.chans.length) (hno : accB C = false ∨ accB C = true ∧ (C.chans.getD k default).kind ≠ 1) (w : World) (h : CfgAt w cv C) : Calls Try.prog 23 #[cv, .int .i64 k, .int .i64 1, .int .i64 0] w fun e w' => e = .returned (.agg #[.int .i64 (bufB C k 1 0).1, .int .i64 (bufB C k 1 0).2]) ∧ Below w.heap.size w w' := by
  have HC := Kp.mk h
  have HZ := Kp.mk (bufB_no C k 1 0 fun h => by rcases hno with h1 | ⟨_, h1⟩; (rw [h1] at h; cases h.1); exact h1 (by simpa using h.2.2.2.1))
  have h1 : decide ((k : Int) < 0) = false := decide_eq_false (by omega)
  have h2 : decide ((C.chans.length : Int) ≤ (k : Int)) = false := decide_eq_false (by omega)
  have h3 : decide (C.chans.length ≤ k) = false := decide_eq_false (by omega)
  have n0 := andNot_0
  have n1 := andNot_1
  obtain ⟨ho, pa, pc, ca, cc, a0, c0, a1, c1, rfl, bp, bc, b0, b1, hp, hc, hw0, hw1⟩ := h
  obtain ⟨g, o, rfl, hg, hcc⟩ := hc.at (by omega)
  obtain ⟨x, hx⟩ : ∃ x, C.chans[k] = x := ⟨_, rfl⟩
  have HXG : Kp (C.chans.getD k default = x) := ⟨by rw [getD_at _ _ _ (by omega), hx]⟩
  have hcu : ∀ j, j < 7 → w.cell? ⟨g, o + k * 7 + j, none⟩ = (chanC x)[j]? := fun j hj => by
    have h1 := hcc (k * 7 + j) (by omega)
    rw [flat_at chanC 7 chanC_len C.chans k j (by omega) hj, hx] at h1
    rw [Nat.add_assoc]
    exact h1
  have HCU := Kp.mk hcu
  have hk0 : (0 : Int) ≤ (k : Int) := by omega
  have hk1 : (k : Int) < (C.chans.length : Int) := by omega
  clear hcu hcc
  clear hx
  clear ho hp hc hw0 hw1
  go_enter Try.func23, Try.ntmps23
  have x3 : w.cell? ⟨g, o + k * 7 + 3, none⟩ = some (.int .i64 x.words) := ((Below.refl w.heap.size w).cell (p := ⟨g, o + k * 7 + 3, none⟩) hg).trans (HCU.out 3 (by omega))
  have hgw : g < w.heap.size := Nat.lt_of_lt_of_le hg (Below.refl w.heap.size w).size
  have HB0 : Kp (Below w.heap.size w w) := ⟨Below.refl _ _⟩
  go_wp2_with fail
  have HW : ∀ kd fr sz : Int, kd = 1 → ∀ w1, CfgAt w1 (.agg #[.slice pa C.parts.length pc, .slice (some ⟨g, o, none⟩) C.chans.length cc, .int .i64 C.l0, .slice a0 C.w0.length c0, .int .i64 C.l1, .slice a1 C.w1.length c1]) C → Calls Try.prog 51 #[.agg #[.slice pa C.parts.length pc, .slice (some ⟨g, o, none⟩) C.chans.length cc, .int .i64 C.l0, .slice a0 C.w0.length c0, .int .i64 C.l1, .slice a1 C.w1.length c1], .int .i64 k, .int .i64 kd, .int .i64 fr, .int .i64 sz] w1 fun e w' => e = .returned (.agg #[.int .i64 0, .int .i64 0]) ∧ Below w1.heap.size w1 w' := fun kd fr sz hkd w1 hc1 => by
    rcases hno with h1 | ⟨h0, h1⟩
    · exact within_no _ C hsm h1 k kd fr sz w1 hc1
    · exact within_kind _ C hsm h0 k hk kd fr sz (hkd ▸ h1) w1 hc1
  have HW' := Kp.mk HW
  clear HW
  refine (HW'.out 1 _ _ rfl _ (HC.out.below (below_al (below_al HB0.out _) _))).mono ?_
  rintro e w1 ⟨rfl, hb⟩
  have q1 : Kp (w1.heap[w.heap.size]? = some (.cells #[.slice pa C.parts.length pc, .slice (some ⟨g, o, none⟩) C.chans.length cc, .int .i64 C.l0, .slice a0 C.w0.length c0, .int .i64 C.l1, .slice a1 C.w1.length c1] 29 (0, 0))) := ⟨blk_below (blk_al (blk_new _ _) _) hb⟩
  have r1 : Kp (w1.heap[w.heap.size + 1]? = some (.cells #[.int .i64 0, .int .i64 0] 49 (0, 0))) := ⟨blk_below (blk_at (w := (w.alloc (.cells #[.slice pa C.parts.length pc, .slice (some ⟨g, o, none⟩) C.chans.length cc, .int .i64 C.l0, .slice a0 C.w0.length c0, .int .i64 C.l1, .slice a1 C.w1.length c1] 29))) (by simp) _) hb⟩
  have HB1 : Kp (Below w.heap.size w w1) := ⟨below_call (below_al (below_al HB0.out _) _) hb⟩
  clear HB0 hb
  have qc0 : w1.cell? ⟨w.heap.size, 0, none⟩ = some (.slice pa C.parts.length pc) := (cell_blk q1.out 0).trans rfl
  have qc1 : w1.cell? ⟨w.heap.size, 1, none⟩ = some (.slice (some ⟨g, o, none⟩) C.chans.length cc) := (cell_blk q1.out 1).trans rfl
  have qc2 : w1.cell? ⟨w.heap.size, 2, none⟩ = some (.int .i64 C.l0) := (cell_blk q1.out 2).trans rfl
  have qc3 : w1.cell? ⟨w.heap.size, 3, none⟩ = some (.slice a0 C.w0.length c0) := (cell_blk q1.out 3).trans rfl
  have qc4 : w1.cell? ⟨w.heap.size, 4, none⟩ = some (.int .i64 C.l1) := (cell_blk q1.out 4).trans rfl
  have qc5 : w1.cell? ⟨w.heap.size, 5, none⟩ = some (.slice a1 C.w1.length c1) := (cell_blk q1.out 5).trans rfl
  have ql := blk_lt q1.out
  have rc0 : w1.cell? ⟨w.heap.size + 1, 0, none⟩ = some (.int .i64 0) := (cell_blk r1.out 0).trans rfl
  have rc1 : w1.cell? ⟨w.heap.size + 1, 1, none⟩ = some (.int .i64 0) := (cell_blk r1.out 1).trans rfl
  have rl := blk_lt r1.out
  have rf0 : w1.frozen? ⟨w.heap.size + 1, 0, none⟩ = false := frozen_blk r1.out 0
  have rf1 : w1.frozen? ⟨w.heap.size + 1, 1, none⟩ = false := frozen_blk r1.out 1
  go_wp2
  exact bodyPost_ret (v := .agg #[.int .i64 0, .int .i64 0]) (results_cell_row rfl _ _ _ _ _ _ _ rfl ((blk_set (blk_set r1.out 0 _) 1 _).trans rfl) Try.underlying49 rfl (by kernel_rfl)) rfl ⟨zero_out HZ.out, (Below.setCell (Below.setCell HB1.out (p := ⟨w.heap.size + 1, 0, none⟩) (by show w.heap.size ≤ w.heap.size + 1; omega) _) (p := ⟨w.heap.size + 1, 1, none⟩) (by show w.heap.size ≤ w.heap.size + 1; omega) _)⟩

set_option maxRecDepth 100000 in
set_option maxHeartbeats 4000000 in
theorem buffer_yes11 (cv : Value) (C : Cfg) (hsm : C.small) (ha : accB C = true) (k : Nat) (hk : k < C.chans.length) (hkd : (C.chans.getD k default).kind = 1) (w : World) (h : CfgAt w cv C) : Calls Try.prog 23 #[cv, .int .i64 k, .int .i64 1, .int .i64 1] w fun e w' => e = .returned (.agg #[.int .i64 (bufB C k 1 1).1, .int .i64 (bufB C k 1 1).2]) ∧ Below w.heap.size w w' := by
  have HC := Kp.mk h
  have HS := Kp.mk (bufB_yes C k 1 1 ⟨ha, hk, hkd, by omega, by omega⟩)
  have hcs := chn_small ha (List.getElem_mem hk)
  have h1 : decide ((k : Int) < 0) = false := decide_eq_false (by omega)
  have h2 : decide ((C.chans.length : Int) ≤ (k : Int)) = false := decide_eq_false (by omega)
  have h3 : decide (C.chans.length ≤ k) = false := decide_eq_false (by omega)
  have n0 := andNot_0
  have n1 := andNot_1
  obtain ⟨ho, pa, pc, ca, cc, a0, c0, a1, c1, rfl, bp, bc, b0, b1, hp, hc, hw0, hw1⟩ := h
  obtain ⟨g, o, rfl, hg, hcc⟩ := hc.at (by omega)
  obtain ⟨x, hx⟩ : ∃ x, C.chans[k] = x := ⟨_, rfl⟩
  have HXG : Kp (C.chans.getD k default = x) := ⟨by rw [getD_at _ _ _ (by omega), hx]⟩
  have hcu : ∀ j, j < 7 → w.cell? ⟨g, o + k * 7 + j, none⟩ = (chanC x)[j]? := fun j hj => by
    have h1 := hcc (k * 7 + j) (by omega)
    rw [flat_at chanC 7 chanC_len C.chans k j (by omega) hj, hx] at h1
    rw [Nat.add_assoc]
    exact h1
  have HCU := Kp.mk hcu
  have hk0 : (0 : Int) ≤ (k : Int) := by omega
  have hk1 : (k : Int) < (C.chans.length : Int) := by omega
  clear hcu hcc
  rw [hx] at hcs
  have HS2 : Kp (bufB C k 1 1 = (befC C k + (3 + 3 * (2 + x.words)), 2 + x.words)) := ⟨by rw [HS.out, HXG.out]; exact congrArg (fun z => (z, 2 + x.words)) (by omega)⟩
  have s1 : IntKind.i64.wrap (2 + x.words) = 2 + x.words := IntWalk.i64_in _ (by omega)
  clear hx
  clear ho hp hc hw0 hw1
  go_enter Try.func23, Try.ntmps23
  have x3 : w.cell? ⟨g, o + k * 7 + 3, none⟩ = some (.int .i64 x.words) := ((Below.refl w.heap.size w).cell (p := ⟨g, o + k * 7 + 3, none⟩) hg).trans (HCU.out 3 (by omega))
  have hgw : g < w.heap.size := Nat.lt_of_lt_of_le hg (Below.refl w.heap.size w).size
  have HB0 : Kp (Below w.heap.size w w) := ⟨Below.refl _ _⟩
  go_wp2_with fail
  refine (within_yes _ C hsm ha k hk 1 (3 + 3 * (2 + x.words)) _ hkd (by omega) _ (HC.out.below (below_al (below_al HB0.out _) _))).mono ?_
  rintro e w1 ⟨rfl, hb⟩
  have q1 : Kp (w1.heap[w.heap.size]? = some (.cells #[.slice pa C.parts.length pc, .slice (some ⟨g, o, none⟩) C.chans.length cc, .int .i64 C.l0, .slice a0 C.w0.length c0, .int .i64 C.l1, .slice a1 C.w1.length c1] 29 (0, 0))) := ⟨blk_below (blk_al (blk_new _ _) _) hb⟩
  have r1 : Kp (w1.heap[w.heap.size + 1]? = some (.cells #[.int .i64 0, .int .i64 0] 49 (0, 0))) := ⟨blk_below (blk_at (w := (w.alloc (.cells #[.slice pa C.parts.length pc, .slice (some ⟨g, o, none⟩) C.chans.length cc, .int .i64 C.l0, .slice a0 C.w0.length c0, .int .i64 C.l1, .slice a1 C.w1.length c1] 29))) (by simp) _) hb⟩
  have HB1 : Kp (Below w.heap.size w w1) := ⟨below_call (below_al (below_al HB0.out _) _) hb⟩
  clear HB0 hb
  have qc0 : w1.cell? ⟨w.heap.size, 0, none⟩ = some (.slice pa C.parts.length pc) := (cell_blk q1.out 0).trans rfl
  have qc1 : w1.cell? ⟨w.heap.size, 1, none⟩ = some (.slice (some ⟨g, o, none⟩) C.chans.length cc) := (cell_blk q1.out 1).trans rfl
  have qc2 : w1.cell? ⟨w.heap.size, 2, none⟩ = some (.int .i64 C.l0) := (cell_blk q1.out 2).trans rfl
  have qc3 : w1.cell? ⟨w.heap.size, 3, none⟩ = some (.slice a0 C.w0.length c0) := (cell_blk q1.out 3).trans rfl
  have qc4 : w1.cell? ⟨w.heap.size, 4, none⟩ = some (.int .i64 C.l1) := (cell_blk q1.out 4).trans rfl
  have qc5 : w1.cell? ⟨w.heap.size, 5, none⟩ = some (.slice a1 C.w1.length c1) := (cell_blk q1.out 5).trans rfl
  have ql := blk_lt q1.out
  have rc0 : w1.cell? ⟨w.heap.size + 1, 0, none⟩ = some (.int .i64 0) := (cell_blk r1.out 0).trans rfl
  have rc1 : w1.cell? ⟨w.heap.size + 1, 1, none⟩ = some (.int .i64 0) := (cell_blk r1.out 1).trans rfl
  have rl := blk_lt r1.out
  have rf0 : w1.frozen? ⟨w.heap.size + 1, 0, none⟩ = false := frozen_blk r1.out 0
  have rf1 : w1.frozen? ⟨w.heap.size + 1, 1, none⟩ = false := frozen_blk r1.out 1
  go_wp2
  exact bodyPost_ret (v := .agg #[.int .i64 (befC C k + (3 + 3 * (2 + x.words))), .int .i64 (2 + x.words)]) (results_cell_row rfl _ _ _ _ _ _ _ rfl ((blk_set (blk_set r1.out 0 _) 1 _).trans rfl) Try.underlying49 rfl (by kernel_rfl)) rfl ⟨(by rw [HS2.out]), (Below.setCell (Below.setCell HB1.out (p := ⟨w.heap.size + 1, 0, none⟩) (by show w.heap.size ≤ w.heap.size + 1; omega) _) (p := ⟨w.heap.size + 1, 1, none⟩) (by show w.heap.size ≤ w.heap.size + 1; omega) _)⟩

set_option maxRecDepth 100000 in
set_option maxHeartbeats 4000000 in
theorem buffer_no11 (cv : Value) (C : Cfg) (hsm : C.small) (k : Nat) (hk : k < C.chans.length) (hno : accB C = false ∨ accB C = true ∧ (C.chans.getD k default).kind ≠ 1) (w : World) (h : CfgAt w cv C) : Calls Try.prog 23 #[cv, .int .i64 k, .int .i64 1, .int .i64 1] w fun e w' => e = .returned (.agg #[.int .i64 (bufB C k 1 1).1, .int .i64 (bufB C k 1 1).2]) ∧ Below w.heap.size w w' := by
  have HC := Kp.mk h
  have HZ := Kp.mk (bufB_no C k 1 1 fun h => by rcases hno with h1 | ⟨_, h1⟩; (rw [h1] at h; cases h.1); exact h1 (by simpa using h.2.2.2.1))
  have h1 : decide ((k : Int) < 0) = false := decide_eq_false (by omega)
  have h2 : decide ((C.chans.length : Int) ≤ (k : Int)) = false := decide_eq_false (by omega)
  have h3 : decide (C.chans.length ≤ k) = false := decide_eq_false (by omega)
  have n0 := andNot_0
  have n1 := andNot_1
  obtain ⟨ho, pa, pc, ca, cc, a0, c0, a1, c1, rfl, bp, bc, b0, b1, hp, hc, hw0, hw1⟩ := h
  obtain ⟨g, o, rfl, hg, hcc⟩ := hc.at (by omega)
  obtain ⟨x, hx⟩ : ∃ x, C.chans[k] = x := ⟨_, rfl⟩
  have HXG : Kp (C.chans.getD k default = x) := ⟨by rw [getD_at _ _ _ (by omega), hx]⟩
  have hcu : ∀ j, j < 7 → w.cell? ⟨g, o + k * 7 + j, none⟩ = (chanC x)[j]? := fun j hj => by
    have h1 := hcc (k * 7 + j) (by omega)
    rw [flat_at chanC 7 chanC_len C.chans k j (by omega) hj, hx] at h1
    rw [Nat.add_assoc]
    exact h1
  have HCU := Kp.mk hcu
  have hk0 : (0 : Int) ≤ (k : Int) := by omega
  have hk1 : (k : Int) < (C.chans.length : Int) := by omega
  clear hcu hcc
  clear hx
  clear ho hp hc hw0 hw1
  go_enter Try.func23, Try.ntmps23
  have x3 : w.cell? ⟨g, o + k * 7 + 3, none⟩ = some (.int .i64 x.words) := ((Below.refl w.heap.size w).cell (p := ⟨g, o + k * 7 + 3, none⟩) hg).trans (HCU.out 3 (by omega))
  have hgw : g < w.heap.size := Nat.lt_of_lt_of_le hg (Below.refl w.heap.size w).size
  have HB0 : Kp (Below w.heap.size w w) := ⟨Below.refl _ _⟩
  go_wp2_with fail
  have HW : ∀ kd fr sz : Int, kd = 1 → ∀ w1, CfgAt w1 (.agg #[.slice pa C.parts.length pc, .slice (some ⟨g, o, none⟩) C.chans.length cc, .int .i64 C.l0, .slice a0 C.w0.length c0, .int .i64 C.l1, .slice a1 C.w1.length c1]) C → Calls Try.prog 51 #[.agg #[.slice pa C.parts.length pc, .slice (some ⟨g, o, none⟩) C.chans.length cc, .int .i64 C.l0, .slice a0 C.w0.length c0, .int .i64 C.l1, .slice a1 C.w1.length c1], .int .i64 k, .int .i64 kd, .int .i64 fr, .int .i64 sz] w1 fun e w' => e = .returned (.agg #[.int .i64 0, .int .i64 0]) ∧ Below w1.heap.size w1 w' := fun kd fr sz hkd w1 hc1 => by
    rcases hno with h1 | ⟨h0, h1⟩
    · exact within_no _ C hsm h1 k kd fr sz w1 hc1
    · exact within_kind _ C hsm h0 k hk kd fr sz (hkd ▸ h1) w1 hc1
  have HW' := Kp.mk HW
  clear HW
  refine (HW'.out 1 _ _ rfl _ (HC.out.below (below_al (below_al HB0.out _) _))).mono ?_
  rintro e w1 ⟨rfl, hb⟩
  have q1 : Kp (w1.heap[w.heap.size]? = some (.cells #[.slice pa C.parts.length pc, .slice (some ⟨g, o, none⟩) C.chans.length cc, .int .i64 C.l0, .slice a0 C.w0.length c0, .int .i64 C.l1, .slice a1 C.w1.length c1] 29 (0, 0))) := ⟨blk_below (blk_al (blk_new _ _) _) hb⟩
  have r1 : Kp (w1.heap[w.heap.size + 1]? = some (.cells #[.int .i64 0, .int .i64 0] 49 (0, 0))) := ⟨blk_below (blk_at (w := (w.alloc (.cells #[.slice pa C.parts.length pc, .slice (some ⟨g, o, none⟩) C.chans.length cc, .int .i64 C.l0, .slice a0 C.w0.length c0, .int .i64 C.l1, .slice a1 C.w1.length c1] 29))) (by simp) _) hb⟩
  have HB1 : Kp (Below w.heap.size w w1) := ⟨below_call (below_al (below_al HB0.out _) _) hb⟩
  clear HB0 hb
  have qc0 : w1.cell? ⟨w.heap.size, 0, none⟩ = some (.slice pa C.parts.length pc) := (cell_blk q1.out 0).trans rfl
  have qc1 : w1.cell? ⟨w.heap.size, 1, none⟩ = some (.slice (some ⟨g, o, none⟩) C.chans.length cc) := (cell_blk q1.out 1).trans rfl
  have qc2 : w1.cell? ⟨w.heap.size, 2, none⟩ = some (.int .i64 C.l0) := (cell_blk q1.out 2).trans rfl
  have qc3 : w1.cell? ⟨w.heap.size, 3, none⟩ = some (.slice a0 C.w0.length c0) := (cell_blk q1.out 3).trans rfl
  have qc4 : w1.cell? ⟨w.heap.size, 4, none⟩ = some (.int .i64 C.l1) := (cell_blk q1.out 4).trans rfl
  have qc5 : w1.cell? ⟨w.heap.size, 5, none⟩ = some (.slice a1 C.w1.length c1) := (cell_blk q1.out 5).trans rfl
  have ql := blk_lt q1.out
  have rc0 : w1.cell? ⟨w.heap.size + 1, 0, none⟩ = some (.int .i64 0) := (cell_blk r1.out 0).trans rfl
  have rc1 : w1.cell? ⟨w.heap.size + 1, 1, none⟩ = some (.int .i64 0) := (cell_blk r1.out 1).trans rfl
  have rl := blk_lt r1.out
  have rf0 : w1.frozen? ⟨w.heap.size + 1, 0, none⟩ = false := frozen_blk r1.out 0
  have rf1 : w1.frozen? ⟨w.heap.size + 1, 1, none⟩ = false := frozen_blk r1.out 1
  go_wp2
  exact bodyPost_ret (v := .agg #[.int .i64 0, .int .i64 0]) (results_cell_row rfl _ _ _ _ _ _ _ rfl ((blk_set (blk_set r1.out 0 _) 1 _).trans rfl) Try.underlying49 rfl (by kernel_rfl)) rfl ⟨zero_out HZ.out, (Below.setCell (Below.setCell HB1.out (p := ⟨w.heap.size + 1, 0, none⟩) (by show w.heap.size ≤ w.heap.size + 1; omega) _) (p := ⟨w.heap.size + 1, 1, none⟩) (by show w.heap.size ≤ w.heap.size + 1; omega) _)⟩

theorem buffer_any (cv : Value) (C : Cfg) (hsm : C.small) (k p i : Int) (hi1 : I64 p) (hi2 : I64 i) (w : World) (h : CfgAt w cv C) : Calls Try.prog 23 #[cv, .int .i64 k, .int .i64 p, .int .i64 i] w fun e w' => e = .returned (.agg #[.int .i64 (bufB C k p i).1, .int .i64 (bufB C k p i).2]) ∧ Below w.heap.size w w' := by
  by_cases hk : 0 ≤ k ∧ k < C.chans.length
  · obtain ⟨j, rfl⟩ := Int.eq_ofNat_of_zero_le hk.1
    have hj : j < C.chans.length := by omega
    by_cases hp : p = 0 ∨ p = 1
    · by_cases hi : i = 0 ∨ i = 1
      · by_cases hno : accB C = true ∧ (C.chans.getD j default).kind = 1
        · rcases hp with rfl | rfl <;> rcases hi with rfl | rfl
          · exact buffer_yes00 cv C hsm hno.1 j hj hno.2 w h
          · exact buffer_yes01 cv C hsm hno.1 j hj hno.2 w h
          · exact buffer_yes10 cv C hsm hno.1 j hj hno.2 w h
          · exact buffer_yes11 cv C hsm hno.1 j hj hno.2 w h
        · have hno' : accB C = false ∨ accB C = true ∧ (C.chans.getD j default).kind ≠ 1 := by
            cases ha : accB C with
            | false => exact .inl rfl
            | true => exact .inr ⟨rfl, fun hh => hno ⟨ha, hh⟩⟩
          rcases hp with rfl | rfl <;> rcases hi with rfl | rfl
          · exact buffer_no00 cv C hsm j hj hno' w h
          · exact buffer_no01 cv C hsm j hj hno' w h
          · exact buffer_no10 cv C hsm j hj hno' w h
          · exact buffer_no11 cv C hsm j hj hno' w h
      · rcases hp with rfl | rfl
        · exact buffer_i0 cv C hsm j hj i hi2 hi w h
        · exact buffer_i1 cv C hsm j hj i hi2 hi w h
    · exact buffer_p cv C hsm j hj p i hi1 hp w h
  · exact buffer_k cv C hsm k p i hk w h
end Go.Proofs.Ytpeajlponlmceaa

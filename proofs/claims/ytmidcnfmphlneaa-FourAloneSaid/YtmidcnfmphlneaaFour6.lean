/- The statements of layer 11: the configuration of two partitions; the same answers; the examples. -/
import Derived.Test.YtmidcnfmphlneaaFour5R
import Derived.Test.YtmidcnfmphlneaaRLay1
namespace Go.Proofs.Ytmidcnfmphlneaa
open Go.RowKit
set_option linter.unusedSimpArgs false
set_option linter.unusedVariables false
theorem row_blk {w : World} {b : Nat} {cs : Array Value} {ty : TypeId} {fz : Nat × Nat} {k n : Nat} {xs : List Value} (h : w.heap[b]? = some (.cells cs ty fz)) (hx : cs.toList = xs) (hl : xs.length = n * k) (hn : n ≤ 100) : RowAt w k (.slice (some ⟨b, 0, none⟩) n n) n xs :=
  ⟨hl, .inr ⟨b, 0, n, rfl, Nat.le_refl _, by unfold maxLen; omega, blk_lt h, fun i hi => by rw [Nat.zero_add, cell_blk h i, ← hx, Array.getElem?_toList]⟩⟩
theorem CfgAt.cells {w : World} {cs : Array Value} {C : Cfg} (h : CfgAt w (.agg cs) C) : ∃ v0 v1 v2 v3 v4 v5 : Value, cs = #[v0, v1, v2, v3, v4, v5] ∧ (∃ a n c, v0 = .slice a n c) ∧ (∃ a n c, v1 = .slice a n c) ∧ (∃ n, v2 = .int .i64 n) ∧ (∃ a n c, v3 = .slice a n c) ∧ (∃ n, v4 = .int .i64 n) ∧ ∃ a n c, v5 = .slice a n c := by
  obtain ⟨ho, pa, pc, ca, cc, a0, c0, a1, c1, hv, _⟩ := h
  simp only [Value.agg.injEq] at hv
  exact ⟨_, _, _, _, _, _, hv, ⟨_, _, _, rfl⟩, ⟨_, _, _, rfl⟩, ⟨_, rfl⟩, ⟨_, _, _, rfl⟩, ⟨_, rfl⟩, ⟨_, _, _, rfl⟩⟩

/-- Two partitions, a sampling channel from the first to the second one. -/
def two4 (wd per : Int) : Cfg := ⟨[(0, 1), (1, 0)], [⟨1, 0, 1, wd, 0, per, 0⟩], 1, [⟨0, 0, 1⟩], 1, [⟨1, 0, 1⟩]⟩
theorem two4_ok (wd per : Int) (h1 : 1 ≤ wd ∧ wd ≤ 16) (h2 : 0 ≤ per ∧ per ≤ 1048576) : (two4 wd per).ok := by
  have i1 : I64 wd := by
    show (Lit.int .i64 wd).wf = true
    simp [Lit.wf, IntKind.wrap]
    exact ⟨by show -9223372036854775808 ≤ wd; omega, by omega⟩
  have i2 : I64 per := by
    show (Lit.int .i64 per).wf = true
    simp [Lit.wf, IntKind.wrap]
    exact ⟨by show -9223372036854775808 ≤ per; omega, by omega⟩
  exact ⟨fun p hp => by simp only [two4, List.mem_cons, List.not_mem_nil, or_false] at hp; rcases hp with rfl | rfl <;> exact ⟨rfl, rfl⟩, fun x hx => by simp only [two4, List.mem_cons, List.not_mem_nil, or_false] at hx; subst hx; exact ⟨rfl, rfl, rfl, i1, rfl, i2, rfl⟩, rfl, rfl, fun x hx => by simp only [two4, List.mem_cons, List.not_mem_nil, or_false] at hx; subst hx; exact ⟨rfl, rfl, rfl⟩, fun x hx => by simp only [two4, List.mem_cons, List.not_mem_nil, or_false] at hx; subst hx; exact ⟨rfl, rfl, rfl⟩⟩
theorem two4_small (wd per : Int) : (two4 wd per).small := ⟨show 2 ≤ 200 by decide, show 1 ≤ 200 by decide, show 1 ≤ 200 by decide, show 1 ≤ 200 by decide⟩
theorem two4_acc (wd per : Int) (h1 : 1 ≤ wd ∧ wd ≤ 16) (h2 : 0 ≤ per ∧ per ≤ 1048576) : accB (two4 wd per) = true := by
  have e1 : inB wd 1 16 = true := decide_eq_true h1
  have e2 : inB per 0 1048576 = true := decide_eq_true h2
  have h : ∀ i, i < 17 → ruleB (i + 1) (two4 wd per) = false := by
    intro i hi
    match i, hi with
    | 0, _ => rfl
    | 1, _ => rfl
    | 2, _ => rfl
    | 3, _ => rfl
    | 4, _ => rfl
    | 5, _ => rfl
    | 6, _ => rfl
    | 7, _ => show ((!inB wd 1 16) || false) = false; rw [e1]; rfl
    | 8, _ => rfl
    | 9, _ => show ((!inB per 0 1048576) || false) = false; rw [e2]; rfl
    | 10, _ => rfl
    | 11, _ => rfl
    | 12, _ => rfl
    | 13, _ => rfl
    | 14, _ => rfl
    | 15, _ => rfl
    | 16, _ => rfl
    | n + 17, h => omega
  rw [accB, defsB, defsK, List.isEmpty_iff, List.map_eq_nil_iff, List.filter_eq_nil_iff]
  intro i hi
  rw [h i (List.mem_range.1 hi)]
  exact Bool.false_ne_true
theorem two4_src (wd per : Int) (h1 : 1 ≤ wd ∧ wd ≤ 16) (h2 : 0 ≤ per ∧ per ≤ 1048576) : srcB (two4 wd per) (0 : Nat) = (1, 3 + 4 * (2 + wd)) := by rw [srcB, if_pos ⟨two4_acc wd per h1 h2, by decide, (show ((0 : Nat) : Int) < ((1 : Nat) : Int) by decide)⟩]; rfl
theorem two4_dst (wd per : Int) (h1 : 1 ≤ wd ∧ wd ≤ 16) (h2 : 0 ≤ per ∧ per ≤ 1048576) : dstB (two4 wd per) (0 : Nat) = (1 + (3 + 4 * (2 + wd)), 1) := by rw [dstB, if_pos ⟨two4_acc wd per h1 h2, by decide, (show ((0 : Nat) : Int) < ((1 : Nat) : Int) by decide)⟩]; rfl
theorem two4_size (wd per : Int) (h1 : 1 ≤ wd ∧ wd ≤ 16) (h2 : 0 ≤ per ∧ per ≤ 1048576) : planE (two4 wd per) = 5 + 4 * (2 + wd) := by
  rw [planE, if_pos (two4_acc wd per h1 h2)]
  show 1 + (0 + ((3 + 4 * (2 + wd)) + (1 + 0))) = _
  omega
/-- The places of its channel. -/
def plc4 (wd per : Int) : Plc := ⟨1, 1 + (3 + 4 * (2 + wd)), wd, per⟩
theorem plc4_low (wd per : Int) (h1 : 1 ≤ wd ∧ wd ≤ 16) : (plc4 wd per).low := ⟨⟨by show (0 : Int) ≤ 1; omega, by show (1 : Int) ≤ 2000; omega⟩, ⟨by show 0 ≤ 1 + (3 + 4 * (2 + wd)); omega, by show 1 + (3 + 4 * (2 + wd)) ≤ 2000; omega⟩, h1⟩
theorem plc4_in (wd per : Int) (n : Nat) (hn : (n : Int) = 5 + 4 * (2 + wd)) : (plc4 wd per).In n := ⟨by show 1 + (3 + 4 * (2 + wd)) < (n : Int); omega, by show 1 + 3 + 4 * (2 + wd) ≤ (n : Int); omega⟩
theorem plc4_good (wd per : Int) (n : Nat) (h1 : 1 ≤ wd ∧ wd ≤ 16) (hn : (n : Int) = 5 + 4 * (2 + wd)) : (plc4 wd per).ok n := ⟨by show (0 : Int) ≤ 1; omega, h1.1, by show 1 + 3 + 4 * (2 + wd) ≤ 1 + (3 + 4 * (2 + wd)); omega, by show 1 + (3 + 4 * (2 + wd)) < (n : Int); omega⟩

set_option maxRecDepth 100000 in
set_option maxHeartbeats 4000000 in
theorem two4_any (wd per : Int) (w : World) (hok : (two4 wd per).ok) : Calls Try.prog 8 #[.int .i64 wd, .int .i64 per] w fun e w' => ∃ cs : Array Value, e = .returned (.agg cs) ∧ CfgAt w' (.agg cs) (two4 wd per) ∧ Below w.heap.size w w' := by
  go_enter Try.func8, Try.ntmps8
  go_wp2
  refine bodyPost_ret (v := .agg #[.slice (some ⟨w.heap.size + 1, 0, none⟩) 2 2, .slice (some ⟨w.heap.size + 1 + 1, 0, none⟩) 1 1, .int .i64 1, .slice (some ⟨w.heap.size + 1 + 1 + 1 + 1, 0, none⟩) 1 1, .int .i64 1, .slice (some ⟨w.heap.size + 1 + 1 + 1 + 1 + 1, 0, none⟩) 1 1]) (results_cell_row rfl _ _ _ _ _ _ _ rfl (blk_al (blk_al (blk_al (blk_al (blk_al (blk_new _ _) _) _) _) _) _) Try.underlying31 rfl (by kernel_rfl)) rfl ⟨_, rfl, ⟨hok, _, 2, _, 1, _, 1, _, 1, rfl, ?_, ?_, ?_, ?_, ?_, ?_, ?_, ?_⟩, (by repeat (first | exact Below.refl _ _ | apply below_al))⟩
  · exact ⟨Nat.le_refl _, by unfold maxLen; omega⟩
  · exact ⟨Nat.le_refl _, by unfold maxLen; omega⟩
  · exact ⟨Nat.le_refl _, by unfold maxLen; omega⟩
  · exact ⟨Nat.le_refl _, by unfold maxLen; omega⟩
  · exact row_blk (blk_al (blk_al (blk_al (blk_al (blk_at (w := (w.alloc (.cells #[.slice (some ⟨w.heap.size + 1, 0, none⟩) 2 2, .slice (some ⟨w.heap.size + 1 + 1, 0, none⟩) 1 1, .int .i64 1, .slice (some ⟨w.heap.size + 1 + 1 + 1 + 1, 0, none⟩) 1 1, .int .i64 1, .slice (some ⟨w.heap.size + 1 + 1 + 1 + 1 + 1, 0, none⟩) 1 1] 31))) (by simp) _) _) _) _) _) rfl rfl (show 2 ≤ 100 by decide)
  · exact row_blk (blk_al (blk_al (blk_al (blk_at (w := ((w.alloc (.cells #[.slice (some ⟨w.heap.size + 1, 0, none⟩) 2 2, .slice (some ⟨w.heap.size + 1 + 1, 0, none⟩) 1 1, .int .i64 1, .slice (some ⟨w.heap.size + 1 + 1 + 1 + 1, 0, none⟩) 1 1, .int .i64 1, .slice (some ⟨w.heap.size + 1 + 1 + 1 + 1 + 1, 0, none⟩) 1 1] 31)).alloc (.cells #[.int .i64 0, .int .i64 1, .int .i64 1, .int .i64 0] 63))) (by simp) _) _) _) _) rfl rfl (show 1 ≤ 100 by decide)
  · exact row_blk (blk_al (blk_at (w := ((((w.alloc (.cells #[.slice (some ⟨w.heap.size + 1, 0, none⟩) 2 2, .slice (some ⟨w.heap.size + 1 + 1, 0, none⟩) 1 1, .int .i64 1, .slice (some ⟨w.heap.size + 1 + 1 + 1 + 1, 0, none⟩) 1 1, .int .i64 1, .slice (some ⟨w.heap.size + 1 + 1 + 1 + 1 + 1, 0, none⟩) 1 1] 31)).alloc (.cells #[.int .i64 0, .int .i64 1, .int .i64 1, .int .i64 0] 63)).alloc (.cells #[.int .i64 1, .int .i64 0, .int .i64 1, .int .i64 wd, .int .i64 0, .int .i64 per, .int .u32 0] 60)).alloc (.cells #[.slice (some ⟨w.heap.size + 1, 0, none⟩) 2 2, .slice (some ⟨w.heap.size + 1 + 1, 0, none⟩) 1 1, .int .i64 1, .slice (some ⟨w.heap.size + 1 + 1 + 1 + 1, 0, none⟩) 1 1, .int .i64 1, .slice (some ⟨w.heap.size + 1 + 1 + 1 + 1 + 1, 0, none⟩) 1 1] 31))) (by simp) _) _) rfl rfl (show 1 ≤ 100 by decide)
  · exact row_blk (blk_at (w := (((((w.alloc (.cells #[.slice (some ⟨w.heap.size + 1, 0, none⟩) 2 2, .slice (some ⟨w.heap.size + 1 + 1, 0, none⟩) 1 1, .int .i64 1, .slice (some ⟨w.heap.size + 1 + 1 + 1 + 1, 0, none⟩) 1 1, .int .i64 1, .slice (some ⟨w.heap.size + 1 + 1 + 1 + 1 + 1, 0, none⟩) 1 1] 31)).alloc (.cells #[.int .i64 0, .int .i64 1, .int .i64 1, .int .i64 0] 63)).alloc (.cells #[.int .i64 1, .int .i64 0, .int .i64 1, .int .i64 wd, .int .i64 0, .int .i64 per, .int .u32 0] 60)).alloc (.cells #[.slice (some ⟨w.heap.size + 1, 0, none⟩) 2 2, .slice (some ⟨w.heap.size + 1 + 1, 0, none⟩) 1 1, .int .i64 1, .slice (some ⟨w.heap.size + 1 + 1 + 1 + 1, 0, none⟩) 1 1, .int .i64 1, .slice (some ⟨w.heap.size + 1 + 1 + 1 + 1 + 1, 0, none⟩) 1 1] 31)).alloc (.cells #[.int .i64 0, .int .i64 0, .int .i64 1] 65))) (by simp) _) rfl rfl (show 1 ≤ 100 by decide)

theorem newW_two (cv : Value) (wd per : Int) (h1 : 1 ≤ wd ∧ wd ≤ 16) (h2 : 0 ≤ per ∧ per ≤ 1048576) (ra : Option Addr) (rc : Nat) (l : List Int) (h0 : 0 < l.length) (hl : l.length ≤ 1000) (w : World) (h : CfgAt w cv (two4 wd per)) (hr : RowAt w 1 (.slice ra l.length rc) l.length (u32s l)) :
    Calls Try.prog 13 #[cv, .int .i64 0, .slice ra l.length rc] w fun e w' => ∃ W g dc, e = .returned (.pointer (some ⟨W, 0, none⟩)) ∧ Kp (WrAt w' W g dc (plc4 wd per) (wr0 l)) ∧ Below w.heap.size w w' ∧ w.heap.size ≤ W ∧ w.heap.size ≤ g ∧ g ≠ W :=
  newWriter_any cv (two4 wd per) (two4_small _ _) 0 (show 0 < 1 by decide) ⟨1, 0, 1, wd, 0, per, 0⟩ rfl _ _ _ _ (two4_src wd per h1 h2) (two4_dst wd per h1 h2) ra rc l h0 hl w h hr
theorem newR_two (cv : Value) (wd per : Int) (h1 : 1 ≤ wd ∧ wd ≤ 16) (h2 : 0 ≤ per ∧ per ≤ 1048576) (w : World) (h : CfgAt w cv (two4 wd per)) :
    Calls Try.prog 15 #[cv, .int .i64 0] w fun e w' => ∃ R, e = .returned (.pointer (some ⟨R, 0, none⟩)) ∧ Kp (RdAt w' R (R + 1) (plc4 wd per) rdr0 none 0) ∧ Below w.heap.size w w' ∧ w.heap.size ≤ R :=
  newReader_any cv (two4 wd per) (two4_small _ _) 0 (show 0 < 1 by decide) ⟨1, 0, 1, wd, 0, per, 0⟩ rfl _ _ _ _ (two4_src wd per h1 h2) (two4_dst wd per h1 h2) w h
theorem size_two (cv : Value) (wd per : Int) (h1 : 1 ≤ wd ∧ wd ≤ 16) (h2 : 0 ≤ per ∧ per ≤ 1048576) (w : World) (h : CfgAt w cv (two4 wd per)) : Calls Try.prog 10 #[cv] w fun e w' => e = .returned (.int .i64 (5 + 4 * (2 + wd))) ∧ Below w.heap.size w w' := by
  refine (rsize_any cv (two4 wd per) (two4_small _ _) w h).mono ?_
  rw [two4_size wd per h1 h2]
  exact fun e w' h => h

set_option maxHeartbeats 2000000 in
theorem sameAns_any (c1 c2 : Int) (a1 a2 : Option Addr) (k1 k2 : Nat) (l1 l2 : List Int) (v1 v2 : Bool) (n1 n2 : Int) (b : Bool) (hb : decide (c1 = c2 ∧ v1 = v2 ∧ n1 = n2 ∧ l1 = l2) = b) (w : World) (h1 : RowAt w 1 (.slice a1 l1.length k1) l1.length (u32s l1)) (h2 : RowAt w 1 (.slice a2 l2.length k2) l2.length (u32s l2)) :
    Calls Try.prog 17 #[.agg #[.int .i64 c1, .slice a1 l1.length k1, .bool v1, .int .i64 n1], .agg #[.int .i64 c2, .slice a2 l2.length k2, .bool v2, .int .i64 n2]] w fun e w' => e = .returned (.bool b) ∧ Below w.heap.size w w' := by
  subst hb
  obtain ⟨_, m1, e1, h3, h4⟩ := h1.shape
  cases e1
  obtain ⟨_, m2, e2, h5, h6⟩ := h2.shape
  cases e2
  unfold maxLen at h4 h6
  have H1 := Kp.mk h1
  have H2 := Kp.mk h2
  clear h1 h2
  by_cases q1 : ¬ c1 = c2
  · have g1 : (c1 != c2) = true := by simpa using q1
    go_enter Try.func17, Try.ntmps17
    go_wp2
    go_ret
    exact ⟨ret_bool (decide_eq_false fun h => q1 h.1).symm, below_al (below_al (Below.refl _ _) _) _⟩
  replace q1 := Classical.not_not.1 q1
  by_cases q2 : ¬ v1 = v2
  · have g1 : (c1 != c2) = false := by simpa using q1
    clear q1
    cases v1 <;> cases v2 <;> first
      | exact absurd rfl q2
      | (clear q2
         go_enter Try.func17, Try.ntmps17
         go_wp2
         go_ret
         exact ⟨ret_bool (decide_eq_false fun h => by cases h.2.1).symm, below_al (below_al (Below.refl _ _) _) _⟩)
  replace q2 := Classical.not_not.1 q2
  subst q2
  by_cases q3 : ¬ n1 = n2
  · have g1 : (c1 != c2) = false := by simpa using q1
    have g3 : (n1 != n2) = true := by simpa using q3
    have Q := Kp.mk q3
    clear q1 q3
    go_enter Try.func17, Try.ntmps17
    go_wp2
    go_ret
    exact ⟨ret_bool (decide_eq_false fun h => Q.out h.2.2.1).symm, below_al (below_al (Below.refl _ _) _) _⟩
  replace q3 := Classical.not_not.1 q3
  have g1 : (c1 != c2) = false := by simpa using q1
  have g3 : (n1 != n2) = false := by simpa using q3
  have HB : Kp (decide (c1 = c2 ∧ v1 = v1 ∧ n1 = n2 ∧ l1 = l2) = decide (l1 = l2)) := ⟨by simp [q1, q3]⟩
  rw [HB.out]
  clear q1 q3
  by_cases hl : ¬ l1.length = l2.length
  · have g4 : ((l1.length : Int) != (l2.length : Int)) = true := by rw [bne_iff_ne]; omega
    have Q := Kp.mk hl
    clear hl
    go_enter Try.func17, Try.ntmps17
    go_wp2
    go_ret
    exact ⟨ret_bool (decide_eq_false fun h => Q.out (by rw [h])).symm, below_al (below_al (Below.refl _ _) _) _⟩
  replace hl := Classical.not_not.1 hl
  have g4 : ((l1.length : Int) != (l2.length : Int)) = false := by simp [hl]
  have HL := Kp.mk hl
  clear hl
  go_enter Try.func17, Try.ntmps17
  go_wp2_with fail
  go_loopw [5] (fun i wr => ∃ k : Nat, k ≤ l1.length ∧ i = .int .i64 k ∧ Kp (Below w.heap.size w wr) ∧ Kp (wr.heap[w.heap.size]? = some (.cells #[.int .i64 c1, .slice a1 l1.length k1, .bool v1, .int .i64 n1] 51 (0, 0))) ∧ Kp (wr.heap[w.heap.size + 1]? = some (.cells #[.int .i64 c2, .slice a2 l2.length k2, .bool v1, .int .i64 n2] 51 (0, 0))) ∧ Kp (l1.take k = l2.take k)) (fun i wr => l1.length - (intOf i).toNat)
  case atStart => exact ⟨0, Nat.zero_le _, rfl, ⟨below_al (below_al (Below.refl _ _) _) _⟩, ⟨blk_al (blk_new _ _) _⟩, ⟨blk_at (w := w.alloc _) (by simp) _⟩, ⟨by simp⟩⟩
  case round =>
    obtain ⟨k, hk, rfl, HBl, B1, B2, HT⟩ := hrel
    have s1 : wr.cell? ⟨w.heap.size, 1, none⟩ = some (.slice a1 l1.length k1) := (cell_blk B1.out 1).trans rfl
    have s2 : wr.cell? ⟨w.heap.size + 1, 1, none⟩ = some (.slice a2 l2.length k2) := (cell_blk B2.out 1).trans rfl
    have t1 := blk_lt B1.out
    have t2 := blk_lt B2.out
    by_cases hlt : k < l1.length
    · have hlt' : k < l2.length := HL.out ▸ hlt
      obtain ⟨g, o, rfl, hg, hc⟩ := H1.out.at (by omega)
      obtain ⟨g', o', rfl, hg', hc'⟩ := H2.out.at (by omega)
      have c0 : wr.cell? ⟨g, o + k, none⟩ = some (.int .u32 l1[k]) := (HBl.out.cell (p := ⟨g, o + k, none⟩) hg).trans ((hc k (by omega)).trans (u32s_at l1 k hlt))
      have c1' : wr.cell? ⟨g', o' + k, none⟩ = some (.int .u32 l2[k]) := (HBl.out.cell (p := ⟨g', o' + k, none⟩) hg').trans ((hc' k (by omega)).trans (u32s_at l2 k hlt'))
      have hg1 : g < wr.heap.size := Nat.lt_of_lt_of_le hg HBl.out.size
      have hg2 : g' < wr.heap.size := Nat.lt_of_lt_of_le hg' HBl.out.size
      have HT1 : Kp (l1[k] = l2[k] → l1.take (k + 1) = l2.take (k + 1)) := ⟨fun h => by rw [List.take_succ_eq_append_getElem hlt, List.take_succ_eq_append_getElem hlt', HT.out, h]⟩
      have HN1 : Kp (l1[k] ≠ l2[k] → l1 ≠ l2) := ⟨fun h e => h (by simp [e])⟩
      obtain ⟨x, hx⟩ : ∃ x, l1[k] = x := ⟨_, rfl⟩
      obtain ⟨y, hy⟩ : ∃ y, l2[k] = y := ⟨_, rfl⟩
      rw [hx] at c0 HT1 HN1
      rw [hy] at c1' HT1 HN1
      clear hc hc' hx hy
      have hz : (0 : Int) ≤ (k : Int) := by omega
      have hz1 : (k : Int) < (l1.length : Int) := by omega
      have hz2 : (k : Int) < (l2.length : Int) := by omega
      by_cases hq : x = y
      · have HQ := Kp.mk hq
        have g5 : (x != y) = false := by simpa using hq
        clear hq
        go_wp2_with fail
        go_quiet (fail)
        go_wp2
        go_roundw
        case rel => exact ⟨k + 1, by omega, by go_num, ⟨below_drN HBl.out⟩, ⟨blk_drN B1.out⟩, ⟨blk_drN B2.out⟩, ⟨HT1.out HQ.out⟩⟩
        case measure => simp [intOf]; omega
      · have HQ := Kp.mk hq
        have g5 : (x != y) = true := by simpa using hq
        clear hq
        go_wp2_with fail
        go_quiet (fail)
        go_wp2
        go_ret
        exact ⟨ret_bool (decide_eq_false (HN1.out HQ.out)).symm, below_drN HBl.out⟩
    · obtain rfl : k = l1.length := by omega
      go_wp2
      go_ret
      exact ⟨ret_bool (decide_eq_true (by
        have h := HT.out
        rw [List.take_length, HL.out, List.take_length] at h
        exact h)).symm, HBl.out⟩
end Go.Proofs.Ytmidcnfmphlneaa

/- Contracts of package defect: the tests, one by one. -/
import Derived.Test.YtmidcnfmphlneaaIndexF
import Derived.BigQuiet
import Derived.Deep.QuietTactic
import Derived.Deep.RegionHeld3
namespace Go.Proofs.Ytmidcnfmphlneaa
open Go.RowKit
set_option linter.unusedSimpArgs false
set_option linter.unusedVariables false

def inB (n lo hi : Int) : Bool := decide (lo ≤ n ∧ n ≤ hi)
theorem inB_true {n lo hi : Int} (h : lo ≤ n ∧ n ≤ hi) : inB n lo hi = true := decide_eq_true h
theorem inB_false {n lo hi : Int} (h : ¬ (lo ≤ n ∧ n ≤ hi)) : inB n lo hi = false := decide_eq_false h
theorem inB_iff {n lo hi : Int} : inB n lo hi = true ↔ lo ≤ n ∧ n ≤ hi := decide_eq_true_iff
theorem inB_niff {n lo hi : Int} : inB n lo hi = false ↔ ¬ (lo ≤ n ∧ n ≤ hi) := decide_eq_false_iff_not
set_option maxHeartbeats 400000 in
theorem within_any (n lo hi : Int) (b : Bool) (hb : inB n lo hi = b) (w : World) : Calls Try.prog 65 #[.int .i64 n, .int .i64 lo, .int .i64 hi] w fun e w' => e = .returned (.bool b) ∧ Below w.heap.size w w' := by
  subst hb
  by_cases h1 : lo ≤ n
  · by_cases h2 : n ≤ hi
    · go_enter Try.func65, Try.ntmps65
      go_wp2
      go_ret
      exact ⟨ret_bool (inB_true ⟨h1, h2⟩).symm, Below.refl _ _⟩
    · have h3 : decide (n ≤ hi) = false := decide_eq_false h2
      go_enter Try.func65, Try.ntmps65
      go_wp2
      go_ret
      exact ⟨ret_bool (inB_false (by omega)).symm, Below.refl _ _⟩
  · have h3 : decide (lo ≤ n) = false := decide_eq_false h1
    go_enter Try.func65, Try.ntmps65
    go_wp2
    go_ret
    exact ⟨ret_bool (inB_false (by omega)).symm, Below.refl _ _⟩
def cI : Bool → Int
  | false => 0
  | true => 1
def Cfg.len (C : Cfg) : Bool → Int
  | false => C.l0
  | true => C.l1
def Cfg.win (C : Cfg) : Bool → List Win
  | false => C.w0
  | true => C.w1
def strangeB (C : Cfg) (p : Int) : Bool := !inB p 0 ((C.parts.length : Int) - 1)
def deepB (x : Chn) : Bool := if x.kind = 1 then x.depth == 0 else if x.kind = 2 then (x.depth == 1 || x.depth == 2 || x.depth == 4 || x.depth == 8) else true
def freshB (x : Chn) : Bool := if x.kind = 1 then inB x.period 0 1048576 else if x.kind = 2 then x.period == 0 else true
def foreignB (C : Cfg) (core : Bool) (x : Win) : Bool := strangeB C x.part || ((C.parts.getD x.part.toNat (0, 0)).1 != cI core)
def beyondB (x : Win) (e : Int) : Bool := decide (e < x.start) || decide (e - x.start < x.len)
def outsideB (C : Cfg) (core : Bool) (x : Win) : Bool := decide (x.start < 0) || decide (x.len < 1) || beyondB x (C.len core)

set_option maxHeartbeats 1000000 in
theorem rule1_any (cv : Value) (C : Cfg) (w : World) (h : CfgAt w cv C) : Calls Try.prog 64 #[cv] w fun e w' => e = .returned (.bool (!inB C.parts.length 1 6)) ∧ Below w.heap.size w w' := by
  obtain ⟨ho, pa, pc, ca, cc, a0, c0, a1, c1, rfl, bp, bc, b0, b1, hp, hc, hw0, hw1⟩ := h
  go_enter Try.func64, Try.ntmps64
  go_wp2_with fail
  refine (within_any C.parts.length 1 6 _ rfl _).mono ?_
  rintro e w1 ⟨rfl, hb1⟩
  go_wp2
  go_ret
  exact ⟨rfl, below_call (by repeat (first | exact Below.refl _ _ | apply below_al)) hb1⟩

set_option maxHeartbeats 1000000 in
theorem rule2_any (x : Int × Int) (w : World) : Calls Try.prog 67 #[.agg #[.int .i64 x.1, .int .i64 x.2]] w fun e w' => e = .returned (.bool (!inB x.1 0 1)) ∧ Below w.heap.size w w' := by
  go_enter Try.func67, Try.ntmps67
  go_wp2_with fail
  refine (within_any x.1 0 1 _ rfl _).mono ?_
  rintro e w1 ⟨rfl, hb1⟩
  go_wp2
  go_ret
  exact ⟨rfl, below_call (by repeat (first | exact Below.refl _ _ | apply below_al)) hb1⟩

set_option maxHeartbeats 1000000 in
theorem rule3_any (x : Int × Int) (w : World) : Calls Try.prog 68 #[.agg #[.int .i64 x.1, .int .i64 x.2]] w fun e w' => e = .returned (.bool (!inB x.2 0 64)) ∧ Below w.heap.size w w' := by
  go_enter Try.func68, Try.ntmps68
  go_wp2_with fail
  refine (within_any x.2 0 64 _ rfl _).mono ?_
  rintro e w1 ⟨rfl, hb1⟩
  go_wp2
  go_ret
  exact ⟨rfl, below_call (by repeat (first | exact Below.refl _ _ | apply below_al)) hb1⟩

set_option maxHeartbeats 1000000 in
theorem rule4_any (cv : Value) (C : Cfg) (w : World) (h : CfgAt w cv C) : Calls Try.prog 69 #[cv] w fun e w' => e = .returned (.bool (decide (8 < C.chans.length))) ∧ Below w.heap.size w w' := by
  obtain ⟨ho, pa, pc, ca, cc, a0, c0, a1, c1, rfl, bp, bc, b0, b1, hp, hc, hw0, hw1⟩ := h
  go_enter Try.func69, Try.ntmps69
  go_wp2
  go_ret
  exact ⟨ret_bool (by rw [decide_eq_decide]; omega), (by repeat (first | exact Below.refl _ _ | apply below_al))⟩

set_option maxHeartbeats 1000000 in
theorem rule5_any (cv : Value) (C : Cfg) (x : Chn) (w : World) (h : CfgAt w cv C) : Calls Try.prog 71 #[cv, .agg #[.int .i64 x.kind, .int .i64 x.frm, .int .i64 x.to, .int .i64 x.words, .int .i64 x.depth, .int .i64 x.period, .int .u32 x.boot]] w fun e w' => e = .returned (.bool (x.kind != 1 && x.kind != 2)) ∧ Below w.heap.size w w' := by
  obtain ⟨ho, pa, pc, ca, cc, a0, c0, a1, c1, rfl, bp, bc, b0, b1, hp, hc, hw0, hw1⟩ := h
  go_enter Try.func71, Try.ntmps71
  go_wp2
  all_goals
    go_ret
    exact ⟨ret_bool (by first | rfl | (simp [*]; done) | (simp_all; done)), (by repeat (first | exact Below.refl _ _ | apply below_al))⟩

set_option maxHeartbeats 1000000 in
theorem strange_any (cv : Value) (C : Cfg) (p : Int) (b : Bool) (hb : strangeB C p = b) (w : World) (h : CfgAt w cv C) : Calls Try.prog 73 #[cv, .int .i64 p] w fun e w' => e = .returned (.bool (b)) ∧ Below w.heap.size w w' := by
  obtain ⟨ho, pa, pc, ca, cc, a0, c0, a1, c1, rfl, bp, bc, b0, b1, hp, hc, hw0, hw1⟩ := h
  subst hb
  have s1 : IntKind.i64.wrap ((C.parts.length : Int) - 1) = (C.parts.length : Int) - 1 := IntWalk.i64_in _ (by unfold maxLen at bp; omega)
  go_enter Try.func73, Try.ntmps73
  go_wp2_with fail
  refine (within_any p 0 ((C.parts.length : Int) - 1) _ rfl _).mono ?_
  rintro e w1 ⟨rfl, hb1⟩
  go_wp2
  go_ret
  exact ⟨rfl, below_call (by repeat (first | exact Below.refl _ _ | apply below_al)) hb1⟩

set_option maxHeartbeats 1000000 in
theorem rule6_any (cv : Value) (C : Cfg) (x : Chn) (w : World) (h : CfgAt w cv C) : Calls Try.prog 72 #[cv, .agg #[.int .i64 x.kind, .int .i64 x.frm, .int .i64 x.to, .int .i64 x.words, .int .i64 x.depth, .int .i64 x.period, .int .u32 x.boot]] w fun e w' => e = .returned (.bool (strangeB C x.frm || strangeB C x.to)) ∧ Below w.heap.size w w' := by
  have HC := Kp.mk h
  obtain ⟨ho, pa, pc, ca, cc, a0, c0, a1, c1, rfl, bp, bc, b0, b1, hp, hc, hw0, hw1⟩ := h
  obtain ⟨d1, hd1⟩ : ∃ d1, strangeB C x.frm = d1 := ⟨_, rfl⟩
  rw [hd1]
  go_enter Try.func72, Try.ntmps72
  go_wp2_with fail
  refine (strange_any _ C x.frm d1 hd1 _ (HC.out.below (by repeat (first | exact Below.refl _ _ | apply below_al)))).mono ?_
  rintro e w1 ⟨rfl, hb1⟩
  have k0 : w1.heap[w.heap.size]? = some (.cells #[.slice pa C.parts.length pc, .slice ca C.chans.length cc, .int .i64 C.l0, .slice a0 C.w0.length c0, .int .i64 C.l1, .slice a1 C.w1.length c1] 31 (0, 0)) := blk_below (blk_al (blk_new w _) _) hb1
  have k1 : w1.heap[w.heap.size + 1]? = some (.cells #[.int .i64 x.kind, .int .i64 x.frm, .int .i64 x.to, .int .i64 x.words, .int .i64 x.depth, .int .i64 x.period, .int .u32 x.boot] 60 (0, 0)) := blk_below (blk_at (by simp) _) hb1
  have l0 := blk_lt k0
  have l1 := blk_lt k1
  have e0 : w1.cell? ⟨w.heap.size, 0, none⟩ = some (.slice pa C.parts.length pc) := (cell_blk k0 0).trans rfl
  have e1 : w1.cell? ⟨w.heap.size, 1, none⟩ = some (.slice ca C.chans.length cc) := (cell_blk k0 1).trans rfl
  have e2 : w1.cell? ⟨w.heap.size, 2, none⟩ = some (.int .i64 C.l0) := (cell_blk k0 2).trans rfl
  have e3 : w1.cell? ⟨w.heap.size, 3, none⟩ = some (.slice a0 C.w0.length c0) := (cell_blk k0 3).trans rfl
  have e4 : w1.cell? ⟨w.heap.size, 4, none⟩ = some (.int .i64 C.l1) := (cell_blk k0 4).trans rfl
  have e5 : w1.cell? ⟨w.heap.size, 5, none⟩ = some (.slice a1 C.w1.length c1) := (cell_blk k0 5).trans rfl
  have e6 : w1.cell? ⟨w.heap.size + 1, 2, none⟩ = some (.int .i64 x.to) := (cell_blk k1 2).trans rfl
  have HB1 : Kp (Below w.heap.size w w1) := ⟨below_call (by repeat (first | exact Below.refl _ _ | apply below_al)) hb1⟩
  clear hb1 k0 k1
  cases d1 with
  | true =>
    go_wp2
    go_ret
    exact ⟨rfl, HB1.out⟩
  | false =>
    go_wp2_with fail
    refine (strange_any _ C x.to _ rfl _ (HC.out.below HB1.out)).mono ?_
    rintro e w2 ⟨rfl, hb2⟩
    go_wp2
    go_ret
    exact ⟨rfl, below_call HB1.out hb2⟩

set_option maxHeartbeats 1000000 in
theorem rule7_any (cv : Value) (C : Cfg) (x : Chn) (w : World) (h : CfgAt w cv C) : Calls Try.prog 74 #[cv, .agg #[.int .i64 x.kind, .int .i64 x.frm, .int .i64 x.to, .int .i64 x.words, .int .i64 x.depth, .int .i64 x.period, .int .u32 x.boot]] w fun e w' => e = .returned (.bool (x.frm == x.to)) ∧ Below w.heap.size w w' := by
  obtain ⟨ho, pa, pc, ca, cc, a0, c0, a1, c1, rfl, bp, bc, b0, b1, hp, hc, hw0, hw1⟩ := h
  go_enter Try.func74, Try.ntmps74
  go_wp2
  all_goals
    go_ret
    exact ⟨ret_bool (by first | rfl | (simp [*]; done) | (simp_all; done)), (by repeat (first | exact Below.refl _ _ | apply below_al))⟩

set_option maxHeartbeats 1000000 in
theorem rule8_any (cv : Value) (C : Cfg) (x : Chn) (w : World) (h : CfgAt w cv C) : Calls Try.prog 75 #[cv, .agg #[.int .i64 x.kind, .int .i64 x.frm, .int .i64 x.to, .int .i64 x.words, .int .i64 x.depth, .int .i64 x.period, .int .u32 x.boot]] w fun e w' => e = .returned (.bool (!inB x.words 1 16)) ∧ Below w.heap.size w w' := by
  obtain ⟨ho, pa, pc, ca, cc, a0, c0, a1, c1, rfl, bp, bc, b0, b1, hp, hc, hw0, hw1⟩ := h
  go_enter Try.func75, Try.ntmps75
  go_wp2_with fail
  refine (within_any x.words 1 16 _ rfl _).mono ?_
  rintro e w1 ⟨rfl, hb1⟩
  go_wp2
  go_ret
  exact ⟨rfl, below_call (by repeat (first | exact Below.refl _ _ | apply below_al)) hb1⟩

set_option maxHeartbeats 1000000 in
theorem deep_any (x : Chn) (w : World) : Calls Try.prog 77 #[.agg #[.int .i64 x.kind, .int .i64 x.frm, .int .i64 x.to, .int .i64 x.words, .int .i64 x.depth, .int .i64 x.period, .int .u32 x.boot]] w fun e w' => e = .returned (.bool (deepB x)) ∧ Below w.heap.size w w' := by
  go_enter Try.func77, Try.ntmps77
  go_wp2
  all_goals
    go_ret
    exact ⟨ret_bool (by unfold deepB; first | (simp [*]; done) | (simp_all; done)), (by repeat (first | exact Below.refl _ _ | apply below_al))⟩

set_option maxHeartbeats 1000000 in
theorem fresh_any (x : Chn) (w : World) : Calls Try.prog 79 #[.agg #[.int .i64 x.kind, .int .i64 x.frm, .int .i64 x.to, .int .i64 x.words, .int .i64 x.depth, .int .i64 x.period, .int .u32 x.boot]] w fun e w' => e = .returned (.bool (freshB x)) ∧ Below w.heap.size w w' := by
  by_cases h1 : x.kind = 1
  · have h2 : (x.kind == 1) = true := by simpa using h1
    have HF : Kp (freshB x = inB x.period 0 1048576) := ⟨if_pos h1⟩
    clear h1
    go_enter Try.func79, Try.ntmps79
    go_wp2_with fail
    refine (within_any x.period 0 1048576 _ rfl _).mono ?_
    rintro e w1 ⟨rfl, hb1⟩
    go_wp2
    go_ret
    exact ⟨ret_bool HF.out.symm, below_call (by repeat (first | exact Below.refl _ _ | apply below_al)) hb1⟩
  · have h2 : (x.kind == 1) = false := by simpa using h1
    go_enter Try.func79, Try.ntmps79
    go_wp2
    all_goals
      go_ret
      exact ⟨ret_bool (by unfold freshB; first | (simp [*]; done) | (simp_all; done)), (by repeat (first | exact Below.refl _ _ | apply below_al))⟩

set_option maxHeartbeats 1000000 in
theorem rule9_any (cv : Value) (C : Cfg) (x : Chn) (w : World) (h : CfgAt w cv C) : Calls Try.prog 76 #[cv, .agg #[.int .i64 x.kind, .int .i64 x.frm, .int .i64 x.to, .int .i64 x.words, .int .i64 x.depth, .int .i64 x.period, .int .u32 x.boot]] w fun e w' => e = .returned (.bool (!deepB x)) ∧ Below w.heap.size w w' := by
  obtain ⟨ho, pa, pc, ca, cc, a0, c0, a1, c1, rfl, bp, bc, b0, b1, hp, hc, hw0, hw1⟩ := h
  go_enter Try.func76, Try.ntmps76
  go_wp2_with fail
  refine (deep_any x _).mono ?_
  rintro e w1 ⟨rfl, hb1⟩
  go_wp2
  go_ret
  exact ⟨rfl, below_call (by repeat (first | exact Below.refl _ _ | apply below_al)) hb1⟩

set_option maxHeartbeats 1000000 in
theorem rule10_any (cv : Value) (C : Cfg) (x : Chn) (w : World) (h : CfgAt w cv C) : Calls Try.prog 78 #[cv, .agg #[.int .i64 x.kind, .int .i64 x.frm, .int .i64 x.to, .int .i64 x.words, .int .i64 x.depth, .int .i64 x.period, .int .u32 x.boot]] w fun e w' => e = .returned (.bool (!freshB x)) ∧ Below w.heap.size w w' := by
  obtain ⟨ho, pa, pc, ca, cc, a0, c0, a1, c1, rfl, bp, bc, b0, b1, hp, hc, hw0, hw1⟩ := h
  go_enter Try.func78, Try.ntmps78
  go_wp2_with fail
  refine (fresh_any x _).mono ?_
  rintro e w1 ⟨rfl, hb1⟩
  go_wp2
  go_ret
  exact ⟨rfl, below_call (by repeat (first | exact Below.refl _ _ | apply below_al)) hb1⟩

set_option maxHeartbeats 1000000 in
theorem rule11_any (cv : Value) (C : Cfg) (x : Chn) (w : World) (h : CfgAt w cv C) : Calls Try.prog 80 #[cv, .agg #[.int .i64 x.kind, .int .i64 x.frm, .int .i64 x.to, .int .i64 x.words, .int .i64 x.depth, .int .i64 x.period, .int .u32 x.boot]] w fun e w' => e = .returned (.bool (x.kind == 1 && x.boot != 0)) ∧ Below w.heap.size w w' := by
  obtain ⟨ho, pa, pc, ca, cc, a0, c0, a1, c1, rfl, bp, bc, b0, b1, hp, hc, hw0, hw1⟩ := h
  go_enter Try.func80, Try.ntmps80
  go_wp2
  all_goals
    go_ret
    exact ⟨ret_bool (by first | rfl | (simp [*]; done) | (simp_all; done)), (by repeat (first | exact Below.refl _ _ | apply below_al))⟩

set_option maxHeartbeats 1000000 in
theorem rule12_any (cv : Value) (C : Cfg) (core : Bool) (w : World) (h : CfgAt w cv C) : Calls Try.prog 82 #[cv, .int .i64 (cI core)] w fun e w' => e = .returned (.bool (!inB (C.len core) 1 64)) ∧ Below w.heap.size w w' := by
  obtain ⟨ho, pa, pc, ca, cc, a0, c0, a1, c1, rfl, bp, bc, b0, b1, hp, hc, hw0, hw1⟩ := h
  cases core
  · change Calls Try.prog 82 #[_, .int .i64 0] w _
    go_enter Try.func82, Try.ntmps82
    go_wp2_with fail
    refine (within_any C.l0 1 64 _ rfl _).mono ?_
    rintro e w1 ⟨rfl, hb1⟩
    go_wp2
    go_ret
    exact ⟨rfl, below_call (by repeat (first | exact Below.refl _ _ | apply below_al)) hb1⟩
  · change Calls Try.prog 82 #[_, .int .i64 1] w _
    go_enter Try.func82, Try.ntmps82
    go_wp2_with fail
    refine (within_any C.l1 1 64 _ rfl _).mono ?_
    rintro e w1 ⟨rfl, hb1⟩
    go_wp2
    go_ret
    exact ⟨rfl, below_call (by repeat (first | exact Below.refl _ _ | apply below_al)) hb1⟩

set_option maxHeartbeats 1000000 in
theorem rule13_any (cv : Value) (C : Cfg) (core : Bool) (w : World) (h : CfgAt w cv C) : Calls Try.prog 83 #[cv, .int .i64 (cI core)] w fun e w' => e = .returned (.bool (decide (16 < (C.win core).length))) ∧ Below w.heap.size w w' := by
  obtain ⟨ho, pa, pc, ca, cc, a0, c0, a1, c1, rfl, bp, bc, b0, b1, hp, hc, hw0, hw1⟩ := h
  cases core
  · change Calls Try.prog 83 #[_, .int .i64 0] w _
    go_enter Try.func83, Try.ntmps83
    go_wp2
    go_ret
    exact ⟨ret_bool (by change _ = decide (16 < C.w0.length); rw [decide_eq_decide]; omega), (by repeat (first | exact Below.refl _ _ | apply below_al))⟩
  · change Calls Try.prog 83 #[_, .int .i64 1] w _
    go_enter Try.func83, Try.ntmps83
    go_wp2
    go_ret
    exact ⟨ret_bool (by change _ = decide (16 < C.w1.length); rw [decide_eq_decide]; omega), (by repeat (first | exact Below.refl _ _ | apply below_al))⟩
end Go.Proofs.Ytmidcnfmphlneaa

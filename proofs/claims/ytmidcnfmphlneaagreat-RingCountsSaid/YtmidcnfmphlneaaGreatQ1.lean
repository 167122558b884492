/- Contracts of package defect: the tests, one by one.; Contracts of package defect: the tests of windows, one by one.; Contracts of package defect: numbers that are words; windows that cross. -/
import Derived.Test.YtmidcnfmphlneaaGreatQ0
import Derived.BigQuiet
import Derived.Deep.QuietTactic
import Derived.Deep.RegionHeld3
namespace Go.Proofs.YtmidcnfmphlneaaGreat
section
open Go.RowKit
set_option linter.unusedSimpArgs false
set_option linter.unusedVariables false

def inB (n lo hi : Int) : Bool := decide (lo ≤ n ∧ n ≤ hi)
theorem inB_true {n lo hi : Int} (h : lo ≤ n ∧ n ≤ hi) : inB n lo hi = true := decide_eq_true h
theorem inB_false {n lo hi : Int} (h : ¬ (lo ≤ n ∧ n ≤ hi)) : inB n lo hi = false := decide_eq_false h
theorem inB_iff {n lo hi : Int} : inB n lo hi = true ↔ lo ≤ n ∧ n ≤ hi := decide_eq_true_iff
theorem inB_niff {n lo hi : Int} : inB n lo hi = false ↔ ¬ (lo ≤ n ∧ n ≤ hi) := decide_eq_false_iff_not
set_option maxHeartbeats 400000 in
theorem within_any (n lo hi : Int) (b : Bool) (hb : inB n lo hi = b) (w : World) : Calls Tryz.prog 121 #[.int .i64 n, .int .i64 lo, .int .i64 hi] w fun e w' => e = .returned (.bool b) ∧ Below w.heap.size w w' := by
  subst hb
  by_cases h1 : lo ≤ n
  · by_cases h2 : n ≤ hi
    · go_enter Tryz.func121, Tryz.ntmps121
      go_wp2
      go_ret
      exact ⟨ret_bool (inB_true ⟨h1, h2⟩).symm, Below.refl _ _⟩
    · have h3 : decide (n ≤ hi) = false := decide_eq_false h2
      go_enter Tryz.func121, Tryz.ntmps121
      go_wp2
      go_ret
      exact ⟨ret_bool (inB_false (by omega)).symm, Below.refl _ _⟩
  · have h3 : decide (lo ≤ n) = false := decide_eq_false h1
    go_enter Tryz.func121, Tryz.ntmps121
    go_wp2
    go_ret
    exact ⟨ret_bool (inB_false (by omega)).symm, Below.refl _ _⟩
def cI : Bool → Int
  | false => 0
  | true => 1
def Cfg.len (C : Cfg) : Bool → Int
  | false => C.l0
  | true => C.l1
def Cfg.win (C : Cfg) : Bool → List Win
  | false => C.w0
  | true => C.w1
def strangeB (C : Cfg) (p : Int) : Bool := !inB p 0 ((C.parts.length : Int) - 1)
def deepB (x : Chn) : Bool := if x.kind = 1 then x.depth == 0 else if x.kind = 2 then (x.depth == 1 || x.depth == 2 || x.depth == 4 || x.depth == 8) else true
def freshB (x : Chn) : Bool := if x.kind = 1 then inB x.period 0 1048576 else if x.kind = 2 then x.period == 0 else true
def foreignB (C : Cfg) (core : Bool) (x : Win) : Bool := strangeB C x.part || ((C.parts.getD x.part.toNat (0, 0)).1 != cI core)
def beyondB (x : Win) (e : Int) : Bool := decide (e < x.start) || decide (e - x.start < x.len)
def outsideB (C : Cfg) (core : Bool) (x : Win) : Bool := decide (x.start < 0) || decide (x.len < 1) || beyondB x (C.len core)

set_option maxHeartbeats 1000000 in
theorem rule1_any (cv : Value) (C : Cfg) (w : World) (h : CfgAt w cv C) : Calls Tryz.prog 120 #[cv] w fun e w' => e = .returned (.bool (!inB C.parts.length 1 6)) ∧ Below w.heap.size w w' := by
  obtain ⟨ho, pa, pc, ca, cc, a0, c0, a1, c1, rfl, bp, bc, b0, b1, hp, hc, hw0, hw1⟩ := h
  go_enter Tryz.func120, Tryz.ntmps120
  go_wp2_with fail
  refine (within_any C.parts.length 1 6 _ rfl _).mono ?_
  rintro e w1 ⟨rfl, hb1⟩
  go_wp2
  go_ret
  exact ⟨rfl, below_call (by repeat (first | exact Below.refl _ _ | apply below_al)) hb1⟩

set_option maxHeartbeats 1000000 in
theorem rule2_any (x : Int × Int) (w : World) : Calls Tryz.prog 123 #[.agg #[.int .i64 x.1, .int .i64 x.2]] w fun e w' => e = .returned (.bool (!inB x.1 0 1)) ∧ Below w.heap.size w w' := by
  go_enter Tryz.func123, Tryz.ntmps123
  go_wp2_with fail
  refine (within_any x.1 0 1 _ rfl _).mono ?_
  rintro e w1 ⟨rfl, hb1⟩
  go_wp2
  go_ret
  exact ⟨rfl, below_call (by repeat (first | exact Below.refl _ _ | apply below_al)) hb1⟩

set_option maxHeartbeats 1000000 in
theorem rule3_any (x : Int × Int) (w : World) : Calls Tryz.prog 124 #[.agg #[.int .i64 x.1, .int .i64 x.2]] w fun e w' => e = .returned (.bool (!inB x.2 0 64)) ∧ Below w.heap.size w w' := by
  go_enter Tryz.func124, Tryz.ntmps124
  go_wp2_with fail
  refine (within_any x.2 0 64 _ rfl _).mono ?_
  rintro e w1 ⟨rfl, hb1⟩
  go_wp2
  go_ret
  exact ⟨rfl, below_call (by repeat (first | exact Below.refl _ _ | apply below_al)) hb1⟩

set_option maxHeartbeats 1000000 in
theorem rule4_any (cv : Value) (C : Cfg) (w : World) (h : CfgAt w cv C) : Calls Tryz.prog 125 #[cv] w fun e w' => e = .returned (.bool (decide (8 < C.chans.length))) ∧ Below w.heap.size w w' := by
  obtain ⟨ho, pa, pc, ca, cc, a0, c0, a1, c1, rfl, bp, bc, b0, b1, hp, hc, hw0, hw1⟩ := h
  go_enter Tryz.func125, Tryz.ntmps125
  go_wp2
  go_ret
  exact ⟨ret_bool (by rw [decide_eq_decide]; omega), (by repeat (first | exact Below.refl _ _ | apply below_al))⟩

set_option maxHeartbeats 1000000 in
theorem rule5_any (cv : Value) (C : Cfg) (x : Chn) (w : World) (h : CfgAt w cv C) : Calls Tryz.prog 127 #[cv, .agg #[.int .i64 x.kind, .int .i64 x.frm, .int .i64 x.to, .int .i64 x.words, .int .i64 x.depth, .int .i64 x.period, .int .u32 x.boot]] w fun e w' => e = .returned (.bool (x.kind != 1 && x.kind != 2)) ∧ Below w.heap.size w w' := by
  obtain ⟨ho, pa, pc, ca, cc, a0, c0, a1, c1, rfl, bp, bc, b0, b1, hp, hc, hw0, hw1⟩ := h
  go_enter Tryz.func127, Tryz.ntmps127
  go_wp2
  all_goals
    go_ret
    exact ⟨ret_bool (by first | rfl | (simp [*]; done) | (simp_all; done)), (by repeat (first | exact Below.refl _ _ | apply below_al))⟩

set_option maxHeartbeats 1000000 in
theorem strange_any (cv : Value) (C : Cfg) (p : Int) (b : Bool) (hb : strangeB C p = b) (w : World) (h : CfgAt w cv C) : Calls Tryz.prog 129 #[cv, .int .i64 p] w fun e w' => e = .returned (.bool (b)) ∧ Below w.heap.size w w' := by
  obtain ⟨ho, pa, pc, ca, cc, a0, c0, a1, c1, rfl, bp, bc, b0, b1, hp, hc, hw0, hw1⟩ := h
  subst hb
  have s1 : IntKind.i64.wrap ((C.parts.length : Int) - 1) = (C.parts.length : Int) - 1 := IntWalk.i64_in _ (by unfold maxLen at bp; omega)
  go_enter Tryz.func129, Tryz.ntmps129
  go_wp2_with fail
  refine (within_any p 0 ((C.parts.length : Int) - 1) _ rfl _).mono ?_
  rintro e w1 ⟨rfl, hb1⟩
  go_wp2
  go_ret
  exact ⟨rfl, below_call (by repeat (first | exact Below.refl _ _ | apply below_al)) hb1⟩

set_option maxHeartbeats 1000000 in
theorem rule6_any (cv : Value) (C : Cfg) (x : Chn) (w : World) (h : CfgAt w cv C) : Calls Tryz.prog 128 #[cv, .agg #[.int .i64 x.kind, .int .i64 x.frm, .int .i64 x.to, .int .i64 x.words, .int .i64 x.depth, .int .i64 x.period, .int .u32 x.boot]] w fun e w' => e = .returned (.bool (strangeB C x.frm || strangeB C x.to)) ∧ Below w.heap.size w w' := by
  have HC := Kp.mk h
  obtain ⟨ho, pa, pc, ca, cc, a0, c0, a1, c1, rfl, bp, bc, b0, b1, hp, hc, hw0, hw1⟩ := h
  obtain ⟨d1, hd1⟩ : ∃ d1, strangeB C x.frm = d1 := ⟨_, rfl⟩
  rw [hd1]
  go_enter Tryz.func128, Tryz.ntmps128
  go_wp2_with fail
  refine (strange_any _ C x.frm d1 hd1 _ (HC.out.below (by repeat (first | exact Below.refl _ _ | apply below_al)))).mono ?_
  rintro e w1 ⟨rfl, hb1⟩
  have k0 : w1.heap[w.heap.size]? = some (.cells #[.slice pa C.parts.length pc, .slice ca C.chans.length cc, .int .i64 C.l0, .slice a0 C.w0.length c0, .int .i64 C.l1, .slice a1 C.w1.length c1] 31 (0, 0)) := blk_below (blk_al (blk_new w _) _) hb1
  have k1 : w1.heap[w.heap.size + 1]? = some (.cells #[.int .i64 x.kind, .int .i64 x.frm, .int .i64 x.to, .int .i64 x.words, .int .i64 x.depth, .int .i64 x.period, .int .u32 x.boot] 52 (0, 0)) := blk_below (blk_at (by simp) _) hb1
  have l0 := blk_lt k0
  have l1 := blk_lt k1
  have e0 : w1.cell? ⟨w.heap.size, 0, none⟩ = some (.slice pa C.parts.length pc) := (cell_blk k0 0).trans rfl
  have e1 : w1.cell? ⟨w.heap.size, 1, none⟩ = some (.slice ca C.chans.length cc) := (cell_blk k0 1).trans rfl
  have e2 : w1.cell? ⟨w.heap.size, 2, none⟩ = some (.int .i64 C.l0) := (cell_blk k0 2).trans rfl
  have e3 : w1.cell? ⟨w.heap.size, 3, none⟩ = some (.slice a0 C.w0.length c0) := (cell_blk k0 3).trans rfl
  have e4 : w1.cell? ⟨w.heap.size, 4, none⟩ = some (.int .i64 C.l1) := (cell_blk k0 4).trans rfl
  have e5 : w1.cell? ⟨w.heap.size, 5, none⟩ = some (.slice a1 C.w1.length c1) := (cell_blk k0 5).trans rfl
  have e6 : w1.cell? ⟨w.heap.size + 1, 2, none⟩ = some (.int .i64 x.to) := (cell_blk k1 2).trans rfl
  have HB1 : Kp (Below w.heap.size w w1) := ⟨below_call (by repeat (first | exact Below.refl _ _ | apply below_al)) hb1⟩
  clear hb1 k0 k1
  cases d1 with
  | true =>
    go_wp2
    go_ret
    exact ⟨rfl, HB1.out⟩
  | false =>
    go_wp2_with fail
    refine (strange_any _ C x.to _ rfl _ (HC.out.below HB1.out)).mono ?_
    rintro e w2 ⟨rfl, hb2⟩
    go_wp2
    go_ret
    exact ⟨rfl, below_call HB1.out hb2⟩

set_option maxHeartbeats 1000000 in
theorem rule7_any (cv : Value) (C : Cfg) (x : Chn) (w : World) (h : CfgAt w cv C) : Calls Tryz.prog 130 #[cv, .agg #[.int .i64 x.kind, .int .i64 x.frm, .int .i64 x.to, .int .i64 x.words, .int .i64 x.depth, .int .i64 x.period, .int .u32 x.boot]] w fun e w' => e = .returned (.bool (x.frm == x.to)) ∧ Below w.heap.size w w' := by
  obtain ⟨ho, pa, pc, ca, cc, a0, c0, a1, c1, rfl, bp, bc, b0, b1, hp, hc, hw0, hw1⟩ := h
  go_enter Tryz.func130, Tryz.ntmps130
  go_wp2
  all_goals
    go_ret
    exact ⟨ret_bool (by first | rfl | (simp [*]; done) | (simp_all; done)), (by repeat (first | exact Below.refl _ _ | apply below_al))⟩

set_option maxHeartbeats 1000000 in
theorem rule8_any (cv : Value) (C : Cfg) (x : Chn) (w : World) (h : CfgAt w cv C) : Calls Tryz.prog 131 #[cv, .agg #[.int .i64 x.kind, .int .i64 x.frm, .int .i64 x.to, .int .i64 x.words, .int .i64 x.depth, .int .i64 x.period, .int .u32 x.boot]] w fun e w' => e = .returned (.bool (!inB x.words 1 16)) ∧ Below w.heap.size w w' := by
  obtain ⟨ho, pa, pc, ca, cc, a0, c0, a1, c1, rfl, bp, bc, b0, b1, hp, hc, hw0, hw1⟩ := h
  go_enter Tryz.func131, Tryz.ntmps131
  go_wp2_with fail
  refine (within_any x.words 1 16 _ rfl _).mono ?_
  rintro e w1 ⟨rfl, hb1⟩
  go_wp2
  go_ret
  exact ⟨rfl, below_call (by repeat (first | exact Below.refl _ _ | apply below_al)) hb1⟩

set_option maxHeartbeats 1000000 in
theorem deep_any (x : Chn) (w : World) : Calls Tryz.prog 133 #[.agg #[.int .i64 x.kind, .int .i64 x.frm, .int .i64 x.to, .int .i64 x.words, .int .i64 x.depth, .int .i64 x.period, .int .u32 x.boot]] w fun e w' => e = .returned (.bool (deepB x)) ∧ Below w.heap.size w w' := by
  go_enter Tryz.func133, Tryz.ntmps133
  go_wp2
  all_goals
    go_ret
    exact ⟨ret_bool (by unfold deepB; first | (simp [*]; done) | (simp_all; done)), (by repeat (first | exact Below.refl _ _ | apply below_al))⟩

set_option maxHeartbeats 1000000 in
theorem fresh_any (x : Chn) (w : World) : Calls Tryz.prog 135 #[.agg #[.int .i64 x.kind, .int .i64 x.frm, .int .i64 x.to, .int .i64 x.words, .int .i64 x.depth, .int .i64 x.period, .int .u32 x.boot]] w fun e w' => e = .returned (.bool (freshB x)) ∧ Below w.heap.size w w' := by
  by_cases h1 : x.kind = 1
  · have h2 : (x.kind == 1) = true := by simpa using h1
    have HF : Kp (freshB x = inB x.period 0 1048576) := ⟨if_pos h1⟩
    clear h1
    go_enter Tryz.func135, Tryz.ntmps135
    go_wp2_with fail
    refine (within_any x.period 0 1048576 _ rfl _).mono ?_
    rintro e w1 ⟨rfl, hb1⟩
    go_wp2
    go_ret
    exact ⟨ret_bool HF.out.symm, below_call (by repeat (first | exact Below.refl _ _ | apply below_al)) hb1⟩
  · have h2 : (x.kind == 1) = false := by simpa using h1
    go_enter Tryz.func135, Tryz.ntmps135
    go_wp2
    all_goals
      go_ret
      exact ⟨ret_bool (by unfold freshB; first | (simp [*]; done) | (simp_all; done)), (by repeat (first | exact Below.refl _ _ | apply below_al))⟩

set_option maxHeartbeats 1000000 in
theorem rule9_any (cv : Value) (C : Cfg) (x : Chn) (w : World) (h : CfgAt w cv C) : Calls Tryz.prog 132 #[cv, .agg #[.int .i64 x.kind, .int .i64 x.frm, .int .i64 x.to, .int .i64 x.words, .int .i64 x.depth, .int .i64 x.period, .int .u32 x.boot]] w fun e w' => e = .returned (.bool (!deepB x)) ∧ Below w.heap.size w w' := by
  obtain ⟨ho, pa, pc, ca, cc, a0, c0, a1, c1, rfl, bp, bc, b0, b1, hp, hc, hw0, hw1⟩ := h
  go_enter Tryz.func132, Tryz.ntmps132
  go_wp2_with fail
  refine (deep_any x _).mono ?_
  rintro e w1 ⟨rfl, hb1⟩
  go_wp2
  go_ret
  exact ⟨rfl, below_call (by repeat (first | exact Below.refl _ _ | apply below_al)) hb1⟩

set_option maxHeartbeats 1000000 in
theorem rule10_any (cv : Value) (C : Cfg) (x : Chn) (w : World) (h : CfgAt w cv C) : Calls Tryz.prog 134 #[cv, .agg #[.int .i64 x.kind, .int .i64 x.frm, .int .i64 x.to, .int .i64 x.words, .int .i64 x.depth, .int .i64 x.period, .int .u32 x.boot]] w fun e w' => e = .returned (.bool (!freshB x)) ∧ Below w.heap.size w w' := by
  obtain ⟨ho, pa, pc, ca, cc, a0, c0, a1, c1, rfl, bp, bc, b0, b1, hp, hc, hw0, hw1⟩ := h
  go_enter Tryz.func134, Tryz.ntmps134
  go_wp2_with fail
  refine (fresh_any x _).mono ?_
  rintro e w1 ⟨rfl, hb1⟩
  go_wp2
  go_ret
  exact ⟨rfl, below_call (by repeat (first | exact Below.refl _ _ | apply below_al)) hb1⟩

set_option maxHeartbeats 1000000 in
theorem rule11_any (cv : Value) (C : Cfg) (x : Chn) (w : World) (h : CfgAt w cv C) : Calls Tryz.prog 136 #[cv, .agg #[.int .i64 x.kind, .int .i64 x.frm, .int .i64 x.to, .int .i64 x.words, .int .i64 x.depth, .int .i64 x.period, .int .u32 x.boot]] w fun e w' => e = .returned (.bool (x.kind == 1 && x.boot != 0)) ∧ Below w.heap.size w w' := by
  obtain ⟨ho, pa, pc, ca, cc, a0, c0, a1, c1, rfl, bp, bc, b0, b1, hp, hc, hw0, hw1⟩ := h
  go_enter Tryz.func136, Tryz.ntmps136
  go_wp2
  all_goals
    go_ret
    exact ⟨ret_bool (by first | rfl | (simp [*]; done) | (simp_all; done)), (by repeat (first | exact Below.refl _ _ | apply below_al))⟩

set_option maxHeartbeats 1000000 in
theorem rule12_any (cv : Value) (C : Cfg) (core : Bool) (w : World) (h : CfgAt w cv C) : Calls Tryz.prog 138 #[cv, .int .i64 (cI core)] w fun e w' => e = .returned (.bool (!inB (C.len core) 1 64)) ∧ Below w.heap.size w w' := by
  obtain ⟨ho, pa, pc, ca, cc, a0, c0, a1, c1, rfl, bp, bc, b0, b1, hp, hc, hw0, hw1⟩ := h
  cases core
  · change Calls Tryz.prog 138 #[_, .int .i64 0] w _
    go_enter Tryz.func138, Tryz.ntmps138
    go_wp2_with fail
    refine (within_any C.l0 1 64 _ rfl _).mono ?_
    rintro e w1 ⟨rfl, hb1⟩
    go_wp2
    go_ret
    exact ⟨rfl, below_call (by repeat (first | exact Below.refl _ _ | apply below_al)) hb1⟩
  · change Calls Tryz.prog 138 #[_, .int .i64 1] w _
    go_enter Tryz.func138, Tryz.ntmps138
    go_wp2_with fail
    refine (within_any C.l1 1 64 _ rfl _).mono ?_
    rintro e w1 ⟨rfl, hb1⟩
    go_wp2
    go_ret
    exact ⟨rfl, below_call (by repeat (first | exact Below.refl _ _ | apply below_al)) hb1⟩

set_option maxHeartbeats 1000000 in
theorem rule13_any (cv : Value) (C : Cfg) (core : Bool) (w : World) (h : CfgAt w cv C) : Calls Tryz.prog 139 #[cv, .int .i64 (cI core)] w fun e w' => e = .returned (.bool (decide (16 < (C.win core).length))) ∧ Below w.heap.size w w' := by
  obtain ⟨ho, pa, pc, ca, cc, a0, c0, a1, c1, rfl, bp, bc, b0, b1, hp, hc, hw0, hw1⟩ := h
  cases core
  · change Calls Tryz.prog 139 #[_, .int .i64 0] w _
    go_enter Tryz.func139, Tryz.ntmps139
    go_wp2
    go_ret
    exact ⟨ret_bool (by change _ = decide (16 < C.w0.length); rw [decide_eq_decide]; omega), (by repeat (first | exact Below.refl _ _ | apply below_al))⟩
  · change Calls Tryz.prog 139 #[_, .int .i64 1] w _
    go_enter Tryz.func139, Tryz.ntmps139
    go_wp2
    go_ret
    exact ⟨ret_bool (by change _ = decide (16 < C.w1.length); rw [decide_eq_decide]; omega), (by repeat (first | exact Below.refl _ _ | apply below_al))⟩
end
section
open Go.RowKit
set_option linter.unusedSimpArgs false
set_option linter.unusedVariables false

set_option maxHeartbeats 1000000 in
theorem foreign_any (cv : Value) (C : Cfg) (core : Bool) (x : Win) (w : World) (h : CfgAt w cv C) : Calls Tryz.prog 141 #[cv, .int .i64 (cI core), .agg #[.int .i64 x.part, .int .i64 x.start, .int .i64 x.len]] w fun e w' => e = .returned (.bool (foreignB C core x)) ∧ Below w.heap.size w w' := by
  have HC := Kp.mk h
  obtain ⟨ho, pa, pc, ca, cc, a0, c0, a1, c1, rfl, bp, bc, b0, b1, hp, hc, hw0, hw1⟩ := h
  obtain ⟨pt, st, ln⟩ := x
  dsimp only
  have HP := Kp.mk hp
  cases hs : strangeB C pt with
  | true =>
    have HV : Kp (foreignB C core ⟨pt, st, ln⟩ = true) := ⟨by rw [foreignB, hs]; rfl⟩
    clear hp hc hw0 hw1
    go_enter Tryz.func141, Tryz.ntmps141
    go_wp2_with fail
    refine (strange_any _ C pt true hs _ (HC.out.below (by repeat (first | exact Below.refl _ _ | apply below_al)))).mono ?_
    rintro e w1 ⟨rfl, hb1⟩
    go_wp2
    go_ret
    exact ⟨ret_bool HV.out.symm, below_call (by repeat (first | exact Below.refl _ _ | apply below_al)) hb1⟩
  | false =>
    have hin : ∃ j : Nat, pt = (j : Int) ∧ j < C.parts.length := by
      simp only [strangeB, Bool.not_eq_false', inB_iff] at hs
      exact ⟨pt.toNat, by omega, by omega⟩
    obtain ⟨j, rfl, hj⟩ := hin
    have HV : Kp (foreignB C core ⟨(j : Int), st, ln⟩ = ((C.parts[j].1 != cI core))) := ⟨by rw [foreignB, hs]; simp [hj]⟩
    obtain ⟨g, o, rfl, hg, hcc⟩ := HP.out.at (by omega)
    have hcj := hcc (j * 2 + 0) (by omega)
    rw [flat_at partC 2 partC_len C.parts j 0 hj (by omega)] at hcj
    have HCJ : Kp (w.cell? ⟨g, o + j * 2, none⟩ = some (.int .i64 C.parts[j].1)) := ⟨hcj⟩
    have HCH : Kp (w.cell? ⟨g, o + j * 2 + 1, none⟩ = some (.int .i64 C.parts[j].2)) := ⟨by
      have h2 := hcc (j * 2 + 1) (by omega)
      rw [flat_at partC 2 partC_len C.parts j 1 hj (by omega)] at h2
      exact h2⟩
    have hj0 : (0 : Int) ≤ (j : Int) := by omega
    have hj1 : (j : Int) < (C.parts.length : Int) := by omega
    clear hp hc hw0 hw1 hcj hcc
    go_enter Tryz.func141, Tryz.ntmps141
    go_wp2_with fail
    refine (strange_any _ C j false hs _ (HC.out.below (by repeat (first | exact Below.refl _ _ | apply below_al)))).mono ?_
    rintro e w1 ⟨rfl, hb1⟩
    have HB1 : Kp (Below w.heap.size w w1) := ⟨below_call (by repeat (first | exact Below.refl _ _ | apply below_al)) hb1⟩
    have k0 : w1.heap[w.heap.size]? = some (.cells #[.slice (some ⟨g, o, none⟩) C.parts.length pc, .slice ca C.chans.length cc, .int .i64 C.l0, .slice a0 C.w0.length c0, .int .i64 C.l1, .slice a1 C.w1.length c1] 31 (0, 0)) := blk_below (blk_al (blk_new w _) _) hb1
    have k1 : w1.heap[w.heap.size + 1]? = some (.cells #[.int .i64 (j : Int), .int .i64 st, .int .i64 ln] 99 (0, 0)) := blk_below (blk_at (by simp) _) hb1
    have l0 := blk_lt k0
    have l1 := blk_lt k1
    have e0 : w1.cell? ⟨w.heap.size, 0, none⟩ = some (.slice (some ⟨g, o, none⟩) C.parts.length pc) := (cell_blk k0 0).trans rfl
    have e1 : w1.cell? ⟨w.heap.size + 1, 0, none⟩ = some (.int .i64 (j : Int)) := (cell_blk k1 0).trans rfl
    obtain ⟨q, hq⟩ : ∃ q, C.parts[j].1 = q := ⟨_, rfl⟩
    have e2 : w1.cell? ⟨g, o + j * 2, none⟩ = some (.int .i64 q) := (HB1.out.cell (p := ⟨g, _, none⟩) hg).trans (HCJ.out.trans (by rw [hq]))
    have HV2 : Kp (foreignB C core ⟨(j : Int), st, ln⟩ = (q != cI core)) := ⟨by rw [HV.out, hq]⟩
    clear hb1 k0 k1 hq
    go_wp2
    all_goals
      go_ret
      exact ⟨ret_bool (by have h := HV2.out; first | exact h.symm | (rw [h]; simp [*]; done) | (rw [h]; simp_all; done)), HB1.out⟩

set_option maxHeartbeats 1000000 in
theorem beyond_any (x : Win) (en : Int) (h0 : 0 ≤ x.start) (h1 : I64 en) (b : Bool) (hb : beyondB x en = b) (w : World) : Calls Tryz.prog 154 #[.agg #[.int .i64 x.part, .int .i64 x.start, .int .i64 x.len], .int .i64 en] w fun e w' => e = .returned (.bool b) ∧ Below w.heap.size w w' := by
  subst hb
  obtain ⟨pt, st, ln⟩ := x
  dsimp only at h0 ⊢
  have hle := h1.le
  by_cases h2 : en < st
  · go_enter Tryz.func154, Tryz.ntmps154
    go_wp2
    go_ret
    exact ⟨ret_bool (by simp [beyondB, h2]), (by repeat (first | exact Below.refl _ _ | apply below_al))⟩
  · have s1 : IntKind.i64.wrap (en - st) = en - st := IntWalk.i64_in _ (by omega)
    have h3 : decide (en < st) = false := decide_eq_false h2
    by_cases h4 : en - st < ln
    · go_enter Tryz.func154, Tryz.ntmps154
      go_wp2
      go_ret
      exact ⟨ret_bool (by simp [beyondB, h4]), (by repeat (first | exact Below.refl _ _ | apply below_al))⟩
    · have h5 : decide (en - st < ln) = false := decide_eq_false h4
      go_enter Tryz.func154, Tryz.ntmps154
      go_wp2
      go_ret
      exact ⟨ret_bool (by simp [beyondB, h2, h4]), (by repeat (first | exact Below.refl _ _ | apply below_al))⟩

set_option maxHeartbeats 1000000 in
theorem outside0_any (cv : Value) (C : Cfg) (x : Win) (w : World) (h : CfgAt w cv C) : Calls Tryz.prog 142 #[cv, .int .i64 0, .agg #[.int .i64 x.part, .int .i64 x.start, .int .i64 x.len]] w fun e w' => e = .returned (.bool (outsideB C false x)) ∧ Below w.heap.size w w' := by
  obtain ⟨ho, pa, pc, ca, cc, a0, c0, a1, c1, rfl, bp, bc, b0, b1, hp, hc, hw0, hw1⟩ := h
  have hlen : I64 C.l0 := by first | exact ho.2.2.1 | exact ho.2.2.2.1
  have HO : Kp (outsideB C false x = (decide (x.start < 0) || decide (x.len < 1) || beyondB x C.l0)) := ⟨rfl⟩
  clear hp hc hw0 hw1
  by_cases h1 : x.start < 0
  · have HV : Kp (outsideB C false x = true) := ⟨by rw [HO.out, decide_eq_true h1]; rfl⟩
    go_enter Tryz.func142, Tryz.ntmps142
    go_wp2_with fail
    go_quiet (fail)
    go_wp2
    go_ret
    exact ⟨ret_bool HV.out.symm, below_drN (by repeat (first | exact Below.refl _ _ | apply below_al))⟩
  · have h2 : decide (x.start < 0) = false := decide_eq_false h1
    by_cases h3 : x.len < 1
    · have HV : Kp (outsideB C false x = true) := ⟨by rw [HO.out, h2, decide_eq_true h3]; rfl⟩
      go_enter Tryz.func142, Tryz.ntmps142
      go_wp2_with fail
      go_quiet (fail)
      go_wp2
      go_ret
      exact ⟨ret_bool HV.out.symm, below_drN (by repeat (first | exact Below.refl _ _ | apply below_al))⟩
    · have h4 : decide (x.len < 1) = false := decide_eq_false h3
      have HV : Kp (outsideB C false x = beyondB x C.l0) := ⟨by rw [HO.out, h2, h4]; rfl⟩
      have h5 : 0 ≤ x.start := by omega
      obtain ⟨d, hd⟩ : ∃ d, beyondB x C.l0 = d := ⟨_, rfl⟩
      go_enter Tryz.func142, Tryz.ntmps142
      go_wp2_with fail
      have B0 : Below w.heap.size w ((w.alloc (.cells #[.slice pa C.parts.length pc, .slice ca C.chans.length cc, .int .i64 C.l0, .slice a0 C.w0.length c0, .int .i64 C.l1, .slice a1 C.w1.length c1] 31)).alloc (.cells #[.int .i64 x.part, .int .i64 x.start, .int .i64 x.len] 99)) := (by repeat (first | exact Below.refl _ _ | apply below_al))
      have HB0 := Kp.mk B0
      have k0 : ((w.alloc (.cells #[.slice pa C.parts.length pc, .slice ca C.chans.length cc, .int .i64 C.l0, .slice a0 C.w0.length c0, .int .i64 C.l1, .slice a1 C.w1.length c1] 31)).alloc (.cells #[.int .i64 x.part, .int .i64 x.start, .int .i64 x.len] 99)).heap[w.heap.size]? = some (.cells #[.slice pa C.parts.length pc, .slice ca C.chans.length cc, .int .i64 C.l0, .slice a0 C.w0.length c0, .int .i64 C.l1, .slice a1 C.w1.length c1] 31 (0, 0)) := blk_al (blk_new w _) _
      have k1 : ((w.alloc (.cells #[.slice pa C.parts.length pc, .slice ca C.chans.length cc, .int .i64 C.l0, .slice a0 C.w0.length c0, .int .i64 C.l1, .slice a1 C.w1.length c1] 31)).alloc (.cells #[.int .i64 x.part, .int .i64 x.start, .int .i64 x.len] 99)).heap[w.heap.size + 1]? = some (.cells #[.int .i64 x.part, .int .i64 x.start, .int .i64 x.len] 99 (0, 0)) := blk_at (by simp) _
      generalize ((w.alloc (.cells #[.slice pa C.parts.length pc, .slice ca C.chans.length cc, .int .i64 C.l0, .slice a0 C.w0.length c0, .int .i64 C.l1, .slice a1 C.w1.length c1] 31)).alloc (.cells #[.int .i64 x.part, .int .i64 x.start, .int .i64 x.len] 99)) = W1 at HB0 k0 k1 ⊢
      have l0 := blk_lt k0
      have l1 := blk_lt k1
      have e0 : W1.cell? ⟨w.heap.size, 2, none⟩ = some (.int .i64 C.l0) := (cell_blk k0 2).trans rfl
      have f0 : W1.cell? ⟨w.heap.size + 1, 0, none⟩ = some (.int .i64 x.part) := (cell_blk k1 0).trans rfl
      have f1 : W1.cell? ⟨w.heap.size + 1, 1, none⟩ = some (.int .i64 x.start) := (cell_blk k1 1).trans rfl
      have f2 : W1.cell? ⟨w.heap.size + 1, 2, none⟩ = some (.int .i64 x.len) := (cell_blk k1 2).trans rfl
      clear k0 k1 B0
      go_region_held3 (fun w' : World => Below W1.heap.size W1 w' ∧ w'.cell? ⟨w.heap.size, 2, none⟩ = some (.int .i64 C.l0) ∧ w'.cell? ⟨w.heap.size + 1, 0, none⟩ = some (.int .i64 x.part) ∧ w'.cell? ⟨w.heap.size + 1, 1, none⟩ = some (.int .i64 x.start) ∧ w'.cell? ⟨w.heap.size + 1, 2, none⟩ = some (.int .i64 x.len)) (first | exact ⟨below_dr (Below.refl _ _), e0, f0, f1, f2⟩ | exact hK1) (first
        | (go_at_call 154; (with_reducible refine (beyond_any x C.l0 h5 hlen d hd _).mono ?_); rintro e w2 ⟨rfl, hb⟩; have hS := ‹Below W1.heap.size W1 _ ∧ _›; have hK1 := (show Below W1.heap.size W1 w2 ∧ w2.cell? ⟨w.heap.size, 2, none⟩ = some (.int .i64 C.l0) ∧ w2.cell? ⟨w.heap.size + 1, 0, none⟩ = some (.int .i64 x.part) ∧ w2.cell? ⟨w.heap.size + 1, 1, none⟩ = some (.int .i64 x.start) ∧ w2.cell? ⟨w.heap.size + 1, 2, none⟩ = some (.int .i64 x.len) from ⟨below_call hS.1 hb, ((below_call hS.1 hb).cell (p := ⟨w.heap.size, _, none⟩) l0).trans e0, ((below_call hS.1 hb).cell (p := ⟨w.heap.size + 1, _, none⟩) l1).trans f0, ((below_call hS.1 hb).cell (p := ⟨w.heap.size + 1, _, none⟩) l1).trans f1, ((below_call hS.1 hb).cell (p := ⟨w.heap.size + 1, _, none⟩) l1).trans f2⟩)))
      have hb := And.left ‹Below W1.heap.size W1 _ ∧ _›
      go_wp2
      go_ret
      exact ⟨ret_bool (by rw [HV.out, hd]), below_call HB0.out hb⟩

set_option maxHeartbeats 1000000 in
theorem outside1_any (cv : Value) (C : Cfg) (x : Win) (w : World) (h : CfgAt w cv C) : Calls Tryz.prog 142 #[cv, .int .i64 1, .agg #[.int .i64 x.part, .int .i64 x.start, .int .i64 x.len]] w fun e w' => e = .returned (.bool (outsideB C true x)) ∧ Below w.heap.size w w' := by
  obtain ⟨ho, pa, pc, ca, cc, a0, c0, a1, c1, rfl, bp, bc, b0, b1, hp, hc, hw0, hw1⟩ := h
  have hlen : I64 C.l1 := by first | exact ho.2.2.1 | exact ho.2.2.2.1
  have HO : Kp (outsideB C true x = (decide (x.start < 0) || decide (x.len < 1) || beyondB x C.l1)) := ⟨rfl⟩
  clear hp hc hw0 hw1
  by_cases h1 : x.start < 0
  · have HV : Kp (outsideB C true x = true) := ⟨by rw [HO.out, decide_eq_true h1]; rfl⟩
    go_enter Tryz.func142, Tryz.ntmps142
    go_wp2_with fail
    go_quiet (fail)
    go_wp2
    go_ret
    exact ⟨ret_bool HV.out.symm, below_drN (by repeat (first | exact Below.refl _ _ | apply below_al))⟩
  · have h2 : decide (x.start < 0) = false := decide_eq_false h1
    by_cases h3 : x.len < 1
    · have HV : Kp (outsideB C true x = true) := ⟨by rw [HO.out, h2, decide_eq_true h3]; rfl⟩
      go_enter Tryz.func142, Tryz.ntmps142
      go_wp2_with fail
      go_quiet (fail)
      go_wp2
      go_ret
      exact ⟨ret_bool HV.out.symm, below_drN (by repeat (first | exact Below.refl _ _ | apply below_al))⟩
    · have h4 : decide (x.len < 1) = false := decide_eq_false h3
      have HV : Kp (outsideB C true x = beyondB x C.l1) := ⟨by rw [HO.out, h2, h4]; rfl⟩
      have h5 : 0 ≤ x.start := by omega
      obtain ⟨d, hd⟩ : ∃ d, beyondB x C.l1 = d := ⟨_, rfl⟩
      go_enter Tryz.func142, Tryz.ntmps142
      go_wp2_with fail
      have B0 : Below w.heap.size w ((w.alloc (.cells #[.slice pa C.parts.length pc, .slice ca C.chans.length cc, .int .i64 C.l0, .slice a0 C.w0.length c0, .int .i64 C.l1, .slice a1 C.w1.length c1] 31)).alloc (.cells #[.int .i64 x.part, .int .i64 x.start, .int .i64 x.len] 99)) := (by repeat (first | exact Below.refl _ _ | apply below_al))
      have HB0 := Kp.mk B0
      have k0 : ((w.alloc (.cells #[.slice pa C.parts.length pc, .slice ca C.chans.length cc, .int .i64 C.l0, .slice a0 C.w0.length c0, .int .i64 C.l1, .slice a1 C.w1.length c1] 31)).alloc (.cells #[.int .i64 x.part, .int .i64 x.start, .int .i64 x.len] 99)).heap[w.heap.size]? = some (.cells #[.slice pa C.parts.length pc, .slice ca C.chans.length cc, .int .i64 C.l0, .slice a0 C.w0.length c0, .int .i64 C.l1, .slice a1 C.w1.length c1] 31 (0, 0)) := blk_al (blk_new w _) _
      have k1 : ((w.alloc (.cells #[.slice pa C.parts.length pc, .slice ca C.chans.length cc, .int .i64 C.l0, .slice a0 C.w0.length c0, .int .i64 C.l1, .slice a1 C.w1.length c1] 31)).alloc (.cells #[.int .i64 x.part, .int .i64 x.start, .int .i64 x.len] 99)).heap[w.heap.size + 1]? = some (.cells #[.int .i64 x.part, .int .i64 x.start, .int .i64 x.len] 99 (0, 0)) := blk_at (by simp) _
      generalize ((w.alloc (.cells #[.slice pa C.parts.length pc, .slice ca C.chans.length cc, .int .i64 C.l0, .slice a0 C.w0.length c0, .int .i64 C.l1, .slice a1 C.w1.length c1] 31)).alloc (.cells #[.int .i64 x.part, .int .i64 x.start, .int .i64 x.len] 99)) = W1 at HB0 k0 k1 ⊢
      have l0 := blk_lt k0
      have l1 := blk_lt k1
      have e0 : W1.cell? ⟨w.heap.size, 4, none⟩ = some (.int .i64 C.l1) := (cell_blk k0 4).trans rfl
      have f0 : W1.cell? ⟨w.heap.size + 1, 0, none⟩ = some (.int .i64 x.part) := (cell_blk k1 0).trans rfl
      have f1 : W1.cell? ⟨w.heap.size + 1, 1, none⟩ = some (.int .i64 x.start) := (cell_blk k1 1).trans rfl
      have f2 : W1.cell? ⟨w.heap.size + 1, 2, none⟩ = some (.int .i64 x.len) := (cell_blk k1 2).trans rfl
      clear k0 k1 B0
      go_region_held3 (fun w' : World => Below W1.heap.size W1 w' ∧ w'.cell? ⟨w.heap.size, 4, none⟩ = some (.int .i64 C.l1) ∧ w'.cell? ⟨w.heap.size + 1, 0, none⟩ = some (.int .i64 x.part) ∧ w'.cell? ⟨w.heap.size + 1, 1, none⟩ = some (.int .i64 x.start) ∧ w'.cell? ⟨w.heap.size + 1, 2, none⟩ = some (.int .i64 x.len)) (first | exact ⟨below_dr (Below.refl _ _), e0, f0, f1, f2⟩ | exact hK1) (first
        | (go_at_call 154; (with_reducible refine (beyond_any x C.l1 h5 hlen d hd _).mono ?_); rintro e w2 ⟨rfl, hb⟩; have hS := ‹Below W1.heap.size W1 _ ∧ _›; have hK1 := (show Below W1.heap.size W1 w2 ∧ w2.cell? ⟨w.heap.size, 4, none⟩ = some (.int .i64 C.l1) ∧ w2.cell? ⟨w.heap.size + 1, 0, none⟩ = some (.int .i64 x.part) ∧ w2.cell? ⟨w.heap.size + 1, 1, none⟩ = some (.int .i64 x.start) ∧ w2.cell? ⟨w.heap.size + 1, 2, none⟩ = some (.int .i64 x.len) from ⟨below_call hS.1 hb, ((below_call hS.1 hb).cell (p := ⟨w.heap.size, _, none⟩) l0).trans e0, ((below_call hS.1 hb).cell (p := ⟨w.heap.size + 1, _, none⟩) l1).trans f0, ((below_call hS.1 hb).cell (p := ⟨w.heap.size + 1, _, none⟩) l1).trans f1, ((below_call hS.1 hb).cell (p := ⟨w.heap.size + 1, _, none⟩) l1).trans f2⟩)))
      have hb := And.left ‹Below W1.heap.size W1 _ ∧ _›
      go_wp2
      go_ret
      exact ⟨ret_bool (by rw [HV.out, hd]), below_call HB0.out hb⟩
end
section
open Go.RowKit
set_option linter.unusedSimpArgs false
set_option linter.unusedVariables false

def wordB (n : Int) : Bool := inB n 0 4294967295
set_option maxRecDepth 100000 in
set_option maxHeartbeats 1000000 in
theorem small_any (v : Value) (l : List Int) (b : Bool) (hb : l.all wordB = b) (hl : l.length ≤ 5000) (w : World) (h : RowAt w 1 v l.length (l.map (Value.int .i64))) : Calls Tryz.prog 155 #[v] w fun e w' => e = .returned (.bool b) ∧ Below w.heap.size w w' := by
  subst hb
  obtain ⟨a, ca, rfl, h3, h4⟩ := h.shape
  have H1 := Kp.mk h
  clear h
  go_enter Tryz.func155, Tryz.ntmps155
  go_wp2_with fail
  go_loopw [7] (fun i wr => ∃ k : Nat, k ≤ l.length ∧ i = .int .i64 k ∧ Kp (Below w.heap.size w wr) ∧ Kp ((l.take k).all wordB = true)) (fun i wr => l.length - (intOf i).toNat)
  case atStart => exact ⟨0, Nat.zero_le _, rfl, ⟨Below.refl _ _⟩, ⟨rfl⟩⟩
  case round =>
    obtain ⟨k, hk, rfl, HB, HN⟩ := hrel
    by_cases hlt : k < l.length
    · obtain ⟨g, o, rfl, hg, hc⟩ := H1.out.at (by omega)
      obtain ⟨x, hx⟩ : ∃ x, l[k] = x := ⟨_, rfl⟩
      have c0 : wr.cell? ⟨g, o + k, none⟩ = some (.int .i64 x) := (HB.out.cell (p := ⟨g, o + k, none⟩) hg).trans ((hc k (by omega)).trans (by simp [hlt, hx]))
      have HA : Kp ((l.take (k + 1)).all wordB = ((l.take k).all wordB && wordB x)) := ⟨by rw [List.take_succ_eq_append_getElem hlt, List.all_append, hx]; simp⟩
      have HX : Kp (x ∈ l) := ⟨hx ▸ List.getElem_mem hlt⟩
      clear hc hx
      cases hp : wordB x with
      | true =>
        go_wp2_with fail
        refine (within_any x 0 4294967295 true hp _).mono ?_
        rintro e w1 ⟨rfl, hb1⟩
        have HB1 := Kp.mk (below_call HB.out hb1)
        have HN1 : Kp ((l.take (k + 1)).all wordB = true) := ⟨by rw [HA.out, HN.out, hp]; rfl⟩
        clear hb1
        go_wp2
        go_roundw
        case rel => exact ⟨k + 1, by omega, by go_num, HB1, HN1⟩
        case measure => simp [intOf]; omega
      | false =>
        go_wp2_with fail
        refine (within_any x 0 4294967295 false hp _).mono ?_
        rintro e w1 ⟨rfl, hb1⟩
        have HB1 := Kp.mk (below_call HB.out hb1)
        clear hb1
        go_wp2
        go_ret
        exact ⟨ret_bool (by
          rw [eq_comm, ← Bool.not_eq_true]
          intro h
          have := List.all_eq_true.1 h x HX.out
          rw [hp] at this
          exact Bool.noConfusion this), HB1.out⟩
    · obtain rfl : k = l.length := by omega
      have HN' := HN.out
      rw [List.take_length] at HN'
      have HN2 := Kp.mk HN'
      clear HN'
      go_wp2
      go_ret
      exact ⟨ret_bool HN2.out.symm, HB.out⟩

/-- A window starts ahead of where the one ahead of it ends. -/
def pairB (a b : Win) : Bool := wordB a.start && wordB a.len && wordB b.start && decide (b.start < a.start + a.len)
def crossK (l : List Win) (k : Nat) : Bool := (List.range k).any fun i => decide (0 < i) && pairB (l.getD (i - 1) default) (l.getD i default)
def crossB (l : List Win) : Bool := crossK l l.length
theorem crossK_succ (l : List Win) (k : Nat) : crossK l (k + 1) = (crossK l k || (decide (0 < k) && pairB (l.getD (k - 1) default) (l.getD k default))) := by
  rw [crossK, List.range_succ, List.any_append]; simp [crossK]
theorem crossK_one (l : List Win) : crossK l 1 = false := by simp [crossK]
theorem crossK_mono {l : List Win} {k : Nat} (h : crossK l k = true) (n : Nat) (hn : k ≤ n) : crossK l n = true := by
  simp only [crossK, List.any_eq_true, List.mem_range] at h ⊢
  obtain ⟨i, hi, hp⟩ := h
  exact ⟨i, by omega, hp⟩
theorem small3 (a b c : Int) : [a, b, c].all wordB = (wordB a && wordB b && wordB c) := by simp [Bool.and_assoc]
/-- A row of three numbers, newly made. -/
theorem row_new3 (w : World) (a b c : Int) : RowAt (w.alloc (.cells #[.int .i64 a, .int .i64 b, .int .i64 c] 3)) 1 (.slice (some ⟨w.heap.size, 0, none⟩) 3 3) [a, b, c].length ([a, b, c].map (Value.int .i64)) := by
  refine ⟨rfl, .inr ⟨w.heap.size, 0, 3, rfl, Nat.le_refl _, by decide, by simp, fun j hj => ?_⟩⟩
  rw [cell_blk (blk_new w _)]
  simp

set_option maxRecDepth 100000 in
set_option maxHeartbeats 4000000 in
theorem crossed0_any (cv : Value) (C : Cfg) (hw : C.w0.length ≤ 200) (w : World) (h : CfgAt w cv C) : Calls Tryz.prog 143 #[cv, .int .i64 0] w fun e w' => e = .returned (.bool (crossB C.w0)) ∧ Below w.heap.size w w' := by
  obtain ⟨ho, pa, pc, ca, cc, a0, c0, a1, c1, rfl, bp, bc, b0, b1, hp, hc, hw0, hw1⟩ := h
  have H1 := Kp.mk hw0
  clear hp hc hw0 hw1
  obtain ⟨l, hl⟩ : ∃ l, C.w0 = l := ⟨_, rfl⟩
  rw [hl] at H1 hw ⊢
  go_enter Tryz.func143, Tryz.ntmps143
  go_wp2_with fail
  try rw [hl]
  go_loopw [6] (fun i wr => ∃ k : Nat, 1 ≤ k ∧ (k ≤ l.length ∨ k = 1) ∧ i = .int .i64 k ∧ Kp (Below w.heap.size w wr) ∧ Kp (crossK l k = false)) (fun i wr => l.length - (intOf i).toNat)
  case atStart => exact ⟨1, Nat.le_refl _, .inr rfl, rfl, ⟨below_al (Below.refl _ _) _⟩, ⟨crossK_one l⟩⟩
  case round =>
    obtain ⟨k, hk1, hk, rfl, HB, HN⟩ := hrel
    by_cases hlt : k < l.length
    · obtain ⟨g, o, rfl, hg, hcc⟩ := H1.out.at (by omega)
      obtain ⟨m, hm⟩ : ∃ m, k = m + 1 := ⟨k - 1, by omega⟩
      have hml : m < l.length := by omega
      obtain ⟨u, hu⟩ : ∃ u, l[m] = u := ⟨_, rfl⟩
      obtain ⟨z, hz⟩ : ∃ z, l[k] = z := ⟨_, rfl⟩
      have hcu : ∀ j, j < 3 → wr.cell? ⟨g, o + m * 3 + j, none⟩ = (winC u)[j]? := fun j hj => by
        have h1 := hcc (m * 3 + j) (by omega)
        rw [flat_at winC 3 winC_len l m j hml hj, hu] at h1
        rw [Nat.add_assoc]
        exact (HB.out.cell (p := ⟨g, o + (m * 3 + j), none⟩) hg).trans h1
      have hcz : ∀ j, j < 3 → wr.cell? ⟨g, o + k * 3 + j, none⟩ = (winC z)[j]? := fun j hj => by
        have h1 := hcc (k * 3 + j) (by omega)
        rw [flat_at winC 3 winC_len l k j (by omega) hj, hz] at h1
        rw [Nat.add_assoc]
        exact (HB.out.cell (p := ⟨g, o + (k * 3 + j), none⟩) hg).trans h1
      have e0 : wr.cell? ⟨g, o + m * 3, none⟩ = some (.int .i64 u.part) := hcu 0 (by omega)
      have e1 : wr.cell? ⟨g, o + m * 3 + 1, none⟩ = some (.int .i64 u.start) := hcu 1 (by omega)
      have e2 : wr.cell? ⟨g, o + m * 3 + 2, none⟩ = some (.int .i64 u.len) := hcu 2 (by omega)
      have e3 : wr.cell? ⟨g, o + k * 3 + 1, none⟩ = some (.int .i64 z.start) := hcz 1 (by omega)
      have HS : Kp (crossK l (k + 1) = (crossK l k || pairB u z)) := ⟨by
        have h1 : k - 1 = m := by omega
        rw [crossK_succ, decide_eq_true (by omega), Bool.true_and, List.getD_eq_getElem?_getD, List.getD_eq_getElem?_getD, List.getElem?_eq_getElem hlt, h1, List.getElem?_eq_getElem hml, Option.getD_some, Option.getD_some, hu, hz]⟩
      have hgw : g < wr.heap.size := Nat.lt_of_lt_of_le hg HB.out.size
      have s1 : (k : Int) - 1 = (m : Int) := by omega
      have s2 : IntKind.i64.wrap ((k : Int) - 1) = (m : Int) := by rw [s1]; exact IntWalk.i64_in _ (by omega)
      have s4 : (0 : Int) ≤ (m : Int) := by omega
      have s5 : (m : Int) < (l.length : Int) := by omega
      have s8 : IntKind.i64.wrap (m : Int) = (m : Int) := IntWalk.i64_in _ (by omega)
      clear hm s1
      have s6 : (0 : Int) ≤ (k : Int) := by omega
      have s7 : (k : Int) < (l.length : Int) := by omega
      clear hcu hcz hcc hu hz
      go_wp2_with fail
      go_region_held3 (fun w' : World => Below (wr).heap.size (wr) w' ∧ ∀ b o, b < (wr).heap.size → w'.cell? ⟨b, o, none⟩ = (wr).cell? ⟨b, o, none⟩) (first | exact old_drew _ | (refine old_of ?_; repeat (first | exact Below.refl _ _ | apply below_dr | apply below_al)) | exact old_call (by assumption) hb) (fail)
      have hb := And.left ‹Below wr.heap.size wr _ ∧ _›
      have hb2 : Below w.heap.size w (wr.alloc (.cells #[.int .i64 u.part, .int .i64 u.start, .int .i64 u.len] 99)).drew := below_dr (below_al HB.out _)
      have k1 : (wr.alloc (.cells #[.int .i64 u.part, .int .i64 u.start, .int .i64 u.len] 99)).drew.heap[wr.heap.size]? = some (.cells #[.int .i64 u.part, .int .i64 u.start, .int .i64 u.len] 99 (0, 0)) := blk_new wr _
      have HB1 := Kp.mk hb2
      have K1 := Kp.mk k1
      clear hb hb2 k1 e0 e1 e2 e3
      generalize (wr.alloc (.cells #[.int .i64 u.part, .int .i64 u.start, .int .i64 u.len] 99)).drew = W1 at HB1 K1 ⊢
      generalize wr.heap.size = B at K1 hgw ⊢
      have f1 : W1.cell? ⟨B, 1, none⟩ = some (.int .i64 u.start) := (cell_blk K1.out 1).trans rfl
      have f2 : W1.cell? ⟨B, 2, none⟩ = some (.int .i64 u.len) := (cell_blk K1.out 2).trans rfl
      have l1 := blk_lt K1.out
      obtain ⟨d, hd⟩ : ∃ d, [u.start, u.len, z.start].all wordB = d := ⟨_, rfl⟩
      have HD := Kp.mk hd
      clear hd
      go_wp2_with fail
      refine (small_any _ [u.start, u.len, z.start] d HD.out (by simp) _ (row_new3 _ _ _ _)).mono ?_
      rintro e w2 ⟨rfl, hb2⟩
      have HB2 := Kp.mk (below_call (below_al HB1.out _) hb2)
      have K2 : Kp (w2.heap[B]? = some (.cells #[.int .i64 u.part, .int .i64 u.start, .int .i64 u.len] 99 (0, 0))) := ⟨blk_below (blk_al K1.out _) hb2⟩
      have f3 : w2.cell? ⟨B, 1, none⟩ = some (.int .i64 u.start) := (cell_blk K2.out 1).trans rfl
      have f4 : w2.cell? ⟨B, 2, none⟩ = some (.int .i64 u.len) := (cell_blk K2.out 2).trans rfl
      have l2 := blk_lt K2.out
      clear hb2 f1 f2 l1
      cases d with
      | false =>
        have HP : Kp (pairB u z = false) := ⟨by
          have h := HD.out
          rw [small3] at h
          rw [pairB, h]; rfl⟩
        have HN1 : Kp (crossK l (k + 1) = false) := ⟨by rw [HS.out, HN.out, HP.out]; rfl⟩
        go_wp2
        go_roundw
        case rel => exact ⟨k + 1, by omega, by omega, by go_num, HB2, HN1⟩
        case measure => simp [intOf]; omega
      | true =>
        have hws : wordB u.start = true ∧ wordB u.len = true := by
          have h := HD.out
          rw [small3] at h
          simp only [Bool.and_eq_true] at h
          exact h.1
        have r1 := inB_iff.1 hws.1
        have r2 := inB_iff.1 hws.2
        have HP : Kp (pairB u z = decide (z.start < u.start + u.len)) := ⟨by
          have h := HD.out
          rw [small3] at h
          rw [pairB, h]; rfl⟩
        have t1 : IntKind.i64.wrap (u.start + u.len) = u.start + u.len := IntWalk.i64_in _ (by omega)
        clear hws r1 r2
        by_cases hz : z.start < u.start + u.len
        · have HT : Kp (crossB l = true) := ⟨crossK_mono (k := k + 1) (by rw [HS.out, HP.out, decide_eq_true hz]; simp) _ (by omega)⟩
          go_wp2
          go_ret
          exact ⟨ret_bool HT.out.symm, HB2.out⟩
        · have hz2 : decide (z.start < u.start + u.len) = false := decide_eq_false hz
          have HN1 : Kp (crossK l (k + 1) = false) := ⟨by rw [HS.out, HN.out, HP.out, hz2]; rfl⟩
          go_wp2
          go_roundw
          case rel => exact ⟨k + 1, by omega, by omega, by go_num, HB2, HN1⟩
          case measure => simp [intOf]; omega
    · have HF : Kp (crossB l = false) := ⟨by
        rcases hk with hk | hk
        · obtain rfl : k = l.length := by omega
          exact HN.out
        · subst hk
          rw [← Bool.not_eq_true]
          intro h
          rw [crossK_mono h 1 (by omega)] at HN
          exact Bool.noConfusion HN.out⟩
      have hge : ¬ ((k : Int) < (l.length : Int)) := by omega
      go_wp2
      go_ret
      exact ⟨ret_bool HF.out.symm, HB.out⟩

set_option maxRecDepth 100000 in
set_option maxHeartbeats 4000000 in
theorem crossed1_any (cv : Value) (C : Cfg) (hw : C.w1.length ≤ 200) (w : World) (h : CfgAt w cv C) : Calls Tryz.prog 143 #[cv, .int .i64 1] w fun e w' => e = .returned (.bool (crossB C.w1)) ∧ Below w.heap.size w w' := by
  obtain ⟨ho, pa, pc, ca, cc, a0, c0, a1, c1, rfl, bp, bc, b0, b1, hp, hc, hw0, hw1⟩ := h
  have H1 := Kp.mk hw1
  clear hp hc hw0 hw1
  obtain ⟨l, hl⟩ : ∃ l, C.w1 = l := ⟨_, rfl⟩
  rw [hl] at H1 hw ⊢
  go_enter Tryz.func143, Tryz.ntmps143
  go_wp2_with fail
  try rw [hl]
  go_loopw [6] (fun i wr => ∃ k : Nat, 1 ≤ k ∧ (k ≤ l.length ∨ k = 1) ∧ i = .int .i64 k ∧ Kp (Below w.heap.size w wr) ∧ Kp (crossK l k = false)) (fun i wr => l.length - (intOf i).toNat)
  case atStart => exact ⟨1, Nat.le_refl _, .inr rfl, rfl, ⟨below_al (Below.refl _ _) _⟩, ⟨crossK_one l⟩⟩
  case round =>
    obtain ⟨k, hk1, hk, rfl, HB, HN⟩ := hrel
    by_cases hlt : k < l.length
    · obtain ⟨g, o, rfl, hg, hcc⟩ := H1.out.at (by omega)
      obtain ⟨m, hm⟩ : ∃ m, k = m + 1 := ⟨k - 1, by omega⟩
      have hml : m < l.length := by omega
      obtain ⟨u, hu⟩ : ∃ u, l[m] = u := ⟨_, rfl⟩
      obtain ⟨z, hz⟩ : ∃ z, l[k] = z := ⟨_, rfl⟩
      have hcu : ∀ j, j < 3 → wr.cell? ⟨g, o + m * 3 + j, none⟩ = (winC u)[j]? := fun j hj => by
        have h1 := hcc (m * 3 + j) (by omega)
        rw [flat_at winC 3 winC_len l m j hml hj, hu] at h1
        rw [Nat.add_assoc]
        exact (HB.out.cell (p := ⟨g, o + (m * 3 + j), none⟩) hg).trans h1
      have hcz : ∀ j, j < 3 → wr.cell? ⟨g, o + k * 3 + j, none⟩ = (winC z)[j]? := fun j hj => by
        have h1 := hcc (k * 3 + j) (by omega)
        rw [flat_at winC 3 winC_len l k j (by omega) hj, hz] at h1
        rw [Nat.add_assoc]
        exact (HB.out.cell (p := ⟨g, o + (k * 3 + j), none⟩) hg).trans h1
      have e0 : wr.cell? ⟨g, o + m * 3, none⟩ = some (.int .i64 u.part) := hcu 0 (by omega)
      have e1 : wr.cell? ⟨g, o + m * 3 + 1, none⟩ = some (.int .i64 u.start) := hcu 1 (by omega)
      have e2 : wr.cell? ⟨g, o + m * 3 + 2, none⟩ = some (.int .i64 u.len) := hcu 2 (by omega)
      have e3 : wr.cell? ⟨g, o + k * 3 + 1, none⟩ = some (.int .i64 z.start) := hcz 1 (by omega)
      have HS : Kp (crossK l (k + 1) = (crossK l k || pairB u z)) := ⟨by
        have h1 : k - 1 = m := by omega
        rw [crossK_succ, decide_eq_true (by omega), Bool.true_and, List.getD_eq_getElem?_getD, List.getD_eq_getElem?_getD, List.getElem?_eq_getElem hlt, h1, List.getElem?_eq_getElem hml, Option.getD_some, Option.getD_some, hu, hz]⟩
      have hgw : g < wr.heap.size := Nat.lt_of_lt_of_le hg HB.out.size
      have s1 : (k : Int) - 1 = (m : Int) := by omega
      have s2 : IntKind.i64.wrap ((k : Int) - 1) = (m : Int) := by rw [s1]; exact IntWalk.i64_in _ (by omega)
      have s4 : (0 : Int) ≤ (m : Int) := by omega
      have s5 : (m : Int) < (l.length : Int) := by omega
      have s8 : IntKind.i64.wrap (m : Int) = (m : Int) := IntWalk.i64_in _ (by omega)
      clear hm s1
      have s6 : (0 : Int) ≤ (k : Int) := by omega
      have s7 : (k : Int) < (l.length : Int) := by omega
      clear hcu hcz hcc hu hz
      go_wp2_with fail
      go_region_held3 (fun w' : World => Below (wr).heap.size (wr) w' ∧ ∀ b o, b < (wr).heap.size → w'.cell? ⟨b, o, none⟩ = (wr).cell? ⟨b, o, none⟩) (first | exact old_drew _ | (refine old_of ?_; repeat (first | exact Below.refl _ _ | apply below_dr | apply below_al)) | exact old_call (by assumption) hb) (fail)
      have hb := And.left ‹Below wr.heap.size wr _ ∧ _›
      have hb2 : Below w.heap.size w (wr.alloc (.cells #[.int .i64 u.part, .int .i64 u.start, .int .i64 u.len] 99)).drew := below_dr (below_al HB.out _)
      have k1 : (wr.alloc (.cells #[.int .i64 u.part, .int .i64 u.start, .int .i64 u.len] 99)).drew.heap[wr.heap.size]? = some (.cells #[.int .i64 u.part, .int .i64 u.start, .int .i64 u.len] 99 (0, 0)) := blk_new wr _
      have HB1 := Kp.mk hb2
      have K1 := Kp.mk k1
      clear hb hb2 k1 e0 e1 e2 e3
      generalize (wr.alloc (.cells #[.int .i64 u.part, .int .i64 u.start, .int .i64 u.len] 99)).drew = W1 at HB1 K1 ⊢
      generalize wr.heap.size = B at K1 hgw ⊢
      have f1 : W1.cell? ⟨B, 1, none⟩ = some (.int .i64 u.start) := (cell_blk K1.out 1).trans rfl
      have f2 : W1.cell? ⟨B, 2, none⟩ = some (.int .i64 u.len) := (cell_blk K1.out 2).trans rfl
      have l1 := blk_lt K1.out
      obtain ⟨d, hd⟩ : ∃ d, [u.start, u.len, z.start].all wordB = d := ⟨_, rfl⟩
      have HD := Kp.mk hd
      clear hd
      go_wp2_with fail
      refine (small_any _ [u.start, u.len, z.start] d HD.out (by simp) _ (row_new3 _ _ _ _)).mono ?_
      rintro e w2 ⟨rfl, hb2⟩
      have HB2 := Kp.mk (below_call (below_al HB1.out _) hb2)
      have K2 : Kp (w2.heap[B]? = some (.cells #[.int .i64 u.part, .int .i64 u.start, .int .i64 u.len] 99 (0, 0))) := ⟨blk_below (blk_al K1.out _) hb2⟩
      have f3 : w2.cell? ⟨B, 1, none⟩ = some (.int .i64 u.start) := (cell_blk K2.out 1).trans rfl
      have f4 : w2.cell? ⟨B, 2, none⟩ = some (.int .i64 u.len) := (cell_blk K2.out 2).trans rfl
      have l2 := blk_lt K2.out
      clear hb2 f1 f2 l1
      cases d with
      | false =>
        have HP : Kp (pairB u z = false) := ⟨by
          have h := HD.out
          rw [small3] at h
          rw [pairB, h]; rfl⟩
        have HN1 : Kp (crossK l (k + 1) = false) := ⟨by rw [HS.out, HN.out, HP.out]; rfl⟩
        go_wp2
        go_roundw
        case rel => exact ⟨k + 1, by omega, by omega, by go_num, HB2, HN1⟩
        case measure => simp [intOf]; omega
      | true =>
        have hws : wordB u.start = true ∧ wordB u.len = true := by
          have h := HD.out
          rw [small3] at h
          simp only [Bool.and_eq_true] at h
          exact h.1
        have r1 := inB_iff.1 hws.1
        have r2 := inB_iff.1 hws.2
        have HP : Kp (pairB u z = decide (z.start < u.start + u.len)) := ⟨by
          have h := HD.out
          rw [small3] at h
          rw [pairB, h]; rfl⟩
        have t1 : IntKind.i64.wrap (u.start + u.len) = u.start + u.len := IntWalk.i64_in _ (by omega)
        clear hws r1 r2
        by_cases hz : z.start < u.start + u.len
        · have HT : Kp (crossB l = true) := ⟨crossK_mono (k := k + 1) (by rw [HS.out, HP.out, decide_eq_true hz]; simp) _ (by omega)⟩
          go_wp2
          go_ret
          exact ⟨ret_bool HT.out.symm, HB2.out⟩
        · have hz2 : decide (z.start < u.start + u.len) = false := decide_eq_false hz
          have HN1 : Kp (crossK l (k + 1) = false) := ⟨by rw [HS.out, HN.out, HP.out, hz2]; rfl⟩
          go_wp2
          go_roundw
          case rel => exact ⟨k + 1, by omega, by omega, by go_num, HB2, HN1⟩
          case measure => simp [intOf]; omega
    · have HF : Kp (crossB l = false) := ⟨by
        rcases hk with hk | hk
        · obtain rfl : k = l.length := by omega
          exact HN.out
        · subst hk
          rw [← Bool.not_eq_true]
          intro h
          rw [crossK_mono h 1 (by omega)] at HN
          exact Bool.noConfusion HN.out⟩
      have hge : ¬ ((k : Int) < (l.length : Int)) := by omega
      go_wp2
      go_ret
      exact ⟨ret_bool HF.out.symm, HB.out⟩

set_option maxHeartbeats 1000000 in
theorem idle1_any (x : Win) (b : Nat) (p : Int) (w : World) (h : w.cell? ⟨b, 0, none⟩ = some (.int .i64 p)) (hlt : b < w.heap.size) : Calls Tryz.prog 156 #[.agg #[.int .i64 x.part, .int .i64 x.start, .int .i64 x.len], .pointer (some ⟨b, 0, none⟩)] w fun e w' => e = .returned (.bool (x.part == p)) ∧ Below w.heap.size w w' := by
  go_enter Tryz.func156, Tryz.ntmps156
  go_wp2
  go_ret
  exact ⟨rfl, (by repeat (first | exact Below.refl _ _ | apply below_al))⟩
end
end Go.Proofs.YtmidcnfmphlneaaGreat

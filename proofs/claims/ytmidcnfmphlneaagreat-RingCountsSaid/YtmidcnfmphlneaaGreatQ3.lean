/- Contracts of package defect: the list of rules; Holds.; Small lemmas on what a round of a loop over an iterator keeps. Nothing of the program.; What a round keeps for an iterator with boxes of several types of its own. Nothing of the program.; Contracts of package defect: the iterator All, and All itself.; A slice in a block of its own, at any offset; append to it, and its tail: nothing of the program.; What defects are told, as far as so many; the law's example; 'the same numbers?'.; Contracts of package defect: First, Accepts; the law's example; what is too great.; The contract of defect.Holds. -/
import Derived.Test.YtmidcnfmphlneaaGreatQ2
import Derived.Test.YtmidcnfmphlneaaGreatQ0
import Derived.RangeFuncNested
import Derived.RangeFuncBound
import Derived.RangeFuncCalls
import Derived.RangeFuncLeaves
import Derived.Shelf.Abstract
import Derived.Shelf.RegionOpen
import Derived.WalkKit
import Derived.OwnWalkIn
import Derived.TacticsInMore
import Derived.LoopNIn
import Derived.LoopIn
import Derived.Stop.RegionWithIn
import Derived.ArgAppend
namespace Go.Proofs.YtmidcnfmphlneaaGreat
section
open Go.RowKit
set_option linter.unusedSimpArgs false
set_option linter.unusedVariables false

def ruleB : Nat → Cfg → Bool
  | 1, C => !inB C.parts.length 1 6
  | 2, C => C.parts.any fun x => !inB x.1 0 1
  | 3, C => C.parts.any fun x => !inB x.2 0 64
  | 4, C => decide (8 < C.chans.length)
  | 5, C => C.chans.any fun x => x.kind != 1 && x.kind != 2
  | 6, C => C.chans.any fun x => strangeB C x.frm || strangeB C x.to
  | 7, C => C.chans.any fun x => x.frm == x.to
  | 8, C => C.chans.any fun x => !inB x.words 1 16
  | 9, C => C.chans.any fun x => !deepB x
  | 10, C => C.chans.any fun x => !freshB x
  | 11, C => C.chans.any fun x => x.kind == 1 && x.boot != 0
  | 12, C => !inB C.l0 1 64 || !inB C.l1 1 64
  | 13, C => decide (16 < C.w0.length) || decide (16 < C.w1.length)
  | 14, C => C.w0.any (foreignB C false) || C.w1.any (foreignB C true)
  | 15, C => C.w0.any (outsideB C false) || C.w1.any (outsideB C true)
  | 16, C => crossB C.w0 || crossB C.w1
  | 17, C => idleK C C.parts.length
  | _, _ => false
theorem entersR1 : Enters 120 := enters_at Tryz.func120 (by kernel_rfl) rfl
theorem entersR2 : Enters 123 := enters_at Tryz.func123 (by kernel_rfl) rfl
theorem entersR3 : Enters 124 := enters_at Tryz.func124 (by kernel_rfl) rfl
theorem entersR4 : Enters 125 := enters_at Tryz.func125 (by kernel_rfl) rfl
theorem entersR5 : Enters 127 := enters_at Tryz.func127 (by kernel_rfl) rfl
theorem entersR6 : Enters 128 := enters_at Tryz.func128 (by kernel_rfl) rfl
theorem entersR7 : Enters 130 := enters_at Tryz.func130 (by kernel_rfl) rfl
theorem entersR8 : Enters 131 := enters_at Tryz.func131 (by kernel_rfl) rfl
theorem entersR9 : Enters 132 := enters_at Tryz.func132 (by kernel_rfl) rfl
theorem entersR10 : Enters 134 := enters_at Tryz.func134 (by kernel_rfl) rfl
theorem entersR11 : Enters 136 := enters_at Tryz.func136 (by kernel_rfl) rfl
theorem entersR12 : Enters 138 := enters_at Tryz.func138 (by kernel_rfl) rfl
theorem entersR13 : Enters 139 := enters_at Tryz.func139 (by kernel_rfl) rfl
theorem entersForeign : Enters 141 := enters_at Tryz.func141 (by kernel_rfl) rfl
theorem entersOutside : Enters 142 := enters_at Tryz.func142 (by kernel_rfl) rfl
theorem entersCrossed : Enters 143 := enters_at Tryz.func143 (by kernel_rfl) rfl
theorem entersIdle : Enters 144 := enters_at Tryz.func144 (by kernel_rfl) rfl
theorem outside_any (cv : Value) (C : Cfg) (core : Bool) (x : Win) (w : World) (h : CfgAt w cv C) : Calls Tryz.prog 142 #[cv, .int .i64 (cI core), .agg #[.int .i64 x.part, .int .i64 x.start, .int .i64 x.len]] w fun e w' => e = .returned (.bool (outsideB C core x)) ∧ Below w.heap.size w w' := by
  cases core
  · exact outside0_any cv C x w h
  · exact outside1_any cv C x w h
theorem crossed_any (cv : Value) (C : Cfg) (core : Bool) (hs : C.small) (w : World) (h : CfgAt w cv C) : Calls Tryz.prog 143 #[cv, .int .i64 (cI core)] w fun e w' => e = .returned (.bool (crossB (C.win core))) ∧ Below w.heap.size w w' := by
  cases core
  · exact crossed0_any cv C hs.2.2.1 w h
  · exact crossed1_any cv C hs.2.2.2 w h
theorem ruleOk_plain {p : Cfg → Bool} {w : World} (fn : FuncId) (hE : Enters fn) (h : ∀ w1 cv C, CfgAt w1 cv C → C.small → Calls Tryz.prog fn #[cv] w1 fun e w' => e = .returned (.bool (p C)) ∧ Below w1.heap.size w1 w') : RuleOk w (.func (.func fn) #[] #[]) p :=
  ⟨[], by simp, fn, #[], rfl, hE, fun w1 cv C _ hc hs => h w1 cv C hc hs⟩
/-- The list of rules, in block R. -/
def RulesAt (w : World) (R : Nat) : Prop := ∃ fs : Array Value, w.heap[R]? = some (.cells fs 172 (0, 0)) ∧ ∀ k, k < 17 → ∃ f, fs[k]? = some f ∧ RuleOk w f (ruleB (k + 1))
theorem RulesAt.below {w w1 : World} {R : Nat} (h : RulesAt w R) (hb : Below w.heap.size w w1) : RulesAt w1 R := by
  obtain ⟨fs, h1, h2⟩ := h
  exact ⟨fs, blk_below h1 hb, fun k hk => by
    obtain ⟨f, h3, h4⟩ := h2 k hk
    exact ⟨f, h3, h4.below hb⟩⟩

set_option maxRecDepth 100000 in
set_option maxHeartbeats 4000000 in
theorem rules_any (w : World) : Calls Tryz.prog 118 #[] w fun e w' => ∃ R, e = .returned (.slice (some ⟨R, 0, none⟩) 17 17) ∧ Kp (RulesAt w' R) ∧ Below w.heap.size w w' ∧ w.heap.size ≤ R := by
  go_enter Tryz.func118, Tryz.ntmps118
  go_wp2_with fail
  refine (part_any 123 (fun x => !inB x.1 0 1) entersR2 (fun x w => rule2_any x w) _).mono ?_
  rintro e w1 ⟨f2, nb, rfl, hb, _, hr⟩
  have r2 : Kp (RuleOk w1 f2 (ruleB 2)) := ⟨_, hr.out⟩
  have B1 := Kp.mk hb
  clear hb hr
  go_wp2_with fail
  refine (part_any 124 (fun x => !inB x.2 0 64) entersR3 (fun x w => rule3_any x w) _).mono ?_
  rintro e w2 ⟨f3, nb, rfl, hb, _, hr⟩
  have r3 : Kp (RuleOk w2 f3 (ruleB 3)) := ⟨_, hr.out⟩
  have B2 := Kp.mk hb
  clear hb hr
  go_wp2_with fail
  refine (channel_any 127 (fun C x => x.kind != 1 && x.kind != 2) entersR5 (fun cv C x w h => rule5_any cv C x w h) _).mono ?_
  rintro e w3 ⟨f5, nb, rfl, hb, _, hr⟩
  have r5 : Kp (RuleOk w3 f5 (ruleB 5)) := ⟨_, hr.out⟩
  have B3 := Kp.mk hb
  clear hb hr
  go_wp2_with fail
  refine (channel_any 128 (fun C x => strangeB C x.frm || strangeB C x.to) entersR6 (fun cv C x w h => rule6_any cv C x w h) _).mono ?_
  rintro e w4 ⟨f6, nb, rfl, hb, _, hr⟩
  have r6 : Kp (RuleOk w4 f6 (ruleB 6)) := ⟨_, hr.out⟩
  have B4 := Kp.mk hb
  clear hb hr
  go_wp2_with fail
  refine (channel_any 130 (fun C x => x.frm == x.to) entersR7 (fun cv C x w h => rule7_any cv C x w h) _).mono ?_
  rintro e w5 ⟨f7, nb, rfl, hb, _, hr⟩
  have r7 : Kp (RuleOk w5 f7 (ruleB 7)) := ⟨_, hr.out⟩
  have B5 := Kp.mk hb
  clear hb hr
  go_wp2_with fail
  refine (channel_any 131 (fun C x => !inB x.words 1 16) entersR8 (fun cv C x w h => rule8_any cv C x w h) _).mono ?_
  rintro e w6 ⟨f8, nb, rfl, hb, _, hr⟩
  have r8 : Kp (RuleOk w6 f8 (ruleB 8)) := ⟨_, hr.out⟩
  have B6 := Kp.mk hb
  clear hb hr
  go_wp2_with fail
  refine (channel_any 132 (fun C x => !deepB x) entersR9 (fun cv C x w h => rule9_any cv C x w h) _).mono ?_
  rintro e w7 ⟨f9, nb, rfl, hb, _, hr⟩
  have r9 : Kp (RuleOk w7 f9 (ruleB 9)) := ⟨_, hr.out⟩
  have B7 := Kp.mk hb
  clear hb hr
  go_wp2_with fail
  refine (channel_any 134 (fun C x => !freshB x) entersR10 (fun cv C x w h => rule10_any cv C x w h) _).mono ?_
  rintro e w8 ⟨f10, nb, rfl, hb, _, hr⟩
  have r10 : Kp (RuleOk w8 f10 (ruleB 10)) := ⟨_, hr.out⟩
  have B8 := Kp.mk hb
  clear hb hr
  go_wp2_with fail
  refine (channel_any 136 (fun C x => x.kind == 1 && x.boot != 0) entersR11 (fun cv C x w h => rule11_any cv C x w h) _).mono ?_
  rintro e w9 ⟨f11, nb, rfl, hb, _, hr⟩
  have r11 : Kp (RuleOk w9 f11 (ruleB 11)) := ⟨_, hr.out⟩
  have B9 := Kp.mk hb
  clear hb hr
  go_wp2_with fail
  refine (frame_any 138 #[] (fun C core => !inB (C.len core) 1 64) entersR12 [] _ (by simp) (fun w1 _ cv C core h _ => rule12_any cv C core w1 h)).mono ?_
  rintro e w10 ⟨f12, nb, rfl, hb, _, hr⟩
  have r12 : Kp (RuleOk w10 f12 (ruleB 12)) := ⟨_, hr.out⟩
  have B10 := Kp.mk hb
  clear hb hr
  go_wp2_with fail
  refine (frame_any 139 #[] (fun C core => decide (16 < (C.win core).length)) entersR13 [] _ (by simp) (fun w1 _ cv C core h _ => rule13_any cv C core w1 h)).mono ?_
  rintro e w11 ⟨f13, nb, rfl, hb, _, hr⟩
  have r13 : Kp (RuleOk w11 f13 (ruleB 13)) := ⟨_, hr.out⟩
  have B11 := Kp.mk hb
  clear hb hr
  go_wp2_with fail
  refine (window_any 141 (fun C core x => foreignB C core x) entersForeign (fun cv C core x w h => foreign_any cv C core x w h) _).mono ?_
  rintro e w12 ⟨f14, rfl, hb, r14⟩
  have B12 := Kp.mk hb
  clear hb
  go_wp2_with fail
  refine (window_any 142 (fun C core x => outsideB C core x) entersOutside (fun cv C core x w h => outside_any cv C core x w h) _).mono ?_
  rintro e w13 ⟨f15, rfl, hb, r15⟩
  have B13 := Kp.mk hb
  clear hb
  go_wp2_with fail
  refine (frame_any 143 #[] (fun C core => crossB (C.win core)) entersCrossed [] _ (by simp) (fun w1 _ cv C core h hs => crossed_any cv C core hs w1 h)).mono ?_
  rintro e w14 ⟨f16, nb, rfl, hb, _, hr⟩
  have r16 : Kp (RuleOk w14 f16 (ruleB 16)) := ⟨_, hr.out⟩
  have B14 := Kp.mk hb
  clear hb hr
  go_wp2
  go_ret
  have T14 : Kp (Below w14.heap.size w14 (w14.alloc (.cells #[.func (.func 120) #[] #[], f2, f3, .func (.func 125) #[] #[], f5, f6, f7, f8, f9, f10, f11, f12, f13, f14, f15, f16, .func (.func 144) #[] #[]] 172))) := ⟨below_al (Below.refl _ _) _⟩
  have T13 : Kp (Below w13.heap.size w13 (w14.alloc (.cells #[.func (.func 120) #[] #[], f2, f3, .func (.func 125) #[] #[], f5, f6, f7, f8, f9, f10, f11, f12, f13, f14, f15, f16, .func (.func 144) #[] #[]] 172))) := ⟨below_call B14.out T14.out⟩
  have T12 : Kp (Below w12.heap.size w12 (w14.alloc (.cells #[.func (.func 120) #[] #[], f2, f3, .func (.func 125) #[] #[], f5, f6, f7, f8, f9, f10, f11, f12, f13, f14, f15, f16, .func (.func 144) #[] #[]] 172))) := ⟨below_call B13.out T13.out⟩
  have T11 : Kp (Below w11.heap.size w11 (w14.alloc (.cells #[.func (.func 120) #[] #[], f2, f3, .func (.func 125) #[] #[], f5, f6, f7, f8, f9, f10, f11, f12, f13, f14, f15, f16, .func (.func 144) #[] #[]] 172))) := ⟨below_call B12.out T12.out⟩
  have T10 : Kp (Below w10.heap.size w10 (w14.alloc (.cells #[.func (.func 120) #[] #[], f2, f3, .func (.func 125) #[] #[], f5, f6, f7, f8, f9, f10, f11, f12, f13, f14, f15, f16, .func (.func 144) #[] #[]] 172))) := ⟨below_call B11.out T11.out⟩
  have T9 : Kp (Below w9.heap.size w9 (w14.alloc (.cells #[.func (.func 120) #[] #[], f2, f3, .func (.func 125) #[] #[], f5, f6, f7, f8, f9, f10, f11, f12, f13, f14, f15, f16, .func (.func 144) #[] #[]] 172))) := ⟨below_call B10.out T10.out⟩
  have T8 : Kp (Below w8.heap.size w8 (w14.alloc (.cells #[.func (.func 120) #[] #[], f2, f3, .func (.func 125) #[] #[], f5, f6, f7, f8, f9, f10, f11, f12, f13, f14, f15, f16, .func (.func 144) #[] #[]] 172))) := ⟨below_call B9.out T9.out⟩
  have T7 : Kp (Below w7.heap.size w7 (w14.alloc (.cells #[.func (.func 120) #[] #[], f2, f3, .func (.func 125) #[] #[], f5, f6, f7, f8, f9, f10, f11, f12, f13, f14, f15, f16, .func (.func 144) #[] #[]] 172))) := ⟨below_call B8.out T8.out⟩
  have T6 : Kp (Below w6.heap.size w6 (w14.alloc (.cells #[.func (.func 120) #[] #[], f2, f3, .func (.func 125) #[] #[], f5, f6, f7, f8, f9, f10, f11, f12, f13, f14, f15, f16, .func (.func 144) #[] #[]] 172))) := ⟨below_call B7.out T7.out⟩
  have T5 : Kp (Below w5.heap.size w5 (w14.alloc (.cells #[.func (.func 120) #[] #[], f2, f3, .func (.func 125) #[] #[], f5, f6, f7, f8, f9, f10, f11, f12, f13, f14, f15, f16, .func (.func 144) #[] #[]] 172))) := ⟨below_call B6.out T6.out⟩
  have T4 : Kp (Below w4.heap.size w4 (w14.alloc (.cells #[.func (.func 120) #[] #[], f2, f3, .func (.func 125) #[] #[], f5, f6, f7, f8, f9, f10, f11, f12, f13, f14, f15, f16, .func (.func 144) #[] #[]] 172))) := ⟨below_call B5.out T5.out⟩
  have T3 : Kp (Below w3.heap.size w3 (w14.alloc (.cells #[.func (.func 120) #[] #[], f2, f3, .func (.func 125) #[] #[], f5, f6, f7, f8, f9, f10, f11, f12, f13, f14, f15, f16, .func (.func 144) #[] #[]] 172))) := ⟨below_call B4.out T4.out⟩
  have T2 : Kp (Below w2.heap.size w2 (w14.alloc (.cells #[.func (.func 120) #[] #[], f2, f3, .func (.func 125) #[] #[], f5, f6, f7, f8, f9, f10, f11, f12, f13, f14, f15, f16, .func (.func 144) #[] #[]] 172))) := ⟨below_call B3.out T3.out⟩
  have T1 : Kp (Below w1.heap.size w1 (w14.alloc (.cells #[.func (.func 120) #[] #[], f2, f3, .func (.func 125) #[] #[], f5, f6, f7, f8, f9, f10, f11, f12, f13, f14, f15, f16, .func (.func 144) #[] #[]] 172))) := ⟨below_call B2.out T2.out⟩
  have T0 : Kp (Below w.heap.size w (w14.alloc (.cells #[.func (.func 120) #[] #[], f2, f3, .func (.func 125) #[] #[], f5, f6, f7, f8, f9, f10, f11, f12, f13, f14, f15, f16, .func (.func 144) #[] #[]] 172))) := ⟨below_call B1.out T1.out⟩
  refine ⟨_, rfl, ⟨_, blk_new _ _, fun k hk => ?_⟩, T0.out, by have := B1.out.size; have h2 := (below_call B1.out T1.out).size; exact (show w.heap.size ≤ w14.heap.size from by have b1 := B1.out.size; have b2 := B2.out.size; have b3 := B3.out.size; have b4 := B4.out.size; have b5 := B5.out.size; have b6 := B6.out.size; have b7 := B7.out.size; have b8 := B8.out.size; have b9 := B9.out.size; have b10 := B10.out.size; have b11 := B11.out.size; have b12 := B12.out.size; have b13 := B13.out.size; have b14 := B14.out.size; omega)⟩
  exact match k, hk with
    | 0, _ => ⟨_, rfl, ruleOk_plain 120 entersR1 (fun w1 cv C h _ => rule1_any cv C w1 h)⟩
    | 1, _ => ⟨_, rfl, r2.out.below T1.out⟩
    | 2, _ => ⟨_, rfl, r3.out.below T2.out⟩
    | 3, _ => ⟨_, rfl, ruleOk_plain 125 entersR4 (fun w1 cv C h _ => rule4_any cv C w1 h)⟩
    | 4, _ => ⟨_, rfl, r5.out.below T3.out⟩
    | 5, _ => ⟨_, rfl, r6.out.below T4.out⟩
    | 6, _ => ⟨_, rfl, r7.out.below T5.out⟩
    | 7, _ => ⟨_, rfl, r8.out.below T6.out⟩
    | 8, _ => ⟨_, rfl, r9.out.below T7.out⟩
    | 9, _ => ⟨_, rfl, r10.out.below T8.out⟩
    | 10, _ => ⟨_, rfl, r11.out.below T9.out⟩
    | 11, _ => ⟨_, rfl, r12.out.below T10.out⟩
    | 12, _ => ⟨_, rfl, r13.out.below T11.out⟩
    | 13, _ => ⟨_, rfl, r14.out.below T12.out⟩
    | 14, _ => ⟨_, rfl, r15.out.below T13.out⟩
    | 15, _ => ⟨_, rfl, r16.out.below T14.out⟩
    | 16, _ => ⟨_, rfl, ruleOk_plain 144 entersIdle (fun w1 cv C h hs => idle_any cv C hs w1 h)⟩
    | k + 17, hk => absurd hk (by omega)
end
section
open Go.RowKit Go.Shelf
set_option linter.unusedVariables false
theorem grown_below {w w1 : World} (hb : Below w.heap.size w w1) : w.grownBy w1 none := ⟨hb.os, hb.tape, hb.output, hb.size, fun k hk _ => hb.block k hk⟩
/-- What a caller's round keeps for an iterator with boxes of one type of its own: what lay below n₀, and the blocks of that type. -/
def KeepT (T : TypeId) (n₀ : Nat) (W W' : World) : Prop := Below n₀ W W' ∧ ∀ (k : Nat) (c : Array Value) (f : Nat × Nat), W.heap[k]? = some (.cells c T f) → W'.heap[k]? = some (.cells c T f)
/-- .. and for the loop's own book-keeping. -/
def Rnd (T : TypeId) (n₀ B : Nat) (W W' : World) : Prop := KeepT T n₀ W W' ∧ KeepsFrom B W W'
theorem KeepT.refl (T : TypeId) (n₀ : Nat) (W : World) : KeepT T n₀ W W := ⟨Below.refl _ _, fun _ _ _ h => h⟩
theorem KeepT.trans {T : TypeId} {n₀ : Nat} {A B C : World} (h : KeepT T n₀ A B) (k : KeepT T n₀ B C) : KeepT T n₀ A C := ⟨h.1.trans k.1, fun i c f hi => k.2 i c f (h.2 i c f hi)⟩
theorem Rnd.refl (T : TypeId) (n₀ B : Nat) (W : World) : Rnd T n₀ B W W := ⟨KeepT.refl _ _ _, KeepsFrom.refl _ _⟩
theorem Rnd.trans {T : TypeId} {n₀ B : Nat} {X Y Z : World} (h : Rnd T n₀ B X Y) (k : Rnd T n₀ B Y Z) : Rnd T n₀ B X Z := ⟨h.1.trans k.1, h.2.trans k.2⟩
theorem Rnd.call {T : TypeId} {n₀ B : Nat} {W W' : World} (hn : n₀ ≤ W.heap.size) (hb : Below W.heap.size W W') : Rnd T n₀ B W W' :=
  ⟨⟨hb.mono hn, fun k c f h => blk_below h hb⟩, ⟨hb.size, fun k o _ h _ => blk_below h hb⟩⟩
theorem Rnd.al {T : TypeId} {n₀ B : Nat} {W : World} (hn : n₀ ≤ W.heap.size) (o : Obj) : Rnd T n₀ B W (W.alloc o) := Rnd.call hn (below_al (Below.refl _ _) o)
theorem Rnd.dr {T : TypeId} {n₀ B : Nat} (W : World) : Rnd T n₀ B W W.drew := ⟨⟨(Below.refl _ _).drew, fun _ _ _ h => h⟩, ⟨Nat.le_refl _, fun _ _ _ h _ => h⟩⟩
theorem Rnd.own {T : TypeId} {n₀ B : Nat} {w w1 : World} {base : Nat} {e : TypeId} {k : Nat} {v : Value} {n : Nat} {cs : List Value} (hown : w.ownsRow base e k v n cs) (he : e ≠ T) (hn : n₀ ≤ base) (hn' : n₀ ≤ w.heap.size)
    (hg : w.grownBy w1 v.ownBlock) : Rnd T n₀ B w w1 := by
  have key : ∀ (j : Nat) (o : Obj), w.heap[j]? = some o → (∀ c f, o ≠ .cells c e f) → w1.heap[j]? = some o := fun j o hj ho => by
    rw [hg.block j (blk_lt hj) fun hv => ?_]
    · exact hj
    · obtain ⟨_, ⟨rfl, _⟩ | ⟨g, cap, cur, rfl, _, hgg, _⟩⟩ := hown
      · simp [Value.ownBlock] at hv
      · simp only [Value.ownBlock, Option.some.injEq] at hv
        subst hv
        rw [hgg] at hj
        exact ho _ _ (Option.some.inj hj).symm
  refine ⟨⟨⟨hg.os, hg.tape, hg.output, hg.size, fun j hj => hg.block j (by omega) fun hv => ?_⟩, fun j c f hj => key j _ hj fun c' f' h' => ?_⟩, ⟨hg.size, fun j o _ hj ho => key j o hj fun c' f' h' => ?_⟩⟩
  · have := (hown.lt j hv.symm).1; omega
  · simp at h'; exact he h'.2.1.symm
  · subst h'; simp [Obj.isCells] at ho
theorem Rnd.set {T : TypeId} {n₀ B : Nat} {w : World} {b : Nat} {c : Array Value} {t : TypeId} {f : Nat × Nat} (hb : w.heap[b]? = some (.cells c t f)) (ht : t ≠ T) (hn : n₀ ≤ b) (o : Nat) (v : Value) : Rnd T n₀ B w (w.setCell ⟨b, o, none⟩ v) := by
  have key : ∀ (j : Nat) (x : Obj), w.heap[j]? = some x → (∀ c f, x ≠ .cells c t f) → (w.setCell ⟨b, o, none⟩ v).heap[j]? = some x := fun j x hj hx => by
    by_cases e : j = b
    · subst e; rw [hb] at hj; exact absurd (Option.some.inj hj).symm (hx _ _)
    · exact blk_set_ne hj (p := ⟨b, o, none⟩) e v
  refine ⟨⟨(Below.refl _ _).setCell (p := ⟨b, o, none⟩) hn v, fun j c' f' hj => key j _ hj fun c2 f2 h2 => ?_⟩, ⟨by simp [World.setCell], fun j x _ hj hx => key j x hj fun c2 f2 h2 => ?_⟩⟩
  · simp at h2; exact ht h2.2.1.symm
  · subst h2; simp [Obj.isCells] at hx
theorem KeepT.put {T : TypeId} {n₀ : Nat} {w : World} (hn : n₀ ≤ w.heap.size) (W : World) (l : Nat) (o o' : Obj) (hl : w.heap.size ≤ l) (h : W.heap[l]? = some o) (hc : o.isCells = false) (hw : o.isWalk = false) : KeepT T n₀ W (W.putObj l o') :=
  ⟨belowK_b hn W l o o' hl h hc hw, fun k c f hk => by
    rw [World.putObj_heap_other (fun e => ?_)]
    · exact hk
    · subst e; rw [h] at hk; cases hk; simp [Obj.isCells] at hc⟩
/-- A loop over an iterator in a plain walk: 'A1' says what the temporaries are behind the assignment to the loop's left sides. -/
theorem wp_range {P : Program} {α : Type} {g : Operand} {ps : Array Tmp} {assign body : Code} {Q : Exit → Act → World → Prop} {a : Act} {w : World} (A1 : Array Value → α → Array Value) {gf : Nat} {lb : Array Value}
    (hg : a.eval g = .func (.func gf) #[] lb) (eg : ∀ args w, (callFunc gf args).run P w = .ok (.enter gf args) w)
    {encs : α → Array Value} {Kp : World → World → Prop} {S Sp : List α → Prop} {N : Nat} (hseq : SeqStopsK Fence.wide 2 P gf lb encs Kp S Sp N w)
    (hKt : ∀ {A B C : World}, Kp A B → Kp B C → Kp A C) (hKb : ∀ (W : World) (l : Nat) (o o' : Obj), w.heap.size ≤ l → W.heap[l]? = some o → o.isCells = false → o.isWalk = false → Kp W (W.putObj l o')) (hps : ∀ x, (encs x).size = ps.size)
    (I : List α → World → Prop) (Ix : Code → List α → World → Prop) (hI : OwnFrom w.heap.size I) (hIx : ∀ c, OwnFrom w.heap.size (Ix c)) (h0 : I [] w)
    (hassign : ∀ (l : Nat) (x : α) (W : World) (K : Act → World → Prop), K { tmps := A1 a.tmps x, defers := [] } W →
      assign.wpIn (Fence.wide.inRound l) 1 P (Exit.then K (fun _ _ _ => False)) { tmps := (ps.zip (encs x)).foldl (fun t (p, v) => t.setIfInBounds p v) a.tmps, defers := [] } W)
    (hbody : ∀ (l : Nat) (pre : List α) (x : α) (W : World), I pre W → pre.length < N → body.wpIn (Fence.wide.inRound l) 1 P (ownPostG w.heap.size Kp I Ix (pre ++ [x]) W) { tmps := A1 a.tmps x, defers := [] } W)
    (hdone : ∀ (D : Nat) (xs : List α) (W : World), w.heap.size ≤ D → S xs → I xs W → W.heap[D]? = some (.deferred (some [])) → Q .normal { a with defers := { target := .collected D, args := #[] } :: a.defers } W)
    (hstop : ∀ (D : Nat) (c : Code) (pre : List α) (W : World), w.heap.size ≤ D → Sp pre → Ix c pre W → W.heap[D]? = some (.deferred (some [])) → c.wp P Q { a with defers := { target := .collected D, args := #[] } :: a.defers } W) :
    (Code.rangeFunc g ps assign body).wp P Q a w :=
  (wpIn_wide (n := 3)).1 (wpIn_rangeFunc_ownG rfl (by omega) hg trivial eg hseq hKt hKb (Below.refl _ _) hps I Ix hI hIx h0 (fun x => { tmps := A1 a.tmps x, defers := [] }) hassign hbody hdone fun D c pre W h1 h2 h3 h4 => wpIn_wide.2 (hstop D c pre W h1 h2 h3 h4))
/-! What a caller says between two rounds: blocks of cells, rows of its own, what lay below: all of it is left alone by the loop's and the iterator's own steps. -/
theorem blk_calm {B b : Nat} {c : Array Value} {t : TypeId} {f : Nat × Nat} {W W' : World} {row : Option Nat} (h : W.heap[b]? = some (.cells c t f)) (hg : W.grownBy W' row) (hr : ∀ r, row = some r → B ≤ r ∧ ∃ o : Obj, W.heap[r]? = some o ∧ o.isCells = false) : W'.heap[b]? = some (.cells c t f) := by
  rw [hg.block b (blk_lt h) fun e => ?_]
  · exact h
  · obtain ⟨_, o, ho, hc⟩ := hr b e.symm
    rw [h] at ho; cases ho; simp [Obj.isCells] at hc
theorem below_own2 {n₀ : Nat} {w wr w1 : World} {base : Nat} {e : TypeId} {k : Nat} {v : Value} {n : Nat} {cs : List Value} (hB : Below n₀ w wr) (hn : n₀ ≤ wr.heap.size) (hbase : n₀ ≤ base) (hown : wr.ownsRow base e k v n cs)
    (hg : wr.grownBy w1 v.ownBlock) : Below n₀ w w1 := hB.grown hg hn fun j hj => Nat.le_trans hbase (hown.lt j hj).1
theorem own_calm {B : Nat} {base : Nat} {e : TypeId} {k : Nat} {v : Value} {n : Nat} {cs : List Value} {W W' : World} {row : Option Nat} (h : W.ownsRow base e k v n cs) (hg : W.grownBy W' row) (hr : ∀ r, row = some r → B ≤ r ∧ ∃ o : Obj, W.heap[r]? = some o ∧ o.isCells = false) : W'.ownsRow base e k v n cs := by
  obtain ⟨h0, h1 | ⟨g, cap, cur, h1, h2, h3, r⟩⟩ := h
  · exact ⟨h0, .inl h1⟩
  · exact ⟨h0, .inr ⟨g, cap, cur, h1, h2, blk_calm h3 hg hr, r⟩⟩
end
section
open Go.RowKit Go.Shelf
set_option linter.unusedVariables false
def KeepU (Ts : List TypeId) (n₀ : Nat) (W W' : World) : Prop := Below n₀ W W' ∧ ∀ t, t ∈ Ts → ∀ (k : Nat) (c : Array Value) (f : Nat × Nat), W.heap[k]? = some (.cells c t f) → W'.heap[k]? = some (.cells c t f)
def RndU (Ts : List TypeId) (n₀ B : Nat) (W W' : World) : Prop := KeepU Ts n₀ W W' ∧ KeepsFrom B W W'
theorem KeepU.refl (Ts : List TypeId) (n₀ : Nat) (W : World) : KeepU Ts n₀ W W := ⟨Below.refl _ _, fun _ _ _ _ _ h => h⟩
theorem KeepU.trans {Ts : List TypeId} {n₀ : Nat} {A B C : World} (h : KeepU Ts n₀ A B) (k : KeepU Ts n₀ B C) : KeepU Ts n₀ A C := ⟨h.1.trans k.1, fun t ht i c f hi => k.2 t ht i c f (h.2 t ht i c f hi)⟩
theorem KeepU.of_below {Ts : List TypeId} {n₀ : Nat} {W W' : World} (hn : n₀ ≤ W.heap.size) (hb : Below W.heap.size W W') : KeepU Ts n₀ W W' := ⟨hb.mono hn, fun _ _ k c f h => blk_below h hb⟩
theorem KeepU.put {Ts : List TypeId} {n₀ : Nat} {w : World} (hn : n₀ ≤ w.heap.size) (W : World) (l : Nat) (o o' : Obj) (hl : w.heap.size ≤ l) (h : W.heap[l]? = some o) (hc : o.isCells = false) (hw : o.isWalk = false) : KeepU Ts n₀ W (W.putObj l o') :=
  ⟨belowK_b hn W l o o' hl h hc hw, fun t _ => (KeepT.put (T := t) hn W l o o' hl h hc hw).2⟩
theorem RndU.of {Ts : List TypeId} {n₀ B : Nat} {W W' : World} (t0 : TypeId) (h0 : Rnd t0 n₀ B W W') (h : ∀ t, t ∈ Ts → Rnd t n₀ B W W') : RndU Ts n₀ B W W' := ⟨⟨h0.1.1, fun t ht => (h t ht).1.2⟩, h0.2⟩
end
section
open Go.RowKit
set_option linter.unusedSimpArgs false
set_option linter.unusedVariables false
open Go.Shelf
attribute [local go_sem] Oper.semAt_some

/-- The defects that a configuration has, as far as number k. -/
def defsK (C : Cfg) (k : Nat) : List Int := ((List.range k).filter fun i => ruleB (i + 1) C).map fun i : Nat => (i : Int) + 1
def defsB (C : Cfg) : List Int := defsK C 17
theorem defsK_succ (C : Cfg) (k : Nat) : defsK C (k + 1) = if ruleB (k + 1) C = true then defsK C k ++ [(k : Int) + 1] else defsK C k := by
  rw [defsK, List.range_succ, List.filter_append, List.map_append]
  by_cases h : ruleB (k + 1) C = true
  · rw [if_pos h, List.filter_cons_of_pos (by simpa using h)]; rfl
  · rw [if_neg h, List.filter_cons_of_neg (by simpa using h)]; simp [defsK]
theorem defsK_le (C : Cfg) (k : Nat) : (defsK C k).length ≤ k := by
  rw [defsK, List.length_map]
  exact Nat.le_trans (List.length_filter_le _ _) (by simp)
theorem defsK_prefix (C : Cfg) {k n : Nat} (h : k ≤ n) : defsK C k <+: defsK C n := by
  obtain ⟨d, rfl⟩ : ∃ d, n = k + d := ⟨n - k, by omega⟩
  rw [defsK, defsK, List.range_add, List.filter_append, List.map_append]
  exact List.prefix_append _ _
/-- The types of the boxes that the iterator holds between two rounds. -/
def UT : List TypeId := 31 :: 172 :: CLT
theorem OwnB.keep {bs : List Nat} {n : Nat} {w w1 : World} (h : ∀ b, b ∈ bs → OwnB w b) (hk : KeepU UT n w w1) : KeepB bs w w1 := fun b hm => by
  obtain ⟨c, t, h1, h2⟩ := h b hm
  rw [h2]
  exact hk.2 t (by simp only [UT, List.mem_cons]; exact .inr (.inr h1)) b c _ h2

set_option maxRecDepth 100000 in
set_option maxHeartbeats 4000000 in
theorem defAll1_in (N : Nat) (hn1 : 1 ≤ N) (l Bn : Nat) (C : Cfg) (hsm : C.small) (cs : Array Value) (w0 : World) (hC : CfgAt w0 (.agg cs) C) (J Jx : List Int → World → Prop) (hJ : ∀ s W1 W2, J s W1 → W1.grownBy W2 none → J s W2)
    (hY : ∀ pre x W, J pre W → pre.length < (defsB C).length → YieldAt Fence.wide (N - 1) Tryz.prog l #[.int .i64 x] W fun e W' =>
      ∃ b, e = .returned (.bool b) ∧ (b = true → J (pre ++ [x]) W' ∧ KeepU UT w0.heap.size W W') ∧ (b = false → Jx (pre ++ [x]) W'))
    (W : World) (hW : Below w0.heap.size w0 W) (hBn : W.heap[Bn]? = some (.cells cs 31 (0, 0))) (h0 : J [] W) :
    CallsIn Fence.wide N Tryz.prog 117 #[.func (.yield l) #[] #[], .pointer (some ⟨Bn, 0, none⟩)] W fun e W' => (∃ v, e = .returned v) ∧
      ((∃ ys, ys = defsB C ∧ J ys W') ∨ (∃ pre, pre <+: defsB C ∧ Jx pre W')) := by
  have HY := Kp.mk hY
  have HC := Kp.mk hC
  have HW := Kp.mk hW
  have HBN := Kp.mk hBn
  obtain ⟨ho, pa, pc, ca, cc, a0, c0, a1, c1, hcs, bp, bc, b0, b1, _, _, _, _⟩ := hC
  simp only [Value.agg.injEq] at hcs
  subst hcs
  clear hY hW hBn ho
  refine callsIn_of_wp Tryz.func117 rfl trivial ?_ rfl
  simp only [Tryz.ntmps117, List.size_toArray, List.length_cons, List.length_nil, Nat.reduceAdd, Nat.reduceSub, Array.replicate_succ, Array.replicate_zero, List.push_toArray, List.append_toArray, List.nil_append, List.cons_append]
  gi_wp2_with fail
  refine ⟨trivial, (callsIn_wide.2 (rules_any _)).mono ?_⟩
  rintro e w1 ⟨R, rfl, hR, hb1, hRl⟩
  have HB1 := Kp.mk hb1
  have HJ1 := Kp.mk (hJ _ _ _ h0 (grown_below hb1))
  have HK1 := Kp.mk (KeepU.of_below (Ts := UT) HW.out.size hb1)
  have hw1 := hb1.size
  clear hb1
  gi_wp2_with fail
  gi_loopw [7] (fun i wr => ∃ k : Nat, k ≤ 17 ∧ i = .int .i64 k ∧ Kp (KeepU UT w0.heap.size w1 wr) ∧ Kp (J (defsK C k) wr)) (fun i wr => 17 - (intOf i).toNat)
  case atStart => exact ⟨0, Nat.zero_le _, rfl, ⟨KeepU.refl _ _ _⟩, HJ1⟩
  case round =>
    obtain ⟨k, hk, rfl, HK, HJ⟩ := hrel
    by_cases hk17 : k < 17
    · obtain ⟨fs, hfs, hrs⟩ := hR.out
      obtain ⟨f, hf, bs, hown, fn, caps, rfl, hE, hr⟩ := hrs k hk17
      have hRr := HK.out.2 172 (by decide) R fs _ hfs
      have hRlt := blk_lt hRr
      have cR : wr.cell? ⟨R, k, none⟩ = some (.func (.func fn) #[] caps) := (cell_blk hRr k).trans hf
      have hcf := HK.out.2 31 (by decide) Bn _ _ (HK1.out.2 31 (by decide) Bn _ _ HBN.out)
      have hcl := blk_lt hcf
      have HCF := Kp.mk hcf
      have HCW : Kp (Below w0.heap.size w0 wr) := ⟨(HW.out.trans HK1.out.1).trans HK.out.1⟩
      have HR1 := Kp.mk hr
      have HKB := Kp.mk (OwnB.keep hown HK.out)
      have HOWN : Kp (∀ b, b ∈ bs → b < wr.heap.size) := ⟨fun b hm => Nat.lt_of_lt_of_le (hown b hm).lt HK.out.1.size⟩
      have hE' := hE.out
      have s1 : IntKind.i64.wrap ((k : Int) + 1) = (k : Int) + 1 := IntWalk.i64_in _ (by omega)
      have k0 : (0 : Int) ≤ (k : Int) := by omega
      have k1 : (k : Int) < 17 := by omega
      have HS := Kp.mk (defsK_succ C k)
      clear hfs hf hrs hr hRr hown hcf hE
      obtain ⟨d, hd⟩ : ∃ d, ruleB (k + 1) C = d := ⟨_, rfl⟩
      have q0 : wr.cell? ⟨Bn, 0, none⟩ = some (.slice pa C.parts.length pc) := (cell_blk HCF.out 0).trans rfl
      have q1 : wr.cell? ⟨Bn, 1, none⟩ = some (.slice ca C.chans.length cc) := (cell_blk HCF.out 1).trans rfl
      have q2 : wr.cell? ⟨Bn, 2, none⟩ = some (.int .i64 C.l0) := (cell_blk HCF.out 2).trans rfl
      have q3 : wr.cell? ⟨Bn, 3, none⟩ = some (.slice a0 C.w0.length c0) := (cell_blk HCF.out 3).trans rfl
      have q4 : wr.cell? ⟨Bn, 4, none⟩ = some (.int .i64 C.l1) := (cell_blk HCF.out 4).trans rfl
      have q5 : wr.cell? ⟨Bn, 5, none⟩ = some (.slice a1 C.w1.length c1) := (cell_blk HCF.out 5).trans rfl
      have HBW : Kp (Below wr.heap.size wr (wr.alloc (.cells #[.func (.func fn) #[] caps] 172))) := ⟨below_al (Below.refl _ _) _⟩
      gi_wp2_with fail
      refine ⟨trivial, (callsIn_wide.2 (HR1.out _ _ C (fun b hm => (HBW.out.block b (HOWN.out b hm)).trans (HKB.out b hm)) (HC.out.below (HCW.out.trans (HBW.out.mono HCW.out.size))) hsm)).mono ?_⟩
      rw [hd]
      rintro e w3 ⟨rfl, hb3⟩
      have HB3 := Kp.mk (below_call HBW.out hb3)
      clear hb3
      cases d with
      | false =>
        have HN : Kp (defsK C (k + 1) = defsK C k) := ⟨by rw [HS.out, hd, if_neg (by simp)]⟩
        gi_wp2_with fail
        refine ⟨fun _ h => (by cases h), ?_⟩
        gi_wp2
        go_roundw
        case rel => exact ⟨k + 1, by omega, by go_num, ⟨HK.out.trans (KeepU.of_below HCW.out.size HB3.out)⟩, ⟨by rw [HN.out]; exact hJ _ _ _ HJ.out (grown_below HB3.out)⟩⟩
        case measure => simp [intOf]; omega
      | true =>
        have HN : Kp (defsK C (k + 1) = defsK C k ++ [(k : Int) + 1]) := ⟨by rw [HS.out, hd, if_pos rfl]⟩
        have hlt : (defsK C k).length < (defsB C).length := by
          have h := (defsK_prefix C (show k + 1 ≤ 17 by omega)).length_le
          rw [HN.out, List.length_append] at h
          simp at h
          exact h
        gi_wp2_with fail
        try rw [s1]
        obtain ⟨fn', tmps, assign, body, hy, hR'⟩ := HY.out (defsK C k) ((k : Int) + 1) w3 (hJ _ _ _ HJ.out (grown_below HB3.out)) hlt
        rw [hy, Oper.uponIn_round]
        refine ⟨fun _ => hn1, hR'.mono ?_⟩
        rintro e w4 ⟨b', rfl, hb⟩
        obtain ⟨hbt, hbf⟩ := hb
        cases b' with
        | true =>
          obtain ⟨hJ3, hk3⟩ := hbt rfl
          have HJ3 := Kp.mk hJ3
          have HK3 := Kp.mk hk3
          clear hbt hbf hJ3 hk3
          gi_wp2
          go_roundw
          case rel => exact ⟨k + 1, by omega, by go_num, ⟨(HK.out.trans (KeepU.of_below HCW.out.size HB3.out)).trans HK3.out⟩, ⟨by rw [HN.out]; exact HJ3.out⟩⟩
          case measure => simp [intOf]; omega
        | false =>
          have HJ3 := Kp.mk (hbf rfl)
          clear hbt hbf
          gi_wp2
          refine bodyPost_ret (results_none rfl _ _ _) rfl ?_
          exact ⟨⟨_, rfl⟩, .inr ⟨_, by rw [← HN.out]; exact defsK_prefix C (by omega), HJ3.out⟩⟩
    · obtain rfl : k = 17 := by omega
      gi_wp2
      go_end0
      exact ⟨⟨_, rfl⟩, .inl ⟨_, rfl, HJ.out⟩⟩

theorem defAll_stops (N : Nat) (hn1 : 1 ≤ N) (Bn : Nat) (C : Cfg) (hsm : C.small) (cs : Array Value) (w0 w : World) (hC : CfgAt w0 (.agg cs) C) (hw : Below w0.heap.size w0 w) (hBn : w.heap[Bn]? = some (.cells cs 31 (0, 0))) :
    SeqStopsK Fence.wide N Tryz.prog 117 #[.pointer (some ⟨Bn, 0, none⟩)] (fun x : Int => #[Value.int .i64 x]) (KeepU UT w0.heap.size) (fun ys => ys = defsB C) (fun pre => pre <+: defsB C) (defsB C).length w := fun l J Jx W hW hJ hJx hY h0 => by
  refine defAll1_in N hn1 l Bn C hsm cs w0 hC J Jx (fun s W1 W2 hs hg => hJ s W1 W2 none hs hg (by intro r h; cases h)) (fun pre x W1 hp hl => ?_) W (below_call hw hW) (blk_below hBn hW) h0
  obtain ⟨fn, tmps, assign, body, hy, hR⟩ := hY pre x W1 hp hl
  refine ⟨fn, tmps, assign, body, hy, hR.mono ?_⟩
  rintro e W3 (⟨rfl, hJ3, hk3⟩ | ⟨rfl, hJx3⟩)
  · exact ⟨true, rfl, fun _ => ⟨hJ3, hk3⟩, by simp⟩
  · exact ⟨false, rfl, by simp, fun _ => hJx3⟩

set_option maxHeartbeats 400000 in
theorem defAll_any (v0 v1 v2 v3 v4 v5 : Value) (w : World) : Calls Tryz.prog 114 #[.agg #[v0, v1, v2, v3, v4, v5]] w fun e w' => e = .returned (.func (.func 117) #[] #[.pointer (some ⟨w.heap.size, 0, none⟩)]) ∧ w' = w.alloc (.cells #[v0, v1, v2, v3, v4, v5] 31) := by
  go_enter Tryz.func114, Tryz.ntmps114
  go_wp2
  go_ret
  exact ⟨rfl, rfl⟩
end
section
open Go.RowKit
set_option linter.unusedSimpArgs false
set_option linter.unusedVariables false
/-- The slice v, in a block from n₀ on, has n elements of k cells each; these are xs. -/
def SlAt (w : World) (n₀ : Nat) (e : TypeId) (k : Nat) (v : Value) (n : Nat) (xs : List Value) : Prop :=
  xs.length = n * k ∧ ((v = .slice none 0 0 ∧ n = 0) ∨ ∃ g o cap cur, v = .slice (some ⟨g, o, none⟩) n cap ∧ n ≤ cap ∧ cap ≤ maxLen ∧ n₀ ≤ g ∧ w.heap[g]? = some (.cells cur e (0, 0)) ∧ o + cap * k ≤ cur.size ∧ ∀ i, i < n * k → cur[o + i]? = xs[i]?)
theorem SlAt.nil (w : World) (n₀ : Nat) (e : TypeId) (k : Nat) : SlAt w n₀ e k (.slice none 0 0) 0 [] := ⟨by simp, .inl ⟨rfl, rfl⟩⟩
theorem SlAt.row {w : World} {n₀ : Nat} {e : TypeId} {k : Nat} {v : Value} {n : Nat} {xs : List Value} (h : SlAt w n₀ e k v n xs) : RowAt w k v n xs := by
  obtain ⟨h0, h | ⟨g, o, cap, cur, h1, h2, h3, h4, h5, h6, h7⟩⟩ := h
  · exact ⟨h0, .inl ⟨⟨none, 0, h.1, Nat.zero_le _⟩, h.2⟩⟩
  · exact ⟨h0, .inr ⟨g, o, cap, h1, h2, h3, blk_lt h5, fun i hi => (cell_blk h5 _).trans (h7 i hi)⟩⟩
theorem SlAt.keep {w w1 : World} {n₀ : Nat} {e : TypeId} {k : Nat} {v : Value} {n : Nat} {xs : List Value} (h : SlAt w n₀ e k v n xs) (hk : ∀ g, n₀ ≤ g → g < w.heap.size → w1.heap[g]? = w.heap[g]?) : SlAt w1 n₀ e k v n xs := by
  obtain ⟨h0, h | ⟨g, o, cap, cur, h1, h2, h3, h4, h5, h6, h7⟩⟩ := h
  · exact ⟨h0, .inl h⟩
  · exact ⟨h0, .inr ⟨g, o, cap, cur, h1, h2, h3, h4, (hk g h4 (blk_lt h5)).trans h5, h6, h7⟩⟩
theorem SlAt.below {w w1 : World} {n₀ : Nat} {e : TypeId} {k : Nat} {v : Value} {n : Nat} {xs : List Value} (h : SlAt w n₀ e k v n xs) (hb : Below w.heap.size w w1) : SlAt w1 n₀ e k v n xs := h.keep fun g _ hg => hb.block g hg
theorem SlAt.but {S : List Nat} {w w1 : World} {n₀ : Nat} {e : TypeId} {k : Nat} {v : Value} {n : Nat} {xs : List Value} (h : SlAt w n₀ e k v n xs) (hb : ButS S w w1) (hS : ∀ b, b ∈ S → b < n₀) : SlAt w1 n₀ e k v n xs :=
  h.keep fun g h1 hg => hb.block g hg fun hm => by have := hS g hm; omega
theorem SlAt.set {w : World} {n₀ : Nat} {e : TypeId} {k : Nat} {v : Value} {n : Nat} {xs : List Value} (h : SlAt w n₀ e k v n xs) {p : Addr} (hp : p.block < n₀) (u : Value) : SlAt (w.setCell p u) n₀ e k v n xs :=
  h.keep fun g h1 _ => Below.heap_setCell w p u g (by omega)
theorem SlAt.al {w : World} {n₀ : Nat} {e : TypeId} {k : Nat} {v : Value} {n : Nat} {xs : List Value} (h : SlAt w n₀ e k v n xs) (o : Obj) : SlAt (w.alloc o) n₀ e k v n xs := h.keep fun g _ hg => Below.heap_alloc w o g hg
theorem SlAt.base {w : World} {n₀ m : Nat} {e : TypeId} {k : Nat} {v : Value} {n : Nat} {xs : List Value} (h : SlAt w n₀ e k v n xs) (hm : m ≤ n₀) : SlAt w m e k v n xs := by
  obtain ⟨h0, h | ⟨g, o, cap, cur, h1, h2, h3, h4, r⟩⟩ := h
  · exact ⟨h0, .inl h⟩
  · exact ⟨h0, .inr ⟨g, o, cap, cur, h1, h2, h3, by omega, r⟩⟩
theorem SlAt.of_own {w : World} {base : Nat} {e : TypeId} {k : Nat} {v : Value} {n : Nat} {cs : List Value} (h : w.ownsRow base e k v n cs) : SlAt w base e k v n cs := by
  obtain ⟨h0, h | ⟨g, cap, cur, h1, h2, h3, h4, h5, h6, h7⟩⟩ := h
  · exact ⟨h0, .inl h⟩
  · refine ⟨h0, .inr ⟨g, 0, cap, cur, h1, h4, h5, h2, h3, by omega, fun i hi => ?_⟩⟩
    rw [Nat.zero_add, ← h7, List.getElem?_take_of_lt hi, Array.getElem?_toList]
theorem SlAt.tail {w : World} {n₀ : Nat} {e : TypeId} {k : Nat} {a : Option Addr} {n cap : Nat} {xs : List Value} (h : SlAt w n₀ e k (.slice a (n + 1) cap) (n + 1) xs) : SlAt w n₀ e k (.slice (if cap = 1 then a else a.map (·.add k)) n (cap - 1)) n (xs.drop k) := by
  obtain ⟨h0, h | ⟨g, o, cap', cur, h1, h2, h3, h4, h5, h6, h7⟩⟩ := h
  · omega
  · simp only [Value.slice.injEq] at h1
    obtain ⟨rfl, _, rfl⟩ := h1
    have e1 : (n + 1) * k = n * k + k := by rw [Nat.add_mul, Nat.one_mul]
    refine ⟨by rw [List.length_drop, h0, e1]; omega, .inr ?_⟩
    by_cases hc : cap = 1
    · obtain rfl : n = 0 := by omega
      rw [if_pos hc]
      exact ⟨g, o, _, cur, rfl, by omega, by omega, h4, h5, by rw [hc]; simp; have := blk_lt h5; omega, fun i hi => by omega⟩
    · rw [if_neg hc]
      have e2 : (cap - 1) * k + k = cap * k := by
        obtain ⟨c, rfl⟩ : ∃ c, cap = c + 1 := ⟨cap - 1, by omega⟩
        rw [Nat.add_sub_cancel, Nat.add_mul, Nat.one_mul]
      refine ⟨g, o + k, cap - 1, cur, by rw [Option.map_some, add_at], by omega, by omega, h4, h5, by omega, fun i hi => ?_⟩
      rw [Nat.add_assoc, h7 (k + i) (by omega), List.getElem?_drop]
theorem run_slice_from {P : Program} (t e : TypeId) (h : P.underlying t = some (.slice e)) {i : TypeInfo} (hi : P.info? e = some i) (a : Option Addr) (n c : Nat) (hc : 1 ≤ c) (w : World) :
    (Instr.slice t (.slice a (n + 1) c) (some (.int .i64 1)) none none).run P w = .ok (.slice (if c = 1 then a else a.map (·.add i.size)) n (c - 1)) w := by
  have he : P.underlying t = some (.slice (P.elem t)) := by simp [Program.elem, h]
  have h1 := run_slice_l (P := P) (w := w) (t := t) (a := a) (len := n + 1) (cap := c) (ht := he) (kl := .i64) (l := 1) (by omega) (by omega)
  rw [h1]
  have e1 : P.elem t = e := by simp [Program.elem, h]
  rw [e1]
  simp [run_sizeOf w hi, Go.sliced, Result.andThen, Program.cellsOf, hi]

theorem RowAt.drop {w : World} {k : Nat} {a : Option Addr} {n cap : Nat} {cs : List Value} (h : RowAt w k (.slice a n cap) n cs) (hk : 0 < k) {m : Nat} (hm : m ≤ n) :
    RowAt w k (.slice (if cap = m then a else a.map (·.add (m * k))) (n - m) (cap - m)) (n - m) (cs.drop (m * k)) := by
  have hlen : (cs.drop (m * k)).length = (n - m) * k := by rw [List.length_drop, h.1, Nat.sub_mul]
  obtain ⟨h0, ⟨⟨a', cap', h1, hc⟩, rfl⟩ | ⟨g, o, cap', h1, h2, h3, h4, h5⟩⟩ := h
  · simp only [Value.slice.injEq] at h1
    obtain ⟨rfl, _, rfl⟩ := h1
    obtain rfl : m = 0 := by omega
    exact ⟨hlen, .inl ⟨⟨_, _, rfl, by omega⟩, rfl⟩⟩
  · simp only [Value.slice.injEq] at h1
    obtain ⟨rfl, _, rfl⟩ := h1
    by_cases hc : cap = m
    · obtain rfl : m = n := by omega
      rw [if_pos hc]
      exact ⟨hlen, .inl ⟨⟨_, _, by rw [Nat.sub_self], by omega⟩, by omega⟩⟩
    · rw [if_neg hc]
      refine ⟨hlen, .inr ⟨g, o + m * k, cap - m, by rw [Option.map_some, add_at], by omega, by omega, h4, fun i hi => ?_⟩⟩
      rw [Nat.sub_mul] at hi
      rw [Nat.add_assoc, h5 (m * k + i) (by omega), List.getElem?_drop]
end
section
open Go.RowKit
set_option linter.unusedSimpArgs false
set_option linter.unusedVariables false
open Go.Shelf
theorem Tryz.infoInt : (Tryz.prog.info? 3).map (fun i => (i.zero, i.size, i.bytes)) = some (some (.int .i64 0), 1, 8) := by kernel_rfl
attribute [local go_sem] Oper.semAt_some
end
section
open Go.RowKit
set_option linter.unusedSimpArgs false
set_option linter.unusedVariables false
open Go.Shelf
theorem results_cell {fn : Func} {p : Tmp} {ty : TypeId} (h : fn.results = #[.cell p ty]) (tmps : Array Value) (P : Program) (w : World) :
    (results fn tmps).run P w = ((asAddr (tmps.getD p undef)).run P w).andThen fun a w₁ => (loadVar ty a).run P w₁ := by
  simp only [results, h]
  simp
def firstB (C : Cfg) : Int := (defsB C).headD 0
attribute [local go_sem] Oper.semAt_some
/-- Between two rounds (there is none but the first): the result's box. -/
def firstI (nb n0 : Nat) (W0 : World) (pre : List Int) (W : World) : Prop := pre = [] ∧ W.heap[n0]? = some (.cells #[.int .i64 0] 3 (0, 0)) ∧ Below nb W0 W
def firstX (nb n0 : Nat) (W0 : World) (c : Code) (pre : List Int) (W : World) : Prop := c = .ret ∧ ∃ x, pre = [x] ∧ W.heap[n0]? = some (.cells #[.int .i64 x] 3 (0, 0)) ∧ Below nb W0 W
theorem firstI_calm {nb n0 : Nat} {W0 W W' : World} {pre : List Int} {B : Nat} {row : Option Nat} (h : firstI nb n0 W0 pre W) (hB : nb ≤ B) (h0 : nb ≤ W0.heap.size) (hg : W.grownBy W' row) (hr : ∀ r, row = some r → B ≤ r ∧ ∃ o : Obj, W.heap[r]? = some o ∧ o.isCells = false) : firstI nb n0 W0 pre W' := by
  obtain ⟨h1, h2, h5⟩ := h
  exact ⟨h1, blk_calm h2 hg hr, h5.grown hg (Nat.le_trans h0 h5.size) fun k e => Nat.le_trans hB (hr k e).1⟩
theorem firstX_calm {nb n0 : Nat} {W0 W W' : World} {c : Code} {pre : List Int} {B : Nat} {row : Option Nat} (h : firstX nb n0 W0 c pre W) (hB : nb ≤ B) (h0 : nb ≤ W0.heap.size) (hg : W.grownBy W' row) (hr : ∀ r, row = some r → B ≤ r ∧ ∃ o : Obj, W.heap[r]? = some o ∧ o.isCells = false) : firstX nb n0 W0 c pre W' := by
  obtain ⟨h1, x, h2, h3, h5⟩ := h
  exact ⟨h1, x, h2, blk_calm h3 hg hr, h5.grown hg (Nat.le_trans h0 h5.size) fun k e => Nat.le_trans hB (hr k e).1⟩

set_option maxRecDepth 100000 in
set_option maxHeartbeats 2000000 in
theorem first_any (cv : Value) (C : Cfg) (hsm : C.small) (w : World) (h : CfgAt w cv C) : Calls Tryz.prog 111 #[cv] w fun e w' => e = .returned (.int .i64 (firstB C)) ∧ Below w.heap.size w w' := by
  have HQ := Kp.mk h
  obtain ⟨ho, pa, pc, ca, cc, a0, c0, a1, c1, rfl, bp, bc, b0, b1, hp, hc, hw0, hw1⟩ := h
  clear hp hc hw0 hw1 ho
  obtain ⟨l, hl⟩ : ∃ l, defsB C = l := ⟨_, rfl⟩
  have HL := Kp.mk hl
  have HF : Kp (firstB C = l.headD 0) := ⟨by rw [firstB, hl]⟩
  clear hl
  refine (callsIn_wide (n := 3)).1 (callsIn_of_wp_marks Tryz.func111 rfl trivial (wpIn_wide.2 ?_) rfl)
  simp only [Tryz.ntmps111, List.size_toArray, List.length_cons, List.length_nil, Nat.reduceAdd, Nat.reduceSub, Array.replicate_succ, Array.replicate_zero, List.push_toArray, List.append_toArray, List.nil_append, List.cons_append]
  go_wp2_with fail
  refine (defAll_any _ _ _ _ _ _ _).mono ?_
  rintro e w4 ⟨rfl, rfl⟩
  go_wp2_with fail
  have HB3 : Kp (Below w.heap.size w (((w.alloc (.cells #[.slice pa C.parts.length pc, .slice ca C.chans.length cc, .int .i64 C.l0, .slice a0 C.w0.length c0, .int .i64 C.l1, .slice a1 C.w1.length c1] 31)).alloc (.cells #[.int .i64 0] 3)).alloc (.cells #[.slice pa C.parts.length pc, .slice ca C.chans.length cc, .int .i64 C.l0, .slice a0 C.w0.length c0, .int .i64 C.l1, .slice a1 C.w1.length c1] 31))) := ⟨(by repeat (first | exact Below.refl _ _ | apply below_al))⟩
  have k0 : Kp ((((w.alloc (.cells #[.slice pa C.parts.length pc, .slice ca C.chans.length cc, .int .i64 C.l0, .slice a0 C.w0.length c0, .int .i64 C.l1, .slice a1 C.w1.length c1] 31)).alloc (.cells #[.int .i64 0] 3)).alloc (.cells #[.slice pa C.parts.length pc, .slice ca C.chans.length cc, .int .i64 C.l0, .slice a0 C.w0.length c0, .int .i64 C.l1, .slice a1 C.w1.length c1] 31)).heap[w.heap.size + 1]? = some (.cells #[.int .i64 0] 3 (0, 0))) := ⟨blk_al (blk_at (w := (w.alloc (.cells #[.slice pa C.parts.length pc, .slice ca C.chans.length cc, .int .i64 C.l0, .slice a0 C.w0.length c0, .int .i64 C.l1, .slice a1 C.w1.length c1] 31))) (by simp) _) _⟩
  have k2 : Kp ((((w.alloc (.cells #[.slice pa C.parts.length pc, .slice ca C.chans.length cc, .int .i64 C.l0, .slice a0 C.w0.length c0, .int .i64 C.l1, .slice a1 C.w1.length c1] 31)).alloc (.cells #[.int .i64 0] 3)).alloc (.cells #[.slice pa C.parts.length pc, .slice ca C.chans.length cc, .int .i64 C.l0, .slice a0 C.w0.length c0, .int .i64 C.l1, .slice a1 C.w1.length c1] 31)).heap[w.heap.size + 1 + 1]? = some (.cells #[.slice pa C.parts.length pc, .slice ca C.chans.length cc, .int .i64 C.l0, .slice a0 C.w0.length c0, .int .i64 C.l1, .slice a1 C.w1.length c1] 31 (0, 0))) := ⟨blk_at (w := (w.alloc (.cells #[.slice pa C.parts.length pc, .slice ca C.chans.length cc, .int .i64 C.l0, .slice a0 C.w0.length c0, .int .i64 C.l1, .slice a1 C.w1.length c1] 31)).alloc (.cells #[.int .i64 0] 3)) (by simp) _⟩
  have HSZ : Kp ((((w.alloc (.cells #[.slice pa C.parts.length pc, .slice ca C.chans.length cc, .int .i64 C.l0, .slice a0 C.w0.length c0, .int .i64 C.l1, .slice a1 C.w1.length c1] 31)).alloc (.cells #[.int .i64 0] 3)).alloc (.cells #[.slice pa C.parts.length pc, .slice ca C.chans.length cc, .int .i64 C.l0, .slice a0 C.w0.length c0, .int .i64 C.l1, .slice a1 C.w1.length c1] 31)).heap.size = w.heap.size + 1 + 1 + 1) := ⟨by simp⟩
  generalize (((w.alloc (.cells #[.slice pa C.parts.length pc, .slice ca C.chans.length cc, .int .i64 C.l0, .slice a0 C.w0.length c0, .int .i64 C.l1, .slice a1 C.w1.length c1] 31)).alloc (.cells #[.int .i64 0] 3)).alloc (.cells #[.slice pa C.parts.length pc, .slice ca C.chans.length cc, .int .i64 C.l0, .slice a0 C.w0.length c0, .int .i64 C.l1, .slice a1 C.w1.length c1] 31)) = W0 at HB3 k0 k2 HSZ ⊢
  have HST := Kp.mk (defAll_stops 2 (by omega) (w.heap.size + 1 + 1) C hsm _ w W0 HQ.out HB3.out k2.out)
  rw [HL.out] at HST
  obtain ⟨nn, hnn⟩ : ∃ nn, w.heap.size = nn := ⟨_, rfl⟩
  have HNN := Kp.mk hnn
  rw [hnn] at k0 k2 HSZ HB3 HST ⊢
  have hW0 : nn + 1 + 1 + 1 ≤ W0.heap.size := Nat.le_of_eq HSZ.out.symm
  clear hnn
  refine wp_range (fun t x => (t.setIfInBounds 6 (.int .i64 x)).setIfInBounds 3 (.int .i64 x)) rfl (enters_of Tryz.func117 (by kernel_rfl) rfl)
    HST.out KeepU.trans (KeepU.put (by omega)) (fun _ => rfl)
    (firstI nn (nn + 1) w) (firstX nn (nn + 1) w)
    (fun s A B row hs hg hr => firstI_calm hs (B := W0.heap.size) (by omega) (Nat.le_of_eq HNN.out.symm) hg hr)
    (fun c s A B row hs hg hr => firstX_calm hs (B := W0.heap.size) (by omega) (Nat.le_of_eq HNN.out.symm) hg hr)
    ⟨rfl, k0.out, HB3.out⟩ ?assign ?body ?done ?stop
  case assign =>
    intro l x W K hK
    gi_wp2
    exact hK
  case body =>
    rintro l pre x W ⟨rfl, g0, hB⟩ hlt
    have c0 : W.cell? ⟨nn + 1, 0, none⟩ = some (.int .i64 0) := (cell_blk g0 0).trans rfl
    have f0 : W.frozen? ⟨nn + 1, 0, none⟩ = false := frozen_blk g0 0
    have G0 := Kp.mk g0
    have HB := Kp.mk hB
    clear g0 hB
    dsimp only
    gi_wp2
    refine ⟨(Rnd.set (T := 31) (n₀ := nn) (B := W0.heap.size) G0.out (by decide) (by omega) 0 (.int .i64 x)).2, rfl, x, rfl, (blk_set G0.out 0 _).trans rfl, HB.out.setCell (by simp) _⟩
  case done =>
    rintro D ys W hD rfl ⟨hys, g0, hB⟩ hK
    have HYS := Kp.mk hys
    clear hys
    have c0 : W.cell? ⟨nn + 1, 0, none⟩ = some (.int .i64 0) := (cell_blk g0 0).trans rfl
    have f0 : W.frozen? ⟨nn + 1, 0, none⟩ = false := frozen_blk g0 0
    go_wp2
    have G0 := blk_set g0 0 (.int .i64 0)
    have hne : D ≠ nn + 1 := by omega
    have hK2 : (W.setCell ⟨nn + 1, 0, none⟩ (.int .i64 0)).heap[D]? = some (.deferred (some [])) := blk_set_ne hK (p := ⟨nn + 1, 0, none⟩) hne _
    have c1 : ((W.setCell ⟨nn + 1, 0, none⟩ (.int .i64 0)).putObj D (.deferred none)).cell? ⟨nn + 1, 0, none⟩ = some (.int .i64 0) := (World.cell?_of_block (World.putObj_heap_other (by show nn + 1 ≠ D; omega))).trans ((cell_blk G0 0).trans rfl)
    have hx : firstB C = 0 := by rw [HF.out, HYS.out]; rfl
    have hB2 : Below nn w (W.setCell ⟨nn + 1, 0, none⟩ (.int .i64 0)) := hB.setCell (by simp) _
    refine ⟨by simp, .inl ⟨_, _, rfl, run_takeDeferred hK2, ?_⟩⟩
    refine ⟨_, (show (results Tryz.f111 _).run Tryz.prog ((W.setCell ⟨nn + 1, 0, none⟩ (.int .i64 0)).putObj D (.deferred none)) = .ok (.int .i64 0) _ from by rw [results_cell rfl]; simp [go_sem, c1]), by rw [hx], ?_⟩
    rw [HNN.out]
    exact hB2.grown (grownBy_putObj' _ D _) (by have := hB2.size; have := HNN.out; omega) (fun k e => by cases e; omega)
  case stop =>
    rintro D c pre W hD hpre ⟨rfl, x, rfl, g0, hB⟩ hK
    have c0 : W.cell? ⟨nn + 1, 0, none⟩ = some (.int .i64 x) := (cell_blk g0 0).trans rfl
    go_wp2
    have c1 : (W.putObj D (.deferred none)).cell? ⟨nn + 1, 0, none⟩ = some (.int .i64 x) := (World.cell?_of_block (World.putObj_heap_other (by have := HSZ.out; show nn + 1 ≠ D; omega))).trans c0
    have hx : firstB C = x := by
      rw [HF.out]
      obtain ⟨r, hr⟩ := hpre
      rw [← hr]; rfl
    refine ⟨by simp, .inl ⟨_, _, rfl, run_takeDeferred hK, ?_⟩⟩
    refine ⟨_, (show (results Tryz.f111 _).run Tryz.prog (W.putObj D (.deferred none)) = .ok (.int .i64 x) (W.putObj D (.deferred none)) from by rw [results_cell rfl]; simp [go_sem, c1]), by rw [hx], ?_⟩
    · rw [HNN.out]
      exact hB.grown (grownBy_putObj' W D _) (by have := hB.size; have := HNN.out; omega) (fun k e => by cases e; omega)

set_option maxHeartbeats 400000 in
theorem accepts_any (cv : Value) (C : Cfg) (hsm : C.small) (w : World) (h : CfgAt w cv C) : Calls Tryz.prog 105 #[cv] w fun e w' => e = .returned (.bool (firstB C == 0)) ∧ Below w.heap.size w w' := by
  have HC := Kp.mk h
  obtain ⟨ho, pa, pc, ca, cc, a0, c0, a1, c1, rfl, bp, bc, b0, b1, hp, hc, hw0, hw1⟩ := h
  go_enter Tryz.func105, Tryz.ntmps105
  go_wp2_with fail
  refine (first_any _ C hsm _ (HC.out.below (by repeat (first | exact Below.refl _ _ | apply below_al)))).mono ?_
  rintro e w1 ⟨rfl, hb1⟩
  go_wp2
  go_ret
  exact ⟨rfl, below_call (by repeat (first | exact Below.refl _ _ | apply below_al)) hb1⟩
end
section
open Go.RowKit
set_option linter.unusedSimpArgs false
set_option linter.unusedVariables false

def holdsB (C : Cfg) (k : Int) : Bool := inB k 1 17 && ruleB k.toNat C
end
end Go.Proofs.YtmidcnfmphlneaaGreat

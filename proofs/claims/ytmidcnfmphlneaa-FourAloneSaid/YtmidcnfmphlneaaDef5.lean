/- Contracts of package defect: the list of rules; Holds. -/
import Derived.Test.YtmidcnfmphlneaaDef4
namespace Go.Proofs.Ytmidcnfmphlneaa
open Go.RowKit
set_option linter.unusedSimpArgs false
set_option linter.unusedVariables false

def ruleB : Nat → Cfg → Bool
  | 1, C => !inB C.parts.length 1 6
  | 2, C => C.parts.any fun x => !inB x.1 0 1
  | 3, C => C.parts.any fun x => !inB x.2 0 64
  | 4, C => decide (8 < C.chans.length)
  | 5, C => C.chans.any fun x => x.kind != 1 && x.kind != 2
  | 6, C => C.chans.any fun x => strangeB C x.frm || strangeB C x.to
  | 7, C => C.chans.any fun x => x.frm == x.to
  | 8, C => C.chans.any fun x => !inB x.words 1 16
  | 9, C => C.chans.any fun x => !deepB x
  | 10, C => C.chans.any fun x => !freshB x
  | 11, C => C.chans.any fun x => x.kind == 1 && x.boot != 0
  | 12, C => !inB C.l0 1 64 || !inB C.l1 1 64
  | 13, C => decide (16 < C.w0.length) || decide (16 < C.w1.length)
  | 14, C => C.w0.any (foreignB C false) || C.w1.any (foreignB C true)
  | 15, C => C.w0.any (outsideB C false) || C.w1.any (outsideB C true)
  | 16, C => crossB C.w0 || crossB C.w1
  | 17, C => idleK C C.parts.length
  | _, _ => false
theorem entersR1 : Enters 64 := enters_at Try.func64 (by kernel_rfl) rfl
theorem entersR2 : Enters 67 := enters_at Try.func67 (by kernel_rfl) rfl
theorem entersR3 : Enters 68 := enters_at Try.func68 (by kernel_rfl) rfl
theorem entersR4 : Enters 69 := enters_at Try.func69 (by kernel_rfl) rfl
theorem entersR5 : Enters 71 := enters_at Try.func71 (by kernel_rfl) rfl
theorem entersR6 : Enters 72 := enters_at Try.func72 (by kernel_rfl) rfl
theorem entersR7 : Enters 74 := enters_at Try.func74 (by kernel_rfl) rfl
theorem entersR8 : Enters 75 := enters_at Try.func75 (by kernel_rfl) rfl
theorem entersR9 : Enters 76 := enters_at Try.func76 (by kernel_rfl) rfl
theorem entersR10 : Enters 78 := enters_at Try.func78 (by kernel_rfl) rfl
theorem entersR11 : Enters 80 := enters_at Try.func80 (by kernel_rfl) rfl
theorem entersR12 : Enters 82 := enters_at Try.func82 (by kernel_rfl) rfl
theorem entersR13 : Enters 83 := enters_at Try.func83 (by kernel_rfl) rfl
theorem entersForeign : Enters 85 := enters_at Try.func85 (by kernel_rfl) rfl
theorem entersOutside : Enters 86 := enters_at Try.func86 (by kernel_rfl) rfl
theorem entersCrossed : Enters 87 := enters_at Try.func87 (by kernel_rfl) rfl
theorem entersIdle : Enters 88 := enters_at Try.func88 (by kernel_rfl) rfl
theorem outside_any (cv : Value) (C : Cfg) (core : Bool) (x : Win) (w : World) (h : CfgAt w cv C) : Calls Try.prog 86 #[cv, .int .i64 (cI core), .agg #[.int .i64 x.part, .int .i64 x.start, .int .i64 x.len]] w fun e w' => e = .returned (.bool (outsideB C core x)) ∧ Below w.heap.size w w' := by
  cases core
  · exact outside0_any cv C x w h
  · exact outside1_any cv C x w h
theorem crossed_any (cv : Value) (C : Cfg) (core : Bool) (hs : C.small) (w : World) (h : CfgAt w cv C) : Calls Try.prog 87 #[cv, .int .i64 (cI core)] w fun e w' => e = .returned (.bool (crossB (C.win core))) ∧ Below w.heap.size w w' := by
  cases core
  · exact crossed0_any cv C hs.2.2.1 w h
  · exact crossed1_any cv C hs.2.2.2 w h
theorem ruleOk_plain {p : Cfg → Bool} {w : World} (fn : FuncId) (hE : Enters fn) (h : ∀ w1 cv C, CfgAt w1 cv C → C.small → Calls Try.prog fn #[cv] w1 fun e w' => e = .returned (.bool (p C)) ∧ Below w1.heap.size w1 w') : RuleOk w (.func (.func fn) #[] #[]) p :=
  ⟨[], by simp, fn, #[], rfl, hE, fun w1 cv C _ hc hs => h w1 cv C hc hs⟩
/-- The list of rules, in block R. -/
def RulesAt (w : World) (R : Nat) : Prop := ∃ fs : Array Value, w.heap[R]? = some (.cells fs 112 (0, 0)) ∧ ∀ k, k < 17 → ∃ f, fs[k]? = some f ∧ RuleOk w f (ruleB (k + 1))
theorem RulesAt.below {w w1 : World} {R : Nat} (h : RulesAt w R) (hb : Below w.heap.size w w1) : RulesAt w1 R := by
  obtain ⟨fs, h1, h2⟩ := h
  exact ⟨fs, blk_below h1 hb, fun k hk => by
    obtain ⟨f, h3, h4⟩ := h2 k hk
    exact ⟨f, h3, h4.below hb⟩⟩

set_option maxRecDepth 100000 in
set_option maxHeartbeats 4000000 in
theorem rules_any (w : World) : Calls Try.prog 62 #[] w fun e w' => ∃ R, e = .returned (.slice (some ⟨R, 0, none⟩) 17 17) ∧ Kp (RulesAt w' R) ∧ Below w.heap.size w w' ∧ w.heap.size ≤ R := by
  go_enter Try.func62, Try.ntmps62
  go_wp2_with fail
  refine (part_any 67 (fun x => !inB x.1 0 1) entersR2 (fun x w => rule2_any x w) _).mono ?_
  rintro e w1 ⟨f2, nb, rfl, hb, _, hr⟩
  have r2 : Kp (RuleOk w1 f2 (ruleB 2)) := ⟨_, hr.out⟩
  have B1 := Kp.mk hb
  clear hb hr
  go_wp2_with fail
  refine (part_any 68 (fun x => !inB x.2 0 64) entersR3 (fun x w => rule3_any x w) _).mono ?_
  rintro e w2 ⟨f3, nb, rfl, hb, _, hr⟩
  have r3 : Kp (RuleOk w2 f3 (ruleB 3)) := ⟨_, hr.out⟩
  have B2 := Kp.mk hb
  clear hb hr
  go_wp2_with fail
  refine (channel_any 71 (fun C x => x.kind != 1 && x.kind != 2) entersR5 (fun cv C x w h => rule5_any cv C x w h) _).mono ?_
  rintro e w3 ⟨f5, nb, rfl, hb, _, hr⟩
  have r5 : Kp (RuleOk w3 f5 (ruleB 5)) := ⟨_, hr.out⟩
  have B3 := Kp.mk hb
  clear hb hr
  go_wp2_with fail
  refine (channel_any 72 (fun C x => strangeB C x.frm || strangeB C x.to) entersR6 (fun cv C x w h => rule6_any cv C x w h) _).mono ?_
  rintro e w4 ⟨f6, nb, rfl, hb, _, hr⟩
  have r6 : Kp (RuleOk w4 f6 (ruleB 6)) := ⟨_, hr.out⟩
  have B4 := Kp.mk hb
  clear hb hr
  go_wp2_with fail
  refine (channel_any 74 (fun C x => x.frm == x.to) entersR7 (fun cv C x w h => rule7_any cv C x w h) _).mono ?_
  rintro e w5 ⟨f7, nb, rfl, hb, _, hr⟩
  have r7 : Kp (RuleOk w5 f7 (ruleB 7)) := ⟨_, hr.out⟩
  have B5 := Kp.mk hb
  clear hb hr
  go_wp2_with fail
  refine (channel_any 75 (fun C x => !inB x.words 1 16) entersR8 (fun cv C x w h => rule8_any cv C x w h) _).mono ?_
  rintro e w6 ⟨f8, nb, rfl, hb, _, hr⟩
  have r8 : Kp (RuleOk w6 f8 (ruleB 8)) := ⟨_, hr.out⟩
  have B6 := Kp.mk hb
  clear hb hr
  go_wp2_with fail
  refine (channel_any 76 (fun C x => !deepB x) entersR9 (fun cv C x w h => rule9_any cv C x w h) _).mono ?_
  rintro e w7 ⟨f9, nb, rfl, hb, _, hr⟩
  have r9 : Kp (RuleOk w7 f9 (ruleB 9)) := ⟨_, hr.out⟩
  have B7 := Kp.mk hb
  clear hb hr
  go_wp2_with fail
  refine (channel_any 78 (fun C x => !freshB x) entersR10 (fun cv C x w h => rule10_any cv C x w h) _).mono ?_
  rintro e w8 ⟨f10, nb, rfl, hb, _, hr⟩
  have r10 : Kp (RuleOk w8 f10 (ruleB 10)) := ⟨_, hr.out⟩
  have B8 := Kp.mk hb
  clear hb hr
  go_wp2_with fail
  refine (channel_any 80 (fun C x => x.kind == 1 && x.boot != 0) entersR11 (fun cv C x w h => rule11_any cv C x w h) _).mono ?_
  rintro e w9 ⟨f11, nb, rfl, hb, _, hr⟩
  have r11 : Kp (RuleOk w9 f11 (ruleB 11)) := ⟨_, hr.out⟩
  have B9 := Kp.mk hb
  clear hb hr
  go_wp2_with fail
  refine (frame_any 82 #[] (fun C core => !inB (C.len core) 1 64) entersR12 [] _ (by simp) (fun w1 _ cv C core h _ => rule12_any cv C core w1 h)).mono ?_
  rintro e w10 ⟨f12, nb, rfl, hb, _, hr⟩
  have r12 : Kp (RuleOk w10 f12 (ruleB 12)) := ⟨_, hr.out⟩
  have B10 := Kp.mk hb
  clear hb hr
  go_wp2_with fail
  refine (frame_any 83 #[] (fun C core => decide (16 < (C.win core).length)) entersR13 [] _ (by simp) (fun w1 _ cv C core h _ => rule13_any cv C core w1 h)).mono ?_
  rintro e w11 ⟨f13, nb, rfl, hb, _, hr⟩
  have r13 : Kp (RuleOk w11 f13 (ruleB 13)) := ⟨_, hr.out⟩
  have B11 := Kp.mk hb
  clear hb hr
  go_wp2_with fail
  refine (window_any 85 (fun C core x => foreignB C core x) entersForeign (fun cv C core x w h => foreign_any cv C core x w h) _).mono ?_
  rintro e w12 ⟨f14, rfl, hb, r14⟩
  have B12 := Kp.mk hb
  clear hb
  go_wp2_with fail
  refine (window_any 86 (fun C core x => outsideB C core x) entersOutside (fun cv C core x w h => outside_any cv C core x w h) _).mono ?_
  rintro e w13 ⟨f15, rfl, hb, r15⟩
  have B13 := Kp.mk hb
  clear hb
  go_wp2_with fail
  refine (frame_any 87 #[] (fun C core => crossB (C.win core)) entersCrossed [] _ (by simp) (fun w1 _ cv C core h hs => crossed_any cv C core hs w1 h)).mono ?_
  rintro e w14 ⟨f16, nb, rfl, hb, _, hr⟩
  have r16 : Kp (RuleOk w14 f16 (ruleB 16)) := ⟨_, hr.out⟩
  have B14 := Kp.mk hb
  clear hb hr
  go_wp2
  go_ret
  have T14 : Kp (Below w14.heap.size w14 (w14.alloc (.cells #[.func (.func 64) #[] #[], f2, f3, .func (.func 69) #[] #[], f5, f6, f7, f8, f9, f10, f11, f12, f13, f14, f15, f16, .func (.func 88) #[] #[]] 112))) := ⟨below_al (Below.refl _ _) _⟩
  have T13 : Kp (Below w13.heap.size w13 (w14.alloc (.cells #[.func (.func 64) #[] #[], f2, f3, .func (.func 69) #[] #[], f5, f6, f7, f8, f9, f10, f11, f12, f13, f14, f15, f16, .func (.func 88) #[] #[]] 112))) := ⟨below_call B14.out T14.out⟩
  have T12 : Kp (Below w12.heap.size w12 (w14.alloc (.cells #[.func (.func 64) #[] #[], f2, f3, .func (.func 69) #[] #[], f5, f6, f7, f8, f9, f10, f11, f12, f13, f14, f15, f16, .func (.func 88) #[] #[]] 112))) := ⟨below_call B13.out T13.out⟩
  have T11 : Kp (Below w11.heap.size w11 (w14.alloc (.cells #[.func (.func 64) #[] #[], f2, f3, .func (.func 69) #[] #[], f5, f6, f7, f8, f9, f10, f11, f12, f13, f14, f15, f16, .func (.func 88) #[] #[]] 112))) := ⟨below_call B12.out T12.out⟩
  have T10 : Kp (Below w10.heap.size w10 (w14.alloc (.cells #[.func (.func 64) #[] #[], f2, f3, .func (.func 69) #[] #[], f5, f6, f7, f8, f9, f10, f11, f12, f13, f14, f15, f16, .func (.func 88) #[] #[]] 112))) := ⟨below_call B11.out T11.out⟩
  have T9 : Kp (Below w9.heap.size w9 (w14.alloc (.cells #[.func (.func 64) #[] #[], f2, f3, .func (.func 69) #[] #[], f5, f6, f7, f8, f9, f10, f11, f12, f13, f14, f15, f16, .func (.func 88) #[] #[]] 112))) := ⟨below_call B10.out T10.out⟩
  have T8 : Kp (Below w8.heap.size w8 (w14.alloc (.cells #[.func (.func 64) #[] #[], f2, f3, .func (.func 69) #[] #[], f5, f6, f7, f8, f9, f10, f11, f12, f13, f14, f15, f16, .func (.func 88) #[] #[]] 112))) := ⟨below_call B9.out T9.out⟩
  have T7 : Kp (Below w7.heap.size w7 (w14.alloc (.cells #[.func (.func 64) #[] #[], f2, f3, .func (.func 69) #[] #[], f5, f6, f7, f8, f9, f10, f11, f12, f13, f14, f15, f16, .func (.func 88) #[] #[]] 112))) := ⟨below_call B8.out T8.out⟩
  have T6 : Kp (Below w6.heap.size w6 (w14.alloc (.cells #[.func (.func 64) #[] #[], f2, f3, .func (.func 69) #[] #[], f5, f6, f7, f8, f9, f10, f11, f12, f13, f14, f15, f16, .func (.func 88) #[] #[]] 112))) := ⟨below_call B7.out T7.out⟩
  have T5 : Kp (Below w5.heap.size w5 (w14.alloc (.cells #[.func (.func 64) #[] #[], f2, f3, .func (.func 69) #[] #[], f5, f6, f7, f8, f9, f10, f11, f12, f13, f14, f15, f16, .func (.func 88) #[] #[]] 112))) := ⟨below_call B6.out T6.out⟩
  have T4 : Kp (Below w4.heap.size w4 (w14.alloc (.cells #[.func (.func 64) #[] #[], f2, f3, .func (.func 69) #[] #[], f5, f6, f7, f8, f9, f10, f11, f12, f13, f14, f15, f16, .func (.func 88) #[] #[]] 112))) := ⟨below_call B5.out T5.out⟩
  have T3 : Kp (Below w3.heap.size w3 (w14.alloc (.cells #[.func (.func 64) #[] #[], f2, f3, .func (.func 69) #[] #[], f5, f6, f7, f8, f9, f10, f11, f12, f13, f14, f15, f16, .func (.func 88) #[] #[]] 112))) := ⟨below_call B4.out T4.out⟩
  have T2 : Kp (Below w2.heap.size w2 (w14.alloc (.cells #[.func (.func 64) #[] #[], f2, f3, .func (.func 69) #[] #[], f5, f6, f7, f8, f9, f10, f11, f12, f13, f14, f15, f16, .func (.func 88) #[] #[]] 112))) := ⟨below_call B3.out T3.out⟩
  have T1 : Kp (Below w1.heap.size w1 (w14.alloc (.cells #[.func (.func 64) #[] #[], f2, f3, .func (.func 69) #[] #[], f5, f6, f7, f8, f9, f10, f11, f12, f13, f14, f15, f16, .func (.func 88) #[] #[]] 112))) := ⟨below_call B2.out T2.out⟩
  have T0 : Kp (Below w.heap.size w (w14.alloc (.cells #[.func (.func 64) #[] #[], f2, f3, .func (.func 69) #[] #[], f5, f6, f7, f8, f9, f10, f11, f12, f13, f14, f15, f16, .func (.func 88) #[] #[]] 112))) := ⟨below_call B1.out T1.out⟩
  refine ⟨_, rfl, ⟨_, blk_new _ _, fun k hk => ?_⟩, T0.out, by have := B1.out.size; have h2 := (below_call B1.out T1.out).size; exact (show w.heap.size ≤ w14.heap.size from by have b1 := B1.out.size; have b2 := B2.out.size; have b3 := B3.out.size; have b4 := B4.out.size; have b5 := B5.out.size; have b6 := B6.out.size; have b7 := B7.out.size; have b8 := B8.out.size; have b9 := B9.out.size; have b10 := B10.out.size; have b11 := B11.out.size; have b12 := B12.out.size; have b13 := B13.out.size; have b14 := B14.out.size; omega)⟩
  exact match k, hk with
    | 0, _ => ⟨_, rfl, ruleOk_plain 64 entersR1 (fun w1 cv C h _ => rule1_any cv C w1 h)⟩
    | 1, _ => ⟨_, rfl, r2.out.below T1.out⟩
    | 2, _ => ⟨_, rfl, r3.out.below T2.out⟩
    | 3, _ => ⟨_, rfl, ruleOk_plain 69 entersR4 (fun w1 cv C h _ => rule4_any cv C w1 h)⟩
    | 4, _ => ⟨_, rfl, r5.out.below T3.out⟩
    | 5, _ => ⟨_, rfl, r6.out.below T4.out⟩
    | 6, _ => ⟨_, rfl, r7.out.below T5.out⟩
    | 7, _ => ⟨_, rfl, r8.out.below T6.out⟩
    | 8, _ => ⟨_, rfl, r9.out.below T7.out⟩
    | 9, _ => ⟨_, rfl, r10.out.below T8.out⟩
    | 10, _ => ⟨_, rfl, r11.out.below T9.out⟩
    | 11, _ => ⟨_, rfl, r12.out.below T10.out⟩
    | 12, _ => ⟨_, rfl, r13.out.below T11.out⟩
    | 13, _ => ⟨_, rfl, r14.out.below T12.out⟩
    | 14, _ => ⟨_, rfl, r15.out.below T13.out⟩
    | 15, _ => ⟨_, rfl, r16.out.below T14.out⟩
    | 16, _ => ⟨_, rfl, ruleOk_plain 88 entersIdle (fun w1 cv C h hs => idle_any cv C hs w1 h)⟩
    | k + 17, hk => absurd hk (by omega)
end Go.Proofs.Ytmidcnfmphlneaa

/- What an accepted configuration is: no defect holds. -/
import Derived.Test.YtmidcnfmphlneaaRef7e
namespace Go.Proofs.Ytmidcnfmphlneaa
open Go.RowKit
set_option linter.unusedSimpArgs false
set_option linter.unusedVariables false

theorem acc_rules {C : Cfg} (h : accB C = true) (k : Nat) (hk : k < 17) : ruleB (k + 1) C = false := by
  rw [← Bool.not_eq_true]
  intro hr
  have hm : (k : Int) + 1 ∈ defsB C := by
    simp only [defsB, defsK, List.mem_map, List.mem_filter, List.mem_range]
    exact ⟨k, ⟨hk, hr⟩, rfl⟩
  rw [accB, List.isEmpty_iff] at h
  rw [h] at hm
  cases hm
theorem not_false_b {b : Bool} (h : (!b) = false) : b = true := by cases b <;> simp_all
theorem any_false {α : Type} {l : List α} {p : α → Bool} (h : l.any p = false) : ∀ x ∈ l, p x = false := fun x hx => by
  rw [← Bool.not_eq_true]
  intro hp
  rw [List.any_eq_true.2 ⟨x, hx, hp⟩] at h
  cases h
def ChnOk (C : Cfg) (x : Chn) : Prop := (x.kind = 1 ∨ x.kind = 2) ∧ (0 ≤ x.frm ∧ x.frm < C.parts.length) ∧ (0 ≤ x.to ∧ x.to < C.parts.length) ∧ x.frm ≠ x.to ∧ (1 ≤ x.words ∧ x.words ≤ 16) ∧
  (x.kind = 1 → x.depth = 0 ∧ 0 ≤ x.period ∧ x.period ≤ 1048576 ∧ x.boot = 0) ∧ (x.kind = 2 → (x.depth = 1 ∨ x.depth = 2 ∨ x.depth = 4 ∨ x.depth = 8) ∧ x.period = 0)
def WinOk (C : Cfg) (core : Bool) (x : Win) : Prop := (0 ≤ x.part ∧ x.part < C.parts.length) ∧ (C.parts.getD x.part.toNat (0, 0)).1 = cI core ∧ 0 ≤ x.start ∧ 1 ≤ x.len ∧ x.start + x.len ≤ C.len core
structure Acc (C : Cfg) : Prop where
  np : 1 ≤ C.parts.length ∧ C.parts.length ≤ 6
  parts : ∀ p ∈ C.parts, (p.1 = 0 ∨ p.1 = 1) ∧ 0 ≤ p.2 ∧ p.2 ≤ 64
  nc : C.chans.length ≤ 8
  chans : ∀ x ∈ C.chans, ChnOk C x
  len : ∀ core, 1 ≤ C.len core ∧ C.len core ≤ 64
  nw : ∀ core, (C.win core).length ≤ 16
  wins : ∀ core, ∀ x ∈ C.win core, WinOk C core x
  next : ∀ core i u x, (C.win core)[i]? = some u → (C.win core)[i + 1]? = some x → u.start + u.len ≤ x.start
  idle : ∀ p, p < C.parts.length → ∃ core, (C.parts.getD p (0, 0)).1 = cI core ∧ ∃ x ∈ C.win core, x.part = (p : Int)
theorem strangeB_false {C : Cfg} {p : Int} (h : strangeB C p = false) : 0 ≤ p ∧ p < C.parts.length := by
  simp only [strangeB, Bool.not_eq_false', inB_iff] at h
  omega
theorem winOk_of {C : Cfg} {core : Bool} {x : Win} (h1 : foreignB C core x = false) (h2 : outsideB C core x = false) : WinOk C core x := by
  simp only [foreignB, Bool.or_eq_false_iff, bne_eq_false_iff_eq] at h1
  simp only [outsideB, beyondB, Bool.or_eq_false_iff, decide_eq_false_iff_not] at h2
  exact ⟨strangeB_false h1.1, h1.2, by omega, by omega, by omega⟩
theorem acc_of {C : Cfg} (h : accB C = true) : Acc C := by
  have r := acc_rules h
  have r1 : (!inB C.parts.length 1 6) = false := r 0 (by omega)
  have r2 : (C.parts.any fun x => !inB x.1 0 1) = false := r 1 (by omega)
  have r3 : (C.parts.any fun x => !inB x.2 0 64) = false := r 2 (by omega)
  have r4 : decide (8 < C.chans.length) = false := r 3 (by omega)
  have r5 : (C.chans.any fun x => x.kind != 1 && x.kind != 2) = false := r 4 (by omega)
  have r6 : (C.chans.any fun x => strangeB C x.frm || strangeB C x.to) = false := r 5 (by omega)
  have r7 : (C.chans.any fun x => x.frm == x.to) = false := r 6 (by omega)
  have r8 : (C.chans.any fun x => !inB x.words 1 16) = false := r 7 (by omega)
  have r9 : (C.chans.any fun x => !deepB x) = false := r 8 (by omega)
  have r10 : (C.chans.any fun x => !freshB x) = false := r 9 (by omega)
  have r11 : (C.chans.any fun x => x.kind == 1 && x.boot != 0) = false := r 10 (by omega)
  have r12 : (!inB C.l0 1 64 || !inB C.l1 1 64) = false := r 11 (by omega)
  have r13 : (decide (16 < C.w0.length) || decide (16 < C.w1.length)) = false := r 12 (by omega)
  have r14 : (C.w0.any (foreignB C false) || C.w1.any (foreignB C true)) = false := r 13 (by omega)
  have r15 : (C.w0.any (outsideB C false) || C.w1.any (outsideB C true)) = false := r 14 (by omega)
  have r16 : (crossB C.w0 || crossB C.w1) = false := r 15 (by omega)
  have r17 : idleK C C.parts.length = false := r 16 (by omega)
  rw [Bool.or_eq_false_iff] at r12 r13 r14 r15 r16
  have hp : 1 ≤ C.parts.length ∧ C.parts.length ≤ 6 := by
    have h1 := inB_iff.1 (not_false_b r1)
    omega
  have hwin : ∀ core, ∀ x ∈ C.win core, WinOk C core x := fun core x hx => by
    cases core
    · exact winOk_of (any_false r14.1 x hx) (any_false r15.1 x hx)
    · exact winOk_of (any_false r14.2 x hx) (any_false r15.2 x hx)
  have hlen : ∀ core, 1 ≤ C.len core ∧ C.len core ≤ 64 := fun core => by
    cases core
    · exact inB_iff.1 (not_false_b r12.1)
    · exact inB_iff.1 (not_false_b r12.2)
  refine ⟨hp, fun p hpm => ?_, by have := of_decide_eq_false r4; omega, fun x hx => ?_, hlen, fun core => ?_, hwin, fun core i u x hu hx => ?_, fun p hpl => ?_⟩
  · have h1 := inB_iff.1 (not_false_b (any_false r2 p hpm))
    have h2 := inB_iff.1 (not_false_b (any_false r3 p hpm))
    omega
  · have h5 := any_false r5 x hx
    have h6 := any_false r6 x hx
    have h7 := any_false r7 x hx
    have h8 := inB_iff.1 (not_false_b (any_false r8 x hx))
    have h9 := not_false_b (any_false r9 x hx)
    have h10 := not_false_b (any_false r10 x hx)
    have h11 := any_false r11 x hx
    rw [Bool.or_eq_false_iff] at h6
    have hk : x.kind = 1 ∨ x.kind = 2 := by
      by_cases h1 : x.kind = 1
      · exact .inl h1
      · by_cases h2 : x.kind = 2
        · exact .inr h2
        · simp [h1, h2] at h5
    refine ⟨hk, strangeB_false h6.1, strangeB_false h6.2, by simpa using h7, h8, fun h1 => ?_, fun h2 => ?_⟩
    · rw [deepB, if_pos h1] at h9
      rw [freshB, if_pos h1] at h10
      have h10' := inB_iff.1 h10
      refine ⟨by simpa using h9, h10'.1, h10'.2, ?_⟩
      simpa [h1] using h11
    · have hn : ¬ x.kind = 1 := by omega
      rw [deepB, if_neg hn, if_pos h2] at h9
      rw [freshB, if_neg hn, if_pos h2] at h10
      simp only [Bool.or_eq_true, beq_iff_eq] at h9
      exact ⟨by omega, by simpa using h10⟩
  · cases core
    · have := of_decide_eq_false r13.1; exact Nat.not_lt.1 this
    · have := of_decide_eq_false r13.2; exact Nat.not_lt.1 this
  · have hum : u ∈ C.win core := List.mem_of_getElem? hu
    have hxm : x ∈ C.win core := List.mem_of_getElem? hx
    obtain ⟨_, _, u1, u2, u3⟩ := hwin core u hum
    obtain ⟨_, _, x1, x2, x3⟩ := hwin core x hxm
    have hl := hlen core
    have hcr : crossB (C.win core) = false := by
      cases core
      · exact r16.1
      · exact r16.2
    have hi : i + 1 < (C.win core).length := (List.getElem?_eq_some_iff.1 hx).1
    have hpair : pairB u x = false := by
      rw [← Bool.not_eq_true]
      intro hpr
      have h1 : crossK (C.win core) (i + 1 + 1) = true := by
        rw [crossK_succ, List.getD_eq_getElem?_getD, List.getD_eq_getElem?_getD, hx, show i + 1 - 1 = i by omega, hu, Option.getD_some, Option.getD_some, hpr]
        simp
      rw [crossB, crossK_mono h1 _ (by omega)] at hcr
      cases hcr
    have w1 : wordB u.start = true := inB_true (by omega)
    have w2 : wordB u.len = true := inB_true (by omega)
    have w3 : wordB x.start = true := inB_true (by omega)
    rw [pairB, w1, w2, w3] at hpair
    have := of_decide_eq_false (by simpa using hpair : decide (x.start < u.start + u.len) = false)
    omega
  · have hid : idleB C p = false := by
      rw [idleK] at r17
      exact any_false r17 p (List.mem_range.2 hpl)
    rw [idleB, Bool.or_eq_false_iff, Bool.not_eq_false', Bool.not_eq_false', inB_iff, List.any_eq_true] at hid
    obtain ⟨hc, x, hx, hxp⟩ := hid
    by_cases h0 : (C.parts.getD p (0, 0)).1 = 0
    · rw [Cfg.winI, if_pos h0] at hx
      exact ⟨false, h0, x, hx, by simpa using hxp⟩
    · rw [Cfg.winI, if_neg h0] at hx
      exact ⟨true, by show _ = (1 : Int); omega, x, hx, by simpa using hxp⟩
end Go.Proofs.Ytmidcnfmphlneaa

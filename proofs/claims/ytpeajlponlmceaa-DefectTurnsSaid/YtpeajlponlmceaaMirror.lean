/- A configuration with the two cores changed for one another has the same defects. -/
import Derived.Test.YtpeajlponlmceaaRef7e
namespace Go.Proofs.Ytpeajlponlmceaa
open Go.RowKit
set_option linter.unusedSimpArgs false
set_option linter.unusedVariables false

def swC (c : Int) : Int := if c = 0 then 1 else if c = 1 then 0 else c
def swP (p : Int × Int) : Int × Int := (swC p.1, p.2)
def mirror (C : Cfg) : Cfg := ⟨C.parts.map swP, C.chans, C.l1, C.w1, C.l0, C.w0⟩
theorem swC_in (c : Int) : inB (swC c) 0 1 = inB c 0 1 := by
  unfold swC inB
  split
  · rename_i h; subst h; rfl
  · split
    · rename_i h; subst h; rfl
    · rfl
theorem swC_ne (c : Int) (core : Bool) : (swC c != cI core) = (c != cI (!core)) := by
  rw [Bool.eq_iff_iff, bne_iff_ne, bne_iff_ne]
  unfold swC
  cases core <;> simp only [cI, Bool.not_false, Bool.not_true] <;> split <;> (try split) <;> omega
theorem mirror_len (C : Cfg) : (mirror C).parts.length = C.parts.length := by simp [mirror]
theorem mirror_strange (C : Cfg) (p : Int) : strangeB (mirror C) p = strangeB C p := by rw [strangeB, strangeB, mirror_len]
theorem mirror_at (C : Cfg) (i : Nat) (h : i < C.parts.length) : (mirror C).parts.getD i (0, 0) = swP (C.parts.getD i (0, 0)) := by
  rw [mirror, List.getD_eq_getElem?_getD, List.getD_eq_getElem?_getD, List.getElem?_map, List.getElem?_eq_getElem h]
  rfl
theorem mirror_foreign (C : Cfg) (core : Bool) (x : Win) : foreignB (mirror C) core x = foreignB C (!core) x := by
  rw [foreignB, foreignB, mirror_strange]
  cases hs : strangeB C x.part with
  | true => rfl
  | false =>
    have h : 0 ≤ x.part ∧ x.part < C.parts.length := by
      simp only [strangeB, Bool.not_eq_false', inB_iff] at hs
      omega
    rw [mirror_at C _ (by omega), Bool.false_or, Bool.false_or]
    exact swC_ne _ _
theorem mirror_outside (C : Cfg) (core : Bool) (x : Win) : outsideB (mirror C) core x = outsideB C (!core) x := by cases core <;> rfl
theorem mirror_idle (C : Cfg) (i : Nat) (h : i < C.parts.length) : idleB (mirror C) i = idleB C i := by
  rw [idleB, idleB, mirror_at C i h]
  generalize C.parts.getD i (0, 0) = p
  have h1 : (swP p).1 = swC p.1 := rfl
  rw [h1, swC_in]
  cases hi : inB p.1 0 1 with
  | false => rfl
  | true =>
    have hc := inB_iff.1 hi
    have hw : (mirror C).winI (swC p.1) = C.winI p.1 := by
      by_cases h0 : p.1 = 0
      · rw [h0]; rfl
      · have h1 : p.1 = 1 := by omega
        rw [h1]; rfl
    rw [hw]
theorem any_same {α : Type} {l : List α} {p q : α → Bool} (h : ∀ x ∈ l, p x = q x) : l.any p = l.any q := by
  induction l with
  | nil => rfl
  | cons a l ih => rw [List.any_cons, List.any_cons, h a (by simp), ih fun x hx => h x (by simp [hx])]
theorem mirror_idleK (C : Cfg) : idleK (mirror C) (mirror C).parts.length = idleK C C.parts.length := by
  rw [idleK, idleK, mirror_len]
  exact any_same fun i hi => mirror_idle C i (List.mem_range.1 hi)
theorem mirror_rule (C : Cfg) (k : Nat) (hk : k < 17) : ruleB (k + 1) (mirror C) = ruleB (k + 1) C :=
  match k, hk with
  | 0, _ => by show (!inB ((mirror C).parts.length) 1 6) = _; rw [mirror_len]; rfl
  | 1, _ => by
    show ((C.parts.map swP).any fun x => !inB x.1 0 1) = C.parts.any fun x => !inB x.1 0 1
    rw [List.any_map]
    exact any_same fun x _ => by show (!inB (swC x.1) 0 1) = _; rw [swC_in]
  | 2, _ => by
    show ((C.parts.map swP).any fun x => !inB x.2 0 64) = C.parts.any fun x => !inB x.2 0 64
    rw [List.any_map]
    exact any_same fun x _ => rfl
  | 3, _ => rfl
  | 4, _ => rfl
  | 5, _ => any_same fun x _ => by rw [mirror_strange, mirror_strange]
  | 6, _ => rfl
  | 7, _ => rfl
  | 8, _ => rfl
  | 9, _ => rfl
  | 10, _ => rfl
  | 11, _ => Bool.or_comm _ _
  | 12, _ => Bool.or_comm _ _
  | 13, _ => by
    show (C.w1.any (foreignB (mirror C) false) || C.w0.any (foreignB (mirror C) true)) = (C.w0.any (foreignB C false) || C.w1.any (foreignB C true))
    rw [Bool.or_comm, any_same (l := C.w0) (q := foreignB C false) fun x _ => mirror_foreign C true x, any_same (l := C.w1) (q := foreignB C true) fun x _ => mirror_foreign C false x]
  | 14, _ => by
    show (C.w1.any (outsideB (mirror C) false) || C.w0.any (outsideB (mirror C) true)) = (C.w0.any (outsideB C false) || C.w1.any (outsideB C true))
    rw [Bool.or_comm, any_same (l := C.w0) (q := outsideB C false) fun x _ => mirror_outside C true x, any_same (l := C.w1) (q := outsideB C true) fun x _ => mirror_outside C false x]
  | 15, _ => Bool.or_comm _ _
  | 16, _ => mirror_idleK C
  | k + 17, hk => absurd hk (by omega)
theorem defs_same {C E : Cfg} (h : ∀ k, k < 17 → ruleB (k + 1) E = ruleB (k + 1) C) : defsB E = defsB C := by
  rw [defsB, defsB, defsK, defsK]
  congr 1
  exact List.filter_congr fun i hi => h i (List.mem_range.1 hi)
theorem mirror_defs (C : Cfg) : defsB (mirror C) = defsB C := defs_same fun k hk => mirror_rule C k hk
theorem mirror_ok {C : Cfg} (h : C.ok) : (mirror C).ok := by
  obtain ⟨h1, h2, h3, h4, h5, h6⟩ := h
  refine ⟨fun p hp => ?_, h2, h4, h3, h6, h5⟩
  obtain ⟨q, hq, rfl⟩ := List.mem_map.1 hp
  refine ⟨?_, (h1 q hq).2⟩
  show I64 (swC q.1)
  unfold swC
  split
  · rfl
  · split
    · rfl
    · exact (h1 q hq).1
theorem mirror_small {C : Cfg} (h : C.small) : (mirror C).small := ⟨by rw [mirror_len]; exact h.1, h.2.1, h.2.2.2, h.2.2.1⟩
end Go.Proofs.Ytpeajlponlmceaa

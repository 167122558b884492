/- Each address within the size may be changed by just one partition: plain. -/
import Derived.Test.YtpeajlponlmceaaLayM
namespace Go.Proofs.Ytpeajlponlmceaa
open Go.RowKit
set_option linter.unusedSimpArgs false
set_option linter.unusedVariables false

def inS (x : Int × Int) (a : Int) : Prop := x.1 ≤ a ∧ a < x.1 + x.2
theorem sum_nonneg (l : List Int) (h : ∀ x ∈ l, 0 ≤ x) : 0 ≤ l.sum := by
  induction l with
  | nil => simp
  | cons s r ih =>
    have h1 := h s (by simp)
    have h2 := ih fun x hx => h x (by simp [hx])
    rw [List.sum_cons]; omega
theorem spans_at (l : List Int) (h : ∀ s ∈ l, 0 ≤ s) : ∀ (e a : Int),
    (e ≤ a ∧ a < e + l.sum → ∃ (i : Nat) (x : Int × Int), (spansF e l)[i]? = some x ∧ inS x a ∧ ∀ (j : Nat) (y : Int × Int), (spansF e l)[j]? = some y → inS y a → j = i) ∧
    (¬ (e ≤ a ∧ a < e + l.sum) → ∀ (j : Nat) (y : Int × Int), (spansF e l)[j]? = some y → ¬ inS y a) := by
  induction l with
  | nil => intro e a; exact ⟨fun hh => by simp at hh; omega, fun _ j y hy => by simp [spansF] at hy⟩
  | cons s r ih =>
    intro e a
    have hs := h s (by simp)
    obtain ⟨i1, i2⟩ := ih (fun x hx => h x (by simp [hx])) (e + s) a
    have hr : 0 ≤ r.sum := by
      have := (sum_nonneg r fun x hx => h x (by simp [hx]))
      exact this
    simp only [List.sum_cons, spansF]
    constructor
    · intro hh
      by_cases h1 : a < e + s
      · refine ⟨0, (e, s), rfl, ⟨hh.1, h1⟩, fun j y hy hin => ?_⟩
        cases j with
        | zero => rfl
        | succ j => exact absurd hin (i2 (by omega) j y (by simpa using hy))
      · obtain ⟨i, x, hx, hin, hu⟩ := i1 (by omega)
        refine ⟨i + 1, x, by simpa using hx, hin, fun j y hy hj => ?_⟩
        cases j with
        | zero =>
          simp only [List.getElem?_cons_zero, Option.some.injEq] at hy
          subst hy
          have h3 : a < e + s := hj.2
          exact absurd h3 h1
        | succ j => rw [hu j y (by simpa using hy) hj]
    · intro hh j y hy hj
      cases j with
      | zero =>
        simp only [List.getElem?_cons_zero, Option.some.injEq] at hy
        subst hy
        have h3 : e ≤ a := hj.1
        have h4 : a < e + s := hj.2
        omega
      | succ j => exact i2 (by omega) j y (by simpa using hy) hj
def ownerC (C : Cfg) (i : Nat) : Int := if i < C.parts.length then (i : Int) else if (i - C.parts.length) % 2 = 0 then (C.chans.getD ((i - C.parts.length) / 2) default).frm else (C.chans.getD ((i - C.parts.length) / 2) default).to
theorem plan_nonneg {C : Cfg} (h : accB C = true) : ∀ s ∈ sizesC C, 0 ≤ s := fun s hs => by
  rcases List.mem_append.1 hs with hs | hs
  · obtain ⟨p, hp, rfl⟩ := List.mem_map.1 hs
    exact ((acc_of h).parts p hp).2.1
  · obtain ⟨x, hx, hy⟩ := List.mem_flatMap.1 hs
    have := chn_small h hx
    simp only [pairL, List.mem_cons, List.not_mem_nil, or_false] at hy
    rcases hy with rfl | rfl <;> omega
theorem hasS_in {C : Cfg} (h : accB C = true) {i : Nat} {x : Int × Int} (hx : (planL C)[i]? = some x) (a : Int) : hasS x a = true ↔ inS x a := by
  have hi := (List.getElem?_eq_some_iff.1 hx).1
  have hl := planL_len C h
  have hb : 0 ≤ x.1 ∧ x.1 ≤ 2000 ∧ 0 ≤ x.2 ∧ x.2 ≤ 200 := by
    by_cases h1 : i < C.parts.length
    · rw [planL_priv C h i h1] at hx
      cases hx
      have := privS_small h i
      have := part_small h i h1
      simp only; omega
    · obtain ⟨k, hk⟩ : ∃ k, i = C.parts.length + k * 2 ∨ i = C.parts.length + k * 2 + 1 := ⟨(i - C.parts.length) / 2, by omega⟩
      have hkl : k < C.chans.length := by omega
      have hb1 := befC_small h k
      have hb2 := chn_small h (List.getElem_mem hkl)
      rcases hk with rfl | rfl
      · rw [planL_src C h k hkl] at hx; cases hx; simp only; omega
      · rw [planL_dst C h k hkl] at hx; cases hx; simp only; omega
  rw [hasS, hasB_true, inS]; omega
theorem mayB_iff {C : Cfg} (h : accB C = true) (q a : Int) : mayB C q a = true ↔ ∃ (i : Nat) (x : Int × Int), (planL C)[i]? = some x ∧ inS x a ∧ ownerC C i = q := by
  have hl := planL_len C h
  constructor
  · intro hm
    rw [mayB, Bool.or_eq_true] at hm
    rcases hm with hm | hm
    · by_cases hq : 0 ≤ q ∧ q < C.parts.length
      · obtain ⟨j, rfl⟩ := Int.eq_ofNat_of_zero_le hq.1
        have hj : j < C.parts.length := by omega
        have hp := privB_yes C h j hj
        rw [Nat.zero_add] at hp
        exact ⟨j, _, hp, (hasS_in h hp a).1 hm, by rw [ownerC, if_pos hj]⟩
      · rw [privB_no C q (fun hh => hq hh.2), hasS_zero] at hm; cases hm
    · obtain ⟨k, hk, hm⟩ := List.any_eq_true.1 hm
      have hk := List.mem_range.1 hk
      rw [mayK, Bool.or_eq_true, Bool.and_eq_true, Bool.and_eq_true, beq_iff_eq, beq_iff_eq] at hm
      rcases hm with ⟨hf, hs⟩ | ⟨hf, hs⟩
      · have hp := srcB_plan C h k hk
        refine ⟨_, _, hp, (hasS_in h hp a).1 hs, ?_⟩
        rw [ownerC, if_neg (by omega), if_pos (by omega), show (C.parts.length + k * 2 - C.parts.length) / 2 = k by omega]; exact hf
      · have hp := dstB_plan C h k hk
        refine ⟨_, _, hp, (hasS_in h hp a).1 hs, ?_⟩
        rw [ownerC, if_neg (by omega), if_neg (by omega), show (C.parts.length + k * 2 + 1 - C.parts.length) / 2 = k by omega]; exact hf
  · rintro ⟨i, x, hx, hin, ho⟩
    have hi := (List.getElem?_eq_some_iff.1 hx).1
    have hh := (hasS_in h hx a).2 hin
    rw [mayB, Bool.or_eq_true]
    by_cases h1 : i < C.parts.length
    · left
      rw [ownerC, if_pos h1] at ho
      have hp := privB_yes C h i h1
      rw [Nat.zero_add, hx] at hp
      rw [← ho, ← Option.some.inj hp]; exact hh
    · right
      obtain ⟨k, hk⟩ : ∃ k, i = C.parts.length + k * 2 ∨ i = C.parts.length + k * 2 + 1 := ⟨(i - C.parts.length) / 2, by omega⟩
      have hkl : k < C.chans.length := by omega
      refine mayTo_yes (k := k) ?_ hkl
      rw [mayK, Bool.or_eq_true, Bool.and_eq_true, Bool.and_eq_true, beq_iff_eq, beq_iff_eq]
      rcases hk with rfl | rfl
      · left
        rw [ownerC, if_neg (by omega), if_pos (by omega), show (C.parts.length + k * 2 - C.parts.length) / 2 = k by omega] at ho
        rw [srcB_plan C h k hkl] at hx
        exact ⟨ho, Option.some.inj hx ▸ hh⟩
      · right
        rw [ownerC, if_neg (by omega), if_neg (by omega), show (C.parts.length + k * 2 + 1 - C.parts.length) / 2 = k by omega] at ho
        rw [dstB_plan C h k hkl] at hx
        exact ⟨ho, Option.some.inj hx ▸ hh⟩
theorem owner_part {C : Cfg} (h : accB C = true) {i : Nat} {x : Int × Int} (hx : (planL C)[i]? = some x) : 0 ≤ ownerC C i ∧ ownerC C i < C.parts.length := by
  have hi := (List.getElem?_eq_some_iff.1 hx).1
  have hl := planL_len C h
  rw [ownerC]
  by_cases h1 : i < C.parts.length
  · rw [if_pos h1]; omega
  · rw [if_neg h1]
    have hk : (i - C.parts.length) / 2 < C.chans.length := by omega
    obtain ⟨_, h2, h3, _⟩ := (acc_of h).chans _ (List.getElem_mem hk)
    rw [getD_at _ _ _ hk]
    split
    · exact h2
    · exact h3
/-- How many of the first partitions may change an address. -/
def mayN (C : Cfg) (a : Int) (k : Nat) : Nat := ((List.range k).filter fun q : Nat => mayB C (q : Int) a).length
theorem mayN_zero (C : Cfg) (a : Int) : mayN C a 0 = 0 := rfl
theorem mayN_succ (C : Cfg) (a : Int) (k : Nat) : mayN C a (k + 1) = mayN C a k + (if mayB C (k : Int) a = true then 1 else 0) := by
  rw [mayN, List.range_succ, List.filter_append, List.length_append]
  by_cases h : mayB C (k : Int) a = true
  · rw [if_pos h, List.filter_cons_of_pos (by simpa using h)]; rfl
  · rw [if_neg h, List.filter_cons_of_neg (by simpa using h)]; rfl
theorem mayN_le (C : Cfg) (a : Int) (k : Nat) : mayN C a k ≤ k := Nat.le_trans (List.length_filter_le _ _) (by simp)
def insB (C : Cfg) (a : Int) : Bool := decide (0 ≤ a ∧ a < planE C)
theorem mayN_all (C : Cfg) (a : Int) : mayN C a C.parts.length = if insB C a = true then 1 else 0 := by
  cases h : accB C with
  | false =>
    have hn : ∀ k, mayN C a k = 0 := fun k => by
      induction k with
      | zero => rfl
      | succ k ih => rw [mayN_succ, ih, mayB_no h]; rfl
    rw [hn, insB, planE_no C h, if_neg]
    rw [decide_eq_true_iff]; omega
  | true =>
    obtain ⟨s1, s2⟩ := spans_at (sizesC C) (plan_nonneg h) 0 a
    have hpl : planL C = spansF 0 (sizesC C) := by rw [planL, if_pos h]
    have hpe : planE C = (sizesC C).sum := by rw [planE, if_pos h]
    rw [← hpl, ← hpe, Int.zero_add] at s1 s2
    by_cases hin : 0 ≤ a ∧ a < planE C
    · rw [insB, decide_eq_true hin, if_pos rfl]
      obtain ⟨i, x, hx, hix, hu⟩ := s1 hin
      obtain ⟨o0, o1⟩ := owner_part h hx
      have hm : ∀ q : Nat, mayB C (q : Int) a = decide ((q : Int) = ownerC C i) := fun q => by
        rw [Bool.eq_iff_iff, mayB_iff h, decide_eq_true_iff]
        constructor
        · rintro ⟨j, y, hy, hjy, ho⟩
          rw [← ho, hu j y hy hjy]
        · intro he
          exact ⟨i, x, hx, hix, he.symm⟩
      have hk : ∀ k, mayN C a k = if ownerC C i < k then 1 else 0 := fun k => by
        induction k with
        | zero => rw [mayN_zero, if_neg (by omega)]
        | succ k ih =>
          rw [mayN_succ, ih, hm]
          simp only [decide_eq_true_eq]
          split <;> split <;> split <;> omega
      rw [hk, if_pos o1]
    · rw [insB, decide_eq_false hin, if_neg (by simp)]
      have hn : ∀ k, mayN C a k = 0 := fun k => by
        induction k with
        | zero => rfl
        | succ k ih =>
          rw [mayN_succ, ih, if_neg]
          intro hm
          obtain ⟨j, y, hy, hjy, _⟩ := (mayB_iff h _ _).1 hm
          exact s2 hin j y hy hjy
      rw [hn]
end Go.Proofs.Ytpeajlponlmceaa

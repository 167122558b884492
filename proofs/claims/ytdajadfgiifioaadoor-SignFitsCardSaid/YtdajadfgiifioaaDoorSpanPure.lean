/- Plain facts on spans: which addresses a span has, which spans meet, lie in one another. -/
namespace Go.Proofs.YtdajadfgiifioaaDoor
/-- A span is right: From and Size are 0 or more and end at most at 2^31 - 1. -/
def rightB (f s : Int) : Bool := decide (0 ≤ f ∧ 0 ≤ s ∧ f ≤ 2147483647 ∧ s ≤ 2147483647 - f)
/-- It has an address. -/
def hasB (f s a : Int) : Bool := decide (0 ≤ f ∧ 0 ≤ s ∧ f ≤ 2147483647 ∧ s ≤ 2147483647 - f ∧ f ≤ a ∧ a < f + s)
/-- Two of them meet. -/
def meetsB (f s g t : Int) : Bool := if f < g then hasB f s g && hasB g t g else hasB f s f && hasB g t f
/-- One lies in another one. -/
def lieB (f s g t : Int) : Bool := !rightB f s || decide (s = 0) || (hasB g t f && hasB g t (f + s - 1))
theorem rightB_true {f s : Int} : rightB f s = true ↔ (0 ≤ f ∧ 0 ≤ s ∧ f ≤ 2147483647 ∧ s ≤ 2147483647 - f) := by unfold rightB; exact decide_eq_true_iff
theorem rightB_false {f s : Int} : rightB f s = false ↔ ¬ (0 ≤ f ∧ 0 ≤ s ∧ f ≤ 2147483647 ∧ s ≤ 2147483647 - f) := by unfold rightB; exact decide_eq_false_iff_not
theorem hasB_true {f s a : Int} : hasB f s a = true ↔ (0 ≤ f ∧ 0 ≤ s ∧ f ≤ 2147483647 ∧ s ≤ 2147483647 - f ∧ f ≤ a ∧ a < f + s) := by unfold hasB; exact decide_eq_true_iff
theorem hasB_false {f s a : Int} : hasB f s a = false ↔ ¬ (0 ≤ f ∧ 0 ≤ s ∧ f ≤ 2147483647 ∧ s ≤ 2147483647 - f ∧ f ≤ a ∧ a < f + s) := by unfold hasB; exact decide_eq_false_iff_not
theorem bool_eq {a b : Bool} (h : a = true ↔ b = true) : a = b := by cases a <;> cases b <;> simp_all
theorem meetsB_true {f s g t : Int} : meetsB f s g t = true ↔ (0 ≤ f ∧ 0 ≤ s ∧ f ≤ 2147483647 ∧ s ≤ 2147483647 - f ∧ 0 ≤ g ∧ 0 ≤ t ∧ g ≤ 2147483647 ∧ t ≤ 2147483647 - g ∧ f < f + s ∧ g < g + t ∧ f < g + t ∧ g < f + s) := by
  unfold meetsB
  split <;> rw [Bool.and_eq_true_iff, hasB_true, hasB_true] <;> omega
theorem meetsB_comm (f s g t : Int) : meetsB f s g t = meetsB g t f s := bool_eq (by rw [meetsB_true, meetsB_true]; omega)
/-- The reference's form of it. -/
theorem meetsB_ref (f s g t : Int) : meetsB f s g t = (hasB f s f && hasB g t g && (hasB f s g || hasB g t f)) := bool_eq (by
  rw [meetsB_true, Bool.and_eq_true_iff, Bool.and_eq_true_iff, Bool.or_eq_true_iff, hasB_true, hasB_true, hasB_true, hasB_true]; omega)
theorem lieB_true {f s g t : Int} : lieB f s g t = true ↔ ((0 ≤ f ∧ 0 ≤ s ∧ f ≤ 2147483647 ∧ s ≤ 2147483647 - f ∧ 0 < s) → (0 ≤ g ∧ 0 ≤ t ∧ g ≤ 2147483647 ∧ t ≤ 2147483647 - g ∧ g ≤ f ∧ f + s ≤ g + t)) := by
  unfold lieB
  rw [Bool.or_eq_true_iff, Bool.or_eq_true_iff, Bool.and_eq_true_iff, hasB_true, hasB_true, Bool.not_eq_true', rightB_false, decide_eq_true_iff]
  omega
/-- The reference's form of it. -/
theorem lieB_ref (f s g t : Int) : lieB f s g t = (!hasB f s f || (rightB g t && decide (g ≤ f ∧ f + s ≤ g + t))) := bool_eq (by
  rw [lieB_true, Bool.or_eq_true_iff, Bool.and_eq_true_iff, Bool.not_eq_true', hasB_false, rightB_true, decide_eq_true_iff]; omega)
theorem lieB_self (f s : Int) : lieB f s f s = true := by
  cases hr : rightB f s with
  | false => simp [lieB, hr]
  | true =>
    have h := rightB_true.1 hr
    by_cases h0 : s = 0
    · simp [lieB, h0]
    · have h1 : hasB f s f = true := hasB_true.2 (by omega)
      have h2 : hasB f s (f + s - 1) = true := hasB_true.2 (by omega)
      simp [lieB, h1, h2]
end Go.Proofs.YtdajadfgiifioaaDoor

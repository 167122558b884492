/- Contracts of package layout: a buffer. -/
import Derived.Test.YtmidcnfmphlneaaLay5
namespace Go.Proofs.Ytmidcnfmphlneaa
open Go.RowKit
set_option linter.unusedSimpArgs false
set_option linter.unusedVariables false

theorem andNot_one (n : Int) (h : I64 n) (h0 : bits .andNot .i64 n 1 = 0) : n = 0 ∨ n = 1 := by
  have hn := h.le
  have hx : ∀ x : BitVec 64, x &&& ~~~(1#64) = 0#64 → x.toNat ≤ 1 := fun x hx => by
    have h1 : x = x &&& 1#64 := by
      ext i hi
      have h2 := congrArg (fun y : BitVec 64 => y.getLsbD i) hx
      simp only [BitVec.getLsbD_and, BitVec.getLsbD_not, hi, decide_true, Bool.true_and, BitVec.getLsbD_zero] at h2
      simp only [BitVec.getElem_and, ← BitVec.getLsbD_eq_getElem]
      cases hxi : x.getLsbD i <;> cases hoi : (1#64).getLsbD i <;> simp_all
    rw [h1, BitVec.toNat_and]
    exact Nat.le_trans (Nat.and_le_right) (by decide)
  have h1 : (BitVec.ofInt 64 n &&& ~~~(1#64)) = 0#64 := by
    have h2 : IntKind.i64.wrap ((BitVec.ofInt 64 n &&& ~~~(BitVec.ofInt 64 1)).toNat : Int) = 0 := h0
    rw [show BitVec.ofInt 64 1 = 1#64 from rfl] at h2
    have h3 := (BitVec.ofInt 64 n &&& ~~~(1#64)).isLt
    rw [IntKind.wrap_i64] at h2
    apply BitVec.eq_of_toNat_eq
    rw [BitVec.toNat_zero]
    omega
  have h4 := hx _ h1
  rw [BitVec.toNat_ofInt] at h4
  omega
theorem andNot_0 : bits .andNot .i64 0 1 = 0 := by decide
theorem andNot_1 : bits .andNot .i64 1 1 = 0 := by decide
theorem bufB_no (C : Cfg) (k p i : Int) (h : ¬ (accB C = true ∧ 0 ≤ k ∧ k < C.chans.length ∧ (C.chans.getD k.toNat default).kind = 1 ∧ (p = 0 ∨ p = 1) ∧ (i = 0 ∨ i = 1))) : bufB C k p i = (0, 0) := if_neg h
theorem bufB_yes (C : Cfg) (k : Nat) (p i : Int) (h : accB C = true ∧ k < C.chans.length ∧ (C.chans.getD k default).kind = 1 ∧ (p = 0 ∨ p = 1) ∧ (i = 0 ∨ i = 1)) : bufB C k p i = (befC C k + (3 + (2 * p + i) * (2 + (C.chans.getD k default).words)), 2 + (C.chans.getD k default).words) := by
  rw [bufB, if_pos ⟨h.1, by omega, by omega, by simpa using h.2.2.1, h.2.2.2.1, h.2.2.2.2⟩, Int.toNat_natCast]
theorem cellB_no (C : Cfg) (k i : Int) (h : ¬ (accB C = true ∧ 0 ≤ k ∧ k < C.chans.length ∧ (C.chans.getD k.toNat default).kind = 2 ∧ 0 ≤ i ∧ i < (C.chans.getD k.toNat default).depth)) : cellB C k i = (0, 0) := if_neg h
theorem cellB_yes (C : Cfg) (k : Nat) (i : Int) (h : accB C = true ∧ k < C.chans.length ∧ (C.chans.getD k default).kind = 2 ∧ 0 ≤ i ∧ i < (C.chans.getD k default).depth) : cellB C k i = (befC C k + (1 + i * (1 + (C.chans.getD k default).words)), 1 + (C.chans.getD k default).words) := by
  rw [cellB, if_pos ⟨h.1, by omega, by omega, by simpa using h.2.2.1, h.2.2.2.1, by simpa using h.2.2.2.2⟩, Int.toNat_natCast]

end Go.Proofs.Ytmidcnfmphlneaa

/- Who may change an address: plain. -/
import Derived.Test.YtpeajlponlmceaaRLay4
import Derived.Test.YtpeajlponlmceaaSpanH
namespace Go.Proofs.Ytpeajlponlmceaa
open Go.RowKit
set_option linter.unusedSimpArgs false
set_option linter.unusedVariables false

def hasS (s : Int × Int) (a : Int) : Bool := hasB s.1 s.2 a
def mayK (C : Cfg) (p a : Int) (k : Nat) : Bool := ((C.chans.getD k default).frm == p && hasS (srcB C k) a) || ((C.chans.getD k default).to == p && hasS (dstB C k) a)
def mayTo (C : Cfg) (p a : Int) (k : Nat) : Bool := (List.range k).any (mayK C p a)
def mayB (C : Cfg) (p a : Int) : Bool := hasS (privB C p) a || mayTo C p a C.chans.length
theorem mayTo_zero (C : Cfg) (p a : Int) : mayTo C p a 0 = false := rfl
theorem mayTo_succ (C : Cfg) (p a : Int) (k : Nat) : mayTo C p a (k + 1) = (mayTo C p a k || mayK C p a k) := by rw [mayTo, List.range_succ, List.any_append]; simp [mayTo]
theorem mayTo_yes {C : Cfg} {p a : Int} {k n : Nat} (h : mayK C p a k = true) (hk : k < n) : mayTo C p a n = true := List.any_eq_true.2 ⟨k, List.mem_range.2 hk, h⟩
theorem hasS_zero (a : Int) : hasS (0, 0) a = false := hasB_false.2 (by omega)
theorem mayK_no {C : Cfg} (h : accB C = false) (p a : Int) (k : Nat) : mayK C p a k = false := by
  rw [mayK, srcB_no C k (fun hh => by rw [h] at hh; cases hh.1), dstB_no C k (fun hh => by rw [h] at hh; cases hh.1), hasS_zero]; simp
theorem mayTo_no {C : Cfg} (h : accB C = false) (p a : Int) (k : Nat) : mayTo C p a k = false := by
  induction k with
  | zero => rfl
  | succ k ih => rw [mayTo_succ, ih, mayK_no h]; rfl
theorem mayB_no {C : Cfg} (h : accB C = false) (p a : Int) : mayB C p a = false := by
  rw [mayB, mayTo_no h, privB_no C p (fun hh => by rw [h] at hh; cases hh.1), hasS_zero]; rfl
end Go.Proofs.Ytpeajlponlmceaa

/- The contract of defect.Holds. -/
import Derived.Test.YtmidcnfmphlneaaDef8
namespace Go.Proofs.Ytmidcnfmphlneaa
open Go.RowKit
set_option linter.unusedSimpArgs false
set_option linter.unusedVariables false

def holdsB (C : Cfg) (k : Int) : Bool := inB k 1 17 && ruleB k.toNat C
set_option maxHeartbeats 400000 in
theorem within_same (n lo hi : Int) (b : Bool) (hb : inB n lo hi = b) (w : World) : Calls Try.prog 65 #[.int .i64 n, .int .i64 lo, .int .i64 hi] w fun e w' => e = .returned (.bool b) ∧ w' = w := by
  subst hb
  by_cases h1 : lo ≤ n
  · by_cases h2 : n ≤ hi
    · go_enter Try.func65, Try.ntmps65
      go_wp2
      go_ret
      exact ⟨ret_bool (inB_true ⟨h1, h2⟩).symm, rfl⟩
    · have h3 : decide (n ≤ hi) = false := decide_eq_false h2
      go_enter Try.func65, Try.ntmps65
      go_wp2
      go_ret
      exact ⟨ret_bool (inB_false (by omega)).symm, rfl⟩
  · have h3 : decide (lo ≤ n) = false := decide_eq_false h1
    go_enter Try.func65, Try.ntmps65
    go_wp2
    go_ret
    exact ⟨ret_bool (inB_false (by omega)).symm, rfl⟩

end Go.Proofs.Ytmidcnfmphlneaa

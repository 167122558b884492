/- Contracts of package layout: pieces of a channel's span. -/
import Derived.Test.YtmidcnfmphlneaaLay4
import Derived.Laws.BitsAllLaws
namespace Go.Proofs.Ytmidcnfmphlneaa
open Go.RowKit
set_option linter.unusedSimpArgs false
set_option linter.unusedVariables false


theorem srcB_at (C : Cfg) (h : accB C = true) (k : Nat) (hk : k < C.chans.length) : srcB C k = (befC C k, sizedC (C.chans.getD k default)) := by
  rw [srcB, if_pos ⟨h, by omega, by omega⟩, Int.toNat_natCast]

end Go.Proofs.Ytmidcnfmphlneaa

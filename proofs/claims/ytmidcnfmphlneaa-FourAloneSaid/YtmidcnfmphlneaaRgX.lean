/- A region whose store meets one cell alone of a block: nothing of the program. -/
import Derived.Test.YtmidcnfmphlneaaRg
namespace Go.Proofs.Ytmidcnfmphlneaa
open Go.RowKit
set_option linter.unusedSimpArgs false
set_option linter.unusedVariables false

theorem sx3 {p q r : Prop} (h : p ∧ q) (x : r) : p ∧ q ∧ r := ⟨h.1, h.2, x⟩
theorem xc_of {W0 W : World} {b : Nat} {cs cs' : Array Value} {t : TypeId} {fz fz' : Nat × Nat} (h0 : W0.heap[b]? = some (.cells cs t fz)) (h1 : W.heap[b]? = some (.cells cs' t fz')) (j : Nat) (h : ∀ o, o ≠ j → cs'[o]? = cs[o]?) : ∀ o, o ≠ j → W.cell? ⟨b, o, none⟩ = W0.cell? ⟨b, o, none⟩ := fun o ho => by rw [cell_blk h1, cell_blk h0]; exact h o ho
theorem xc_ne {cs : Array Value} (j : Nat) (v : Value) : ∀ o, o ≠ j → (cs.setIfInBounds j v)[o]? = cs[o]? := fun o ho => Array.getElem?_setIfInBounds_ne (Ne.symm ho)
end Go.Proofs.Ytmidcnfmphlneaa

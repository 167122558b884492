/- What defects are told, as far as so many; the law's example; 'the same numbers?'. -/
import Derived.Test.YtmidcnfmphlneaaDef6
import Derived.Test.YtmidcnfmphlneaaSl
namespace Go.Proofs.Ytmidcnfmphlneaa
open Go.RowKit
set_option linter.unusedSimpArgs false
set_option linter.unusedVariables false
open Go.Shelf
theorem Try.infoInt : (Try.prog.info? 3).map (fun i => (i.zero, i.size, i.bytes)) = some (some (.int .i64 0), 1, 8) := by kernel_rfl
theorem row_new (w : World) (vs : List Value) (t : TypeId) (n : Nat) (hn : vs.length = n) (h0 : 0 < n) (hm : n ≤ maxLen) : RowAt (w.alloc (.cells vs.toArray t)) 1 (.slice (some ⟨w.heap.size, 0, none⟩) n n) n vs := by
  refine ⟨by omega, .inr ⟨w.heap.size, 0, n, rfl, Nat.le_refl _, hm, by simp, fun j hj => ?_⟩⟩
  rw [cell_blk (blk_new w _)]
  simp

attribute [local go_sem] Oper.semAt_some

/-- Between two rounds: what the bound's box, the row's box and the row hold. -/
def told7cI (nb n0 : Nat) (W0 : World) (most : Int) (pre : List Int) (W : World) : Prop :=
  ∃ v, W.heap[n0]? = some (.cells #[.int .i64 most] 3 (0, 0)) ∧ W.heap[n0 + 1]? = some (.cells #[v] 81 (0, 0)) ∧ W.ownsRow (n0 + 1 + 1) 3 1 v pre.length (i64s pre) ∧ pre.length ≤ most.toNat ∧ Below nb W0 W
/-- A round has left: nothing was put any more. -/
def told7cX (nb n0 : Nat) (W0 : World) (most : Int) (c : Code) (pre : List Int) (W : World) : Prop := c = .exit 0 ∧ ∃ pre0 x, pre = pre0 ++ [x] ∧ told7cI nb n0 W0 most pre0 W ∧ most ≤ (pre0.length : Int)
theorem told7cI_calm {nb n0 : Nat} {W0 W W' : World} {most : Int} {pre : List Int} {B : Nat} {row : Option Nat} (h : told7cI nb n0 W0 most pre W) (hB : nb ≤ B) (h0 : nb ≤ W0.heap.size) (hg : W.grownBy W' row) (hr : ∀ r, row = some r → B ≤ r ∧ ∃ o : Obj, W.heap[r]? = some o ∧ o.isCells = false) : told7cI nb n0 W0 most pre W' := by
  obtain ⟨v, h1, h2, h3, h4, h5⟩ := h
  exact ⟨v, blk_calm h1 hg hr, blk_calm h2 hg hr, own_calm h3 hg hr, h4, h5.grown hg (Nat.le_trans h0 h5.size) fun k e => Nat.le_trans hB (hr k e).1⟩

end Go.Proofs.Ytmidcnfmphlneaa

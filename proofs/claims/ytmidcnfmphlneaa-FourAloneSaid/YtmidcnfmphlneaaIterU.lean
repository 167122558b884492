/- What a round keeps for an iterator with boxes of several types of its own. Nothing of the program. -/
import Derived.Test.YtmidcnfmphlneaaIter
namespace Go.Proofs.Ytmidcnfmphlneaa
open Go.RowKit Go.Shelf
set_option linter.unusedVariables false
def KeepU (Ts : List TypeId) (n₀ : Nat) (W W' : World) : Prop := Below n₀ W W' ∧ ∀ t, t ∈ Ts → ∀ (k : Nat) (c : Array Value) (f : Nat × Nat), W.heap[k]? = some (.cells c t f) → W'.heap[k]? = some (.cells c t f)
def RndU (Ts : List TypeId) (n₀ B : Nat) (W W' : World) : Prop := KeepU Ts n₀ W W' ∧ KeepsFrom B W W'
theorem KeepU.refl (Ts : List TypeId) (n₀ : Nat) (W : World) : KeepU Ts n₀ W W := ⟨Below.refl _ _, fun _ _ _ _ _ h => h⟩
theorem KeepU.trans {Ts : List TypeId} {n₀ : Nat} {A B C : World} (h : KeepU Ts n₀ A B) (k : KeepU Ts n₀ B C) : KeepU Ts n₀ A C := ⟨h.1.trans k.1, fun t ht i c f hi => k.2 t ht i c f (h.2 t ht i c f hi)⟩
theorem KeepU.of_below {Ts : List TypeId} {n₀ : Nat} {W W' : World} (hn : n₀ ≤ W.heap.size) (hb : Below W.heap.size W W') : KeepU Ts n₀ W W' := ⟨hb.mono hn, fun _ _ k c f h => blk_below h hb⟩
theorem KeepU.put {Ts : List TypeId} {n₀ : Nat} {w : World} (hn : n₀ ≤ w.heap.size) (W : World) (l : Nat) (o o' : Obj) (hl : w.heap.size ≤ l) (h : W.heap[l]? = some o) (hc : o.isCells = false) (hw : o.isWalk = false) : KeepU Ts n₀ W (W.putObj l o') :=
  ⟨belowK_b hn W l o o' hl h hc hw, fun t _ => (KeepT.put (T := t) hn W l o o' hl h hc hw).2⟩
theorem RndU.of {Ts : List TypeId} {n₀ B : Nat} {W W' : World} (t0 : TypeId) (h0 : Rnd t0 n₀ B W W') (h : ∀ t, t ∈ Ts → Rnd t n₀ B W W') : RndU Ts n₀ B W W' := ⟨⟨h0.1.1, fun t ht => (h t ht).1.2⟩, h0.2⟩
end Go.Proofs.Ytmidcnfmphlneaa

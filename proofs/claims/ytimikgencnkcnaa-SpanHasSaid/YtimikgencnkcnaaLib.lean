/- Small general lemmas on worlds and endings: nothing of the program. -/
import Derived.WalkKit
import Derived.Deep.RegionHeld3
import Derived.WalkSpells
import Derived.WalkLawsBesides
namespace Go.Proofs.Ytimikgencnkcnaa
open Go.RowKit
theorem ret_bool {a b : Bool} (h : a = b) : Ending.returned (.bool a) = .returned (.bool b) := by rw [h]
theorem ret_int {k : IntKind} {a b : Int} (h : a = b) : Ending.returned (.int k a) = .returned (.int k b) := by rw [h]
theorem bcell {W w1 : World} (hb : Below W.heap.size W w1) : (∀ b o, b < W.heap.size → w1.cell? ⟨b, o, none⟩ = W.cell? ⟨b, o, none⟩) ∧ (∀ b o, b < W.heap.size → w1.frozen? ⟨b, o, none⟩ = W.frozen? ⟨b, o, none⟩) :=
  ⟨fun b o h => hb.cell (p := ⟨b, o, none⟩) h, fun b o h => hb.frozen (p := ⟨b, o, none⟩) h⟩
theorem hz1 {n m : Nat} (h : n + 1 ≤ m) : n < m := h
theorem hz2 {n m : Nat} (h : n + 1 + 1 ≤ m) : n < m ∧ n + 1 < m := ⟨by omega, by omega⟩
theorem hz3 {n m : Nat} (h : n + 1 + 1 + 1 ≤ m) : n < m ∧ n + 1 < m ∧ n + 1 + 1 < m := ⟨by omega, by omega, by omega⟩
theorem below_call {w w1 w2 : World} (h : Below w.heap.size w w1) (hb : Below w1.heap.size w1 w2) : Below w.heap.size w w2 := h.trans (hb.mono h.size)
theorem below_al {w w1 : World} (h : Below w.heap.size w w1) (o : Obj) : Below w.heap.size w (w1.alloc o) := h.alloc h.size o
theorem below_dr {B : Nat} {a w : World} (h : Below B a w) : Below B a w.drew := h.drew
/-- What a region that holds calls keeps: below the heap's size at its beginning all is as it was. -/
theorem old_of {W0 w : World} (h : Below W0.heap.size W0 w) : Below W0.heap.size W0 w ∧ ∀ b o, b < W0.heap.size → w.cell? ⟨b, o, none⟩ = W0.cell? ⟨b, o, none⟩ := ⟨h, (bcell h).1⟩
theorem old_call {W0 w1 w2 : World} (h : Below W0.heap.size W0 w1 ∧ ∀ b o, b < W0.heap.size → w1.cell? ⟨b, o, none⟩ = W0.cell? ⟨b, o, none⟩) (hb : Below w1.heap.size w1 w2) :
    Below W0.heap.size W0 w2 ∧ ∀ b o, b < W0.heap.size → w2.cell? ⟨b, o, none⟩ = W0.cell? ⟨b, o, none⟩ := old_of (below_call h.1 hb)
theorem old_drew (W0 : World) : Below W0.heap.size W0 W0.drew ∧ ∀ b o, b < W0.heap.size → W0.drew.cell? ⟨b, o, none⟩ = W0.cell? ⟨b, o, none⟩ := old_of (Below.refl _ _).drew
end Go.Proofs.Ytimikgencnkcnaa

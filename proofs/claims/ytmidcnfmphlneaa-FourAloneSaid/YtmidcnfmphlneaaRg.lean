/- Laws for a region that draws its order, with the world named anew behind each step: nothing of the program. -/
import Derived.Test.YtmidcnfmphlneaaSl
import Derived.Deep.AppendLies
import Derived.StillTailTactics
namespace Go.Proofs.Ytmidcnfmphlneaa
open Go.RowKit
set_option linter.unusedSimpArgs false
set_option linter.unusedVariables false

section
variable {P : Program} {ops : Array Oper} {Q : Exit → Act → World → Prop} {S : World → Prop}
/-- The region's beginning: the world behind the draw under a name. -/
theorem held_start_gen {id : Nat} {a : Act} {w : World} (hm : P.follows .mixedOrders = true) (R : World → Prop) (hR : R w.drew) (hS : S w.drew)
    (h : ∀ wd, R wd → S wd → wpAnyH P .any ops Q S ops.size (Array.replicate ops.size false) a wd) : (Code.region id ops true).wp P Q a w :=
  wp_region_held_drew hm hS fun hs => h _ hR hs
/-- Behind a step: the world under a name. -/
theorem out_gen {K : Act → World → Prop} {T : Act → World → Prop} (hK : Shut (∀ a w, S w → (S w → T a w) → K a w)) (a : Act) (w : World) (R : World → Prop) (hR : R w) (hS : S w) (h : ∀ w', R w' → S w' → T a w') : K a w :=
  hK.out a w hS fun hs => h w hR hs
end
theorem ButS.al {S : List Nat} {W0 W : World} (h : ButS S W0 W) (o : Obj) : ButS S W0 (W.alloc o) := h.trans (ButS.of_below ((Below.refl _ _).alloc (Nat.le_refl _) o))
theorem ButS.grown {S : List Nat} {W0 W W1 : World} {base : Nat} {e : TypeId} {k : Nat} {v : Value} {n : Nat} {cs : List Value} (h : ButS S W0 W) (hown : W.ownsRow base e k v n cs) (hg : W.grownBy W1 v.ownBlock) (hb : W0.heap.size ≤ base) : ButS S W0 W1 :=
  ⟨hg.os.trans h.os, hg.tape.trans h.tape, hg.output.trans h.output, Nat.le_trans h.size hg.size, fun b hb0 hn => (hg.block b (Nat.lt_of_lt_of_le hb0 h.size) fun he => by have := (hown.lt b he.symm).1; omega).trans (h.block b hb0 hn)⟩
theorem ButS.set' {S : List Nat} {W0 W : World} (h : ButS S W0 W) {p : Addr} (hp : p.block ∈ S ∨ W0.heap.size ≤ p.block) (v : Value) : ButS S W0 (W.setCell p v) := by
  rcases hp with hp | hp
  · exact h.set hp v
  · exact ⟨h.os, h.tape, h.output, by simpa [World.setCell] using h.size, fun k hk hne => (Below.heap_setCell W p v k (by omega)).trans (h.block k hk hne)⟩
theorem news_of_row {w : World} {k : Nat} {ad : Addr} {n c : Nat} {cs : List Value} (h : RowAt w k (.slice (some ad) n c) n cs) (hn : 0 < n) (ha : ad.spot = none) : ∀ j u, cs[j]? = some u → w.cell? (ad.add j) = some u := fun j u hu => by
  obtain ⟨g, o, he, hg, hc⟩ := h.at hn
  cases he
  have hj : j < n * k := by have := (List.getElem?_eq_some_iff.1 hu).1; have := h.1; omega
  rw [add_at, hc j hj]
  exact hu
/-- All blocks below B lie as they lay, but those listed. -/
structure ButB (B : Nat) (S : List Nat) (W0 W : World) : Prop where
  le : B ≤ W0.heap.size
  os : W.os = W0.os
  tape : W.tape = W0.tape
  output : W.output = W0.output
  size : W0.heap.size ≤ W.heap.size
  block : ∀ k, k < B → k ∉ S → W.heap[k]? = W0.heap[k]?
theorem ButB.refl {B : Nat} (S : List Nat) {W : World} (h : B ≤ W.heap.size) : ButB B S W W := ⟨h, rfl, rfl, rfl, Nat.le_refl _, fun _ _ _ => rfl⟩
theorem ButB.dr {B : Nat} {S : List Nat} {W0 W : World} (h : ButB B S W0 W) : ButB B S W0 W.drew := ⟨h.le, h.os, h.tape, h.output, h.size, h.block⟩
theorem ButB.call {B : Nat} {S : List Nat} {W0 W W1 : World} (h : ButB B S W0 W) (hb : Below W.heap.size W W1) : ButB B S W0 W1 :=
  ⟨h.le, hb.os.trans h.os, hb.tape.trans h.tape, hb.output.trans h.output, Nat.le_trans h.size hb.size, fun k hk hn => (hb.block k (by have := h.le; have := h.size; omega)).trans (h.block k hk hn)⟩
theorem ButB.al {B : Nat} {S : List Nat} {W0 W : World} (h : ButB B S W0 W) (o : Obj) : ButB B S W0 (W.alloc o) := h.call ((Below.refl _ _).alloc (Nat.le_refl _) o)
theorem ButB.set {B : Nat} {S : List Nat} {W0 W : World} (h : ButB B S W0 W) {p : Addr} (hp : p.block ∈ S ∨ B ≤ p.block) (v : Value) : ButB B S W0 (W.setCell p v) :=
  ⟨h.le, h.os, h.tape, h.output, by simpa [World.setCell] using h.size, fun k hk hne => (Below.heap_setCell W p v k (by
    rintro rfl
    rcases hp with hp | hp
    · exact hne hp
    · omega)).trans (h.block k hk hne)⟩
theorem ButB.grown {B : Nat} {S : List Nat} {W0 W W1 : World} {base : Nat} {e : TypeId} {k : Nat} {v : Value} {n : Nat} {cs : List Value} (h : ButB B S W0 W) (hown : W.ownsRow base e k v n cs) (hg : W.grownBy W1 v.ownBlock) (hb : B ≤ base) : ButB B S W0 W1 :=
  ⟨h.le, hg.os.trans h.os, hg.tape.trans h.tape, hg.output.trans h.output, Nat.le_trans h.size hg.size, fun b hb0 hn => (hg.block b (by have := h.le; have := h.size; omega) fun he => by have := (hown.lt b he.symm).1; omega).trans (h.block b hb0 hn)⟩
theorem ButB.cell {B : Nat} {S : List Nat} {W0 W : World} (h : ButB B S W0 W) {b o : Nat} (hb : b < B) (hn : b ∉ S) : W.cell? ⟨b, o, none⟩ = W0.cell? ⟨b, o, none⟩ := World.cell?_of_block (w := W0) (a := ⟨b, o, none⟩) (h.block b hb hn)
theorem sx_of0 {B : Nat} {W0 W : World} (h : ButB B [] W0 W) : ButB B [] W0 W ∧ ∀ b o, b < B → W.cell? ⟨b, o, none⟩ = W0.cell? ⟨b, o, none⟩ := ⟨h, fun _ _ hb => h.cell hb (by simp)⟩
theorem sx_of1 {B : Nat} {W0 W : World} {x : Nat} (h : ButB B [x] W0 W) : ButB B [x] W0 W ∧ ∀ b o, b < B → b ≠ x → W.cell? ⟨b, o, none⟩ = W0.cell? ⟨b, o, none⟩ := ⟨h, fun _ _ hb hx => h.cell hb (by simp [hx])⟩
theorem sx_of2 {B : Nat} {W0 W : World} {x : Nat} {y : Nat} (h : ButB B [x, y] W0 W) : ButB B [x, y] W0 W ∧ ∀ b o, b < B → b ≠ x → b ≠ y → W.cell? ⟨b, o, none⟩ = W0.cell? ⟨b, o, none⟩ := ⟨h, fun _ _ hb hx hy => h.cell hb (by simp [hx, hy])⟩
theorem sx_of3 {B : Nat} {W0 W : World} {x : Nat} {y : Nat} {z : Nat} (h : ButB B [x, y, z] W0 W) : ButB B [x, y, z] W0 W ∧ ∀ b o, b < B → b ≠ x → b ≠ y → b ≠ z → W.cell? ⟨b, o, none⟩ = W0.cell? ⟨b, o, none⟩ := ⟨h, fun _ _ hb hx hy hz => h.cell hb (by simp [hx, hy, hz])⟩
theorem sx_of4 {B : Nat} {W0 W : World} {x : Nat} {y : Nat} {z : Nat} {u : Nat} (h : ButB B [x, y, z, u] W0 W) : ButB B [x, y, z, u] W0 W ∧ ∀ b o, b < B → b ≠ x → b ≠ y → b ≠ z → b ≠ u → W.cell? ⟨b, o, none⟩ = W0.cell? ⟨b, o, none⟩ := ⟨h, fun _ _ hb hx hy hz hu => h.cell hb (by simp [hx, hy, hz, hu])⟩
/-- A block that is not the row's own stays. -/
theorem blk_grownR {w w1 : World} {base : Nat} {e : TypeId} {k : Nat} {v : Value} {n : Nat} {cs : List Value} {b : Nat} {o : Obj} (h : w.heap[b]? = some o) (_hown : w.ownsRow base e k v n cs) (hg : w.grownBy w1 v.ownBlock) (hb : v.ownBlock = some b → False) : w1.heap[b]? = some o := by
  rw [hg.block b (blk_lt h) fun he => hb he.symm]; exact h
theorem own_new0 (w : World) (e : TypeId) (k : Nat) : (w.alloc (.cells #[] e)).ownsRow w.heap.size e k (.slice (some ⟨w.heap.size, 0, none⟩) 0 0) 0 [] :=
  ⟨by simp, .inr ⟨w.heap.size, 0, #[], rfl, Nat.le_refl _, blk_new _ _, Nat.le_refl _, Nat.zero_le _, by simp, by simp⟩⟩
end Go.Proofs.Ytmidcnfmphlneaa

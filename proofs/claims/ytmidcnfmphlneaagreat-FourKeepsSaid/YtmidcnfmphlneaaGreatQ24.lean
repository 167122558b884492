/- Rows that lie in none of some blocks: nothing of the program. -/
import Derived.Test.YtmidcnfmphlneaaGreatQ7
namespace Go.Proofs.YtmidcnfmphlneaaGreat
open Go.RowKit
set_option linter.unusedSimpArgs false
set_option linter.unusedVariables false
def RowN (w : World) (k : Nat) (a : Option Addr) (n cap : Nat) (cs : List Value) (X : List Nat) : Prop := RowAt w k (.slice a n cap) n cs ∧ (0 < n → ∀ x, a = some x → x.block ∉ X)
theorem RowN.call {w w1 : World} {k : Nat} {a : Option Addr} {n cap : Nat} {cs : List Value} {X : List Nat} (h : RowN w k a n cap cs X) (hb : Below w.heap.size w w1) : RowN w1 k a n cap cs X := ⟨h.1.below hb, h.2⟩
theorem RowN.al_new {w : World} {k : Nat} {a : Option Addr} {n cap : Nat} {cs : List Value} {X : List Nat} (h : RowN w k a n cap cs X) (o : Obj) : RowN (w.alloc o) k a n cap cs (w.heap.size :: X) :=
  ⟨h.1.below ((Below.refl _ _).alloc (Nat.le_refl _) o), fun hn x hx => by
    obtain ⟨g, o', hg, hlt, _⟩ := h.1.at hn
    rw [hx] at hg
    cases hg
    rw [List.mem_cons]
    rintro (h1 | h1)
    · have h2 : g = w.heap.size := h1
      omega
    · exact h.2 hn _ hx h1⟩
theorem RowN.set {w : World} {k : Nat} {a : Option Addr} {n cap : Nat} {cs : List Value} {X : List Nat} (h : RowN w k a n cap cs X) {p : Addr} (hp : p.block ∈ X) (v : Value) : RowN (w.setCell p v) k a n cap cs X := by
  refine ⟨?_, h.2⟩
  by_cases hn : 0 < n
  · exact h.1.but (ButS.set (S := [p.block]) (ButS.refl _ _) (by simp) v) fun x hx => by
      simp only [List.mem_singleton]
      exact fun he => h.2 hn x hx (he ▸ hp)
  · obtain rfl : n = 0 := by omega
    obtain ⟨h0, h1 | ⟨g, o, cap', h2, h3, h4, h5, h6⟩⟩ := h.1
    · exact ⟨h0, .inl h1⟩
    · exact ⟨h0, .inl ⟨⟨a, cap, rfl, by cases h2; exact h4⟩, rfl⟩⟩
theorem RowN.of_own {w : World} {base : Nat} {e : TypeId} {k : Nat} {a : Option Addr} {n cap : Nat} {cs : List Value} {X : List Nat} (h : w.ownsRow base e k (.slice a n cap) n cs) (hX : ∀ b, b ∈ X → b < base) : RowN w k a n cap cs X :=
  ⟨RowAt.of_own h, fun hn x hx hm => by
    rcases h.2 with ⟨h1, _⟩ | ⟨g, c, cur, h1, h2, _⟩
    · cases h1; cases hx
    · cases h1; cases hx; have h5 : g < base := hX _ hm; omega⟩
end Go.Proofs.YtmidcnfmphlneaaGreat

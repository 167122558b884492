/- A configuration with another row of channels. -/
import Derived.Test.YtpeajlponlmceaaDef8
namespace Go.Proofs.Ytpeajlponlmceaa
open Go.RowKit
set_option linter.unusedSimpArgs false
set_option linter.unusedVariables false

def withCh (C : Cfg) (l : List Chn) : Cfg := ⟨C.parts, l, C.l0, C.w0, C.l1, C.w1⟩
theorem Try.infoChan : (Try.prog.info? 40).map (fun i => (i.zero, i.size, i.bytes)) = some (some (.agg #[.int .i64 0, .int .i64 0, .int .i64 0, .int .i64 0, .int .i64 0, .int .i64 0, .int .u32 0]), 7, 56) := by kernel_rfl
theorem chan_one (x : Chn) : ∀ u ∈ chanC x, u.oneCell' = true := by intro u hu; simp [chanC] at hu; rcases hu with rfl | rfl | rfl | rfl | rfl | rfl | rfl <;> rfl
theorem chans_one (l : List Chn) : ∀ u ∈ l.flatMap chanC, u.oneCell' = true := fun u hu => by
  obtain ⟨x, _, hx⟩ := List.mem_flatMap.1 hu
  exact chan_one x u hx

theorem twice_ok {l : List Chn} {x : Chn} (h : ∀ x ∈ l, x.ok) (hx : x ∈ l) : ∀ y ∈ l ++ [x], y.ok := fun y hy => by
  rcases List.mem_append.1 hy with hy | hy
  · exact h y hy
  · rw [List.mem_singleton.1 hy]; exact h x hx
theorem RowAt.lens {w : World} {k : Nat} {a : Option Addr} {n cap : Nat} {cs : List Value} (h : RowAt w k (.slice a n cap) n cs) : n ≤ cap ∧ cap ≤ maxLen := by
  obtain ⟨a', c', he, h1, h2⟩ := h.shape
  simp only [Value.slice.injEq] at he
  obtain ⟨_, _, rfl⟩ := he
  exact ⟨h1, h2⟩
theorem own_ge {w : World} {base : Nat} {e : TypeId} {k : Nat} {g n cap : Nat} {cs : List Value} (h : w.ownsRow base e k (.slice (some ⟨g, 0, none⟩) n cap) n cs) : base ≤ g := by
  rcases h.2 with h | ⟨_, _, _, h, h6, _⟩
  · cases h.1
  · cases h; exact h6
theorem small_chans {C : Cfg} (h : C.great = false) : C.chans.length ≤ 100 := by
  have h := of_decide_eq_false h
  omega
/-- A configuration with another row of channels. -/
theorem cfgAt_with {w : World} {C : Cfg} {pa : Option Addr} {pc : Nat} {ca_ : Option Addr} {cc : Nat} {a0 : Option Addr} {c0 : Nat} {a1 : Option Addr} {c1 : Nat}
    (h : CfgAt w (.agg #[.slice pa C.parts.length pc, .slice ca_ C.chans.length cc, .int .i64 C.l0, .slice a0 C.w0.length c0, .int .i64 C.l1, .slice a1 C.w1.length c1]) C) (l : List Chn) (hl : ∀ x ∈ l, x.ok)
    {n : Nat} {av : Option Addr} {cv : Nat} (hn : l.length = n) (h1 : n ≤ cv) (h2 : cv ≤ maxLen) (hr : RowAt w 7 (.slice av n cv) n (l.flatMap chanC)) :
    CfgAt w (.agg #[.slice pa C.parts.length pc, .slice av n cv, .int .i64 C.l0, .slice a0 C.w0.length c0, .int .i64 C.l1, .slice a1 C.w1.length c1]) (withCh C l) := by
  subst hn
  obtain ⟨ho, pa', pc', ca', cc', a0', c0', a1', c1', hv, b1, b2, b3, b4, g1, g2, g3, g4⟩ := h
  simp only [Value.agg.injEq, Array.mk.injEq, List.cons.injEq, Value.slice.injEq] at hv
  obtain ⟨⟨rfl, _, rfl⟩, ⟨rfl, _, rfl⟩, _, ⟨rfl, _, rfl⟩, _, ⟨rfl, _, rfl⟩, _⟩ := hv
  exact ⟨⟨ho.1, hl, ho.2.2⟩, pa, pc, av, cv, a0, c0, a1, c1, rfl, b1, ⟨h1, h2⟩, b3, b4, g1, hr, g3, g4⟩
end Go.Proofs.Ytpeajlponlmceaa

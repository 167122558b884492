/- The play of layer 11: what holds between two acts; the start. -/
import Derived.Test.YtmidcnfmphlneaaQ22
namespace Go.Proofs.Ytmidcnfmphlneaa
open Go.RowKit
set_option linter.unusedSimpArgs false
set_option linter.unusedVariables false
structure Good (p : Plc) (s : Sg) (c : Int → Int → Nat) : Prop where
  j : J p s c
  ws : Words s.ws
  w : s.w.pc ≤ 6 → WOk p s.w
  r : s.r.pc ≤ 5 → ROk p s.r
theorem cfOk_of {w : World} {cs : Array Value} {wd per : Int} (h : CfgAt w (.agg cs) (two4 wd per)) (h1 : 1 ≤ wd ∧ wd ≤ 16) (h2 : 0 ≤ per ∧ per ≤ 1048576) : ∃ kc : CfK, cs = #[.slice kc.pa 2 kc.pc, .slice (some ⟨kc.cg, kc.co, none⟩) 1 kc.cc, .int .i64 1, .slice kc.a0 1 kc.c0, .int .i64 1, .slice kc.a1 1 kc.c1] ∧ CfOk w kc wd per := by
  have h0 := h
  obtain ⟨ho, pa, pc, ca, cc, a0, c0, a1, c1, hv, b1, b2, b3, b4, hpr, hc, hw0, hw1⟩ := h
  obtain ⟨g, o, rfl, hg, hcc⟩ := hc.at (show 0 < 1 by decide)
  have e : cs = _ := Value.agg.inj hv
  refine ⟨⟨pa, pc, g, o, cc, a0, c0, a1, c1⟩, e, ?_⟩
  rw [e] at h0
  exact ⟨h0, hg, (hcc 3 (by show 3 < 1 * 7; decide)).trans rfl, h1, h2⟩
theorem cfOk_kc {w : World} {kc : CfK} {wd per : Int} (h : CfgAt w (.agg #[.slice kc.pa 2 kc.pc, .slice (some ⟨kc.cg, kc.co, none⟩) 1 kc.cc, .int .i64 1, .slice kc.a0 1 kc.c0, .int .i64 1, .slice kc.a1 1 kc.c1]) (two4 wd per)) (h1 : 1 ≤ wd ∧ wd ≤ 16) (h2 : 0 ≤ per ∧ per ≤ 1048576) : CfOk w kc wd per := by
  have h0 := h
  obtain ⟨ho, pa, pc, ca, cc, a0, c0, a1, c1, hv, b1, b2, b3, b4, hpr, hc, hw0, hw1⟩ := h
  obtain ⟨g, o, rfl, hg, hcc⟩ := hc.at (show 0 < 1 by decide)
  have e2 : some (Value.slice (some ⟨kc.cg, kc.co, none⟩) 1 kc.cc) = some (Value.slice (some ⟨g, o, none⟩) (two4 wd per).chans.length cc) := congrArg (fun x : Array Value => x[1]?) (Value.agg.inj hv)
  simp only [Option.some.injEq, Value.slice.injEq, Addr.mk.injEq, and_true] at e2
  exact ⟨h0, by rw [e2.1.1]; exact hg, by rw [e2.1.1, e2.1.2]; exact (hcc 3 (by show 3 < 1 * 7; decide)).trans rfl, h1, h2⟩
def sg0 (n : Nat) : Sg := ⟨List.replicate n 0, wIdle, rIdle, 0, 0, 0, 0, 0, 0, 0, 0⟩
theorem ldW_rep (n : Nat) (a : Int) : ldW (List.replicate n 0) a = 0 := by
  rw [ldW, List.getD_eq_getElem?_getD]
  by_cases h : a.toNat < n
  · rw [List.getElem?_eq_getElem (by simpa using h)]; simp
  · rw [List.getElem?_eq_none (by simp; omega)]; rfl
theorem good0 (p : Plc) (n : Nat) (ok : p.ok n) : Good p (sg0 n) (fun _ _ => 0) where
  j := {
    ok := by show p.ok (List.replicate n 0).length; rw [List.length_replicate]; exact ok
    inv := ⟨.inl rfl, .inl rfl, .inl rfl, .inl rfl, fun _ e => absurd e (by simp [sg0, wIdle, rIdle]), fun _ e => absurd e (by simp [sg0, wIdle, rIdle]), fun _ e => absurd e (by simp [sg0, wIdle, rIdle])⟩
    dat := fun e => absurd e (by simp [sg0, wIdle, rIdle])
    cnt := fun e => absurd e (by simp [sg0, wIdle, rIdle])
    cnt4 := fun e => absurd e (by simp [sg0, wIdle, rIdle])
    cnt5 := fun e => absurd e (by simp [sg0, wIdle, rIdle])
    stp := fun e => absurd e (by simp [sg0, wIdle, rIdle])
    one := fun e => absurd e (by simp [sg0, wIdle, rIdle])
    whole := fun x y _ _ _ => by
      show Holds p (List.replicate n 0) x y 0
      rw [Holds, if_pos rfl]
      exact ldW_rep _ _
    part := fun _ e => absurd e (by simp [sg0, wIdle, rIdle])
    six := fun e => absurd e (by simp [sg0, wIdle, rIdle])
    jM := rfl
    le1 := Nat.le_refl _
    le2 := Nat.le_refl _
    le3 := Nat.le_refl _
    idle := fun _ => rfl
    jA := fun e => absurd e (by simp [sg0, wIdle, rIdle])
    jC := fun _ e => absurd e (by simp [sg0, wIdle, rIdle])
    jD := fun _ e => absurd e (by simp [sg0, wIdle, rIdle])
    jE := fun _ e => absurd e (by simp [sg0, wIdle, rIdle])
    num := fun e => absurd e (by simp [sg0, wIdle, rIdle])
    jG := fun _ e => absurd e (by simp [sg0, wIdle, rIdle])
    jH := fun _ e => absurd e (by simp [sg0, wIdle, rIdle])
    lft := fun _ e => absurd e (by simp [sg0, wIdle, rIdle])
    rd4 := fun _ => rfl
    rd5 := fun e => absurd e (by simp [sg0, wIdle, rIdle])
    own := fun e => absurd e (by simp [sg0, wIdle, rIdle]) }
  ws := words_rep n
  w := fun e => absurd e (by simp [sg0, wIdle, rIdle])
  r := fun e => absurd e (by simp [sg0, wIdle, rIdle])
theorem boolsAt_of {w : World} {v : Value} (h : RdV w (.slice 1 .bool) v) : ∃ (a : Option Addr) (c : Nat) (l : List Bool), v = .slice a l.length c ∧ RowAt w 1 v l.length (l.map Value.bool) := by
  obtain ⟨l, h1, h2⟩ := rows_of (n := 0) (fun x : Bool => [Value.bool x]) (fun _ => True) (fun cs _ hr => by
    obtain ⟨x, hx⟩ := hr
    exact ⟨x, hx, trivial⟩) (fun _ => rfl) h
  have e : l.flatMap (fun x : Bool => [Value.bool x]) = l.map Value.bool := (List.map_eq_flatMap).symm
  rw [e] at h1
  obtain ⟨a, c, rfl, _, _⟩ := h1.shape
  exact ⟨a, c, l, rfl, h1⟩
end Go.Proofs.Ytmidcnfmphlneaa

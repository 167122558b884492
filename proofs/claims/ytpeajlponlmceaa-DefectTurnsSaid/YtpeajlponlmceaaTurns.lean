/- In whatever order channels stand, and with one of them twice, the defects are the same. -/
import Derived.Test.YtpeajlponlmceaaMirror
namespace Go.Proofs.Ytpeajlponlmceaa
open Go.RowKit
set_option linter.unusedSimpArgs false
set_option linter.unusedVariables false

def withCh (C : Cfg) (l : List Chn) : Cfg := ⟨C.parts, l, C.l0, C.w0, C.l1, C.w1⟩
def rotC (l : List Chn) (by_ : Nat) : List Chn := (List.range l.length).map fun i => l.getD ((i + by_) % l.length) default
theorem rotC_len (l : List Chn) (by_ : Nat) : (rotC l by_).length = l.length := by simp [rotC]
theorem rotC_mem (l : List Chn) (by_ : Nat) (x : Chn) : x ∈ rotC l by_ ↔ x ∈ l := by
  constructor
  · intro h
    obtain ⟨i, hi, rfl⟩ := List.mem_map.1 h
    have hn : (i + by_) % l.length < l.length := Nat.mod_lt _ (by have := List.mem_range.1 hi; omega)
    rw [List.getD_eq_getElem?_getD, List.getElem?_eq_getElem hn]
    exact List.getElem_mem hn
  · intro h
    obtain ⟨j, hj, rfl⟩ := List.getElem_of_mem h
    have h1 : by_ % l.length < l.length := Nat.mod_lt _ (by omega)
    refine List.mem_map.2 ⟨(j + (l.length - by_ % l.length)) % l.length, List.mem_range.2 (Nat.mod_lt _ (by omega)), ?_⟩
    have h2 : by_ = l.length * (by_ / l.length) + by_ % l.length := (Nat.div_add_mod by_ l.length).symm
    have h3 : j + (l.length - by_ % l.length) + by_ = j + l.length * (by_ / l.length + 1) := by
      rw [Nat.mul_add, Nat.mul_one]; omega
    rw [Nat.mod_add_mod, h3, Nat.add_mul_mod_self_left, Nat.mod_eq_of_lt hj, List.getD_eq_getElem?_getD, List.getElem?_eq_getElem hj]
    rfl
theorem any_of_mem {l m : List Chn} {p : Chn → Bool} (h : ∀ x, x ∈ l ↔ x ∈ m) : l.any p = m.any p := by
  rw [Bool.eq_iff_iff, List.any_eq_true, List.any_eq_true]
  exact ⟨fun ⟨x, hx, hp⟩ => ⟨x, (h x).1 hx, hp⟩, fun ⟨x, hx, hp⟩ => ⟨x, (h x).2 hx, hp⟩⟩
/-- A rule that is not number 4 looks only at which channels there are. -/
theorem withCh_rule (C : Cfg) (l : List Chn) (h : ∀ x, x ∈ l ↔ x ∈ C.chans) (k : Nat) (hk : k < 17) (h4 : k = 3 → l.length = C.chans.length) : ruleB (k + 1) (withCh C l) = ruleB (k + 1) C :=
  match k, hk, h4 with
  | 0, _, _ => rfl
  | 1, _, _ => rfl
  | 2, _, _ => rfl
  | 3, _, h4 => by show decide (8 < l.length) = decide (8 < C.chans.length); rw [h4 rfl]
  | 4, _, _ => any_of_mem h
  | 5, _, _ => any_of_mem (p := fun x => strangeB C x.frm || strangeB C x.to) h
  | 6, _, _ => any_of_mem h
  | 7, _, _ => any_of_mem h
  | 8, _, _ => any_of_mem h
  | 9, _, _ => any_of_mem h
  | 10, _, _ => any_of_mem h
  | 11, _, _ => rfl
  | 12, _, _ => rfl
  | 13, _, _ => rfl
  | 14, _, _ => rfl
  | 15, _, _ => rfl
  | 16, _, _ => rfl
  | k + 17, hk, _ => absurd hk (by omega)
theorem rot_defs (C : Cfg) (by_ : Nat) : defsB (withCh C (rotC C.chans by_)) = defsB C :=
  defs_same fun k hk => withCh_rule C _ (rotC_mem C.chans by_) k hk (fun _ => rotC_len _ _)
theorem twice_rule (C : Cfg) (x : Chn) (hx : x ∈ C.chans) (k : Nat) (hk : k < 17) (h4 : k ≠ 3) : ruleB (k + 1) (withCh C (C.chans ++ [x])) = ruleB (k + 1) C :=
  withCh_rule C _ (fun y => by
    rw [List.mem_append, List.mem_singleton]
    exact ⟨fun h => h.elim id (fun h => h ▸ hx), .inl⟩) k hk (fun h => absurd h h4)
theorem twice_four (C : Cfg) (x : Chn) : ruleB 4 (withCh C (C.chans ++ [x])) = decide (8 ≤ C.chans.length) := by
  show decide (8 < (C.chans ++ [x]).length) = _
  rw [List.length_append, List.length_singleton, decide_eq_decide]
  omega
end Go.Proofs.Ytpeajlponlmceaa

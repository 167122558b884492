/- The law BellApart: its walk. -/
import Derived.Test.YtimikgencnkcnabDoorBellOnce
namespace Go.Proofs.YtimikgencnkcnabDoor
open Go.RowKit
set_option linter.unusedSimpArgs false
set_option linter.unusedVariables false

theorem allB_count (x : List Bool) : (allB x).length = x.count true := by
  rw [allB, List.length_map, ← List.countP_eq_length_filter]
  have h : x = (List.range x.length).map fun i => x.getD i false := by
    refine List.ext_getElem (by simp) fun i h1 h2 => ?_
    simp [List.getD_eq_getElem?_getD, h1]
  have h2 : x.count true = ((List.range x.length).map fun i => x.getD i false).count true := by rw [← h]
  rw [h2, List.count, List.countP_map]
  congr 1
  funext i
  simp [Function.comp]
theorem allB_off (x : List Bool) (j : Nat) (h : hasB x j = true) : (allB (offB x j)).length + 1 = (allB x).length := by
  rw [hasB_nat] at h
  have hj : j < x.length := by
    rw [List.getD_eq_getElem?_getD] at h
    by_cases hj : j < x.length
    · exact hj
    · rw [List.getElem?_eq_none (by omega)] at h; simp at h
  have hx : x[j] = true := by simpa [List.getD_eq_getElem?_getD, hj] using h
  rw [allB_count, allB_count, offB, List.count_set hj, hx]
  have h1 : 0 < x.count true := List.count_pos_iff.2 (hx ▸ List.getElem_mem hj)
  simp
  omega
theorem stepT_count (p : List Bool × List Int) (i : Int) : (allB (stepT p i).1).length + (stepT p i).2.length = (allB p.1).length + p.2.length := by
  rw [stepT]
  split
  · rename_i h
    have hi : 0 ≤ i := by
      simp only [hasB, Bool.and_eq_true, decide_eq_true_eq] at h
      exact h.1.1
    have h1 := allB_off p.1 i.toNat (by rw [show ((i.toNat : Nat) : Int) = i by omega]; exact h)
    simp only [List.length_append, List.length_singleton]
    omega
  · rfl
theorem takeT_count (x : List Bool) (ls : List Int) : (allB (takeT x ls).1).length + (takeT x ls).2.length = (allB x).length := by
  have h : ∀ (ls : List Int) (p : List Bool × List Int), (allB (ls.foldl stepT p).1).length + (ls.foldl stepT p).2.length = (allB p.1).length + p.2.length := by
    intro ls
    induction ls with
    | nil => intro p; rfl
    | cons i ls ih => intro p; rw [List.foldl_cons, ih, stepT_count]
  simpa [takeT] using h ls (x, [])
theorem hasB_ext {x y : List Bool} (hl : x.length = y.length) (h : ∀ z, hasB x z = hasB y z) : x = y := by
  refine List.ext_getElem hl fun i h1 h2 => ?_
  have := h i
  rw [hasB_nat, hasB_nat] at this
  simpa [List.getD_eq_getElem?_getD, h1, h2] using this
theorem mem_allB {x : List Bool} {z : Int} (h : z ∈ allB x) : hasB x z = true := by
  simp only [allB, List.mem_map, List.mem_filter, List.mem_range] at h
  obtain ⟨i, ⟨h1, h2⟩, rfl⟩ := h
  rw [show Int.ofNat i = (i : Int) from rfl, hasB_nat]
  exact h2
/-- Which bells are pending behind k ringings f 0, f 1, .. -/
def RungAll (f : Nat → Int) (k : Nat) (x : List Bool) : Prop := x.length = 64 ∧ ∀ z, (hasB x z = true ↔ (∃ i, i < k ∧ f i = z) ∧ 0 ≤ z ∧ z < 64)
theorem RungAll.start (f : Nat → Int) : RungAll f 0 (List.replicate 64 false) := ⟨by simp, fun z => by
  rw [hasB_none]
  constructor
  · intro h; cases h
  · rintro ⟨⟨i, hi, _⟩, _⟩; omega⟩
theorem RungAll.step {f : Nat → Int} {k : Nat} {x : List Bool} (h : RungAll f k x) : RungAll f (k + 1) (ringB x (f k)) := by
  obtain ⟨h1, h2⟩ := h
  refine ⟨by rw [ringB_len, h1], fun z => ?_⟩
  rw [hasB_ring, Bool.or_eq_true, h2 z, decide_eq_true_eq, h1]
  constructor
  · rintro (⟨⟨i, hi, he⟩, h3⟩ | ⟨he, h3, h4⟩)
    · exact ⟨⟨i, by omega, he⟩, h3⟩
    · exact ⟨⟨k, by omega, he.symm⟩, h3, by omega⟩
  · rintro ⟨⟨i, hi, he⟩, h3, h4⟩
    by_cases hk : i = k
    · subst hk
      exact .inr ⟨he.symm, h3, by omega⟩
    · exact .inl ⟨⟨i, by omega, he⟩, h3, h4⟩
/-- Rung in an order that begins elsewhere, the same ones are pending. -/
theorem RungAll.turned {f g : Nat → Int} {n by_ : Nat} {x y : List Bool} (hg : ∀ i, i < n → g i = f ((i + by_) % n)) (hx : RungAll f n x) (hy : RungAll g n y) : x = y := by
  refine hasB_ext (by rw [hx.1, hy.1]) fun z => ?_
  rw [Bool.eq_iff_iff, hx.2 z, hy.2 z]
  have h : (∃ i, i < n ∧ f i = z) ↔ ∃ i, i < n ∧ g i = z := by
    constructor
    · rintro ⟨i, hi, he⟩
      have h1 : by_ % n < n := Nat.mod_lt _ (by omega)
      refine ⟨(i + (n - by_ % n)) % n, Nat.mod_lt _ (by omega), ?_⟩
      rw [hg _ (Nat.mod_lt _ (by omega)), ← he]
      congr 1
      rw [Nat.mod_add_mod]
      have h2 : by_ = n * (by_ / n) + by_ % n := (Nat.div_add_mod by_ n).symm
      have h3 : i + (n - by_ % n) + by_ = i + n * (by_ / n + 1) := by
        rw [Nat.mul_add, Nat.mul_one]; omega
      rw [h3, Nat.add_mul_mod_self_left, Nat.mod_eq_of_lt hi]
    · rintro ⟨i, hi, he⟩
      exact ⟨(i + by_) % n, Nat.mod_lt _ (by omega), (hg i hi).symm.trans he⟩
  rw [h]
end Go.Proofs.YtimikgencnkcnabDoor

/- Where what stands in the memory: plain facts. -/
import Derived.Test.YtmidcnfmphlneaaAcc
namespace Go.Proofs.Ytmidcnfmphlneaa
open Go.RowKit
set_option linter.unusedSimpArgs false
set_option linter.unusedVariables false

/-- How many words a channel's source span has. -/
def sizedC (x : Chn) : Int := if x.kind = 1 then 3 + 4 * (2 + x.words) else 1 + x.depth * (1 + x.words)
def privL (C : Cfg) : List Int := C.parts.map (·.2)
def pairL (x : Chn) : List Int := [sizedC x, 1]
def sizesC (C : Cfg) : List Int := privL C ++ C.chans.flatMap pairL
/-- Spans, one behind the other, of these sizes. -/
def spansF : Int → List Int → List (Int × Int)
  | _, [] => []
  | e, s :: r => (e, s) :: spansF (e + s) r
theorem spansF_len (l : List Int) : ∀ e, (spansF e l).length = l.length := by
  induction l with
  | nil => intro e; rfl
  | cons s r ih => intro e; simp [spansF, ih]
theorem spansF_snoc (l : List Int) (s : Int) : ∀ e, spansF e (l ++ [s]) = spansF e l ++ [(e + l.sum, s)] := by
  induction l with
  | nil => intro e; simp [spansF]
  | cons a r ih => intro e; simp [spansF, ih, Int.add_assoc]
theorem spansF_app (l m : List Int) : ∀ e, spansF e (l ++ m) = spansF e l ++ spansF (e + l.sum) m := by
  induction l with
  | nil => intro e; simp [spansF]
  | cons a r ih => intro e; simp [spansF, ih, Int.add_assoc]
theorem spansF_at (l : List Int) (i : Nat) (h : i < l.length) : ∀ e, (spansF e l)[i]? = some (e + (l.take i).sum, l[i]) := by
  induction l generalizing i with
  | nil => simp at h
  | cons a r ih =>
    intro e
    cases i with
    | zero => simp [spansF]
    | succ i => simp only [spansF, List.getElem?_cons_succ]; rw [ih i (by simpa using h)]; simp [Int.add_assoc]
def spanC (s : Int × Int) : List Value := [.int .i64 s.1, .int .i64 s.2]
theorem spanC_len (s : Int × Int) : (spanC s).length = 2 := rfl
/-- All spans of a configuration. -/
def planL (C : Cfg) : List (Int × Int) := if accB C then spansF 0 (sizesC C) else []
def planE (C : Cfg) : Int := if accB C then (sizesC C).sum else 0
def planN (C : Cfg) : Nat := if accB C then C.parts.length else 0
/-- What stands ahead of a partition's span, of a channel's. -/
def privS (C : Cfg) (p : Nat) : Int := ((C.parts.take p).map (·.2)).sum
def chS (x : Chn) : Int := sizedC x + 1
def befC (C : Cfg) (k : Nat) : Int := privS C C.parts.length + ((C.chans.take k).map chS).sum
theorem privS_succ (C : Cfg) (p : Nat) (h : p < C.parts.length) : privS C (p + 1) = privS C p + C.parts[p].2 := by
  rw [privS, List.take_succ_eq_append_getElem h, List.map_append, List.sum_append]
  exact congrArg (privS C p + ·) (by simp)
theorem befC_succ (C : Cfg) (k : Nat) (h : k < C.chans.length) : befC C (k + 1) = befC C k + (sizedC C.chans[k] + 1) := by
  rw [befC, List.take_succ_eq_append_getElem h, List.map_append, List.sum_append, ← Int.add_assoc]
  exact congrArg (befC C k + ·) (by simp [chS])
theorem pairs_sum (l : List Chn) : (l.flatMap pairL).sum = (l.map chS).sum := by
  induction l with
  | nil => rfl
  | cons x r ih => simp [List.flatMap_cons, pairL, ih, chS]; omega
theorem sizesC_len (C : Cfg) : (sizesC C).length = C.parts.length + C.chans.length * 2 := by
  have h : ∀ l : List Chn, (l.flatMap pairL).length = l.length * 2 := fun l => by
    induction l with
    | nil => rfl
    | cons x r ih => rw [List.flatMap_cons, List.length_append, ih, List.length_cons]; show 2 + _ = _; omega
  rw [sizesC, List.length_append, h, privL, List.length_map]
theorem sizesC_sum (C : Cfg) : (sizesC C).sum = befC C C.chans.length := by
  rw [sizesC, List.sum_append, pairs_sum, befC, privS, List.take_length, List.take_length]; rfl
theorem planL_len (C : Cfg) (h : accB C = true) : (planL C).length = C.parts.length + C.chans.length * 2 := by rw [planL, if_pos h, spansF_len, sizesC_len]
theorem planL_no (C : Cfg) (h : accB C = false) : planL C = [] := by rw [planL, h]; rfl
theorem planE_acc (C : Cfg) (h : accB C = true) : planE C = befC C C.chans.length := by rw [planE, if_pos h, sizesC_sum]
theorem planE_no (C : Cfg) (h : accB C = false) : planE C = 0 := by rw [planE, h]; rfl
theorem planN_acc (C : Cfg) (h : accB C = true) : planN C = C.parts.length := by rw [planN, if_pos h]
theorem planN_no (C : Cfg) (h : accB C = false) : planN C = 0 := by rw [planN, h]; rfl
theorem privL_take (C : Cfg) (p : Nat) : (privL C).take p = (C.parts.take p).map (·.2) := by rw [privL, List.map_take]
theorem planL_priv (C : Cfg) (h : accB C = true) (p : Nat) (hp : p < C.parts.length) : (planL C)[p]? = some (privS C p, C.parts[p].2) := by
  have hl : p < (sizesC C).length := by rw [sizesC_len]; omega
  rw [planL, if_pos h, spansF_at _ p hl, Int.zero_add]
  have h1 : (sizesC C).take p = (C.parts.take p).map (·.2) := by
    rw [sizesC, List.take_append_of_le_length (by simp [privL]; omega), privL_take]
  have h2 : (sizesC C)[p] = C.parts[p].2 := by
    simp only [sizesC]
    rw [List.getElem_append_left (by simpa [privL] using hp)]
    simp [privL]
  rw [h1, h2]; rfl
theorem pairs_take (l : List Chn) (k : Nat) (h : k ≤ l.length) : (l.flatMap pairL).take (k * 2) = (l.take k).flatMap pairL := by
  induction l generalizing k with
  | nil => simp at h; subst h; rfl
  | cons x r ih =>
    cases k with
    | zero => simp
    | succ k =>
      rw [List.flatMap_cons, List.take_succ_cons, List.flatMap_cons, show (k + 1) * 2 = 2 + k * 2 by omega]
      show (sizedC x :: 1 :: (r.flatMap pairL)).take (2 + k * 2) = sizedC x :: 1 :: ((r.take k).flatMap pairL)
      rw [show 2 + k * 2 = k * 2 + 1 + 1 by omega, List.take_succ_cons, List.take_succ_cons, ih k (by simpa using h)]
theorem sizes_take (C : Cfg) (k : Nat) (h : k ≤ C.chans.length) : ((sizesC C).take (C.parts.length + k * 2)).sum = befC C k := by
  have hl : (privL C).length = C.parts.length := by simp [privL]
  rw [sizesC, ← hl, List.take_length_add_append, pairs_take _ _ h, List.sum_append, pairs_sum, befC, privS, List.take_length]; rfl
theorem pairs_at (l : List Chn) (k : Nat) (h : k < l.length) : (l.flatMap pairL)[k * 2]? = some (sizedC l[k]) ∧ (l.flatMap pairL)[k * 2 + 1]? = some 1 := by
  induction l generalizing k with
  | nil => simp at h
  | cons x r ih =>
    have e : (x :: r).flatMap pairL = sizedC x :: 1 :: (r.flatMap pairL) := rfl
    cases k with
    | zero => rw [e]; exact ⟨rfl, rfl⟩
    | succ k =>
      rw [e, show (k + 1) * 2 = k * 2 + 1 + 1 by omega]
      simp only [List.getElem?_cons_succ, List.getElem_cons_succ]
      exact ih k (by simpa using h)
theorem sizes_at (C : Cfg) (k j : Nat) : (sizesC C)[C.parts.length + k * 2 + j]? = (C.chans.flatMap pairL)[k * 2 + j]? := by
  have hl : (privL C).length = C.parts.length := by simp [privL]
  rw [sizesC, List.getElem?_append_right (by omega), hl]
  congr 1; omega
theorem planL_src (C : Cfg) (h : accB C = true) (k : Nat) (hk : k < C.chans.length) : (planL C)[C.parts.length + k * 2]? = some (befC C k, sizedC C.chans[k]) := by
  have hl : C.parts.length + k * 2 < (sizesC C).length := by rw [sizesC_len]; omega
  have h1 := sizes_at C k 0
  rw [Nat.add_zero, Nat.add_zero, (pairs_at _ k hk).1, List.getElem?_eq_getElem hl, Option.some.injEq] at h1
  rw [planL, if_pos h, spansF_at _ _ hl, Int.zero_add, sizes_take C k (by omega), h1]
theorem planL_dst (C : Cfg) (h : accB C = true) (k : Nat) (hk : k < C.chans.length) : (planL C)[C.parts.length + k * 2 + 1]? = some (befC C k + sizedC C.chans[k], 1) := by
  have hl : C.parts.length + k * 2 + 1 < (sizesC C).length := by rw [sizesC_len]; omega
  have h0 := sizes_at C k 0
  have h1 := sizes_at C k 1
  rw [Nat.add_zero, Nat.add_zero, (pairs_at _ k hk).1, List.getElem?_eq_getElem (by omega), Option.some.injEq] at h0
  rw [(pairs_at _ k hk).2, List.getElem?_eq_getElem hl, Option.some.injEq] at h1
  rw [planL, if_pos h, spansF_at _ _ hl, Int.zero_add, List.take_succ_eq_append_getElem (by omega), List.sum_append, sizes_take C k (by omega), h0, h1]
  simp
/-- What each span is. -/
def privB (C : Cfg) (p : Int) : Int × Int := if accB C = true ∧ 0 ≤ p ∧ p < C.parts.length then (privS C p.toNat, (C.parts.getD p.toNat (0, 0)).2) else (0, 0)
def srcB (C : Cfg) (k : Int) : Int × Int := if accB C = true ∧ 0 ≤ k ∧ k < C.chans.length then (befC C k.toNat, sizedC (C.chans.getD k.toNat default)) else (0, 0)
def dstB (C : Cfg) (k : Int) : Int × Int := if accB C = true ∧ 0 ≤ k ∧ k < C.chans.length then (befC C k.toNat + sizedC (C.chans.getD k.toNat default), 1) else (0, 0)
def bufB (C : Cfg) (k pair index : Int) : Int × Int :=
  if accB C = true ∧ 0 ≤ k ∧ k < C.chans.length ∧ (C.chans.getD k.toNat default).kind = 1 ∧ (pair = 0 ∨ pair = 1) ∧ (index = 0 ∨ index = 1) then
    (befC C k.toNat + (3 + (2 * pair + index) * (2 + (C.chans.getD k.toNat default).words)), 2 + (C.chans.getD k.toNat default).words) else (0, 0)
def cellB (C : Cfg) (k i : Int) : Int × Int :=
  if accB C = true ∧ 0 ≤ k ∧ k < C.chans.length ∧ (C.chans.getD k.toNat default).kind = 2 ∧ 0 ≤ i ∧ i < (C.chans.getD k.toNat default).depth then
    (befC C k.toNat + (1 + i * (1 + (C.chans.getD k.toNat default).words)), 1 + (C.chans.getD k.toNat default).words) else (0, 0)
theorem getD_at {α : Type} (l : List α) (k : Nat) (d : α) (h : k < l.length) : l.getD k d = l[k] := by
  rw [List.getD_eq_getElem?_getD, List.getElem?_eq_getElem h]; rfl
/-- Sizes are small. -/
theorem chn_small {C : Cfg} (h : accB C = true) {x : Chn} (hx : x ∈ C.chans) : 3 ≤ sizedC x ∧ sizedC x ≤ 137 ∧ 1 ≤ x.words ∧ x.words ≤ 16 ∧ 0 ≤ x.depth ∧ x.depth ≤ 8 := by
  obtain ⟨hk, _, _, _, hw, h1, h2⟩ := (acc_of h).chans x hx
  rw [sizedC]
  rcases hk with hk | hk
  · have := h1 hk
    rw [if_pos hk]; omega
  · obtain ⟨hd, _⟩ := h2 hk
    rw [if_neg (by omega)]
    rcases hd with hd | hd | hd | hd <;> rw [hd] <;> omega
theorem sum_small {α : Type} (f : α → Int) (b : Int) (hb : 0 ≤ b) : ∀ l : List α, (∀ x ∈ l, 0 ≤ f x ∧ f x ≤ b) → 0 ≤ (l.map f).sum ∧ (l.map f).sum ≤ l.length * b
  | [], _ => by simp
  | x :: r, h => by
    have h1 := h x (by simp)
    have h2 := sum_small f b hb r fun y hy => h y (by simp [hy])
    simp only [List.map_cons, List.sum_cons, List.length_cons, Int.natCast_add, Int.add_mul]
    omega
theorem privS_small {C : Cfg} (h : accB C = true) (p : Nat) : 0 ≤ privS C p ∧ privS C p ≤ 384 := by
  have ha := acc_of h
  have h1 := sum_small (fun x : Int × Int => x.2) 64 (by omega) (C.parts.take p) fun x hx => (ha.parts x (List.mem_of_mem_take hx)).2
  have h2 : (C.parts.take p).length ≤ 6 := Nat.le_trans (List.length_take_le' _ _) (by have := ha.np; omega)
  have h3 : privS C p = ((C.parts.take p).map fun x : Int × Int => x.2).sum := rfl
  rw [h3]; omega
theorem befC_small {C : Cfg} (h : accB C = true) (k : Nat) : 0 ≤ befC C k ∧ befC C k ≤ 1488 := by
  have ha := acc_of h
  have h1 := sum_small chS 138 (by omega) (C.chans.take k) fun x hx => by
    have := chn_small h (List.mem_of_mem_take hx)
    rw [chS]; omega
  have h2 : (C.chans.take k).length ≤ 8 := Nat.le_trans (List.length_take_le' _ _) (by have := ha.nc; omega)
  have h3 := privS_small h C.parts.length
  rw [befC]; omega
theorem part_small {C : Cfg} (h : accB C = true) (p : Nat) (hp : p < C.parts.length) : 0 ≤ C.parts[p].2 ∧ C.parts[p].2 ≤ 64 := ((acc_of h).parts _ (List.getElem_mem hp)).2
theorem planE_small (C : Cfg) : 0 ≤ planE C ∧ planE C ≤ 1488 := by
  cases h : accB C with
  | true => rw [planE_acc C h]; exact befC_small h _
  | false => rw [planE_no C h]; omega
theorem planL_le (C : Cfg) : (planL C).length ≤ 22 := by
  cases h : accB C with
  | true => rw [planL_len C h]; have ha := acc_of h; have := ha.np; have := ha.nc; omega
  | false => rw [planL_no C h]; simp
end Go.Proofs.Ytmidcnfmphlneaa

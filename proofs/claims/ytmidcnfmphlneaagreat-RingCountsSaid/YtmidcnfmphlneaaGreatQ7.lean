/- What an accepted configuration is: no defect holds.; Where what stands in the memory: plain facts.; Laws for a region that draws its order, with the world named anew behind each step: nothing of the program. -/
import Derived.Test.YtmidcnfmphlneaaGreatQ6
import Derived.Test.YtmidcnfmphlneaaGreatQ3
import Derived.Deep.AppendLies
import Derived.StillTailTactics
namespace Go.Proofs.YtmidcnfmphlneaaGreat
section
open Go.RowKit
set_option linter.unusedSimpArgs false
set_option linter.unusedVariables false

theorem acc_rules {C : Cfg} (h : accB C = true) (k : Nat) (hk : k < 17) : ruleB (k + 1) C = false := by
  rw [← Bool.not_eq_true]
  intro hr
  have hm : (k : Int) + 1 ∈ defsB C := by
    simp only [defsB, defsK, List.mem_map, List.mem_filter, List.mem_range]
    exact ⟨k, ⟨hk, hr⟩, rfl⟩
  rw [accB, List.isEmpty_iff] at h
  rw [h] at hm
  cases hm
theorem not_false_b {b : Bool} (h : (!b) = false) : b = true := by cases b <;> simp_all
theorem any_false {α : Type} {l : List α} {p : α → Bool} (h : l.any p = false) : ∀ x ∈ l, p x = false := fun x hx => by
  rw [← Bool.not_eq_true]
  intro hp
  rw [List.any_eq_true.2 ⟨x, hx, hp⟩] at h
  cases h
def ChnOk (C : Cfg) (x : Chn) : Prop := (x.kind = 1 ∨ x.kind = 2) ∧ (0 ≤ x.frm ∧ x.frm < C.parts.length) ∧ (0 ≤ x.to ∧ x.to < C.parts.length) ∧ x.frm ≠ x.to ∧ (1 ≤ x.words ∧ x.words ≤ 16) ∧
  (x.kind = 1 → x.depth = 0 ∧ 0 ≤ x.period ∧ x.period ≤ 1048576 ∧ x.boot = 0) ∧ (x.kind = 2 → (x.depth = 1 ∨ x.depth = 2 ∨ x.depth = 4 ∨ x.depth = 8) ∧ x.period = 0)
def WinOk (C : Cfg) (core : Bool) (x : Win) : Prop := (0 ≤ x.part ∧ x.part < C.parts.length) ∧ (C.parts.getD x.part.toNat (0, 0)).1 = cI core ∧ 0 ≤ x.start ∧ 1 ≤ x.len ∧ x.start + x.len ≤ C.len core
structure Acc (C : Cfg) : Prop where
  np : 1 ≤ C.parts.length ∧ C.parts.length ≤ 6
  parts : ∀ p ∈ C.parts, (p.1 = 0 ∨ p.1 = 1) ∧ 0 ≤ p.2 ∧ p.2 ≤ 64
  nc : C.chans.length ≤ 8
  chans : ∀ x ∈ C.chans, ChnOk C x
  len : ∀ core, 1 ≤ C.len core ∧ C.len core ≤ 64
  nw : ∀ core, (C.win core).length ≤ 16
  wins : ∀ core, ∀ x ∈ C.win core, WinOk C core x
  next : ∀ core i u x, (C.win core)[i]? = some u → (C.win core)[i + 1]? = some x → u.start + u.len ≤ x.start
  idle : ∀ p, p < C.parts.length → ∃ core, (C.parts.getD p (0, 0)).1 = cI core ∧ ∃ x ∈ C.win core, x.part = (p : Int)
theorem strangeB_false {C : Cfg} {p : Int} (h : strangeB C p = false) : 0 ≤ p ∧ p < C.parts.length := by
  simp only [strangeB, Bool.not_eq_false', inB_iff] at h
  omega
theorem winOk_of {C : Cfg} {core : Bool} {x : Win} (h1 : foreignB C core x = false) (h2 : outsideB C core x = false) : WinOk C core x := by
  simp only [foreignB, Bool.or_eq_false_iff, bne_eq_false_iff_eq] at h1
  simp only [outsideB, beyondB, Bool.or_eq_false_iff, decide_eq_false_iff_not] at h2
  exact ⟨strangeB_false h1.1, h1.2, by omega, by omega, by omega⟩
theorem acc_of {C : Cfg} (h : accB C = true) : Acc C := by
  have r := acc_rules h
  have r1 : (!inB C.parts.length 1 6) = false := r 0 (by omega)
  have r2 : (C.parts.any fun x => !inB x.1 0 1) = false := r 1 (by omega)
  have r3 : (C.parts.any fun x => !inB x.2 0 64) = false := r 2 (by omega)
  have r4 : decide (8 < C.chans.length) = false := r 3 (by omega)
  have r5 : (C.chans.any fun x => x.kind != 1 && x.kind != 2) = false := r 4 (by omega)
  have r6 : (C.chans.any fun x => strangeB C x.frm || strangeB C x.to) = false := r 5 (by omega)
  have r7 : (C.chans.any fun x => x.frm == x.to) = false := r 6 (by omega)
  have r8 : (C.chans.any fun x => !inB x.words 1 16) = false := r 7 (by omega)
  have r9 : (C.chans.any fun x => !deepB x) = false := r 8 (by omega)
  have r10 : (C.chans.any fun x => !freshB x) = false := r 9 (by omega)
  have r11 : (C.chans.any fun x => x.kind == 1 && x.boot != 0) = false := r 10 (by omega)
  have r12 : (!inB C.l0 1 64 || !inB C.l1 1 64) = false := r 11 (by omega)
  have r13 : (decide (16 < C.w0.length) || decide (16 < C.w1.length)) = false := r 12 (by omega)
  have r14 : (C.w0.any (foreignB C false) || C.w1.any (foreignB C true)) = false := r 13 (by omega)
  have r15 : (C.w0.any (outsideB C false) || C.w1.any (outsideB C true)) = false := r 14 (by omega)
  have r16 : (crossB C.w0 || crossB C.w1) = false := r 15 (by omega)
  have r17 : idleK C C.parts.length = false := r 16 (by omega)
  rw [Bool.or_eq_false_iff] at r12 r13 r14 r15 r16
  have hp : 1 ≤ C.parts.length ∧ C.parts.length ≤ 6 := by
    have h1 := inB_iff.1 (not_false_b r1)
    omega
  have hwin : ∀ core, ∀ x ∈ C.win core, WinOk C core x := fun core x hx => by
    cases core
    · exact winOk_of (any_false r14.1 x hx) (any_false r15.1 x hx)
    · exact winOk_of (any_false r14.2 x hx) (any_false r15.2 x hx)
  have hlen : ∀ core, 1 ≤ C.len core ∧ C.len core ≤ 64 := fun core => by
    cases core
    · exact inB_iff.1 (not_false_b r12.1)
    · exact inB_iff.1 (not_false_b r12.2)
  refine ⟨hp, fun p hpm => ?_, by have := of_decide_eq_false r4; omega, fun x hx => ?_, hlen, fun core => ?_, hwin, fun core i u x hu hx => ?_, fun p hpl => ?_⟩
  · have h1 := inB_iff.1 (not_false_b (any_false r2 p hpm))
    have h2 := inB_iff.1 (not_false_b (any_false r3 p hpm))
    omega
  · have h5 := any_false r5 x hx
    have h6 := any_false r6 x hx
    have h7 := any_false r7 x hx
    have h8 := inB_iff.1 (not_false_b (any_false r8 x hx))
    have h9 := not_false_b (any_false r9 x hx)
    have h10 := not_false_b (any_false r10 x hx)
    have h11 := any_false r11 x hx
    rw [Bool.or_eq_false_iff] at h6
    have hk : x.kind = 1 ∨ x.kind = 2 := by
      by_cases h1 : x.kind = 1
      · exact .inl h1
      · by_cases h2 : x.kind = 2
        · exact .inr h2
        · simp [h1, h2] at h5
    refine ⟨hk, strangeB_false h6.1, strangeB_false h6.2, by simpa using h7, h8, fun h1 => ?_, fun h2 => ?_⟩
    · rw [deepB, if_pos h1] at h9
      rw [freshB, if_pos h1] at h10
      have h10' := inB_iff.1 h10
      refine ⟨by simpa using h9, h10'.1, h10'.2, ?_⟩
      simpa [h1] using h11
    · have hn : ¬ x.kind = 1 := by omega
      rw [deepB, if_neg hn, if_pos h2] at h9
      rw [freshB, if_neg hn, if_pos h2] at h10
      simp only [Bool.or_eq_true, beq_iff_eq] at h9
      exact ⟨by omega, by simpa using h10⟩
  · cases core
    · have := of_decide_eq_false r13.1; exact Nat.not_lt.1 this
    · have := of_decide_eq_false r13.2; exact Nat.not_lt.1 this
  · have hum : u ∈ C.win core := List.mem_of_getElem? hu
    have hxm : x ∈ C.win core := List.mem_of_getElem? hx
    obtain ⟨_, _, u1, u2, u3⟩ := hwin core u hum
    obtain ⟨_, _, x1, x2, x3⟩ := hwin core x hxm
    have hl := hlen core
    have hcr : crossB (C.win core) = false := by
      cases core
      · exact r16.1
      · exact r16.2
    have hi : i + 1 < (C.win core).length := (List.getElem?_eq_some_iff.1 hx).1
    have hpair : pairB u x = false := by
      rw [← Bool.not_eq_true]
      intro hpr
      have h1 : crossK (C.win core) (i + 1 + 1) = true := by
        rw [crossK_succ, List.getD_eq_getElem?_getD, List.getD_eq_getElem?_getD, hx, show i + 1 - 1 = i by omega, hu, Option.getD_some, Option.getD_some, hpr]
        simp
      rw [crossB, crossK_mono h1 _ (by omega)] at hcr
      cases hcr
    have w1 : wordB u.start = true := inB_true (by omega)
    have w2 : wordB u.len = true := inB_true (by omega)
    have w3 : wordB x.start = true := inB_true (by omega)
    rw [pairB, w1, w2, w3] at hpair
    have := of_decide_eq_false (by simpa using hpair : decide (x.start < u.start + u.len) = false)
    omega
  · have hid : idleB C p = false := by
      rw [idleK] at r17
      exact any_false r17 p (List.mem_range.2 hpl)
    rw [idleB, Bool.or_eq_false_iff, Bool.not_eq_false', Bool.not_eq_false', inB_iff, List.any_eq_true] at hid
    obtain ⟨hc, x, hx, hxp⟩ := hid
    by_cases h0 : (C.parts.getD p (0, 0)).1 = 0
    · rw [Cfg.winI, if_pos h0] at hx
      exact ⟨false, h0, x, hx, by simpa using hxp⟩
    · rw [Cfg.winI, if_neg h0] at hx
      exact ⟨true, by show _ = (1 : Int); omega, x, hx, by simpa using hxp⟩
end
section
open Go.RowKit
set_option linter.unusedSimpArgs false
set_option linter.unusedVariables false

/-- How many words a channel's source span has. -/
def sizedC (x : Chn) : Int := if x.kind = 1 then 3 + 4 * (2 + x.words) else 1 + x.depth * (1 + x.words)
def privL (C : Cfg) : List Int := C.parts.map (·.2)
def pairL (x : Chn) : List Int := [sizedC x, 1]
def sizesC (C : Cfg) : List Int := privL C ++ C.chans.flatMap pairL
/-- Spans, one behind the other, of these sizes. -/
def spansF : Int → List Int → List (Int × Int)
  | _, [] => []
  | e, s :: r => (e, s) :: spansF (e + s) r
theorem spansF_len (l : List Int) : ∀ e, (spansF e l).length = l.length := by
  induction l with
  | nil => intro e; rfl
  | cons s r ih => intro e; simp [spansF, ih]
theorem spansF_snoc (l : List Int) (s : Int) : ∀ e, spansF e (l ++ [s]) = spansF e l ++ [(e + l.sum, s)] := by
  induction l with
  | nil => intro e; simp [spansF]
  | cons a r ih => intro e; simp [spansF, ih, Int.add_assoc]
theorem spansF_at (l : List Int) (i : Nat) (h : i < l.length) : ∀ e, (spansF e l)[i]? = some (e + (l.take i).sum, l[i]) := by
  induction l generalizing i with
  | nil => simp at h
  | cons a r ih =>
    intro e
    cases i with
    | zero => simp [spansF]
    | succ i => simp only [spansF, List.getElem?_cons_succ]; rw [ih i (by simpa using h)]; simp [Int.add_assoc]
def spanC (s : Int × Int) : List Value := [.int .i64 s.1, .int .i64 s.2]
theorem spanC_len (s : Int × Int) : (spanC s).length = 2 := rfl
/-- All spans of a configuration. -/
def planL (C : Cfg) : List (Int × Int) := if accB C then spansF 0 (sizesC C) else []
def planE (C : Cfg) : Int := if accB C then (sizesC C).sum else 0
/-- What stands ahead of a partition's span, of a channel's. -/
def privS (C : Cfg) (p : Nat) : Int := ((C.parts.take p).map (·.2)).sum
def chS (x : Chn) : Int := sizedC x + 1
def befC (C : Cfg) (k : Nat) : Int := privS C C.parts.length + ((C.chans.take k).map chS).sum
theorem privS_succ (C : Cfg) (p : Nat) (h : p < C.parts.length) : privS C (p + 1) = privS C p + C.parts[p].2 := by
  rw [privS, List.take_succ_eq_append_getElem h, List.map_append, List.sum_append]
  exact congrArg (privS C p + ·) (by simp)
theorem befC_succ (C : Cfg) (k : Nat) (h : k < C.chans.length) : befC C (k + 1) = befC C k + (sizedC C.chans[k] + 1) := by
  rw [befC, List.take_succ_eq_append_getElem h, List.map_append, List.sum_append, ← Int.add_assoc]
  exact congrArg (befC C k + ·) (by simp [chS])
theorem pairs_sum (l : List Chn) : (l.flatMap pairL).sum = (l.map chS).sum := by
  induction l with
  | nil => rfl
  | cons x r ih => simp [List.flatMap_cons, pairL, ih, chS]; omega
theorem sizesC_len (C : Cfg) : (sizesC C).length = C.parts.length + C.chans.length * 2 := by
  have h : ∀ l : List Chn, (l.flatMap pairL).length = l.length * 2 := fun l => by
    induction l with
    | nil => rfl
    | cons x r ih => rw [List.flatMap_cons, List.length_append, ih, List.length_cons]; show 2 + _ = _; omega
  rw [sizesC, List.length_append, h, privL, List.length_map]
theorem sizesC_sum (C : Cfg) : (sizesC C).sum = befC C C.chans.length := by
  rw [sizesC, List.sum_append, pairs_sum, befC, privS, List.take_length, List.take_length]; rfl
theorem planL_len (C : Cfg) (h : accB C = true) : (planL C).length = C.parts.length + C.chans.length * 2 := by rw [planL, if_pos h, spansF_len, sizesC_len]
theorem planE_acc (C : Cfg) (h : accB C = true) : planE C = befC C C.chans.length := by rw [planE, if_pos h, sizesC_sum]
theorem planE_no (C : Cfg) (h : accB C = false) : planE C = 0 := by rw [planE, h]; rfl
theorem pairs_take (l : List Chn) (k : Nat) (h : k ≤ l.length) : (l.flatMap pairL).take (k * 2) = (l.take k).flatMap pairL := by
  induction l generalizing k with
  | nil => simp at h; subst h; rfl
  | cons x r ih =>
    cases k with
    | zero => simp
    | succ k =>
      rw [List.flatMap_cons, List.take_succ_cons, List.flatMap_cons, show (k + 1) * 2 = 2 + k * 2 by omega]
      show (sizedC x :: 1 :: (r.flatMap pairL)).take (2 + k * 2) = sizedC x :: 1 :: ((r.take k).flatMap pairL)
      rw [show 2 + k * 2 = k * 2 + 1 + 1 by omega, List.take_succ_cons, List.take_succ_cons, ih k (by simpa using h)]
theorem sizes_take (C : Cfg) (k : Nat) (h : k ≤ C.chans.length) : ((sizesC C).take (C.parts.length + k * 2)).sum = befC C k := by
  have hl : (privL C).length = C.parts.length := by simp [privL]
  rw [sizesC, ← hl, List.take_length_add_append, pairs_take _ _ h, List.sum_append, pairs_sum, befC, privS, List.take_length]; rfl
theorem pairs_at (l : List Chn) (k : Nat) (h : k < l.length) : (l.flatMap pairL)[k * 2]? = some (sizedC l[k]) ∧ (l.flatMap pairL)[k * 2 + 1]? = some 1 := by
  induction l generalizing k with
  | nil => simp at h
  | cons x r ih =>
    have e : (x :: r).flatMap pairL = sizedC x :: 1 :: (r.flatMap pairL) := rfl
    cases k with
    | zero => rw [e]; exact ⟨rfl, rfl⟩
    | succ k =>
      rw [e, show (k + 1) * 2 = k * 2 + 1 + 1 by omega]
      simp only [List.getElem?_cons_succ, List.getElem_cons_succ]
      exact ih k (by simpa using h)
theorem sizes_at (C : Cfg) (k j : Nat) : (sizesC C)[C.parts.length + k * 2 + j]? = (C.chans.flatMap pairL)[k * 2 + j]? := by
  have hl : (privL C).length = C.parts.length := by simp [privL]
  rw [sizesC, List.getElem?_append_right (by omega), hl]
  congr 1; omega
theorem planL_src (C : Cfg) (h : accB C = true) (k : Nat) (hk : k < C.chans.length) : (planL C)[C.parts.length + k * 2]? = some (befC C k, sizedC C.chans[k]) := by
  have hl : C.parts.length + k * 2 < (sizesC C).length := by rw [sizesC_len]; omega
  have h1 := sizes_at C k 0
  rw [Nat.add_zero, Nat.add_zero, (pairs_at _ k hk).1, List.getElem?_eq_getElem hl, Option.some.injEq] at h1
  rw [planL, if_pos h, spansF_at _ _ hl, Int.zero_add, sizes_take C k (by omega), h1]
theorem planL_dst (C : Cfg) (h : accB C = true) (k : Nat) (hk : k < C.chans.length) : (planL C)[C.parts.length + k * 2 + 1]? = some (befC C k + sizedC C.chans[k], 1) := by
  have hl : C.parts.length + k * 2 + 1 < (sizesC C).length := by rw [sizesC_len]; omega
  have h0 := sizes_at C k 0
  have h1 := sizes_at C k 1
  rw [Nat.add_zero, Nat.add_zero, (pairs_at _ k hk).1, List.getElem?_eq_getElem (by omega), Option.some.injEq] at h0
  rw [(pairs_at _ k hk).2, List.getElem?_eq_getElem hl, Option.some.injEq] at h1
  rw [planL, if_pos h, spansF_at _ _ hl, Int.zero_add, List.take_succ_eq_append_getElem (by omega), List.sum_append, sizes_take C k (by omega), h0, h1]
  simp
def srcB (C : Cfg) (k : Int) : Int × Int := if accB C = true ∧ 0 ≤ k ∧ k < C.chans.length then (befC C k.toNat, sizedC (C.chans.getD k.toNat default)) else (0, 0)
def dstB (C : Cfg) (k : Int) : Int × Int := if accB C = true ∧ 0 ≤ k ∧ k < C.chans.length then (befC C k.toNat + sizedC (C.chans.getD k.toNat default), 1) else (0, 0)
def cellB (C : Cfg) (k i : Int) : Int × Int :=
  if accB C = true ∧ 0 ≤ k ∧ k < C.chans.length ∧ (C.chans.getD k.toNat default).kind = 2 ∧ 0 ≤ i ∧ i < (C.chans.getD k.toNat default).depth then
    (befC C k.toNat + (1 + i * (1 + (C.chans.getD k.toNat default).words)), 1 + (C.chans.getD k.toNat default).words) else (0, 0)
theorem getD_at {α : Type} (l : List α) (k : Nat) (d : α) (h : k < l.length) : l.getD k d = l[k] := by
  rw [List.getD_eq_getElem?_getD, List.getElem?_eq_getElem h]; rfl
/-- Sizes are small. -/
theorem chn_small {C : Cfg} (h : accB C = true) {x : Chn} (hx : x ∈ C.chans) : 3 ≤ sizedC x ∧ sizedC x ≤ 137 ∧ 1 ≤ x.words ∧ x.words ≤ 16 ∧ 0 ≤ x.depth ∧ x.depth ≤ 8 := by
  obtain ⟨hk, _, _, _, hw, h1, h2⟩ := (acc_of h).chans x hx
  rw [sizedC]
  rcases hk with hk | hk
  · have := h1 hk
    rw [if_pos hk]; omega
  · obtain ⟨hd, _⟩ := h2 hk
    rw [if_neg (by omega)]
    rcases hd with hd | hd | hd | hd <;> rw [hd] <;> omega
theorem sum_small {α : Type} (f : α → Int) (b : Int) (hb : 0 ≤ b) : ∀ l : List α, (∀ x ∈ l, 0 ≤ f x ∧ f x ≤ b) → 0 ≤ (l.map f).sum ∧ (l.map f).sum ≤ l.length * b
  | [], _ => by simp
  | x :: r, h => by
    have h1 := h x (by simp)
    have h2 := sum_small f b hb r fun y hy => h y (by simp [hy])
    simp only [List.map_cons, List.sum_cons, List.length_cons, Int.natCast_add, Int.add_mul]
    omega
theorem privS_small {C : Cfg} (h : accB C = true) (p : Nat) : 0 ≤ privS C p ∧ privS C p ≤ 384 := by
  have ha := acc_of h
  have h1 := sum_small (fun x : Int × Int => x.2) 64 (by omega) (C.parts.take p) fun x hx => (ha.parts x (List.mem_of_mem_take hx)).2
  have h2 : (C.parts.take p).length ≤ 6 := Nat.le_trans (List.length_take_le' _ _) (by have := ha.np; omega)
  have h3 : privS C p = ((C.parts.take p).map fun x : Int × Int => x.2).sum := rfl
  rw [h3]; omega
theorem befC_small {C : Cfg} (h : accB C = true) (k : Nat) : 0 ≤ befC C k ∧ befC C k ≤ 1488 := by
  have ha := acc_of h
  have h1 := sum_small chS 138 (by omega) (C.chans.take k) fun x hx => by
    have := chn_small h (List.mem_of_mem_take hx)
    rw [chS]; omega
  have h2 : (C.chans.take k).length ≤ 8 := Nat.le_trans (List.length_take_le' _ _) (by have := ha.nc; omega)
  have h3 := privS_small h C.parts.length
  rw [befC]; omega
theorem part_small {C : Cfg} (h : accB C = true) (p : Nat) (hp : p < C.parts.length) : 0 ≤ C.parts[p].2 ∧ C.parts[p].2 ≤ 64 := ((acc_of h).parts _ (List.getElem_mem hp)).2
end
section
open Go.RowKit
set_option linter.unusedSimpArgs false
set_option linter.unusedVariables false

section
variable {P : Program} {ops : Array Oper} {Q : Exit → Act → World → Prop} {S : World → Prop}
/-- The region's beginning: the world behind the draw under a name. -/
theorem held_start_gen {id : Nat} {a : Act} {w : World} (hm : P.follows .mixedOrders = true) (R : World → Prop) (hR : R w.drew) (hS : S w.drew)
    (h : ∀ wd, R wd → S wd → wpAnyH P .any ops Q S ops.size (Array.replicate ops.size false) a wd) : (Code.region id ops true).wp P Q a w :=
  wp_region_held_drew hm hS fun hs => h _ hR hs
/-- Behind a step: the world under a name. -/
theorem out_gen {K : Act → World → Prop} {T : Act → World → Prop} (hK : Shut (∀ a w, S w → (S w → T a w) → K a w)) (a : Act) (w : World) (R : World → Prop) (hR : R w) (hS : S w) (h : ∀ w', R w' → S w' → T a w') : K a w :=
  hK.out a w hS fun hs => h w hR hs
end
theorem ButS.al {S : List Nat} {W0 W : World} (h : ButS S W0 W) (o : Obj) : ButS S W0 (W.alloc o) := h.trans (ButS.of_below ((Below.refl _ _).alloc (Nat.le_refl _) o))
theorem ButS.grown {S : List Nat} {W0 W W1 : World} {base : Nat} {e : TypeId} {k : Nat} {v : Value} {n : Nat} {cs : List Value} (h : ButS S W0 W) (hown : W.ownsRow base e k v n cs) (hg : W.grownBy W1 v.ownBlock) (hb : W0.heap.size ≤ base) : ButS S W0 W1 :=
  ⟨hg.os.trans h.os, hg.tape.trans h.tape, hg.output.trans h.output, Nat.le_trans h.size hg.size, fun b hb0 hn => (hg.block b (Nat.lt_of_lt_of_le hb0 h.size) fun he => by have := (hown.lt b he.symm).1; omega).trans (h.block b hb0 hn)⟩
theorem ButS.set' {S : List Nat} {W0 W : World} (h : ButS S W0 W) {p : Addr} (hp : p.block ∈ S ∨ W0.heap.size ≤ p.block) (v : Value) : ButS S W0 (W.setCell p v) := by
  rcases hp with hp | hp
  · exact h.set hp v
  · exact ⟨h.os, h.tape, h.output, by simpa [World.setCell] using h.size, fun k hk hne => (Below.heap_setCell W p v k (by omega)).trans (h.block k hk hne)⟩
theorem news_of_row {w : World} {k : Nat} {ad : Addr} {n c : Nat} {cs : List Value} (h : RowAt w k (.slice (some ad) n c) n cs) (hn : 0 < n) (ha : ad.spot = none) : ∀ j u, cs[j]? = some u → w.cell? (ad.add j) = some u := fun j u hu => by
  obtain ⟨g, o, he, hg, hc⟩ := h.at hn
  cases he
  have hj : j < n * k := by have := (List.getElem?_eq_some_iff.1 hu).1; have := h.1; omega
  rw [add_at, hc j hj]
  exact hu
/-- All blocks below B lie as they lay, but those listed. -/
structure ButB (B : Nat) (S : List Nat) (W0 W : World) : Prop where
  le : B ≤ W0.heap.size
  os : W.os = W0.os
  tape : W.tape = W0.tape
  output : W.output = W0.output
  size : W0.heap.size ≤ W.heap.size
  block : ∀ k, k < B → k ∉ S → W.heap[k]? = W0.heap[k]?
theorem ButB.refl {B : Nat} (S : List Nat) {W : World} (h : B ≤ W.heap.size) : ButB B S W W := ⟨h, rfl, rfl, rfl, Nat.le_refl _, fun _ _ _ => rfl⟩
theorem ButB.dr {B : Nat} {S : List Nat} {W0 W : World} (h : ButB B S W0 W) : ButB B S W0 W.drew := ⟨h.le, h.os, h.tape, h.output, h.size, h.block⟩
theorem ButB.call {B : Nat} {S : List Nat} {W0 W W1 : World} (h : ButB B S W0 W) (hb : Below W.heap.size W W1) : ButB B S W0 W1 :=
  ⟨h.le, hb.os.trans h.os, hb.tape.trans h.tape, hb.output.trans h.output, Nat.le_trans h.size hb.size, fun k hk hn => (hb.block k (by have := h.le; have := h.size; omega)).trans (h.block k hk hn)⟩
theorem ButB.al {B : Nat} {S : List Nat} {W0 W : World} (h : ButB B S W0 W) (o : Obj) : ButB B S W0 (W.alloc o) := h.call ((Below.refl _ _).alloc (Nat.le_refl _) o)
theorem ButB.set {B : Nat} {S : List Nat} {W0 W : World} (h : ButB B S W0 W) {p : Addr} (hp : p.block ∈ S ∨ B ≤ p.block) (v : Value) : ButB B S W0 (W.setCell p v) :=
  ⟨h.le, h.os, h.tape, h.output, by simpa [World.setCell] using h.size, fun k hk hne => (Below.heap_setCell W p v k (by
    rintro rfl
    rcases hp with hp | hp
    · exact hne hp
    · omega)).trans (h.block k hk hne)⟩
theorem ButB.grown {B : Nat} {S : List Nat} {W0 W W1 : World} {base : Nat} {e : TypeId} {k : Nat} {v : Value} {n : Nat} {cs : List Value} (h : ButB B S W0 W) (hown : W.ownsRow base e k v n cs) (hg : W.grownBy W1 v.ownBlock) (hb : B ≤ base) : ButB B S W0 W1 :=
  ⟨h.le, hg.os.trans h.os, hg.tape.trans h.tape, hg.output.trans h.output, Nat.le_trans h.size hg.size, fun b hb0 hn => (hg.block b (by have := h.le; have := h.size; omega) fun he => by have := (hown.lt b he.symm).1; omega).trans (h.block b hb0 hn)⟩
theorem ButB.cell {B : Nat} {S : List Nat} {W0 W : World} (h : ButB B S W0 W) {b o : Nat} (hb : b < B) (hn : b ∉ S) : W.cell? ⟨b, o, none⟩ = W0.cell? ⟨b, o, none⟩ := World.cell?_of_block (w := W0) (a := ⟨b, o, none⟩) (h.block b hb hn)
theorem sx_of0 {B : Nat} {W0 W : World} (h : ButB B [] W0 W) : ButB B [] W0 W ∧ ∀ b o, b < B → W.cell? ⟨b, o, none⟩ = W0.cell? ⟨b, o, none⟩ := ⟨h, fun _ _ hb => h.cell hb (by simp)⟩
theorem sx_of1 {B : Nat} {W0 W : World} {x : Nat} (h : ButB B [x] W0 W) : ButB B [x] W0 W ∧ ∀ b o, b < B → b ≠ x → W.cell? ⟨b, o, none⟩ = W0.cell? ⟨b, o, none⟩ := ⟨h, fun _ _ hb hx => h.cell hb (by simp [hx])⟩
theorem sx_of2 {B : Nat} {W0 W : World} {x : Nat} {y : Nat} (h : ButB B [x, y] W0 W) : ButB B [x, y] W0 W ∧ ∀ b o, b < B → b ≠ x → b ≠ y → W.cell? ⟨b, o, none⟩ = W0.cell? ⟨b, o, none⟩ := ⟨h, fun _ _ hb hx hy => h.cell hb (by simp [hx, hy])⟩
/-- A block that is not the row's own stays. -/
theorem blk_grownR {w w1 : World} {base : Nat} {e : TypeId} {k : Nat} {v : Value} {n : Nat} {cs : List Value} {b : Nat} {o : Obj} (h : w.heap[b]? = some o) (_hown : w.ownsRow base e k v n cs) (hg : w.grownBy w1 v.ownBlock) (hb : v.ownBlock = some b → False) : w1.heap[b]? = some o := by
  rw [hg.block b (blk_lt h) fun he => hb he.symm]; exact h
theorem own_new0 (w : World) (e : TypeId) (k : Nat) : (w.alloc (.cells #[] e)).ownsRow w.heap.size e k (.slice (some ⟨w.heap.size, 0, none⟩) 0 0) 0 [] :=
  ⟨by simp, .inr ⟨w.heap.size, 0, #[], rfl, Nat.le_refl _, blk_new _ _, Nat.le_refl _, Nat.zero_le _, by simp, by simp⟩⟩

section
variable {P : Program} {md : Region.Mode} {ops : Array Oper} {Q : Exit → Act → World → Prop} {S : World → Prop}
theorem wtk (i : Nat) (v : Value) {d op t p af g} {fuel : Nat} {listed : Array Bool} {a : Act} {w : World} (hi : ops[i]? = some ⟨d, op, t, p, af, g⟩) (hy : YieldsIf P ops S ⟨d, op, t, p, af, g⟩ v a)
    (h : wpAnyH P md ops Q S fuel (listed.setIfInBounds i true) (a.put d v) w) (hs : Region.noSelect ops = true := by kernel_rfl) (hf : Region.free md ops listed i = true := by kernel_rfl) (hr : (Region.ready md ops listed).contains i = true := by kernel_rfl)
    (hQ : ∀ c a w, Q (.panic c) (a.put d v) w → Q (.panic c) a w := by exact fun _ _ _ h => h) (hS : S w := by assumption) : wpAnyH P md ops Q S (fuel + 1) listed a w := wpAnyH_take hi hs hf hr hQ hy hS h
theorem arc {fuel : Nat} {listed : Array Bool} {a : Act} {w : World} {i : Nat} {d op t p af g} {rs : List Nat} (ho : ops[i]? = some ⟨d, op, t, p, af, g⟩)
    (h : ∀ K' : Act → World → Prop, Shut (∀ a w, S w → (S w → wpAnyH P md ops Q S fuel (listed.setIfInBounds i true) a w) → K' a w) → if Region.wanted ⟨d, op, t, p, af, g⟩ (yielded ops a.tmps) = true then Oper.wp P ⟨d, op, t, p, af, g⟩ a w K' Q else K' (a.put d undef) w)
    (hs : AllReadyH P md ops Q S fuel listed a w rs) : AllReadyH P md ops Q S fuel listed a w (i :: rs) := AllReadyH.cons ho h hs
theorem arn {fuel : Nat} {listed : Array Bool} {a : Act} {w : World} : AllReadyH P md ops Q S fuel listed a w [] := AllReadyH.nil
theorem wrd (rs : List Nat) {fuel : Nat} {listed : Array Bool} {a : Act} {w : World} (h : AllReadyH P md ops Q S fuel listed a w rs) (hr : Region.ready md ops listed = rs := by kernel_rfl) (hne : rs ≠ [] := by simp) : wpAnyH P md ops Q S (fuel + 1) listed a w := wpAnyH_ready hr hne h
end
theorem cbk {w : World} {b : Nat} {cs : Array Value} {t : TypeId} {fz : Nat × Nat} (h : w.heap[b]? = some (.cells cs t fz)) (o : Nat) (v : Value) (hv : cs[o]? = some v) : w.cell? ⟨b, o, none⟩ = some v := (cell_blk h o).trans hv
theorem ls0 {α : Type} (l : List α) (i : Nat) (a : α) : l.toArray.setIfInBounds i a = (l.set i a).toArray := by simp
theorem ls1 {α : Type} (x y : α) (l : List α) : (x :: l).set 0 y = y :: l := rfl
theorem ls2 {α : Type} (x y : α) (l : List α) (n : Nat) : (x :: l).set (n + 1) y = x :: l.set n y := rfl
end
end Go.Proofs.YtmidcnfmphlneaaGreat

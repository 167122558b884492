/- Contracts of package bell. -/
import Derived.Test.YtimikgencnkcnabDoorRows
import Derived.Test.YtimikgencnkcnabDoorLists
import Derived.Test.YtimikgencnkcnabDoorSl
import Derived.Laws.BitsAllLaws
import Derived.Shelf.Spec.TrailingZeros
namespace Go.Proofs.YtimikgencnkcnabDoor
open Go.RowKit
set_option linter.unusedSimpArgs false
set_option linter.unusedVariables false

/-- Bells in block B: x tells which are pending. -/
def BAt (w : World) (B : Nat) (x : List Bool) : Prop := ∃ b : Nat, w.heap[B]? = some (.cells #[.int .i64 x.length, .int .u64 b] 47 (0, 0)) ∧ (∀ i, b.testBit i = x.getD i false) ∧ x.length ≤ 64
theorem BAt.lt {w : World} {B : Nat} {x : List Bool} (h : BAt w B x) : B < w.heap.size := by
  obtain ⟨b, h1, _⟩ := h
  exact blk_lt h1
theorem BAt.but {S : List Nat} {w w1 : World} {B : Nat} {x : List Bool} (h : BAt w B x) (hb : ButS S w w1) (h1 : B ∉ S) : BAt w1 B x := by
  obtain ⟨b, h2, h3⟩ := h
  exact ⟨b, hb.blk h2 h1, h3⟩
theorem BAt.below {w w1 : World} {B : Nat} {x : List Bool} (h : BAt w B x) (hb : Below w.heap.size w w1) : BAt w1 B x := h.but (S := []) (ButS.of_below hb) (by simp)
theorem BAt.low {w w1 : World} {B n₀ : Nat} {x : List Bool} (h : BAt w B x) (hb : Below n₀ w w1) (h1 : B < n₀) : BAt w1 B x := by
  obtain ⟨b, h2, h3⟩ := h
  exact ⟨b, (hb.block B h1).trans h2, h3⟩
theorem bits_lt {b : Nat} {x : List Bool} (hb : ∀ i, b.testBit i = x.getD i false) (hx : x.length ≤ 64) : b < 18446744073709551616 := by
  refine Nat.lt_pow_two_of_testBit (n := 64) _ fun i hi => ?_
  rw [hb, List.getD_eq_getElem?_getD, List.getElem?_eq_none (by omega)]
  rfl
/-- One bell more is pending (none, beyond the end). -/
def ringB (x : List Bool) (i : Int) : List Bool := (List.range x.length).map fun k : Nat => x.getD k false || decide ((k : Int) = i)
theorem ringB_len (x : List Bool) (i : Int) : (ringB x i).length = x.length := by simp [ringB]
theorem ringB_out (x : List Bool) (i : Int) (h : i < 0 ∨ (x.length : Int) ≤ i) : ringB x i = x := by
  refine List.ext_getElem (ringB_len x i) fun k h1 h2 => ?_
  have hk : ¬ (k : Int) = i := by omega
  simp [ringB, hk, h2]
theorem ringB_bits (x : List Bool) (j : Nat) (hj : j < x.length) (b : Nat) (hb : ∀ i, b.testBit i = x.getD i false) (i : Nat) : (b ||| 2 ^ j).testBit i = (ringB x j).getD i false := by
  rw [Nat.testBit_or, hb, Nat.testBit_two_pow]
  simp only [ringB, List.getD_eq_getElem?_getD, List.getElem?_map, List.getElem?_range]
  by_cases hi : i < x.length
  · have h1 : decide (j = i) = decide ((i : Int) = (j : Int)) := by rw [decide_eq_decide]; omega
    rw [h1]
    simp [hi]
  · have h1 : ¬ j = i := by omega
    simp [hi, h1]
theorem pow_wrap (i : Nat) (hi : i < 64) : IntKind.u64.wrap ((2 : Int) ^ i) = ((2 ^ i : Nat) : Int) := by
  have h : (2 : Nat) ^ i < 2 ^ 64 := Nat.pow_lt_pow_right (by decide) hi
  rw [show (2 : Int) ^ i = ((2 ^ i : Nat) : Int) by simp]
  generalize 2 ^ i = z at h ⊢
  exact IntWalk.u64_in _ (by omega)
theorem or_bit (b i : Nat) (hb : b < 18446744073709551616) (hi : i < 64) : bits .or .u64 (b : Int) (IntKind.u64.wrap ((2 : Int) ^ i)) = ((b ||| 2 ^ i : Nat) : Int) := by
  rw [pow_wrap i hi, u64_or_nat b _ hb (Nat.pow_lt_pow_right (a := 2) (m := i) (n := 64) (by decide) hi)]
theorem andNot_bit (b i : Nat) (hb : b < 18446744073709551616) (hi : i < 64) : bits .andNot .u64 (b : Int) (IntKind.u64.wrap ((2 : Int) ^ i)) = ((b &&& (18446744073709551615 - 2 ^ i) : Nat) : Int) := by
  rw [pow_wrap i hi, u64_andNot_nat b _ hb (Nat.pow_lt_pow_right (a := 2) (m := i) (n := 64) (by decide) hi)]
theorem has_bit (b i : Nat) (hb : b < 18446744073709551616) : (bits .and .u64 ((b : Int) / (2 : Int) ^ i) 1 == 1) = b.testBit i := by
  have h1 : (b : Int) / (2 : Int) ^ i = ((b / 2 ^ i : Nat) : Int) := by simp
  have h2 : b / 2 ^ i < 18446744073709551616 := Nat.lt_of_le_of_lt (Nat.div_le_self _ _) hb
  have h3 : bits .and .u64 ((b / 2 ^ i : Nat) : Int) 1 = ((b / 2 ^ i &&& 1 : Nat) : Int) := u64_and_nat _ 1 h2 (by decide)
  rw [h1, h3, nat_mask1, Nat.testBit_eq_decide_div_mod_eq]
  generalize b / 2 ^ i % 2 = z
  by_cases hz : z = 1
  · subst hz; rfl
  · rw [decide_eq_false hz, beq_eq_false_iff_ne]; omega
/-- A bell less. -/
def offB (x : List Bool) (j : Nat) : List Bool := x.set j false
theorem offB_bits (x : List Bool) (j : Nat) (b : Nat) (hb : ∀ i, b.testBit i = x.getD i false) (hbl : b < 18446744073709551616) (hj : j < 64) (i : Nat) : (b &&& (18446744073709551615 - 2 ^ j)).testBit i = (offB x j).getD i false := by
  have h1 : (18446744073709551615 - 2 ^ j).testBit i = (decide (i < 64) && !(2 ^ j).testBit i) := by
    have h2 := Nat.testBit_two_pow_sub_succ (n := 64) (x := 2 ^ j) (Nat.pow_lt_pow_right (a := 2) (m := j) (n := 64) (by decide) hj) i
    rwa [show (2 : Nat) ^ 64 - (2 ^ j + 1) = 18446744073709551615 - 2 ^ j by omega] at h2
  rw [Nat.testBit_and, h1, hb, Nat.testBit_two_pow]
  simp only [offB, List.getD_eq_getElem?_getD, List.getElem?_set]
  by_cases h2 : j = i
  · subst h2
    by_cases h3 : j < x.length <;> simp [h3]
  · by_cases h3 : i < 64
    · simp [h2, h3]
    · have h4 : b.testBit i = false := Nat.testBit_lt_two_pow (Nat.lt_of_lt_of_le hbl (Nat.pow_le_pow_right (n := 2) (by decide) (by omega : 64 ≤ i)))
      rw [hb, List.getD_eq_getElem?_getD] at h4
      simp [h2, h3, h4]

set_option maxHeartbeats 400000 in
theorem bellNew_bad (n : Int) (hn : n < 0 ∨ 64 < n) (w : World) : Calls Tryd.prog 8 #[.int .i64 n] w fun e w' => e = .returned (.tuple #[.pointer none, .int .i64 7]) ∧ w' = w := by
  by_cases h0 : n < 0
  · go_enter Tryd.func8, Tryd.ntmps8
    go_wp2
    go_ret2
    exact ⟨rfl, rfl⟩
  · have h1 : 64 < n := by omega
    go_enter Tryd.func8, Tryd.ntmps8
    go_wp2
    go_ret2
    exact ⟨rfl, rfl⟩

set_option maxHeartbeats 400000 in
theorem bellNew_any (n : Nat) (hn : n ≤ 64) (w : World) : Calls Tryd.prog 8 #[.int .i64 n] w fun e w' =>
    ∃ B, e = .returned (.tuple #[.pointer (some ⟨B, 0, none⟩), .int .i64 0]) ∧ Kp (BAt w' B (List.replicate n false)) ∧ Below w.heap.size w w' ∧ w.heap.size ≤ B := by
  go_enter Tryd.func8, Tryd.ntmps8
  go_wp2
  go_ret2
  refine ⟨_, rfl, ⟨0, ?_, fun i => ?_, by simpa using hn⟩, below_al (Below.refl _ _) _, Nat.le_refl _⟩
  · rw [List.length_replicate]
    exact blk_new w _
  · by_cases h : i < n <;> simp [List.getD_eq_getElem?_getD, h]

set_option maxHeartbeats 400000 in
theorem bellRing_out (B : Nat) (x : List Bool) (i : Int) (hi : i < 0 ∨ (x.length : Int) ≤ i) (w : World) (h : BAt w B x) : Calls Tryd.prog 9 #[.pointer (some ⟨B, 0, none⟩), .int .i64 i] w fun e w' => e = .returned (.int .i64 7) ∧ w' = w := by
  obtain ⟨b, h1, h2, h3⟩ := h
  have c0 : w.cell? ⟨B, 0, none⟩ = some (.int .i64 x.length) := (cell_blk h1 0).trans rfl
  clear h1 h2
  by_cases h0 : i < 0
  · go_enter Tryd.func9, Tryd.ntmps9
    go_wp2
    go_ret
    exact ⟨rfl, rfl⟩
  · have h4 : (x.length : Int) ≤ i := by omega
    go_enter Tryd.func9, Tryd.ntmps9
    go_wp2
    go_ret
    exact ⟨rfl, rfl⟩

set_option maxHeartbeats 400000 in
theorem bellRing_in (B : Nat) (x : List Bool) (i : Nat) (hi : i < x.length) (w : World) (h : BAt w B x) : Calls Tryd.prog 9 #[.pointer (some ⟨B, 0, none⟩), .int .i64 i] w fun e w' =>
    e = .returned (.int .i64 0) ∧ ButS [B] w w' ∧ Kp (BAt w' B (ringB x i)) := by
  obtain ⟨b, h1, h2, h3⟩ := h
  have hbl := bits_lt h2 h3
  have c0 : w.cell? ⟨B, 0, none⟩ = some (.int .i64 x.length) := (cell_blk h1 0).trans rfl
  have c1 : w.cell? ⟨B, 1, none⟩ = some (.int .u64 b) := (cell_blk h1 1).trans rfl
  have f1 : w.frozen? ⟨B, 1, none⟩ = false := frozen_blk h1 1
  have H1 := Kp.mk h1
  have H2 := Kp.mk h2
  clear h1 h2
  go_enter Tryd.func9, Tryd.ntmps9
  go_wp2
  go_ret
  rw [or_bit b i hbl (by omega)]
  refine ⟨rfl, (ButS.refl _ _).set (by simp) _, ⟨_, (blk_set H1.out 1 _).trans (by rw [ringB_len]; rfl), ringB_bits x i hi b H2.out, by rw [ringB_len]; exact h3⟩⟩

theorem bellRing_any (B : Nat) (x : List Bool) (i : Int) (w : World) (h : BAt w B x) : Calls Tryd.prog 9 #[.pointer (some ⟨B, 0, none⟩), .int .i64 i] w fun e w' =>
    e = .returned (.int .i64 (if 0 ≤ i ∧ i < x.length then 0 else 7)) ∧ ButS [B] w w' ∧ Kp (BAt w' B (ringB x i)) := by
  by_cases hi : 0 ≤ i ∧ i < x.length
  · obtain ⟨j, rfl⟩ := Int.eq_ofNat_of_zero_le hi.1
    rw [if_pos hi]
    exact bellRing_in B x j (by omega) w h
  · rw [if_neg hi]
    refine (bellRing_out B x i (by omega) w h).mono ?_
    rintro e w1 ⟨rfl, rfl⟩
    rw [ringB_out x i (by omega)]
    exact ⟨rfl, ButS.refl _ _, ⟨h⟩⟩

/-- Whether a bell is there and pending. -/
def hasB (x : List Bool) (i : Int) : Bool := decide (0 ≤ i ∧ i < x.length) && x.getD i.toNat false
set_option maxHeartbeats 400000 in
theorem bellHas_in (B : Nat) (x : List Bool) (i : Nat) (hi : i < x.length) (w : World) (h : BAt w B x) : Calls Tryd.prog 17 #[.pointer (some ⟨B, 0, none⟩), .int .i64 i] w fun e w' => e = .returned (.bool (x.getD i false)) ∧ w' = w := by
  obtain ⟨b, h1, h2, h3⟩ := h
  have hbl := bits_lt h2 h3
  have c0 : w.cell? ⟨B, 0, none⟩ = some (.int .i64 x.length) := (cell_blk h1 0).trans rfl
  have c1 : w.cell? ⟨B, 1, none⟩ = some (.int .u64 b) := (cell_blk h1 1).trans rfl
  have H2 := Kp.mk h2
  have h0 : (0 : Int) ≤ (i : Int) := by omega
  clear h1 h2
  go_enter Tryd.func17, Tryd.ntmps17
  go_wp2
  go_ret
  refine ⟨ret_bool ?_, rfl⟩
  rw [← H2.out]
  exact has_bit b i hbl

set_option maxHeartbeats 400000 in
theorem bellHas_out (B : Nat) (x : List Bool) (i : Int) (hi : i < 0 ∨ (x.length : Int) ≤ i) (w : World) (h : BAt w B x) : Calls Tryd.prog 17 #[.pointer (some ⟨B, 0, none⟩), .int .i64 i] w fun e w' => e = .returned (.bool false) ∧ w' = w := by
  obtain ⟨b, h1, h2, h3⟩ := h
  have c0 : w.cell? ⟨B, 0, none⟩ = some (.int .i64 x.length) := (cell_blk h1 0).trans rfl
  clear h1 h2
  by_cases h0 : i < 0
  · go_enter Tryd.func17, Tryd.ntmps17
    go_wp2
    go_ret
    exact ⟨rfl, rfl⟩
  · have h4 : (x.length : Int) ≤ i := by omega
    have h5 : 0 ≤ i := by omega
    clear hi h0
    go_enter Tryd.func17, Tryd.ntmps17
    go_wp2
    go_ret
    exact ⟨rfl, rfl⟩
theorem bellHas_any (B : Nat) (x : List Bool) (i : Int) (w : World) (h : BAt w B x) : Calls Tryd.prog 17 #[.pointer (some ⟨B, 0, none⟩), .int .i64 i] w fun e w' => e = .returned (.bool (hasB x i)) ∧ w' = w := by
  by_cases hi : 0 ≤ i ∧ i < x.length
  · obtain ⟨j, rfl⟩ := Int.eq_ofNat_of_zero_le hi.1
    refine (bellHas_in B x j (by omega) w h).mono ?_
    rintro e w1 ⟨rfl, rfl⟩
    exact ⟨ret_bool (by simp [hasB, hi]), rfl⟩
  · refine (bellHas_out B x i (by omega) w h).mono ?_
    rintro e w1 ⟨rfl, rfl⟩
    exact ⟨ret_bool (by rw [hasB, decide_eq_false hi, Bool.false_and]), rfl⟩
end Go.Proofs.YtimikgencnkcnabDoor

/- Contracts of package bell: Take, and the iterator All. -/
import Derived.Test.YtimikgencnkcnabDoorBell
import Derived.Test.YtimikgencnkcnabDoorIter
import Derived.Stop.RegionWithIn
import Derived.RangeFuncNested
import Derived.RangeFuncBound
import Derived.RangeFuncCalls
import Derived.RangeFuncLeaves
import Derived.Shelf.Abstract
import Derived.Shelf.RegionOpen
import Derived.WalkKit
import Derived.OwnWalkIn
import Derived.TacticsInMore
import Derived.LoopNIn
import Derived.LoopIn
namespace Go.Proofs.YtimikgencnkcnabDoor
open Go.RowKit
set_option linter.unusedSimpArgs false
set_option linter.unusedVariables false
open Go.Shelf
theorem Tryd.infoInt : (Tryd.prog.info? 3).map (fun i => (i.zero, i.size, i.bytes)) = some (some (.int .i64 0), 1, 8) := by kernel_rfl
/-- One bell is taken, where it is pending. -/
def stepT (p : List Bool × List Int) (i : Int) : List Bool × List Int := if hasB p.1 i then (offB p.1 i.toNat, p.2 ++ [i]) else p
def takeT (x : List Bool) (ls : List Int) : List Bool × List Int := ls.foldl stepT (x, [])
theorem takeT_succ (x : List Bool) (ls : List Int) (k : Nat) (h : k < ls.length) : takeT x (ls.take (k + 1)) = stepT (takeT x (ls.take k)) ls[k] := by
  rw [takeT, List.take_succ_eq_append_getElem h, List.foldl_append]
  rfl
theorem stepT_len (p : List Bool × List Int) (i : Int) : (stepT p i).1.length = p.1.length ∧ (stepT p i).2.length ≤ p.2.length + 1 := by
  unfold stepT
  split <;> simp [offB]

set_option maxRecDepth 100000 in
set_option maxHeartbeats 2000000 in
theorem bellTake_any (B : Nat) (x : List Bool) (v : Value) (ls : List Int) (hl : ls.length ≤ 5000) (w : World) (h : BAt w B x) (hr : RowAt w 1 v ls.length (ls.map (Value.int .i64))) (hne : 0 < ls.length → ∀ a n c, v = .slice (some a) n c → a.block ≠ B) :
    Calls Tryd.prog 13 #[.pointer (some ⟨B, 0, none⟩), v] w fun e w' => ∃ a c, e = .returned (.slice a (takeT x ls).2.length c) ∧ Kp (BAt w' B (takeT x ls).1) ∧ Kp (w'.ownsRow w.heap.size 3 1 (.slice a (takeT x ls).2.length c) (takeT x ls).2.length (i64s (takeT x ls).2)) ∧ ButS [B] w w' := by
  obtain ⟨a, ca, rfl, h3, h4⟩ := hr.shape
  obtain ⟨i0, hi, hz0, hz1, hz2⟩ := info_parts Tryd.infoInt
  have HR := Kp.mk hr
  have hBl := h.lt
  have HNE := Kp.mk hne
  clear hr hne
  go_enter Tryd.func13, Tryd.ntmps13
  go_wp2_with fail
  go_loopw [5, 10] (fun vo i wr => ∃ (k : Nat) (p : List Bool × List Int), k ≤ ls.length ∧ i = .int .i64 k ∧ Kp (ButS [B] w wr) ∧ Kp (BAt wr B p.1) ∧ Kp (wr.ownsRow w.heap.size 3 1 vo p.2.length (i64s p.2)) ∧ Kp (takeT x (ls.take k) = p) ∧ Kp (p.2.length ≤ k)) (fun vo i wr => ls.length - (intOf i).toNat)
  case atStart => exact ⟨0, (x, []), Nat.zero_le _, rfl, ⟨ButS.refl _ _⟩, ⟨h⟩, ⟨World.ownsRow_nil _ _ _ _⟩, ⟨rfl⟩, ⟨Nat.le_refl _⟩⟩
  case round =>
    obtain ⟨k, p, hk, rfl, HB, HX, HO, HT, HL⟩ := hrel
    have hpl := HL.out
    by_cases hlt : k < ls.length
    · obtain ⟨g, o, rfl, hg, hc⟩ := HR.out.at (by omega)
      have hgB : g ≠ B := HNE.out (by omega) _ _ _ rfl
      have c0 : wr.cell? ⟨g, o + k, none⟩ = some (.int .i64 ls[k]) := (HB.out.cell hg (by simpa using hgB)).trans ((hc k (by omega)).trans (by simp [hlt]))
      have HT1 : Kp (takeT x (ls.take (k + 1)) = stepT p ls[k]) := ⟨by rw [takeT_succ x ls k hlt, HT.out]⟩
      clear hc
      by_cases hh : hasB p.1 ls[k] = true
      · have hj : ∃ j : Nat, ls[k] = (j : Int) ∧ j < p.1.length := by
          simp only [hasB, Bool.and_eq_true, decide_eq_true_eq] at hh
          exact ⟨ls[k].toNat, by omega, by omega⟩
        obtain ⟨j, hj, hjl⟩ := hj
        have HT2 : Kp (takeT x (ls.take (k + 1)) = (offB p.1 j, p.2 ++ [(j : Int)])) := ⟨by rw [HT1.out, stepT, if_pos hh, hj]; rfl⟩
        have HH : Kp (hasB p.1 j = true) := ⟨hj ▸ hh⟩
        rw [hj] at c0
        clear hh HT1 HT hj
        obtain ⟨b, b1, b2, b3⟩ := HX.out
        have hbl := bits_lt b2 b3
        have c1 : wr.cell? ⟨B, 1, none⟩ = some (.int .u64 b) := (cell_blk b1 1).trans rfl
        have f1 : wr.frozen? ⟨B, 1, none⟩ = false := frozen_blk b1 1
        have H1 := Kp.mk b1
        have H2 := Kp.mk b2
        have hwr := HB.out.size
        have hj64 : j < 64 := by omega
        clear b1 b2
        go_wp2_with fail
        refine (bellHas_any B p.1 j _ HX.out).mono ?_
        rw [HH.out]
        rintro e w1 ⟨rfl, hw1⟩
        subst w1
        go_wp2_with (at_builtin; refine wpList_append_own _ rfl _ _ 29 rfl w.heap.size 3 i0 (.int .i64 0) 1 8 Tryd.underlying29 hi hz0 hz1 hz2 rfl (by decide) _ _ _ rfl ((own_set_ne HO.out (p := ⟨B, 1, none⟩) hBl _).alloc _) ⟨wr.heap.size, 0, none⟩ 1 1 [.int .i64 (j : Int)] rfl (by simp) (by intro q u hq; have := cell_one_new (wr.setCell ⟨B, 1, none⟩ (Value.int IntKind.u64 (bits BinOp.andNot IntKind.u64 (b : Int) (IntKind.u64.wrap (2 ^ j))))) (.int .i64 (j : Int)) 3 q u hq; simpa using this) (by simp [Value.oneCell']) (by unfold maxLen; omega) (by omega) (by simp; omega) ?_; intro v' w9 hown' hgrow _)
        have hown := (own_set_ne HO.out (p := ⟨B, 1, none⟩) hBl (.int .u64 (bits .andNot .u64 (b : Int) (IntKind.u64.wrap ((2 : Int) ^ j))))).alloc (.cells #[.int .i64 (j : Int)] 3)
        have e1 := blk_grown (blk_al (blk_set H1.out 1 (.int .u64 (bits .andNot .u64 (b : Int) (IntKind.u64.wrap ((2 : Int) ^ j))))) (.cells #[.int .i64 (j : Int)] 3)) hBl hown hgrow
        have e2 : w9.heap[B]? = some (.cells #[.int .i64 p.1.length, .int .u64 ((b &&& (18446744073709551615 - 2 ^ j) : Nat) : Int)] 47 (0, 0)) := by
          rw [e1, andNot_bit b j hbl hj64]
          rfl
        have HB9 : Kp (ButS [B] w w9) := ⟨⟨hgrow.os.trans HB.out.os, hgrow.tape.trans HB.out.tape, hgrow.output.trans HB.out.output, Nat.le_trans hwr (Nat.le_trans (by simp) hgrow.size), fun q hq hn => by
          rw [hgrow.block q (by simp; omega) (fun he => by have := (hown.lt q he.symm).1; omega)]
          exact (Below.heap_alloc _ _ q (by simp; omega)).trans ((Below.heap_setCell wr ⟨B, 1, none⟩ _ q (by simpa using hn)).trans (HB.out.block q hq hn))⟩⟩
        go_roundw
        case rel => exact ⟨k + 1, (offB p.1 j, p.2 ++ [(j : Int)]), by omega, by go_num, HB9, ⟨_, by rw [offB, List.length_set]; exact e2, offB_bits p.1 j b H2.out hbl hj64, by rw [offB, List.length_set]; exact b3⟩, ⟨by
          rw [List.length_append, i64s, List.map_append]
          exact hown'⟩, HT2, ⟨by simp; omega⟩⟩
        case measure => simp [intOf]; omega
      · rw [Bool.not_eq_true] at hh
        have HT2 : Kp (takeT x (ls.take (k + 1)) = p) := ⟨by rw [HT1.out, stepT, if_neg (by simp [hh])]⟩
        have HH := Kp.mk hh
        clear hh HT1
        go_wp2_with fail
        refine (bellHas_any B p.1 ls[k] _ HX.out).mono ?_
        rw [HH.out]
        rintro e w1 ⟨rfl, hw1⟩
        subst w1
        go_wp2
        go_roundw
        case rel => exact ⟨k + 1, p, by omega, by go_num, HB, HX, HO, HT2, ⟨by omega⟩⟩
        case measure => simp [intOf]; omega
    · obtain rfl : k = ls.length := by omega
      have ht := HT.out
      rw [List.take_length] at ht
      have HT3 := Kp.mk ht
      obtain ⟨av, cv, rfl, hcv1, hcv2⟩ := (RowAt.of_own HO.out).shape
      clear ht HT
      go_wp2
      go_ret
      rw [HT3.out]
      exact ⟨av, cv, rfl, HX, HO, HB.out⟩

/-! math/bits.TrailingZeros64: the library's own text, walked; the arithmetic is the shelf's. -/
set_option maxHeartbeats 1000000 in
theorem tz_core (x k idx : Nat) (w : World) (hx0 : ((x : Int) == 0) = false)
    (key : IntKind.u64.wrap (bits BinOp.and IntKind.u64 (x : Int) (IntKind.u64.wrap (-(x : Int))) * 285870213051353865) / 288230376151711744 = (idx : Int))
    (hi : idx < 64) (hk : k < 64) (hcell : w.cell? ⟨0, idx, none⟩ = some (.int .u8 k)) :
    Calls Tryd.prog 20 #[.int .u64 x] w fun e w' => e = .returned (.int .i64 k) ∧ w' = w := by
  go_enter Tryd.func20, Tryd.ntmps20
  go_wp2_with (simp only [key])
  go_ret
  exact ⟨rfl, rfl⟩
theorem tz_any (x : Nat) (hx : x < 18446744073709551616) (hx0 : x ≠ 0) (w : World) (hT : TabAt 0 Lib.deBruijn64tab w) :
    Calls Tryd.prog 20 #[.int .u64 x] w fun e w' => e = .returned (.int .i64 (Lib.ctz 64 x)) ∧ w' = w := by
  obtain ⟨hlow, hk⟩ := Lib.lowest_bit 64 x hx0 hx
  obtain ⟨hi, htab⟩ := Lib.deBruijn64_at _ hk
  have hcell := hT _ hi
  rw [htab] at hcell
  exact tz_core x _ _ w (by simp; omega) (tz64_key x _ hx hx0 hlow) hi hk hcell
theorem tab_low {w w1 : World} {n₀ : Nat} (h : TabAt 0 Lib.deBruijn64tab w) (hb : Below n₀ w w1) (hn : 0 < n₀) : TabAt 0 Lib.deBruijn64tab w1 := fun j hj => (hb.cell (p := ⟨0, j, none⟩) hn).trans (h j hj)
theorem tab_but {S : List Nat} {w w1 : World} (h : TabAt 0 Lib.deBruijn64tab w) (hb : ButS S w w1) (hn : 0 < w.heap.size) (hS : 0 ∉ S) : TabAt 0 Lib.deBruijn64tab w1 := fun j hj => (hb.cell (b := 0) (o := j) hn hS).trans (h j hj)
end Go.Proofs.YtimikgencnkcnabDoor

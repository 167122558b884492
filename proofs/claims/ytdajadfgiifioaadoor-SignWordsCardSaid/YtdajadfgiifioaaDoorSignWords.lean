/- The law SignWords. -/
import Derived.Test.YtdajadfgiifioaaDoorSgn9
namespace Go.Proofs.YtdajadfgiifioaaDoor
open Go.RowKit
set_option linter.unusedSimpArgs false
set_option linter.unusedVariables false

set_option maxRecDepth 100000 in
set_option maxHeartbeats 4000000 in
theorem signWords_long (x : ByteArray) (op : Int) (h : 100 < (x.size : Int)) (w : World) (hN : NamesAt w) : Calls Tryd.prog 7 #[.string x, .int .i64 op] w fun e w' => e = .returned (.bool true) ∧ Below w.heap.size w w' := by
  have HN := Kp.mk hN
  clear hN
  go_enter Tryd.func7, Tryd.ntmps7
  have HB0 : Kp (Below w.heap.size w w) := ⟨Below.refl _ _⟩
  go_wp2_with fail
  refine (wakes10_any _ (HN.out.below HB0.out)).mono ?_
  rintro e w1 ⟨rfl, hb⟩
  have HB1 : Kp (Below w.heap.size w w1) := ⟨below_call HB0.out hb⟩
  clear HB0 hb
  go_wp2
  go_ret
  exact ⟨rfl, HB1.out⟩

set_option maxRecDepth 100000 in
set_option maxHeartbeats 4000000 in
theorem signWords_core (x : ByteArray) (op : Int) (h : ¬ 100 < (x.size : Int)) (n : Int) (hn : opV x = n) (y : ByteArray) (hy : nameV op = y) (w : World) (hN : NamesAt w) : Calls Tryd.prog 7 #[.string x, .int .i64 op] w fun e w' => e = .returned (.bool true) ∧ Below w.heap.size w w' := by
  have HN := Kp.mk hN
  clear hN
  have hlf : decide (100 < (x.size : Int)) = false := decide_eq_false h
  have HO := Kp.mk hn
  have HY := Kp.mk hy
  clear h hn hy
  go_enter Tryd.func7, Tryd.ntmps7
  have HB0 : Kp (Below w.heap.size w w) := ⟨Below.refl _ _⟩
  go_wp2_with fail
  refine (wakes10_any _ (HN.out.below HB0.out)).mono ?_
  rintro e w1 ⟨rfl, hb⟩
  have HB1 : Kp (Below w.heap.size w w1) := ⟨below_call HB0.out hb⟩
  clear HB0 hb
  go_wp2_with fail
  refine (op_any x _ (HN.out.below HB1.out)).mono ?_
  rw [HO.out]
  rintro e w2 ⟨rfl, hb⟩
  have HB2 : Kp (Below w.heap.size w w2) := ⟨below_call HB1.out hb⟩
  clear HB1 hb
  go_wp2_with fail
  refine (rop_any x _).mono ?_
  rw [HO.out]
  rintro e w3 ⟨rfl, hb⟩
  have HB3 : Kp (Below w.heap.size w w3) := ⟨below_call HB2.out hb⟩
  clear HB2 hb
  go_wp2_with fail
  refine (name_any op _ (HN.out.below HB3.out)).mono ?_
  rw [HY.out]
  rintro e w4 ⟨rfl, hb⟩
  have HB4 : Kp (Below w.heap.size w w4) := ⟨below_call HB3.out hb⟩
  clear HB3 hb
  go_wp2_with fail
  refine (rname_any op _).mono ?_
  rw [HY.out]
  rintro e w5 ⟨rfl, hb⟩
  have HB5 : Kp (Below w.heap.size w w5) := ⟨below_call HB4.out hb⟩
  clear HB4 hb
  go_wp2
  go_ret
  exact ⟨ret_bool (by simp), HB5.out⟩

theorem signWords_any' (v0 v1 : Value) (w : World) (hN : NamesAt w) (h0 : RdV w .str v0) (h1 : RdV w (.int .i64) v1) : Calls Tryd.prog 7 #[v0, v1] w fun e w' => e = .returned (.bool true) ∧ Below w.heap.size w w' := by
  obtain ⟨x, rfl, _⟩ := h0
  obtain ⟨op, rfl, _⟩ := h1
  by_cases h : 100 < (x.size : Int)
  · exact signWords_long x op h w hN
  · exact signWords_core x op h _ rfl _ rfl w hN
end Go.Proofs.YtdajadfgiifioaaDoor

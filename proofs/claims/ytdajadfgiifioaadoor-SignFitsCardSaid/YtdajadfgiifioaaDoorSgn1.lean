/- Contracts: words and their numbers; ports. -/
import Derived.Test.YtdajadfgiifioaaDoorSgnP
import Derived.Test.YtdajadfgiifioaaDoorSIdx
namespace Go.Proofs.YtdajadfgiifioaaDoor
open Go.RowKit
set_option linter.unusedSimpArgs false
set_option linter.unusedVariables false

theorem results_tmp4 {fn : Func} {t u v x : Tmp} (h : fn.results = #[.tmp t, .tmp u, .tmp v, .tmp x]) (tmps : Array Value) (P : Program) (w : World) :
    (results fn tmps).run P w = .ok (.tuple #[tmps.getD t undef, tmps.getD u undef, tmps.getD v undef, tmps.getD x undef]) w := by
  simp [results, h]
def nameL : List ByteArray := [⟨#[]⟩, ⟨#[99, 114, 101, 97, 116, 101]⟩, ⟨#[110, 111, 114, 109, 97, 108]⟩, ⟨#[119, 114, 105, 116, 101]⟩, ⟨#[114, 101, 97, 100]⟩, ⟨#[115, 101, 110, 100]⟩, ⟨#[114, 101, 99, 101, 105, 118, 101]⟩, ⟨#[115, 116, 97, 116, 117, 115]⟩, ⟨#[112, 101, 101, 107]⟩, ⟨#[112, 111, 107, 101]⟩]
def nameV (op : Int) : ByteArray := if 1 ≤ op ∧ op ≤ 9 then nameL.getD op.toNat ByteArray.empty else ByteArray.empty
/-- The words lie at the front of memory. -/
def NamesAt (w : World) : Prop := ∀ j, j < 10 → w.cell? ⟨0, j, none⟩ = some (.string (nameL.getD j ByteArray.empty))
theorem NamesAt.lt {w : World} (h : NamesAt w) : 0 < w.heap.size := World.block_lt_of_cell? w ⟨0, 0, none⟩ (h 0 (by decide))
theorem NamesAt.below {w w1 : World} (h : NamesAt w) (hb : Below w.heap.size w w1) : NamesAt w1 := fun j hj => (hb.cell (p := ⟨0, j, none⟩) h.lt).trans (h j hj)
theorem nameV_in (j : Nat) (h1 : 1 ≤ j) (h9 : j ≤ 9) : nameV (j : Int) = nameL.getD j ByteArray.empty := by rw [nameV, if_pos (by omega), Int.toNat_natCast]
theorem nameV_out (op : Int) (h : ¬ (1 ≤ op ∧ op ≤ 9)) : nameV op = ByteArray.empty := if_neg h

set_option maxHeartbeats 1000000 in
theorem name_any (op : Int) (w : World) (hN : NamesAt w) : Calls Tryd.prog 20 #[.int .i64 op] w fun e w' => e = .returned (.string (nameV op)) ∧ Below w.heap.size w w' := by
  have HN := Kp.mk hN
  have h0 := hN.lt
  clear hN
  by_cases h1 : op < 1
  · have HV := Kp.mk (nameV_out op (by omega))
    go_enter Tryd.func20, Tryd.ntmps20
    go_wp2
    go_ret
    exact ⟨by rw [HV.out]; rfl, Below.refl _ _⟩
  · by_cases h2 : 10 ≤ op
    · have HV := Kp.mk (nameV_out op (by omega))
      go_enter Tryd.func20, Tryd.ntmps20
      go_wp2
      go_ret
      exact ⟨by rw [HV.out]; rfl, Below.refl _ _⟩
    · obtain ⟨j, rfl⟩ := Int.eq_ofNat_of_zero_le (show 0 ≤ op by omega)
      have HV := Kp.mk (nameV_in j (by omega) (by omega))
      have hc := HN.out j (by omega)
      go_enter Tryd.func20, Tryd.ntmps20
      go_wp2
      go_ret
      exact ⟨by rw [HV.out]; rfl, Below.refl _ _⟩

set_option maxRecDepth 100000 in
set_option maxHeartbeats 4000000 in
theorem rname_any (op : Int) (w : World) : Calls Tryd.prog 21 #[.int .i64 op] w fun e w' => e = .returned (.string (nameV op)) ∧ Below w.heap.size w w' := by
  by_cases h : 1 ≤ op ∧ op ≤ 9
  · have h9 : op = 1 ∨ op = 2 ∨ op = 3 ∨ op = 4 ∨ op = 5 ∨ op = 6 ∨ op = 7 ∨ op = 8 ∨ op = 9 := by omega
    rcases h9 with rfl | rfl | rfl | rfl | rfl | rfl | rfl | rfl | rfl
    · have HV : Kp (nameV 1 = ⟨#[99, 114, 101, 97, 116, 101]⟩) := ⟨rfl⟩
      go_enter Tryd.func21, Tryd.ntmps21
      go_wp2
      go_ret
      exact ⟨by rw [HV.out]; rfl, Below.refl _ _⟩
    · have HV : Kp (nameV 2 = ⟨#[110, 111, 114, 109, 97, 108]⟩) := ⟨rfl⟩
      go_enter Tryd.func21, Tryd.ntmps21
      go_wp2
      go_ret
      exact ⟨by rw [HV.out]; rfl, Below.refl _ _⟩
    · have HV : Kp (nameV 3 = ⟨#[119, 114, 105, 116, 101]⟩) := ⟨rfl⟩
      go_enter Tryd.func21, Tryd.ntmps21
      go_wp2
      go_ret
      exact ⟨by rw [HV.out]; rfl, Below.refl _ _⟩
    · have HV : Kp (nameV 4 = ⟨#[114, 101, 97, 100]⟩) := ⟨rfl⟩
      go_enter Tryd.func21, Tryd.ntmps21
      go_wp2
      go_ret
      exact ⟨by rw [HV.out]; rfl, Below.refl _ _⟩
    · have HV : Kp (nameV 5 = ⟨#[115, 101, 110, 100]⟩) := ⟨rfl⟩
      go_enter Tryd.func21, Tryd.ntmps21
      go_wp2
      go_ret
      exact ⟨by rw [HV.out]; rfl, Below.refl _ _⟩
    · have HV : Kp (nameV 6 = ⟨#[114, 101, 99, 101, 105, 118, 101]⟩) := ⟨rfl⟩
      go_enter Tryd.func21, Tryd.ntmps21
      go_wp2
      go_ret
      exact ⟨by rw [HV.out]; rfl, Below.refl _ _⟩
    · have HV : Kp (nameV 7 = ⟨#[115, 116, 97, 116, 117, 115]⟩) := ⟨rfl⟩
      go_enter Tryd.func21, Tryd.ntmps21
      go_wp2
      go_ret
      exact ⟨by rw [HV.out]; rfl, Below.refl _ _⟩
    · have HV : Kp (nameV 8 = ⟨#[112, 101, 101, 107]⟩) := ⟨rfl⟩
      go_enter Tryd.func21, Tryd.ntmps21
      go_wp2
      go_ret
      exact ⟨by rw [HV.out]; rfl, Below.refl _ _⟩
    · have HV : Kp (nameV 9 = ⟨#[112, 111, 107, 101]⟩) := ⟨rfl⟩
      go_enter Tryd.func21, Tryd.ntmps21
      go_wp2
      go_ret
      exact ⟨by rw [HV.out]; rfl, Below.refl _ _⟩
  · have HV := Kp.mk (nameV_out op h)
    have b1 : (op == 1) = false := by rw [beq_eq_false_iff_ne]; omega
    have b2 : (op == 2) = false := by rw [beq_eq_false_iff_ne]; omega
    have b3 : (op == 3) = false := by rw [beq_eq_false_iff_ne]; omega
    have b4 : (op == 4) = false := by rw [beq_eq_false_iff_ne]; omega
    have b5 : (op == 5) = false := by rw [beq_eq_false_iff_ne]; omega
    have b6 : (op == 6) = false := by rw [beq_eq_false_iff_ne]; omega
    have b7 : (op == 7) = false := by rw [beq_eq_false_iff_ne]; omega
    have b8 : (op == 8) = false := by rw [beq_eq_false_iff_ne]; omega
    have b9 : (op == 9) = false := by rw [beq_eq_false_iff_ne]; omega
    clear h
    go_enter Tryd.func21, Tryd.ntmps21
    go_wp2
    go_ret
    exact ⟨by rw [HV.out]; rfl, Below.refl _ _⟩

/-- The number of a word. -/
def opV (x : ByteArray) : Int := if Lib.idxOfS nameL x < 1 then 0 else Lib.idxOfS nameL x
set_option maxHeartbeats 1000000 in
theorem op_any (x : ByteArray) (w : World) (hN : NamesAt w) : Calls Tryd.prog 18 #[.string x] w fun e w' => e = .returned (.tuple #[.int .i64 (opV x), .bool (decide (0 < opV x))]) ∧ Below w.heap.size w w' := by
  have HN : Kp (RowAt w 1 (.slice (some ⟨0, 0, none⟩) 10 10) nameL.length (nameL.map Value.string)) := ⟨⟨by simp, .inr ⟨0, 0, 10, rfl, by decide, by unfold maxLen; omega, hN.lt, fun i hi => by
    have h1 : i < 10 := hi
    rw [Nat.zero_add, hN i h1, List.getElem?_map, List.getElem?_eq_getElem (show i < nameL.length from h1), List.getD_eq_getElem?_getD, List.getElem?_eq_getElem (show i < nameL.length from h1)]
    rfl⟩⟩⟩
  have h0 := hN.lt
  clear hN
  obtain ⟨i, hi⟩ : ∃ i, Lib.idxOfS nameL x = i := ⟨_, rfl⟩
  have HI := Kp.mk hi
  have HV : Kp (opV x = if i < 1 then 0 else i) := ⟨by rw [opV, hi]⟩
  clear hi
  go_enter Tryd.func18, Tryd.ntmps18
  go_wp2_with fail
  refine (indexStr_any _ nameL x _ HN.out (by decide)).mono ?_
  rw [HI.out]
  rintro e w1 ⟨rfl, hb⟩
  by_cases h1 : i < 1
  · go_wp2
    go_ret2
    exact ⟨by rw [HV.out, if_pos h1]; rfl, hb⟩
  · have HV2 : Kp (opV x = i) := ⟨by rw [HV.out, if_neg h1]⟩
    have HD : Kp (decide (0 < i) = true) := ⟨decide_eq_true (by omega)⟩
    go_wp2
    go_ret2
    exact ⟨by rw [HV2.out, HD.out]; rfl, hb⟩
theorem opV_hit (x : ByteArray) (k : Nat) (h1 : 1 ≤ k) (h9 : k ≤ 9) (hx : nameV (k : Int) = x) (hne : ∀ j : Nat, 1 ≤ j → j < k → nameV (j : Int) ≠ x) : opV x = (k : Int) := by
  rw [nameV_in k h1 h9] at hx
  have hx0 : nameL.getD 0 ByteArray.empty ≠ x := by
    rw [← hx]
    have hk : k = 1 ∨ k = 2 ∨ k = 3 ∨ k = 4 ∨ k = 5 ∨ k = 6 ∨ k = 7 ∨ k = 8 ∨ k = 9 := by omega
    rcases hk with rfl | rfl | rfl | rfl | rfl | rfl | rfl | rfl | rfl <;> decide
  have h2 := Lib.idxOfS_hit nameL nameL.length k x (show k < 10 by omega) (Nat.le_refl _) hx (fun j hj => by
    by_cases hj0 : j = 0
    · subst hj0; exact hx0
    · rw [← nameV_in j (by omega) (by omega)]; exact hne j (by omega) hj)
  rw [List.take_length] at h2
  rw [opV, h2, if_neg (by omega)]
theorem opV_miss (x : ByteArray) (hne : ∀ j : Nat, 1 ≤ j → j < 10 → nameV (j : Int) ≠ x) : opV x = 0 := by
  by_cases h0 : nameL.getD 0 ByteArray.empty = x
  · have h2 := Lib.idxOfS_hit nameL nameL.length 0 x (by decide) (Nat.le_refl _) h0 (fun j hj => absurd hj (Nat.not_lt_zero _))
    rw [List.take_length] at h2
    rw [opV, h2]; rfl
  · have h2 := Lib.idxOfS_miss nameL nameL.length x (fun j hj => by
      by_cases hj0 : j = 0
      · subst hj0; exact h0
      · rw [← nameV_in j (by omega) (by have : j < 10 := hj; omega)]; exact hne j (by omega) hj)
    rw [List.take_length] at h2
    rw [opV, h2]; rfl
theorem nameV_one (op : Int) : nameV op = nameV op := rfl

set_option maxRecDepth 100000 in
set_option maxHeartbeats 2000000 in
theorem rop_any (x : ByteArray) (w : World) : Calls Tryd.prog 19 #[.string x] w fun e w' => e = .returned (.int .i64 (opV x)) ∧ Below w.heap.size w w' := by
  go_enter Tryd.func19, Tryd.ntmps19
  go_wp2_with fail
  go_loopw [3] (fun i wr => ∃ k : Nat, 1 ≤ k ∧ k ≤ 10 ∧ i = .int .i64 k ∧ Kp (Below w.heap.size w wr) ∧ Kp (∀ j : Nat, 1 ≤ j → j < k → nameV (j : Int) ≠ x)) (fun i wr => 10 - (intOf i).toNat)
  case atStart => exact ⟨1, Nat.le_refl _, by omega, rfl, ⟨Below.refl _ _⟩, ⟨fun j h1 h2 => absurd h2 (by omega)⟩⟩
  case round =>
    obtain ⟨k, hk1, hk, rfl, HB, HN⟩ := hrel
    by_cases hlt : k ≤ 9
    · have hle : (k : Int) ≤ 9 := by omega
      go_wp2_with fail
      refine (rname_any (k : Int) _).mono ?_
      obtain ⟨y, hy⟩ : ∃ y, nameV (k : Int) = y := ⟨_, rfl⟩
      rw [hy]
      rintro e w1 ⟨rfl, hb1⟩
      have HB1 := Kp.mk (below_call HB.out hb1)
      have HY := Kp.mk hy
      clear hb1 hy
      cases hq : y.toList == x.toList with
      | true =>
        have HV : Kp (opV x = (k : Int)) := ⟨opV_hit x k hk1 hlt (HY.out.trans ((Lib.bytes_beq_iff _ _).1 hq)) HN.out⟩
        go_wp2
        go_ret
        exact ⟨by rw [HV.out]; rfl, HB1.out⟩
      | false =>
        have HN1 : Kp (∀ j : Nat, 1 ≤ j → j < k + 1 → nameV (j : Int) ≠ x) := ⟨fun j h1 h2 => by
          by_cases hjk : j = k
          · subst hjk
            rw [HY.out]
            exact (Lib.bytes_beq_false_iff _ _).1 hq
          · exact HN.out j h1 (by omega)⟩
        go_wp2
        go_roundw
        case rel => exact ⟨k + 1, by omega, by omega, by go_num, HB1, HN1⟩
        case measure => simp [intOf]; omega
    · obtain rfl : k = 10 := by omega
      have HV := Kp.mk (opV_miss x HN.out)
      go_wp2
      go_ret
      exact ⟨by rw [HV.out]; rfl, HB.out⟩
end Go.Proofs.YtdajadfgiifioaaDoor

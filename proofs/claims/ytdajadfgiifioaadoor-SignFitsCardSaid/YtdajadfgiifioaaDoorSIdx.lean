/- Contracts of slices.Index and slices.Contains at numbers, bytes and strings. -/
import Derived.Test.YtdajadfgiifioaaDoorCfg
import Derived.Lib.Strings
import Derived.Lib.Slices
import Derived.Lib.SlicesS
namespace Go.Proofs.YtdajadfgiifioaaDoor
open Go.RowKit
set_option linter.unusedSimpArgs false
set_option linter.unusedVariables false

set_option maxHeartbeats 2000000 in
theorem indexInt_any (vs : Value) (l : List Int) (x : Int) (w : World) (h : RowAt w 1 vs l.length (l.map (Value.int .i64))) (hl : l.length ≤ 1000000) :
    Calls Tryd.prog 76 #[vs, .int .i64 x] w fun e w' => e = .returned (.int .i64 (Lib.idxOf l x)) ∧ Below w.heap.size w w' := by
  obtain ⟨a, cap, rfl, _, _⟩ := h.shape
  have H1 := Kp.mk h
  clear h
  go_enter Tryd.func76, Tryd.ntmps76
  go_wp2_with fail
  go_loopw [8] (fun i wr => ∃ k : Nat, k ≤ l.length ∧ i = .int .i64 k ∧ Kp (Below w.heap.size w wr) ∧ Kp (∀ j, j < k → l.getD j 0 ≠ x)) (fun i wr => l.length - (intOf i).toNat)
  case atStart => exact ⟨0, Nat.zero_le _, rfl, ⟨Below.refl _ _⟩, ⟨fun j hj => absurd hj (Nat.not_lt_zero _)⟩⟩
  case round =>
    obtain ⟨k, hk, rfl, HB, HN⟩ := hrel
    by_cases hlt : k < l.length
    · obtain ⟨g, o, rfl, hg, hc⟩ := H1.out.at (by omega)
      have e0 : wr.cell? ⟨g, o + k, none⟩ = some (.int .i64 l[k]) := (HB.out.cell (p := ⟨g, o + k, none⟩) hg).trans ((hc k (by omega)).trans (by simp [hlt]))
      have HG : Kp (l.getD k 0 = l[k]) := ⟨by simp [List.getD, hlt]⟩
      clear hc
      cases hq : (x == l[k]) with
      | true =>
        have HH : Kp (Lib.idxOf l x = k) := ⟨by
          have h1 := Lib.idxOf_hit l l.length k x hlt (Nat.le_refl _) (HG.out.trans (beq_iff_eq.1 hq).symm) HN.out
          rwa [List.take_length] at h1⟩
        go_wp2
        go_ret
        exact ⟨by rw [HH.out]; rfl, HB.out⟩
      | false =>
        have HN1 : Kp (∀ j, j < k + 1 → l.getD j 0 ≠ x) := ⟨fun j hj => by
          by_cases hjk : j = k
          · subst hjk
            rw [HG.out]
            exact fun h => by simp [h] at hq
          · exact HN.out j (by omega)⟩
        go_wp2
        go_roundw
        case rel => exact ⟨k + 1, by omega, by go_num, ⟨HB.out⟩, HN1⟩
        case measure => simp [intOf]; omega
    · obtain rfl : k = l.length := by omega
      have HH : Kp (Lib.idxOf l x = -1) := ⟨by
        have h1 := Lib.idxOf_miss l l.length x HN.out
        rwa [List.take_length] at h1⟩
      go_wp2
      go_ret
      exact ⟨by rw [HH.out]; rfl, HB.out⟩

set_option maxHeartbeats 400000 in
theorem containsInt_any (vs : Value) (l : List Int) (x : Int) (b : Bool) (hb : l.contains x = b) (w : World) (h : RowAt w 1 vs l.length (l.map (Value.int .i64))) (hl : l.length ≤ 1000000) :
    Calls Tryd.prog 71 #[vs, .int .i64 x] w fun e w' => e = .returned (.bool b) ∧ Below w.heap.size w w' := by
  have HB : Kp (decide (0 ≤ Lib.idxOf l x) = b) := ⟨by rw [← hb, Bool.eq_iff_iff, decide_eq_true_eq, Lib.idxOf_nonneg_iff]⟩
  clear hb
  go_enter Tryd.func71, Tryd.ntmps71
  go_wp2_with fail
  refine (indexInt_any vs l x _ h hl).mono ?_
  rintro e w1 ⟨rfl, hb1⟩
  go_wp2
  go_ret
  exact ⟨ret_bool HB.out, hb1⟩

set_option maxHeartbeats 2000000 in
theorem indexU8_any (vs : Value) (l : List Int) (x : Int) (w : World) (h : RowAt w 1 vs l.length (l.map (Value.int .u8))) (hl : l.length ≤ 1000000) :
    Calls Tryd.prog 62 #[vs, .int .u8 x] w fun e w' => e = .returned (.int .i64 (Lib.idxOf l x)) ∧ Below w.heap.size w w' := by
  obtain ⟨a, cap, rfl, _, _⟩ := h.shape
  have H1 := Kp.mk h
  clear h
  go_enter Tryd.func62, Tryd.ntmps62
  go_wp2_with fail
  go_loopw [8] (fun i wr => ∃ k : Nat, k ≤ l.length ∧ i = .int .i64 k ∧ Kp (Below w.heap.size w wr) ∧ Kp (∀ j, j < k → l.getD j 0 ≠ x)) (fun i wr => l.length - (intOf i).toNat)
  case atStart => exact ⟨0, Nat.zero_le _, rfl, ⟨Below.refl _ _⟩, ⟨fun j hj => absurd hj (Nat.not_lt_zero _)⟩⟩
  case round =>
    obtain ⟨k, hk, rfl, HB, HN⟩ := hrel
    by_cases hlt : k < l.length
    · obtain ⟨g, o, rfl, hg, hc⟩ := H1.out.at (by omega)
      have e0 : wr.cell? ⟨g, o + k, none⟩ = some (.int .u8 l[k]) := (HB.out.cell (p := ⟨g, o + k, none⟩) hg).trans ((hc k (by omega)).trans (by simp [hlt]))
      have HG : Kp (l.getD k 0 = l[k]) := ⟨by simp [List.getD, hlt]⟩
      clear hc
      cases hq : (x == l[k]) with
      | true =>
        have HH : Kp (Lib.idxOf l x = k) := ⟨by
          have h1 := Lib.idxOf_hit l l.length k x hlt (Nat.le_refl _) (HG.out.trans (beq_iff_eq.1 hq).symm) HN.out
          rwa [List.take_length] at h1⟩
        go_wp2
        go_ret
        exact ⟨by rw [HH.out]; rfl, HB.out⟩
      | false =>
        have HN1 : Kp (∀ j, j < k + 1 → l.getD j 0 ≠ x) := ⟨fun j hj => by
          by_cases hjk : j = k
          · subst hjk
            rw [HG.out]
            exact fun h => by simp [h] at hq
          · exact HN.out j (by omega)⟩
        go_wp2
        go_roundw
        case rel => exact ⟨k + 1, by omega, by go_num, ⟨HB.out⟩, HN1⟩
        case measure => simp [intOf]; omega
    · obtain rfl : k = l.length := by omega
      have HH : Kp (Lib.idxOf l x = -1) := ⟨by
        have h1 := Lib.idxOf_miss l l.length x HN.out
        rwa [List.take_length] at h1⟩
      go_wp2
      go_ret
      exact ⟨by rw [HH.out]; rfl, HB.out⟩

set_option maxHeartbeats 400000 in
theorem containsU8_any (vs : Value) (l : List Int) (x : Int) (b : Bool) (hb : l.contains x = b) (w : World) (h : RowAt w 1 vs l.length (l.map (Value.int .u8))) (hl : l.length ≤ 1000000) :
    Calls Tryd.prog 31 #[vs, .int .u8 x] w fun e w' => e = .returned (.bool b) ∧ Below w.heap.size w w' := by
  have HB : Kp (decide (0 ≤ Lib.idxOf l x) = b) := ⟨by rw [← hb, Bool.eq_iff_iff, decide_eq_true_eq, Lib.idxOf_nonneg_iff]⟩
  clear hb
  go_enter Tryd.func31, Tryd.ntmps31
  go_wp2_with fail
  refine (indexU8_any vs l x _ h hl).mono ?_
  rintro e w1 ⟨rfl, hb1⟩
  go_wp2
  go_ret
  exact ⟨ret_bool HB.out, hb1⟩

set_option maxHeartbeats 2000000 in
theorem indexStr_any (vs : Value) (l : List ByteArray) (x : ByteArray) (w : World) (h : RowAt w 1 vs l.length (l.map Value.string)) (hl : l.length ≤ 1000000) :
    Calls Tryd.prog 40 #[vs, .string x] w fun e w' => e = .returned (.int .i64 (Lib.idxOfS l x)) ∧ Below w.heap.size w w' := by
  obtain ⟨a, cap, rfl, _, _⟩ := h.shape
  have H1 := Kp.mk h
  clear h
  go_enter Tryd.func40, Tryd.ntmps40
  go_wp2_with fail
  go_loopw [8] (fun i wr => ∃ k : Nat, k ≤ l.length ∧ i = .int .i64 k ∧ Kp (Below w.heap.size w wr) ∧ Kp (∀ j, j < k → l.getD j ByteArray.empty ≠ x)) (fun i wr => l.length - (intOf i).toNat)
  case atStart => exact ⟨0, Nat.zero_le _, rfl, ⟨Below.refl _ _⟩, ⟨fun j hj => absurd hj (Nat.not_lt_zero _)⟩⟩
  case round =>
    obtain ⟨k, hk, rfl, HB, HN⟩ := hrel
    by_cases hlt : k < l.length
    · obtain ⟨g, o, rfl, hg, hc⟩ := H1.out.at (by omega)
      have e0 : wr.cell? ⟨g, o + k, none⟩ = some (.string l[k]) := (HB.out.cell (p := ⟨g, o + k, none⟩) hg).trans ((hc k (by omega)).trans (by simp [hlt]))
      have HG : Kp (l.getD k ByteArray.empty = l[k]) := ⟨by simp [List.getD, hlt]⟩
      clear hc
      cases hq : (x.toList == l[k].toList) with
      | true =>
        have HH : Kp (Lib.idxOfS l x = k) := ⟨by
          have h1 := Lib.idxOfS_hit l l.length k x hlt (Nat.le_refl _) (HG.out.trans ((Lib.bytes_beq_iff _ _).1 hq).symm) HN.out
          rwa [List.take_length] at h1⟩
        go_wp2
        go_ret
        exact ⟨by rw [HH.out]; rfl, HB.out⟩
      | false =>
        have HN1 : Kp (∀ j, j < k + 1 → l.getD j ByteArray.empty ≠ x) := ⟨fun j hj => by
          by_cases hjk : j = k
          · subst hjk
            rw [HG.out]
            exact fun h => (Lib.bytes_beq_false_iff _ _).1 hq h.symm
          · exact HN.out j (by omega)⟩
        go_wp2
        go_roundw
        case rel => exact ⟨k + 1, by omega, by go_num, ⟨HB.out⟩, HN1⟩
        case measure => simp [intOf]; omega
    · obtain rfl : k = l.length := by omega
      have HH : Kp (Lib.idxOfS l x = -1) := ⟨by
        have h1 := Lib.idxOfS_miss l l.length x HN.out
        rwa [List.take_length] at h1⟩
      go_wp2
      go_ret
      exact ⟨by rw [HH.out]; rfl, HB.out⟩
end Go.Proofs.YtdajadfgiifioaaDoor

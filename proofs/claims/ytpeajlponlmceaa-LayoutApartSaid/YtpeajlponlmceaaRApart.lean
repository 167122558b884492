/- The contract of the reference's Apart; the law SpanApart: its walk. -/
import Derived.Test.YtpeajlponlmceaaApart
import Derived.BigQuiet
import Derived.Deep.QuietTactic
namespace Go.Proofs.Ytpeajlponlmceaa
open Go.RowKit
set_option linter.unusedSimpArgs false
set_option linter.unusedVariables false

theorem apartB_false' {n : Nat} {F S : Nat → Int} (i j : Nat) (hi : i < n) (hj : j < n) (hne : i ≠ j) (h : meetsB (F i) (S i) (F j) (S j) = true) : apartB n F S = false := by
  rcases Nat.lt_or_gt_of_ne hne with hl | hl
  · exact apartB_false j i hj hl (by rw [meetsB_comm]; exact h)
  · exact apartB_false i j hi hl h

set_option maxHeartbeats 1000000 in
theorem rapart_any (a : Option Addr) (n cap : Nat) (F S : Nat → Int) (x : Bool) (hx : apartB n F S = x) (w : World) (hcap : n ≤ cap) (hn : n ≤ 60) (h : SpansAt w a n F S) :
    Calls Try.prog 43 #[.slice a n cap] w fun e w' => e = .returned (.bool x) ∧ Below w.heap.size w w' := by
  subst hx
  rcases h with rfl | ⟨b, o, rfl, hb, hc⟩
  · go_enter Try.func43, Try.ntmps43
    go_wp2_with fail
    go_loopw [3] (fun i wr => i = .int .i64 0 ∧ wr = w) (fun i wr => 0)
    case atStart => exact ⟨rfl, rfl⟩
    case round =>
      obtain ⟨rfl, rfl⟩ := hrel
      go_wp2
      go_ret
      exact ⟨ret_bool (apartB_true (fun i hi => absurd hi (Nat.not_lt_zero _))).symm, Below.refl _ _⟩
  · go_enter Try.func43, Try.ntmps43
    go_wp2_with fail
    go_loopw [3] (fun i wr => ∃ k : Nat, k ≤ n ∧ i = .int .i64 k ∧ Below w.heap.size w wr ∧ ∀ i, i < k → ∀ j, j < n → i ≠ j → meetsB (F i) (S i) (F j) (S j) = false) (fun i wr => n - (intOf i).toNat)
    case atStart => exact ⟨0, Nat.zero_le _, rfl, Below.refl _ _, fun i hi => absurd hi (Nat.not_lt_zero _)⟩
    case round =>
      obtain ⟨k, hk, rfl, hB, hdone⟩ := hrel
      obtain ⟨wo, rfl⟩ : ∃ wo : World, wo = wr := ⟨_, rfl⟩
      have HB := Kp.mk hB
      have HC := Kp.mk hc
      have HD := Kp.mk hdone
      clear hB hdone hc
      by_cases hlt : k < n
      · go_wp2_with fail
        go_loopw [4] (fun i wr => ∃ m : Nat, m ≤ n ∧ i = .int .i64 m ∧ Below w.heap.size w wr ∧ ∀ j, j < m → k ≠ j → meetsB (F k) (S k) (F j) (S j) = false) (fun i wr => n - (intOf i).toNat)
        case atStart => exact ⟨0, Nat.zero_le _, rfl, HB.out, fun i hi => absurd hi (Nat.not_lt_zero _)⟩
        case round =>
          obtain ⟨m, hm, rfl, hB2, hd2⟩ := hrel
          have HB2 := Kp.mk hB2
          have HD2 := Kp.mk hd2
          clear hB2 hd2
          by_cases hlt2 : m < n
          · by_cases hkm : k = m
            · subst hkm
              go_wp2_with fail
              go_quiet (fail)
              go_wp2
              go_roundw
              case rel =>
                refine ⟨k + 1, by omega, by go_num, below_drN HB2.out, fun j hj hne => HD2.out j (by omega) hne⟩
              case measure => simp [intOf]; omega
            · have c0 : wr.cell? ⟨b, o + m * 2, none⟩ = some (.int .i64 (F m)) := (HB2.out.cell (p := ⟨b, o + m * 2, none⟩) hb).trans (HC.out m (by omega)).1
              have c1 : wr.cell? ⟨b, o + m * 2 + 1, none⟩ = some (.int .i64 (S m)) := (HB2.out.cell (p := ⟨b, o + m * 2 + 1, none⟩) hb).trans (HC.out m (by omega)).2
              have c2 : wr.cell? ⟨b, o + k * 2, none⟩ = some (.int .i64 (F k)) := (HB2.out.cell (p := ⟨b, o + k * 2, none⟩) hb).trans (HC.out k (by omega)).1
              have c3 : wr.cell? ⟨b, o + k * 2 + 1, none⟩ = some (.int .i64 (S k)) := (HB2.out.cell (p := ⟨b, o + k * 2 + 1, none⟩) hb).trans (HC.out k (by omega)).2
              have l0 : b < wr.heap.size := Nat.lt_of_lt_of_le hb HB2.out.size
              have hkm1 : (k != m) = true := by simpa using hkm
              have hkm2 : ((k : Int) != (m : Int)) = true := by rw [bne_iff_ne]; omega
              have hkm3 : ((k : Int) == (m : Int)) = false := by rw [beq_eq_false_iff_ne]; omega
              cases hq : meetsB (F k) (S k) (F m) (S m)
              · go_wp2_with fail
                go_region_held3 (fun w' : World => Below (wr).heap.size (wr) w' ∧ ∀ b o, b < (wr).heap.size → w'.cell? ⟨b, o, none⟩ = (wr).cell? ⟨b, o, none⟩) (first | exact old_drew _ | exact old_call (by assumption) hb) (first | (go_at_call 63; (with_reducible refine (rmeets_any _ _ _ _ _ hq _).mono ?_); rintro e w1 ⟨rfl, hb⟩))
                have hr := And.left ‹Below wr.heap.size wr _ ∧ _›
                go_wp2
                go_roundw
                case rel =>
                  refine ⟨m + 1, by omega, by go_num, below_call HB2.out hr, fun j hj hne => ?_⟩
                  by_cases e : j = m
                  · subst e; exact hq
                  · exact HD2.out j (by omega) hne
                case measure => simp [intOf]; omega
              · go_wp2_with fail
                go_region_held3 (fun w' : World => Below (wr).heap.size (wr) w' ∧ ∀ b o, b < (wr).heap.size → w'.cell? ⟨b, o, none⟩ = (wr).cell? ⟨b, o, none⟩) (first | exact old_drew _ | exact old_call (by assumption) hb) (first | (go_at_call 63; (with_reducible refine (rmeets_any _ _ _ _ _ hq _).mono ?_); rintro e w1 ⟨rfl, hb⟩))
                have hr := And.left ‹Below wr.heap.size wr _ ∧ _›
                go_wp2
                go_ret
                exact ⟨ret_bool (apartB_false' k m hlt hlt2 hkm hq).symm, below_call HB2.out hr⟩
          · obtain rfl : m = n := by omega
            go_wp2
            go_roundw
            case rel =>
              refine ⟨k + 1, by omega, by go_num, HB2.out, fun i hi j hj hne => ?_⟩
              by_cases e : i = k
              · subst e; exact HD2.out j hj hne
              · exact HD.out i (by omega) j hj hne
            case measure => simp [intOf]; omega
      · obtain rfl : k = n := by omega
        go_wp2
        go_ret
        exact ⟨ret_bool (apartB_true fun i hi j hj => HD.out i hi j (by omega) (by omega)).symm, HB.out⟩
end Go.Proofs.Ytpeajlponlmceaa

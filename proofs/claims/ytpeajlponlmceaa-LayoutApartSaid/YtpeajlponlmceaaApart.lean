/- Contracts of span.Apart and its reference; the law SpanApart: its walk. -/
import Derived.Test.YtpeajlponlmceaaSpanR
namespace Go.Proofs.Ytpeajlponlmceaa
open Go.RowKit
set_option linter.unusedSimpArgs false
set_option linter.unusedVariables false

/-- A slice of spans: n of them, F and S their numbers. -/
def SpansAt (w : World) (a : Option Addr) (n : Nat) (F S : Nat → Int) : Prop :=
  n = 0 ∨ ∃ b o, a = some ⟨b, o, none⟩ ∧ b < w.heap.size ∧ ∀ i, i < n → w.cell? ⟨b, o + i * 2, none⟩ = some (.int .i64 (F i)) ∧ w.cell? ⟨b, o + i * 2 + 1, none⟩ = some (.int .i64 (S i))
theorem SpansAt.below {w w1 : World} {a : Option Addr} {n : Nat} {F S : Nat → Int} (h : SpansAt w a n F S) (hb : Below w.heap.size w w1) : SpansAt w1 a n F S := by
  rcases h with h | ⟨b, o, rfl, hlt, hc⟩
  · exact .inl h
  · exact .inr ⟨b, o, rfl, Nat.lt_of_lt_of_le hlt hb.size, fun i hi => ⟨(hb.cell (p := ⟨b, _, none⟩) hlt).trans (hc i hi).1, (hb.cell (p := ⟨b, _, none⟩) hlt).trans (hc i hi).2⟩⟩
/-- No two of them meet. -/
def apartB (n : Nat) (F S : Nat → Int) : Bool := decide (∀ i, i < n → ∀ j, j < i → meetsB (F i) (S i) (F j) (S j) = false)
theorem apartB_true {n : Nat} {F S : Nat → Int} (h : ∀ i, i < n → ∀ j, j < i → meetsB (F i) (S i) (F j) (S j) = false) : apartB n F S = true := decide_eq_true h
theorem apartB_false {n : Nat} {F S : Nat → Int} (i j : Nat) (hi : i < n) (hj : j < i) (h : meetsB (F i) (S i) (F j) (S j) = true) : apartB n F S = false :=
  decide_eq_false fun g => by rw [g i hi j hj] at h; exact Bool.noConfusion h

set_option maxHeartbeats 1000000 in
theorem apart_any (a : Option Addr) (n cap : Nat) (F S : Nat → Int) (x : Bool) (hx : apartB n F S = x) (w : World) (hcap : n ≤ cap) (hn : n ≤ 60) (h : SpansAt w a n F S) :
    Calls Try.prog 41 #[.slice a n cap] w fun e w' => e = .returned (.bool x) ∧ Below w.heap.size w w' := by
  subst hx
  rcases h with rfl | ⟨b, o, rfl, hb, hc⟩
  · go_enter Try.func41, Try.ntmps41
    go_wp2_with fail
    go_loopw [9] (fun i wr => i = .int .i64 0 ∧ wr = w) (fun i wr => 0)
    case atStart => exact ⟨rfl, rfl⟩
    case round =>
      obtain ⟨rfl, rfl⟩ := hrel
      go_wp2
      go_ret
      exact ⟨ret_bool (apartB_true (fun i hi => absurd hi (Nat.not_lt_zero _))).symm, Below.refl _ _⟩
  · go_enter Try.func41, Try.ntmps41
    go_wp2_with fail
    go_loopw [9] (fun i wr => ∃ k : Nat, k ≤ n ∧ i = .int .i64 k ∧ Below w.heap.size w wr ∧ ∀ i, i < k → ∀ j, j < i → meetsB (F i) (S i) (F j) (S j) = false) (fun i wr => n - (intOf i).toNat)
    case atStart => exact ⟨0, Nat.zero_le _, rfl, Below.refl _ _, fun i hi => absurd hi (Nat.not_lt_zero _)⟩
    case round =>
      obtain ⟨k, hk, rfl, hB, hdone⟩ := hrel
      obtain ⟨wo, rfl⟩ : ∃ wo : World, wo = wr := ⟨_, rfl⟩
      have HB := Kp.mk hB
      have HC := Kp.mk hc
      have HD := Kp.mk hdone
      clear hB hdone hc
      by_cases hlt : k < n
      · have c0 : wo.cell? ⟨b, o + k * 2, none⟩ = some (.int .i64 (F k)) := (HB.out.cell (p := ⟨b, o + k * 2, none⟩) hb).trans (HC.out k hlt).1
        have c1 : wo.cell? ⟨b, o + k * 2 + 1, none⟩ = some (.int .i64 (S k)) := (HB.out.cell (p := ⟨b, o + k * 2 + 1, none⟩) hb).trans (HC.out k hlt).2
        go_wp2_with fail
        clear c0 c1
        go_loopw [18] (fun i wr => ∃ m : Nat, m ≤ k ∧ i = .int .i64 m ∧ Below w.heap.size w wr ∧ wr.heap[wo.heap.size]? = some (.cells #[.int .i64 (F k), .int .i64 (S k)] 49) ∧ ∀ j, j < m → meetsB (F k) (S k) (F j) (S j) = false) (fun i wr => k - (intOf i).toNat)
        case atStart => exact ⟨0, Nat.zero_le _, rfl, below_al HB.out _, blk_new _ _, fun i hi => absurd hi (Nat.not_lt_zero _)⟩
        case round =>
          obtain ⟨m, hm, rfl, hB2, hbk, hd2⟩ := hrel
          have HB2 := Kp.mk hB2
          have HBK := Kp.mk hbk
          have HD2 := Kp.mk hd2
          clear hB2 hd2 hbk
          by_cases hlt2 : m < k
          · have c0 : wr.cell? ⟨b, o + m * 2, none⟩ = some (.int .i64 (F m)) := (HB2.out.cell (p := ⟨b, o + m * 2, none⟩) hb).trans (HC.out m (by omega)).1
            have c1 : wr.cell? ⟨b, o + m * 2 + 1, none⟩ = some (.int .i64 (S m)) := (HB2.out.cell (p := ⟨b, o + m * 2 + 1, none⟩) hb).trans (HC.out m (by omega)).2
            have c2 : wr.cell? ⟨wo.heap.size, 0, none⟩ = some (.int .i64 (F k)) := (cell_blk HBK.out 0).trans rfl
            have c3 : wr.cell? ⟨wo.heap.size, 1, none⟩ = some (.int .i64 (S k)) := (cell_blk HBK.out 1).trans rfl
            have l0 := blk_lt HBK.out
            cases hq : meetsB (F k) (S k) (F m) (S m)
            · go_wp2_with (go_at_call 61; refine (meets_any _ _ _ _ _ hq _).mono ?_; rintro e w1 ⟨rfl, hb1⟩)
              go_roundw
              case rel =>
                refine ⟨m + 1, by omega, by go_num, below_call (below_al HB2.out _) hb1, blk_below (blk_al HBK.out _) hb1, fun j hj => ?_⟩
                by_cases e : j = m
                · subst e; exact hq
                · exact HD2.out j (by omega)
              case measure => simp [intOf]; omega
            · go_wp2_with (go_at_call 61; refine (meets_any _ _ _ _ _ hq _).mono ?_; rintro e w1 ⟨rfl, hb1⟩)
              go_ret
              exact ⟨ret_bool (apartB_false k m hlt hlt2 hq).symm, below_call (below_al HB2.out _) hb1⟩
          · obtain rfl : m = k := by omega
            go_wp2
            go_roundw
            case rel =>
              refine ⟨m + 1, by omega, by go_num, HB2.out, fun i hi => ?_⟩
              by_cases e : i = m
              · subst e; exact HD2.out
              · exact HD.out i (by omega)
            case measure => simp [intOf]; omega
      · obtain rfl : k = n := by omega
        go_wp2
        go_ret
        exact ⟨ret_bool (apartB_true HD.out).symm, HB.out⟩
end Go.Proofs.Ytpeajlponlmceaa

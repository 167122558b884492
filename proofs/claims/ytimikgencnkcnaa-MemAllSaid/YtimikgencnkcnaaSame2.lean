/- The contract of the reference's Same, of words. -/
import Derived.Test.YtimikgencnkcnaaRows
import Derived.Test.YtimikgencnkcnaaLists
import Derived.BigQuiet
import Derived.Deep.QuietTactic
namespace Go.Proofs.Ytimikgencnkcnaa
open Go.RowKit
set_option linter.unusedSimpArgs false
set_option linter.unusedVariables false

set_option maxHeartbeats 1000000 in
theorem rsame2_any (va vb : Value) (xs ys : List Int) (b : Bool) (hb : decide (xs = ys) = b) (w : World) (h1 : RowAt w 1 va xs.length (xs.map (Value.int .u32))) (h2 : RowAt w 1 vb ys.length (ys.map (Value.int .u32))) :
    Calls Try.prog 35 #[va, vb] w fun e w' => e = .returned (.bool b) ∧ Below w.heap.size w w' := by
  subst hb
  obtain ⟨a, ca, rfl, h3, h4⟩ := h1.shape
  obtain ⟨a', cb, rfl, h5, h6⟩ := h2.shape
  unfold maxLen at h4 h6
  have H1 := Kp.mk h1
  have H2 := Kp.mk h2
  clear h1 h2
  by_cases hl : xs.length = ys.length
  · have hl1 : (xs.length != ys.length) = false := by simp [hl]
    have hl2 : ((xs.length : Int) != (ys.length : Int)) = false := by simp [hl]
    have HL := Kp.mk hl
    clear hl
    go_enter Try.func35, Try.ntmps35
    go_wp2_with fail
    go_loopw [5] (fun i wr => ∃ k : Nat, k ≤ xs.length ∧ i = .int .i64 k ∧ Kp (Below w.heap.size w wr) ∧ Kp (xs.take k = ys.take k)) (fun i wr => xs.length - (intOf i).toNat)
    case atStart => exact ⟨0, Nat.zero_le _, rfl, ⟨Below.refl _ _⟩, ⟨by simp⟩⟩
    case round =>
      obtain ⟨k, hk, rfl, HB, HT⟩ := hrel
      by_cases hlt : k < xs.length
      · have hlt' : k < ys.length := HL.out ▸ hlt
        obtain ⟨g, o, rfl, hg, hc⟩ := H1.out.at (by omega)
        obtain ⟨g', o', rfl, hg', hc'⟩ := H2.out.at (by omega)
        have c0 : wr.cell? ⟨g, o + k, none⟩ = some (.int .u32 xs[k]) := (HB.out.cell (p := ⟨g, o + k, none⟩) hg).trans ((hc k (by omega)).trans (by simp [hlt]))
        have c1 : wr.cell? ⟨g', o' + k, none⟩ = some (.int .u32 ys[k]) := (HB.out.cell (p := ⟨g', o' + k, none⟩) hg').trans ((hc' k (by omega)).trans (by simp [hlt']))
        clear hc hc'
        have hz : (0 : Int) ≤ (k : Int) := by omega
        by_cases hq : xs[k] = ys[k]
        · have HQ := Kp.mk hq
          rw [hq] at c0
          clear hq
          go_wp2_with fail
          go_quiet (fail)
          go_wp2
          go_roundw
          case rel => exact ⟨k + 1, by omega, by go_num, ⟨below_drN HB.out⟩, ⟨by rw [List.take_succ_eq_append_getElem hlt, List.take_succ_eq_append_getElem hlt', HT.out, HQ.out]⟩⟩
          case measure => simp [intOf]; omega
        · have hq1 : (xs[k] != ys[k]) = true := by simpa using hq
          go_wp2_with fail
          go_quiet (fail)
          go_wp2
          go_ret
          exact ⟨ret_bool (decide_eq_false fun h => hq (by simp [h])).symm, below_drN HB.out⟩
      · obtain rfl : k = xs.length := by omega
        go_wp2
        go_ret
        exact ⟨ret_bool (decide_eq_true (by
          have h := HT.out
          rw [List.take_length, HL.out, List.take_length] at h
          exact h)).symm, HB.out⟩
  · have hl1 : (xs.length != ys.length) = true := by simpa using hl
    have hl2 : ((xs.length : Int) != (ys.length : Int)) = true := by rw [bne_iff_ne]; omega
    go_enter Try.func35, Try.ntmps35
    go_wp2
    go_ret
    exact ⟨ret_bool (decide_eq_false fun h => hl (by rw [h])).symm, Below.refl _ _⟩
end Go.Proofs.Ytimikgencnkcnaa

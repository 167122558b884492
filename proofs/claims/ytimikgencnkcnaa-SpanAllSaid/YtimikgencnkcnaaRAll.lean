/- The contract of the reference's All. -/
import Derived.Test.YtimikgencnkcnaaApart
import Derived.Test.YtimikgencnkcnaaLists
namespace Go.Proofs.Ytimikgencnkcnaa
open Go.RowKit
set_option linter.unusedSimpArgs false
set_option linter.unusedVariables false

/-- How many addresses a span has. -/
def cnt (f s : Int) : Nat := if rightB f s then s.toNat else 0
/-- The addresses of the first k spans. -/
def allL (F S : Nat → Int) : Nat → List Int
  | 0 => []
  | k + 1 => allL F S k ++ (List.range (cnt (F k) (S k))).map fun j : Nat => F k + (j : Int)
theorem allL_len {F S : Nat → Int} {n : Nat} (h : ∀ i, i < n → rightB (F i) (S i) = true → S i ≤ 200) : ∀ k, k ≤ n → (allL F S k).length ≤ 200 * k
  | 0, _ => by simp [allL]
  | k + 1, hk => by
    have h1 := allL_len h k (by omega)
    have h2 : cnt (F k) (S k) ≤ 200 := by
      unfold cnt
      split
      · have := h k (by omega) (by assumption); omega
      · omega
    simp only [allL, List.length_append, List.length_map, List.length_range]
    omega
theorem ints_snoc (l : List Int) (m : Nat) (f : Int) : ((l ++ (List.range m).map fun j : Nat => f + (j : Int)).map (Value.int .i64)) ++ [.int .i64 (f + (m : Int))] = (l ++ (List.range (m + 1)).map fun j : Nat => f + (j : Int)).map (Value.int .i64) := by
  simp [List.range_succ]
theorem Try.infoInt : (Try.prog.info? 3).map (fun i => (i.zero, i.size, i.bytes)) = some (some (.int .i64 0), 1, 8) := by kernel_rfl

set_option maxHeartbeats 1000000 in
theorem rall_any (a : Option Addr) (n cap : Nat) (F S : Nat → Int) (w : World) (hcap : n ≤ cap) (hn : n ≤ 60) (h : SpansAt w a n F S) (hs : ∀ i, i < n → rightB (F i) (S i) = true → S i ≤ 200) :
    Calls Try.prog 22 #[.slice a n cap] w fun e w' => ∃ v, e = .returned v ∧ w'.ownsRow w.heap.size 3 1 v (allL F S n).length ((allL F S n).map (Value.int .i64)) ∧ Below w.heap.size w w' := by
  obtain ⟨i0, hi, hz0, hz1, hz2⟩ := info_parts Try.infoInt
  have HI := Kp.mk hi
  have HZ0 := Kp.mk hz0
  have HZ1 := Kp.mk hz1
  have HZ2 := Kp.mk hz2
  have HS := Kp.mk hs
  have HH := Kp.mk h
  clear hi hz0 hz1 hz2 hs h
  go_enter Try.func22, Try.ntmps22
  go_wp2_with fail
  go_loopw [3, 4] (fun v i wr => ∃ k : Nat, k ≤ n ∧ i = .int .i64 k ∧ Below w.heap.size w wr ∧ wr.ownsRow w.heap.size 3 1 v (allL F S k).length ((allL F S k).map (Value.int .i64))) (fun v i wr => n - (intOf i).toNat)
  case atStart => exact ⟨0, Nat.zero_le _, rfl, Below.refl _ _, World.ownsRow_nil _ _ _ _⟩
  case round =>
    obtain ⟨k, hk, rfl, hB, hown⟩ := hrel
    obtain ⟨wo, rfl⟩ : ∃ wo : World, wo = wr := ⟨_, rfl⟩
    have HB := Kp.mk hB
    have HO := Kp.mk hown
    clear hB hown
    by_cases hlt : k < n
    · rcases HH.out with h0 | ⟨b, o, rfl, hb, hc⟩
      · omega
      have HC := Kp.mk hc
      clear hc
      go_wp2_with fail
      go_loopw [3, 5] (fun v i wr => ∃ m : Nat, m ≤ cnt (F k) (S k) ∧ i = .int .i64 m ∧ Below w.heap.size w wr ∧ wr.ownsRow w.heap.size 3 1 v ((allL F S k) ++ (List.range m).map fun j : Nat => F k + (j : Int)).length (((allL F S k) ++ (List.range m).map fun j : Nat => F k + (j : Int)).map (Value.int .i64))) (fun v i wr => cnt (F k) (S k) - (intOf i).toNat)
      case atStart => exact ⟨0, Nat.zero_le _, rfl, HB.out, by simpa using HO.out⟩
      case round =>
        obtain ⟨m, hm, rfl, hB2, hown2⟩ := hrel
        have HB2 := Kp.mk hB2
        have HO2 := Kp.mk hown2
        clear hB2 hown2
        have c0 : wr.cell? ⟨b, o + k * 2, none⟩ = some (.int .i64 (F k)) := (HB2.out.cell (p := ⟨b, o + k * 2, none⟩) hb).trans (HC.out k hlt).1
        have c1 : wr.cell? ⟨b, o + k * 2 + 1, none⟩ = some (.int .i64 (S k)) := (HB2.out.cell (p := ⟨b, o + k * 2 + 1, none⟩) hb).trans (HC.out k hlt).2
        have l0 : b < wr.heap.size := Nat.lt_of_lt_of_le hb HB2.out.size
        have hlen := allL_len HS.out k hk
        cases hr : rightB (F k) (S k)
        · have hc0 : cnt (F k) (S k) = 0 := by simp [cnt, hr]
          obtain rfl : m = 0 := by omega
          go_wp2_with (go_at_call 15; refine (rright_any _ _ _ hr _).mono ?_; rintro e w1 ⟨rfl, hb1⟩)
          go_roundw
          case rel => exact ⟨k + 1, by omega, by go_num, below_call HB2.out hb1, own_below (by simpa [allL, hc0] using HO2.out) hb1⟩
          case measure => simp [intOf]; omega
        · have hcS : cnt (F k) (S k) = (S k).toNat := by simp [cnt, hr]
          have hS := HS.out k hlt hr
          obtain ⟨k1, k2, k3, k4⟩ := rightB_true.1 hr
          have hml : ((allL F S k) ++ (List.range m).map fun j : Nat => F k + (j : Int)).length ≤ 12200 := by simp; omega
          by_cases hms : (m : Int) < S k
          · go_wp2_with fail
            refine (rright_any _ _ _ hr _).mono ?_
            rintro e w1 ⟨rfl, hb1⟩
            have HB3 := Kp.mk (below_call HB2.out hb1)
            have hown := own_below HO2.out hb1
            have hq : w.heap.size ≤ w1.heap.size := HB3.out.size
            have d0 : w1.cell? ⟨b, o + k * 2, none⟩ = some (.int .i64 (F k)) := (hb1.cell (p := ⟨b, o + k * 2, none⟩) l0).trans c0
            have d1 : w1.cell? ⟨b, o + k * 2 + 1, none⟩ = some (.int .i64 (S k)) := (hb1.cell (p := ⟨b, o + k * 2 + 1, none⟩) l0).trans c1
            clear c0 c1 hb1
            go_wp2_with (at_builtin; refine wpList_append_own _ rfl _ _ 30 rfl w.heap.size 3 i0 (.int .i64 0) 1 8 Try.underlying30 HI.out HZ0.out HZ1.out HZ2.out rfl (by decide) _ _ _ rfl (hown.alloc _) ⟨w1.heap.size, 0, none⟩ 1 1 [.int .i64 (F k + (m : Int))] rfl rfl (cell_one_new _ _ _) (by simp [Value.oneCell']) (by unfold maxLen; omega) (by omega) (by simp; omega) ?_; intro v' w2 hown' hgrow _)
            have HO3 := Kp.mk hown'
            have HB4 := Kp.mk (below_own (below_al HB3.out _) (Nat.le_refl _) (hown.alloc _) hgrow)
            clear hown hown' hgrow
            go_wp2
            go_roundw
            case rel => exact ⟨m + 1, by omega, by go_num, HB4.out, by
              have hz := HO3.out
              rw [ints_snoc] at hz
              simpa [Nat.add_assoc] using hz⟩
            case measure => simp [intOf]; omega
          · have hmS : m = cnt (F k) (S k) := by omega
            go_wp2_with (go_at_call 15; refine (rright_any _ _ _ hr _).mono ?_; rintro e w1 ⟨rfl, hb1⟩; have d1 : w1.cell? ⟨b, o + k * 2 + 1, none⟩ = some (.int .i64 (S k)) := (hb1.cell (p := ⟨b, o + k * 2 + 1, none⟩) l0).trans c1)
            go_roundw
            case rel => exact ⟨k + 1, by omega, by go_num, below_call HB2.out hb1, own_below (by rw [allL, ← hmS]; exact HO2.out) hb1⟩
            case measure => simp [intOf]; omega
    · obtain rfl : k = n := by omega
      go_wp2
      go_ret
      exact ⟨_, rfl, HO.out, HB.out⟩
end Go.Proofs.Ytimikgencnkcnaa

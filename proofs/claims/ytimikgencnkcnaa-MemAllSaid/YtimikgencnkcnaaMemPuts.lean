/- Rows of pairs of numbers; the reference's Word; what stores leave: plain facts and contracts for layer 2. -/
import Derived.Test.YtimikgencnkcnaaMemLaws
namespace Go.Proofs.Ytimikgencnkcnaa
open Go.RowKit
set_option linter.unusedSimpArgs false
set_option linter.unusedVariables false

/-- A slice of n pairs of numbers. -/
def PairsAt (k1 k2 : IntKind) (w : World) (a : Option Addr) (n : Nat) (F S : Nat → Int) : Prop :=
  n = 0 ∨ ∃ b o, a = some ⟨b, o, none⟩ ∧ b < w.heap.size ∧ ∀ i, i < n → w.cell? ⟨b, o + i * 2, none⟩ = some (.int k1 (F i)) ∧ w.cell? ⟨b, o + i * 2 + 1, none⟩ = some (.int k2 (S i))
theorem PairsAt.below {k1 k2 : IntKind} {w w1 : World} {a : Option Addr} {n : Nat} {F S : Nat → Int} (h : PairsAt k1 k2 w a n F S) (hb : Below w.heap.size w w1) : PairsAt k1 k2 w1 a n F S := by
  rcases h with h | ⟨b, o, rfl, hlt, hc⟩
  · exact .inl h
  · exact .inr ⟨b, o, rfl, Nat.lt_of_lt_of_le hlt hb.size, fun i hi => ⟨(hb.cell (p := ⟨b, _, none⟩) hlt).trans (hc i hi).1, (hb.cell (p := ⟨b, _, none⟩) hlt).trans (hc i hi).2⟩⟩
theorem pairsAt_of {k1 k2 : IntKind} {w : World} {v : Value} (h : RdV w (.slice 2 (.pair 1 (.int k1) (.pair 1 (.int k2) .nil))) v) :
    ∃ a n cap F S, v = .slice a n cap ∧ n ≤ cap ∧ cap ≤ maxLen ∧ PairsAt k1 k2 w a n F S ∧ ∀ i, i < n → (Lit.int k1 (F i)).wf = true ∧ (Lit.int k2 (S i)).wf = true := by
  obtain ⟨a, n, cap, xs, rfl, h2, h3, h4⟩ := rd_slice h
  rcases h4 with h4 | ⟨b, o, rfl, hb, h4⟩
  · exact ⟨a, n, cap, fun _ => 0, fun _ => 0, rfl, h2, h3, .inl h4, fun i hi => by omega⟩
  · obtain ⟨f, hf⟩ := pick_lt (n := n) (p := fun i (p : Int × Int) => xs i = [.int k1 p.1, .int k2 p.2] ∧ (Lit.int k1 p.1).wf = true ∧ (Lit.int k2 p.2).wf = true) fun i hi => by
      obtain ⟨x, y, hx, wx, wy⟩ := rd_two (h4 i hi).2.2
      exact ⟨(x, y), hx, wx, wy⟩
    refine ⟨_, n, cap, fun i => (f i).1, fun i => (f i).2, rfl, h2, h3, .inr ⟨b, o, rfl, hb, fun i hi => ?_⟩, fun i hi => (hf i hi).2⟩
    obtain ⟨_, g, _⟩ := h4 i hi
    have e1 := g 0 (by omega)
    have e2 := g 1 (by omega)
    rw [(hf i hi).1] at e1 e2
    exact ⟨e1, e2⟩

/-- What was stored last at an address, of the first k stores; else 0. -/
def wordAt (X Y : Nat → Int) (at_ : Int) : Nat → Int
  | 0 => 0
  | k + 1 => if X k = at_ then Y k else wordAt X Y at_ k
/-- The words behind the first k stores. -/
def storeL (n : Nat) (X Y : Nat → Int) : Nat → List Int
  | 0 => List.replicate n 0
  | k + 1 => if X k < (n : Int) then (storeL n X Y k).set (X k).toNat (Y k) else storeL n X Y k
theorem storeL_len (n : Nat) (X Y : Nat → Int) : ∀ k, (storeL n X Y k).length = n
  | 0 => by simp [storeL]
  | k + 1 => by
    rw [storeL]
    split
    · rw [List.length_set]; exact storeL_len n X Y k
    · exact storeL_len n X Y k
theorem storeL_at (n : Nat) (X Y : Nat → Int) (i : Nat) (hi : i < n) : ∀ k, (∀ j, j < k → 0 ≤ X j) → (storeL n X Y k)[i]? = some (wordAt X Y i k)
  | 0, _ => by simp [storeL, wordAt, hi]
  | k + 1, h => by
    have ih := storeL_at n X Y i hi k fun j hj => h j (by omega)
    have h0 := h k (by omega)
    rw [storeL, wordAt]
    by_cases he : X k = (i : Int)
    · rw [if_pos he, if_pos (by omega), List.getElem?_set, if_pos (by omega), if_pos (by rw [storeL_len]; omega)]
    · rw [if_neg he]
      split
      · rw [List.getElem?_set, if_neg (by omega)]; exact ih
      · exact ih

set_option maxHeartbeats 1000000 in
theorem rword_any (a : Option Addr) (n cap : Nat) (X Y : Nat → Int) (x : Int) (w : World) (hcap : n ≤ cap) (hcm : cap ≤ 9223372036854775807) (h : PairsAt .u64 .u32 w a n X Y) :
    Calls Try.prog 32 #[.slice a n cap, .int .u64 x] w fun e w' => e = .returned (.int .u32 (wordAt X Y x n)) ∧ w' = w := by
  have HH := Kp.mk h
  clear h
  go_enter Try.func32, Try.ntmps32
  go_wp2_with fail
  go_loopw [5] (fun i wr => ∃ (k : Nat) (q : Int), k ≤ n ∧ i = .int .i64 q ∧ Kp (q = (k : Int) - 1) ∧ wr = w ∧ Kp (wordAt X Y x n = wordAt X Y x k)) (fun i wr => ((intOf i) + 1).toNat)
  case atStart => exact ⟨n, _, Nat.le_refl _, rfl, ⟨rfl⟩, rfl, ⟨rfl⟩⟩
  case round =>
    obtain ⟨k, q, hk, rfl, HQ, rfl, HW⟩ := hrel
    cases k with
    | zero =>
      obtain rfl : q = -1 := by have := HQ.out; omega
      go_wp2
      go_ret
      exact ⟨ret_int (by rw [HW.out]; rfl), rfl⟩
    | succ m =>
      obtain rfl : q = (m : Int) := by have := HQ.out; omega
      rcases HH.out with h0 | ⟨b, o, rfl, hb, hc⟩
      · omega
      have c0 : wr.cell? ⟨b, o + m * 2, none⟩ = some (.int .u64 (X m)) := (hc m (by omega)).1
      have c1 : wr.cell? ⟨b, o + m * 2 + 1, none⟩ = some (.int .u32 (Y m)) := (hc m (by omega)).2
      clear hc
      by_cases he : X m = x
      · have he1 : (X m == x) = true := by simpa using he
        have HE := Kp.mk he
        clear he
        go_wp2
        go_ret
        exact ⟨ret_int (by rw [HW.out, wordAt, if_pos HE.out]), rfl⟩
      · have he1 : (X m == x) = false := by simpa using he
        have HE := Kp.mk he
        clear he
        go_wp2
        go_roundw
        case rel => first | exact ⟨m, _, by omega, rfl, ⟨rfl⟩, rfl, ⟨by rw [HW.out, wordAt, if_neg HE.out]⟩⟩ | exact ⟨m, _, by omega, rfl, ⟨rfl⟩, trivial, ⟨by rw [HW.out, wordAt, if_neg HE.out]⟩⟩
        case measure => first | (simp [intOf]; done) | (simp [intOf]; omega)
end Go.Proofs.Ytimikgencnkcnaa

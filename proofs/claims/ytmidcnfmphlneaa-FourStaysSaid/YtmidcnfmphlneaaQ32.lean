/- The four slots, plain: a reader alone, on any words: what it finds, and that it finds the same again. Nothing of the program. -/
import Derived.Test.YtmidcnfmphlneaaQ21
import Derived.Test.YtmidcnfmphlneaaQ20
namespace Go.Proofs.Ytmidcnfmphlneaa
open Go.RowKit
set_option linter.unusedSimpArgs false
set_option linter.unusedVariables false
def bufA (p : Plc) (ws : List Int) : Int := p.buf (latP p ws) (cur p ws (latP p ws))
def leftA (p : Plc) (ws : List Int) : Nat := (if ldW ws (bufA p ws) ≤ p.words then ldW ws (bufA p ws) else p.words).toNat
def dataA (p : Plc) (ws : List Int) (k : Nat) : List Int := (List.range k).map fun (j : Nat) => ldW ws (bufA p ws + 2 + (j : Int))
def ws1A (p : Plc) (ws : List Int) : List Int := stW ws p.rd (latP p ws)
def codeA (p : Plc) (ws : List Int) : Int := if ldW ws (bufA p ws) = 0 then 1 else 0
def wordsA (p : Plc) (ws : List Int) : List Int := if ldW ws (bufA p ws) = 0 then [] else dataA p ws (leftA p ws)
def validA (p : Plc) (ws : List Int) (now : Int) : Bool := if ldW ws (bufA p ws) = 0 then false else decide (now - ldW ws (bufA p ws + 1) ≤ p.period)
theorem dataA_len (p : Plc) (ws : List Int) (k : Nat) : (dataA p ws k).length = k := by simp [dataA]
theorem dataA_succ (p : Plc) (ws : List Int) (k : Nat) : dataA p ws (k + 1) = dataA p ws k ++ [ldW ws (bufA p ws + 2 + (k : Int))] := by simp [dataA, List.range_succ]
theorem ws1_ld (p : Plc) (ws : List Int) (ok : p.ok ws.length) (a : Int) (h0 : 0 ≤ a) (h1 : a ≠ p.rd) : ldW (ws1A p ws) a = ldW ws a := ld_st _ _ _ _ (by have := ok.src; have := ok.rd; have := ok.words; omega) h0 (Ne.symm h1)
theorem lat_slot (p : Plc) (ws : List Int) (ok : p.ok ws.length) : 0 ≤ p.slot (latP p ws) ∧ p.slot (latP p ws) < p.rd := by
  have h := slot_at p _ (latP_bit p ws)
  have := ok.src; have := ok.rd; have := ok.words
  omega
theorem bufA_at (p : Plc) (ws : List Int) (ok : p.ok ws.length) : 0 ≤ bufA p ws ∧ bufA p ws + 2 + p.words ≤ p.rd := by
  have h := buf_at p _ _ (latP_bit p ws) (cur_bit p ws (latP p ws)) ok.words
  have := ok.src; have := ok.rd
  show 0 ≤ p.buf _ _ ∧ p.buf _ _ + 2 + p.words ≤ p.rd
  omega
theorem ws1_lat (p : Plc) (ws : List Int) (ok : p.ok ws.length) : latP p (ws1A p ws) = latP p ws := by
  have := ok.src; have := ok.rd; have := ok.words
  rw [latP, latP, ws1_ld p ws ok _ (by omega) (by omega)]
theorem ws1_cur (p : Plc) (ws : List Int) (ok : p.ok ws.length) : cur p (ws1A p ws) (latP p ws) = cur p ws (latP p ws) := by
  have h := lat_slot p ws ok
  rw [cur, cur, ws1_ld p ws ok _ (by omega) (by omega)]
theorem ws1_buf (p : Plc) (ws : List Int) (ok : p.ok ws.length) : bufA p (ws1A p ws) = bufA p ws := by rw [bufA, bufA, ws1_lat p ws ok, ws1_cur p ws ok]
theorem ws1_at (p : Plc) (ws : List Int) (ok : p.ok ws.length) (k : Int) (h0 : 0 ≤ k) (h1 : k < 2 + p.words) : ldW (ws1A p ws) (bufA p ws + k) = ldW ws (bufA p ws + k) := by
  have h := bufA_at p ws ok
  exact ws1_ld p ws ok _ (by omega) (by omega)
theorem ws1_zero (p : Plc) (ws : List Int) (ok : p.ok ws.length) : ldW (ws1A p ws) (bufA p ws) = ldW ws (bufA p ws) := by
  have h := ws1_at p ws ok 0 (by omega) (by have := ok.words; omega)
  rwa [Int.add_zero] at h
theorem leftA_le (p : Plc) (ws : List Int) (hw : 1 ≤ p.words) (hws : Words ws) : (leftA p ws : Int) ≤ p.words ∧ (ldW ws (bufA p ws) ≠ 0 → 1 ≤ leftA p ws) := by
  have h := ldW_word hws (bufA p ws)
  rw [leftA]
  split <;> constructor <;> (try intro _) <;> omega
theorem ws1_left (p : Plc) (ws : List Int) (ok : p.ok ws.length) : leftA p (ws1A p ws) = leftA p ws := by rw [leftA, leftA, ws1_buf p ws ok, ws1_zero p ws ok]
theorem ws1_data (p : Plc) (ws : List Int) (ok : p.ok ws.length) (k : Nat) (hk : (k : Int) ≤ p.words) : dataA p (ws1A p ws) k = dataA p ws k := by
  rw [dataA, dataA, ws1_buf p ws ok]
  refine List.map_congr_left fun j hj => ?_
  rw [List.mem_range] at hj
  have h := ws1_at p ws ok (2 + (j : Int)) (by omega) (by omega)
  rw [← Int.add_assoc] at h
  exact h
theorem ws1_found (p : Plc) (ws : List Int) (ok : p.ok ws.length) (hws : Words ws) : codeA p (ws1A p ws) = codeA p ws ∧ wordsA p (ws1A p ws) = wordsA p ws ∧ ∀ now, validA p (ws1A p ws) now = validA p ws now := by
  refine ⟨?_, ?_, fun now => ?_⟩
  · rw [codeA, codeA, ws1_buf p ws ok, ws1_zero p ws ok]
  · rw [wordsA, wordsA, ws1_buf p ws ok, ws1_zero p ws ok, ws1_left p ws ok, ws1_data p ws ok _ (leftA_le p ws ok.words hws).1]
  · rw [validA, validA, ws1_buf p ws ok, ws1_zero p ws ok, ws1_at p ws ok 1 (by omega) (by have := ok.words; omega)]
theorem ws1_ok {p : Plc} {ws : List Int} (ok : p.ok ws.length) : p.ok (ws1A p ws).length := ok_st ok _ _
theorem ws1_words {p : Plc} {ws : List Int} (h : Words ws) : Words (ws1A p ws) := h.st _ _ (bit_word (latP_bit p ws)).1 (bit_word (latP_bit p ws)).2
section
variable (p : Plc) (ws : List Int) (ok : p.ok ws.length)
theorem ra1 : rIt p 1 (ws, rdr0) = (ws, ⟨1, latP p ws, 0, 0, 0, []⟩) := rfl
theorem ra2 : rIt p 2 (ws, rdr0) = (ws1A p ws, ⟨2, latP p ws, 0, 0, 0, []⟩) := rfl
include ok
theorem ra3 : rIt p 3 (ws, rdr0) = (ws1A p ws, ⟨3, latP p ws, cur p ws (latP p ws), 0, 0, []⟩) := by
  rw [rIt, ra2]
  show (ws1A p ws, (⟨3, latP p ws, cur p (ws1A p ws) (latP p ws), 0, 0, []⟩ : Rdr)) = _
  rw [ws1_cur p ws ok]
theorem ra4 (h : ldW ws (bufA p ws) ≠ 0) : rIt p 4 (ws, rdr0) = (ws1A p ws, ⟨4, latP p ws, cur p ws (latP p ws), leftA p ws, 0, []⟩) := by
  rw [rIt, ra3 p ws ok]
  have h1 : ldW (ws1A p ws) (p.buf (latP p ws) (cur p ws (latP p ws))) = ldW ws (bufA p ws) := ws1_zero p ws ok
  have e : rNext p (ws1A p ws) ⟨3, latP p ws, cur p ws (latP p ws), 0, 0, []⟩ = ⟨4, latP p ws, cur p ws (latP p ws), leftA p ws, 0, []⟩ := by
    simp only [rNext, h1, if_neg h, rLeft]
    rfl
  exact Prod.ext rfl e
theorem ra5 (h : ldW ws (bufA p ws) ≠ 0) (hl : 1 ≤ leftA p ws) (hle : (leftA p ws : Int) ≤ p.words) : ∀ j, j < leftA p ws → rIt p (5 + j) (ws, rdr0) = (ws1A p ws, ⟨5, latP p ws, cur p ws (latP p ws), leftA p ws, ldW ws (bufA p ws + 1), dataA p ws j⟩)
  | 0, _ => by
    rw [rIt, ra4 p ws ok h]
    have h1 : ldW (ws1A p ws) (p.buf (latP p ws) (cur p ws (latP p ws)) + 1) = ldW ws (bufA p ws + 1) := ws1_at p ws ok 1 (by omega) (by have := ok.words; omega)
    exact Prod.ext rfl (show (⟨5, _, _, _, ldW (ws1A p ws) (p.buf (latP p ws) (cur p ws (latP p ws)) + 1), []⟩ : Rdr) = _ by rw [h1]; rfl)
  | j + 1, hj => by
    have ih := ra5 h hl hle j (by omega)
    rw [show 5 + (j + 1) = (5 + j) + 1 by omega, rIt, ih]
    have h1 : ldW (ws1A p ws) (p.buf (latP p ws) (cur p ws (latP p ws)) + 2 + ((dataA p ws j).length : Int)) = ldW ws (bufA p ws + 2 + (j : Int)) := by
      rw [dataA_len]
      have h := ws1_at p ws ok (2 + (j : Int)) (by omega) (by omega)
      rw [← Int.add_assoc] at h
      exact h
    have e : rNext p (ws1A p ws) ⟨5, latP p ws, cur p ws (latP p ws), leftA p ws, ldW ws (bufA p ws + 1), dataA p ws j⟩ = ⟨5, latP p ws, cur p ws (latP p ws), leftA p ws, ldW ws (bufA p ws + 1), dataA p ws (j + 1)⟩ := by
      simp only [rNext, h1]
      rw [if_pos (by rw [dataA_len]; omega), dataA_succ]
    exact Prod.ext rfl e
theorem alone_any (hws : Words ws) (h16 : p.words ≤ 16) (now : Int) : ∃ N, N ≤ 20 ∧ (∀ j, j ≤ N → (rIt p j (ws, rdr0)).2.pc ≤ 5 ∧ (rDid p (rIt p j (ws, rdr0)).1 now (rIt p j (ws, rdr0)).2).done = decide (j = N)) ∧
    (∃ bf, rDid p (rIt p N (ws, rdr0)).1 now (rIt p N (ws, rdr0)).2 = { done := true, code := codeA p ws, data := wordsA p ws, valid := validA p ws now, buffer := bf }) ∧ (rIt p (N + 1) (ws, rdr0)).1 = ws1A p ws := by
  obtain ⟨hle, hge⟩ := leftA_le p ws ok.words hws
  have e3 := ra3 p ws ok
  have hz3 : ldW (ws1A p ws) (p.buf (latP p ws) (cur p ws (latP p ws))) = ldW ws (bufA p ws) := ws1_zero p ws ok
  by_cases hz : ldW ws (bufA p ws) = 0
  · refine ⟨3, by omega, fun j hj => ?_, ?_, ?_⟩
    · rcases (by omega : j = 0 ∨ j = 1 ∨ j = 2 ∨ j = 3) with rfl | rfl | rfl | rfl
      · exact ⟨Nat.zero_le _, rfl⟩
      · exact ⟨by rw [ra1]; show 1 ≤ 5; omega, rfl⟩
      · exact ⟨by rw [ra2]; show 2 ≤ 5; omega, rfl⟩
      · rw [e3]
        refine ⟨by show 3 ≤ 5; omega, ?_⟩
        simp only [rDid, hz3, if_pos hz]
        rfl
    · rw [e3]
      refine ⟨1 + (2 * latP p ws + cur p ws (latP p ws)), ?_⟩
      simp only [rDid, hz3, if_pos hz, codeA, wordsA, validA]
    · rw [rIt, e3]; rfl
  · have hl := hge hz
    have e4 := ra4 p ws ok hz
    have e5 := ra5 p ws ok hz hl hle
    have eN : ∀ j, j < leftA p ws → (rDid p (ws1A p ws) now ⟨5, latP p ws, cur p ws (latP p ws), leftA p ws, ldW ws (bufA p ws + 1), dataA p ws j⟩).done = decide (5 + j = 4 + leftA p ws) := fun j hj => by
      simp only [rDid, dataA_len]
      by_cases h : j + 1 < leftA p ws
      · rw [if_pos h]; exact (decide_eq_false (by omega)).symm
      · rw [if_neg h]; exact (decide_eq_true (by omega)).symm
    refine ⟨4 + leftA p ws, by omega, fun j hj => ?_, ?_, ?_⟩
    · rcases (by omega : j = 0 ∨ j = 1 ∨ j = 2 ∨ j = 3 ∨ j = 4 ∨ 5 ≤ j) with rfl | rfl | rfl | rfl | rfl | h5
      · exact ⟨Nat.zero_le _, (decide_eq_false (by omega)).symm⟩
      · exact ⟨by rw [ra1]; show 1 ≤ 5; omega, by rw [ra1]; exact (decide_eq_false (by omega)).symm⟩
      · exact ⟨by rw [ra2]; show 2 ≤ 5; omega, by rw [ra2]; exact (decide_eq_false (by omega)).symm⟩
      · rw [e3]
        refine ⟨by show 3 ≤ 5; omega, ?_⟩
        simp only [rDid, hz3, if_neg hz]
        exact (decide_eq_false (by omega)).symm
      · rw [e4]
        exact ⟨by show 4 ≤ 5; omega, (decide_eq_false (by omega)).symm⟩
      · obtain ⟨i, rfl⟩ : ∃ i, j = 5 + i := ⟨j - 5, by omega⟩
        rw [e5 i (by omega)]
        exact ⟨by show 5 ≤ 5; omega, eN i (by omega)⟩
    · obtain ⟨i, hi⟩ : ∃ i, leftA p ws = i + 1 := ⟨leftA p ws - 1, by omega⟩
      rw [show 4 + leftA p ws = 5 + i by omega, e5 i (by omega)]
      refine ⟨0, ?_⟩
      have h1 : ldW (ws1A p ws) (p.buf (latP p ws) (cur p ws (latP p ws)) + 2 + ((dataA p ws i).length : Int)) = ldW ws (bufA p ws + 2 + (i : Int)) := by
        rw [dataA_len]
        have h := ws1_at p ws ok (2 + (i : Int)) (by omega) (by omega)
        rw [← Int.add_assoc] at h
        exact h
      simp only [rDid, h1, codeA, wordsA, validA, if_neg hz]
      rw [if_neg (by rw [dataA_len]; omega), hi, dataA_succ]
    · obtain ⟨i, hi⟩ : ∃ i, leftA p ws = i + 1 := ⟨leftA p ws - 1, by omega⟩
      rw [rIt, show 4 + leftA p ws = 5 + i by omega, e5 i (by omega)]
      rfl
end
end Go.Proofs.Ytmidcnfmphlneaa

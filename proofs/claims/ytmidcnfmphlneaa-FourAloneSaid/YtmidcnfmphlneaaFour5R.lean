/- Contracts of package four: a step of the reader, whatever comes next. -/
import Derived.Test.YtmidcnfmphlneaaFour5
namespace Go.Proofs.Ytmidcnfmphlneaa
open Go.RowKit
set_option linter.unusedSimpArgs false
set_option linter.unusedVariables false

theorem nil_row (w : World) : RowAt w 1 (.slice none 0 0) 0 (u32s []) := ⟨rfl, .inl ⟨⟨none, 0, rfl, Nat.zero_le _⟩, rfl⟩⟩
set_option maxHeartbeats 2000000 in
theorem rstep_any (p : Plc) (hp : p.low) (R bs B D : Nat) (ws : List Int) (now : Int) (hi : p.In ws.length) (hws : Words ws) (s : Rdr) (hx : bit s.pair) (hy : bit s.index) (hlw : (s.left : Int) ≤ p.words) (hin : s.pc = 5 → s.data.length < s.left) (hst : 0 ≤ s.stamp ∧ s.stamp < 4294967296) (hnow : 0 ≤ now ∧ now ≤ 1099511627776) (hbB : B < bs) (hbD : D < bs) (da : Option Addr) (dc : Nat) (w : World) (hR : RdAt w R bs p s da dc) (hM : MemAt w B D ws) (hgD : ∀ q, (Value.slice da s.data.length dc).ownBlock = some q → q ≠ D) :
    Calls Try.prog 16 #[.pointer (some ⟨R, 0, none⟩), .pointer (some ⟨B, 0, none⟩), .int .i64 now] w fun e w' => ∃ v, e = .returned (.agg (didA (rDid p ws now s) v)) ∧ RowAt w' 1 v (rDid p ws now s).data.length (u32s (rDid p ws now s).data) ∧
      ∃ da' dc', RdAt w' R bs p (rNext p ws s) da' dc' ∧ MemAt w' B D (rMem p ws s) ∧ ButS (R :: D :: (Value.slice da s.data.length dc).ownBlock.toList) w w' ∧ (∀ q, v.ownBlock = some q → (Value.slice da' (rNext p ws s).data.length dc').ownBlock = some q) ∧
        ((Value.slice da' (rNext p ws s).data.length dc').ownBlock = (Value.slice da s.data.length dc).ownBlock ∨ ∀ q, (Value.slice da' (rNext p ws s).data.length dc').ownBlock = some q → w.heap.size < q) := by
  have lR := blk_lt hR.blk
  have lD := blk_lt hM.words
  have hw16 := hp.words
  obtain ⟨pc, pair, index, left, stamp, data⟩ := s
  simp only at hx hy hlw hin hst hgD
  have hown := hR.own
  simp only at hown
  have hfr : w.heap.size ∉ (R :: D :: (Value.slice da data.length dc).ownBlock.toList) := by
    intro hm
    rcases List.mem_cons.1 hm with h | hm
    · omega
    · rcases List.mem_cons.1 hm with h | hm
      · omega
      · have h1 := own_lt hown w.heap.size (by simpa using hm)
        omega
  have hown2 : ∀ {w2 : World}, ButS [R, D] w w2 → w2.ownsRow bs 41 1 (.slice da data.length dc) data.length (u32s data) := fun h => own_but hown h fun q hq => by
    have h1 := (hown.lt q hq).1
    have h2 := hgD q hq
    have h3 := hR.lt
    simp only [List.mem_cons, List.not_mem_nil, or_false, not_or]
    exact ⟨by omega, h2⟩
  have hwide : ∀ {w2 : World}, ButS [R, D] w w2 → ButS (R :: D :: (Value.slice da data.length dc).ownBlock.toList) w w2 := fun h => h.mono fun q hq => by
    simp only [List.mem_cons, List.not_mem_nil, or_false] at hq
    simp only [List.mem_cons]
    rcases hq with h | h
    · exact .inl h
    · exact .inr (.inl h)
  have hfr2 : w.heap.size ∉ [R, D] := by
    simp only [List.mem_cons, List.not_mem_nil, or_false, not_or]
    omega
  have hpc : pc = 0 ∨ pc = 1 ∨ pc = 2 ∨ pc = 3 ∨ pc = 4 ∨ pc = 5 ∨ 6 ≤ pc := by omega
  rcases hpc with rfl | rfl | rfl | rfl | rfl | rfl | h7
  · refine (rStep_gen 25 enters_rlatest R B D p (ws) pair index left stamp da data.length dc (ldW ws p.src % 2) (index) ((left : Int)) (stamp) now (false) (0) (none) (0) (0) (false) (0) (false) (false) (false) (0) 32 w ⟨lR, lD⟩ hR.blk hfr2 (by simp) fun w1 hb => (latest_any p hp R B D ws pair index left stamp da data.length dc _ now hi hws w1 (blk_below hR.blk hb) (hM.below hb)).mono ?_).mono ?_
    · rintro e w2 ⟨he, h2, h3, h4⟩
      exact ⟨he, h2, h3, h4⟩
    · rintro e w2 ⟨rfl, h2, h3, h4⟩
      exact ⟨_, rfl, nil_row _, da, dc, ⟨h2, hown2 h4, hR.lt, Nat.le_trans hR.le h4.size⟩, h3, hwide h4, (fun q hq => by cases hq), .inl rfl⟩
  · refine (rStep_gen 32 enters_rtell R B D p (stW ws p.rd pair) pair index left stamp da data.length dc (pair) (index) ((left : Int)) (stamp) now (false) (0) (none) (0) (0) (false) (0) (false) (false) (false) (0) 41 w ⟨lR, lD⟩ hR.blk hfr2 (by simp) fun w1 hb => (tell_any p hp R B D ws pair index left stamp da data.length dc _ now hi hws hx w1 (blk_below hR.blk hb) (hM.below hb)).mono ?_).mono ?_
    · rintro e w2 ⟨he, h2, h3, h4⟩
      exact ⟨he, h2, h3, h4⟩
    · rintro e w2 ⟨rfl, h2, h3, h4⟩
      exact ⟨_, rfl, nil_row _, da, dc, ⟨h2, hown2 h4, hR.lt, Nat.le_trans hR.le h4.size⟩, h3, hwide h4, (fun q hq => by cases hq), .inl rfl⟩
  · refine (rStep_gen 41 enters_rnewer R B D p (ws) pair index left stamp da data.length dc (pair) (ldW ws (p.slot pair) % 2) ((left : Int)) (stamp) now (false) (0) (none) (0) (0) (false) (0) (false) (false) (false) (0) 52 w ⟨lR, lD⟩ hR.blk hfr2 (by simp) fun w1 hb => (newer_any p hp R B D ws pair index left stamp da data.length dc _ now hi hws hx w1 (blk_below hR.blk hb) (hM.below hb)).mono ?_).mono ?_
    · rintro e w2 ⟨he, h2, h3, h4⟩
      exact ⟨he, h2, h3, h4⟩
    · rintro e w2 ⟨rfl, h2, h3, h4⟩
      exact ⟨_, rfl, nil_row _, da, dc, ⟨h2, hown2 h4, hR.lt, Nat.le_trans hR.le h4.size⟩, h3, hwide h4, (fun q hq => by cases hq), .inl rfl⟩
  · by_cases hz : ldW ws (p.buf pair index) = 0
    · have e1 : rNext p ws ⟨3, pair, index, left, stamp, data⟩ = ⟨6, pair, index, left, stamp, data⟩ := by simp only [rNext, if_pos hz]
      have e2 : rDid p ws now ⟨3, pair, index, left, stamp, data⟩ = { done := true, code := 1, buffer := 1 + (2 * pair + index) } := by simp only [rDid, if_pos hz]
      rw [e1, e2]
      refine (rStep_genN 52 enters_rlength R B D p (ws) pair index left stamp da data.length dc (pair) (index) ((left : Int)) (stamp) now (true) (1) (none) (0) (0) (false) (0) (false) (false) (false) (1 + (2 * pair + index)) w ⟨lR, lD⟩ hR.blk hfr2 (by simp) fun w1 hb => (rlength0_any p hp R B D ws pair index left stamp da data.length dc _ now hi hws hx hy hz w1 (blk_below hR.blk hb) (hM.below hb)).mono ?_).mono ?_
      · rintro e w2 ⟨he, h2, h3, h4⟩
        exact ⟨he, h2, h3, h4⟩
      · rintro e w2 ⟨rfl, h2, h3, h4⟩
        exact ⟨_, rfl, nil_row _, da, dc, ⟨h2, hown2 h4, hR.lt, Nat.le_trans hR.le h4.size⟩, h3, hwide h4, (fun q hq => by cases hq), .inl rfl⟩
    · have hv := ldW_word hws (p.buf pair index)
      have hm : (ldW ws (p.buf pair index) ≤ p.words ∧ ldW ws (p.buf pair index) = rLeft p ws ⟨3, pair, index, left, stamp, data⟩) ∨ (p.words < ldW ws (p.buf pair index) ∧ p.words = rLeft p ws ⟨3, pair, index, left, stamp, data⟩) := by
        by_cases hq : ldW ws (p.buf pair index) ≤ p.words
        · exact .inl ⟨hq, by simp only [rLeft, if_pos hq]⟩
        · exact .inr ⟨by omega, by simp only [rLeft, if_neg hq]⟩
      have hge : ((rLeft p ws ⟨3, pair, index, left, stamp, data⟩).toNat : Int) = rLeft p ws ⟨3, pair, index, left, stamp, data⟩ := by omega
      have e1 : rNext p ws ⟨3, pair, index, left, stamp, data⟩ = ⟨4, pair, index, (rLeft p ws ⟨3, pair, index, left, stamp, data⟩).toNat, stamp, data⟩ := by simp only [rNext, if_neg hz]
      have e2 : rDid p ws now ⟨3, pair, index, left, stamp, data⟩ = { buffer := 1 + (2 * pair + index) } := by simp only [rDid, if_neg hz]
      rw [e1, e2]
      refine (rStep_gen 52 enters_rlength R B D p (ws) pair index left stamp da data.length dc (pair) (index) ((rLeft p ws ⟨3, pair, index, left, stamp, data⟩)) (stamp) now (false) (0) (none) (0) (0) (false) (0) (false) (false) (false) (1 + (2 * pair + index)) 57 w ⟨lR, lD⟩ hR.blk hfr2 (by simp) fun w1 hb => (rlengthN_any p hp R B D ws pair index left stamp da data.length dc _ now hi hws hx hy hz (rLeft p ws ⟨3, pair, index, left, stamp, data⟩) hm w1 (blk_below hR.blk hb) (hM.below hb)).mono ?_).mono ?_
      · rintro e w2 ⟨he, h2, h3, h4⟩
        exact ⟨he, h2, h3, h4⟩
      · rintro e w2 ⟨rfl, h2, h3, h4⟩
        exact ⟨_, rfl, nil_row _, da, dc, ⟨(by rw [hge]; exact h2), hown2 h4, hR.lt, Nat.le_trans hR.le h4.size⟩, h3, hwide h4, (fun q hq => by cases hq), .inl rfl⟩
  · refine (rStep_gen 57 enters_rwhen R B D p (ws) pair index left stamp da data.length dc (pair) (index) ((left : Int)) (ldW ws (p.buf pair index + 1)) now (false) (0) (none) (0) (0) (false) (0) (false) (false) (false) (0) 60 w ⟨lR, lD⟩ hR.blk hfr2 (by simp) fun w1 hb => (when_any p hp R B D ws pair index left stamp da data.length dc _ now hi hws hx hy w1 (blk_below hR.blk hb) (hM.below hb)).mono ?_).mono ?_
    · rintro e w2 ⟨he, h2, h3, h4⟩
      exact ⟨he, h2, h3, h4⟩
    · rintro e w2 ⟨rfl, h2, h3, h4⟩
      exact ⟨_, rfl, nil_row _, da, dc, ⟨h2, hown2 h4, hR.lt, Nat.le_trans hR.le h4.size⟩, h3, hwide h4, (fun q hq => by cases hq), .inl rfl⟩
  · have hin' := hin rfl
    have hdw : (data.length : Int) + 1 ≤ p.words := by omega
    by_cases hl : data.length + 1 < left
    · have e1 : rNext p ws ⟨5, pair, index, left, stamp, data⟩ = ⟨5, pair, index, left, stamp, data ++ [(ldW ws (p.buf pair index + 2 + data.length))]⟩ := by simp only [rNext, if_pos hl]
      have e2 : rDid p ws now ⟨5, pair, index, left, stamp, data⟩ = {} := by simp only [rDid, if_pos hl]
      rw [e1, e2]
      refine (rStep_genE 60 enters_rword R B D p ws pair index left stamp da data.length dc pair index left stamp (fun g _ => some ⟨g, 0, none⟩) (fun _ _ => data.length + 1) (fun _ cap => cap) now false 0 (fun _ _ => none) (fun _ _ => 0) (fun _ _ => 0) false 0 false false false 0 60 w ⟨lR, lD⟩ hR.blk hfr (by simp)
        (fun g cap w2 => w2.ownsRow bs 41 1 (.slice (some ⟨g, 0, none⟩) (data.length + 1) cap) (data.length + 1) (u32s (data ++ [(ldW ws (p.buf pair index + 2 + data.length))])) ∧ ((Value.slice da data.length dc).ownBlock = some g ∨ w.heap.size < g)) ?_ (fun w1 hb => (rwordM_any p hp R B D ws pair index left stamp da data.length dc _ now hi hws hx hy hdw data bs (decide_eq_true (by omega)) w1 (blk_below hR.blk hb) (hM.below hb) (own_below hown hb) hR.lt hbB hbD (Nat.le_trans hR.le hb.size)).mono ?_)).mono ?_
      · rintro g cap w2 w3 ⟨q1, q2⟩ q3
        refine ⟨own_but q1 q3 fun q hq => ?_, q2⟩
        have e5 : g = q := by simpa [Value.ownBlock] using hq
        subst e5
        have h1 := (q1.lt g hq).1
        have h2 := hR.lt
        have h3 : g ≠ w.heap.size := by
          rcases q2 with h | h
          · have := own_lt hown g h; omega
          · omega
        simp only [List.mem_cons, List.not_mem_nil, or_false, not_or]
        exact ⟨by omega, h3⟩
      · rintro e w2 ⟨g, cap, he, h2, h3, h4, h5, h6⟩
        refine ⟨g, cap, he, h2, h3, h4, h5, ?_⟩
        rcases h6 with h | h
        · exact .inl h
        · exact .inr (Nat.lt_of_le_of_lt hb.size h)
      · rintro e w2 ⟨g, cap, rfl, h2, h3, h4, h5, h6⟩
        have hl1 : (data ++ [(ldW ws (p.buf pair index + 2 + data.length))]).length = data.length + 1 := by simp
        refine ⟨_, rfl, nil_row _, some ⟨g, 0, none⟩, cap, ⟨?_, ?_, hR.lt, Nat.le_trans hR.le h4.size⟩, h3, h4, (fun q hq => by cases hq), ?_⟩
        · simp only [hl1]
          exact h2
        · simp only [hl1]
          exact h5
        · rcases h6 with h | h
          · exact .inl h.symm
          · refine .inr fun q hq => ?_
            have e5 : g = q := by simpa [Value.ownBlock] using hq
            omega
    · have e1 : rNext p ws ⟨5, pair, index, left, stamp, data⟩ = ⟨6, pair, index, left, stamp, data ++ [(ldW ws (p.buf pair index + 2 + data.length))]⟩ := by simp only [rNext, if_neg hl]
      have e2 : rDid p ws now ⟨5, pair, index, left, stamp, data⟩ = { done := true, data := data ++ [(ldW ws (p.buf pair index + 2 + data.length))], valid := decide (now - stamp ≤ p.period) } := by simp only [rDid, if_neg hl]
      rw [e1, e2]
      refine (rStep_genEN 60 enters_rword R B D p ws pair index left stamp da data.length dc pair index left stamp (fun g _ => some ⟨g, 0, none⟩) (fun _ _ => data.length + 1) (fun _ cap => cap) now true 0 (fun g _ => some ⟨g, 0, none⟩) (fun _ _ => data.length + 1) (fun _ cap => cap) (decide (now - stamp ≤ p.period)) 0 false false false 0 w ⟨lR, lD⟩ hR.blk hfr (by simp)
        (fun g cap w2 => w2.ownsRow bs 41 1 (.slice (some ⟨g, 0, none⟩) (data.length + 1) cap) (data.length + 1) (u32s (data ++ [(ldW ws (p.buf pair index + 2 + data.length))])) ∧ ((Value.slice da data.length dc).ownBlock = some g ∨ w.heap.size < g)) ?_ (fun w1 hb => (rwordL_any p hp R B D ws pair index left stamp da data.length dc _ now hi hws hx hy hdw data bs (decide_eq_false (by omega)) hst hnow w1 (blk_below hR.blk hb) (hM.below hb) (own_below hown hb) hR.lt hbB hbD (Nat.le_trans hR.le hb.size)).mono ?_)).mono ?_
      · rintro g cap w2 w3 ⟨q1, q2⟩ q3
        refine ⟨own_but q1 q3 fun q hq => ?_, q2⟩
        have e5 : g = q := by simpa [Value.ownBlock] using hq
        subst e5
        have h1 := (q1.lt g hq).1
        have h2 := hR.lt
        have h3 : g ≠ w.heap.size := by
          rcases q2 with h | h
          · have := own_lt hown g h; omega
          · omega
        simp only [List.mem_cons, List.not_mem_nil, or_false, not_or]
        exact ⟨by omega, h3⟩
      · rintro e w2 ⟨g, cap, he, h2, h3, h4, h5, h6⟩
        refine ⟨g, cap, he, h2, h3, h4, h5, ?_⟩
        rcases h6 with h | h
        · exact .inl h
        · exact .inr (Nat.lt_of_le_of_lt hb.size h)
      · rintro e w2 ⟨g, cap, rfl, h2, h3, h4, h5, h6⟩
        have hl1 : (data ++ [(ldW ws (p.buf pair index + 2 + data.length))]).length = data.length + 1 := by simp
        refine ⟨_, rfl, ?_, some ⟨g, 0, none⟩, cap, ⟨?_, ?_, hR.lt, Nat.le_trans hR.le h4.size⟩, h3, h4, (fun q hq => hq), ?_⟩
        · simp only [hl1]
          have h7 := RowAt.of_own h5
          exact h7
        · simp only [hl1]
          exact h2
        · simp only [hl1]
          exact h5
        · rcases h6 with h | h
          · exact .inl h.symm
          · refine .inr fun q hq => ?_
            have e5 : g = q := by simpa [Value.ownBlock] using hq
            omega
  · have e1 : rNext p ws ⟨pc, pair, index, left, stamp, data⟩ = ⟨pc, pair, index, left, stamp, data⟩ := by unfold rNext; split <;> simp_all
    have e2 : rMem p ws ⟨pc, pair, index, left, stamp, data⟩ = ws := by unfold rMem; split <;> simp_all
    have e3 : rDid p ws now ⟨pc, pair, index, left, stamp, data⟩ = {} := by unfold rDid; split <;> simp_all
    have e4 : rNx R pc = .nilFunc := by unfold rNx; split <;> first | omega | rfl
    rw [e1, e2, e3]
    have hb := hR.blk
    simp only [e4] at hb
    refine (rstep_nil R B p _ _ _ _ _ _ _ now w hb).mono ?_
    rintro e w2 ⟨rfl, hb2⟩
    exact ⟨_, rfl, nil_row _, da, dc, hR.but (ButS.of_below (S := []) hb2) (by simp) (by simp), hM.below hb2, ButS.of_below hb2, (fun q hq => by cases hq), .inl rfl⟩
end Go.Proofs.Ytmidcnfmphlneaa

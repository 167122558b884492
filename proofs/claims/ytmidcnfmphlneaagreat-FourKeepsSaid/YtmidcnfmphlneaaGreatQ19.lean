/- Contracts of package four: a step of the reader, whatever comes next.; Contracts of package layout: pieces of a channel's span.; Contracts of package layout: a buffer.; Contracts of package layout: a cell.; Contracts of the layout's reference.; The statements of layer 11: the configuration of two partitions; the same answers; the examples.; A writer and a reader on one memory; the same deeds. -/
import Derived.Test.YtmidcnfmphlneaaGreatQ18
import Derived.Test.YtmidcnfmphlneaaGreatQ10
import Derived.Laws.BitsAllLaws
namespace Go.Proofs.YtmidcnfmphlneaaGreat
section
open Go.RowKit
set_option linter.unusedSimpArgs false
set_option linter.unusedVariables false
theorem nil_row (w : World) : RowAt w 1 (.slice none 0 0) 0 (u32s []) := ⟨rfl, .inl ⟨⟨none, 0, rfl, Nat.zero_le _⟩, rfl⟩⟩
set_option maxHeartbeats 2000000 in
theorem rstep_any (p : Plc) (hp : p.low) (R bs B D : Nat) (ws : List Int) (now : Int) (hi : p.In ws.length) (hws : Words ws) (s : Rdr) (hx : bit s.pair) (hy : bit s.index) (hlw : (s.left : Int) ≤ p.words) (hin : s.pc = 5 → s.data.length < s.left) (hst : 0 ≤ s.stamp ∧ s.stamp < 4294967296) (hnow : 0 ≤ now ∧ now ≤ 1099511627776) (hbB : B < bs) (hbD : D < bs) (da : Option Addr) (dc : Nat) (w : World) (hR : RdAt w R bs p s da dc) (hM : MemAt w B D ws) (hgD : ∀ q, (Value.slice da s.data.length dc).ownBlock = some q → q ≠ D) :
    Calls Tryz.prog 27 #[.pointer (some ⟨R, 0, none⟩), .pointer (some ⟨B, 0, none⟩), .int .i64 now] w fun e w' => ∃ v, e = .returned (.agg (didA (rDid p ws now s) v)) ∧ RowAt w' 1 v (rDid p ws now s).data.length (u32s (rDid p ws now s).data) ∧
      ∃ da' dc', RdAt w' R bs p (rNext p ws s) da' dc' ∧ MemAt w' B D (rMem p ws s) ∧ ButS (R :: D :: (Value.slice da s.data.length dc).ownBlock.toList) w w' ∧ (∀ q, v.ownBlock = some q → (Value.slice da' (rNext p ws s).data.length dc').ownBlock = some q) ∧
        ((Value.slice da' (rNext p ws s).data.length dc').ownBlock = (Value.slice da s.data.length dc).ownBlock ∨ ∀ q, (Value.slice da' (rNext p ws s).data.length dc').ownBlock = some q → w.heap.size < q) := by
  have lR := blk_lt hR.blk
  have lD := blk_lt hM.words
  have hw16 := hp.words
  obtain ⟨pc, pair, index, left, stamp, data⟩ := s
  simp only at hx hy hlw hin hst hgD
  have hown := hR.own
  simp only at hown
  have hfr : w.heap.size ∉ (R :: D :: (Value.slice da data.length dc).ownBlock.toList) := by
    intro hm
    rcases List.mem_cons.1 hm with h | hm
    · omega
    · rcases List.mem_cons.1 hm with h | hm
      · omega
      · have h1 := own_lt hown w.heap.size (by simpa using hm)
        omega
  have hown2 : ∀ {w2 : World}, ButS [R, D] w w2 → w2.ownsRow bs 41 1 (.slice da data.length dc) data.length (u32s data) := fun h => own_but hown h fun q hq => by
    have h1 := (hown.lt q hq).1
    have h2 := hgD q hq
    have h3 := hR.lt
    simp only [List.mem_cons, List.not_mem_nil, or_false, not_or]
    exact ⟨by omega, h2⟩
  have hwide : ∀ {w2 : World}, ButS [R, D] w w2 → ButS (R :: D :: (Value.slice da data.length dc).ownBlock.toList) w w2 := fun h => h.mono fun q hq => by
    simp only [List.mem_cons, List.not_mem_nil, or_false] at hq
    simp only [List.mem_cons]
    rcases hq with h | h
    · exact .inl h
    · exact .inr (.inl h)
  have hfr2 : w.heap.size ∉ [R, D] := by
    simp only [List.mem_cons, List.not_mem_nil, or_false, not_or]
    omega
  have hpc : pc = 0 ∨ pc = 1 ∨ pc = 2 ∨ pc = 3 ∨ pc = 4 ∨ pc = 5 ∨ 6 ≤ pc := by omega
  rcases hpc with rfl | rfl | rfl | rfl | rfl | rfl | h7
  · refine (rStep_gen 54 enters_rlatest R B D p (ws) pair index left stamp da data.length dc (ldW ws p.src % 2) (index) ((left : Int)) (stamp) now (false) (0) (none) (0) (0) (false) (0) (false) (false) (false) (0) 85 w ⟨lR, lD⟩ hR.blk hfr2 (by simp) fun w1 hb => (latest_any p hp R B D ws pair index left stamp da data.length dc _ now hi hws w1 (blk_below hR.blk hb) (hM.below hb)).mono ?_).mono ?_
    · rintro e w2 ⟨he, h2, h3, h4⟩
      exact ⟨he, h2, h3, h4⟩
    · rintro e w2 ⟨rfl, h2, h3, h4⟩
      exact ⟨_, rfl, nil_row _, da, dc, ⟨h2, hown2 h4, hR.lt, Nat.le_trans hR.le h4.size⟩, h3, hwide h4, (fun q hq => by cases hq), .inl rfl⟩
  · refine (rStep_gen 85 enters_rtell R B D p (stW ws p.rd pair) pair index left stamp da data.length dc (pair) (index) ((left : Int)) (stamp) now (false) (0) (none) (0) (0) (false) (0) (false) (false) (false) (0) 101 w ⟨lR, lD⟩ hR.blk hfr2 (by simp) fun w1 hb => (tell_any p hp R B D ws pair index left stamp da data.length dc _ now hi hws hx w1 (blk_below hR.blk hb) (hM.below hb)).mono ?_).mono ?_
    · rintro e w2 ⟨he, h2, h3, h4⟩
      exact ⟨he, h2, h3, h4⟩
    · rintro e w2 ⟨rfl, h2, h3, h4⟩
      exact ⟨_, rfl, nil_row _, da, dc, ⟨h2, hown2 h4, hR.lt, Nat.le_trans hR.le h4.size⟩, h3, hwide h4, (fun q hq => by cases hq), .inl rfl⟩
  · refine (rStep_gen 101 enters_rnewer R B D p (ws) pair index left stamp da data.length dc (pair) (ldW ws (p.slot pair) % 2) ((left : Int)) (stamp) now (false) (0) (none) (0) (0) (false) (0) (false) (false) (false) (0) 110 w ⟨lR, lD⟩ hR.blk hfr2 (by simp) fun w1 hb => (newer_any p hp R B D ws pair index left stamp da data.length dc _ now hi hws hx w1 (blk_below hR.blk hb) (hM.below hb)).mono ?_).mono ?_
    · rintro e w2 ⟨he, h2, h3, h4⟩
      exact ⟨he, h2, h3, h4⟩
    · rintro e w2 ⟨rfl, h2, h3, h4⟩
      exact ⟨_, rfl, nil_row _, da, dc, ⟨h2, hown2 h4, hR.lt, Nat.le_trans hR.le h4.size⟩, h3, hwide h4, (fun q hq => by cases hq), .inl rfl⟩
  · by_cases hz : ldW ws (p.buf pair index) = 0
    · have e1 : rNext p ws ⟨3, pair, index, left, stamp, data⟩ = ⟨6, pair, index, left, stamp, data⟩ := by simp only [rNext, if_pos hz]
      have e2 : rDid p ws now ⟨3, pair, index, left, stamp, data⟩ = { done := true, code := 1, buffer := 1 + (2 * pair + index) } := by simp only [rDid, if_pos hz]
      rw [e1, e2]
      refine (rStep_genN 110 enters_rlength R B D p (ws) pair index left stamp da data.length dc (pair) (index) ((left : Int)) (stamp) now (true) (1) (none) (0) (0) (false) (0) (false) (false) (false) (1 + (2 * pair + index)) w ⟨lR, lD⟩ hR.blk hfr2 (by simp) fun w1 hb => (rlength0_any p hp R B D ws pair index left stamp da data.length dc _ now hi hws hx hy hz w1 (blk_below hR.blk hb) (hM.below hb)).mono ?_).mono ?_
      · rintro e w2 ⟨he, h2, h3, h4⟩
        exact ⟨he, h2, h3, h4⟩
      · rintro e w2 ⟨rfl, h2, h3, h4⟩
        exact ⟨_, rfl, nil_row _, da, dc, ⟨h2, hown2 h4, hR.lt, Nat.le_trans hR.le h4.size⟩, h3, hwide h4, (fun q hq => by cases hq), .inl rfl⟩
    · have hv := ldW_word hws (p.buf pair index)
      have hm : (ldW ws (p.buf pair index) ≤ p.words ∧ ldW ws (p.buf pair index) = rLeft p ws ⟨3, pair, index, left, stamp, data⟩) ∨ (p.words < ldW ws (p.buf pair index) ∧ p.words = rLeft p ws ⟨3, pair, index, left, stamp, data⟩) := by
        by_cases hq : ldW ws (p.buf pair index) ≤ p.words
        · exact .inl ⟨hq, by simp only [rLeft, if_pos hq]⟩
        · exact .inr ⟨by omega, by simp only [rLeft, if_neg hq]⟩
      have hge : ((rLeft p ws ⟨3, pair, index, left, stamp, data⟩).toNat : Int) = rLeft p ws ⟨3, pair, index, left, stamp, data⟩ := by omega
      have e1 : rNext p ws ⟨3, pair, index, left, stamp, data⟩ = ⟨4, pair, index, (rLeft p ws ⟨3, pair, index, left, stamp, data⟩).toNat, stamp, data⟩ := by simp only [rNext, if_neg hz]
      have e2 : rDid p ws now ⟨3, pair, index, left, stamp, data⟩ = { buffer := 1 + (2 * pair + index) } := by simp only [rDid, if_neg hz]
      rw [e1, e2]
      refine (rStep_gen 110 enters_rlength R B D p (ws) pair index left stamp da data.length dc (pair) (index) ((rLeft p ws ⟨3, pair, index, left, stamp, data⟩)) (stamp) now (false) (0) (none) (0) (0) (false) (0) (false) (false) (false) (1 + (2 * pair + index)) 113 w ⟨lR, lD⟩ hR.blk hfr2 (by simp) fun w1 hb => (rlengthN_any p hp R B D ws pair index left stamp da data.length dc _ now hi hws hx hy hz (rLeft p ws ⟨3, pair, index, left, stamp, data⟩) hm w1 (blk_below hR.blk hb) (hM.below hb)).mono ?_).mono ?_
      · rintro e w2 ⟨he, h2, h3, h4⟩
        exact ⟨he, h2, h3, h4⟩
      · rintro e w2 ⟨rfl, h2, h3, h4⟩
        exact ⟨_, rfl, nil_row _, da, dc, ⟨(by rw [hge]; exact h2), hown2 h4, hR.lt, Nat.le_trans hR.le h4.size⟩, h3, hwide h4, (fun q hq => by cases hq), .inl rfl⟩
  · refine (rStep_gen 113 enters_rwhen R B D p (ws) pair index left stamp da data.length dc (pair) (index) ((left : Int)) (ldW ws (p.buf pair index + 1)) now (false) (0) (none) (0) (0) (false) (0) (false) (false) (false) (0) 116 w ⟨lR, lD⟩ hR.blk hfr2 (by simp) fun w1 hb => (when_any p hp R B D ws pair index left stamp da data.length dc _ now hi hws hx hy w1 (blk_below hR.blk hb) (hM.below hb)).mono ?_).mono ?_
    · rintro e w2 ⟨he, h2, h3, h4⟩
      exact ⟨he, h2, h3, h4⟩
    · rintro e w2 ⟨rfl, h2, h3, h4⟩
      exact ⟨_, rfl, nil_row _, da, dc, ⟨h2, hown2 h4, hR.lt, Nat.le_trans hR.le h4.size⟩, h3, hwide h4, (fun q hq => by cases hq), .inl rfl⟩
  · have hin' := hin rfl
    have hdw : (data.length : Int) + 1 ≤ p.words := by omega
    by_cases hl : data.length + 1 < left
    · have e1 : rNext p ws ⟨5, pair, index, left, stamp, data⟩ = ⟨5, pair, index, left, stamp, data ++ [(ldW ws (p.buf pair index + 2 + data.length))]⟩ := by simp only [rNext, if_pos hl]
      have e2 : rDid p ws now ⟨5, pair, index, left, stamp, data⟩ = {} := by simp only [rDid, if_pos hl]
      rw [e1, e2]
      refine (rStep_genE 116 enters_rword R B D p ws pair index left stamp da data.length dc pair index left stamp (fun g _ => some ⟨g, 0, none⟩) (fun _ _ => data.length + 1) (fun _ cap => cap) now false 0 (fun _ _ => none) (fun _ _ => 0) (fun _ _ => 0) false 0 false false false 0 116 w ⟨lR, lD⟩ hR.blk hfr (by simp)
        (fun g cap w2 => w2.ownsRow bs 41 1 (.slice (some ⟨g, 0, none⟩) (data.length + 1) cap) (data.length + 1) (u32s (data ++ [(ldW ws (p.buf pair index + 2 + data.length))])) ∧ ((Value.slice da data.length dc).ownBlock = some g ∨ w.heap.size < g)) ?_ (fun w1 hb => (rwordM_any p hp R B D ws pair index left stamp da data.length dc _ now hi hws hx hy hdw data bs (decide_eq_true (by omega)) w1 (blk_below hR.blk hb) (hM.below hb) (own_below hown hb) hR.lt hbB hbD (Nat.le_trans hR.le hb.size)).mono ?_)).mono ?_
      · rintro g cap w2 w3 ⟨q1, q2⟩ q3
        refine ⟨own_but q1 q3 fun q hq => ?_, q2⟩
        have e5 : g = q := by simpa [Value.ownBlock] using hq
        subst e5
        have h1 := (q1.lt g hq).1
        have h2 := hR.lt
        have h3 : g ≠ w.heap.size := by
          rcases q2 with h | h
          · have := own_lt hown g h; omega
          · omega
        simp only [List.mem_cons, List.not_mem_nil, or_false, not_or]
        exact ⟨by omega, h3⟩
      · rintro e w2 ⟨g, cap, he, h2, h3, h4, h5, h6⟩
        refine ⟨g, cap, he, h2, h3, h4, h5, ?_⟩
        rcases h6 with h | h
        · exact .inl h
        · exact .inr (Nat.lt_of_le_of_lt hb.size h)
      · rintro e w2 ⟨g, cap, rfl, h2, h3, h4, h5, h6⟩
        have hl1 : (data ++ [(ldW ws (p.buf pair index + 2 + data.length))]).length = data.length + 1 := by simp
        refine ⟨_, rfl, nil_row _, some ⟨g, 0, none⟩, cap, ⟨?_, ?_, hR.lt, Nat.le_trans hR.le h4.size⟩, h3, h4, (fun q hq => by cases hq), ?_⟩
        · simp only [hl1]
          exact h2
        · simp only [hl1]
          exact h5
        · rcases h6 with h | h
          · exact .inl h.symm
          · refine .inr fun q hq => ?_
            have e5 : g = q := by simpa [Value.ownBlock] using hq
            omega
    · have e1 : rNext p ws ⟨5, pair, index, left, stamp, data⟩ = ⟨6, pair, index, left, stamp, data ++ [(ldW ws (p.buf pair index + 2 + data.length))]⟩ := by simp only [rNext, if_neg hl]
      have e2 : rDid p ws now ⟨5, pair, index, left, stamp, data⟩ = { done := true, data := data ++ [(ldW ws (p.buf pair index + 2 + data.length))], valid := decide (now - stamp ≤ p.period) } := by simp only [rDid, if_neg hl]
      rw [e1, e2]
      refine (rStep_genEN 116 enters_rword R B D p ws pair index left stamp da data.length dc pair index left stamp (fun g _ => some ⟨g, 0, none⟩) (fun _ _ => data.length + 1) (fun _ cap => cap) now true 0 (fun g _ => some ⟨g, 0, none⟩) (fun _ _ => data.length + 1) (fun _ cap => cap) (decide (now - stamp ≤ p.period)) 0 false false false 0 w ⟨lR, lD⟩ hR.blk hfr (by simp)
        (fun g cap w2 => w2.ownsRow bs 41 1 (.slice (some ⟨g, 0, none⟩) (data.length + 1) cap) (data.length + 1) (u32s (data ++ [(ldW ws (p.buf pair index + 2 + data.length))])) ∧ ((Value.slice da data.length dc).ownBlock = some g ∨ w.heap.size < g)) ?_ (fun w1 hb => (rwordL_any p hp R B D ws pair index left stamp da data.length dc _ now hi hws hx hy hdw data bs (decide_eq_false (by omega)) hst hnow w1 (blk_below hR.blk hb) (hM.below hb) (own_below hown hb) hR.lt hbB hbD (Nat.le_trans hR.le hb.size)).mono ?_)).mono ?_
      · rintro g cap w2 w3 ⟨q1, q2⟩ q3
        refine ⟨own_but q1 q3 fun q hq => ?_, q2⟩
        have e5 : g = q := by simpa [Value.ownBlock] using hq
        subst e5
        have h1 := (q1.lt g hq).1
        have h2 := hR.lt
        have h3 : g ≠ w.heap.size := by
          rcases q2 with h | h
          · have := own_lt hown g h; omega
          · omega
        simp only [List.mem_cons, List.not_mem_nil, or_false, not_or]
        exact ⟨by omega, h3⟩
      · rintro e w2 ⟨g, cap, he, h2, h3, h4, h5, h6⟩
        refine ⟨g, cap, he, h2, h3, h4, h5, ?_⟩
        rcases h6 with h | h
        · exact .inl h
        · exact .inr (Nat.lt_of_le_of_lt hb.size h)
      · rintro e w2 ⟨g, cap, rfl, h2, h3, h4, h5, h6⟩
        have hl1 : (data ++ [(ldW ws (p.buf pair index + 2 + data.length))]).length = data.length + 1 := by simp
        refine ⟨_, rfl, ?_, some ⟨g, 0, none⟩, cap, ⟨?_, ?_, hR.lt, Nat.le_trans hR.le h4.size⟩, h3, h4, (fun q hq => hq), ?_⟩
        · simp only [hl1]
          have h7 := RowAt.of_own h5
          exact h7
        · simp only [hl1]
          exact h2
        · simp only [hl1]
          exact h5
        · rcases h6 with h | h
          · exact .inl h.symm
          · refine .inr fun q hq => ?_
            have e5 : g = q := by simpa [Value.ownBlock] using hq
            omega
  · have e1 : rNext p ws ⟨pc, pair, index, left, stamp, data⟩ = ⟨pc, pair, index, left, stamp, data⟩ := by unfold rNext; split <;> simp_all
    have e2 : rMem p ws ⟨pc, pair, index, left, stamp, data⟩ = ws := by unfold rMem; split <;> simp_all
    have e3 : rDid p ws now ⟨pc, pair, index, left, stamp, data⟩ = {} := by unfold rDid; split <;> simp_all
    have e4 : rNx R pc = .nilFunc := by unfold rNx; split <;> first | omega | rfl
    rw [e1, e2, e3]
    have hb := hR.blk
    simp only [e4] at hb
    refine (rstep_nil R B p _ _ _ _ _ _ _ now w hb).mono ?_
    rintro e w2 ⟨rfl, hb2⟩
    exact ⟨_, rfl, nil_row _, da, dc, hR.but (ButS.of_below (S := []) hb2) (by simp) (by simp), hM.below hb2, ButS.of_below hb2, (fun q hq => by cases hq), .inl rfl⟩
end
section
open Go.RowKit
set_option linter.unusedSimpArgs false
set_option linter.unusedVariables false
end
section
open Go.RowKit
set_option linter.unusedSimpArgs false
set_option linter.unusedVariables false
end
section
open Go.RowKit
set_option linter.unusedSimpArgs false
set_option linter.unusedVariables false
end
section
open Go.RowKit
set_option linter.unusedSimpArgs false
set_option linter.unusedVariables false
set_option maxHeartbeats 400000 in
theorem rsource_any (x : Chn) (h1 : 1 ≤ x.words) (h2 : x.words ≤ 16) (h3 : 0 ≤ x.depth) (h4 : x.depth ≤ 8) (w : World) : Calls Tryz.prog 77 #[.agg #[.int .i64 x.kind, .int .i64 x.frm, .int .i64 x.to, .int .i64 x.words, .int .i64 x.depth, .int .i64 x.period, .int .u32 x.boot]] w fun e w' => e = .returned (.int .i64 (sizedC x)) ∧ Below w.heap.size w w' := by
  obtain ⟨kd, fr, to, wd, dp, pe, bo⟩ := x
  dsimp only at h1 h2 h3 h4
  by_cases hk : kd = 1
  · have HS : Kp (sizedC ⟨kd, fr, to, wd, dp, pe, bo⟩ = 3 + 4 * (2 + wd)) := ⟨if_pos hk⟩
    have s2 : IntKind.i64.wrap (4 * wd) = 4 * wd := IntWalk.i64_in _ (by omega)
    have s3 : IntKind.i64.wrap (11 + 4 * wd) = 11 + 4 * wd := IntWalk.i64_in _ (by omega)
    subst hk
    go_enter Tryz.func77, Tryz.ntmps77
    go_wp2
    go_ret
    exact ⟨ret_int (by rw [HS.out]; omega), (by repeat (first | exact Below.refl _ _ | apply below_al))⟩
  · have HS : Kp (sizedC ⟨kd, fr, to, wd, dp, pe, bo⟩ = 1 + dp * (1 + wd)) := ⟨if_neg hk⟩
    have hk' : (kd == 1) = false := by simpa using hk
    obtain ⟨m, hm⟩ : ∃ m, dp * wd = m := ⟨_, rfl⟩
    have hm1 : 0 ≤ m := hm ▸ Int.mul_nonneg h3 (by omega)
    have hm2 : m ≤ 8 * 16 := hm ▸ Int.mul_le_mul h4 (by omega) (by omega) (by omega)
    have HS2 : Kp (sizedC ⟨kd, fr, to, wd, dp, pe, bo⟩ = 1 + dp + m) := ⟨by rw [HS.out, Int.mul_add, hm]; omega⟩
    have s1 : IntKind.i64.wrap (1 + dp) = 1 + dp := IntWalk.i64_in _ (by omega)
    have s2 : IntKind.i64.wrap (dp * wd) = m := by rw [hm]; exact IntWalk.i64_in _ (by omega)
    have s3 : IntKind.i64.wrap (1 + dp + m) = 1 + dp + m := IntWalk.i64_in _ (by omega)
    clear hm
    go_enter Tryz.func77, Tryz.ntmps77
    go_wp2
    go_ret
    exact ⟨ret_int HS2.out.symm, (by repeat (first | exact Below.refl _ _ | apply below_al))⟩
set_option maxRecDepth 100000 in
set_option maxHeartbeats 4000000 in
theorem rbefore_any (cv : Value) (C : Cfg) (hsm : C.small) (ha : accB C = true) (k : Nat) (hk : k ≤ C.chans.length) (w : World) (h : CfgAt w cv C) : Calls Tryz.prog 43 #[cv, .int .i64 k] w fun e w' => e = .returned (.int .i64 (befC C k)) ∧ Below w.heap.size w w' := by
  have hs1 := hsm.1
  have hs2 := hsm.2.1
  obtain ⟨ho, pa, pc, ca, cc, a0, c0, a1, c1, rfl, bp, bc, b0, b1, hp, hc, hw0, hw1⟩ := h
  have HP := Kp.mk hp
  have HCH := Kp.mk hc
  clear hp hc hw0 hw1 ho
  go_enter Tryz.func43, Tryz.ntmps43
  go_wp2_with fail
  go_loopw [5, 6] (fun n i wr => ∃ j : Nat, j ≤ C.parts.length ∧ i = .int .i64 j ∧ n = .int .i64 (privS C j) ∧ Kp (Below w.heap.size w wr) ∧ Kp (wr.heap[w.heap.size]? = some (.cells #[.slice pa C.parts.length pc, .slice ca C.chans.length cc, .int .i64 C.l0, .slice a0 C.w0.length c0, .int .i64 C.l1, .slice a1 C.w1.length c1] 31 (0, 0)))) (fun n i wr => C.parts.length - (intOf i).toNat)
  case atStart => exact ⟨0, Nat.zero_le _, rfl, rfl, ⟨below_al (Below.refl _ _) _⟩, ⟨blk_new w _⟩⟩
  case round =>
    obtain ⟨j, hj, rfl, rfl, HB, HK⟩ := hrel
    have q0 := cbk HK.out 0 (.slice pa C.parts.length pc) rfl
    have q1 := cbk HK.out 1 (.slice ca C.chans.length cc) rfl
    have lq := blk_lt HK.out
    by_cases hlt : j < C.parts.length
    · have HNS := Kp.mk (privS_succ C j hlt)
      have hps := privS_small ha j
      have hps2 := part_small ha j hlt
      obtain ⟨g, o, ha', hg, hcc⟩ := HP.out.at (by omega)
      obtain ⟨x, hx⟩ : ∃ x, C.parts[j] = x := ⟨_, rfl⟩
      have e1 : wr.cell? ⟨g, o + j * 2 + 1, none⟩ = some (.int .i64 x.2) := by
        have h1 := hcc (j * 2 + 1) (by omega)
        rw [flat_at partC 2 partC_len C.parts j 1 (by omega) (by omega), hx] at h1
        exact (HB.out.cell (p := ⟨g, o + (j * 2 + 1), none⟩) hg).trans h1
      subst ha'
      rw [hx] at HNS hps2
      obtain ⟨ps, hps'⟩ : ∃ ps, privS C j = ps := ⟨_, rfl⟩
      rw [hps'] at hps ⊢
      have HPS := Kp.mk hps'
      have hgr : g < wr.heap.size := Nat.lt_of_lt_of_le hg HB.out.size
      clear hcc hx hps'
      go_wp2
      go_roundw
      case rel => exact ⟨j + 1, by omega, by go_num, by rw [HNS.out, HPS.out], HB, HK⟩
      case measure => simp [intOf]; omega
    · obtain rfl : j = C.parts.length := by omega
      obtain ⟨wo, rfl⟩ : ∃ wo : World, wo = wr := ⟨_, rfl⟩
      have hzero : befC C 0 = privS C C.parts.length := by simp [befC]
      rw [← hzero]
      clear hzero
      go_wp2_with fail
      go_loopw [5, 7] (fun n i wr => ∃ m : Nat, m ≤ k ∧ i = .int .i64 m ∧ n = .int .i64 (befC C m) ∧ Kp (Below w.heap.size w wr) ∧ Kp (wr.heap[w.heap.size]? = some (.cells #[.slice pa C.parts.length pc, .slice ca C.chans.length cc, .int .i64 C.l0, .slice a0 C.w0.length c0, .int .i64 C.l1, .slice a1 C.w1.length c1] 31 (0, 0)))) (fun n i wr => k - (intOf i).toNat)
      case atStart => exact ⟨0, Nat.zero_le _, rfl, rfl, HB, HK⟩
      case round =>
        clear HB HK q0 q1 lq
        obtain ⟨m, hm, rfl, rfl, HB, HK⟩ := hrel
        have q0 := cbk HK.out 0 (.slice pa C.parts.length pc) rfl
        have q1 := cbk HK.out 1 (.slice ca C.chans.length cc) rfl
        have lq := blk_lt HK.out
        by_cases hlt2 : m < k
        · have hml : m < C.chans.length := by omega
          have HNS := Kp.mk (befC_succ C m hml)
          have hps := befC_small ha m
          have hcs := chn_small ha (List.getElem_mem hml)
          obtain ⟨g, o, ha', hg, hcc⟩ := HCH.out.at (by omega)
          obtain ⟨x, hx⟩ : ∃ x, C.chans[m] = x := ⟨_, rfl⟩
          have hcu : ∀ j, j < 7 → wr.cell? ⟨g, o + m * 7 + j, none⟩ = (chanC x)[j]? := fun j hj => by
            have h1 := hcc (m * 7 + j) (by omega)
            rw [flat_at chanC 7 chanC_len C.chans m j hml hj, hx] at h1
            rw [Nat.add_assoc]
            exact (HB.out.cell (p := ⟨g, o + (m * 7 + j), none⟩) hg).trans h1
          have e0 : wr.cell? ⟨g, o + m * 7, none⟩ = some (.int .i64 x.kind) := hcu 0 (by omega)
          have e1 : wr.cell? ⟨g, o + m * 7 + 1, none⟩ = some (.int .i64 x.frm) := hcu 1 (by omega)
          have e2 : wr.cell? ⟨g, o + m * 7 + 2, none⟩ = some (.int .i64 x.to) := hcu 2 (by omega)
          have e3 : wr.cell? ⟨g, o + m * 7 + 3, none⟩ = some (.int .i64 x.words) := hcu 3 (by omega)
          have e4 : wr.cell? ⟨g, o + m * 7 + 4, none⟩ = some (.int .i64 x.depth) := hcu 4 (by omega)
          have e5 : wr.cell? ⟨g, o + m * 7 + 5, none⟩ = some (.int .i64 x.period) := hcu 5 (by omega)
          have e6 : wr.cell? ⟨g, o + m * 7 + 6, none⟩ = some (.int .u32 x.boot) := hcu 6 (by omega)
          rw [hx] at HNS hcs
          subst ha'
          obtain ⟨ps, hps'⟩ : ∃ ps, befC C m = ps := ⟨_, rfl⟩
          rw [hps'] at hps ⊢
          have HPS := Kp.mk hps'
          have hgr : g < wr.heap.size := Nat.lt_of_lt_of_le hg HB.out.size
          have hm0 : (0 : Int) ≤ (m : Int) := by omega
          have hm1 : (m : Int) < (C.chans.length : Int) := by omega
          clear hcc hcu hx hps'
          go_wp2_with fail
          refine (rsource_any x (by omega) (by omega) (by omega) (by omega) _).mono ?_
          rintro e w3 ⟨rfl, hb3⟩
          have HB3 := Kp.mk (below_call HB.out hb3)
          have HK3 := Kp.mk (blk_below HK.out hb3)
          clear hb3 HB HK q0 q1 lq e0 e1 e2 e3 e4 e5 e6
          obtain ⟨sz, hszd⟩ : ∃ sz, sizedC x = sz := ⟨_, rfl⟩
          rw [hszd] at HNS hcs ⊢
          clear hszd
          go_wp2
          go_roundw
          case rel => exact ⟨m + 1, by omega, by go_num, by rw [HNS.out, HPS.out]; congr 1; omega, HB3, HK3⟩
          case measure => simp [intOf]; omega
        · obtain rfl : m = k := by omega
          go_wp2
          go_ret
          exact ⟨rfl, HB.out⟩
set_option maxRecDepth 100000 in
set_option maxHeartbeats 4000000 in
theorem rsize_yes (cv : Value) (C : Cfg) (hsm : C.small) (ha : accB C = true) (w : World) (h : CfgAt w cv C) : Calls Tryz.prog 14 #[cv] w fun e w' => e = .returned (.int .i64 (planE C)) ∧ Below w.heap.size w w' := by
  have HC := Kp.mk h
  have HE := Kp.mk (planE_acc C ha)
  obtain ⟨ho, pa, pc, ca, cc, a0, c0, a1, c1, rfl, bp, bc, b0, b1, hp, hc, hw0, hw1⟩ := h
  clear ho hp hc hw0 hw1
  go_enter Tryz.func14, Tryz.ntmps14
  have HB0 : Kp (Below w.heap.size w w) := ⟨Below.refl _ _⟩
  go_wp2_with fail
  refine (refAccepts_any _ C hsm _ (HC.out.below (below_al HB0.out _))).mono ?_
  rw [ha]
  rintro e w1 ⟨rfl, hb⟩
  have q1 : Kp (w1.heap[w.heap.size]? = some (.cells #[.slice pa C.parts.length pc, .slice ca C.chans.length cc, .int .i64 C.l0, .slice a0 C.w0.length c0, .int .i64 C.l1, .slice a1 C.w1.length c1] 31 (0, 0))) := ⟨blk_below (blk_new _ _) hb⟩
  have HB1 : Kp (Below w.heap.size w w1) := ⟨below_call (below_al HB0.out _) hb⟩
  clear HB0 hb
  have qc0 := cbk q1.out 0 (.slice pa C.parts.length pc) rfl
  have qc1 := cbk q1.out 1 (.slice ca C.chans.length cc) rfl
  have qc2 := cbk q1.out 2 (.int .i64 C.l0) rfl
  have qc3 := cbk q1.out 3 (.slice a0 C.w0.length c0) rfl
  have qc4 := cbk q1.out 4 (.int .i64 C.l1) rfl
  have qc5 := cbk q1.out 5 (.slice a1 C.w1.length c1) rfl
  have ql := blk_lt q1.out
  go_wp2_with fail
  refine (rbefore_any _ C hsm ha C.chans.length (Nat.le_refl _) _ (HC.out.below HB1.out)).mono ?_
  rintro e w2 ⟨rfl, hb⟩
  have q2 : Kp (w2.heap[w.heap.size]? = some (.cells #[.slice pa C.parts.length pc, .slice ca C.chans.length cc, .int .i64 C.l0, .slice a0 C.w0.length c0, .int .i64 C.l1, .slice a1 C.w1.length c1] 31 (0, 0))) := ⟨blk_below q1.out hb⟩
  have HB2 : Kp (Below w.heap.size w w2) := ⟨below_call HB1.out hb⟩
  clear qc0 qc1 qc2 qc3 qc4 qc5 ql q1 HB1 hb
  have qc0 := cbk q2.out 0 (.slice pa C.parts.length pc) rfl
  have qc1 := cbk q2.out 1 (.slice ca C.chans.length cc) rfl
  have qc2 := cbk q2.out 2 (.int .i64 C.l0) rfl
  have qc3 := cbk q2.out 3 (.slice a0 C.w0.length c0) rfl
  have qc4 := cbk q2.out 4 (.int .i64 C.l1) rfl
  have qc5 := cbk q2.out 5 (.slice a1 C.w1.length c1) rfl
  have ql := blk_lt q2.out
  go_wp2
  go_ret
  exact ⟨(by rw [HE.out]; rfl), HB2.out⟩
set_option maxRecDepth 100000 in
set_option maxHeartbeats 4000000 in
theorem rsize_no (cv : Value) (C : Cfg) (hsm : C.small) (ha : accB C = false) (w : World) (h : CfgAt w cv C) : Calls Tryz.prog 14 #[cv] w fun e w' => e = .returned (.int .i64 (planE C)) ∧ Below w.heap.size w w' := by
  have HC := Kp.mk h
  have HE := Kp.mk (planE_no C ha)
  obtain ⟨ho, pa, pc, ca, cc, a0, c0, a1, c1, rfl, bp, bc, b0, b1, hp, hc, hw0, hw1⟩ := h
  clear ho hp hc hw0 hw1
  go_enter Tryz.func14, Tryz.ntmps14
  have HB0 : Kp (Below w.heap.size w w) := ⟨Below.refl _ _⟩
  go_wp2_with fail
  refine (refAccepts_any _ C hsm _ (HC.out.below (below_al HB0.out _))).mono ?_
  rw [ha]
  rintro e w1 ⟨rfl, hb⟩
  have q1 : Kp (w1.heap[w.heap.size]? = some (.cells #[.slice pa C.parts.length pc, .slice ca C.chans.length cc, .int .i64 C.l0, .slice a0 C.w0.length c0, .int .i64 C.l1, .slice a1 C.w1.length c1] 31 (0, 0))) := ⟨blk_below (blk_new _ _) hb⟩
  have HB1 : Kp (Below w.heap.size w w1) := ⟨below_call (below_al HB0.out _) hb⟩
  clear HB0 hb
  have qc0 := cbk q1.out 0 (.slice pa C.parts.length pc) rfl
  have qc1 := cbk q1.out 1 (.slice ca C.chans.length cc) rfl
  have qc2 := cbk q1.out 2 (.int .i64 C.l0) rfl
  have qc3 := cbk q1.out 3 (.slice a0 C.w0.length c0) rfl
  have qc4 := cbk q1.out 4 (.int .i64 C.l1) rfl
  have qc5 := cbk q1.out 5 (.slice a1 C.w1.length c1) rfl
  have ql := blk_lt q1.out
  go_wp2
  go_ret
  exact ⟨(by rw [HE.out]; rfl), HB1.out⟩
theorem rsize_any (cv : Value) (C : Cfg) (hsm : C.small) (w : World) (h : CfgAt w cv C) : Calls Tryz.prog 14 #[cv] w fun e w' => e = .returned (.int .i64 (planE C)) ∧ Below w.heap.size w w' := by
  cases ha : accB C with
  | true => exact rsize_yes cv C hsm ha w h
  | false => exact rsize_no cv C hsm ha w h
def chanB (C : Cfg) (k : Int) : Bool := decide (0 ≤ k ∧ k < C.chans.length) && accB C
theorem chanB_yes {C : Cfg} {k : Int} (h : chanB C k = true) : accB C = true ∧ 0 ≤ k ∧ k < C.chans.length := by
  rw [chanB, Bool.and_eq_true, decide_eq_true_iff] at h
  exact ⟨h.2, h.1⟩
theorem chanB_no {C : Cfg} {k : Int} (h : chanB C k = false) : ¬ (accB C = true ∧ 0 ≤ k ∧ k < C.chans.length) := fun hh => by
  rw [chanB, decide_eq_true hh.2, hh.1] at h; cases h
set_option maxRecDepth 100000 in
set_option maxHeartbeats 4000000 in
theorem rchannel_out (cv : Value) (C : Cfg) (hsm : C.small) (k : Int) (hk : ¬ (0 ≤ k ∧ k < C.chans.length)) (w : World) (h : CfgAt w cv C) : Calls Tryz.prog 79 #[cv, .int .i64 k] w fun e w' => e = .returned (.bool (chanB C k)) ∧ Below w.heap.size w w' := by
  have HC := Kp.mk h
  have HZ : Kp (chanB C k = false) := ⟨by rw [chanB, decide_eq_false hk]; rfl⟩
  obtain ⟨ho, pa, pc, ca, cc, a0, c0, a1, c1, rfl, bp, bc, b0, b1, hp, hc, hw0, hw1⟩ := h
  clear ho hp hc hw0 hw1
  by_cases h0 : 0 ≤ k
  · have h1 : decide (k < (C.chans.length : Int)) = false := decide_eq_false (by omega)
    clear hk
    go_enter Tryz.func79, Tryz.ntmps79
    go_wp2
    go_ret
    exact ⟨ret_bool (by rw [HZ.out]), (by repeat (first | exact Below.refl _ _ | apply below_al))⟩
  · have h1 : decide (0 ≤ k) = false := decide_eq_false h0
    clear hk
    go_enter Tryz.func79, Tryz.ntmps79
    go_wp2
    go_ret
    exact ⟨ret_bool (by rw [HZ.out]), (by repeat (first | exact Below.refl _ _ | apply below_al))⟩
set_option maxRecDepth 100000 in
set_option maxHeartbeats 4000000 in
theorem rchannel_in (cv : Value) (C : Cfg) (hsm : C.small) (k : Int) (hk : 0 ≤ k ∧ k < C.chans.length) (b : Bool) (hb : accB C = b) (w : World) (h : CfgAt w cv C) : Calls Tryz.prog 79 #[cv, .int .i64 k] w fun e w' => e = .returned (.bool (chanB C k)) ∧ Below w.heap.size w w' := by
  have HC := Kp.mk h
  have HZ : Kp (chanB C k = b) := ⟨by rw [chanB, decide_eq_true hk, hb]; rfl⟩
  have hk0 := hk.1
  have hk1 := hk.2
  have HAB := Kp.mk hb
  clear hb hk
  obtain ⟨ho, pa, pc, ca, cc, a0, c0, a1, c1, rfl, bp, bc, b0, b1, hp, hc, hw0, hw1⟩ := h
  clear ho hp hc hw0 hw1
  go_enter Tryz.func79, Tryz.ntmps79
  have HB0 : Kp (Below w.heap.size w w) := ⟨Below.refl _ _⟩
  go_wp2_with fail
  refine (refAccepts_any _ C hsm _ (HC.out.below (below_al HB0.out _))).mono ?_
  rw [HAB.out]
  rintro e w1 ⟨rfl, hb⟩
  have q1 : Kp (w1.heap[w.heap.size]? = some (.cells #[.slice pa C.parts.length pc, .slice ca C.chans.length cc, .int .i64 C.l0, .slice a0 C.w0.length c0, .int .i64 C.l1, .slice a1 C.w1.length c1] 31 (0, 0))) := ⟨blk_below (blk_new _ _) hb⟩
  have HB1 : Kp (Below w.heap.size w w1) := ⟨below_call (below_al HB0.out _) hb⟩
  clear HB0 hb
  have qc0 := cbk q1.out 0 (.slice pa C.parts.length pc) rfl
  have qc1 := cbk q1.out 1 (.slice ca C.chans.length cc) rfl
  have qc2 := cbk q1.out 2 (.int .i64 C.l0) rfl
  have qc3 := cbk q1.out 3 (.slice a0 C.w0.length c0) rfl
  have qc4 := cbk q1.out 4 (.int .i64 C.l1) rfl
  have qc5 := cbk q1.out 5 (.slice a1 C.w1.length c1) rfl
  have ql := blk_lt q1.out
  go_wp2
  go_ret
  exact ⟨ret_bool (by rw [HZ.out]), HB1.out⟩
theorem rchannel_any (cv : Value) (C : Cfg) (hsm : C.small) (k : Int) (w : World) (h : CfgAt w cv C) : Calls Tryz.prog 79 #[cv, .int .i64 k] w fun e w' => e = .returned (.bool (chanB C k)) ∧ Below w.heap.size w w' := by
  by_cases hk : 0 ≤ k ∧ k < C.chans.length
  · exact rchannel_in cv C hsm k hk _ rfl w h
  · exact rchannel_out cv C hsm k hk w h
end
section
open Go.RowKit
set_option linter.unusedSimpArgs false
set_option linter.unusedVariables false
theorem row_blk {w : World} {b : Nat} {cs : Array Value} {ty : TypeId} {fz : Nat × Nat} {k n : Nat} {xs : List Value} (h : w.heap[b]? = some (.cells cs ty fz)) (hx : cs.toList = xs) (hl : xs.length = n * k) (hn : n ≤ 100) : RowAt w k (.slice (some ⟨b, 0, none⟩) n n) n xs :=
  ⟨hl, .inr ⟨b, 0, n, rfl, Nat.le_refl _, by unfold maxLen; omega, blk_lt h, fun i hi => by rw [Nat.zero_add, cell_blk h i, ← hx, Array.getElem?_toList]⟩⟩
theorem CfgAt.cells {w : World} {cs : Array Value} {C : Cfg} (h : CfgAt w (.agg cs) C) : ∃ v0 v1 v2 v3 v4 v5 : Value, cs = #[v0, v1, v2, v3, v4, v5] ∧ (∃ a n c, v0 = .slice a n c) ∧ (∃ a n c, v1 = .slice a n c) ∧ (∃ n, v2 = .int .i64 n) ∧ (∃ a n c, v3 = .slice a n c) ∧ (∃ n, v4 = .int .i64 n) ∧ ∃ a n c, v5 = .slice a n c := by
  obtain ⟨ho, pa, pc, ca, cc, a0, c0, a1, c1, hv, _⟩ := h
  simp only [Value.agg.injEq] at hv
  exact ⟨_, _, _, _, _, _, hv, ⟨_, _, _, rfl⟩, ⟨_, _, _, rfl⟩, ⟨_, rfl⟩, ⟨_, _, _, rfl⟩, ⟨_, rfl⟩, ⟨_, _, _, rfl⟩⟩
def two4 (wd per : Int) : Cfg := ⟨[(0, 1), (1, 0)], [⟨1, 0, 1, wd, 0, per, 0⟩], 1, [⟨0, 0, 1⟩], 1, [⟨1, 0, 1⟩]⟩
theorem two4_ok (wd per : Int) (h1 : 1 ≤ wd ∧ wd ≤ 16) (h2 : 0 ≤ per ∧ per ≤ 1048576) : (two4 wd per).ok := by
  have i1 : I64 wd := by
    show (Lit.int .i64 wd).wf = true
    simp [Lit.wf, IntKind.wrap]
    exact ⟨by show -9223372036854775808 ≤ wd; omega, by omega⟩
  have i2 : I64 per := by
    show (Lit.int .i64 per).wf = true
    simp [Lit.wf, IntKind.wrap]
    exact ⟨by show -9223372036854775808 ≤ per; omega, by omega⟩
  exact ⟨fun p hp => by simp only [two4, List.mem_cons, List.not_mem_nil, or_false] at hp; rcases hp with rfl | rfl <;> exact ⟨rfl, rfl⟩, fun x hx => by simp only [two4, List.mem_cons, List.not_mem_nil, or_false] at hx; subst hx; exact ⟨rfl, rfl, rfl, i1, rfl, i2, rfl⟩, rfl, rfl, fun x hx => by simp only [two4, List.mem_cons, List.not_mem_nil, or_false] at hx; subst hx; exact ⟨rfl, rfl, rfl⟩, fun x hx => by simp only [two4, List.mem_cons, List.not_mem_nil, or_false] at hx; subst hx; exact ⟨rfl, rfl, rfl⟩⟩
theorem two4_small (wd per : Int) : (two4 wd per).small := ⟨show 2 ≤ 200 by decide, show 1 ≤ 200 by decide, show 1 ≤ 200 by decide, show 1 ≤ 200 by decide⟩
theorem two4_acc (wd per : Int) (h1 : 1 ≤ wd ∧ wd ≤ 16) (h2 : 0 ≤ per ∧ per ≤ 1048576) : accB (two4 wd per) = true := by
  have e1 : inB wd 1 16 = true := decide_eq_true h1
  have e2 : inB per 0 1048576 = true := decide_eq_true h2
  have h : ∀ i, i < 17 → ruleB (i + 1) (two4 wd per) = false := by
    intro i hi
    match i, hi with
    | 0, _ => rfl
    | 1, _ => rfl
    | 2, _ => rfl
    | 3, _ => rfl
    | 4, _ => rfl
    | 5, _ => rfl
    | 6, _ => rfl
    | 7, _ => show ((!inB wd 1 16) || false) = false; rw [e1]; rfl
    | 8, _ => rfl
    | 9, _ => show ((!inB per 0 1048576) || false) = false; rw [e2]; rfl
    | 10, _ => rfl
    | 11, _ => rfl
    | 12, _ => rfl
    | 13, _ => rfl
    | 14, _ => rfl
    | 15, _ => rfl
    | 16, _ => rfl
    | n + 17, h => omega
  rw [accB, defsB, defsK, List.isEmpty_iff, List.map_eq_nil_iff, List.filter_eq_nil_iff]
  intro i hi
  rw [h i (List.mem_range.1 hi)]
  exact Bool.false_ne_true
theorem two4_src (wd per : Int) (h1 : 1 ≤ wd ∧ wd ≤ 16) (h2 : 0 ≤ per ∧ per ≤ 1048576) : srcB (two4 wd per) (0 : Nat) = (1, 3 + 4 * (2 + wd)) := by rw [srcB, if_pos ⟨two4_acc wd per h1 h2, by decide, (show ((0 : Nat) : Int) < ((1 : Nat) : Int) by decide)⟩]; rfl
theorem two4_dst (wd per : Int) (h1 : 1 ≤ wd ∧ wd ≤ 16) (h2 : 0 ≤ per ∧ per ≤ 1048576) : dstB (two4 wd per) (0 : Nat) = (1 + (3 + 4 * (2 + wd)), 1) := by rw [dstB, if_pos ⟨two4_acc wd per h1 h2, by decide, (show ((0 : Nat) : Int) < ((1 : Nat) : Int) by decide)⟩]; rfl
theorem two4_size (wd per : Int) (h1 : 1 ≤ wd ∧ wd ≤ 16) (h2 : 0 ≤ per ∧ per ≤ 1048576) : planE (two4 wd per) = 5 + 4 * (2 + wd) := by
  rw [planE, if_pos (two4_acc wd per h1 h2)]
  show 1 + (0 + ((3 + 4 * (2 + wd)) + (1 + 0))) = _
  omega
def plc4 (wd per : Int) : Plc := ⟨1, 1 + (3 + 4 * (2 + wd)), wd, per⟩
theorem plc4_low (wd per : Int) (h1 : 1 ≤ wd ∧ wd ≤ 16) : (plc4 wd per).low := ⟨⟨by show (0 : Int) ≤ 1; omega, by show (1 : Int) ≤ 2000; omega⟩, ⟨by show 0 ≤ 1 + (3 + 4 * (2 + wd)); omega, by show 1 + (3 + 4 * (2 + wd)) ≤ 2000; omega⟩, h1⟩
theorem plc4_in (wd per : Int) (n : Nat) (hn : (n : Int) = 5 + 4 * (2 + wd)) : (plc4 wd per).In n := ⟨by show 1 + (3 + 4 * (2 + wd)) < (n : Int); omega, by show 1 + 3 + 4 * (2 + wd) ≤ (n : Int); omega⟩
theorem plc4_good (wd per : Int) (n : Nat) (h1 : 1 ≤ wd ∧ wd ≤ 16) (hn : (n : Int) = 5 + 4 * (2 + wd)) : (plc4 wd per).ok n := ⟨by show (0 : Int) ≤ 1; omega, h1.1, by show 1 + 3 + 4 * (2 + wd) ≤ 1 + (3 + 4 * (2 + wd)); omega, by show 1 + (3 + 4 * (2 + wd)) < (n : Int); omega⟩
set_option maxRecDepth 100000 in
set_option maxHeartbeats 4000000 in
theorem two4_any (wd per : Int) (w : World) (hok : (two4 wd per).ok) : Calls Tryz.prog 12 #[.int .i64 wd, .int .i64 per] w fun e w' => ∃ cs : Array Value, e = .returned (.agg cs) ∧ CfgAt w' (.agg cs) (two4 wd per) ∧ Below w.heap.size w w' := by
  go_enter Tryz.func12, Tryz.ntmps12
  go_wp2
  refine bodyPost_ret (v := .agg #[.slice (some ⟨w.heap.size + 1, 0, none⟩) 2 2, .slice (some ⟨w.heap.size + 1 + 1, 0, none⟩) 1 1, .int .i64 1, .slice (some ⟨w.heap.size + 1 + 1 + 1 + 1, 0, none⟩) 1 1, .int .i64 1, .slice (some ⟨w.heap.size + 1 + 1 + 1 + 1 + 1, 0, none⟩) 1 1]) (results_cell_row rfl _ _ _ _ _ _ _ rfl (blk_al (blk_al (blk_al (blk_al (blk_al (blk_new _ _) _) _) _) _) _) Tryz.underlying31 rfl (by kernel_rfl)) rfl ⟨_, rfl, ⟨hok, _, 2, _, 1, _, 1, _, 1, rfl, ?_, ?_, ?_, ?_, ?_, ?_, ?_, ?_⟩, (by repeat (first | exact Below.refl _ _ | apply below_al))⟩
  · exact ⟨Nat.le_refl _, by unfold maxLen; omega⟩
  · exact ⟨Nat.le_refl _, by unfold maxLen; omega⟩
  · exact ⟨Nat.le_refl _, by unfold maxLen; omega⟩
  · exact ⟨Nat.le_refl _, by unfold maxLen; omega⟩
  · exact row_blk (blk_al (blk_al (blk_al (blk_al (blk_at (w := (w.alloc (.cells #[.slice (some ⟨w.heap.size + 1, 0, none⟩) 2 2, .slice (some ⟨w.heap.size + 1 + 1, 0, none⟩) 1 1, .int .i64 1, .slice (some ⟨w.heap.size + 1 + 1 + 1 + 1, 0, none⟩) 1 1, .int .i64 1, .slice (some ⟨w.heap.size + 1 + 1 + 1 + 1 + 1, 0, none⟩) 1 1] 31))) (by simp) _) _) _) _) _) rfl rfl (show 2 ≤ 100 by decide)
  · exact row_blk (blk_al (blk_al (blk_al (blk_at (w := ((w.alloc (.cells #[.slice (some ⟨w.heap.size + 1, 0, none⟩) 2 2, .slice (some ⟨w.heap.size + 1 + 1, 0, none⟩) 1 1, .int .i64 1, .slice (some ⟨w.heap.size + 1 + 1 + 1 + 1, 0, none⟩) 1 1, .int .i64 1, .slice (some ⟨w.heap.size + 1 + 1 + 1 + 1 + 1, 0, none⟩) 1 1] 31)).alloc (.cells #[.int .i64 0, .int .i64 1, .int .i64 1, .int .i64 0] 97))) (by simp) _) _) _) _) rfl rfl (show 1 ≤ 100 by decide)
  · exact row_blk (blk_al (blk_at (w := ((((w.alloc (.cells #[.slice (some ⟨w.heap.size + 1, 0, none⟩) 2 2, .slice (some ⟨w.heap.size + 1 + 1, 0, none⟩) 1 1, .int .i64 1, .slice (some ⟨w.heap.size + 1 + 1 + 1 + 1, 0, none⟩) 1 1, .int .i64 1, .slice (some ⟨w.heap.size + 1 + 1 + 1 + 1 + 1, 0, none⟩) 1 1] 31)).alloc (.cells #[.int .i64 0, .int .i64 1, .int .i64 1, .int .i64 0] 97)).alloc (.cells #[.int .i64 1, .int .i64 0, .int .i64 1, .int .i64 wd, .int .i64 0, .int .i64 per, .int .u32 0] 52)).alloc (.cells #[.slice (some ⟨w.heap.size + 1, 0, none⟩) 2 2, .slice (some ⟨w.heap.size + 1 + 1, 0, none⟩) 1 1, .int .i64 1, .slice (some ⟨w.heap.size + 1 + 1 + 1 + 1, 0, none⟩) 1 1, .int .i64 1, .slice (some ⟨w.heap.size + 1 + 1 + 1 + 1 + 1, 0, none⟩) 1 1] 31))) (by simp) _) _) rfl rfl (show 1 ≤ 100 by decide)
  · exact row_blk (blk_at (w := (((((w.alloc (.cells #[.slice (some ⟨w.heap.size + 1, 0, none⟩) 2 2, .slice (some ⟨w.heap.size + 1 + 1, 0, none⟩) 1 1, .int .i64 1, .slice (some ⟨w.heap.size + 1 + 1 + 1 + 1, 0, none⟩) 1 1, .int .i64 1, .slice (some ⟨w.heap.size + 1 + 1 + 1 + 1 + 1, 0, none⟩) 1 1] 31)).alloc (.cells #[.int .i64 0, .int .i64 1, .int .i64 1, .int .i64 0] 97)).alloc (.cells #[.int .i64 1, .int .i64 0, .int .i64 1, .int .i64 wd, .int .i64 0, .int .i64 per, .int .u32 0] 52)).alloc (.cells #[.slice (some ⟨w.heap.size + 1, 0, none⟩) 2 2, .slice (some ⟨w.heap.size + 1 + 1, 0, none⟩) 1 1, .int .i64 1, .slice (some ⟨w.heap.size + 1 + 1 + 1 + 1, 0, none⟩) 1 1, .int .i64 1, .slice (some ⟨w.heap.size + 1 + 1 + 1 + 1 + 1, 0, none⟩) 1 1] 31)).alloc (.cells #[.int .i64 0, .int .i64 0, .int .i64 1] 99))) (by simp) _) rfl rfl (show 1 ≤ 100 by decide)
theorem newW_two (cv : Value) (wd per : Int) (h1 : 1 ≤ wd ∧ wd ≤ 16) (h2 : 0 ≤ per ∧ per ≤ 1048576) (ra : Option Addr) (rc : Nat) (l : List Int) (h0 : 0 < l.length) (hl : l.length ≤ 1000) (w : World) (h : CfgAt w cv (two4 wd per)) (hr : RowAt w 1 (.slice ra l.length rc) l.length (u32s l)) :
    Calls Tryz.prog 23 #[cv, .int .i64 0, .slice ra l.length rc] w fun e w' => ∃ W g dc, e = .returned (.pointer (some ⟨W, 0, none⟩)) ∧ Kp (WrAt w' W g dc (plc4 wd per) (wr0 l)) ∧ Below w.heap.size w w' ∧ w.heap.size ≤ W ∧ w.heap.size ≤ g ∧ g ≠ W :=
  newWriter_any cv (two4 wd per) (two4_small _ _) 0 (show 0 < 1 by decide) ⟨1, 0, 1, wd, 0, per, 0⟩ rfl _ _ _ _ (two4_src wd per h1 h2) (two4_dst wd per h1 h2) ra rc l h0 hl w h hr
theorem newR_two (cv : Value) (wd per : Int) (h1 : 1 ≤ wd ∧ wd ≤ 16) (h2 : 0 ≤ per ∧ per ≤ 1048576) (w : World) (h : CfgAt w cv (two4 wd per)) :
    Calls Tryz.prog 24 #[cv, .int .i64 0] w fun e w' => ∃ R, e = .returned (.pointer (some ⟨R, 0, none⟩)) ∧ Kp (RdAt w' R (R + 1) (plc4 wd per) rdr0 none 0) ∧ Below w.heap.size w w' ∧ w.heap.size ≤ R :=
  newReader_any cv (two4 wd per) (two4_small _ _) 0 (show 0 < 1 by decide) ⟨1, 0, 1, wd, 0, per, 0⟩ rfl _ _ _ _ (two4_src wd per h1 h2) (two4_dst wd per h1 h2) w h
theorem size_two (cv : Value) (wd per : Int) (h1 : 1 ≤ wd ∧ wd ≤ 16) (h2 : 0 ≤ per ∧ per ≤ 1048576) (w : World) (h : CfgAt w cv (two4 wd per)) : Calls Tryz.prog 14 #[cv] w fun e w' => e = .returned (.int .i64 (5 + 4 * (2 + wd))) ∧ Below w.heap.size w w' := by
  refine (rsize_any cv (two4 wd per) (two4_small _ _) w h).mono ?_
  rw [two4_size wd per h1 h2]
  exact fun e w' h => h
end
section
open Go.RowKit
set_option linter.unusedSimpArgs false
set_option linter.unusedVariables false
structure WOk (p : Plc) (s : Wr) : Prop where
  hx : bit s.pair
  hy : bit s.index
  h0 : 0 < s.data.length
  dw : (s.data.length : Int) ≤ p.words
  i3 : s.pc ≤ 3 → s.i = 0
  i4 : s.pc = 4 → s.i < s.data.length
  ws : Words s.data
theorem WOk.next {p : Plc} {s : Wr} (ws : List Int) (h : WOk p s) : WOk p (wNext p ws s) := by
  obtain ⟨pc, data, pair, index, i, marked⟩ := s
  obtain ⟨hx, hy, h0, dw, i3, i4, hw⟩ := h
  simp only at hx hy h0 dw i3 i4 hw
  have hpc : pc = 0 ∨ pc = 1 ∨ pc = 2 ∨ pc = 3 ∨ pc = 4 ∨ pc = 5 ∨ pc = 6 ∨ 7 ≤ pc := by omega
  rcases hpc with rfl | rfl | rfl | rfl | rfl | rfl | rfl | hp
  · exact ⟨bit_flip _, hy, h0, dw, fun _ => i3 (by omega), fun e => absurd e (by simp [wNext]), hw⟩
  · exact ⟨hx, bit_flip _, h0, dw, fun _ => i3 (by omega), fun e => absurd e (by simp [wNext]), hw⟩
  · exact ⟨hx, hy, h0, dw, fun _ => i3 (by omega), fun e => absurd e (by simp [wNext]), hw⟩
  · exact ⟨hx, hy, h0, dw, fun e => absurd e (by simp [wNext]), fun _ => by have := i3 (by omega); show i < data.length; omega, hw⟩
  · refine ⟨hx, hy, h0, dw, fun e => ?_, fun e => ?_, hw⟩
    · have e2 : (if i + 1 < data.length then 4 else 5) ≤ 3 := e
      split at e2 <;> omega
    · have e2 : (if i + 1 < data.length then 4 else 5) = 4 := e
      show i + 1 < data.length
      split at e2
      · assumption
      · omega
  · exact ⟨hx, hy, h0, dw, fun e => absurd e (by simp [wNext]), fun e => absurd e (by simp [wNext]), hw⟩
  · exact ⟨hx, hy, h0, dw, fun e => absurd e (by simp [wNext]), fun e => absurd e (by simp [wNext]), hw⟩
  · have e1 : wNext p ws ⟨pc, data, pair, index, i, marked⟩ = ⟨pc, data, pair, index, i, marked⟩ := by unfold wNext; split <;> simp_all
    rw [e1]
    exact ⟨hx, hy, h0, dw, i3, i4, hw⟩
theorem bit_word {x : Int} (h : bit x) : 0 ≤ x ∧ x < 4294967296 := by rcases h with rfl | rfl <;> omega
theorem Words.w {p : Plc} {ws : List Int} {s : Wr} (hp : p.words ≤ 16) (now : Int) (h : Words ws) (hs : WOk p s) : Words (wMem p ws now s) := by
  unfold wMem
  have h1 := hs.dw
  split
  · exact h.st _ _ (by omega) (by omega)
  · exact h.st _ _ (by omega) (by omega)
  · have h2 := ldW_word hs.ws (s.i : Int)
    have e : s.data.getD s.i 0 = ldW s.data (s.i : Int) := by rw [ldW, Int.toNat_natCast]
    rw [e]
    exact h.st _ _ h2.1 h2.2
  · exact h.st _ _ (bit_word hs.hy).1 (bit_word hs.hy).2
  · exact h.st _ _ (bit_word hs.hx).1 (bit_word hs.hx).2
  · exact h
structure ROk (p : Plc) (r : Rdr) : Prop where
  hx : bit r.pair
  hy : bit r.index
  lw : (r.left : Int) ≤ p.words
  i5 : r.pc = 5 → r.data.length < r.left
  st : 0 ≤ r.stamp ∧ r.stamp < 4294967296
  d4 : r.pc ≤ 4 → r.data = []
  l4 : r.pc = 4 → 0 < r.left
theorem ROk.next {p : Plc} {r : Rdr} {ws : List Int} (hws : Words ws) (hw : 1 ≤ p.words) (h : ROk p r) : ROk p (rNext p ws r) := by
  obtain ⟨pc, pair, index, left, stamp, data⟩ := r
  obtain ⟨hx, hy, lw, i5, st, d4, l4⟩ := h
  simp only at hx hy lw i5 st d4 l4
  have hpc : pc = 0 ∨ pc = 1 ∨ pc = 2 ∨ pc = 3 ∨ pc = 4 ∨ pc = 5 ∨ 6 ≤ pc := by omega
  rcases hpc with rfl | rfl | rfl | rfl | rfl | rfl | hp
  · exact ⟨bit_mod _, hy, lw, fun e => absurd e (by simp [rNext]), st, fun _ => d4 (by omega), fun e => absurd e (by simp [rNext])⟩
  · exact ⟨hx, hy, lw, fun e => absurd e (by simp [rNext]), st, fun _ => d4 (by omega), fun e => absurd e (by simp [rNext])⟩
  · exact ⟨hx, bit_mod _, lw, fun e => absurd e (by simp [rNext]), st, fun _ => d4 (by omega), fun e => absurd e (by simp [rNext])⟩
  · by_cases hz : ldW ws (p.buf pair index) = 0
    · have e1 : rNext p ws ⟨3, pair, index, left, stamp, data⟩ = ⟨6, pair, index, left, stamp, data⟩ := by simp only [rNext, if_pos hz]
      rw [e1]
      exact ⟨hx, hy, lw, fun e => absurd e (by simp), st, fun e => absurd e (by simp), fun e => absurd e (by simp)⟩
    · have e1 : rNext p ws ⟨3, pair, index, left, stamp, data⟩ = ⟨4, pair, index, (rLeft p ws ⟨3, pair, index, left, stamp, data⟩).toNat, stamp, data⟩ := by simp only [rNext, if_neg hz]
      rw [e1]
      have hv := ldW_word hws (p.buf pair index)
      have hm : 0 < rLeft p ws ⟨3, pair, index, left, stamp, data⟩ ∧ rLeft p ws ⟨3, pair, index, left, stamp, data⟩ ≤ p.words := by
        simp only [rLeft]
        split <;> omega
      exact ⟨hx, hy, by show ((rLeft p ws _).toNat : Int) ≤ _; omega, fun e => absurd e (by simp), st, fun _ => d4 (by omega), fun _ => by show 0 < (rLeft p ws _).toNat; omega⟩
  · have hd := d4 (by omega)
    subst hd
    exact ⟨hx, hy, lw, fun _ => l4 rfl, ldW_word hws _, fun e => absurd e (by simp [rNext]), fun e => absurd e (by simp [rNext])⟩
  · refine ⟨hx, hy, lw, fun e => ?_, st, fun e => ?_, fun e => ?_⟩
    · have e2 : (if data.length + 1 < left then 5 else 6) = 5 := e
      show (data ++ _).length < left
      rw [List.length_append]
      split at e2
      · assumption
      · omega
    · have e2 : (if data.length + 1 < left then 5 else 6) ≤ 4 := e
      split at e2 <;> omega
    · have e2 : (if data.length + 1 < left then 5 else 6) = 4 := e
      split at e2 <;> omega
  · have e1 : rNext p ws ⟨pc, pair, index, left, stamp, data⟩ = ⟨pc, pair, index, left, stamp, data⟩ := by unfold rNext; split <;> simp_all
    rw [e1]
    exact ⟨hx, hy, lw, i5, st, d4, l4⟩
theorem Words.r {p : Plc} {ws : List Int} {r : Rdr} (h : Words ws) (hr : ROk p r) : Words (rMem p ws r) := by
  unfold rMem
  split
  · exact h.st _ _ (bit_word hr.hx).1 (bit_word hr.hx).2
  · exact h
theorem wr0_ok (p : Plc) (l : List Int) (h0 : 0 < l.length) (h1 : (l.length : Int) ≤ p.words) (hw : Words l) : WOk p (wr0 l) := ⟨.inl rfl, .inl rfl, h0, h1, fun _ => rfl, fun e => absurd e (by simp [wr0]), hw⟩
theorem rdr0_ok (p : Plc) (hw : 1 ≤ p.words) : ROk p rdr0 := ⟨.inl rfl, .inl rfl, by show ((0 : Nat) : Int) ≤ _; omega, fun e => absurd e (by simp [rdr0]), ⟨Int.le_refl _, by decide⟩, fun _ => rfl, fun e => absurd e (by simp [rdr0])⟩
structure Duo (w : World) (X : List Nat) (N0 B D W g dc R bs : Nat) (da : Option Addr) (dr : Nat) (p : Plc) (ws : List Int) (s : Wr) (r : Rdr) : Prop where
  mem : MemAt w B D ws
  mb : N0 ≤ B ∧ N0 ≤ D
  mx : B ∉ X ∧ D ∉ X
  wr : s.pc ≤ 6 → WrAt w W g dc p s
  wb : s.pc ≤ 6 → N0 ≤ W ∧ N0 ≤ g ∧ W ∉ B :: D :: X ∧ g ∉ B :: D :: X ∧ g ≠ W
  rd : r.pc ≤ 5 → RdAt w R bs p r da dr
  rb : r.pc ≤ 5 → N0 ≤ R ∧ B < bs ∧ D < bs ∧ N0 ≤ bs ∧ R ∉ B :: D :: X ∧ ∀ q, (Value.slice da r.data.length dr).ownBlock = some q → q ∉ B :: D :: X
  wr2 : s.pc ≤ 6 → r.pc ≤ 5 → R ≠ W ∧ R ≠ g ∧ ∀ q, (Value.slice da r.data.length dr).ownBlock = some q → q ≠ W ∧ q ≠ g
theorem Duo.but {w w' : World} {X : List Nat} {N0 B D W g dc R bs : Nat} {da : Option Addr} {dr : Nat} {p : Plc} {ws : List Int} {s : Wr} {r : Rdr} {S : List Nat} (h : Duo w X N0 B D W g dc R bs da dr p ws s r) (hb : ButS S w w') (hS : ∀ k, k ∈ S → k ∈ X) : Duo w' X N0 B D W g dc R bs da dr p ws s r := by
  have n1 : ∀ {b : Nat}, b ∉ X → b ∉ S := fun hb hs => hb (hS _ hs)
  refine ⟨h.mem.but hb (n1 h.mx.1) (n1 h.mx.2), h.mb, h.mx, fun e => ?_, h.wb, fun e => ?_, h.rb, h.wr2⟩
  · obtain ⟨_, _, h3, h4, _⟩ := h.wb e
    exact (h.wr e).but hb (n1 fun q => h3 (by simp [q])) (n1 fun q => h4 (by simp [q]))
  · obtain ⟨_, _, _, _, h5, h6⟩ := h.rb e
    exact (h.rd e).but hb (n1 fun q => h5 (by simp [q])) fun q hq => n1 fun hx => h6 q hq (by simp [hx])
theorem Duo.below {w w' : World} {X : List Nat} {N0 B D W g dc R bs : Nat} {da : Option Addr} {dr : Nat} {p : Plc} {ws : List Int} {s : Wr} {r : Rdr} (h : Duo w X N0 B D W g dc R bs da dr p ws s r) (hb : Below w.heap.size w w') : Duo w' X N0 B D W g dc R bs da dr p ws s r :=
  h.but (ButS.of_below (S := []) hb) (by simp)
set_option maxHeartbeats 1000000 in
theorem Duo.wstep {w : World} {X : List Nat} {N0 B D W g dc R bs : Nat} {da : Option Addr} {dr : Nat} {p : Plc} {ws : List Int} {s : Wr} {r : Rdr} (now : Int) (hp : p.low) (hi : p.In ws.length) (hws : Words ws) (hs : WOk p s) (h6 : s.pc ≤ 6) (h : Duo w X N0 B D W g dc R bs da dr p ws s r) :
    Calls Tryz.prog 25 #[.pointer (some ⟨W, 0, none⟩), .pointer (some ⟨B, 0, none⟩), .int .i64 now] w fun e w' => e = .returned (.agg #[.bool (wDid p ws s).done, .int .i64 (wDid p ws s).code, .slice none 0 0, .bool (wDid p ws s).valid, .int .i64 (wDid p ws s).count, .bool (wDid p ws s).mark, .bool (wDid p ws s).ring, .bool (wDid p ws s).stamped, .int .i64 (wDid p ws s).buffer]) ∧ Duo w' X N0 B D W g dc R bs da dr p (wMem p ws now s) (wNext p ws s) r ∧ ButS [W, D] w w' := by
  obtain ⟨b1, b2, b3, b4, b5⟩ := h.wb h6
  have gD : g ≠ D := fun e => b4 (by simp [e])
  refine (wstep_any p hp W B D g dc ws now hi hws s hs.hx hs.hy hs.h0 hs.dw hs.i4 gD b5 w (h.wr h6) h.mem).mono ?_
  rintro e w2 ⟨rfl, h2, h3, h4⟩
  refine ⟨rfl, ⟨h3, h.mb, h.mx, fun _ => h2, fun _ => h.wb h6, fun e => ?_, h.rb, fun _ e => h.wr2 h6 e⟩, h4⟩
  obtain ⟨q1, q2, q3⟩ := h.wr2 h6 e
  obtain ⟨_, _, _, _, r5, r6⟩ := h.rb e
  refine (h.rd e).but h4 ?_ fun q hq => ?_
  · simp only [List.mem_cons, List.not_mem_nil, or_false, not_or]
    exact ⟨q1, fun e => r5 (by simp [e])⟩
  · simp only [List.mem_cons, List.not_mem_nil, or_false, not_or]
    exact ⟨(q3 q hq).1, fun e => r6 q hq (by simp [e])⟩
set_option maxHeartbeats 1000000 in
theorem Duo.rstep {w : World} {X : List Nat} {N0 B D W g dc R bs : Nat} {da : Option Addr} {dr : Nat} {p : Plc} {ws : List Int} {s : Wr} {r : Rdr} (now : Int) (hnow : 0 ≤ now ∧ now ≤ 1099511627776) (hp : p.low) (hi : p.In ws.length) (hws : Words ws) (hr : ROk p r) (h5 : r.pc ≤ 5) (hX : ∀ k, k ∈ X → k < w.heap.size) (h : Duo w X N0 B D W g dc R bs da dr p ws s r) :
    Calls Tryz.prog 27 #[.pointer (some ⟨R, 0, none⟩), .pointer (some ⟨B, 0, none⟩), .int .i64 now] w fun e w' => ∃ a k, e = .returned (.agg #[.bool (rDid p ws now r).done, .int .i64 (rDid p ws now r).code, .slice a (rDid p ws now r).data.length k, .bool (rDid p ws now r).valid, .int .i64 (rDid p ws now r).count, .bool (rDid p ws now r).mark, .bool (rDid p ws now r).ring, .bool (rDid p ws now r).stamped, .int .i64 (rDid p ws now r).buffer]) ∧ RowAt w' 1 (.slice a (rDid p ws now r).data.length k) (rDid p ws now r).data.length (u32s (rDid p ws now r).data) ∧
      ∃ da' dr', Duo w' X N0 B D W g dc R bs da' dr' p (rMem p ws r) s (rNext p ws r) ∧ ButS (R :: D :: (Value.slice da r.data.length dr).ownBlock.toList) w w' ∧ ∀ q, (Value.slice a (rDid p ws now r).data.length k).ownBlock = some q → q ∉ B :: D :: X ∧ (s.pc ≤ 6 → q ≠ W ∧ q ≠ g) := by
  obtain ⟨b0, b1, b2, b3, b4, b5⟩ := h.rb h5
  have lB := blk_lt h.mem.head
  have lD := blk_lt h.mem.words
  refine (rstep_any p hp R bs B D ws now hi hws r hr.hx hr.hy hr.lw hr.i5 hr.st hnow b1 b2 da dr w (h.rd h5) h.mem (fun q hq e => b5 q hq (by simp [e]))).mono ?_
  rintro e w2 ⟨v, rfl, hv, da', dr', h2, h3, h4, hvq, hf⟩
  obtain ⟨a, k, rfl, _, _⟩ := hv.shape
  have hnew : ∀ q, (Value.slice da' (rNext p ws r).data.length dr').ownBlock = some q → (Value.slice da r.data.length dr).ownBlock = some q ∨ w.heap.size < q := fun q hq => by
    rcases hf with hf | hf
    · exact .inl (hf ▸ hq)
    · exact .inr (hf q hq)
  have hnx : ∀ q, (Value.slice da' (rNext p ws r).data.length dr').ownBlock = some q → q ∉ B :: D :: X := fun q hq => by
    rcases hnew q hq with e | e
    · exact b5 q e
    · simp only [List.mem_cons, not_or]
      exact ⟨by omega, by omega, fun hx => by have := hX q hx; omega⟩
  have hnw : s.pc ≤ 6 → ∀ q, (Value.slice da' (rNext p ws r).data.length dr').ownBlock = some q → q ≠ W ∧ q ≠ g := fun e q hq => by
    obtain ⟨q1, q2, q3⟩ := h.wr2 e h5
    have lW := blk_lt (h.wr e).blk
    have lg := (h.wr e).lt
    rcases hnew q hq with e | e
    · exact q3 q e
    · exact ⟨by omega, by omega⟩
  refine ⟨a, k, rfl, hv, da', dr', ⟨h3, h.mb, h.mx, fun e => ?_, h.wb, fun _ => h2, fun _ => ⟨b0, b1, b2, b3, b4, hnx⟩, fun e _ => ?_⟩, h4, fun q hq => ⟨hnx q (hvq q hq), fun e => hnw e q (hvq q hq)⟩⟩
  · obtain ⟨q1, q2, q3⟩ := h.wr2 e h5
    obtain ⟨_, _, w3, w4, _⟩ := h.wb e
    refine (h.wr e).but h4 ?_ ?_
    · simp only [List.mem_cons, not_or]
      refine ⟨q1.symm, fun e => w3 (by simp [e]), fun hm => ?_⟩
      exact (q3 W (by simpa using hm)).1 rfl
    · simp only [List.mem_cons, not_or]
      refine ⟨q2.symm, fun e => w4 (by simp [e]), fun hm => ?_⟩
      exact (q3 g (by simpa using hm)).2 rfl
  · obtain ⟨q1, q2, q3⟩ := h.wr2 e h5
    exact ⟨q1, q2, hnw e⟩
end
end Go.Proofs.YtmidcnfmphlneaaGreat

/- A read alone finds what was written last, with its stamp: the law FourAlone returns true for every input. -/
import Derived.Test.YtmidcnfmphlneaaFour8
import Derived.WalkKit
import Derived.ProofKit
import Derived.OpenShut
namespace Go.Proofs.Ytmidcnfmphlneaa
section
set_option linter.unusedVariables false
/-- What the memory has behind a write's first steps. -/
structure WrMem (p : Plc) (ws : List Int) (l : List Int) (now : Int) (j : Nat) : Prop where
  len : ldW ws (p.buf 1 1) = l.length
  stamp : ldW ws (p.buf 1 1 + 1) = now
  words : ∀ i : Nat, (h : i < l.length) → i < j → ldW ws (p.buf 1 1 + 2 + i) = l[i]
theorem alone_w (p : Plc) (n : Nat) (ok : p.ok n) (l : List Int) (h0 : 0 < l.length) (hl : (l.length : Int) ≤ p.words) (now : Int) (hnow : 0 ≤ now ∧ now < 4294967296) :
    (∀ k, k ≤ 2 → (wIt p now k (List.replicate n 0, wr0 l)).1 = List.replicate n 0) ∧ (wIt p now 1 (List.replicate n 0, wr0 l)).2 = ⟨1, l, 1, 0, 0, false⟩ ∧ (wIt p now 2 (List.replicate n 0, wr0 l)).2 = ⟨2, l, 1, 1, 0, false⟩ ∧ (wIt p now 3 (List.replicate n 0, wr0 l)).2 = ⟨3, l, 1, 1, 0, false⟩ ∧
    ∀ j, j ≤ l.length → (wIt p now (4 + j) (List.replicate n 0, wr0 l)).2 = ⟨if j < l.length then 4 else 5, l, 1, 1, j, false⟩ ∧ WrMem p (wIt p now (4 + j) (List.replicate n 0, wr0 l)).1 l now j ∧ ldW (wIt p now (4 + j) (List.replicate n 0, wr0 l)).1 p.src = 0 ∧ (wIt p now (4 + j) (List.replicate n 0, wr0 l)).1.length = n := by
  have z : ∀ a : Int, ldW (List.replicate n 0) a = 0 := fun a => by
    rw [ldW, List.getD_eq_getElem?_getD]
    rcases Nat.lt_or_ge a.toNat n with h | h
    · rw [List.getElem?_replicate, if_pos h]; rfl
    · rw [List.getElem?_eq_none (by simpa using h)]; rfl
  have e1 : wIt p now 1 (List.replicate n 0, wr0 l) = (List.replicate n 0, ⟨1, l, 1, 0, 0, false⟩) := by
    show (List.replicate n 0, (⟨1, l, 1 - ldW (List.replicate n 0) p.rd % 2, 0, 0, false⟩ : Wr)) = _
    rw [z]; rfl
  have e2 : wIt p now 2 (List.replicate n 0, wr0 l) = (List.replicate n 0, ⟨2, l, 1, 1, 0, false⟩) := by
    rw [wIt, e1]
    show (List.replicate n 0, (⟨2, l, 1, 1 - ldW (List.replicate n 0) (p.slot 1) % 2, 0, false⟩ : Wr)) = _
    rw [z]; rfl
  have e3 : wIt p now 3 (List.replicate n 0, wr0 l) = (stW (List.replicate n 0) (p.buf 1 1) l.length, ⟨3, l, 1, 1, 0, false⟩) := by
    rw [wIt, e2]; rfl
  have e4 : wIt p now 4 (List.replicate n 0, wr0 l) = (stW (stW (List.replicate n 0) (p.buf 1 1) l.length) (p.buf 1 1 + 1) (now % 4294967296), ⟨4, l, 1, 1, 0, false⟩) := by
    rw [wIt, e3]; rfl
  have hsr := ok.src
  have hw := ok.words
  have hrd := ok.rd
  have hln := ok.len
  have hb := buf_at p 1 1 (.inr rfl) (.inr rfl) hw
  have hn1 : ∀ a v : Int, (stW (List.replicate n (0 : Int)) a v).length = n := fun a v => by rw [stW, List.length_set, List.length_replicate]
  refine ⟨fun k hk => ?_, by rw [e1], by rw [e2], by rw [e3], fun j => ?_⟩
  · have : k = 0 ∨ k = 1 ∨ k = 2 := by omega
    rcases this with rfl | rfl | rfl
    · rfl
    · rw [e1]
    · rw [e2]
  · induction j with
    | zero =>
      intro _
      rw [show 4 + 0 = 4 from rfl, e4, if_pos h0]
      refine ⟨rfl, ⟨?_, ?_, fun i _ h => absurd h (by omega)⟩, ?_, ?_⟩
      · rw [ld_st _ _ _ _ (by omega) (by omega) (by omega), ldW_same _ _ _ (by rw [List.length_replicate]; omega)]
      · rw [ldW_same _ _ _ (by rw [hn1]; omega)]; omega
      · rw [ld_st _ _ _ _ (by omega) (by omega) (by omega), ld_st _ _ _ _ (by omega) (by omega) (by omega)]; exact z _
      · show (stW (stW _ _ _) _ _).length = n
        rw [stW, List.length_set, hn1]
    | succ j ih =>
      intro hj
      obtain ⟨i1, i2, i3, i4⟩ := ih (by omega)
      rw [if_pos (by omega)] at i1
      rw [show 4 + (j + 1) = (4 + j) + 1 by omega]
      rw [wIt, i1]
      obtain ⟨ws, hws⟩ : ∃ ws, (wIt p now (4 + j) (List.replicate n 0, wr0 l)).1 = ws := ⟨_, rfl⟩
      rw [hws] at i2 i3 i4 ⊢
      have hv : l.getD j 0 = l[j]'(by omega) := by rw [List.getD_eq_getElem?_getD, List.getElem?_eq_getElem (by omega)]; rfl
      have em : wMem p ws now ⟨4, l, 1, 1, j, false⟩ = stW ws (p.buf 1 1 + 2 + j) (l[j]'(by omega)) := by
        show stW ws _ (l.getD j 0) = _
        rw [hv]
      rw [em]
      refine ⟨rfl, ⟨?_, ?_, fun i hi hij => ?_⟩, ?_, ?_⟩
      · rw [ld_st _ _ _ _ (by omega) (by omega) (by omega)]; exact i2.len
      · rw [ld_st _ _ _ _ (by omega) (by omega) (by omega)]; exact i2.stamp
      · by_cases e : i = j
        · subst e
          exact ldW_same _ _ _ (by omega)
        · rw [ld_st _ _ _ _ (by omega) (by omega) (by omega)]; exact i2.words i hi (by omega)
      · rw [ld_st _ _ _ _ (by omega) (by omega) (by omega)]; exact i3
      · rw [stW, List.length_set]; exact i4
/-- The end of the write. -/
theorem alone_w_end (p : Plc) (n : Nat) (ok : p.ok n) (l : List Int) (h0 : 0 < l.length) (hl : (l.length : Int) ≤ p.words) (now : Int) (hnow : 0 ≤ now ∧ now < 4294967296) :
    (wIt p now (l.length + 5) (List.replicate n 0, wr0 l)).2.pc = 6 ∧ (wIt p now (l.length + 6) (List.replicate n 0, wr0 l)).2.pc = 7 ∧ WrMem p (wIt p now (l.length + 6) (List.replicate n 0, wr0 l)).1 l now l.length ∧ ldW (wIt p now (l.length + 6) (List.replicate n 0, wr0 l)).1 p.src = 1 ∧ ldW (wIt p now (l.length + 6) (List.replicate n 0, wr0 l)).1 (p.slot 1) = 1 := by
  obtain ⟨i1, i2, i3, i4⟩ := (alone_w p n ok l h0 hl now hnow).2.2.2.2 l.length (Nat.le_refl _)
  rw [if_neg (Nat.lt_irrefl _)] at i1
  have hsr := ok.src
  have hw := ok.words
  have hrd := ok.rd
  have hln := ok.len
  have hb := buf_at p 1 1 (.inr rfl) (.inr rfl) hw
  have hs := slot_at p 1 (.inr rfl)
  obtain ⟨ws, hws⟩ : ∃ ws, (wIt p now (4 + l.length) (List.replicate n 0, wr0 l)).1 = ws := ⟨_, rfl⟩
  rw [hws] at i2 i3 i4
  have e5 : wIt p now (l.length + 5) (List.replicate n 0, wr0 l) = (stW ws (p.slot 1) 1, ⟨6, l, 1, 1, l.length, ldW ws p.src % 2 == 1⟩) := by
    rw [show l.length + 5 = (4 + l.length) + 1 by omega, wIt, i1, hws]; rfl
  have e6 : wIt p now (l.length + 6) (List.replicate n 0, wr0 l) = (stW (stW ws (p.slot 1) 1) p.src 1, ⟨7, l, 1, 1, l.length, ldW ws p.src % 2 == 1⟩) := by
    rw [show l.length + 6 = (l.length + 5) + 1 by omega, wIt, e5]; rfl
  have hn1 : (stW ws (p.slot 1) 1).length = n := by rw [stW, List.length_set]; exact i4
  have keep : ∀ a : Int, p.src + 3 ≤ a → ldW (stW (stW ws (p.slot 1) 1) p.src 1) a = ldW ws a := fun a ha => by
    rw [ld_st _ _ _ _ (by omega) (by omega) (by omega), ld_st _ _ _ _ (by omega) (by omega) (by omega)]
  rw [e5, e6]
  refine ⟨rfl, rfl, ⟨(keep _ (by omega)).trans i2.len, (keep _ (by omega)).trans i2.stamp, fun i h1 h2 => (keep _ (by omega)).trans (i2.words i h1 h2)⟩, ldW_same _ _ _ (by omega), ?_⟩
  rw [ld_st _ _ _ _ (by omega) (by omega) (by omega)]
  exact ldW_same _ _ _ (by omega)
/-- The steps of a write alone: how many there are, and which one stores the tick. -/
theorem alone_w_pc (p : Plc) (n : Nat) (ok : p.ok n) (l : List Int) (h0 : 0 < l.length) (hl : (l.length : Int) ≤ p.words) (now : Int) (hnow : 0 ≤ now ∧ now < 4294967296) (k : Nat) (hk : k < l.length + 6) :
    (wIt p now k (List.replicate n 0, wr0 l)).2.pc ≤ 6 ∧ (wDid p (wIt p now k (List.replicate n 0, wr0 l)).1 (wIt p now k (List.replicate n 0, wr0 l)).2).stamped = decide (k = 3) := by
  obtain ⟨_, q1, q2, q3, q4⟩ := alone_w p n ok l h0 hl now hnow
  have h : k = 0 ∨ k = 1 ∨ k = 2 ∨ k = 3 ∨ (∃ j, k = 4 + j ∧ j ≤ l.length) ∨ k = l.length + 5 := by
    by_cases e : k ≤ 3
    · omega
    · by_cases e2 : k = l.length + 5
      · omega
      · exact .inr (.inr (.inr (.inr (.inl ⟨k - 4, by omega, by omega⟩))))
  rcases h with rfl | rfl | rfl | rfl | ⟨j, rfl, hj⟩ | rfl
  · exact ⟨by show 0 ≤ 6; omega, rfl⟩
  · rw [q1]; exact ⟨by show 1 ≤ 6; omega, rfl⟩
  · rw [q2]; exact ⟨by show 2 ≤ 6; omega, rfl⟩
  · rw [q3]; exact ⟨by show 3 ≤ 6; omega, rfl⟩
  · rw [(q4 j hj).1, decide_eq_false (by omega)]
    by_cases e : j < l.length
    · rw [if_pos e]; exact ⟨by show 4 ≤ 6; omega, rfl⟩
    · rw [if_neg e]; exact ⟨by show 5 ≤ 6; omega, rfl⟩
  · have e := (alone_w_end p n ok l h0 hl now hnow).1
    rw [decide_eq_false (by omega)]
    refine ⟨by rw [e]; omega, ?_⟩
    simp only [wDid, e]
/-- A read alone behind it. -/
theorem alone_r (p : Plc) (ws : List Int) (ok : p.ok ws.length) (l : List Int) (h0 : 0 < l.length) (hl : (l.length : Int) ≤ p.words) (now : Int) (hm : WrMem p ws l now l.length) (h1 : ldW ws p.src = 1) (h2 : ldW ws (p.slot 1) = 1) :
    (rIt p 1 (ws, rdr0)).2 = ⟨1, 1, 0, 0, 0, []⟩ ∧ (rIt p 2 (ws, rdr0)).2 = ⟨2, 1, 0, 0, 0, []⟩ ∧ (rIt p 3 (ws, rdr0)).2 = ⟨3, 1, 1, 0, 0, []⟩ ∧ (rIt p 4 (ws, rdr0)).2 = ⟨4, 1, 1, l.length, 0, []⟩ ∧
    ∀ j, j ≤ l.length → (rIt p (5 + j) (ws, rdr0)).2 = ⟨if j < l.length then 5 else 6, 1, 1, l.length, now, l.take j⟩ ∧ (rIt p (5 + j) (ws, rdr0)).1 = stW ws p.rd 1 := by
  have hsr := ok.src
  have hw := ok.words
  have hrd := ok.rd
  have hln := ok.len
  have hb := buf_at p 1 1 (.inr rfl) (.inr rfl) hw
  have hs := slot_at p 1 (.inr rfl)
  have keep : ∀ a : Int, 0 ≤ a → a < p.rd → ldW (stW ws p.rd 1) a = ldW ws a := fun a ha hb => ld_st _ _ _ _ (by omega) ha (by omega)
  have e1 : rIt p 1 (ws, rdr0) = (ws, ⟨1, 1, 0, 0, 0, []⟩) := by
    show (ws, (⟨1, ldW ws p.src % 2, 0, 0, 0, []⟩ : Rdr)) = _
    rw [h1]; rfl
  have e2 : rIt p 2 (ws, rdr0) = (stW ws p.rd 1, ⟨2, 1, 0, 0, 0, []⟩) := by rw [rIt, e1]; rfl
  have e3 : rIt p 3 (ws, rdr0) = (stW ws p.rd 1, ⟨3, 1, 1, 0, 0, []⟩) := by
    rw [rIt, e2]
    show (stW ws p.rd 1, (⟨3, 1, ldW (stW ws p.rd 1) (p.slot 1) % 2, 0, 0, []⟩ : Rdr)) = _
    rw [keep _ (by omega) (by omega), h2]; rfl
  have hl0 : ldW (stW ws p.rd 1) (p.buf 1 1) = l.length := (keep _ (by omega) (by omega)).trans hm.len
  have e4 : rIt p 4 (ws, rdr0) = (stW ws p.rd 1, ⟨4, 1, 1, l.length, 0, []⟩) := by
    rw [rIt, e3]
    have q1 : rNext p (stW ws p.rd 1) ⟨3, 1, 1, 0, 0, []⟩ = ⟨4, 1, 1, (rLeft p (stW ws p.rd 1) ⟨3, 1, 1, 0, 0, []⟩).toNat, 0, []⟩ := by simp only [rNext]; rw [if_neg (by rw [hl0]; omega)]
    have q2 : rLeft p (stW ws p.rd 1) ⟨3, 1, 1, 0, 0, []⟩ = (l.length : Int) := by simp only [rLeft]; rw [hl0, if_pos hl]
    rw [q1, q2, Int.toNat_natCast]; rfl
  have e5 : rIt p 5 (ws, rdr0) = (stW ws p.rd 1, ⟨5, 1, 1, l.length, now, []⟩) := by
    rw [rIt, e4]
    show (stW ws p.rd 1, (⟨5, 1, 1, l.length, ldW (stW ws p.rd 1) (p.buf 1 1 + 1), []⟩ : Rdr)) = _
    rw [keep _ (by omega) (by omega), hm.stamp]
  refine ⟨by rw [e1], by rw [e2], by rw [e3], by rw [e4], fun j => ?_⟩
  induction j with
  | zero => intro _; rw [show 5 + 0 = 5 from rfl, e5, if_pos h0]; exact ⟨rfl, rfl⟩
  | succ j ih =>
    intro hj
    obtain ⟨i1, i2⟩ := ih (by omega)
    rw [if_pos (by omega)] at i1
    have ht : (l.take j).length = j := by rw [List.length_take]; omega
    rw [show 5 + (j + 1) = (5 + j) + 1 by omega, rIt, i1, i2]
    have hv : ldW (stW ws p.rd 1) (p.buf 1 1 + 2 + ((l.take j).length : Int)) = l[j]'(by omega) := by rw [ht, keep _ (by omega) (by omega)]; exact hm.words j (by omega) (by omega)
    refine ⟨?_, rfl⟩
    show (⟨if (l.take j).length + 1 < l.length then 5 else 6, 1, 1, l.length, now, l.take j ++ [ldW (stW ws p.rd 1) (p.buf 1 1 + 2 + ((l.take j).length : Int))]⟩ : Rdr) = _
    rw [hv, ht, List.take_succ_eq_append_getElem (by omega)]
theorem alone_r_did (p : Plc) (ws : List Int) (ok : p.ok ws.length) (l : List Int) (h0 : 0 < l.length) (hl : (l.length : Int) ≤ p.words) (now : Int) (hm : WrMem p ws l now l.length) (h1 : ldW ws p.src = 1) (h2 : ldW ws (p.slot 1) = 1) (t : Int) :
    (∀ k, k < l.length + 5 → (rIt p k (ws, rdr0)).2.pc ≤ 5) ∧ (rIt p (l.length + 5) (ws, rdr0)).2.pc = 6 ∧ rDid p (rIt p (l.length + 4) (ws, rdr0)).1 t (rIt p (l.length + 4) (ws, rdr0)).2 = { done := true, data := l, valid := decide (t - now ≤ p.period) } := by
  obtain ⟨q1, q2, q3, q4, q5⟩ := alone_r p ws ok l h0 hl now hm h1 h2
  refine ⟨fun k hk => ?_, ?_, ?_⟩
  · have h : k = 0 ∨ k = 1 ∨ k = 2 ∨ k = 3 ∨ k = 4 ∨ ∃ j, k = 5 + j ∧ j < l.length := by
      by_cases e : k ≤ 4
      · omega
      · exact .inr (.inr (.inr (.inr (.inr ⟨k - 5, by omega, by omega⟩))))
    rcases h with rfl | rfl | rfl | rfl | rfl | ⟨j, rfl, hj⟩
    · exact Nat.zero_le _
    · rw [q1]; show 1 ≤ 5; omega
    · rw [q2]; show 2 ≤ 5; omega
    · rw [q3]; show 3 ≤ 5; omega
    · rw [q4]; show 4 ≤ 5; omega
    · rw [(q5 j (by omega)).1, if_pos hj]; exact Nat.le_refl _
  · rw [show l.length + 5 = 5 + l.length by omega, (q5 _ (Nat.le_refl _)).1, if_neg (Nat.lt_irrefl _)]
  · have e : l.length + 4 = 5 + (l.length - 1) := by omega
    obtain ⟨i1, i2⟩ := q5 (l.length - 1) (by omega)
    rw [e, i1, i2, if_pos (by omega)]
    have ht : (l.take (l.length - 1)).length = l.length - 1 := by rw [List.length_take]; omega
    have hb := buf_at p 1 1 (.inr rfl) (.inr rfl) ok.words
    have hsr := ok.src
    have hrd := ok.rd
    have hv : ldW (stW ws p.rd 1) (p.buf 1 1 + 2 + ((l.take (l.length - 1)).length : Int)) = l[l.length - 1]'(by omega) := by
      rw [ht, ld_st _ _ _ _ (by omega) (by omega) (by omega)]
      exact hm.words (l.length - 1) (by omega) (by omega)
    have hall : l.take (l.length - 1) ++ [l[l.length - 1]'(by omega)] = l := by
      rw [← List.take_succ_eq_append_getElem (by omega), show l.length - 1 + 1 = l.length by omega, List.take_length]
    simp only [rDid]
    rw [if_neg (by rw [ht]; omega), hv, hall]
end
section
open Go.RowKit
set_option linter.unusedSimpArgs false
set_option linter.unusedVariables false

/-- A list of words as an argument. -/
theorem u32sAt_of {w : World} {v : Value} (h : RdV w (.slice 1 (.int .u32)) v) : ∃ (a : Option Addr) (c : Nat) (l : List Int), v = .slice a l.length c ∧ RowAt w 1 v l.length (u32s l) ∧ Words l := by
  obtain ⟨l, h1, h2⟩ := rows_of (n := 0) (fun x : Int => [Value.int .u32 x]) (fun x => 0 ≤ x ∧ x < 4294967296) (fun cs _ hr => by
    obtain ⟨x, hx, hw⟩ := hr
    exact ⟨x, hx, by have := bounds_u32 hw; omega⟩) (fun _ => rfl) h
  have e : l.flatMap (fun x : Int => [Value.int .u32 x]) = u32s l := (List.map_eq_flatMap).symm
  rw [e] at h1
  obtain ⟨a, c, rfl, _, _⟩ := h1.shape
  exact ⟨a, c, l, rfl, h1, h2⟩

theorem bool_or_r (b : Bool) : (false || b) = b := by simp
set_option maxRecDepth 100000 in
set_option maxHeartbeats 8000000 in
theorem fourAlone_main (a0 : Option Addr) (c0 : Nat) (l : List Int) (per s0 d0 : Int) (hper : 0 ≤ per ∧ per ≤ 65535) (hs0 : 0 ≤ s0 ∧ s0 ≤ 65535) (hd0 : 0 ≤ d0 ∧ d0 ≤ 65535) (hlw : Words l) (w : World) (hrow : RowAt w 1 (.slice a0 l.length c0) l.length (u32s l)) :
    Calls Try.prog 4 #[.slice a0 l.length c0, .int .u16 per, .agg #[.int .u16 s0, .int .u16 d0]] w fun e w' => e = .returned (.bool true) ∧ Below w.heap.size w w' := by
  have HR := Kp.mk hrow
  have HLW := Kp.mk hlw
  have hcap : l.length ≤ maxLen := by obtain ⟨_, _, e, q1, q2⟩ := hrow.shape; exact Nat.le_trans q1 q2
  unfold maxLen at hcap
  clear hrow hlw
  have v1 : IntKind.i64.wrap per = per := IntWalk.i64_in _ (by omega)
  have v2 : IntKind.i64.wrap s0 = s0 := IntWalk.i64_in _ (by omega)
  have v3 : IntKind.i64.wrap d0 = d0 := IntWalk.i64_in _ (by omega)
  have v4 : IntKind.i64.wrap (s0 + d0) = s0 + d0 := IntWalk.i64_in _ (by omega)
  have v5 : IntKind.i64.wrap (s0 + d0 - s0) = s0 + d0 - s0 := IntWalk.i64_in _ (by omega)
  have hlow := plc4_low 16 per (by omega)
  have hin : (plc4 16 per).In 77 := plc4_in 16 per 77 (by decide)
  have hok : (plc4 16 per).ok 77 := plc4_good 16 per 77 (by omega) (by decide)
  go_enter Try.func4, Try.ntmps4
  have HB0 : Kp (Below w.heap.size w w) := ⟨Below.refl _ _⟩
  go_wp2_with fail
  refine (wakes4_any _).mono ?_
  rintro e w1 ⟨rfl, hb⟩
  have tk1 : Kp (w1.heap[w.heap.size]? = some (.cells #[.int .u16 s0, .int .u16 d0] 48 (0, 0))) := ⟨blk_below (blk_new _ _) hb⟩
  have HB1 : Kp (Below w.heap.size w w1) := ⟨below_call (below_al HB0.out _) hb⟩
  clear HB0 hb
  have tkc0 : w1.cell? ⟨w.heap.size, 0, none⟩ = some (.int .u16 s0) := (cell_blk tk1.out 0).trans rfl
  have tkc1 : w1.cell? ⟨w.heap.size, 1, none⟩ = some (.int .u16 d0) := (cell_blk tk1.out 1).trans rfl
  have tkl := blk_lt tk1.out
  by_cases hl1 : l.length < 1
  · have n1 : (l.length : Int) < 1 := by omega
    go_wp2
    go_ret
    exact ⟨rfl, HB1.out⟩
  by_cases hl2 : 16 < l.length
  · have n1 : ¬ (l.length : Int) < 1 := by omega
    have n2 : (16 : Int) < (l.length : Int) := by omega
    go_wp2
    go_ret
    exact ⟨rfl, HB1.out⟩
  have n1 : ¬ (l.length : Int) < 1 := by omega
  have n2 : ¬ (16 : Int) < (l.length : Int) := by omega
  have h0 : 0 < l.length := by omega
  have hl : (l.length : Int) ≤ (plc4 16 per).words := by show (l.length : Int) ≤ 16; omega
  have hw0 := wr0_ok (plc4 16 per) l h0 hl HLW.out
  have HWO := Kp.mk (wIt_ok (plc4 16 per) s0 (show (16 : Int) ≤ 16 by decide) ((List.replicate 77 0), wr0 l) (words_rep 77) hw0)
  have HPC := Kp.mk (alone_w_pc (plc4 16 per) 77 hok l h0 hl s0 (by omega))
  have HEND := Kp.mk (alone_w_end (plc4 16 per) 77 hok l h0 hl s0 (by omega))
  clear hl1 hl2 hw0
  go_wp2_with fail
  refine (two4_any 16 per _ (two4_ok 16 per (by omega) (by omega))).mono ?_
  rintro e w2 ⟨cs, rfl, hC, hb⟩
  have tk2 : Kp (w2.heap[w.heap.size]? = some (.cells #[.int .u16 s0, .int .u16 d0] 48 (0, 0))) := ⟨blk_below tk1.out hb⟩
  have HB2 : Kp (Below w.heap.size w w2) := ⟨below_call HB1.out hb⟩
  have C2 : Kp (CfgAt w2 (.agg cs) (two4 16 per)) := ⟨hC⟩
  clear tkc0 tkc1 tkl tk1 HB1 hb
  have tkc0 : w2.cell? ⟨w.heap.size, 0, none⟩ = some (.int .u16 s0) := (cell_blk tk2.out 0).trans rfl
  have tkc1 : w2.cell? ⟨w.heap.size, 1, none⟩ = some (.int .u16 d0) := (cell_blk tk2.out 1).trans rfl
  have tkl := blk_lt tk2.out
  obtain ⟨_, _, _, _, _, _, rfl, ⟨p1, p2, p3, rfl⟩, ⟨p4, p5, p6, rfl⟩, ⟨p7, rfl⟩, ⟨p8, p9, pA, rfl⟩, ⟨pB, rfl⟩, ⟨pC, pD, pE, rfl⟩⟩ := hC.cells
  clear hC
  go_wp2_with fail
  refine (size_two _ 16 per (by omega) (by omega) _ ((C2.out.below (below_al (Below.refl _ _) _)))).mono ?_
  rintro e w3 ⟨rfl, hb⟩
  have q3 : Kp (w3.heap[w2.heap.size]? = some (.cells #[.slice p1 p2 p3, .slice p4 p5 p6, .int .i64 p7, .slice p8 p9 pA, .int .i64 pB, .slice pC pD pE] 31 (0, 0))) := ⟨blk_below (blk_new _ _) hb⟩
  have tk3 : Kp (w3.heap[w.heap.size]? = some (.cells #[.int .u16 s0, .int .u16 d0] 48 (0, 0))) := ⟨blk_below (blk_al tk2.out _) hb⟩
  have HB3 : Kp (Below w.heap.size w w3) := ⟨below_call (below_al HB2.out _) hb⟩
  have C3 : Kp (CfgAt w3 (.agg #[.slice p1 p2 p3, .slice p4 p5 p6, .int .i64 p7, .slice p8 p9 pA, .int .i64 pB, .slice pC pD pE]) (two4 16 per)) := ⟨(C2.out.below (below_al (Below.refl _ _) _)).below hb⟩
  clear tkc0 tkc1 tkl tk2 HB2 C2 hb
  have qc0 : w3.cell? ⟨w2.heap.size, 0, none⟩ = some (.slice p1 p2 p3) := (cell_blk q3.out 0).trans rfl
  have qc1 : w3.cell? ⟨w2.heap.size, 1, none⟩ = some (.slice p4 p5 p6) := (cell_blk q3.out 1).trans rfl
  have qc2 : w3.cell? ⟨w2.heap.size, 2, none⟩ = some (.int .i64 p7) := (cell_blk q3.out 2).trans rfl
  have qc3 : w3.cell? ⟨w2.heap.size, 3, none⟩ = some (.slice p8 p9 pA) := (cell_blk q3.out 3).trans rfl
  have qc4 : w3.cell? ⟨w2.heap.size, 4, none⟩ = some (.int .i64 pB) := (cell_blk q3.out 4).trans rfl
  have qc5 : w3.cell? ⟨w2.heap.size, 5, none⟩ = some (.slice pC pD pE) := (cell_blk q3.out 5).trans rfl
  have ql := blk_lt q3.out
  have tkc0 : w3.cell? ⟨w.heap.size, 0, none⟩ = some (.int .u16 s0) := (cell_blk tk3.out 0).trans rfl
  have tkc1 : w3.cell? ⟨w.heap.size, 1, none⟩ = some (.int .u16 d0) := (cell_blk tk3.out 1).trans rfl
  have tkl := blk_lt tk3.out
  go_wp2_with fail
  refine (memNew_any 77 (by decide) _).mono ?_
  rintro e w4 ⟨B, D, rfl, hM, hb, hB, hD⟩
  have HB4 : Kp (Below w3.heap.size w3 w4) := ⟨hb⟩
  clear hb
  clear qc0 qc1 qc2 qc3 qc4 qc5 ql tkc0 tkc1 tkl
  have tkd0 : w4.cell? ⟨w.heap.size, 0, none⟩ = some (.int .u16 s0) := ((HB4.out.cell (p := ⟨w.heap.size, 0, none⟩) (blk_lt tk3.out)).trans (cell_blk tk3.out 0)).trans rfl
  have tkd1 : w4.cell? ⟨w.heap.size, 1, none⟩ = some (.int .u16 d0) := ((HB4.out.cell (p := ⟨w.heap.size, 1, none⟩) (blk_lt tk3.out)).trans (cell_blk tk3.out 1)).trans rfl
  have tke : w.heap.size < w4.heap.size := Nat.lt_of_lt_of_le (blk_lt tk3.out) HB4.out.size
  have qd0 : w4.cell? ⟨w2.heap.size, 0, none⟩ = some (.slice p1 p2 p3) := ((HB4.out.cell (p := ⟨w2.heap.size, 0, none⟩) (blk_lt q3.out)).trans (cell_blk q3.out 0)).trans rfl
  have qd1 : w4.cell? ⟨w2.heap.size, 1, none⟩ = some (.slice p4 p5 p6) := ((HB4.out.cell (p := ⟨w2.heap.size, 1, none⟩) (blk_lt q3.out)).trans (cell_blk q3.out 1)).trans rfl
  have qd2 : w4.cell? ⟨w2.heap.size, 2, none⟩ = some (.int .i64 p7) := ((HB4.out.cell (p := ⟨w2.heap.size, 2, none⟩) (blk_lt q3.out)).trans (cell_blk q3.out 2)).trans rfl
  have qd3 : w4.cell? ⟨w2.heap.size, 3, none⟩ = some (.slice p8 p9 pA) := ((HB4.out.cell (p := ⟨w2.heap.size, 3, none⟩) (blk_lt q3.out)).trans (cell_blk q3.out 3)).trans rfl
  have qd4 : w4.cell? ⟨w2.heap.size, 4, none⟩ = some (.int .i64 pB) := ((HB4.out.cell (p := ⟨w2.heap.size, 4, none⟩) (blk_lt q3.out)).trans (cell_blk q3.out 4)).trans rfl
  have qd5 : w4.cell? ⟨w2.heap.size, 5, none⟩ = some (.slice pC pD pE) := ((HB4.out.cell (p := ⟨w2.heap.size, 5, none⟩) (blk_lt q3.out)).trans (cell_blk q3.out 5)).trans rfl
  have qe : w2.heap.size < w4.heap.size := Nat.lt_of_lt_of_le (blk_lt q3.out) HB4.out.size
  go_wp2_with fail
  refine (newW_two _ 16 per (by omega) (by omega) a0 c0 l h0 (by omega) _ (C3.out.below HB4.out) (HR.out.below ((HB3.out.trans (HB4.out.mono HB3.out.size))))).mono ?_
  rintro e w5 ⟨W, g, dc, rfl, hW, hb, hWl, hgl, hgW⟩
  have HB5 : Kp (Below w3.heap.size w3 w5) := ⟨HB4.out.trans (hb.mono HB4.out.size)⟩
  have hM5 := hM.out.below hb
  have lB := blk_lt hM.out.head
  have lD := blk_lt hM.out.words
  have hgD : g ≠ D := by omega
  have hWD : W ≠ D := by omega
  have hW3 : w3.heap.size ≤ W := Nat.le_trans HB4.out.size hWl
  have HWr : Kp (WrAt w5 W g dc (plc4 16 per) (wIt (plc4 16 per) s0 0 ((List.replicate 77 0), wr0 l)).2) := hW
  have HMm : Kp (MemAt w5 B D (wIt (plc4 16 per) s0 0 ((List.replicate 77 0), wr0 l)).1) := ⟨hM5⟩
  clear tkd0 tkd1 qd0 qd1 qd2 qd3 qd4 qd5 tke qe
  clear hM hM5 hW hb
  go_wp2_with fail
  go_loopw [13, 56] (fun vb i wr => ∃ (k : Nat) (b : Bool), k ≤ l.length + 6 ∧ i = .int .i64 k ∧ vb = .bool b ∧ Kp (b = decide (4 ≤ k)) ∧ Kp (Below w3.heap.size w3 wr) ∧ Kp (MemAt wr B D (wIt (plc4 16 per) s0 k ((List.replicate 77 0), wr0 l)).1) ∧ Kp (WrAt wr W g dc (plc4 16 per) (wIt (plc4 16 per) s0 k ((List.replicate 77 0), wr0 l)).2)) (fun vb i wr => l.length + 6 - (intOf i).toNat)
  case atStart => exact ⟨0, false, by omega, rfl, rfl, ⟨rfl⟩, HB5, HMm, HWr⟩
  case round =>
    obtain ⟨k, b, hk, rfl, rfl, HBb, HB, HM, HW⟩ := hrel
    clear HB5 HMm HWr
    by_cases hlt : k < l.length + 6
    · obtain ⟨e1, e2⟩ := HPC.out k hlt
      obtain ⟨d, hd⟩ : ∃ d, wDid (plc4 16 per) (wIt (plc4 16 per) s0 k ((List.replicate 77 0), wr0 l)).1 (wIt (plc4 16 per) s0 k ((List.replicate 77 0), wr0 l)).2 = d := ⟨_, rfl⟩
      have ho := (HWO.out k)
      have HSt := wstep_any (plc4 16 per) hlow W B D g dc (wIt (plc4 16 per) s0 k ((List.replicate 77 0), wr0 l)).1 s0 (by rw [ho.2.2]; exact hin) ho.1 (wIt (plc4 16 per) s0 k ((List.replicate 77 0), wr0 l)).2 ho.2.1.hx ho.2.1.hy ho.2.1.h0 ho.2.1.dw ho.2.1.i4 hgD hgW wr HW.out HM.out
      rw [hd] at HSt e2
      simp only [didA] at HSt
      have HSt2 := Kp.mk HSt
      clear HSt hd ho HM HW e1
      have HE2 := Kp.mk e2
      clear e2
      have hki : (k : Int) < (l.length : Int) + 6 := by omega
      go_wp2_with fail
      refine HSt2.out.mono ?_
      rintro e w9 ⟨rfl, hW9, hM9, hS⟩
      have HB9 : Kp (Below w3.heap.size w3 w9) := ⟨hS.below HB.out (fun q hq => by simp only [List.mem_cons, List.not_mem_nil, or_false] at hq; omega) HB.out.size⟩
      have HM9 := Kp.mk hM9
      have HW9 := Kp.mk hW9
      clear hW9 hM9 hS HSt2 HB
      cases hb : b with
      | true =>
        have hb4 : (4 ≤ k) := by have h := HBb.out; rw [hb] at h; exact of_decide_eq_true h.symm
        clear hb
        go_wp2
        go_roundw
        case rel => exact ⟨k + 1, true, by omega, by go_num, rfl, ⟨(decide_eq_true (by omega)).symm⟩, ⟨below_al HB9.out _⟩, ⟨HM9.out.al _⟩, ⟨HW9.out.below (below_al (Below.refl _ _) _)⟩⟩
        case measure => simp [intOf]; omega
      | false =>
        have hb4 : ¬ (4 ≤ k) := by have h := HBb.out; rw [hb] at h; exact of_decide_eq_false h.symm
        clear hb
        obtain ⟨st, hst⟩ : ∃ st, d.stamped = st := ⟨_, rfl⟩
        have HST : Kp (st = decide (4 ≤ k + 1)) := ⟨by rw [← hst, HE2.out]; by_cases q : k = 3 <;> simp [q] <;> omega⟩
        clear HE2
        go_wp2
        go_roundw
        case rel => exact ⟨k + 1, st, by omega, by go_num, rfl, HST, ⟨below_al HB9.out _⟩, ⟨HM9.out.al _⟩, ⟨HW9.out.below (below_al (Below.refl _ _) _)⟩⟩
        case measure => simp [intOf]; omega
    · obtain rfl : k = l.length + 6 := by omega
      obtain rfl : b = true := HBb.out.trans (decide_eq_true (by omega))
      obtain ⟨q6, q7, q8, q9, q10⟩ := HEND.out
      have hwb := HW.out.blk
      rw [q7] at hwb
      obtain ⟨m, hm⟩ : ∃ m, (wIt (plc4 16 per) s0 (l.length + 6) ((List.replicate 77 0), wr0 l)).1 = m := ⟨_, rfl⟩
      have hmw := (HWO.out (l.length + 6)).1
      have hml := (HWO.out (l.length + 6)).2.2
      rw [hm] at HM q8 q9 q10 hmw hml
      obtain ⟨WB, hWB⟩ : ∃ WB : Obj, some WB = some (.cells #[.int .i64 (plc4 16 per).src, .int .i64 (plc4 16 per).rd, .int .i64 (plc4 16 per).words, .int .i64 (plc4 16 per).period, .slice (some ⟨g, 0, none⟩) (wIt (plc4 16 per) s0 (l.length + 6) ((List.replicate 77 0), wr0 l)).2.data.length dc, .int .u32 (wIt (plc4 16 per) s0 (l.length + 6) ((List.replicate 77 0), wr0 l)).2.pair, .int .u32 (wIt (plc4 16 per) s0 (l.length + 6) ((List.replicate 77 0), wr0 l)).2.index, .int .i64 ((wIt (plc4 16 per) s0 (l.length + 6) ((List.replicate 77 0), wr0 l)).2.i : Int), .bool (wIt (plc4 16 per) s0 (l.length + 6) ((List.replicate 77 0), wr0 l)).2.marked, .nilFunc] 77 (0, 0)) := ⟨_, rfl⟩
      have HWblk : Kp (wr.heap[W]? = some WB) := ⟨hwb.trans hWB.symm⟩
      have HWN := Kp.mk fun (now : Int) (w : World) (hb : w.heap[W]? = some WB) => wstep_nil W B D (plc4 16 per) (some ⟨g, 0, none⟩) (wIt (plc4 16 per) s0 (l.length + 6) ((List.replicate 77 0), wr0 l)).2.data.length dc (wIt (plc4 16 per) s0 (l.length + 6) ((List.replicate 77 0), wr0 l)).2.pair (wIt (plc4 16 per) s0 (l.length + 6) ((List.replicate 77 0), wr0 l)).2.index (wIt (plc4 16 per) s0 (l.length + 6) ((List.replicate 77 0), wr0 l)).2.i (wIt (plc4 16 per) s0 (l.length + 6) ((List.replicate 77 0), wr0 l)).2.marked now w (hb.trans hWB)
      have hmln : m.length = 77 := hml.trans (by simp)
      have HRD := Kp.mk (alone_r_did (plc4 16 per) m (by rw [hmln]; exact hok) l h0 hl s0 q8 q9 q10 (s0 + d0))
      have HRO := Kp.mk (rIt_ok (plc4 16 per) (show (1 : Int) ≤ 16 by decide) (m, rdr0) hmw (rdr0_ok _ (show (1 : Int) ≤ 16 by decide)))
      have lWb := blk_lt HWblk.out
      have lBb := blk_lt HM.out.head
      have lDb := blk_lt HM.out.words
      clear q6 q7 q8 q9 q10 hwb hmw hml hWB HW HWO HEND HPC hm HBb
      have tkd0 : wr.cell? ⟨w.heap.size, 0, none⟩ = some (.int .u16 s0) := ((HB.out.cell (p := ⟨w.heap.size, 0, none⟩) (blk_lt tk3.out)).trans (cell_blk tk3.out 0)).trans rfl
      have tkd1 : wr.cell? ⟨w.heap.size, 1, none⟩ = some (.int .u16 d0) := ((HB.out.cell (p := ⟨w.heap.size, 1, none⟩) (blk_lt tk3.out)).trans (cell_blk tk3.out 1)).trans rfl
      have tke : w.heap.size < wr.heap.size := Nat.lt_of_lt_of_le (blk_lt tk3.out) HB.out.size
      have qd0 : wr.cell? ⟨w2.heap.size, 0, none⟩ = some (.slice p1 p2 p3) := ((HB.out.cell (p := ⟨w2.heap.size, 0, none⟩) (blk_lt q3.out)).trans (cell_blk q3.out 0)).trans rfl
      have qd1 : wr.cell? ⟨w2.heap.size, 1, none⟩ = some (.slice p4 p5 p6) := ((HB.out.cell (p := ⟨w2.heap.size, 1, none⟩) (blk_lt q3.out)).trans (cell_blk q3.out 1)).trans rfl
      have qd2 : wr.cell? ⟨w2.heap.size, 2, none⟩ = some (.int .i64 p7) := ((HB.out.cell (p := ⟨w2.heap.size, 2, none⟩) (blk_lt q3.out)).trans (cell_blk q3.out 2)).trans rfl
      have qd3 : wr.cell? ⟨w2.heap.size, 3, none⟩ = some (.slice p8 p9 pA) := ((HB.out.cell (p := ⟨w2.heap.size, 3, none⟩) (blk_lt q3.out)).trans (cell_blk q3.out 3)).trans rfl
      have qd4 : wr.cell? ⟨w2.heap.size, 4, none⟩ = some (.int .i64 pB) := ((HB.out.cell (p := ⟨w2.heap.size, 4, none⟩) (blk_lt q3.out)).trans (cell_blk q3.out 4)).trans rfl
      have qd5 : wr.cell? ⟨w2.heap.size, 5, none⟩ = some (.slice pC pD pE) := ((HB.out.cell (p := ⟨w2.heap.size, 5, none⟩) (blk_lt q3.out)).trans (cell_blk q3.out 5)).trans rfl
      have qe : w2.heap.size < wr.heap.size := Nat.lt_of_lt_of_le (blk_lt q3.out) HB.out.size
      go_wp2_with fail
      refine (newR_two _ 16 per (by omega) (by omega) _ (C3.out.below HB.out)).mono ?_
      rintro e w10 ⟨R, rfl, hR, hb, hRl⟩
      have HB10 : Kp (Below w3.heap.size w3 w10) := ⟨HB.out.trans (hb.mono HB.out.size)⟩
      have HM10 := Kp.mk (HM.out.below hb)
      have HW10 : Kp (w10.heap[W]? = some WB) := ⟨blk_below HWblk.out hb⟩
      have lR := blk_lt hR.out.blk
      have hR3 : w3.heap.size ≤ R := Nat.le_trans HB.out.size hRl
      have hRB : B < R ∧ D < R ∧ W < R := ⟨by omega, by omega, by omega⟩
      have hT3 : w3.heap.size ≤ w10.heap.size := HB10.out.size
      clear tkd0 tkd1 qd0 qd1 qd2 qd3 qd4 qd5 tke qe
      clear HB HM HWblk hb hRl lWb lBb lDb
      go_wp2_with fail
      go_loopw [73] (fun i wr => ∃ (k : Nat) (da : Option Addr) (dr : Nat) (d : DidV) (a : Option Addr) (kk : Nat), k ≤ l.length + 5 ∧ i = .int .i64 k ∧ Kp (Below w3.heap.size w3 wr) ∧ Kp (MemAt wr B D (rIt (plc4 16 per) k (m, rdr0)).1) ∧ Kp (RdAt wr R (R + 1) (plc4 16 per) (rIt (plc4 16 per) k (m, rdr0)).2 da dr) ∧
        Kp (∀ q, (Value.slice da (rIt (plc4 16 per) k (m, rdr0)).2.data.length dr).ownBlock = some q → q ≠ D ∧ q ≠ W ∧ q ≠ w10.heap.size) ∧ Kp (wr.heap[W]? = some WB) ∧ Kp (wr.heap[w10.heap.size]? = some (.cells #[.bool d.done, .int .i64 d.code, .slice a d.data.length kk, .bool d.valid, .int .i64 d.count, .bool d.mark, .bool d.ring, .bool d.stamped, .int .i64 d.buffer] 53 (0, 0))) ∧ Kp (RowAt wr 1 (.slice a d.data.length kk) d.data.length (u32s d.data)) ∧
        Kp (k = l.length + 5 → d = { done := true, data := l, valid := decide (s0 + d0 - s0 ≤ (plc4 16 per).period) })) (fun i wr => l.length + 5 - (intOf i).toNat)
      case atStart => exact ⟨0, none, 0, {}, none, 0, by omega, rfl, ⟨below_al HB10.out _⟩, ⟨HM10.out.al _⟩, ⟨hR.out.below (below_al (Below.refl _ _) _)⟩, ⟨fun q hq => by cases hq⟩, ⟨blk_al HW10.out _⟩, ⟨blk_new _ _⟩, ⟨nil_row _⟩, ⟨fun e => absurd e (by omega)⟩⟩
      case round =>
        obtain ⟨k, da, dr, d, a, kk, hk, rfl, HB, HM, HR1, HQ, HWb, HT, HRW, HE⟩ := hrel
        clear HB10 HM10 HW10 hR
        by_cases hlt : k < l.length + 5
        · obtain ⟨d2, hd2⟩ : ∃ d2, rDid (plc4 16 per) (rIt (plc4 16 per) k (m, rdr0)).1 (s0 + d0) (rIt (plc4 16 per) k (m, rdr0)).2 = d2 := ⟨_, rfl⟩
          have HE2 : Kp (k + 1 = l.length + 5 → d2 = { done := true, data := l, valid := decide (s0 + d0 - s0 ≤ (plc4 16 per).period) }) := ⟨fun e => by
            have h := HRD.out.2.2
            rw [show l.length + 4 = k by omega] at h
            exact hd2.symm.trans h⟩
          have ho := HRO.out k
          have HSt := rstep_any (plc4 16 per) hlow R (R + 1) B D (rIt (plc4 16 per) k (m, rdr0)).1 (s0 + d0) (by rw [ho.2.2, hmln]; exact hin) ho.1 (rIt (plc4 16 per) k (m, rdr0)).2 ho.2.1.hx ho.2.1.hy ho.2.1.lw ho.2.1.i5 ho.2.1.st (by omega) (by omega) (by omega) da dr wr HR1.out HM.out (fun q hq => (HQ.out q hq).1)
          rw [hd2] at HSt
          simp only [didA] at HSt
          have HSt2 := Kp.mk HSt
          have HOW := Kp.mk HR1.out.own
          have lT := blk_lt HT.out
          have lWb := blk_lt HWb.out
          have lDb := blk_lt HM.out.words
          have hki : (k : Int) < (l.length : Int) + 5 := by omega
          clear HSt hd2 ho HM HR1
          go_wp2_with fail
          refine HSt2.out.mono ?_
          rintro e w11 ⟨v, rfl, hv, da', dr', h2, h3, h4, hvq, hf⟩
          obtain ⟨a', kk', rfl, _, _⟩ := hv.shape
          have hTn : w10.heap.size ∉ R :: D :: (Value.slice da (rIt (plc4 16 per) k (m, rdr0)).2.data.length dr).ownBlock.toList := by
            simp only [List.mem_cons, Option.mem_toList, not_or]
            exact ⟨by omega, by omega, fun hq => (HQ.out _ hq).2.2 rfl⟩
          have hWn : W ∉ R :: D :: (Value.slice da (rIt (plc4 16 per) k (m, rdr0)).2.data.length dr).ownBlock.toList := by
            simp only [List.mem_cons, Option.mem_toList, not_or]
            exact ⟨by omega, by omega, fun hq => (HQ.out _ hq).2.1 rfl⟩
          have HQ9 : Kp (∀ q, (Value.slice da' (rIt (plc4 16 per) (k + 1) (m, rdr0)).2.data.length dr').ownBlock = some q → q ≠ D ∧ q ≠ W ∧ q ≠ w10.heap.size) := ⟨fun q hq => by
            rcases hf with hf | hf
            · exact HQ.out q (hf ▸ hq)
            · have := hf q hq; exact ⟨by omega, by omega, by omega⟩⟩
          have HT9 : Kp (w11.heap[w10.heap.size]? = some (.cells #[.bool d.done, .int .i64 d.code, .slice a d.data.length kk, .bool d.valid, .int .i64 d.count, .bool d.mark, .bool d.ring, .bool d.stamped, .int .i64 d.buffer] 53 (0, 0))) := ⟨h4.blk HT.out hTn⟩
          have HW9 : Kp (w11.heap[W]? = some WB) := ⟨h4.blk HWb.out hWn⟩
          have HB9 : Kp (Below w3.heap.size w3 w11) := ⟨h4.below HB.out (fun q hq => by
            simp only [List.mem_cons, Option.mem_toList] at hq
            rcases hq with e | e | e
            · omega
            · omega
            · have := (HOW.out.lt q e).1; omega) HB.out.size⟩
          have HR9 : Kp (RdAt w11 R (R + 1) (plc4 16 per) (rIt (plc4 16 per) (k + 1) (m, rdr0)).2 da' dr') := ⟨h2⟩
          have HM9 : Kp (MemAt w11 B D (rIt (plc4 16 per) (k + 1) (m, rdr0)).1) := ⟨h3⟩
          have HV9 := Kp.mk hv
          have HVQ : Kp (∀ q, (Value.slice a' d2.data.length kk').ownBlock = some q → q ≠ w10.heap.size) := ⟨fun q hq => (HQ9.out q (hvq q hq)).2.2⟩
          have lT9 := blk_lt HT9.out
          have tc0 : w11.cell? ⟨w10.heap.size, 0, none⟩ = some (.bool d.done) := (cell_blk HT9.out 0).trans rfl
          have tf0 : w11.frozen? ⟨w10.heap.size, 0, none⟩ = false := frozen_blk HT9.out 0
          have tc1 : w11.cell? ⟨w10.heap.size, 1, none⟩ = some (.int .i64 d.code) := (cell_blk HT9.out 1).trans rfl
          have tf1 : w11.frozen? ⟨w10.heap.size, 1, none⟩ = false := frozen_blk HT9.out 1
          have tc2 : w11.cell? ⟨w10.heap.size, 2, none⟩ = some (.slice a d.data.length kk) := (cell_blk HT9.out 2).trans rfl
          have tf2 : w11.frozen? ⟨w10.heap.size, 2, none⟩ = false := frozen_blk HT9.out 2
          have tc3 : w11.cell? ⟨w10.heap.size, 3, none⟩ = some (.bool d.valid) := (cell_blk HT9.out 3).trans rfl
          have tf3 : w11.frozen? ⟨w10.heap.size, 3, none⟩ = false := frozen_blk HT9.out 3
          have tc4 : w11.cell? ⟨w10.heap.size, 4, none⟩ = some (.int .i64 d.count) := (cell_blk HT9.out 4).trans rfl
          have tf4 : w11.frozen? ⟨w10.heap.size, 4, none⟩ = false := frozen_blk HT9.out 4
          have tc5 : w11.cell? ⟨w10.heap.size, 5, none⟩ = some (.bool d.mark) := (cell_blk HT9.out 5).trans rfl
          have tf5 : w11.frozen? ⟨w10.heap.size, 5, none⟩ = false := frozen_blk HT9.out 5
          have tc6 : w11.cell? ⟨w10.heap.size, 6, none⟩ = some (.bool d.ring) := (cell_blk HT9.out 6).trans rfl
          have tf6 : w11.frozen? ⟨w10.heap.size, 6, none⟩ = false := frozen_blk HT9.out 6
          have tc7 : w11.cell? ⟨w10.heap.size, 7, none⟩ = some (.bool d.stamped) := (cell_blk HT9.out 7).trans rfl
          have tf7 : w11.frozen? ⟨w10.heap.size, 7, none⟩ = false := frozen_blk HT9.out 7
          have tc8 : w11.cell? ⟨w10.heap.size, 8, none⟩ = some (.int .i64 d.buffer) := (cell_blk HT9.out 8).trans rfl
          have tf8 : w11.frozen? ⟨w10.heap.size, 8, none⟩ = false := frozen_blk HT9.out 8
          clear h2 h3 h4 hv hvq hf HSt2 HT HWb HB HOW HQ HRW HE hTn hWn
          go_wp2
          go_roundw
          case rel =>
            have hsq := (ButS.set (ButS.set (ButS.set (ButS.set (ButS.set (ButS.set (ButS.set (ButS.set (ButS.set (ButS.refl [w10.heap.size] w11) (p := ⟨w10.heap.size, 0, none⟩) (by simp) (.bool d2.done)) (p := ⟨w10.heap.size, 1, none⟩) (by simp) (.int .i64 d2.code)) (p := ⟨w10.heap.size, 2, none⟩) (by simp) (.slice a' d2.data.length kk')) (p := ⟨w10.heap.size, 3, none⟩) (by simp) (.bool d2.valid)) (p := ⟨w10.heap.size, 4, none⟩) (by simp) (.int .i64 d2.count)) (p := ⟨w10.heap.size, 5, none⟩) (by simp) (.bool d2.mark)) (p := ⟨w10.heap.size, 6, none⟩) (by simp) (.bool d2.ring)) (p := ⟨w10.heap.size, 7, none⟩) (by simp) (.bool d2.stamped)) (p := ⟨w10.heap.size, 8, none⟩) (by simp) (.int .i64 d2.buffer))
            exact ⟨k + 1, da', dr', d2, a', kk', by omega, by go_num, ⟨(((((((((HB9.out.setCell (p := ⟨w10.heap.size, 0, none⟩) hT3 _).setCell (p := ⟨w10.heap.size, 1, none⟩) hT3 _).setCell (p := ⟨w10.heap.size, 2, none⟩) hT3 _).setCell (p := ⟨w10.heap.size, 3, none⟩) hT3 _).setCell (p := ⟨w10.heap.size, 4, none⟩) hT3 _).setCell (p := ⟨w10.heap.size, 5, none⟩) hT3 _).setCell (p := ⟨w10.heap.size, 6, none⟩) hT3 _).setCell (p := ⟨w10.heap.size, 7, none⟩) hT3 _).setCell (p := ⟨w10.heap.size, 8, none⟩) hT3 _)⟩, ⟨HM9.out.but hsq (by simp; omega) (by simp; omega)⟩, ⟨HR9.out.but hsq (by simp; omega) (fun q hq => by simp only [List.mem_cons, List.not_mem_nil, or_false]; exact (HQ9.out q hq).2.2)⟩, HQ9, ⟨hsq.blk HW9.out (by simp; omega)⟩, ⟨(blk_set (blk_set (blk_set (blk_set (blk_set (blk_set (blk_set (blk_set (blk_set HT9.out 0 _) 1 _) 2 _) 3 _) 4 _) 5 _) 6 _) 7 _) 8 _).trans (by simp only [List.setIfInBounds_toArray, List.set_cons_zero, List.set_cons_succ])⟩, ⟨HV9.out.but hsq (fun x hx => by
              simp only [List.mem_cons, List.not_mem_nil, or_false]
              exact HVQ.out x.block (by subst hx; rfl))⟩, HE2⟩
          case measure => simp [intOf]; omega
        · obtain rfl : k = l.length + 5 := by omega
          obtain rfl := HE.out rfl
          obtain ⟨b, hb⟩ : ∃ b, decide (s0 + d0 - s0 ≤ per) = b := ⟨_, rfl⟩
          have hb2 : decide (s0 + d0 - s0 ≤ (plc4 16 per).period) = b := hb
          have HBW : Kp (Below w.heap.size w wr) := ⟨HB3.out.trans (HB.out.mono HB3.out.size)⟩
          have hrb := HR1.out.blk
          rw [HRD.out.2.1] at hrb
          have HRB := Kp.mk hrb
          have hht := HT.out
          simp only [hb2] at hht
          have HT2 := Kp.mk hht
          have lT := blk_lt hht
          have tc0 : wr.cell? ⟨w10.heap.size, 0, none⟩ = some (.bool true) := (cell_blk HT2.out 0).trans rfl
          have tc1 : wr.cell? ⟨w10.heap.size, 1, none⟩ = some (.int .i64 0) := (cell_blk HT2.out 1).trans rfl
          have tc2 : wr.cell? ⟨w10.heap.size, 2, none⟩ = some (.slice a l.length kk) := (cell_blk HT2.out 2).trans rfl
          have tc3 : wr.cell? ⟨w10.heap.size, 3, none⟩ = some (.bool b) := (cell_blk HT2.out 3).trans rfl
          have tc4 : wr.cell? ⟨w10.heap.size, 4, none⟩ = some (.int .i64 0) := (cell_blk HT2.out 4).trans rfl
          have tc5 : wr.cell? ⟨w10.heap.size, 5, none⟩ = some (.bool false) := (cell_blk HT2.out 5).trans rfl
          have tc6 : wr.cell? ⟨w10.heap.size, 6, none⟩ = some (.bool false) := (cell_blk HT2.out 6).trans rfl
          have tc7 : wr.cell? ⟨w10.heap.size, 7, none⟩ = some (.bool false) := (cell_blk HT2.out 7).trans rfl
          have tc8 : wr.cell? ⟨w10.heap.size, 8, none⟩ = some (.int .i64 0) := (cell_blk HT2.out 8).trans rfl
          have HRW2 : Kp (RowAt wr 1 (.slice a l.length kk) l.length (u32s l)) := ⟨HRW.out⟩
          clear hb2 hrb hht HT HB HM HR1 HQ HRW HE HRD HRO
          go_wp2_with fail
          refine (sameAns_any 0 0 a a0 kk c0 l l b b 0 0 true (decide_eq_true ⟨rfl, rfl, rfl, rfl⟩) _ HRW2.out (HR.out.below HBW.out)).mono ?_
          rintro e w12 ⟨rfl, hb12⟩
          have HB12 := Kp.mk (below_call HBW.out hb12)
          have HR12 := Kp.mk (blk_below HRB.out hb12)
          have HW12 := Kp.mk (blk_below HWb.out hb12)
          clear hb12
          go_wp2_with fail
          refine (rstep_nil R B (plc4 16 per) da _ dr _ _ _ _ (s0 + d0) w12 HR12.out).mono ?_
          rintro e w13 ⟨rfl, hb13⟩
          have HB13 := Kp.mk (below_call HB12.out hb13)
          have HW13 := Kp.mk (blk_below HW12.out hb13)
          clear hb13
          go_wp2_with fail
          refine (sameDid_eq {} none none 0 0 _ (nil_row _) (nil_row _)).mono ?_
          rintro e w14 ⟨rfl, hb14⟩
          have HB14 := Kp.mk (below_call HB13.out hb14)
          have HW14 := Kp.mk (blk_below HW13.out hb14)
          clear hb14
          go_wp2_with fail
          refine (HWN.out (s0 + d0) w14 HW14.out).mono ?_
          rintro e w15 ⟨rfl, hb15⟩
          have HB15 := Kp.mk (below_call HB14.out hb15)
          clear hb15
          go_wp2_with fail
          refine (sameDid_eq {} none none 0 0 _ (nil_row _) (nil_row _)).mono ?_
          rintro e w16 ⟨rfl, hb16⟩
          have HB16 := Kp.mk (below_call HB15.out hb16)
          clear hb16
          go_wp2
          go_ret
          exact ⟨rfl, HB16.out⟩
theorem fourAlone_any (v0 v1 v2 : Value) (W : World) (o0 : RdV W (.slice 1 (.int .u32)) v0) (o1 : RdV W (.int .u16) v1) (o2 : RdV W (.pair 1 (.int .u16) (.pair 1 (.int .u16) .nil)) v2) : Calls Try.prog 4 #[v0, v1, v2] W fun e W' => e = .returned (.bool true) ∧ Below W.heap.size W W' := by
  obtain ⟨a, c, l, rfl, hr, hw⟩ := u32sAt_of o0
  obtain ⟨per, rfl, hp⟩ := o1
  obtain ⟨cs, rfl, h2⟩ := o2
  obtain ⟨x, cs', e1, h3, h4⟩ := rd_one h2
  obtain ⟨y, cs'', e2, h5, h6⟩ := rd_one h4
  obtain rfl := rd_nil h6
  obtain ⟨s0, rfl, hs⟩ := rd_int h3
  obtain ⟨d0, rfl, hd⟩ := rd_int h5
  subst e2
  have e3 : cs = [.int .u16 s0, .int .u16 d0] := e1
  rw [e3]
  exact fourAlone_main a c l per s0 d0 (bounds_u16 hp) (bounds_u16 hs) (bounds_u16 hd) hw W hr
end
open Go.ChangeShapes Go.WideShapes Go.ChangeAt Go.RowKit
set_option linter.unusedVariables false
namespace rowFourAlone
set_option maxRecDepth 100000 in
theorem lifted (os : Os) (started : os.Started) (H : Type) (enc : TypeId × Value → H) :
    ReturnsInHanded {} Try.checked os 4 .any (Rows.fourAloneSpec.pre6 enc Try.prog Try.f4 Rows.fourAloneRow.domain false) (Rows.fourAloneSpec.post enc Try.prog Try.f4 false true false false) := by
  refine returnsInHanded_of_change (C := Try.checked) ownKnobs started (by kernel_rfl) Try.func4
    (ChangeSpec.witness6 (enc := enc) (C := Try.checked) false ⟨#[], #[.slice none 0 0, .int .u16 0, .agg #[.int .u16 0, .int .u16 0]], []⟩ 8 (by kernel_rfl) (by kernel_rfl) (by kernel_rfl) (by kernel_rfl)) ?_
  intro W base args ds gs before hval0 hW hcnd _
  have hval : ∀ (j : Nat) t v, Try.f4.params[j]? = some t → args[j]? = some v → Value.okWide Try.prog W .any base t v := hval0
  have hW' := hW
  obtain ⟨p, q, hA0, hV, rfl, hfz, hnd⟩ := hW
  have hA : DataW.TrodAll enc Try.prog W 0 (fun _ => true) true Try.f4.params.toList args.toList ds p := hA0
  rw [Try.params4] at hA hval
  obtain ⟨v0, vs0, d0, ds0, p0, q0, hargs, rfl, rfl, h0, r0⟩ := trodAll_cons hA
  obtain ⟨v1, vs1, d1, ds1, p1, q1, rfl, rfl, rfl, h1, r1⟩ := trodAll_cons r0
  obtain ⟨v2, vs2, d2, ds2, p2, q2, rfl, rfl, rfl, h2, r2⟩ := trodAll_cons r1
  obtain ⟨rfl, rfl, rfl⟩ := trodAll_nil r2
  obtain rfl : args = #[v0, v1, v2] := by cases args; simp_all
  obtain ⟨rfl, rfl⟩ := trodVars_none hV
  have o0 : RdV W (.slice 1 (.int .u32)) v0 := rdv_of (.slice 1 (.int .u32)) (by kernel_rfl) (hval 0 _ v0 rfl rfl) h0
  have o1 : RdV W (.int .u16) v1 := rdv_of (.int .u16) (by kernel_rfl) (hval 1 _ v1 rfl rfl) h1
  have o2 : RdV W (.pair 1 (.int .u16) (.pair 1 (.int .u16) .nil)) v2 := rdv_of (.pair 1 (.int .u16) (.pair 1 (.int .u16) .nil)) (by kernel_rfl) (hval 2 _ v2 rfl rfl) h2
  refine (fourAlone_any v0 v1 v2 W o0 o1 o2).mono fun e W' ⟨he, bel⟩ => ?_
  subst he
  exact ⟨_, rfl, _, _, _, [], _, [], hW', trodAll_mk1 (shut_bool Try.underlying4 _), trodAll_below laidOut bel _ _ _ _ (by kernel_rfl) hA0, rfl, bel.frame _, fun h => by cases h⟩
theorem over : Rows.fourAloneRow.holds Try.pinned (OpenSpec.ofChange Rows.fourAloneSpec) :=
  OpenClaim.holds_of_wide 4 Try.f4 rfl rfl rfl rfl rfl rfl rfl ⟨rfl, rfl, rfl, rfl, rfl⟩ rfl rfl rfl rfl rfl (by kernel_rfl) Try.func4 (by kernel_rfl)
    (of_decide_eq_true (by kernel_rfl)) (by unfold Func.isWrapper; first | (rw [if_pos (by decide +kernel)]; kernel_rfl) | (rw [if_neg (by decide +kernel)]; exact ⟨rfl, rfl⟩))
    (fun os started H enc _ => lifted os started H enc)
end rowFourAlone
theorem fourAlone_holds : Rows.FourAloneSaid := rowFourAlone.over
#print axioms fourAlone_holds
end Go.Proofs.Ytmidcnfmphlneaa

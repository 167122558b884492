/- A writer and a reader on one memory; the same deeds. -/
import Derived.Test.YtmidcnfmphlneaaFour6
namespace Go.Proofs.Ytmidcnfmphlneaa
open Go.RowKit
set_option linter.unusedSimpArgs false
set_option linter.unusedVariables false

set_option maxHeartbeats 2000000 in
theorem sameDid_eq (d : DidV) (a1 a2 : Option Addr) (k1 k2 : Nat) (w : World) (h1 : RowAt w 1 (.slice a1 d.data.length k1) d.data.length (u32s d.data)) (h2 : RowAt w 1 (.slice a2 d.data.length k2) d.data.length (u32s d.data)) :
    Calls Try.prog 18 #[.agg #[.bool d.done, .int .i64 d.code, .slice a1 d.data.length k1, .bool d.valid, .int .i64 d.count, .bool d.mark, .bool d.ring, .bool d.stamped, .int .i64 d.buffer], .agg #[.bool d.done, .int .i64 d.code, .slice a2 d.data.length k2, .bool d.valid, .int .i64 d.count, .bool d.mark, .bool d.ring, .bool d.stamped, .int .i64 d.buffer]] w fun e w' => e = .returned (.bool true) ∧ Below w.heap.size w w' := by
  obtain ⟨dn, cd, l, vd, ct, mk, rg, st, bf⟩ := d
  have H1 := Kp.mk h1
  have H2 := Kp.mk h2
  clear h1 h2
  go_enter Try.func18, Try.ntmps18
  go_wp2_with fail
  refine (sameAns_any cd cd a1 a2 k1 k2 l l vd vd ct ct true (decide_eq_true ⟨rfl, rfl, rfl, rfl⟩) _ (H1.out.below (below_al (below_al (Below.refl _ _) _) _)) (H2.out.below (below_al (below_al (Below.refl _ _) _) _))).mono ?_
  rintro e w1 ⟨rfl, hb⟩
  have HB1 : Kp (Below w.heap.size w w1) := ⟨below_call (below_al (below_al (Below.refl _ _) _) _) hb⟩
  clear hb
  go_wp2
  go_ret
  exact ⟨rfl, HB1.out⟩
/-- A writer that may step. -/
structure WOk (p : Plc) (s : Wr) : Prop where
  hx : bit s.pair
  hy : bit s.index
  h0 : 0 < s.data.length
  dw : (s.data.length : Int) ≤ p.words
  i3 : s.pc ≤ 3 → s.i = 0
  i4 : s.pc = 4 → s.i < s.data.length
  ws : Words s.data
theorem WOk.next {p : Plc} {s : Wr} (ws : List Int) (h : WOk p s) : WOk p (wNext p ws s) := by
  obtain ⟨pc, data, pair, index, i, marked⟩ := s
  obtain ⟨hx, hy, h0, dw, i3, i4, hw⟩ := h
  simp only at hx hy h0 dw i3 i4 hw
  have hpc : pc = 0 ∨ pc = 1 ∨ pc = 2 ∨ pc = 3 ∨ pc = 4 ∨ pc = 5 ∨ pc = 6 ∨ 7 ≤ pc := by omega
  rcases hpc with rfl | rfl | rfl | rfl | rfl | rfl | rfl | hp
  · exact ⟨bit_flip _, hy, h0, dw, fun _ => i3 (by omega), fun e => absurd e (by simp [wNext]), hw⟩
  · exact ⟨hx, bit_flip _, h0, dw, fun _ => i3 (by omega), fun e => absurd e (by simp [wNext]), hw⟩
  · exact ⟨hx, hy, h0, dw, fun _ => i3 (by omega), fun e => absurd e (by simp [wNext]), hw⟩
  · exact ⟨hx, hy, h0, dw, fun e => absurd e (by simp [wNext]), fun _ => by have := i3 (by omega); show i < data.length; omega, hw⟩
  · refine ⟨hx, hy, h0, dw, fun e => ?_, fun e => ?_, hw⟩
    · have e2 : (if i + 1 < data.length then 4 else 5) ≤ 3 := e
      split at e2 <;> omega
    · have e2 : (if i + 1 < data.length then 4 else 5) = 4 := e
      show i + 1 < data.length
      split at e2
      · assumption
      · omega
  · exact ⟨hx, hy, h0, dw, fun e => absurd e (by simp [wNext]), fun e => absurd e (by simp [wNext]), hw⟩
  · exact ⟨hx, hy, h0, dw, fun e => absurd e (by simp [wNext]), fun e => absurd e (by simp [wNext]), hw⟩
  · have e1 : wNext p ws ⟨pc, data, pair, index, i, marked⟩ = ⟨pc, data, pair, index, i, marked⟩ := by unfold wNext; split <;> simp_all
    rw [e1]
    exact ⟨hx, hy, h0, dw, i3, i4, hw⟩
theorem bit_word {x : Int} (h : bit x) : 0 ≤ x ∧ x < 4294967296 := by rcases h with rfl | rfl <;> omega
theorem Words.w {p : Plc} {ws : List Int} {s : Wr} (hp : p.words ≤ 16) (now : Int) (h : Words ws) (hs : WOk p s) : Words (wMem p ws now s) := by
  unfold wMem
  have h1 := hs.dw
  split
  · exact h.st _ _ (by omega) (by omega)
  · exact h.st _ _ (by omega) (by omega)
  · have h2 := ldW_word hs.ws (s.i : Int)
    have e : s.data.getD s.i 0 = ldW s.data (s.i : Int) := by rw [ldW, Int.toNat_natCast]
    rw [e]
    exact h.st _ _ h2.1 h2.2
  · exact h.st _ _ (bit_word hs.hy).1 (bit_word hs.hy).2
  · exact h.st _ _ (bit_word hs.hx).1 (bit_word hs.hx).2
  · exact h
/-- A reader that may step. -/
structure ROk (p : Plc) (r : Rdr) : Prop where
  hx : bit r.pair
  hy : bit r.index
  lw : (r.left : Int) ≤ p.words
  i5 : r.pc = 5 → r.data.length < r.left
  st : 0 ≤ r.stamp ∧ r.stamp < 4294967296
  d4 : r.pc ≤ 4 → r.data = []
  l4 : r.pc = 4 → 0 < r.left
theorem ROk.next {p : Plc} {r : Rdr} {ws : List Int} (hws : Words ws) (hw : 1 ≤ p.words) (h : ROk p r) : ROk p (rNext p ws r) := by
  obtain ⟨pc, pair, index, left, stamp, data⟩ := r
  obtain ⟨hx, hy, lw, i5, st, d4, l4⟩ := h
  simp only at hx hy lw i5 st d4 l4
  have hpc : pc = 0 ∨ pc = 1 ∨ pc = 2 ∨ pc = 3 ∨ pc = 4 ∨ pc = 5 ∨ 6 ≤ pc := by omega
  rcases hpc with rfl | rfl | rfl | rfl | rfl | rfl | hp
  · exact ⟨bit_mod _, hy, lw, fun e => absurd e (by simp [rNext]), st, fun _ => d4 (by omega), fun e => absurd e (by simp [rNext])⟩
  · exact ⟨hx, hy, lw, fun e => absurd e (by simp [rNext]), st, fun _ => d4 (by omega), fun e => absurd e (by simp [rNext])⟩
  · exact ⟨hx, bit_mod _, lw, fun e => absurd e (by simp [rNext]), st, fun _ => d4 (by omega), fun e => absurd e (by simp [rNext])⟩
  · by_cases hz : ldW ws (p.buf pair index) = 0
    · have e1 : rNext p ws ⟨3, pair, index, left, stamp, data⟩ = ⟨6, pair, index, left, stamp, data⟩ := by simp only [rNext, if_pos hz]
      rw [e1]
      exact ⟨hx, hy, lw, fun e => absurd e (by simp), st, fun e => absurd e (by simp), fun e => absurd e (by simp)⟩
    · have e1 : rNext p ws ⟨3, pair, index, left, stamp, data⟩ = ⟨4, pair, index, (rLeft p ws ⟨3, pair, index, left, stamp, data⟩).toNat, stamp, data⟩ := by simp only [rNext, if_neg hz]
      rw [e1]
      have hv := ldW_word hws (p.buf pair index)
      have hm : 0 < rLeft p ws ⟨3, pair, index, left, stamp, data⟩ ∧ rLeft p ws ⟨3, pair, index, left, stamp, data⟩ ≤ p.words := by
        simp only [rLeft]
        split <;> omega
      exact ⟨hx, hy, by show ((rLeft p ws _).toNat : Int) ≤ _; omega, fun e => absurd e (by simp), st, fun _ => d4 (by omega), fun _ => by show 0 < (rLeft p ws _).toNat; omega⟩
  · have hd := d4 (by omega)
    subst hd
    exact ⟨hx, hy, lw, fun _ => l4 rfl, ldW_word hws _, fun e => absurd e (by simp [rNext]), fun e => absurd e (by simp [rNext])⟩
  · refine ⟨hx, hy, lw, fun e => ?_, st, fun e => ?_, fun e => ?_⟩
    · have e2 : (if data.length + 1 < left then 5 else 6) = 5 := e
      show (data ++ _).length < left
      rw [List.length_append]
      split at e2
      · assumption
      · omega
    · have e2 : (if data.length + 1 < left then 5 else 6) ≤ 4 := e
      split at e2 <;> omega
    · have e2 : (if data.length + 1 < left then 5 else 6) = 4 := e
      split at e2 <;> omega
  · have e1 : rNext p ws ⟨pc, pair, index, left, stamp, data⟩ = ⟨pc, pair, index, left, stamp, data⟩ := by unfold rNext; split <;> simp_all
    rw [e1]
    exact ⟨hx, hy, lw, i5, st, d4, l4⟩
theorem Words.r {p : Plc} {ws : List Int} {r : Rdr} (h : Words ws) (hr : ROk p r) : Words (rMem p ws r) := by
  unfold rMem
  split
  · exact h.st _ _ (bit_word hr.hx).1 (bit_word hr.hx).2
  · exact h
theorem wr0_ok (p : Plc) (l : List Int) (h0 : 0 < l.length) (h1 : (l.length : Int) ≤ p.words) (hw : Words l) : WOk p (wr0 l) := ⟨.inl rfl, .inl rfl, h0, h1, fun _ => rfl, fun e => absurd e (by simp [wr0]), hw⟩
theorem rdr0_ok (p : Plc) (hw : 1 ≤ p.words) : ROk p rdr0 := ⟨.inl rfl, .inl rfl, by show ((0 : Nat) : Int) ≤ _; omega, fun e => absurd e (by simp [rdr0]), ⟨Int.le_refl _, by decide⟩, fun _ => rfl, fun e => absurd e (by simp [rdr0])⟩
/-- A memory, a writer on it while it has steps, a reader while it has; blocks X are neither's. -/
structure Duo (w : World) (X : List Nat) (N0 B D W g dc R bs : Nat) (da : Option Addr) (dr : Nat) (p : Plc) (ws : List Int) (s : Wr) (r : Rdr) : Prop where
  mem : MemAt w B D ws
  mb : N0 ≤ B ∧ N0 ≤ D
  mx : B ∉ X ∧ D ∉ X
  wr : s.pc ≤ 6 → WrAt w W g dc p s
  wb : s.pc ≤ 6 → N0 ≤ W ∧ N0 ≤ g ∧ W ∉ B :: D :: X ∧ g ∉ B :: D :: X ∧ g ≠ W
  rd : r.pc ≤ 5 → RdAt w R bs p r da dr
  rb : r.pc ≤ 5 → N0 ≤ R ∧ B < bs ∧ D < bs ∧ N0 ≤ bs ∧ R ∉ B :: D :: X ∧ ∀ q, (Value.slice da r.data.length dr).ownBlock = some q → q ∉ B :: D :: X
  wr2 : s.pc ≤ 6 → r.pc ≤ 5 → R ≠ W ∧ R ≠ g ∧ ∀ q, (Value.slice da r.data.length dr).ownBlock = some q → q ≠ W ∧ q ≠ g
/-- Whatever changes blocks that are neither's. -/
theorem Duo.but {w w' : World} {X : List Nat} {N0 B D W g dc R bs : Nat} {da : Option Addr} {dr : Nat} {p : Plc} {ws : List Int} {s : Wr} {r : Rdr} {S : List Nat} (h : Duo w X N0 B D W g dc R bs da dr p ws s r) (hb : ButS S w w') (hS : ∀ k, k ∈ S → k ∈ X) : Duo w' X N0 B D W g dc R bs da dr p ws s r := by
  have n1 : ∀ {b : Nat}, b ∉ X → b ∉ S := fun hb hs => hb (hS _ hs)
  refine ⟨h.mem.but hb (n1 h.mx.1) (n1 h.mx.2), h.mb, h.mx, fun e => ?_, h.wb, fun e => ?_, h.rb, h.wr2⟩
  · obtain ⟨_, _, h3, h4, _⟩ := h.wb e
    exact (h.wr e).but hb (n1 fun q => h3 (by simp [q])) (n1 fun q => h4 (by simp [q]))
  · obtain ⟨_, _, _, _, h5, h6⟩ := h.rb e
    exact (h.rd e).but hb (n1 fun q => h5 (by simp [q])) fun q hq => n1 fun hx => h6 q hq (by simp [hx])
theorem Duo.below {w w' : World} {X : List Nat} {N0 B D W g dc R bs : Nat} {da : Option Addr} {dr : Nat} {p : Plc} {ws : List Int} {s : Wr} {r : Rdr} (h : Duo w X N0 B D W g dc R bs da dr p ws s r) (hb : Below w.heap.size w w') : Duo w' X N0 B D W g dc R bs da dr p ws s r :=
  h.but (ButS.of_below (S := []) hb) (by simp)
set_option maxHeartbeats 1000000 in
/-- The writer's step. -/
theorem Duo.wstep {w : World} {X : List Nat} {N0 B D W g dc R bs : Nat} {da : Option Addr} {dr : Nat} {p : Plc} {ws : List Int} {s : Wr} {r : Rdr} (now : Int) (hp : p.low) (hi : p.In ws.length) (hws : Words ws) (hs : WOk p s) (h6 : s.pc ≤ 6) (h : Duo w X N0 B D W g dc R bs da dr p ws s r) :
    Calls Try.prog 14 #[.pointer (some ⟨W, 0, none⟩), .pointer (some ⟨B, 0, none⟩), .int .i64 now] w fun e w' => e = .returned (.agg #[.bool (wDid p ws s).done, .int .i64 (wDid p ws s).code, .slice none 0 0, .bool (wDid p ws s).valid, .int .i64 (wDid p ws s).count, .bool (wDid p ws s).mark, .bool (wDid p ws s).ring, .bool (wDid p ws s).stamped, .int .i64 (wDid p ws s).buffer]) ∧ Duo w' X N0 B D W g dc R bs da dr p (wMem p ws now s) (wNext p ws s) r ∧ ButS [W, D] w w' := by
  obtain ⟨b1, b2, b3, b4, b5⟩ := h.wb h6
  have gD : g ≠ D := fun e => b4 (by simp [e])
  refine (wstep_any p hp W B D g dc ws now hi hws s hs.hx hs.hy hs.h0 hs.dw hs.i4 gD b5 w (h.wr h6) h.mem).mono ?_
  rintro e w2 ⟨rfl, h2, h3, h4⟩
  refine ⟨rfl, ⟨h3, h.mb, h.mx, fun _ => h2, fun _ => h.wb h6, fun e => ?_, h.rb, fun _ e => h.wr2 h6 e⟩, h4⟩
  obtain ⟨q1, q2, q3⟩ := h.wr2 h6 e
  obtain ⟨_, _, _, _, r5, r6⟩ := h.rb e
  refine (h.rd e).but h4 ?_ fun q hq => ?_
  · simp only [List.mem_cons, List.not_mem_nil, or_false, not_or]
    exact ⟨q1, fun e => r5 (by simp [e])⟩
  · simp only [List.mem_cons, List.not_mem_nil, or_false, not_or]
    exact ⟨(q3 q hq).1, fun e => r6 q hq (by simp [e])⟩
set_option maxHeartbeats 1000000 in
/-- The reader's step. -/
theorem Duo.rstep {w : World} {X : List Nat} {N0 B D W g dc R bs : Nat} {da : Option Addr} {dr : Nat} {p : Plc} {ws : List Int} {s : Wr} {r : Rdr} (now : Int) (hnow : 0 ≤ now ∧ now ≤ 1099511627776) (hp : p.low) (hi : p.In ws.length) (hws : Words ws) (hr : ROk p r) (h5 : r.pc ≤ 5) (hX : ∀ k, k ∈ X → k < w.heap.size) (h : Duo w X N0 B D W g dc R bs da dr p ws s r) :
    Calls Try.prog 16 #[.pointer (some ⟨R, 0, none⟩), .pointer (some ⟨B, 0, none⟩), .int .i64 now] w fun e w' => ∃ a k, e = .returned (.agg #[.bool (rDid p ws now r).done, .int .i64 (rDid p ws now r).code, .slice a (rDid p ws now r).data.length k, .bool (rDid p ws now r).valid, .int .i64 (rDid p ws now r).count, .bool (rDid p ws now r).mark, .bool (rDid p ws now r).ring, .bool (rDid p ws now r).stamped, .int .i64 (rDid p ws now r).buffer]) ∧ RowAt w' 1 (.slice a (rDid p ws now r).data.length k) (rDid p ws now r).data.length (u32s (rDid p ws now r).data) ∧
      ∃ da' dr', Duo w' X N0 B D W g dc R bs da' dr' p (rMem p ws r) s (rNext p ws r) ∧ ButS (R :: D :: (Value.slice da r.data.length dr).ownBlock.toList) w w' ∧ ∀ q, (Value.slice a (rDid p ws now r).data.length k).ownBlock = some q → q ∉ B :: D :: X ∧ (s.pc ≤ 6 → q ≠ W ∧ q ≠ g) := by
  obtain ⟨b0, b1, b2, b3, b4, b5⟩ := h.rb h5
  have lB := blk_lt h.mem.head
  have lD := blk_lt h.mem.words
  refine (rstep_any p hp R bs B D ws now hi hws r hr.hx hr.hy hr.lw hr.i5 hr.st hnow b1 b2 da dr w (h.rd h5) h.mem (fun q hq e => b5 q hq (by simp [e]))).mono ?_
  rintro e w2 ⟨v, rfl, hv, da', dr', h2, h3, h4, hvq, hf⟩
  obtain ⟨a, k, rfl, _, _⟩ := hv.shape
  have hnew : ∀ q, (Value.slice da' (rNext p ws r).data.length dr').ownBlock = some q → (Value.slice da r.data.length dr).ownBlock = some q ∨ w.heap.size < q := fun q hq => by
    rcases hf with hf | hf
    · exact .inl (hf ▸ hq)
    · exact .inr (hf q hq)
  have hnx : ∀ q, (Value.slice da' (rNext p ws r).data.length dr').ownBlock = some q → q ∉ B :: D :: X := fun q hq => by
    rcases hnew q hq with e | e
    · exact b5 q e
    · simp only [List.mem_cons, not_or]
      exact ⟨by omega, by omega, fun hx => by have := hX q hx; omega⟩
  have hnw : s.pc ≤ 6 → ∀ q, (Value.slice da' (rNext p ws r).data.length dr').ownBlock = some q → q ≠ W ∧ q ≠ g := fun e q hq => by
    obtain ⟨q1, q2, q3⟩ := h.wr2 e h5
    have lW := blk_lt (h.wr e).blk
    have lg := (h.wr e).lt
    rcases hnew q hq with e | e
    · exact q3 q e
    · exact ⟨by omega, by omega⟩
  refine ⟨a, k, rfl, hv, da', dr', ⟨h3, h.mb, h.mx, fun e => ?_, h.wb, fun _ => h2, fun _ => ⟨b0, b1, b2, b3, b4, hnx⟩, fun e _ => ?_⟩, h4, fun q hq => ⟨hnx q (hvq q hq), fun e => hnw e q (hvq q hq)⟩⟩
  · obtain ⟨q1, q2, q3⟩ := h.wr2 e h5
    obtain ⟨_, _, w3, w4, _⟩ := h.wb e
    refine (h.wr e).but h4 ?_ ?_
    · simp only [List.mem_cons, not_or]
      refine ⟨q1.symm, fun e => w3 (by simp [e]), fun hm => ?_⟩
      exact (q3 W (by simpa using hm)).1 rfl
    · simp only [List.mem_cons, not_or]
      refine ⟨q2.symm, fun e => w4 (by simp [e]), fun hm => ?_⟩
      exact (q3 g (by simpa using hm)).2 rfl
  · obtain ⟨q1, q2, q3⟩ := h.wr2 e h5
    exact ⟨q1, q2, hnw e⟩
end Go.Proofs.Ytmidcnfmphlneaa

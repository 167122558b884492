/- Package ring: a send and a receive in memory, and what one step of each does. -/
import Derived.Test.YtmidcnfmphlneaaGreatQ16
import Derived.Test.YtmidcnfmphlneaaGreatQ17
namespace Go.Proofs.YtmidcnfmphlneaaGreat
open Go.RowKit
set_option linter.unusedSimpArgs false
set_option linter.unusedVariables false
theorem ne_of_type {w : World} {b b' : Nat} {c c' : Array Value} {t t' : TypeId} {f f' : Nat × Nat} (h : w.heap[b]? = some (.cells c t f)) (h' : w.heap[b']? = some (.cells c' t' f')) (ht : t ≠ t') : b ≠ b' := fun e => by
  rw [e, h'] at h
  have h1 := Option.some.inj h
  injection h1 with _ h2 _
  exact ht h2.symm
def didV (d : DidV) (v : Value) : Value := .agg #[.bool d.done, .int .i64 d.code, v, .bool d.valid, .int .i64 d.count, .bool d.mark, .bool d.ring, .bool d.stamped, .int .i64 d.buffer]
theorem ButS.fin {S : List Nat} {w w2 w' : World} (h : ButS S w w2) (hb : ButS [w.heap.size] w2 w') : ButS S w w' :=
  ⟨hb.os.trans h.os, hb.tape.trans h.tape, hb.output.trans h.output, Nat.le_trans h.size hb.size, fun k hk hn => (hb.block k (Nat.lt_of_lt_of_le hk h.size) (by simp; omega)).trans (h.block k hk hn)⟩
theorem ButS.fin2 {S : List Nat} {O : Nat} {w w2 w' : World} (h : ButS S w w2) (hO : O ∈ S) (hb : ButS [w.heap.size, O] w2 w') : ButS S w w' :=
  ⟨hb.os.trans h.os, hb.tape.trans h.tape, hb.output.trans h.output, Nat.le_trans h.size hb.size, fun k hk hn => (hb.block k (Nat.lt_of_lt_of_le hk h.size) (by
    simp only [List.mem_cons, List.not_mem_nil, or_false, not_or]
    exact ⟨by omega, fun e => hn (e ▸ hO)⟩)).trans (h.block k hk hn)⟩
theorem stepW0_but (w : World) (O : Nat) (v : Value) : ButS [O] w (stepW0 w O v) := (ButS.set (ButS.refl [O] w) (p := ⟨O, 1, none⟩) (by simp) v).al _
theorem stepW0_op {w : World} {O : Nat} {ow lv : Value} (v : Value) (h : w.heap[O]? = some (.cells #[ow, lv] 132 (0, 0))) : (stepW0 w O v).heap[O]? = some (.cells #[ow, v] 132 (0, 0)) := blk_al ((blk_set h 1 v).trans rfl) _
theorem stepW0_did {w : World} (O : Nat) (v : Value) (hO : O < w.heap.size) : (stepW0 w O v).heap[w.heap.size]? = some (.cells #[.bool false, .int .i64 0, .slice none 0 0, .bool false, .int .i64 0, .bool false, .bool false, .bool false, .int .i64 0] 64 (0, 0)) := blk_at (by simp [World.setCell]) _
theorem stepW0_size (w : World) (O : Nat) (v : Value) : (stepW0 w O v).heap.size = w.heap.size + 1 := by simp [stepW0, World.setCell]
theorem leftV_mid (g off n cap : Nat) (h : cap ≠ 1) : leftV (some ⟨g, off, none⟩) n cap = .slice (some ⟨g, off + 1, none⟩) n (cap - 1) := by
  unfold leftV
  rw [if_neg h]
  rfl
theorem entersS1 : Enters 62 := enters_at Tryz.func62 (by kernel_rfl) rfl
theorem entersS2 : Enters 65 := enters_at Tryz.func65 (by kernel_rfl) rfl
theorem entersS3 : Enters 67 := enters_at Tryz.func67 (by kernel_rfl) rfl
theorem entersS4 : Enters 68 := enters_at Tryz.func68 (by kernel_rfl) rfl
theorem entersQ1 : Enters 70 := enters_at Tryz.func70 (by kernel_rfl) rfl
theorem entersQ2 : Enters 71 := enters_at Tryz.func71 (by kernel_rfl) rfl
theorem entersQ3 : Enters 72 := enters_at Tryz.func72 (by kernel_rfl) rfl
theorem entersQ4 : Enters 73 := enters_at Tryz.func73 (by kernel_rfl) rfl
def sendRow (OBB QB : Nat) (ps : List (Nat × Nat)) : List Value := (FV 62 #[.pointer (some ⟨OBB, 0, none⟩), .pointer (some ⟨QB, 0, none⟩)] :: ps.map fun p => FV 65 #[.pointer (some ⟨p.1, 0, none⟩), .pointer (some ⟨p.2, 0, none⟩)]) ++ [FV 67 #[.pointer (some ⟨OBB, 0, none⟩), .pointer (some ⟨QB, 0, none⟩)], FV 68 #[.pointer (some ⟨QB, 0, none⟩)]]
theorem sendRow_0 (OBB QB : Nat) (ps : List (Nat × Nat)) : (sendRow OBB QB ps)[0]? = some (FV 62 #[.pointer (some ⟨OBB, 0, none⟩), .pointer (some ⟨QB, 0, none⟩)]) := rfl
theorem sendRow_put (OBB QB : Nat) (ps : List (Nat × Nat)) (i : Nat) (p : Nat × Nat) (h : ps[i]? = some p) : (sendRow OBB QB ps)[i + 1]? = some (FV 65 #[.pointer (some ⟨p.1, 0, none⟩), .pointer (some ⟨p.2, 0, none⟩)]) := by
  have hi := (List.getElem?_eq_some_iff.1 h).1
  unfold sendRow
  rw [List.getElem?_append_left (by simp; omega), List.getElem?_cons_succ, List.getElem?_map, h]
  rfl
theorem sendRow_mark (OBB QB : Nat) (ps : List (Nat × Nat)) : (sendRow OBB QB ps)[ps.length + 1]? = some (FV 67 #[.pointer (some ⟨OBB, 0, none⟩), .pointer (some ⟨QB, 0, none⟩)]) := by
  unfold sendRow
  rw [List.getElem?_append_right (by simp)]
  simp
theorem sendRow_ring (OBB QB : Nat) (ps : List (Nat × Nat)) : (sendRow OBB QB ps)[ps.length + 2]? = some (FV 68 #[.pointer (some ⟨QB, 0, none⟩)]) := by
  unfold sendRow
  rw [List.getElem?_append_right (by simp)]
  simp
structure SndAt (w : World) (X : Nat → Prop) (q : Qu) (s : Snd) (O QB OBB g cap : Nat) (ps : List (Nat × Nat)) : Prop where
  pc : s.pc ≤ 3 + s.data.length
  room : 4 + s.data.length ≤ cap
  le : s.data.length ≤ 16
  ln : ps.length = s.data.length + 1
  op : w.heap[O]? = some (.cells #[.int .u32 s.own, .slice (some ⟨g, s.pc, none⟩) (4 + s.data.length - s.pc) (cap - s.pc)] 132 (0, 0))
  row : ∃ cur : Array Value, w.heap[g]? = some (.cells cur 133 (0, 0)) ∧ ∀ (i : Nat) (v : Value), (sendRow OBB QB ps)[i]? = some v → cur[i]? = some v
  bx : StepBoxes w 0 ps (uptoS q.cell s.data s.data.length)
  bX : ∀ p, p ∈ ps → X p.1 ∧ X p.2
  ob : w.heap[OBB]? = some (.cells #[.pointer (some ⟨O, 0, none⟩)] 75 (0, 0))
  qb : w.heap[QB]? = some (.cells q.cells 124 (0, 0))
  inX : X O ∧ X QB ∧ X OBB ∧ X g
  cell : q.cell = s.cell
  own : 0 ≤ s.own ∧ s.own < 4294967296
theorem SndAt.keep {w w' : World} {X : Nat → Prop} {q : Qu} {s : Snd} {O QB OBB g cap : Nat} {ps : List (Nat × Nat)} (h : SndAt w X q s O QB OBB g cap ps) (hk : ∀ (b : Nat) (o : Obj), X b → w.heap[b]? = some o → w'.heap[b]? = some o) : SndAt w' X q s O QB OBB g cap ps :=
  ⟨h.pc, h.room, h.le, h.ln, hk _ _ h.inX.1 h.op, h.row.imp fun cur hc => ⟨hk _ _ h.inX.2.2.2 hc.1, hc.2⟩, fun i p x hp hx => by
    have hm := List.mem_of_getElem? hp
    have h1 := h.bx i p x hp hx
    exact ⟨h1.1, h1.2.1, hk _ _ (h.bX p hm).1 h1.2.2.1, hk _ _ (h.bX p hm).2 h1.2.2.2⟩, h.bX, hk _ _ h.inX.2.2.1 h.ob, hk _ _ h.inX.2.1 h.qb, h.inX, h.cell, h.own⟩
theorem SndAt.more {w : World} {X X' : Nat → Prop} {q : Qu} {s : Snd} {O QB OBB g cap : Nat} {ps : List (Nat × Nat)} (h : SndAt w X q s O QB OBB g cap ps) (hX : ∀ b, X b → X' b) : SndAt w X' q s O QB OBB g cap ps :=
  ⟨h.pc, h.room, h.le, h.ln, h.op, h.row, h.bx, fun p hp => ⟨hX _ (h.bX p hp).1, hX _ (h.bX p hp).2⟩, h.ob, h.qb, ⟨hX _ h.inX.1, hX _ h.inX.2.1, hX _ h.inX.2.2.1, hX _ h.inX.2.2.2⟩, h.cell, h.own⟩
theorem SndAt.next {w w' : World} {X : Nat → Prop} {q : Qu} {s : Snd} {O QB OBB g cap : Nat} {ps : List (Nat × Nat)} (h : SndAt w X q s O QB OBB g cap ps) (hlt : s.pc ≤ 2 + s.data.length) (own' : Int) (ho : 0 ≤ own' ∧ own' < 4294967296)
    (hop : w'.heap[O]? = some (.cells #[.int .u32 own', .slice (some ⟨g, s.pc + 1, none⟩) (4 + s.data.length - (s.pc + 1)) (cap - (s.pc + 1))] 132 (0, 0))) (S : List Nat) (hb : ButS S w w') (hS : ∀ b, b ∈ S → b = O ∨ ¬ X b) : SndAt w' X q { s with pc := s.pc + 1, own := own' } O QB OBB g cap ps := by
  have hk : ∀ (b : Nat) (o : Obj), X b → b ≠ O → w.heap[b]? = some o → w'.heap[b]? = some o := fun b o hx hne hbo => hb.blk hbo fun hm => by
    rcases hS b hm with e | e
    · exact hne e
    · exact e hx
  have nO : ∀ {b : Nat} {c : Array Value} {t : TypeId} {f : Nat × Nat}, w.heap[b]? = some (.cells c t f) → t ≠ 132 → b ≠ O := fun hb0 ht e => by
    rw [e, h.op] at hb0
    cases hb0
    exact ht rfl
  exact ⟨by show s.pc + 1 ≤ 3 + s.data.length; omega, h.room, h.le, h.ln, hop, h.row.imp fun cur hc => ⟨hk _ _ h.inX.2.2.2 (nO hc.1 (by decide)) hc.1, hc.2⟩, fun i p x hp hx => by
    have hm := List.mem_of_getElem? hp
    have h1 := h.bx i p x hp hx
    exact ⟨h1.1, h1.2.1, hk _ _ (h.bX p hm).1 (nO h1.2.2.1 (by decide)) h1.2.2.1, hk _ _ (h.bX p hm).2 (nO h1.2.2.2 (by decide)) h1.2.2.2⟩, h.bX, hk _ _ h.inX.2.2.1 (nO h.ob (by decide)) h.ob, hk _ _ h.inX.2.1 (nO h.qb (by decide)) h.qb, h.inX, h.cell, ho⟩
structure Fits (p : Pl) (q : Qu) : Prop where
  tail : q.tail = p.tail
  head : q.head = p.head
  words : q.words = p.words
  deep : q.deep = p.deep
theorem u32_next (x : Int) : 0 ≤ (x + 1) % 4294967296 ∧ (x + 1) % 4294967296 < 4294967296 := by omega
theorem SendNew.at {w : World} {nb O QB OBB bs g cap : Nat} {ps : List (Nat × Nat)} {own : Int} {q : Qu} {l : List Int} (h : SendNew w nb O QB OBB bs g cap ps own q l) (hl : l.length ≤ 16) (ho : 0 ≤ own ∧ own < 4294967296) (X : Nat → Prop) (hX : ∀ b, nb ≤ b → b < w.heap.size → X b) : SndAt w X q ⟨0, own, l, q.cell⟩ O QB OBB g cap ps := by
  have hr := h.row
  obtain ⟨hlen, ⟨hbad, _⟩ | ⟨g', cap', cur, he, hge, hg, hnc, hcm, hcs, htk⟩⟩ := hr
  · cases hbad
  · cases he
    have hgl := blk_lt hg
    have hOl := blk_lt h.op
    have hQl := blk_lt h.qb
    have hBl := blk_lt h.ob
    have hgg := h.ge
    refine ⟨Nat.zero_le _, by show 4 + l.length ≤ cap; omega, hl, h.ln, ?_, ⟨cur, hg, fun i v hv => ?_⟩, fun i p x hp hx => ?_, fun p hp => ?_, h.ob, h.qb, ⟨hX _ hgg.1 hOl, hX _ hgg.2.1 hQl, hX _ hgg.2.2.1 hBl, hX _ (Nat.le_trans hgg.2.2.2 hge) hgl⟩, rfl, ho⟩
    · have h1 := h.op
      rw [show l.length + 4 = 4 + l.length - 0 by omega] at h1
      exact h1
    · unfold sendRow at hv
      rw [← htk, List.getElem?_take] at hv
      split at hv
      · rw [Array.getElem?_toList] at hv
        exact hv
      · cases hv
    · have h1 := h.bx i p x hp hx
      exact ⟨Nat.zero_le _, Nat.zero_le _, h1.2.2⟩
    · obtain ⟨i, hi⟩ := List.getElem?_of_mem hp
      have hil := (List.getElem?_eq_some_iff.1 hi).1
      have hxl : i < (uptoS q.cell l l.length).length := by rw [uptoS_len]; have := h.ln; omega
      have h1 := h.bx i p _ hi (List.getElem?_eq_getElem hxl)
      exact ⟨hX _ h1.1 (blk_lt h1.2.2.1), hX _ h1.2.1 (blk_lt h1.2.2.2)⟩
theorem uptoS_0 (c : Int) (l : List Int) (k : Nat) : (uptoS c l k)[0]? = some (c, (l.length : Int)) := rfl
theorem uptoS_at (c : Int) (l : List Int) (k i : Nat) (h : i < k) : (uptoS c l k)[i + 1]? = some (c + 1 + (i : Int), l.getD i 0) := by
  unfold uptoS
  rw [List.getElem?_cons_succ, List.getElem?_map, List.getElem?_range h, List.getD_eq_getElem?_getD]
  rfl
set_option maxHeartbeats 1000000 in
theorem snd_look_true {w : World} {X : Nat → Prop} {q : Qu} {s : Snd} {p : Pl} {ws : List Int} {x : List Bool} {O QB OBB g cap B D BB : Nat} {ps : List (Nat × Nat)} (h : SndAt w X q s O QB OBB g cap ps) (hf : Fits p q) (hq : q.ok ws.length) (hM : MemAt w B D ws) (hB : BAt w BB x) (hX : ¬ X B ∧ ¬ X D ∧ ¬ X BB) (hD : BB ≠ B ∧ BB ≠ D) (hpc : s.pc = 0) (hfl : fullP p ws s.own = true) (now : Int) : Calls Tryz.prog 36 #[.pointer (some ⟨O, 0, none⟩), .pointer (some ⟨B, 0, none⟩), .pointer (some ⟨BB, 0, none⟩), .int .i64 now] w fun e w' => e = .returned (didV (sDid p ws s) (.slice none 0 0)) ∧ MemAt w' B D (sMem p ws s) ∧ BAt w' BB (if s.pc = 3 + s.data.length then ringB x (2 * q.k + 1) else x) ∧ (∃ lv, w'.heap[O]? = some (.cells #[.int .u32 (sNext p ws s).own, lv] 132 (0, 0))) ∧ ((sDid p ws s).done = false → SndAt w' X q (sNext p ws s) O QB OBB g cap ps) ∧ ButS [O, D, BB] w w' := by
  obtain ⟨xO, xQ, xOB, xg⟩ := h.inX
  obtain ⟨cur, hg, hrow⟩ := h.row
  have lO := blk_lt h.op
  have lg := blk_lt hg
  have lB := blk_lt hM.head
  have lD := blk_lt hM.words
  have lBB := hB.lt
  have hle := h.le
  have hrm := h.room
  have hln := h.ln
  have nOB : O ≠ B := fun e => hX.1 (e ▸ xO)
  have nOD : O ≠ D := fun e => hX.2.1 (e ▸ xO)
  have nOBB : O ≠ BB := fun e => hX.2.2 (e ▸ xO)
  have ngO : g ≠ O := fun e => by
    have h1 := h.op
    rw [← e, hg] at h1
    cases h1
  have e1 : fullB q ws s.own = true := by
    have h1 : fullB q ws s.own = fullP p ws s.own := by unfold fullB fullP; rw [hf.head, hf.deep]
    rw [h1]; exact hfl
  have ed : sDid p ws s = { done := true, mark := true, code := 2 } := by unfold sDid; rw [if_pos hpc, if_pos hfl]
  have em : sMem p ws s = ws := by unfold sMem; rw [if_neg (by omega), if_neg (by omega), if_neg (by omega)]
  have en : sNext p ws s = { s with pc := 4 + s.data.length } := by unfold sNext; rw [if_pos hpc, if_pos hfl]
  have hcell : w.cell? ⟨g, s.pc, none⟩ = some (FV 62 #[.pointer (some ⟨OBB, 0, none⟩), .pointer (some ⟨QB, 0, none⟩)]) := (cell_blk hg s.pc).trans (hrow _ _ (by rw [hpc]; exact sendRow_0 _ _ _))
  have hb0 := stepW0_but w O (leftV (some ⟨g, s.pc, none⟩) (4 + s.data.length - (s.pc + 1)) (cap - s.pc))
  have hO0 := stepW0_op (leftV (some ⟨g, s.pc, none⟩) (4 + s.data.length - (s.pc + 1)) (cap - s.pc)) h.op
  have hD0 := stepW0_did (w := w) O (leftV (some ⟨g, s.pc, none⟩) (4 + s.data.length - (s.pc + 1)) (cap - s.pc)) lO
  have hM0 : MemAt (stepW0 w O (leftV (some ⟨g, s.pc, none⟩) (4 + s.data.length - (s.pc + 1)) (cap - s.pc))) B D ws := hM.but hb0 (by simpa using Ne.symm nOB) (by simpa using Ne.symm nOD)
  have hB0 : BAt (stepW0 w O (leftV (some ⟨g, s.pc, none⟩) (4 + s.data.length - (s.pc + 1)) (cap - s.pc))) BB x := hB.but hb0 (by simpa using Ne.symm nOBB)
  have hOB0 := hb0.blk h.ob (by simp; exact fun e => by have h1 := h.op; rw [← e, h.ob] at h1; cases h1)
  have hQB0 := hb0.blk h.qb (by simp; exact fun e => by have h1 := h.op; rw [← e, h.qb] at h1; cases h1)
  have hz0 := stepW0_size w O (leftV (some ⟨g, s.pc, none⟩) (4 + s.data.length - (s.pc + 1)) (cap - s.pc))
  have hop1 := h.op
  rw [show 4 + s.data.length - s.pc = (4 + s.data.length - (s.pc + 1)) + 1 by omega] at hop1
  refine (opstep_true O B BB s.own now g s.pc (4 + s.data.length - (s.pc + 1)) (cap - s.pc) _ _ 2 none 0 0 false 0 true false false 0 (fun w2 => MemAt w2 B D ws ∧ BAt w2 BB x ∧ w2.heap[O]? = some (.cells #[.int .u32 s.own, (leftV (some ⟨g, s.pc, none⟩) (4 + s.data.length - (s.pc + 1)) (cap - s.pc))] 132 (0, 0)) ∧ w2.heap[w.heap.size]? = some (.cells #[.bool false, .int .i64 0, .slice none 0 0, .bool false, .int .i64 0, .bool false, .bool false, .bool false, .int .i64 0] 64 (0, 0)) ∧ ButS [O] w w2) w hop1 (by omega) (by omega) lg ngO hcell entersS1 ?_ ?_).mono ?_
  · refine (schk_any q B BB D OBB QB O s.own (leftV (some ⟨g, s.pc, none⟩) (4 + s.data.length - (s.pc + 1)) (cap - s.pc)) ws hq h.own (stepW0 w O (leftV (some ⟨g, s.pc, none⟩) (4 + s.data.length - (s.pc + 1)) (cap - s.pc))) hM0 hOB0 hO0 hQB0).mono ?_
    rintro e w2 ⟨rfl, hb⟩
    rw [e1]
    exact ⟨rfl, hM0.below hb, hB0.below hb, blk_below hO0 hb, blk_below hD0 hb, hb0.trans (ButS.of_below hb)⟩
  · rintro w2 ⟨_, _, hO2, hD2, _⟩
    exact ⟨hD2, _, _, hO2⟩
  · rintro e w' ⟨rfl, w2, ⟨hM2, hB2, hO2, hD2, hb2⟩, hfin, hown⟩
    have nBn : B ∉ [w.heap.size, O] := by simp; omega
    have nDn : D ∉ [w.heap.size, O] := by simp; omega
    have nBBn : BB ∉ [w.heap.size, O] := by simp; omega
    rw [ed, em, en, if_neg (by omega)]
    exact ⟨rfl, hM2.but hfin nBn nDn, hB2.but hfin nBBn, ⟨_, hown _ _ hO2⟩, (fun e => by cases e), ((hb2.fin2 (by simp) hfin).mono (by simp))⟩
set_option maxHeartbeats 1000000 in
theorem snd_look_false {w : World} {X : Nat → Prop} {q : Qu} {s : Snd} {p : Pl} {ws : List Int} {x : List Bool} {O QB OBB g cap B D BB : Nat} {ps : List (Nat × Nat)} (h : SndAt w X q s O QB OBB g cap ps) (hf : Fits p q) (hq : q.ok ws.length) (hM : MemAt w B D ws) (hB : BAt w BB x) (hX : ¬ X B ∧ ¬ X D ∧ ¬ X BB) (hD : BB ≠ B ∧ BB ≠ D) (hpc : s.pc = 0) (hfl : fullP p ws s.own = false) (now : Int) : Calls Tryz.prog 36 #[.pointer (some ⟨O, 0, none⟩), .pointer (some ⟨B, 0, none⟩), .pointer (some ⟨BB, 0, none⟩), .int .i64 now] w fun e w' => e = .returned (didV (sDid p ws s) (.slice none 0 0)) ∧ MemAt w' B D (sMem p ws s) ∧ BAt w' BB (if s.pc = 3 + s.data.length then ringB x (2 * q.k + 1) else x) ∧ (∃ lv, w'.heap[O]? = some (.cells #[.int .u32 (sNext p ws s).own, lv] 132 (0, 0))) ∧ ((sDid p ws s).done = false → SndAt w' X q (sNext p ws s) O QB OBB g cap ps) ∧ ButS [O, D, BB] w w' := by
  obtain ⟨xO, xQ, xOB, xg⟩ := h.inX
  obtain ⟨cur, hg, hrow⟩ := h.row
  have lO := blk_lt h.op
  have lg := blk_lt hg
  have lB := blk_lt hM.head
  have lD := blk_lt hM.words
  have lBB := hB.lt
  have hle := h.le
  have hrm := h.room
  have hln := h.ln
  have nOB : O ≠ B := fun e => hX.1 (e ▸ xO)
  have nOD : O ≠ D := fun e => hX.2.1 (e ▸ xO)
  have nOBB : O ≠ BB := fun e => hX.2.2 (e ▸ xO)
  have ngO : g ≠ O := fun e => by
    have h1 := h.op
    rw [← e, hg] at h1
    cases h1
  have e1 : fullB q ws s.own = false := by
    have h1 : fullB q ws s.own = fullP p ws s.own := by unfold fullB fullP; rw [hf.head, hf.deep]
    rw [h1]; exact hfl
  have ed : sDid p ws s = {} := by unfold sDid; rw [if_pos hpc, if_neg (by rw [hfl]; simp)]
  have em : sMem p ws s = ws := by unfold sMem; rw [if_neg (by omega), if_neg (by omega), if_neg (by omega)]
  have en : sNext p ws s = { s with pc := 1 } := by unfold sNext; rw [if_pos hpc, if_neg (by rw [hfl]; simp)]
  have hcell : w.cell? ⟨g, s.pc, none⟩ = some (FV 62 #[.pointer (some ⟨OBB, 0, none⟩), .pointer (some ⟨QB, 0, none⟩)]) := (cell_blk hg s.pc).trans (hrow _ _ (by rw [hpc]; exact sendRow_0 _ _ _))
  have hb0 := stepW0_but w O (leftV (some ⟨g, s.pc, none⟩) (4 + s.data.length - (s.pc + 1)) (cap - s.pc))
  have hO0 := stepW0_op (leftV (some ⟨g, s.pc, none⟩) (4 + s.data.length - (s.pc + 1)) (cap - s.pc)) h.op
  have hD0 := stepW0_did (w := w) O (leftV (some ⟨g, s.pc, none⟩) (4 + s.data.length - (s.pc + 1)) (cap - s.pc)) lO
  have hM0 : MemAt (stepW0 w O (leftV (some ⟨g, s.pc, none⟩) (4 + s.data.length - (s.pc + 1)) (cap - s.pc))) B D ws := hM.but hb0 (by simpa using Ne.symm nOB) (by simpa using Ne.symm nOD)
  have hB0 : BAt (stepW0 w O (leftV (some ⟨g, s.pc, none⟩) (4 + s.data.length - (s.pc + 1)) (cap - s.pc))) BB x := hB.but hb0 (by simpa using Ne.symm nOBB)
  have hOB0 := hb0.blk h.ob (by simp; exact fun e => by have h1 := h.op; rw [← e, h.ob] at h1; cases h1)
  have hQB0 := hb0.blk h.qb (by simp; exact fun e => by have h1 := h.op; rw [← e, h.qb] at h1; cases h1)
  have hz0 := stepW0_size w O (leftV (some ⟨g, s.pc, none⟩) (4 + s.data.length - (s.pc + 1)) (cap - s.pc))
  have hop1 := h.op
  rw [show 4 + s.data.length - s.pc = (4 + s.data.length - (s.pc + 1)) + 1 by omega] at hop1
  refine (opstep_false O B BB s.own now g s.pc (4 + s.data.length - (s.pc + 1)) (cap - s.pc) _ _ 0 none 0 0 false 0 false false false 0 (fun w2 => MemAt w2 B D ws ∧ BAt w2 BB x ∧ w2.heap[O]? = some (.cells #[.int .u32 s.own, (leftV (some ⟨g, s.pc, none⟩) (4 + s.data.length - (s.pc + 1)) (cap - s.pc))] 132 (0, 0)) ∧ w2.heap[w.heap.size]? = some (.cells #[.bool false, .int .i64 0, .slice none 0 0, .bool false, .int .i64 0, .bool false, .bool false, .bool false, .int .i64 0] 64 (0, 0)) ∧ ButS [O] w w2) w hop1 (by omega) (by omega) lg ngO hcell entersS1 ?_ ?_).mono ?_
  · refine (schk_any q B BB D OBB QB O s.own (leftV (some ⟨g, s.pc, none⟩) (4 + s.data.length - (s.pc + 1)) (cap - s.pc)) ws hq h.own (stepW0 w O (leftV (some ⟨g, s.pc, none⟩) (4 + s.data.length - (s.pc + 1)) (cap - s.pc))) hM0 hOB0 hO0 hQB0).mono ?_
    rintro e w2 ⟨rfl, hb⟩
    rw [e1]
    exact ⟨rfl, hM0.below hb, hB0.below hb, blk_below hO0 hb, blk_below hD0 hb, hb0.trans (ButS.of_below hb)⟩
  · rintro w2 ⟨_, _, hO2, hD2, _⟩
    exact ⟨hD2, _, _, hO2⟩
  · rintro e w' ⟨rfl, w2, ⟨hM2, hB2, hO2, hD2, hb2⟩, hfin⟩
    have nBn : B ∉ [w.heap.size] := by simp; omega
    have nDn : D ∉ [w.heap.size] := by simp; omega
    have nBBn : BB ∉ [w.heap.size] := by simp; omega
    rw [ed, em, en, if_neg (by omega)]
    have hO3 := ButS.blk hfin hO2 (by simp; omega)
    rw [leftV_mid _ _ _ _ (by omega), show cap - s.pc - 1 = cap - (s.pc + 1) by omega] at hO3
    refine ⟨rfl, hM2.but hfin nBn nDn, hB2.but hfin nBBn, ⟨_, hO3⟩, (fun _ => ?_), (hb2.fin hfin).mono (by simp)⟩
    have h9 := h.next (by omega) s.own h.own hO3 [O] (hb2.fin hfin) (by simp)
    rw [hpc] at h9
    exact h9
set_option maxHeartbeats 1000000 in
theorem snd_put {w : World} {X : Nat → Prop} {q : Qu} {s : Snd} {p : Pl} {ws : List Int} {x : List Bool} {O QB OBB g cap B D BB : Nat} {ps : List (Nat × Nat)} (h : SndAt w X q s O QB OBB g cap ps) (hf : Fits p q) (hq : q.ok ws.length) (hM : MemAt w B D ws) (hB : BAt w BB x) (hX : ¬ X B ∧ ¬ X D ∧ ¬ X BB) (hD : BB ≠ B ∧ BB ≠ D) (h1 : 1 ≤ s.pc) (h2 : s.pc ≤ 1 + s.data.length) (hwd : (s.data.length : Int) ≤ q.words) (now : Int) : Calls Tryz.prog 36 #[.pointer (some ⟨O, 0, none⟩), .pointer (some ⟨B, 0, none⟩), .pointer (some ⟨BB, 0, none⟩), .int .i64 now] w fun e w' => e = .returned (didV (sDid p ws s) (.slice none 0 0)) ∧ MemAt w' B D (sMem p ws s) ∧ BAt w' BB (if s.pc = 3 + s.data.length then ringB x (2 * q.k + 1) else x) ∧ (∃ lv, w'.heap[O]? = some (.cells #[.int .u32 (sNext p ws s).own, lv] 132 (0, 0))) ∧ ((sDid p ws s).done = false → SndAt w' X q (sNext p ws s) O QB OBB g cap ps) ∧ ButS [O, D, BB] w w' := by
  obtain ⟨xO, xQ, xOB, xg⟩ := h.inX
  obtain ⟨cur, hg, hrow⟩ := h.row
  have lO := blk_lt h.op
  have lg := blk_lt hg
  have lB := blk_lt hM.head
  have lD := blk_lt hM.words
  have lBB := hB.lt
  have hle := h.le
  have hrm := h.room
  have hln := h.ln
  have nOB : O ≠ B := fun e => hX.1 (e ▸ xO)
  have nOD : O ≠ D := fun e => hX.2.1 (e ▸ xO)
  have nOBB : O ≠ BB := fun e => hX.2.2 (e ▸ xO)
  have ngO : g ≠ O := fun e => by
    have h1 := h.op
    rw [← e, hg] at h1
    cases h1
  obtain ⟨i, hi⟩ : ∃ i, s.pc = i + 1 := ⟨s.pc - 1, by omega⟩
  obtain ⟨pp, hpp⟩ : ∃ pp, ps[i]? = some pp := ⟨ps[i]'(by omega), List.getElem?_eq_getElem (by omega)⟩
  obtain ⟨xx, hxx⟩ : ∃ xx, (uptoS q.cell s.data s.data.length)[i]? = some xx := ⟨_, List.getElem?_eq_getElem (by rw [uptoS_len]; omega)⟩
  obtain ⟨_, _, hA, hX2⟩ := h.bx i pp xx hpp hxx
  have em : sMem p ws s = stW ws xx.1 xx.2 := by
    unfold sMem
    by_cases hi0 : i = 0
    · subst hi0
      rw [uptoS_0] at hxx
      obtain rfl := Option.some.inj hxx
      rw [if_pos (by omega), h.cell]
    · obtain ⟨j, rfl⟩ : ∃ j, i = j + 1 := ⟨i - 1, by omega⟩
      rw [uptoS_at _ _ _ _ (by omega)] at hxx
      obtain rfl := Option.some.inj hxx
      rw [if_neg (by omega), if_pos (by omega), h.cell, show s.pc - 2 = j by omega]
  have hxr : 0 ≤ xx.1 ∧ xx.1 < ws.length := by
    have hc := hq.cell
    by_cases hi0 : i = 0
    · subst hi0
      rw [uptoS_0] at hxx
      obtain rfl := Option.some.inj hxx
      have := hq.words
      exact ⟨hc.1, by show q.cell < _; omega⟩
    · obtain ⟨j, rfl⟩ : ∃ j, i = j + 1 := ⟨i - 1, by omega⟩
      rw [uptoS_at _ _ _ _ (by omega)] at hxx
      obtain rfl := Option.some.inj hxx
      refine ⟨by show 0 ≤ q.cell + 1 + (j : Int); omega, by show q.cell + 1 + (j : Int) < _; omega⟩
  have ed : sDid p ws s = {} := by unfold sDid; rw [if_neg (by omega), if_neg (by omega), if_neg (by omega)]
  have en : sNext p ws s = { s with pc := s.pc + 1 } := by unfold sNext; rw [if_neg (by omega), if_neg (by omega), if_pos (by omega)]
  have hmp := h.bX pp (List.mem_of_getElem? hpp)
  have nA : pp.1 ∉ [O] := by simpa using ne_of_type hA h.op (by decide)
  have nX : pp.2 ∉ [O] := by simpa using ne_of_type hX2 h.op (by decide)
  have hcell : w.cell? ⟨g, s.pc, none⟩ = some (FV 65 #[.pointer (some ⟨pp.1, 0, none⟩), .pointer (some ⟨pp.2, 0, none⟩)]) := (cell_blk hg s.pc).trans (hrow _ _ (by rw [hi]; exact sendRow_put _ _ _ _ _ hpp))
  have hb0 := stepW0_but w O (leftV (some ⟨g, s.pc, none⟩) (4 + s.data.length - (s.pc + 1)) (cap - s.pc))
  have hO0 := stepW0_op (leftV (some ⟨g, s.pc, none⟩) (4 + s.data.length - (s.pc + 1)) (cap - s.pc)) h.op
  have hD0 := stepW0_did (w := w) O (leftV (some ⟨g, s.pc, none⟩) (4 + s.data.length - (s.pc + 1)) (cap - s.pc)) lO
  have hM0 : MemAt (stepW0 w O (leftV (some ⟨g, s.pc, none⟩) (4 + s.data.length - (s.pc + 1)) (cap - s.pc))) B D ws := hM.but hb0 (by simpa using Ne.symm nOB) (by simpa using Ne.symm nOD)
  have hB0 : BAt (stepW0 w O (leftV (some ⟨g, s.pc, none⟩) (4 + s.data.length - (s.pc + 1)) (cap - s.pc))) BB x := hB.but hb0 (by simpa using Ne.symm nOBB)
  have hOB0 := hb0.blk h.ob (by simp; exact fun e => by have h1 := h.op; rw [← e, h.ob] at h1; cases h1)
  have hQB0 := hb0.blk h.qb (by simp; exact fun e => by have h1 := h.op; rw [← e, h.qb] at h1; cases h1)
  have hz0 := stepW0_size w O (leftV (some ⟨g, s.pc, none⟩) (4 + s.data.length - (s.pc + 1)) (cap - s.pc))
  have hop1 := h.op
  rw [show 4 + s.data.length - s.pc = (4 + s.data.length - (s.pc + 1)) + 1 by omega] at hop1
  refine (opstep_false O B BB s.own now g s.pc (4 + s.data.length - (s.pc + 1)) (cap - s.pc) _ _ 0 none 0 0 false 0 false false false 0 (fun w2 => MemAt w2 B D (stW ws xx.1 xx.2) ∧ BAt w2 BB x ∧ w2.heap[O]? = some (.cells #[.int .u32 s.own, (leftV (some ⟨g, s.pc, none⟩) (4 + s.data.length - (s.pc + 1)) (cap - s.pc))] 132 (0, 0)) ∧ w2.heap[w.heap.size]? = some (.cells #[.bool false, .int .i64 0, .slice none 0 0, .bool false, .int .i64 0, .bool false, .bool false, .bool false, .int .i64 0] 64 (0, 0)) ∧ ButS [O, D] w w2) w hop1 (by omega) (by omega) lg ngO hcell entersS2 ?_ ?_).mono ?_
  · refine (sput_any B BB D pp.1 pp.2 xx.1 xx.2 ws hxr.1 hxr.2 (stepW0 w O (leftV (some ⟨g, s.pc, none⟩) (4 + s.data.length - (s.pc + 1)) (cap - s.pc))) hM0 (hb0.blk hA nA) (hb0.blk hX2 nX)).mono ?_
    rintro e w2 ⟨rfl, hM2, hb⟩
    exact ⟨rfl, hM2, hB0.but hb (by simpa using hD.2), hb.blk hO0 (by simpa using nOD), hb.blk hD0 (by simp; omega), (hb0.mono (by simp)).trans (hb.mono (by simp))⟩
  · rintro w2 ⟨_, _, hO2, hD2, _⟩
    exact ⟨hD2, _, _, hO2⟩
  · rintro e w' ⟨rfl, w2, ⟨hM2, hB2, hO2, hD2, hb2⟩, hfin⟩
    have nBn : B ∉ [w.heap.size] := by simp; omega
    have nDn : D ∉ [w.heap.size] := by simp; omega
    have nBBn : BB ∉ [w.heap.size] := by simp; omega
    rw [ed, em, en, if_neg (by omega)]
    have hO3 := ButS.blk hfin hO2 (by simp; omega)
    rw [leftV_mid _ _ _ _ (by omega), show cap - s.pc - 1 = cap - (s.pc + 1) by omega] at hO3
    exact ⟨rfl, hM2.but hfin nBn nDn, hB2.but hfin nBBn, ⟨_, hO3⟩, (fun _ => h.next (by omega) s.own h.own hO3 [O, D] (hb2.fin hfin) (by simp; exact .inr hX.2.1)), (hb2.fin hfin).mono (by simp)⟩
set_option maxHeartbeats 1000000 in
theorem snd_mark {w : World} {X : Nat → Prop} {q : Qu} {s : Snd} {p : Pl} {ws : List Int} {x : List Bool} {O QB OBB g cap B D BB : Nat} {ps : List (Nat × Nat)} (h : SndAt w X q s O QB OBB g cap ps) (hf : Fits p q) (hq : q.ok ws.length) (hM : MemAt w B D ws) (hB : BAt w BB x) (hX : ¬ X B ∧ ¬ X D ∧ ¬ X BB) (hD : BB ≠ B ∧ BB ≠ D) (hpc : s.pc = 2 + s.data.length) (now : Int) : Calls Tryz.prog 36 #[.pointer (some ⟨O, 0, none⟩), .pointer (some ⟨B, 0, none⟩), .pointer (some ⟨BB, 0, none⟩), .int .i64 now] w fun e w' => e = .returned (didV (sDid p ws s) (.slice none 0 0)) ∧ MemAt w' B D (sMem p ws s) ∧ BAt w' BB (if s.pc = 3 + s.data.length then ringB x (2 * q.k + 1) else x) ∧ (∃ lv, w'.heap[O]? = some (.cells #[.int .u32 (sNext p ws s).own, lv] 132 (0, 0))) ∧ ((sDid p ws s).done = false → SndAt w' X q (sNext p ws s) O QB OBB g cap ps) ∧ ButS [O, D, BB] w w' := by
  obtain ⟨xO, xQ, xOB, xg⟩ := h.inX
  obtain ⟨cur, hg, hrow⟩ := h.row
  have lO := blk_lt h.op
  have lg := blk_lt hg
  have lB := blk_lt hM.head
  have lD := blk_lt hM.words
  have lBB := hB.lt
  have hle := h.le
  have hrm := h.room
  have hln := h.ln
  have nOB : O ≠ B := fun e => hX.1 (e ▸ xO)
  have nOD : O ≠ D := fun e => hX.2.1 (e ▸ xO)
  have nOBB : O ≠ BB := fun e => hX.2.2 (e ▸ xO)
  have ngO : g ≠ O := fun e => by
    have h1 := h.op
    rw [← e, hg] at h1
    cases h1
  have ed : sDid p ws s = { mark := true } := by unfold sDid; rw [if_neg (by omega), if_pos hpc]
  have en : sNext p ws s = { s with pc := 3 + s.data.length, own := nx32 s.own } := by unfold sNext; rw [if_neg (by omega), if_pos hpc]
  have em : sMem p ws s = stW ws q.tail ((s.own + 1) % 4294967296) := by unfold sMem; rw [if_neg (by omega), if_neg (by omega), if_pos hpc, hf.tail]; rfl
  have hcell : w.cell? ⟨g, s.pc, none⟩ = some (FV 67 #[.pointer (some ⟨OBB, 0, none⟩), .pointer (some ⟨QB, 0, none⟩)]) := (cell_blk hg s.pc).trans (hrow _ _ (by rw [show s.pc = ps.length + 1 by omega]; exact sendRow_mark _ _ _))
  have hb0 := stepW0_but w O (leftV (some ⟨g, s.pc, none⟩) (4 + s.data.length - (s.pc + 1)) (cap - s.pc))
  have hO0 := stepW0_op (leftV (some ⟨g, s.pc, none⟩) (4 + s.data.length - (s.pc + 1)) (cap - s.pc)) h.op
  have hD0 := stepW0_did (w := w) O (leftV (some ⟨g, s.pc, none⟩) (4 + s.data.length - (s.pc + 1)) (cap - s.pc)) lO
  have hM0 : MemAt (stepW0 w O (leftV (some ⟨g, s.pc, none⟩) (4 + s.data.length - (s.pc + 1)) (cap - s.pc))) B D ws := hM.but hb0 (by simpa using Ne.symm nOB) (by simpa using Ne.symm nOD)
  have hB0 : BAt (stepW0 w O (leftV (some ⟨g, s.pc, none⟩) (4 + s.data.length - (s.pc + 1)) (cap - s.pc))) BB x := hB.but hb0 (by simpa using Ne.symm nOBB)
  have hOB0 := hb0.blk h.ob (by simp; exact fun e => by have h1 := h.op; rw [← e, h.ob] at h1; cases h1)
  have hQB0 := hb0.blk h.qb (by simp; exact fun e => by have h1 := h.op; rw [← e, h.qb] at h1; cases h1)
  have hz0 := stepW0_size w O (leftV (some ⟨g, s.pc, none⟩) (4 + s.data.length - (s.pc + 1)) (cap - s.pc))
  have hop1 := h.op
  rw [show 4 + s.data.length - s.pc = (4 + s.data.length - (s.pc + 1)) + 1 by omega] at hop1
  refine (opstep_false O B BB s.own now g s.pc (4 + s.data.length - (s.pc + 1)) (cap - s.pc) _ _ 0 none 0 0 false 0 true false false 0 (fun w2 => MemAt w2 B D (stW ws q.tail ((s.own + 1) % 4294967296)) ∧ BAt w2 BB x ∧ w2.heap[O]? = some (.cells #[.int .u32 ((s.own + 1) % 4294967296), (leftV (some ⟨g, s.pc, none⟩) (4 + s.data.length - (s.pc + 1)) (cap - s.pc))] 132 (0, 0)) ∧ w2.heap[w.heap.size]? = some (.cells #[.bool false, .int .i64 0, .slice none 0 0, .bool false, .int .i64 0, .bool false, .bool false, .bool false, .int .i64 0] 64 (0, 0)) ∧ ButS [O, D] w w2) w hop1 (by omega) (by omega) lg ngO hcell entersS3 ?_ ?_).mono ?_
  · refine (smark_any q B BB D OBB QB O s.own (leftV (some ⟨g, s.pc, none⟩) (4 + s.data.length - (s.pc + 1)) (cap - s.pc)) ws hq (stepW0 w O (leftV (some ⟨g, s.pc, none⟩) (4 + s.data.length - (s.pc + 1)) (cap - s.pc))) hM0 hOB0 hO0 hQB0).mono ?_
    rintro e w2 ⟨rfl, hM2, hO2, hb⟩
    exact ⟨rfl, hM2, hB0.but hb (by simp; exact ⟨Ne.symm nOBB, hD.2⟩), hO2, hb.blk hD0 (by simp; omega), (hb0.mono (by simp)).trans hb⟩
  · rintro w2 ⟨_, _, hO2, hD2, _⟩
    exact ⟨hD2, _, _, hO2⟩
  · rintro e w' ⟨rfl, w2, ⟨hM2, hB2, hO2, hD2, hb2⟩, hfin⟩
    have nBn : B ∉ [w.heap.size] := by simp; omega
    have nDn : D ∉ [w.heap.size] := by simp; omega
    have nBBn : BB ∉ [w.heap.size] := by simp; omega
    rw [ed, em, en, if_neg (by omega)]
    have hO3 := ButS.blk hfin hO2 (by simp; omega)
    rw [leftV_mid _ _ _ _ (by omega), show cap - s.pc - 1 = cap - (s.pc + 1) by omega] at hO3
    refine ⟨rfl, hM2.but hfin nBn nDn, hB2.but hfin nBBn, ⟨_, hO3⟩, (fun _ => ?_), (hb2.fin hfin).mono (by simp)⟩
    have h9 := h.next (by omega) ((s.own + 1) % 4294967296) (u32_next _) hO3 [O, D] (hb2.fin hfin) (by simp; exact .inr hX.2.1)
    rw [hpc, show 2 + s.data.length + 1 = 3 + s.data.length by omega] at h9
    exact h9
set_option maxHeartbeats 1000000 in
theorem snd_ring {w : World} {X : Nat → Prop} {q : Qu} {s : Snd} {p : Pl} {ws : List Int} {x : List Bool} {O QB OBB g cap B D BB : Nat} {ps : List (Nat × Nat)} (h : SndAt w X q s O QB OBB g cap ps) (hf : Fits p q) (hq : q.ok ws.length) (hM : MemAt w B D ws) (hB : BAt w BB x) (hX : ¬ X B ∧ ¬ X D ∧ ¬ X BB) (hD : BB ≠ B ∧ BB ≠ D) (hpc : s.pc = 3 + s.data.length) (now : Int) : Calls Tryz.prog 36 #[.pointer (some ⟨O, 0, none⟩), .pointer (some ⟨B, 0, none⟩), .pointer (some ⟨BB, 0, none⟩), .int .i64 now] w fun e w' => e = .returned (didV (sDid p ws s) (.slice none 0 0)) ∧ MemAt w' B D (sMem p ws s) ∧ BAt w' BB (if s.pc = 3 + s.data.length then ringB x (2 * q.k + 1) else x) ∧ (∃ lv, w'.heap[O]? = some (.cells #[.int .u32 (sNext p ws s).own, lv] 132 (0, 0))) ∧ ((sDid p ws s).done = false → SndAt w' X q (sNext p ws s) O QB OBB g cap ps) ∧ ButS [O, D, BB] w w' := by
  obtain ⟨xO, xQ, xOB, xg⟩ := h.inX
  obtain ⟨cur, hg, hrow⟩ := h.row
  have lO := blk_lt h.op
  have lg := blk_lt hg
  have lB := blk_lt hM.head
  have lD := blk_lt hM.words
  have lBB := hB.lt
  have hle := h.le
  have hrm := h.room
  have hln := h.ln
  have nOB : O ≠ B := fun e => hX.1 (e ▸ xO)
  have nOD : O ≠ D := fun e => hX.2.1 (e ▸ xO)
  have nOBB : O ≠ BB := fun e => hX.2.2 (e ▸ xO)
  have ngO : g ≠ O := fun e => by
    have h1 := h.op
    rw [← e, hg] at h1
    cases h1
  have ed : sDid p ws s = { done := true, ring := true } := by unfold sDid; rw [if_neg (by omega), if_neg (by omega), if_pos hpc]
  have en : sNext p ws s = { s with pc := s.pc + 1 } := by unfold sNext; rw [if_neg (by omega), if_neg (by omega), if_pos (by omega)]
  have em : sMem p ws s = ws := by unfold sMem; rw [if_neg (by omega), if_neg (by omega), if_neg (by omega)]
  have hcell : w.cell? ⟨g, s.pc, none⟩ = some (FV 68 #[.pointer (some ⟨QB, 0, none⟩)]) := (cell_blk hg s.pc).trans (hrow _ _ (by rw [show s.pc = ps.length + 2 by omega]; exact sendRow_ring _ _ _))
  have hb0 := stepW0_but w O (leftV (some ⟨g, s.pc, none⟩) (4 + s.data.length - (s.pc + 1)) (cap - s.pc))
  have hO0 := stepW0_op (leftV (some ⟨g, s.pc, none⟩) (4 + s.data.length - (s.pc + 1)) (cap - s.pc)) h.op
  have hD0 := stepW0_did (w := w) O (leftV (some ⟨g, s.pc, none⟩) (4 + s.data.length - (s.pc + 1)) (cap - s.pc)) lO
  have hM0 : MemAt (stepW0 w O (leftV (some ⟨g, s.pc, none⟩) (4 + s.data.length - (s.pc + 1)) (cap - s.pc))) B D ws := hM.but hb0 (by simpa using Ne.symm nOB) (by simpa using Ne.symm nOD)
  have hB0 : BAt (stepW0 w O (leftV (some ⟨g, s.pc, none⟩) (4 + s.data.length - (s.pc + 1)) (cap - s.pc))) BB x := hB.but hb0 (by simpa using Ne.symm nOBB)
  have hOB0 := hb0.blk h.ob (by simp; exact fun e => by have h1 := h.op; rw [← e, h.ob] at h1; cases h1)
  have hQB0 := hb0.blk h.qb (by simp; exact fun e => by have h1 := h.op; rw [← e, h.qb] at h1; cases h1)
  have hz0 := stepW0_size w O (leftV (some ⟨g, s.pc, none⟩) (4 + s.data.length - (s.pc + 1)) (cap - s.pc))
  have hop1 := h.op
  rw [show 4 + s.data.length - s.pc = (4 + s.data.length - (s.pc + 1)) + 1 by omega] at hop1
  refine (opstep_true O B BB s.own now g s.pc (4 + s.data.length - (s.pc + 1)) (cap - s.pc) _ _ 0 none 0 0 false 0 false true false 0 (fun w2 => MemAt w2 B D ws ∧ BAt w2 BB (ringB x (2 * q.k + 1)) ∧ w2.heap[O]? = some (.cells #[.int .u32 s.own, (leftV (some ⟨g, s.pc, none⟩) (4 + s.data.length - (s.pc + 1)) (cap - s.pc))] 132 (0, 0)) ∧ w2.heap[w.heap.size]? = some (.cells #[.bool false, .int .i64 0, .slice none 0 0, .bool false, .int .i64 0, .bool false, .bool false, .bool false, .int .i64 0] 64 (0, 0)) ∧ ButS [O, BB] w w2) w hop1 (by omega) (by omega) lg ngO hcell entersS4 ?_ ?_).mono ?_
  · refine (sring_any q B BB QB x hq.k (stepW0 w O (leftV (some ⟨g, s.pc, none⟩) (4 + s.data.length - (s.pc + 1)) (cap - s.pc))) hB0 hQB0).mono ?_
    rintro e w2 ⟨rfl, hB2, hb⟩
    exact ⟨rfl, hM0.but hb (by simpa using Ne.symm hD.1) (by simpa using Ne.symm hD.2), hB2, hb.blk hO0 (by simpa using nOBB), hb.blk hD0 (by simp; omega), (hb0.mono (by simp)).trans (hb.mono (by simp))⟩
  · rintro w2 ⟨_, _, hO2, hD2, _⟩
    exact ⟨hD2, _, _, hO2⟩
  · rintro e w' ⟨rfl, w2, ⟨hM2, hB2, hO2, hD2, hb2⟩, hfin, hown⟩
    have nBn : B ∉ [w.heap.size, O] := by simp; omega
    have nDn : D ∉ [w.heap.size, O] := by simp; omega
    have nBBn : BB ∉ [w.heap.size, O] := by simp; omega
    rw [ed, em, en, if_pos hpc]
    exact ⟨rfl, hM2.but hfin nBn nDn, hB2.but hfin nBBn, ⟨_, hown _ _ hO2⟩, (fun e => by cases e), ((hb2.fin2 (by simp) hfin).mono (by simp))⟩
theorem snd_step {w : World} {X : Nat → Prop} {q : Qu} {s : Snd} {p : Pl} {ws : List Int} {x : List Bool} {O QB OBB g cap B D BB : Nat} {ps : List (Nat × Nat)} (h : SndAt w X q s O QB OBB g cap ps) (hf : Fits p q) (hq : q.ok ws.length) (hM : MemAt w B D ws) (hB : BAt w BB x) (hX : ¬ X B ∧ ¬ X D ∧ ¬ X BB) (hD : BB ≠ B ∧ BB ≠ D) (hwd : (s.data.length : Int) ≤ q.words) (now : Int) : Calls Tryz.prog 36 #[.pointer (some ⟨O, 0, none⟩), .pointer (some ⟨B, 0, none⟩), .pointer (some ⟨BB, 0, none⟩), .int .i64 now] w fun e w' => e = .returned (didV (sDid p ws s) (.slice none 0 0)) ∧ MemAt w' B D (sMem p ws s) ∧ BAt w' BB (if s.pc = 3 + s.data.length then ringB x (2 * q.k + 1) else x) ∧ (∃ lv, w'.heap[O]? = some (.cells #[.int .u32 (sNext p ws s).own, lv] 132 (0, 0))) ∧ ((sDid p ws s).done = false → SndAt w' X q (sNext p ws s) O QB OBB g cap ps) ∧ ButS [O, D, BB] w w' := by
  have hpc := h.pc
  by_cases c0 : s.pc = 0
  · cases hfl : fullP p ws s.own with
    | true => exact snd_look_true h hf hq hM hB hX hD c0 hfl now
    | false => exact snd_look_false h hf hq hM hB hX hD c0 hfl now
  · by_cases c1 : s.pc ≤ 1 + s.data.length
    · exact snd_put h hf hq hM hB hX hD (by omega) c1 hwd now
    · by_cases c2 : s.pc = 2 + s.data.length
      · exact snd_mark h hf hq hM hB hX hD c2 now
      · exact snd_ring h hf hq hM hB hX hD (by omega) now
end Go.Proofs.YtmidcnfmphlneaaGreat

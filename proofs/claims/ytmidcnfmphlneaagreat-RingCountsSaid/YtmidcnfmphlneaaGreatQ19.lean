/- Package ring: a receive in memory, and what one step of it does. -/
import Derived.Test.YtmidcnfmphlneaaGreatQ18
import Derived.Test.YtmidcnfmphlneaaGreatQ15
namespace Go.Proofs.YtmidcnfmphlneaaGreat
open Go.RowKit
set_option linter.unusedSimpArgs false
set_option linter.unusedVariables false
structure Only (X : Nat → Prop) (w w' : World) : Prop where
  os : w'.os = w.os
  tape : w'.tape = w.tape
  output : w'.output = w.output
  size : w.heap.size ≤ w'.heap.size
  block : ∀ k, k < w.heap.size → ¬ X k → w'.heap[k]? = w.heap[k]?
theorem Only.of_but {X : Nat → Prop} {S : List Nat} {w w' : World} (h : ButS S w w') (hS : ∀ k, k ∈ S → X k) : Only X w w' := ⟨h.os, h.tape, h.output, h.size, fun k hk hn => h.block k hk fun hm => hn (hS k hm)⟩
theorem Only.refl (X : Nat → Prop) (w : World) : Only X w w := ⟨rfl, rfl, rfl, Nat.le_refl _, fun _ _ _ => rfl⟩
theorem Only.trans {X : Nat → Prop} {a b c : World} (h : Only X a b) (k : Only X b c) : Only X a c := ⟨k.os.trans h.os, k.tape.trans h.tape, k.output.trans h.output, Nat.le_trans h.size k.size, fun i hi hn => (k.block i (Nat.lt_of_lt_of_le hi h.size) hn).trans (h.block i hi hn)⟩
theorem Only.trans' {X Y : Nat → Prop} {a b c : World} (h : Only X a b) (k : Only Y b c) (hY : ∀ i, i < a.heap.size → Y i → X i) : Only X a c := ⟨k.os.trans h.os, k.tape.trans h.tape, k.output.trans h.output, Nat.le_trans h.size k.size, fun i hi hn => (k.block i (Nat.lt_of_lt_of_le hi h.size) fun hy => hn (hY i hi hy)).trans (h.block i hi hn)⟩
theorem Only.mono {X Y : Nat → Prop} {w w' : World} (h : Only X w w') (hX : ∀ k, X k → Y k) : Only Y w w' := ⟨h.os, h.tape, h.output, h.size, fun k hk hn => h.block k hk fun hx => hn (hX k hx)⟩
theorem Only.blk {X : Nat → Prop} {w w' : World} {b : Nat} {o : Obj} (h : Only X w w') (hb : w.heap[b]? = some o) (hn : ¬ X b) : w'.heap[b]? = some o := (h.block b (blk_lt hb) hn).trans hb
theorem Only.below {X : Nat → Prop} {w w' : World} {n : Nat} (h : Only X w w') (hX : ∀ k, X k → n ≤ k) (hn : n ≤ w.heap.size) : Below n w w' := ⟨h.os, h.tape, h.output, h.size, fun k hk => h.block k (by omega) fun hx => by have := hX k hx; omega⟩
theorem Only.of_below {X : Nat → Prop} {w w' : World} (h : Below w.heap.size w w') : Only X w w' := ⟨h.os, h.tape, h.output, h.size, fun k hk _ => h.block k hk⟩
def recvRow (QB OBB DB : Nat) (L : Nat) : List Value := List.replicate L (FV 71 #[.pointer (some ⟨DB, 0, none⟩), .pointer (some ⟨QB, 0, none⟩)]) ++ [FV 70 #[.pointer (some ⟨OBB, 0, none⟩), .pointer (some ⟨QB, 0, none⟩), .pointer (some ⟨DB, 0, none⟩)]]
theorem recvRow_word (QB OBB DB L i : Nat) (h : i < L) : (recvRow QB OBB DB L)[i]? = some (FV 71 #[.pointer (some ⟨DB, 0, none⟩), .pointer (some ⟨QB, 0, none⟩)]) := by
  unfold recvRow
  rw [List.getElem?_append_left (by simpa using h)]
  simp [h]
theorem recvRow_end (QB OBB DB L : Nat) : (recvRow QB OBB DB L)[L]? = some (FV 70 #[.pointer (some ⟨OBB, 0, none⟩), .pointer (some ⟨QB, 0, none⟩), .pointer (some ⟨DB, 0, none⟩)]) := by
  unfold recvRow
  rw [List.getElem?_append_right (by simp)]
  simp
structure RcvAt (w : World) (X : Nat → Prop) (q : Qu) (r : Rcv) (O QB OBB DB EB WB bs : Nat) : Prop where
  pc : r.pc ≤ 2
  d0 : r.pc ≤ 1 → r.data = []
  le : r.pc = 2 → r.data.length ≤ r.left ∧ (r.left : Int) ≤ q.words
  op0 : r.pc = 0 → ∃ g, w.heap[O]? = some (.cells #[.int .u32 r.own, .slice (some ⟨g, 0, none⟩) 2 2] 132 (0, 0)) ∧ w.heap[g]? = some (.cells #[FV 72 #[.pointer (some ⟨QB, 0, none⟩), .pointer (some ⟨OBB, 0, none⟩)], FV 73 #[.pointer (some ⟨QB, 0, none⟩), .pointer (some ⟨OBB, 0, none⟩), .pointer (some ⟨WB, 0, none⟩), .pointer (some ⟨EB, 0, none⟩)]] 133 (0, 0)) ∧ X g
  op1 : r.pc = 1 → ∃ g, w.heap[O]? = some (.cells #[.int .u32 r.own, .slice (some ⟨g, 1, none⟩) 1 1] 132 (0, 0)) ∧ w.heap[g]? = some (.cells #[FV 72 #[.pointer (some ⟨QB, 0, none⟩), .pointer (some ⟨OBB, 0, none⟩)], FV 73 #[.pointer (some ⟨QB, 0, none⟩), .pointer (some ⟨OBB, 0, none⟩), .pointer (some ⟨WB, 0, none⟩), .pointer (some ⟨EB, 0, none⟩)]] 133 (0, 0)) ∧ X g
  op2 : r.pc = 2 → ∃ (g cap : Nat) (cur : Array Value), w.heap[O]? = some (.cells #[.int .u32 r.own, .slice (some ⟨g, r.data.length, none⟩) (r.left + 1 - r.data.length) (cap - r.data.length)] 132 (0, 0)) ∧ w.heap[g]? = some (.cells cur 133 (0, 0)) ∧ r.left + 1 ≤ cap ∧ (∀ (i : Nat) (v : Value), (recvRow QB OBB DB r.left)[i]? = some v → cur[i]? = some v) ∧ X g
  data : ∃ (da : Option Addr) (dc : Nat), w.heap[DB]? = some (.cells #[.slice da r.data.length dc] 44 (0, 0)) ∧ w.ownsRow bs 41 1 (.slice da r.data.length dc) r.data.length (u32s r.data) ∧ ∀ b, (Value.slice da r.data.length dc).ownBlock = some b → X b
  ob : w.heap[OBB]? = some (.cells #[.pointer (some ⟨O, 0, none⟩)] 75 (0, 0))
  qb : w.heap[QB]? = some (.cells q.cells 124 (0, 0))
  eb : w.heap[EB]? = some (.cells #[FV 70 #[.pointer (some ⟨OBB, 0, none⟩), .pointer (some ⟨QB, 0, none⟩), .pointer (some ⟨DB, 0, none⟩)]] 129 (0, 0))
  wb : w.heap[WB]? = some (.cells #[FV 71 #[.pointer (some ⟨DB, 0, none⟩), .pointer (some ⟨QB, 0, none⟩)]] 129 (0, 0))
  lt : DB < bs ∧ QB < bs ∧ bs ≤ w.heap.size
  inX : X O ∧ X QB ∧ X OBB ∧ X DB ∧ X EB ∧ X WB
  cell : q.cell = r.cell
  own : 0 ≤ r.own ∧ r.own < 4294967296
theorem own_keep {w w' : World} {X : Nat → Prop} {base : Nat} {e : TypeId} {k : Nat} {v : Value} {n : Nat} {cs : List Value} (h : w.ownsRow base e k v n cs) (hX : ∀ b, v.ownBlock = some b → X b) (hk : ∀ (b : Nat) (o : Obj), X b → w.heap[b]? = some o → w'.heap[b]? = some o) : w'.ownsRow base e k v n cs := by
  obtain ⟨h0, h1 | ⟨g, cap, cur, rfl, h2, h3, r⟩⟩ := h
  · exact ⟨h0, .inl h1⟩
  · exact ⟨h0, .inr ⟨g, cap, cur, rfl, h2, hk _ _ (hX g rfl) h3, r⟩⟩
theorem RcvAt.keep {w w' : World} {X : Nat → Prop} {q : Qu} {r : Rcv} {O QB OBB DB EB WB bs : Nat} (h : RcvAt w X q r O QB OBB DB EB WB bs) (hs : w.heap.size ≤ w'.heap.size) (hk : ∀ (b : Nat) (o : Obj), X b → w.heap[b]? = some o → w'.heap[b]? = some o) : RcvAt w' X q r O QB OBB DB EB WB bs := by
  obtain ⟨x1, x2, x3, x4, x5, x6⟩ := h.inX
  exact ⟨h.pc, h.d0, h.le, fun e => (h.op0 e).imp fun g hg => ⟨hk _ _ x1 hg.1, hk _ _ hg.2.2 hg.2.1, hg.2.2⟩, fun e => (h.op1 e).imp fun g hg => ⟨hk _ _ x1 hg.1, hk _ _ hg.2.2 hg.2.1, hg.2.2⟩,
    fun e => (h.op2 e).imp fun g hg => hg.imp fun cap hg => hg.imp fun cur hg => ⟨hk _ _ x1 hg.1, hk _ _ hg.2.2.2.2 hg.2.1, hg.2.2⟩,
    h.data.imp fun da hd => hd.imp fun dc hd => ⟨hk _ _ x4 hd.1, own_keep hd.2.1 hd.2.2 hk, hd.2.2⟩, hk _ _ x3 h.ob, hk _ _ x2 h.qb, hk _ _ x5 h.eb, hk _ _ x6 h.wb, ⟨h.lt.1, h.lt.2.1, Nat.le_trans h.lt.2.2 hs⟩, h.inX, h.cell, h.own⟩
theorem RcvNew.at {w : World} {q : Qu} {own : Int} {O g QB OBB DB EB WB nb : Nat} (h : RcvNew w q own O g QB OBB DB EB WB) (hn : nb ≤ O ∧ nb ≤ g ∧ nb ≤ QB ∧ nb ≤ OBB ∧ nb ≤ DB ∧ nb ≤ EB ∧ nb ≤ WB) (ho : 0 ≤ own ∧ own < 4294967296) (X : Nat → Prop) (hX : ∀ b, nb ≤ b → b < w.heap.size → X b) : RcvAt w X q ⟨0, own, 0, [], q.cell⟩ O QB OBB DB EB WB w.heap.size :=
  ⟨by show 0 ≤ 2; omega, fun _ => rfl, (fun e => by cases e), fun _ => ⟨g, h.op, h.row, hX _ hn.2.1 (blk_lt h.row)⟩, (fun e => by cases e), (fun e => by cases e),
    ⟨none, 0, h.db, World.ownsRow_nil _ _ _ _, fun b hb => by cases hb⟩, h.ob, h.qb, h.eb, h.wb, ⟨blk_lt h.db, blk_lt h.qb, Nat.le_refl _⟩,
    ⟨hX _ hn.1 (blk_lt h.op), hX _ hn.2.2.1 (blk_lt h.qb), hX _ hn.2.2.2.1 (blk_lt h.ob), hX _ hn.2.2.2.2.1 (blk_lt h.db), hX _ hn.2.2.2.2.2.1 (blk_lt h.eb), hX _ hn.2.2.2.2.2.2 (blk_lt h.wb)⟩, rfl, ho⟩
def More (X : Nat → Prop) (w w' : World) : Nat → Prop := fun k => X k ∨ (w.heap.size ≤ k ∧ k < w'.heap.size)
theorem ne_of_type_eq {w : World} {b : Nat} {c c' : Array Value} {t t' : TypeId} {f f' : Nat × Nat} (h : w.heap[b]? = some (.cells c t f)) (h' : w.heap[b]? = some (.cells c' t' f')) : t = t' := by
  rw [h'] at h
  have h1 := Option.some.inj h
  injection h1 with _ h2 _
  exact h2.symm
theorem words_ld {ws : List Int} (h : Words ws) (a : Int) (h0 : 0 ≤ a) (h1 : a < ws.length) : 0 ≤ ldW ws a ∧ ldW ws a < 4294967296 := by
  have hi : a.toNat < ws.length := by omega
  have e : ldW ws a = ws[a.toNat] := by rw [ldW, List.getD_eq_getElem?_getD, List.getElem?_eq_getElem hi]; rfl
  rw [e]
  exact h _ (List.getElem_mem hi)
set_option maxHeartbeats 1000000 in
theorem rcv_look_true {w : World} {X : Nat → Prop} {q : Qu} {r : Rcv} {p : Pl} {ws : List Int} {O QB OBB DB EB WB bs B D BB : Nat} (h : RcvAt w X q r O QB OBB DB EB WB bs) (hf : Fits p q) (hq : q.ok ws.length) (hws : Words ws) (hM : MemAt w B D ws) (hX : ¬ X B ∧ ¬ X D) (hBs : B < bs ∧ D < bs) (hpc : r.pc = 0) (hfl : emptyP p ws r.own = true) (now : Int) : Calls Tryz.prog 36 #[.pointer (some ⟨O, 0, none⟩), .pointer (some ⟨B, 0, none⟩), .pointer (some ⟨BB, 0, none⟩), .int .i64 now] w fun e w' => ∃ v, e = .returned (didV (qDid p ws r) v) ∧ RowAt w' 1 v (qDid p ws r).data.length (u32s (qDid p ws r).data) ∧ (∀ b, v.ownBlock = some b → X b) ∧ MemAt w' B D (qMem p ws r) ∧ (∃ lv, w'.heap[O]? = some (.cells #[.int .u32 (qNext p ws r).own, lv] 132 (0, 0))) ∧ ((qDid p ws r).done = false → RcvAt w' (More X w w') q (qNext p ws r) O QB OBB DB EB WB bs) ∧ Only (fun k => X k ∨ k = D) w w' := by
  obtain ⟨xO, xQ, xOB, xD, xE, xW⟩ := h.inX
  obtain ⟨g, hop, hg, xg⟩ := h.op0 hpc
  obtain ⟨da, dc, hDB, hown, hdX⟩ := h.data
  have lO := blk_lt hop
  have lg := blk_lt hg
  have lB := blk_lt hM.head
  have lD := blk_lt hM.words
  have nOB : O ≠ B := fun e => hX.1 (e ▸ xO)
  have nOD : O ≠ D := fun e => hX.2 (e ▸ xO)
  have ngO : g ≠ O := ne_of_type hg hop (by decide)
  have hb0 := stepW0_but w O (leftV (some ⟨g, 0, none⟩) 1 2)
  have hO0 := stepW0_op (leftV (some ⟨g, 0, none⟩) 1 2) hop
  have hD0 := stepW0_did (w := w) O (leftV (some ⟨g, 0, none⟩) 1 2) lO
  have hz0 := stepW0_size w O (leftV (some ⟨g, 0, none⟩) 1 2)
  have hM0 : MemAt (stepW0 w O (leftV (some ⟨g, 0, none⟩) 1 2)) B D ws := hM.but hb0 (by simpa using Ne.symm nOB) (by simpa using Ne.symm nOD)
  have hOB0 := hb0.blk h.ob (by simpa using ne_of_type h.ob hop (by decide))
  have hQB0 := hb0.blk h.qb (by simpa using ne_of_type h.qb hop (by decide))
  have hEB0 := hb0.blk h.eb (by simpa using ne_of_type h.eb hop (by decide))
  have hWB0 := hb0.blk h.wb (by simpa using ne_of_type h.wb hop (by decide))
  have hDB0 := hb0.blk hDB (by simpa using ne_of_type hDB hop (by decide))
  have hown0 : (stepW0 w O (leftV (some ⟨g, 0, none⟩) 1 2)).ownsRow bs 41 1 (.slice da r.data.length dc) r.data.length (u32s r.data) := own_keep (X := fun b => b ≠ O) hown (fun b hb => by
    obtain ⟨_, ⟨hbad, _⟩ | ⟨g', cap', cur', he, _, hg', _⟩⟩ := hown
    · rw [hbad] at hb; cases hb
    · rw [he] at hb; cases hb; exact ne_of_type hg' hop (by decide)) (fun b o hb hbo => hb0.blk hbo (by simpa using hb))
  have lt := h.lt
  have e1 : emptyB q ws r.own = true := by
    have h1 : emptyB q ws r.own = emptyP p ws r.own := by unfold emptyB emptyP; rw [hf.tail]
    rw [h1]; exact hfl
  have ed : qDid p ws r = { done := true, mark := true, code := 2 } := by unfold qDid; rw [if_pos hpc, if_pos hfl]
  have em : qMem p ws r = ws := by unfold qMem; rw [if_neg (by omega)]
  have en : qNext p ws r = { r with pc := 3 } := by unfold qNext; rw [if_pos hpc, if_pos hfl]
  have hcell := cbk hg 0 (FV 72 #[.pointer (some ⟨QB, 0, none⟩), .pointer (some ⟨OBB, 0, none⟩)]) rfl
  refine (opstep_true O B BB r.own now g 0 1 2 _ _ 2 none 0 0 false 0 true false false 0 (fun w2 => Below (stepW0 w O (leftV (some ⟨g, 0, none⟩) 1 2)).heap.size (stepW0 w O (leftV (some ⟨g, 0, none⟩) 1 2)) w2) w hop (by omega) (by omega) lg ngO hcell entersQ3 ?_ ?_).mono ?_
  · refine (rchk_any q B BB D OBB QB O r.own (leftV (some ⟨g, 0, none⟩) 1 2) ws hq h.own (stepW0 w O (leftV (some ⟨g, 0, none⟩) 1 2)) hM0 hOB0 hO0 hQB0).mono ?_
    rintro e w2 ⟨rfl, hb⟩
    rw [e1]
    exact ⟨rfl, hb⟩
  · intro w2 hb
    exact ⟨blk_below hD0 hb, _, _, blk_below hO0 hb⟩
  · rintro e w' ⟨rfl, w2, hb, hfin, hownf⟩
    have hbt : ButS [O] w w' := (hb0.trans (ButS.of_below hb)).fin2 (by simp) hfin
    rw [ed, em, en]
    exact ⟨.slice none 0 0, rfl, RowAt.of_own (World.ownsRow_nil _ 0 0 _), (fun b hb => by cases hb), hM.but hbt (by simpa using Ne.symm nOB) (by simpa using Ne.symm nOD), ⟨_, hownf _ _ (blk_below hO0 hb)⟩, (fun e => by cases e), Only.of_but hbt (by simp; exact .inl xO)⟩
set_option maxHeartbeats 1000000 in
theorem rcv_look_false {w : World} {X : Nat → Prop} {q : Qu} {r : Rcv} {p : Pl} {ws : List Int} {O QB OBB DB EB WB bs B D BB : Nat} (h : RcvAt w X q r O QB OBB DB EB WB bs) (hf : Fits p q) (hq : q.ok ws.length) (hws : Words ws) (hM : MemAt w B D ws) (hX : ¬ X B ∧ ¬ X D) (hBs : B < bs ∧ D < bs) (hpc : r.pc = 0) (hfl : emptyP p ws r.own = false) (now : Int) : Calls Tryz.prog 36 #[.pointer (some ⟨O, 0, none⟩), .pointer (some ⟨B, 0, none⟩), .pointer (some ⟨BB, 0, none⟩), .int .i64 now] w fun e w' => ∃ v, e = .returned (didV (qDid p ws r) v) ∧ RowAt w' 1 v (qDid p ws r).data.length (u32s (qDid p ws r).data) ∧ (∀ b, v.ownBlock = some b → X b) ∧ MemAt w' B D (qMem p ws r) ∧ (∃ lv, w'.heap[O]? = some (.cells #[.int .u32 (qNext p ws r).own, lv] 132 (0, 0))) ∧ ((qDid p ws r).done = false → RcvAt w' (More X w w') q (qNext p ws r) O QB OBB DB EB WB bs) ∧ Only (fun k => X k ∨ k = D) w w' := by
  obtain ⟨xO, xQ, xOB, xD, xE, xW⟩ := h.inX
  obtain ⟨g, hop, hg, xg⟩ := h.op0 hpc
  obtain ⟨da, dc, hDB, hown, hdX⟩ := h.data
  have lO := blk_lt hop
  have lg := blk_lt hg
  have lB := blk_lt hM.head
  have lD := blk_lt hM.words
  have nOB : O ≠ B := fun e => hX.1 (e ▸ xO)
  have nOD : O ≠ D := fun e => hX.2 (e ▸ xO)
  have ngO : g ≠ O := ne_of_type hg hop (by decide)
  have hb0 := stepW0_but w O (leftV (some ⟨g, 0, none⟩) 1 2)
  have hO0 := stepW0_op (leftV (some ⟨g, 0, none⟩) 1 2) hop
  have hD0 := stepW0_did (w := w) O (leftV (some ⟨g, 0, none⟩) 1 2) lO
  have hz0 := stepW0_size w O (leftV (some ⟨g, 0, none⟩) 1 2)
  have hM0 : MemAt (stepW0 w O (leftV (some ⟨g, 0, none⟩) 1 2)) B D ws := hM.but hb0 (by simpa using Ne.symm nOB) (by simpa using Ne.symm nOD)
  have hOB0 := hb0.blk h.ob (by simpa using ne_of_type h.ob hop (by decide))
  have hQB0 := hb0.blk h.qb (by simpa using ne_of_type h.qb hop (by decide))
  have hEB0 := hb0.blk h.eb (by simpa using ne_of_type h.eb hop (by decide))
  have hWB0 := hb0.blk h.wb (by simpa using ne_of_type h.wb hop (by decide))
  have hDB0 := hb0.blk hDB (by simpa using ne_of_type hDB hop (by decide))
  have hown0 : (stepW0 w O (leftV (some ⟨g, 0, none⟩) 1 2)).ownsRow bs 41 1 (.slice da r.data.length dc) r.data.length (u32s r.data) := own_keep (X := fun b => b ≠ O) hown (fun b hb => by
    obtain ⟨_, ⟨hbad, _⟩ | ⟨g', cap', cur', he, _, hg', _⟩⟩ := hown
    · rw [hbad] at hb; cases hb
    · rw [he] at hb; cases hb; exact ne_of_type hg' hop (by decide)) (fun b o hb hbo => hb0.blk hbo (by simpa using hb))
  have lt := h.lt
  have e1 : emptyB q ws r.own = false := by
    have h1 : emptyB q ws r.own = emptyP p ws r.own := by unfold emptyB emptyP; rw [hf.tail]
    rw [h1]; exact hfl
  have ed : qDid p ws r = {} := by unfold qDid; rw [if_pos hpc, if_neg (by rw [hfl]; simp)]
  have em : qMem p ws r = ws := by unfold qMem; rw [if_neg (by omega)]
  have en : qNext p ws r = { r with pc := 1 } := by unfold qNext; rw [if_pos hpc, if_neg (by rw [hfl]; simp)]
  have hcell := cbk hg 0 (FV 72 #[.pointer (some ⟨QB, 0, none⟩), .pointer (some ⟨OBB, 0, none⟩)]) rfl
  refine (opstep_false O B BB r.own now g 0 1 2 _ _ 0 none 0 0 false 0 false false false 0 (fun w2 => Below (stepW0 w O (leftV (some ⟨g, 0, none⟩) 1 2)).heap.size (stepW0 w O (leftV (some ⟨g, 0, none⟩) 1 2)) w2) w hop (by omega) (by omega) lg ngO hcell entersQ3 ?_ ?_).mono ?_
  · refine (rchk_any q B BB D OBB QB O r.own (leftV (some ⟨g, 0, none⟩) 1 2) ws hq h.own (stepW0 w O (leftV (some ⟨g, 0, none⟩) 1 2)) hM0 hOB0 hO0 hQB0).mono ?_
    rintro e w2 ⟨rfl, hb⟩
    rw [e1]
    exact ⟨rfl, hb⟩
  · intro w2 hb
    exact ⟨blk_below hD0 hb, _, _, blk_below hO0 hb⟩
  · rintro e w' ⟨rfl, w2, hb, hfin⟩
    have hbt : ButS [O] w w' := (hb0.trans (ButS.of_below hb)).fin hfin
    have hO3 := ButS.blk hfin (blk_below hO0 hb) (by simp; omega)
    have nk : ∀ {b : Nat} {o : Obj}, w.heap[b]? = some o → b ≠ O → w'.heap[b]? = some o := fun hbo hne => hbt.blk hbo (by simpa using hne)
    rw [ed, em, en]
    refine ⟨.slice none 0 0, rfl, RowAt.of_own (World.ownsRow_nil _ 0 0 _), (fun b hb => by cases hb), hM.but hbt (by simpa using Ne.symm nOB) (by simpa using Ne.symm nOD), ⟨_, hO3⟩, (fun _ => ?_), Only.of_but hbt (by simp; exact .inl xO)⟩
    have hd0 := h.d0 (by omega)
    exact ⟨by show 1 ≤ 2; omega, fun _ => hd0, (fun e => by cases e), (fun e => by cases e), fun _ => ⟨g, hO3, nk hg ngO, .inl xg⟩, (fun e => by cases e),
      ⟨da, dc, nk hDB (ne_of_type hDB hop (by decide)), own_keep (X := fun b => b ≠ O) hown (fun b hb => by
        obtain ⟨_, ⟨hbad, _⟩ | ⟨g', cap', cur', he, _, hg', _⟩⟩ := hown
        · rw [hbad] at hb; cases hb
        · rw [he] at hb; cases hb; exact ne_of_type hg' hop (by decide)) (fun b o hb hbo => nk hbo hb), fun b hb => .inl (hdX b hb)⟩,
      nk h.ob (ne_of_type h.ob hop (by decide)), nk h.qb (ne_of_type h.qb hop (by decide)), nk h.eb (ne_of_type h.eb hop (by decide)), nk h.wb (ne_of_type h.wb hop (by decide)), ⟨lt.1, lt.2.1, Nat.le_trans lt.2.2 hbt.size⟩, ⟨.inl xO, .inl xQ, .inl xOB, .inl xD, .inl xE, .inl xW⟩, h.cell, h.own⟩
set_option maxHeartbeats 1000000 in
theorem rcv_len {w : World} {X : Nat → Prop} {q : Qu} {r : Rcv} {p : Pl} {ws : List Int} {O QB OBB DB EB WB bs B D BB : Nat} (h : RcvAt w X q r O QB OBB DB EB WB bs) (hf : Fits p q) (hq : q.ok ws.length) (hws : Words ws) (hM : MemAt w B D ws) (hX : ¬ X B ∧ ¬ X D) (hBs : B < bs ∧ D < bs) (hpc : r.pc = 1) (now : Int) : Calls Tryz.prog 36 #[.pointer (some ⟨O, 0, none⟩), .pointer (some ⟨B, 0, none⟩), .pointer (some ⟨BB, 0, none⟩), .int .i64 now] w fun e w' => ∃ v, e = .returned (didV (qDid p ws r) v) ∧ RowAt w' 1 v (qDid p ws r).data.length (u32s (qDid p ws r).data) ∧ (∀ b, v.ownBlock = some b → X b) ∧ MemAt w' B D (qMem p ws r) ∧ (∃ lv, w'.heap[O]? = some (.cells #[.int .u32 (qNext p ws r).own, lv] 132 (0, 0))) ∧ ((qDid p ws r).done = false → RcvAt w' (More X w w') q (qNext p ws r) O QB OBB DB EB WB bs) ∧ Only (fun k => X k ∨ k = D) w w' := by
  obtain ⟨xO, xQ, xOB, xD, xE, xW⟩ := h.inX
  obtain ⟨g, hop, hg, xg⟩ := h.op1 hpc
  obtain ⟨da, dc, hDB, hown, hdX⟩ := h.data
  have lO := blk_lt hop
  have lg := blk_lt hg
  have lB := blk_lt hM.head
  have lD := blk_lt hM.words
  have nOB : O ≠ B := fun e => hX.1 (e ▸ xO)
  have nOD : O ≠ D := fun e => hX.2 (e ▸ xO)
  have ngO : g ≠ O := ne_of_type hg hop (by decide)
  have hb0 := stepW0_but w O (leftV (some ⟨g, 1, none⟩) 0 1)
  have hO0 := stepW0_op (leftV (some ⟨g, 1, none⟩) 0 1) hop
  have hD0 := stepW0_did (w := w) O (leftV (some ⟨g, 1, none⟩) 0 1) lO
  have hz0 := stepW0_size w O (leftV (some ⟨g, 1, none⟩) 0 1)
  have hM0 : MemAt (stepW0 w O (leftV (some ⟨g, 1, none⟩) 0 1)) B D ws := hM.but hb0 (by simpa using Ne.symm nOB) (by simpa using Ne.symm nOD)
  have hOB0 := hb0.blk h.ob (by simpa using ne_of_type h.ob hop (by decide))
  have hQB0 := hb0.blk h.qb (by simpa using ne_of_type h.qb hop (by decide))
  have hEB0 := hb0.blk h.eb (by simpa using ne_of_type h.eb hop (by decide))
  have hWB0 := hb0.blk h.wb (by simpa using ne_of_type h.wb hop (by decide))
  have hDB0 := hb0.blk hDB (by simpa using ne_of_type hDB hop (by decide))
  have hown0 : (stepW0 w O (leftV (some ⟨g, 1, none⟩) 0 1)).ownsRow bs 41 1 (.slice da r.data.length dc) r.data.length (u32s r.data) := own_keep (X := fun b => b ≠ O) hown (fun b hb => by
    obtain ⟨_, ⟨hbad, _⟩ | ⟨g', cap', cur', he, _, hg', _⟩⟩ := hown
    · rw [hbad] at hb; cases hb
    · rw [he] at hb; cases hb; exact ne_of_type hg' hop (by decide)) (fun b o hb hbo => hb0.blk hbo (by simpa using hb))
  have lt := h.lt
  have ed : qDid p ws r = {} := by unfold qDid; rw [if_neg (by omega), if_neg (by omega)]
  have em : qMem p ws r = ws := by unfold qMem; rw [if_neg (by omega)]
  have en : qNext p ws r = { r with pc := 2, left := (qLeft p ws r).toNat } := by unfold qNext; rw [if_neg (by omega), if_pos hpc]
  have hqc := hq.cell
  have hqw := hq.words
  obtain ⟨L, hL⟩ : ∃ L, (qLeft p ws r).toNat = L := ⟨_, rfl⟩
  have hcw : 0 ≤ ldW ws q.cell := (words_ld hws _ hqc.1 (by omega)).1
  have hLw : (L : Int) ≤ q.words := by
    rw [← hL]
    unfold qLeft
    rw [← h.cell, ← hf.words]
    split <;> omega
  have hcell := cbk hg 1 (FV 73 #[.pointer (some ⟨QB, 0, none⟩), .pointer (some ⟨OBB, 0, none⟩), .pointer (some ⟨WB, 0, none⟩), .pointer (some ⟨EB, 0, none⟩)]) rfl
  have hcon : Calls Tryz.prog 73 #[.agg #[.pointer (some ⟨B, 0, none⟩), .pointer (some ⟨BB, 0, none⟩)], .pointer (some ⟨QB, 0, none⟩), .pointer (some ⟨OBB, 0, none⟩), .pointer (some ⟨WB, 0, none⟩), .pointer (some ⟨EB, 0, none⟩)] (stepW0 w O (leftV (some ⟨g, 1, none⟩) 0 1)) fun e w2 => ∃ g2 cap, e = .returned (.agg #[.bool false, .int .i64 0, .slice none 0 0, .bool false, .int .i64 0, .bool false, .bool false, .bool false, .int .i64 0]) ∧ w2.heap[O]? = some (.cells #[.int .u32 r.own, .slice (some ⟨g2, 0, none⟩) (L + 1) cap] 132 (0, 0)) ∧ w2.ownsRow (stepW0 w O (leftV (some ⟨g, 1, none⟩) 0 1)).heap.size 133 1 (.slice (some ⟨g2, 0, none⟩) (L + 1) cap) (L + 1) (recvRow QB OBB DB L) ∧ MemAt w2 B D ws ∧ ButS [O] (stepW0 w O (leftV (some ⟨g, 1, none⟩) 0 1)) w2 := by
    by_cases hle : ldW ws q.cell ≤ q.words
    · have hLe : (L : Int) = ldW ws q.cell := by
        rw [← hL]
        unfold qLeft
        rw [← h.cell, ← hf.words, if_pos hle]
        omega
      exact rglenA_any q B BB D QB OBB WB EB O r.own ⟨g, 1, none⟩ 71 70 _ _ ws hq hws L hLe hle (stepW0 w O (leftV (some ⟨g, 1, none⟩) 0 1)) hM0 hOB0 hO0 hQB0 hWB0 hEB0
    · have hLe : (L : Int) = q.words := by
        rw [← hL]
        unfold qLeft
        rw [← h.cell, ← hf.words, if_neg hle]
        omega
      exact rglenB_any q B BB D QB OBB WB EB O r.own ⟨g, 1, none⟩ 71 70 _ _ ws hq hws L hLe hle (stepW0 w O (leftV (some ⟨g, 1, none⟩) 0 1)) hM0 hOB0 hO0 hQB0 hWB0 hEB0
  refine (opstep_false O B BB r.own now g 1 0 1 _ _ 0 none 0 0 false 0 false false false 0 (fun w2 => ∃ g2 cap : Nat, w2.heap[O]? = some (.cells #[.int .u32 r.own, .slice (some ⟨g2, 0, none⟩) (L + 1) cap] 132 (0, 0)) ∧ w2.ownsRow (stepW0 w O (leftV (some ⟨g, 1, none⟩) 0 1)).heap.size 133 1 (.slice (some ⟨g2, 0, none⟩) (L + 1) cap) (L + 1) (recvRow QB OBB DB L) ∧ MemAt w2 B D ws ∧ ButS [O] (stepW0 w O (leftV (some ⟨g, 1, none⟩) 0 1)) w2) w hop (by omega) (by omega) lg ngO hcell entersQ4 ?_ ?_).mono ?_
  · refine hcon.mono ?_
    rintro e w2 ⟨g2, cap, rfl, h1, h2, h3, h4⟩
    exact ⟨rfl, g2, cap, h1, h2, h3, h4⟩
  · rintro w2 ⟨g2, cap, h1, h2, h3, h4⟩
    exact ⟨h4.blk hD0 (by simp; omega), _, _, h1⟩
  · rintro e w' ⟨rfl, w2, ⟨g2, cap, h1, h2, h3, h4⟩, hfin⟩
    have hbt : ButS [O] w w' := (hb0.trans h4).fin hfin
    have hO3 := ButS.blk hfin h1 (by simp; omega)
    have nk : ∀ {b : Nat} {o : Obj}, w.heap[b]? = some o → b ≠ O → w'.heap[b]? = some o := fun hbo hne => hbt.blk hbo (by simpa using hne)
    have hg2 := h2.lt g2 rfl
    rw [hz0] at hg2
    obtain ⟨_, ⟨hbad, _⟩ | ⟨g3, cap3, cur, he, hge, hg3, hnc, hcm, hcs, htk⟩⟩ := h2
    · cases hbad
    cases he
    rw [ed, em, en, hL]
    refine ⟨.slice none 0 0, rfl, RowAt.of_own (World.ownsRow_nil _ 0 0 _), (fun b hb => by cases hb), hM.but hbt (by simpa using Ne.symm nOB) (by simpa using Ne.symm nOD), ⟨_, hO3⟩, (fun _ => ?_), Only.of_but hbt (by simp; exact .inl xO)⟩
    have hd0 := h.d0 (by omega)
    have hg4 := ButS.blk hfin hg3 (by simp; omega)
    have lg4 := blk_lt hg4
    exact ⟨by show 2 ≤ 2; omega, fun e => by have e' : 2 ≤ 1 := e; omega, fun _ => ⟨by show r.data.length ≤ L; rw [hd0]; exact Nat.zero_le _, hLw⟩, (fun e => by cases e), (fun e => by cases e),
      fun _ => ⟨g2, cap, cur, by show w'.heap[O]? = some (.cells #[.int .u32 r.own, .slice (some ⟨g2, r.data.length, none⟩) (L + 1 - r.data.length) (cap - r.data.length)] 132 (0, 0)); rw [hd0]; exact hO3, hg4, hnc, (fun i v hv => by
        have hil := (List.getElem?_eq_some_iff.1 hv).1
        rw [show (recvRow QB OBB DB L) = cur.toList.take ((L + 1) * 1) from htk.symm, List.getElem?_take] at hv
        split at hv
        · rwa [Array.getElem?_toList] at hv
        · cases hv), .inr ⟨by omega, lg4⟩⟩,
      ⟨da, dc, nk hDB (ne_of_type hDB hop (by decide)), own_keep (X := fun b => b ≠ O) hown (fun b hb => by
        obtain ⟨_, ⟨hbad, _⟩ | ⟨g', cap', cur', he, _, hg', _⟩⟩ := hown
        · rw [hbad] at hb; cases hb
        · rw [he] at hb; cases hb; exact ne_of_type hg' hop (by decide)) (fun b o hb hbo => nk hbo hb), fun b hb => .inl (hdX b hb)⟩,
      nk h.ob (ne_of_type h.ob hop (by decide)), nk h.qb (ne_of_type h.qb hop (by decide)), nk h.eb (ne_of_type h.eb hop (by decide)), nk h.wb (ne_of_type h.wb hop (by decide)), ⟨lt.1, lt.2.1, Nat.le_trans lt.2.2 hbt.size⟩, ⟨.inl xO, .inl xQ, .inl xOB, .inl xD, .inl xE, .inl xW⟩, h.cell, h.own⟩
set_option maxHeartbeats 1000000 in
theorem rcv_word {w : World} {X : Nat → Prop} {q : Qu} {r : Rcv} {p : Pl} {ws : List Int} {O QB OBB DB EB WB bs B D BB : Nat} (h : RcvAt w X q r O QB OBB DB EB WB bs) (hf : Fits p q) (hq : q.ok ws.length) (hws : Words ws) (hM : MemAt w B D ws) (hX : ¬ X B ∧ ¬ X D) (hBs : B < bs ∧ D < bs) (hpc : r.pc = 2) (hlt : r.data.length < r.left) (now : Int) : Calls Tryz.prog 36 #[.pointer (some ⟨O, 0, none⟩), .pointer (some ⟨B, 0, none⟩), .pointer (some ⟨BB, 0, none⟩), .int .i64 now] w fun e w' => ∃ v, e = .returned (didV (qDid p ws r) v) ∧ RowAt w' 1 v (qDid p ws r).data.length (u32s (qDid p ws r).data) ∧ (∀ b, v.ownBlock = some b → X b) ∧ MemAt w' B D (qMem p ws r) ∧ (∃ lv, w'.heap[O]? = some (.cells #[.int .u32 (qNext p ws r).own, lv] 132 (0, 0))) ∧ ((qDid p ws r).done = false → RcvAt w' (More X w w') q (qNext p ws r) O QB OBB DB EB WB bs) ∧ Only (fun k => X k ∨ k = D) w w' := by
  obtain ⟨xO, xQ, xOB, xD, xE, xW⟩ := h.inX
  obtain ⟨g, cap, cur, hop, hg, hcap, hrow, xg⟩ := h.op2 hpc
  obtain ⟨da, dc, hDB, hown, hdX⟩ := h.data
  have lO := blk_lt hop
  have lg := blk_lt hg
  have lB := blk_lt hM.head
  have lD := blk_lt hM.words
  have nOB : O ≠ B := fun e => hX.1 (e ▸ xO)
  have nOD : O ≠ D := fun e => hX.2 (e ▸ xO)
  have ngO : g ≠ O := ne_of_type hg hop (by decide)
  have hb0 := stepW0_but w O (leftV (some ⟨g, r.data.length, none⟩) (r.left - r.data.length) (cap - r.data.length))
  have hO0 := stepW0_op (leftV (some ⟨g, r.data.length, none⟩) (r.left - r.data.length) (cap - r.data.length)) hop
  have hD0 := stepW0_did (w := w) O (leftV (some ⟨g, r.data.length, none⟩) (r.left - r.data.length) (cap - r.data.length)) lO
  have hz0 := stepW0_size w O (leftV (some ⟨g, r.data.length, none⟩) (r.left - r.data.length) (cap - r.data.length))
  have hM0 : MemAt (stepW0 w O (leftV (some ⟨g, r.data.length, none⟩) (r.left - r.data.length) (cap - r.data.length))) B D ws := hM.but hb0 (by simpa using Ne.symm nOB) (by simpa using Ne.symm nOD)
  have hOB0 := hb0.blk h.ob (by simpa using ne_of_type h.ob hop (by decide))
  have hQB0 := hb0.blk h.qb (by simpa using ne_of_type h.qb hop (by decide))
  have hEB0 := hb0.blk h.eb (by simpa using ne_of_type h.eb hop (by decide))
  have hWB0 := hb0.blk h.wb (by simpa using ne_of_type h.wb hop (by decide))
  have hDB0 := hb0.blk hDB (by simpa using ne_of_type hDB hop (by decide))
  have hown0 : (stepW0 w O (leftV (some ⟨g, r.data.length, none⟩) (r.left - r.data.length) (cap - r.data.length))).ownsRow bs 41 1 (.slice da r.data.length dc) r.data.length (u32s r.data) := own_keep (X := fun b => b ≠ O) hown (fun b hb => by
    obtain ⟨_, ⟨hbad, _⟩ | ⟨g', cap', cur', he, _, hg', _⟩⟩ := hown
    · rw [hbad] at hb; cases hb
    · rw [he] at hb; cases hb; exact ne_of_type hg' hop (by decide)) (fun b o hb hbo => hb0.blk hbo (by simpa using hb))
  have lt := h.lt
  have ed : qDid p ws r = {} := by unfold qDid; rw [if_neg (by omega), if_neg (by omega)]
  have em : qMem p ws r = ws := by unfold qMem; rw [if_neg (by omega)]
  have en : qNext p ws r = { r with data := r.data ++ [ldW ws (r.cell + 1 + r.data.length)] } := by unfold qNext; rw [if_neg (by omega), if_neg (by omega), if_pos hpc, if_pos hlt]
  have hle := h.le hpc
  have hqw := hq.words
  have hcell : w.cell? ⟨g, r.data.length, none⟩ = some (FV 71 #[.pointer (some ⟨DB, 0, none⟩), .pointer (some ⟨QB, 0, none⟩)]) := (cell_blk hg r.data.length).trans (hrow _ _ (recvRow_word _ _ _ _ _ hlt))
  have hop1 := hop
  rw [show r.left + 1 - r.data.length = (r.left - r.data.length) + 1 by omega] at hop1
  refine (opstep_false O B BB r.own now g r.data.length (r.left - r.data.length) (cap - r.data.length) _ _ 0 none 0 0 false 0 false false false 0 (fun w2 => ∃ g2 cap2 : Nat, MemAt w2 B D ws ∧ w2.heap[DB]? = some (.cells #[.slice (some ⟨g2, 0, none⟩) (r.data.length + 1) cap2] 44 (0, 0)) ∧ w2.ownsRow bs 41 1 (.slice (some ⟨g2, 0, none⟩) (r.data.length + 1) cap2) (r.data.length + 1) (u32s (r.data ++ [ldW ws (q.cell + 1 + r.data.length)])) ∧ ButS (DB :: (Value.slice da r.data.length dc).ownBlock.toList) (stepW0 w O (leftV (some ⟨g, r.data.length, none⟩) (r.left - r.data.length) (cap - r.data.length))) w2 ∧ ((Value.slice da r.data.length dc).ownBlock = some g2 ∨ (stepW0 w O (leftV (some ⟨g, r.data.length, none⟩) (r.left - r.data.length) (cap - r.data.length))).heap.size < g2)) w hop1 (by omega) (by omega) lg ngO hcell entersQ2 ?_ ?_).mono ?_
  · refine (rgword_any q B BB D DB QB da r.data.length dc r.data bs ws hq (by omega) (stepW0 w O (leftV (some ⟨g, r.data.length, none⟩) (r.left - r.data.length) (cap - r.data.length))) hM0 hDB0 hQB0 hown0 hBs.1 hBs.2 lt.1 lt.2.1 (by omega)).mono ?_
    rintro e w2 ⟨g2, cap2, rfl, h1, h2, h3, h4, h5⟩
    exact ⟨rfl, g2, cap2, h1, h2, h3, h4, h5⟩
  · rintro w2 ⟨g2, cap2, h1, h2, h3, h4, h5⟩
    refine ⟨h4.blk hD0 ?_, _, _, h4.blk hO0 ?_⟩
    · simp only [List.mem_cons, Option.mem_toList, not_or]
      exact ⟨by have := blk_lt hDB; omega, fun hm => by have := (hown.lt _ hm).2; omega⟩
    · simp only [List.mem_cons, Option.mem_toList, not_or]
      refine ⟨(ne_of_type hDB hop (by decide)).symm, fun hm => ?_⟩
      obtain ⟨_, ⟨hbad, _⟩ | ⟨g', cap', cur', he, _, hg', _⟩⟩ := hown
      · rw [hbad] at hm; cases hm
      · rw [he] at hm; cases hm; exact ne_of_type hg' hop (by decide) rfl
  · rintro e w' ⟨rfl, w2, ⟨g2, cap2, h1, h2, h3, h4, h5⟩, hfin⟩
    have hbt : ButS (O :: DB :: (Value.slice da r.data.length dc).ownBlock.toList) w w' := ((hb0.mono (by simp)).trans (h4.mono fun k hk => List.mem_cons_of_mem _ hk)).fin hfin
    have nDO : DB ≠ O := ne_of_type hDB hop (by decide)
    have hO2 : w2.heap[O]? = some (.cells #[.int .u32 r.own, (leftV (some ⟨g, r.data.length, none⟩) (r.left - r.data.length) (cap - r.data.length))] 132 (0, 0)) := h4.blk hO0 (by
      simp only [List.mem_cons, Option.mem_toList, not_or]
      refine ⟨nDO.symm, fun hm => ?_⟩
      obtain ⟨_, ⟨hbad, _⟩ | ⟨g', cap', cur', he, _, hg', _⟩⟩ := hown
      · rw [hbad] at hm; cases hm
      · rw [he] at hm; cases hm; exact ne_of_type hg' hop (by decide) rfl)
    have hO3 := ButS.blk hfin hO2 (by simp; omega)
    rw [leftV_mid _ _ _ _ (by omega)] at hO3
    have nk : ∀ {b : Nat} {c : Array Value} {ty : TypeId} {f : Nat × Nat}, w.heap[b]? = some (.cells c ty f) → b ≠ O → b ≠ DB → ty ≠ 41 → w'.heap[b]? = some (.cells c ty f) := fun hbo hne hnd hty => hbt.blk hbo (by
      simp only [List.mem_cons, Option.mem_toList, not_or]
      refine ⟨hne, hnd, fun hm => ?_⟩
      obtain ⟨_, ⟨hbad, _⟩ | ⟨g', cap', cur', he, _, hg', _⟩⟩ := hown
      · rw [hbad] at hm; cases hm
      · rw [he] at hm; cases hm; exact hty (ne_of_type_eq hbo hg'))
    have nD2 : DB ≠ w.heap.size := by have := blk_lt hDB; omega
    have hsz2 := h4.size
    have hg2 := h3.lt g2 rfl
    have hg2n : g2 ≠ w.heap.size := by
      rcases h5 with h5 | h5
      · have := (hown.lt _ h5).2; omega
      · omega
    have xg2 : More X w w' g2 := by
      rcases h5 with h5 | h5
      · exact .inl (hdX _ h5)
      · exact .inr ⟨by omega, by have := hfin.size; omega⟩
    have hMM : MemAt w' B D ws := h1.but hfin (by simp; omega) (by simp; omega)
    have hDB3 := ButS.blk hfin h2 (by simp; omega)
    have hown3 := own_keep (X := fun b => b ≠ w.heap.size) (w' := w') h3 (fun b hb => by cases hb; exact hg2n) (fun b o hb hbo => ButS.blk hfin hbo (by simpa using hb))
    rw [ed, em, en]
    refine ⟨.slice none 0 0, rfl, RowAt.of_own (World.ownsRow_nil _ 0 0 _), (fun b hb => by cases hb), hMM, ⟨_, hO3⟩, (fun _ => ?_), Only.of_but hbt (fun k hk => by
      simp only [List.mem_cons, Option.mem_toList] at hk
      rcases hk with rfl | rfl | hk
      · exact .inl xO
      · exact .inl xD
      · exact .inl (hdX _ hk))⟩
    have hl1 : (r.data ++ [ldW ws (r.cell + 1 + r.data.length)]).length = r.data.length + 1 := by simp
    rw [h.cell] at hown3
    exact ⟨h.pc, fun e => by have e' : r.pc ≤ 1 := e; omega, fun _ => ⟨by show (r.data ++ [_]).length ≤ r.left; rw [hl1]; exact hlt, hle.2⟩, fun e => by have e' : r.pc = 0 := e; omega, fun e => by have e' : r.pc = 1 := e; omega,
      fun _ => ⟨g, cap, cur, by
        show w'.heap[O]? = some (.cells #[.int .u32 r.own, .slice (some ⟨g, (r.data ++ [ldW ws (r.cell + 1 + r.data.length)]).length, none⟩) (r.left + 1 - (r.data ++ [ldW ws (r.cell + 1 + r.data.length)]).length) (cap - (r.data ++ [ldW ws (r.cell + 1 + r.data.length)]).length)] 132 (0, 0))
        rw [hl1, show r.left + 1 - (r.data.length + 1) = r.left - r.data.length by omega, show cap - (r.data.length + 1) = cap - r.data.length - 1 by omega]
        exact hO3, nk hg ngO (ne_of_type hg hDB (by decide)) (by decide), hcap, hrow, .inl xg⟩,
      ⟨some ⟨g2, 0, none⟩, cap2, by
        show w'.heap[DB]? = some (.cells #[.slice (some ⟨g2, 0, none⟩) (r.data ++ [ldW ws (r.cell + 1 + r.data.length)]).length cap2] 44 (0, 0))
        rw [hl1]
        exact hDB3, by
        show w'.ownsRow bs 41 1 (.slice (some ⟨g2, 0, none⟩) (r.data ++ [ldW ws (r.cell + 1 + r.data.length)]).length cap2) (r.data ++ [ldW ws (r.cell + 1 + r.data.length)]).length (u32s (r.data ++ [ldW ws (r.cell + 1 + r.data.length)]))
        rw [hl1]
        exact hown3, fun b hb => by cases hb; exact xg2⟩,
      nk h.ob (ne_of_type h.ob hop (by decide)) (ne_of_type h.ob hDB (by decide)) (by decide), nk h.qb (ne_of_type h.qb hop (by decide)) (ne_of_type h.qb hDB (by decide)) (by decide), nk h.eb (ne_of_type h.eb hop (by decide)) (ne_of_type h.eb hDB (by decide)) (by decide), nk h.wb (ne_of_type h.wb hop (by decide)) (ne_of_type h.wb hDB (by decide)) (by decide), ⟨lt.1, lt.2.1, Nat.le_trans lt.2.2 hbt.size⟩, ⟨.inl xO, .inl xQ, .inl xOB, .inl xD, .inl xE, .inl xW⟩, h.cell, h.own⟩
set_option maxHeartbeats 1000000 in
theorem rcv_end {w : World} {X : Nat → Prop} {q : Qu} {r : Rcv} {p : Pl} {ws : List Int} {O QB OBB DB EB WB bs B D BB : Nat} (h : RcvAt w X q r O QB OBB DB EB WB bs) (hf : Fits p q) (hq : q.ok ws.length) (hws : Words ws) (hM : MemAt w B D ws) (hX : ¬ X B ∧ ¬ X D) (hBs : B < bs ∧ D < bs) (hpc : r.pc = 2) (hlt : r.left ≤ r.data.length) (now : Int) : Calls Tryz.prog 36 #[.pointer (some ⟨O, 0, none⟩), .pointer (some ⟨B, 0, none⟩), .pointer (some ⟨BB, 0, none⟩), .int .i64 now] w fun e w' => ∃ v, e = .returned (didV (qDid p ws r) v) ∧ RowAt w' 1 v (qDid p ws r).data.length (u32s (qDid p ws r).data) ∧ (∀ b, v.ownBlock = some b → X b) ∧ MemAt w' B D (qMem p ws r) ∧ (∃ lv, w'.heap[O]? = some (.cells #[.int .u32 (qNext p ws r).own, lv] 132 (0, 0))) ∧ ((qDid p ws r).done = false → RcvAt w' (More X w w') q (qNext p ws r) O QB OBB DB EB WB bs) ∧ Only (fun k => X k ∨ k = D) w w' := by
  obtain ⟨xO, xQ, xOB, xD, xE, xW⟩ := h.inX
  obtain ⟨g, cap, cur, hop, hg, hcap, hrow, xg⟩ := h.op2 hpc
  obtain ⟨da, dc, hDB, hown, hdX⟩ := h.data
  have lO := blk_lt hop
  have lg := blk_lt hg
  have lB := blk_lt hM.head
  have lD := blk_lt hM.words
  have nOB : O ≠ B := fun e => hX.1 (e ▸ xO)
  have nOD : O ≠ D := fun e => hX.2 (e ▸ xO)
  have ngO : g ≠ O := ne_of_type hg hop (by decide)
  have hb0 := stepW0_but w O (leftV (some ⟨g, r.data.length, none⟩) (r.left - r.data.length) (cap - r.data.length))
  have hO0 := stepW0_op (leftV (some ⟨g, r.data.length, none⟩) (r.left - r.data.length) (cap - r.data.length)) hop
  have hD0 := stepW0_did (w := w) O (leftV (some ⟨g, r.data.length, none⟩) (r.left - r.data.length) (cap - r.data.length)) lO
  have hz0 := stepW0_size w O (leftV (some ⟨g, r.data.length, none⟩) (r.left - r.data.length) (cap - r.data.length))
  have hM0 : MemAt (stepW0 w O (leftV (some ⟨g, r.data.length, none⟩) (r.left - r.data.length) (cap - r.data.length))) B D ws := hM.but hb0 (by simpa using Ne.symm nOB) (by simpa using Ne.symm nOD)
  have hOB0 := hb0.blk h.ob (by simpa using ne_of_type h.ob hop (by decide))
  have hQB0 := hb0.blk h.qb (by simpa using ne_of_type h.qb hop (by decide))
  have hEB0 := hb0.blk h.eb (by simpa using ne_of_type h.eb hop (by decide))
  have hWB0 := hb0.blk h.wb (by simpa using ne_of_type h.wb hop (by decide))
  have hDB0 := hb0.blk hDB (by simpa using ne_of_type hDB hop (by decide))
  have hown0 : (stepW0 w O (leftV (some ⟨g, r.data.length, none⟩) (r.left - r.data.length) (cap - r.data.length))).ownsRow bs 41 1 (.slice da r.data.length dc) r.data.length (u32s r.data) := own_keep (X := fun b => b ≠ O) hown (fun b hb => by
    obtain ⟨_, ⟨hbad, _⟩ | ⟨g', cap', cur', he, _, hg', _⟩⟩ := hown
    · rw [hbad] at hb; cases hb
    · rw [he] at hb; cases hb; exact ne_of_type hg' hop (by decide)) (fun b o hb hbo => hb0.blk hbo (by simpa using hb))
  have lt := h.lt
  have hle := h.le hpc
  have hll : r.data.length = r.left := by omega
  have ed : qDid p ws r = { done := true, mark := true, data := r.data } := by unfold qDid; rw [if_neg (by omega), if_pos ⟨hpc, hlt⟩]
  have em : qMem p ws r = stW ws q.head ((r.own + 1) % 4294967296) := by unfold qMem; rw [if_pos ⟨hpc, hlt⟩, hf.head]; rfl
  have en : qNext p ws r = { r with pc := 3, own := nx32 r.own } := by unfold qNext; rw [if_neg (by omega), if_neg (by omega), if_pos hpc, if_neg (by omega)]
  have hqw := hq.words
  have hcell : w.cell? ⟨g, r.data.length, none⟩ = some (FV 70 #[.pointer (some ⟨OBB, 0, none⟩), .pointer (some ⟨QB, 0, none⟩), .pointer (some ⟨DB, 0, none⟩)]) := (cell_blk hg r.data.length).trans (hrow _ _ (by rw [hll]; exact recvRow_end _ _ _ _))
  have hop1 := hop
  rw [show r.left + 1 - r.data.length = (r.left - r.data.length) + 1 by omega] at hop1
  refine (opstep_true O B BB r.own now g r.data.length (r.left - r.data.length) (cap - r.data.length) _ _ 0 da r.data.length dc false 0 true false false 0 (fun w2 => MemAt w2 B D (stW ws q.head ((r.own + 1) % 4294967296)) ∧ w2.heap[O]? = some (.cells #[.int .u32 ((r.own + 1) % 4294967296), (leftV (some ⟨g, r.data.length, none⟩) (r.left - r.data.length) (cap - r.data.length))] 132 (0, 0)) ∧ ButS [O, D] (stepW0 w O (leftV (some ⟨g, r.data.length, none⟩) (r.left - r.data.length) (cap - r.data.length))) w2) w hop1 (by omega) (by omega) lg ngO hcell entersQ1 ?_ ?_).mono ?_
  · refine (rend_any q B BB D OBB QB O DB r.own (leftV (some ⟨g, r.data.length, none⟩) (r.left - r.data.length) (cap - r.data.length)) da r.data.length dc ws hq (stepW0 w O (leftV (some ⟨g, r.data.length, none⟩) (r.left - r.data.length) (cap - r.data.length))) hM0 hOB0 hO0 hQB0 hDB0).mono ?_
    rintro e w2 ⟨rfl, h1, h2, h3⟩
    exact ⟨rfl, h1, h2, h3⟩
  · rintro w2 ⟨h1, h2, h3⟩
    exact ⟨h3.blk hD0 (by simp; omega), _, _, h2⟩
  · rintro e w' ⟨rfl, w2, ⟨h1, h2, h3⟩, hfin, hownf⟩
    have hbt : ButS [O, D] w w' := ((hb0.mono (by simp)).trans h3).fin2 (by simp) hfin
    rw [ed, em, en]
    refine ⟨.slice da r.data.length dc, rfl, ?_, hdX, h1.but hfin (by simp; omega) (by simp; omega), ⟨_, hownf _ _ h2⟩, (fun e => by cases e), Only.of_but hbt (by simp; exact .inl xO)⟩
    refine RowAt.of_own (own_keep (X := fun b => X b ∧ b ≠ O) hown (fun b hb => ⟨hdX b hb, ?_⟩) (fun b o hb hbo => hbt.blk hbo ?_))
    · obtain ⟨_, ⟨hbad, _⟩ | ⟨g', cap', cur', he, _, hg', _⟩⟩ := hown
      · rw [hbad] at hb; cases hb
      · rw [he] at hb; cases hb; exact ne_of_type hg' hop (by decide)
    · simp only [List.mem_cons, List.not_mem_nil, or_false, not_or]
      exact ⟨hb.2, fun e => hX.2 (e ▸ hb.1)⟩
theorem rcv_step {w : World} {X : Nat → Prop} {q : Qu} {r : Rcv} {p : Pl} {ws : List Int} {O QB OBB DB EB WB bs B D BB : Nat} (h : RcvAt w X q r O QB OBB DB EB WB bs) (hf : Fits p q) (hq : q.ok ws.length) (hws : Words ws) (hM : MemAt w B D ws) (hX : ¬ X B ∧ ¬ X D) (hBs : B < bs ∧ D < bs) (now : Int) : Calls Tryz.prog 36 #[.pointer (some ⟨O, 0, none⟩), .pointer (some ⟨B, 0, none⟩), .pointer (some ⟨BB, 0, none⟩), .int .i64 now] w fun e w' => ∃ v, e = .returned (didV (qDid p ws r) v) ∧ RowAt w' 1 v (qDid p ws r).data.length (u32s (qDid p ws r).data) ∧ (∀ b, v.ownBlock = some b → X b) ∧ MemAt w' B D (qMem p ws r) ∧ (∃ lv, w'.heap[O]? = some (.cells #[.int .u32 (qNext p ws r).own, lv] 132 (0, 0))) ∧ ((qDid p ws r).done = false → RcvAt w' (More X w w') q (qNext p ws r) O QB OBB DB EB WB bs) ∧ Only (fun k => X k ∨ k = D) w w' := by
  have hpc := h.pc
  by_cases c0 : r.pc = 0
  · cases hfl : emptyP p ws r.own with
    | true => exact rcv_look_true h hf hq hws hM hX hBs c0 hfl now
    | false => exact rcv_look_false h hf hq hws hM hX hBs c0 hfl now
  · by_cases c1 : r.pc = 1
    · exact rcv_len h hf hq hws hM hX hBs c1 now
    · by_cases c2 : r.data.length < r.left
      · exact rcv_word h hf hq hws hM hX hBs (by omega) c2 now
      · exact rcv_end h hf hq hws hM hX hBs (by omega) (by omega) now
end Go.Proofs.YtmidcnfmphlneaaGreat

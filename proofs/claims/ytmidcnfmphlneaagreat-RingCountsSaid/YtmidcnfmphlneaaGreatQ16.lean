/- Contracts of package four: a step of the writer, a new writer.; Contracts of package ring: what a send that has done nothing is in memory. -/
import Derived.Test.YtmidcnfmphlneaaGreatQ11
import Derived.Test.YtmidcnfmphlneaaGreatQ3
import Derived.Test.YtmidcnfmphlneaaGreatQ14
import Derived.Test.YtmidcnfmphlneaaGreatQ15
namespace Go.Proofs.YtmidcnfmphlneaaGreat
section
open Go.RowKit
set_option linter.unusedSimpArgs false
set_option linter.unusedVariables false
theorem run_equalIn_slice_nilH {P : Program} (w : World) (d : Nat) (t e : TypeId) (a : Option Addr) (l c : Nat) (h : P.underlying t = some (.slice e)) : (Op.equalIn (d + 1) t (.slice a l c) (.slice none 0 0)).run P w = .ok a.isNone w := by
  cases a <;> simp [Op.equalIn, run_underlying h]
theorem run_equal_slice_nilH {P : Program} (w : World) (t e : TypeId) (a : Option Addr) (l c : Nat) (h : P.underlying t = some (.slice e)) : (Op.equal t (.slice a l c) (.slice none 0 0)).run P w = .ok a.isNone w := run_equalIn_slice_nilH w 9999 t e a l c h
theorem run_eql_slice_nilH {P : Program} (w : World) (t e : TypeId) (a : Option Addr) (l c : Nat) (h : P.underlying t = some (.slice e)) : (binOp .eql t (.slice a l c) (.slice none 0 0)).run P w = .ok (.bool a.isNone) w := by
  simp [binOp, run_equal_slice_nilH w t e a l c h]
set_option maxRecDepth 100000 in
set_option maxHeartbeats 1000000 in
theorem clone_any (a : Option Addr) (n c : Nat) (cs : List Value) (hn : 0 < n) (h1 : ∀ u ∈ cs, u.oneCell' = true) (w : World) (h : RowAt w 1 (.slice a n c) n cs) (hl : n ≤ 1000) : Calls Tryz.prog 52 #[.slice a n c] w fun e w' =>
    ∃ g cap, e = .returned (.slice (some ⟨g, 0, none⟩) n cap) ∧ Kp (w'.ownsRow w.heap.size 41 1 (.slice (some ⟨g, 0, none⟩) n cap) n cs) ∧ Below w.heap.size w w' ∧ w.heap.size ≤ g := by
  obtain ⟨g0, o, rfl, hg, hc⟩ := h.at hn
  have H := Kp.mk h
  obtain ⟨i0, hi, hz0, hz1, hz2⟩ := info_parts Tryz.infoU32
  have H1 := Kp.mk h1
  have qS := fun (w : World) a l c => run_eql_slice_nilH (P := Tryz.prog) w 44 41 a l c Tryz.underlying44
  clear h hc h1
  go_enter Tryz.func52, Tryz.ntmps52
  go_wp2_with (refine wpList_append_lies _ rfl _ _ 44 rfl w.heap.size 41 i0 (.int .u32 0) 1 4 Tryz.underlying44 hi hz0 hz1 hz2 rfl (by decide) (.slice (some ⟨w.heap.size, 0, none⟩) 0 0) 0 [] rfl (own_new0 w 41 1) ⟨g0, o, none⟩ n c cs rfl (by have := H.out.1; simpa using this) ?hnews H1.out hn (by unfold maxLen; omega) (by omega) (by simp) _ rfl ?hk)
  case hnews =>
    exact news_of_row (H.out.below (below_al (Below.refl _ _) _)) hn rfl
  case hk =>
    intro g cap w1 hown hgrow hat hlt
    try simp only [Nat.zero_add, List.nil_append] at hown
    have HO := Kp.mk hown
    have HB : Kp (Below w.heap.size w w1) := ⟨(below_al (Below.refl w.heap.size w) (.cells #[] 41)).grown hgrow (by simp) fun k hk => by simp [Value.ownBlock] at hk; omega⟩
    have hgl : w.heap.size ≤ g := by
      rcases hat with h | h
      · simp [Value.ownBlock] at h; omega
      · first | omega | (simp at h; omega)
    clear hown hgrow hat
    go_wp2
    go_ret
    exact ⟨g, cap, rfl, HO, HB.out, hgl⟩
def wNx (W : Nat) : Nat → Value
  | 0 => .func (.func 53) #[.pointer (some ⟨W, 0, none⟩)] #[]
  | 1 => .func (.func 84) #[.pointer (some ⟨W, 0, none⟩)] #[]
  | 2 => .func (.func 99) #[.pointer (some ⟨W, 0, none⟩)] #[]
  | 3 => .func (.func 109) #[.pointer (some ⟨W, 0, none⟩)] #[]
  | 4 => .func (.func 112) #[.pointer (some ⟨W, 0, none⟩)] #[]
  | 5 => .func (.func 115) #[.pointer (some ⟨W, 0, none⟩)] #[]
  | 6 => .func (.func 119) #[.pointer (some ⟨W, 0, none⟩)] #[]
  | _ => .nilFunc
structure WrAt (w : World) (W g dc : Nat) (p : Plc) (s : Wr) : Prop where
  blk : w.heap[W]? = some (.cells #[.int .i64 p.src, .int .i64 p.rd, .int .i64 p.words, .int .i64 p.period, .slice (some ⟨g, 0, none⟩) s.data.length dc, .int .u32 s.pair, .int .u32 s.index, .int .i64 (s.i : Int), .bool s.marked, wNx W s.pc] 117 (0, 0))
  row : ∀ j (h : j < s.data.length), w.cell? ⟨g, j, none⟩ = some (.int .u32 s.data[j])
  lt : g < w.heap.size
theorem WrAt.but {w w' : World} {W g dc : Nat} {p : Plc} {s : Wr} {S : List Nat} (h : WrAt w W g dc p s) (hb : ButS S w w') (h1 : W ∉ S) (h2 : g ∉ S) : WrAt w' W g dc p s :=
  ⟨hb.blk h.blk h1, fun j hj => (hb.cell h.lt h2).trans (h.row j hj), Nat.lt_of_lt_of_le h.lt hb.size⟩
theorem MemAt.but {w w' : World} {B D : Nat} {ws : List Int} {S : List Nat} (h : MemAt w B D ws) (hb : ButS S w w') (h1 : B ∉ S) (h2 : D ∉ S) : MemAt w' B D ws :=
  ⟨hb.blk h.head h1, hb.blk h.words h2, h.len⟩
end
section
open Go.RowKit
set_option linter.unusedSimpArgs false
set_option linter.unusedVariables false
open Go.Shelf
attribute [local go_sem] Oper.semAt_some
theorem below_grownO {w0 w w1 : World} {ob : Option Nat} (h : Below w0.heap.size w0 w) (hg : w.grownBy w1 ob) (hs : ∀ q, ob = some q → w0.heap.size ≤ q) : Below w0.heap.size w0 w1 :=
  ⟨hg.os.trans h.os, hg.tape.trans h.tape, hg.output.trans h.output, Nat.le_trans h.size hg.size, fun k hk => (hg.block k (Nat.lt_of_lt_of_le hk h.size) fun he => by have := hs k he.symm; omega).trans (h.block k hk)⟩
theorem wp_rangeS {P : Program} {α : Type} {g : Operand} {ps : Array Tmp} {assign body : Code} {Q : Exit → Act → World → Prop} {a : Act} {w : World} {gf : Nat} {lb : Array Value}
    (hg : a.eval g = .func (.func gf) #[] lb) (eg : ∀ args w, (callFunc gf args).run P w = .ok (.enter gf args) w)
    {encs : α → Array Value} {Kp : World → World → Prop} {S Sp : List α → Prop} {N : Nat} (hseq : SeqStopsK Fence.wide 2 P gf lb encs Kp S Sp N w)
    (hKt : ∀ {A B C : World}, Kp A B → Kp B C → Kp A C) (hKb : ∀ (W : World) (l : Nat) (o o' : Obj), w.heap.size ≤ l → W.heap[l]? = some o → o.isCells = false → o.isWalk = false → Kp W (W.putObj l o')) (hps : ∀ x, (encs x).size = ps.size)
    (I : List α → World → Prop) (Ix : Code → List α → World → Prop) (hI : OwnFrom w.heap.size I) (hIx : ∀ c, OwnFrom w.heap.size (Ix c)) (h0 : I [] w) (Ax : α → Act → World → Prop) (hAx : ∀ x a', OwnFrom w.heap.size (fun (_ : Unit) W => Ax x a' W))
    (hassign : ∀ (l : Nat) (pre : List α) (x : α) (W : World) (K : Act → World → Prop), I pre W → (∀ a' W', KeepsFrom w.heap.size W W' → Kp W W' → I pre W' → Ax x a' W' → K a' W') →
      assign.wpIn (Fence.wide.inRound l) 1 P (Exit.then K (fun _ _ _ => False)) { tmps := (ps.zip (encs x)).foldl (fun t (p, v) => t.setIfInBounds p v) a.tmps, defers := [] } W)
    (hbody : ∀ (l : Nat) (pre : List α) (x : α) (a' : Act) (W : World), I pre W → Ax x a' W → pre.length < N → body.wpIn (Fence.wide.inRound l) 1 P (ownPostG w.heap.size Kp I Ix (pre ++ [x]) W) a' W)
    (hdone : ∀ (D : Nat) (xs : List α) (W : World), w.heap.size ≤ D → S xs → I xs W → W.heap[D]? = some (.deferred (some [])) → Q .normal { a with defers := { target := .collected D, args := #[] } :: a.defers } W)
    (hstop : ∀ (D : Nat) (c : Code) (pre : List α) (W : World), w.heap.size ≤ D → Sp pre → Ix c pre W → W.heap[D]? = some (.deferred (some [])) → c.wp P Q { a with defers := { target := .collected D, args := #[] } :: a.defers } W) :
    (Code.rangeFunc g ps assign body).wp P Q a w :=
  (wpIn_wide (n := 3)).1 (wpIn_rangeFunc_ownH rfl (by omega) hg trivial eg hseq (fun h k => hKt h k) hKb (Below.refl _ _) hps I Ix hI hIx h0 Ax hAx hassign (fun l pre x a' W _ _ hi ha hl => hbody l pre x a' W hi ha hl) hdone fun D c pre W h1 h2 h3 h4 => wpIn_wide.2 (hstop D c pre W h1 h2 h3 h4))
def StepBoxes (w : World) (nb : Nat) (ps : List (Nat × Nat)) (xs : List (Int × Int)) : Prop := ∀ (i : Nat) (p : Nat × Nat) (x : Int × Int), ps[i]? = some p → xs[i]? = some x → nb ≤ p.1 ∧ nb ≤ p.2 ∧ w.heap[p.1]? = some (.cells #[.int .i64 x.1] 3 (0, 0)) ∧ w.heap[p.2]? = some (.cells #[.int .u32 x.2] 41 (0, 0))
theorem StepBoxes.map {w w' : World} {nb : Nat} {ps : List (Nat × Nat)} {xs : List (Int × Int)} (h : StepBoxes w nb ps xs) (hm : ∀ (b : Nat) (c : Array Value) (t : TypeId) (f : Nat × Nat), nb ≤ b → (t = 3 ∨ t = 41) → w.heap[b]? = some (.cells c t f) → w'.heap[b]? = some (.cells c t f)) : StepBoxes w' nb ps xs := fun i p x hp hx =>
  have h1 := h i p x hp hx
  ⟨h1.1, h1.2.1, hm _ _ _ _ h1.1 (.inl rfl) h1.2.2.1, hm _ _ _ _ h1.2.1 (.inr rfl) h1.2.2.2⟩
theorem StepBoxes.snoc {w : World} {nb : Nat} {ps : List (Nat × Nat)} {xs : List (Int × Int)} (h : StepBoxes w nb ps xs) (hl : ps.length = xs.length) (a b : Nat) (y : Int × Int) (ha : nb ≤ a) (hb : nb ≤ b) (h1 : w.heap[a]? = some (.cells #[.int .i64 y.1] 3 (0, 0))) (h2 : w.heap[b]? = some (.cells #[.int .u32 y.2] 41 (0, 0))) : StepBoxes w nb (ps ++ [(a, b)]) (xs ++ [y]) := fun i p x hp hx => by
  by_cases hi : i < ps.length
  · rw [List.getElem?_append_left hi] at hp
    rw [List.getElem?_append_left (by omega)] at hx
    exact h i p x hp hx
  · rw [List.getElem?_append_right (by omega)] at hp
    rw [List.getElem?_append_right (by omega)] at hx
    have h0 := (List.getElem?_eq_some_iff.1 hp).1
    have e0 : i - ps.length = 0 := by simp at h0; omega
    have e1 : i - xs.length = 0 := by omega
    rw [e0] at hp
    rw [e1] at hx
    cases hp
    cases hx
    exact ⟨ha, hb, h1, h2⟩
def SendI (nb O QB OBB bs : Nat) (own : Int) (q : Qu) (W0 : World) (pre : List (Int × Int)) (W : World) : Prop :=
  ∃ (g cap : Nat) (ps : List (Nat × Nat)), ps.length = pre.length ∧ W.heap[O]? = some (.cells #[.int .u32 own, .slice (some ⟨g, 0, none⟩) (pre.length + 1) cap] 132 (0, 0)) ∧
    W.ownsRow bs 133 1 (.slice (some ⟨g, 0, none⟩) (pre.length + 1) cap) (pre.length + 1) (FV 62 #[.pointer (some ⟨OBB, 0, none⟩), .pointer (some ⟨QB, 0, none⟩)] :: ps.map fun p => FV 65 #[.pointer (some ⟨p.1, 0, none⟩), .pointer (some ⟨p.2, 0, none⟩)]) ∧
    StepBoxes W nb ps pre ∧ W.heap[OBB]? = some (.cells #[.pointer (some ⟨O, 0, none⟩)] 75 (0, 0)) ∧ W.heap[QB]? = some (.cells q.cells 124 (0, 0)) ∧ Below nb W0 W
theorem kf_al2 (B : Nat) (W : World) (o o' : Obj) : KeepsFrom B W ((W.alloc o).alloc o') := ⟨by simp; omega, fun j x _ hj _ => blk_al (blk_al hj _) _⟩
theorem SendI_calm {nb O QB OBB bs : Nat} {own : Int} {q : Qu} {W0 W W' : World} {pre : List (Int × Int)} {B : Nat} {row : Option Nat} (h : SendI nb O QB OBB bs own q W0 pre W) (hB : nb ≤ B) (h0 : nb ≤ W0.heap.size) (hg : W.grownBy W' row) (hr : ∀ r, row = some r → B ≤ r ∧ ∃ o : Obj, W.heap[r]? = some o ∧ o.isCells = false) : SendI nb O QB OBB bs own q W0 pre W' := by
  obtain ⟨g, cap, ps, h1, h2, h3, h4, h5, h6, h7⟩ := h
  exact ⟨g, cap, ps, h1, blk_calm h2 hg hr, own_calm h3 hg hr, h4.map fun b c t f _ _ h => blk_calm h hg hr, blk_calm h5 hg hr, blk_calm h6 hg hr, h7.grown hg (Nat.le_trans h0 h7.size) fun k e => Nat.le_trans hB (hr k e).1⟩
structure SendNew (w : World) (nb O QB OBB bs g cap : Nat) (ps : List (Nat × Nat)) (own : Int) (q : Qu) (l : List Int) : Prop where
  ln : ps.length = l.length + 1
  op : w.heap[O]? = some (.cells #[.int .u32 own, .slice (some ⟨g, 0, none⟩) (l.length + 4) cap] 132 (0, 0))
  row : w.ownsRow bs 133 1 (.slice (some ⟨g, 0, none⟩) (l.length + 4) cap) (l.length + 4) ((FV 62 #[.pointer (some ⟨OBB, 0, none⟩), .pointer (some ⟨QB, 0, none⟩)] :: ps.map fun p => FV 65 #[.pointer (some ⟨p.1, 0, none⟩), .pointer (some ⟨p.2, 0, none⟩)]) ++ [FV 67 #[.pointer (some ⟨OBB, 0, none⟩), .pointer (some ⟨QB, 0, none⟩)], FV 68 #[.pointer (some ⟨QB, 0, none⟩)]])
  bx : StepBoxes w nb ps (uptoS q.cell l l.length)
  ob : w.heap[OBB]? = some (.cells #[.pointer (some ⟨O, 0, none⟩)] 75 (0, 0))
  qb : w.heap[QB]? = some (.cells q.cells 124 (0, 0))
  ge : nb ≤ O ∧ nb ≤ QB ∧ nb ≤ OBB ∧ nb ≤ bs
end
end Go.Proofs.YtmidcnfmphlneaaGreat

/- Contracts of package four: the writer's steps. -/
import Derived.Test.YtmidcnfmphlneaaGreatQ11
import Derived.Laws.ResultCell
import Derived.Laws.BitsAllLaws
namespace Go.Proofs.YtmidcnfmphlneaaGreat
open Go.RowKit
set_option linter.unusedSimpArgs false
set_option linter.unusedVariables false
theorem results_row_tmp {P : Program} {fn : Func} {p u : Tmp} {ty : TypeId} (h : fn.results = #[.cell p ty, .tmp u]) (tmps : Array Value) (w : World) (g : Nat) (t : TypeId) (cs : Array Value) (fr : Nat × Nat) (d : TypeDesc)
    (hp : tmps.getD p undef = .pointer (some ⟨g, 0, none⟩)) (hg : w.heap[g]? = some (.cells cs t fr)) (hu : P.underlying ty = some d) (hd : (match d with | .struct _ | .array _ _ => true | _ => false) = true) (hi : (P.info? ty).map (·.size) = some cs.size) :
    (results fn tmps).run P w = .ok (.tuple #[.agg cs, tmps.getD u undef]) w := by
  rw [results_cell_tmp h, hp]
  simp [asAddr, run_loadVar_row w g t ty cs fr d hg hu hd hi, Result.andThen]
theorem and_one_u32 (E : Int) (h0 : 0 ≤ E) (h1 : E < 4294967296) : bits .and .u32 E 1 = E % 2 := by
  rw [u32_and E 1 h0 h1 (by omega) (by omega)]
  show ((E.toNat &&& 1 : Nat) : Int) = _
  rw [Nat.and_one_is_mod]
  omega
def Words (ws : List Int) : Prop := ∀ x ∈ ws, 0 ≤ x ∧ x < 4294967296
theorem ldW_word {ws : List Int} (h : Words ws) (a : Int) : 0 ≤ ldW ws a ∧ ldW ws a < 4294967296 := by
  rw [ldW, List.getD_eq_getElem?_getD]
  cases e : ws[a.toNat]? with
  | none => simp
  | some x => exact h x (List.mem_of_getElem? e)
theorem Words.st {ws : List Int} (h : Words ws) (a v : Int) (h0 : 0 ≤ v) (h1 : v < 4294967296) : Words (stW ws a v) := fun x hx => by
  rcases List.mem_or_eq_of_mem_set hx with hx | rfl
  · exact h x hx
  · exact ⟨h0, h1⟩
theorem MemAt.setne {w : World} {B D : Nat} {ws : List Int} (h : MemAt w B D ws) {p : Addr} (h1 : B ≠ p.block) (h2 : D ≠ p.block) (v : Value) : MemAt (w.setCell p v) B D ws := ⟨blk_set_ne h.head h1 v, blk_set_ne h.words h2 v, h.len⟩
theorem MemAt.drN {w : World} {B D n : Nat} {ws : List Int} (h : MemAt w B D ws) : MemAt (w.drewN n) B D ws := ⟨h.head, h.words, h.len⟩
theorem MemAt.st {w : World} {B D : Nat} {ws : List Int} (h : MemAt w B D ws) (a v : Int) : MemAt (w.setCell ⟨D, a.toNat, none⟩ (.int .u32 v)) B D (stW ws a v) := h.set a.toNat v
theorem MemAt.grown {w w1 : World} {B D : Nat} {ws : List Int} {base : Nat} {e : TypeId} {k : Nat} {v : Value} {n : Nat} {cs : List Value} (h : MemAt w B D ws) (hown : w.ownsRow base e k v n cs) (hg : w.grownBy w1 v.ownBlock) (hB : B < base) (hD : D < base) : MemAt w1 B D ws :=
  ⟨blk_grown h.head hB hown hg, blk_grown h.words hD hown hg, h.len⟩
theorem ButS.grownV {S : List Nat} {W0 W W1 : World} {v : Value} (h : ButS S W0 W) (hg : W.grownBy W1 v.ownBlock) (hs : ∀ k, v.ownBlock = some k → k ∈ S) : ButS S W0 W1 :=
  ⟨hg.os.trans h.os, hg.tape.trans h.tape, hg.output.trans h.output, Nat.le_trans h.size hg.size, fun b hb0 hn => (hg.block b (Nat.lt_of_lt_of_le hb0 h.size) fun he => hn (hs b he.symm)).trans (h.block b hb0 hn)⟩
structure Plc.In (p : Plc) (n : Nat) : Prop where
  rd : p.rd < n
  buf : p.src + 3 + 4 * (2 + p.words) ≤ n
theorem slot_in {p : Plc} {n : Nat} (hp : p.low) (hi : p.In n) (x : Int) (hx : bit x) : 0 ≤ p.slot x ∧ p.slot x < n := by
  have h := slot_at p x hx
  have h1 := hp.src
  have h2 := hi.buf
  have h3 := hp.words
  omega
theorem src_in {p : Plc} {n : Nat} (hp : p.low) (hi : p.In n) : 0 ≤ p.src ∧ p.src < n := by
  have h1 := hp.src
  have h2 := hi.buf
  have h3 := hp.words
  omega
theorem buf_in {p : Plc} {n : Nat} (hp : p.low) (hi : p.In n) (x y : Int) (hx : bit x) (hy : bit y) (k : Int) (h0 : 0 ≤ k) (hk : k < 2 + p.words) : 0 ≤ p.buf x y + k ∧ p.buf x y + k < n ∧ p.buf x y + k ≤ 2100 := by
  have h := buf_at p x y hx hy hp.words.1
  have h1 := hp.src
  have h2 := hi.buf
  have h3 := hp.words
  omega
set_option maxRecDepth 100000 in
set_option maxHeartbeats 4000000 in
theorem choose_any (p : Plc) (hp : p.low) (W B D : Nat) (ws : List Int) (da : Option Addr) (dn dc : Nat) (x y : Int) (i : Nat) (mk : Bool) (nx : Value) (now : Int) (hi : p.In ws.length) (hws : Words ws) (w : World) (hW : w.heap[W]? = some (.cells #[.int .i64 p.src, .int .i64 p.rd, .int .i64 p.words, .int .i64 p.period, .slice da dn dc, .int .u32 x, .int .u32 y, .int .i64 (i : Int), .bool mk, nx] 117 (0, 0))) (h : MemAt w B D ws) : Calls Tryz.prog 53 #[.pointer (some ⟨W, 0, none⟩), .pointer (some ⟨B, 0, none⟩), .int .i64 now] w fun e w' =>
    e = .returned (.tuple #[.agg #[.bool false, .int .i64 0, .slice none 0 0, .bool false, .int .i64 0, .bool false, .bool false, .bool false, .int .i64 0], .func (.func 84) #[.pointer (some ⟨W, 0, none⟩)] #[]]) ∧ w'.heap[W]? = some (.cells #[.int .i64 p.src, .int .i64 p.rd, .int .i64 p.words, .int .i64 p.period, .slice da dn dc, .int .u32 (1 - ldW ws p.rd % 2), .int .u32 y, .int .i64 (i : Int), .bool mk, nx] 117 (0, 0)) ∧ MemAt w' B D (ws) ∧ ButS [W, D] w w' := by
  have HM := Kp.mk h
  have HW := Kp.mk hW
  have lW := blk_lt hW
  have lD := blk_lt h.words
  have lB := blk_lt h.head
  have hWD : W ≠ D := by
    rintro rfl
    rw [h.words] at hW
    simp at hW
  have hWB : W ≠ B := by
    rintro rfl
    rw [h.head] at hW
    simp at hW
  have hBD := h.ne
  have hWr : W ≠ w.heap.size := by omega
  have hDr : D ≠ w.heap.size := by omega
  have hBr : B ≠ w.heap.size := by omega
  clear h hW
  obtain ⟨v, hv⟩ : ∃ v, ldW ws (p.rd) = v := ⟨_, rfl⟩
  have hvw := ldW_word hws (p.rd)
  rw [hv] at hvw ⊢
  have HV := Kp.mk hv
  have hb1 := and_one_u32 v hvw.1 hvw.2
  have hb2 : (1 - v % 2) % 4294967296 = 1 - v % 2 := by omega
  have hb3 : IntKind.u32.wrap (1 - v % 2) = 1 - v % 2 := IntWalk.u32_in _ (by omega)
  clear hv hvw
  have hr0 := hp.rd.1
  have h1 := hi.rd
  have c0 := cbk HW.out 0 (.int .i64 p.src) rfl
  have c1 := cbk HW.out 1 (.int .i64 p.rd) rfl
  have c2 := cbk HW.out 2 (.int .i64 p.words) rfl
  have c3 := cbk HW.out 3 (.int .i64 p.period) rfl
  have c4 := cbk HW.out 4 (.slice da dn dc) rfl
  have c5 := cbk HW.out 5 (.int .u32 x) rfl
  have c6 := cbk HW.out 6 (.int .u32 y) rfl
  have c7 := cbk HW.out 7 (.int .i64 (i : Int)) rfl
  have c8 := cbk HW.out 8 (.bool mk) rfl
  have c9 := cbk HW.out 9 (nx) rfl
  have cf5 := frozen_blk HW.out 5
  have cl := blk_lt HW.out
  clear hws
  go_enter Tryz.func53, Tryz.ntmps53
  go_wp2_with fail
  refine (fload_any B D ws (p.rd) hr0 h1 _ (HM.out.al _)).mono ?_
  rw [HV.out]
  rintro e w9 ⟨rfl, rfl⟩
  go_wp2
  (try simp only [Exit.inBlock, Exit.then])
  refine bodyPost_ret (v := .tuple #[.agg #[.bool false, .int .i64 0, .slice none 0 0, .bool false, .int .i64 0, .bool false, .bool false, .bool false, .int .i64 0], .func (.func 84) #[.pointer (some ⟨W, 0, none⟩)] #[]]) ?_ rfl ?_
  · refine (results_row_tmp (fn := Tryz.f53) (p := 6) (u := 7) (ty := 64) rfl _ _ w.heap.size 64 #[.bool false, .int .i64 0, .slice none 0 0, .bool false, .int .i64 0, .bool false, .bool false, .bool false, .int .i64 0] (0, 0) _ (by go_simp) (blk_at (w := w.setCell ⟨W, 5, none⟩ _) (by simp [World.setCell]) _) Tryz.underlying64 rfl (by kernel_rfl)).trans ?_
    rfl
  · exact ⟨rfl, blk_al ((blk_set HW.out 5 _).trans rfl) _, (HM.out.setne (p := ⟨W, 5, none⟩) (by show B ≠ W; omega) (by show D ≠ W; omega) _).al _, (ButS.set (ButS.refl [W, D] w) (p := ⟨W, 5, none⟩) (by simp) _).trans (ButS.of_below (below_al (Below.refl _ _) _))⟩
set_option maxRecDepth 100000 in
set_option maxHeartbeats 4000000 in
theorem other_any (p : Plc) (hp : p.low) (W B D : Nat) (ws : List Int) (da : Option Addr) (dn dc : Nat) (x y : Int) (i : Nat) (mk : Bool) (nx : Value) (now : Int) (hi : p.In ws.length) (hws : Words ws) (hx : bit x) (w : World) (hW : w.heap[W]? = some (.cells #[.int .i64 p.src, .int .i64 p.rd, .int .i64 p.words, .int .i64 p.period, .slice da dn dc, .int .u32 x, .int .u32 y, .int .i64 (i : Int), .bool mk, nx] 117 (0, 0))) (h : MemAt w B D ws) : Calls Tryz.prog 84 #[.pointer (some ⟨W, 0, none⟩), .pointer (some ⟨B, 0, none⟩), .int .i64 now] w fun e w' =>
    e = .returned (.tuple #[.agg #[.bool false, .int .i64 0, .slice none 0 0, .bool false, .int .i64 0, .bool false, .bool false, .bool false, .int .i64 0], .func (.func 99) #[.pointer (some ⟨W, 0, none⟩)] #[]]) ∧ w'.heap[W]? = some (.cells #[.int .i64 p.src, .int .i64 p.rd, .int .i64 p.words, .int .i64 p.period, .slice da dn dc, .int .u32 x, .int .u32 (1 - ldW ws (p.slot x) % 2), .int .i64 (i : Int), .bool mk, nx] 117 (0, 0)) ∧ MemAt w' B D (ws) ∧ ButS [W, D] w w' := by
  have HM := Kp.mk h
  have HW := Kp.mk hW
  have lW := blk_lt hW
  have lD := blk_lt h.words
  have lB := blk_lt h.head
  have hWD : W ≠ D := by
    rintro rfl
    rw [h.words] at hW
    simp at hW
  have hWB : W ≠ B := by
    rintro rfl
    rw [h.head] at hW
    simp at hW
  have hBD := h.ne
  have hWr : W ≠ w.heap.size := by omega
  have hDr : D ≠ w.heap.size := by omega
  have hBr : B ≠ w.heap.size := by omega
  clear h hW
  obtain ⟨v, hv⟩ : ∃ v, ldW ws (p.slot x) = v := ⟨_, rfl⟩
  have hvw := ldW_word hws (p.slot x)
  rw [hv] at hvw ⊢
  have HV := Kp.mk hv
  have hb1 := and_one_u32 v hvw.1 hvw.2
  have hb2 : (1 - v % 2) % 4294967296 = 1 - v % 2 := by omega
  have hb3 : IntKind.u32.wrap (1 - v % 2) = 1 - v % 2 := IntWalk.u32_in _ (by omega)
  clear hv hvw
  have h1 := slot_in hp hi x hx
  clear hws
  go_enter Tryz.func84, Tryz.ntmps84
  have HB0 : Kp (Below w.heap.size w w) := ⟨Below.refl _ _⟩
  go_wp2_with fail
  have r1 : Kp ((w.alloc (.cells #[.bool false, .int .i64 0, .slice none 0 0, .bool false, .int .i64 0, .bool false, .bool false, .bool false, .int .i64 0] 64)).heap[w.heap.size]? = some (.cells #[.bool false, .int .i64 0, .slice none 0 0, .bool false, .int .i64 0, .bool false, .bool false, .bool false, .int .i64 0] 64 (0, 0))) := ⟨(blk_new _ _)⟩
  have HB1 : Kp (Below w.heap.size w (w.alloc (.cells #[.bool false, .int .i64 0, .slice none 0 0, .bool false, .int .i64 0, .bool false, .bool false, .bool false, .int .i64 0] 64))) := ⟨(below_al HB0.out _)⟩
  have W1 : Kp ((w.alloc (.cells #[.bool false, .int .i64 0, .slice none 0 0, .bool false, .int .i64 0, .bool false, .bool false, .bool false, .int .i64 0] 64)).heap[W]? = some (.cells #[.int .i64 p.src, .int .i64 p.rd, .int .i64 p.words, .int .i64 p.period, .slice da dn dc, .int .u32 x, .int .u32 y, .int .i64 (i : Int), .bool mk, nx] 117 (0, 0))) := ⟨(blk_al HW.out _)⟩
  have M1 : Kp (MemAt (w.alloc (.cells #[.bool false, .int .i64 0, .slice none 0 0, .bool false, .int .i64 0, .bool false, .bool false, .bool false, .int .i64 0] 64)) B D (ws)) := ⟨(HM.out.below (below_al (Below.refl _ _) _))⟩
  clear HB0 HW HM
  generalize (w.alloc (.cells #[.bool false, .int .i64 0, .slice none 0 0, .bool false, .int .i64 0, .bool false, .bool false, .bool false, .int .i64 0] 64)) = w1 at r1 HB1 W1 M1 ⊢
  have HS1 : Kp (ButS [W, D] w w1) := ⟨ButS.of_below HB1.out⟩
  have hsz0 : w.heap.size < w1.heap.size := blk_lt r1.out
  have c0 := cbk W1.out 0 (.int .i64 p.src) rfl
  have c1 := cbk W1.out 1 (.int .i64 p.rd) rfl
  have c2 := cbk W1.out 2 (.int .i64 p.words) rfl
  have c3 := cbk W1.out 3 (.int .i64 p.period) rfl
  have c4 := cbk W1.out 4 (.slice da dn dc) rfl
  have c5 := cbk W1.out 5 (.int .u32 x) rfl
  have c6 := cbk W1.out 6 (.int .u32 y) rfl
  have c7 := cbk W1.out 7 (.int .i64 (i : Int)) rfl
  have c8 := cbk W1.out 8 (.bool mk) rfl
  have c9 := cbk W1.out 9 (nx) rfl
  have cl := blk_lt W1.out
  have HX0 : Kp (w1.heap[W]? = some (.cells #[.int .i64 p.src, .int .i64 p.rd, .int .i64 p.words, .int .i64 p.period, .slice da dn dc, .int .u32 x, .int .u32 y, .int .i64 (i : Int), .bool mk, nx] 117 (0, 0))) := ⟨W1.out⟩
  refine held_start_gen (S := (fun w' : World => ButB (w1.heap.size) [W] w1 w' ∧ (∀ bb o, bb < w1.heap.size → bb ≠ W → w'.cell? ⟨bb, o, none⟩ = w1.cell? ⟨bb, o, none⟩) ∧ ∀ o, o ≠ 6 → w'.cell? ⟨W, o, none⟩ = w1.cell? ⟨W, o, none⟩)) (by kernel_rfl) (fun wz : World => Kp (ButS [W, D] w wz) ∧ Kp (wz.heap[W]? = some (.cells #[.int .i64 p.src, .int .i64 p.rd, .int .i64 p.words, .int .i64 p.period, .slice da dn dc, .int .u32 x, .int .u32 y, .int .i64 (i : Int), .bool mk, nx] 117 (0, 0))) ∧ Kp (MemAt wz B D (ws)) ∧ Kp (wz.heap[w.heap.size]? = some (.cells #[.bool false, .int .i64 0, .slice none 0 0, .bool false, .int .i64 0, .bool false, .bool false, .bool false, .int .i64 0] 64 (0, 0))) ∧ w1.heap.size ≤ wz.heap.size) ⟨⟨ButS.dr HS1.out⟩, ⟨blk_dr W1.out⟩, ⟨(M1.out.below (below_dr (Below.refl _ _)))⟩, ⟨blk_dr r1.out⟩, Nat.le_refl _⟩ (sx3 (sx_of1 (ButB.dr (ButB.refl _ (by omega)))) (xc_of HX0.out (blk_dr W1.out) 6 (fun _ _ => rfl))) (fun wd0 hRn hHeld => ?_)
  clear HS1 W1 M1 r1
  obtain ⟨HS1, W1, M1, r1, hsz⟩ := hRn
  refine wtk 0 ?_ rfl (.inl ⟨by rfl, ?_⟩) ?_
  rotate_left 1
  · (intro w hSw; go_simp; try with_reducible rfl)
  try simp only [Act.put, ls0, ls1, ls2]
  refine wtk 1 ?_ rfl (.inl ⟨by rfl, ?_⟩) ?_
  rotate_left 1
  · (intro w hSw; go_simp; try with_reducible rfl)
  try simp only [Act.put, ls0, ls1, ls2]
  refine wtk 2 ?_ rfl (.inl ⟨by rfl, ?_⟩) ?_
  rotate_left 1
  · (intro w hSw; go_simp; try with_reducible rfl)
  try simp only [Act.put, ls0, ls1, ls2]
  refine wtk 3 ?_ rfl (.inl ⟨by rfl, ?_⟩) ?_
  rotate_left 1
  · (intro w hSw; go_simp; try with_reducible rfl)
  try simp only [Act.put, ls0, ls1, ls2]
  refine wtk 4 ?_ rfl (.inl ⟨by rfl, ?_⟩) ?_
  rotate_left 1
  · (intro w hSw; go_simp; try with_reducible rfl)
  try simp only [Act.put, ls0, ls1, ls2]
  refine wtk 5 ?_ rfl (.inl ⟨by rfl, ?_⟩) ?_
  rotate_left 1
  · (intro w hSw; go_simp; try with_reducible rfl)
  try simp only [Act.put, ls0, ls1, ls2]
  refine wtk 6 ?_ rfl (.inl ⟨by rfl, ?_⟩) ?_
  rotate_left 1
  · (intro w hSw; go_simp; try with_reducible rfl)
  try simp only [Act.put, ls0, ls1, ls2]
  refine wtk 7 ?_ rfl (.inl ⟨by rfl, ?_⟩) ?_
  rotate_left 1
  · (intro w hSw; go_simp; try with_reducible rfl)
  try simp only [Act.put, ls0, ls1, ls2]
  refine wtk 8 ?_ rfl (.inl ⟨by rfl, ?_⟩) ?_
  rotate_left 1
  · (intro w hSw; go_simp; try with_reducible rfl)
  try simp only [Act.put, ls0, ls1, ls2]
  refine wtk 9 ?_ rfl (.inl ⟨by rfl, ?_⟩) ?_
  rotate_left 1
  · (intro w hSw; go_simp; try with_reducible rfl)
  try simp only [Act.put, ls0, ls1, ls2]
  refine wrd [10] ?_
  refine (arc rfl (fun K hK => ?_) arn)
  go_simp
  go_at_call 98
  refine (slot_any p hp x hx _).mono ?_
  rintro e w9 ⟨rfl, hb⟩
  try go_wp2_with fail
  refine out_gen hK _ _ (fun wz : World => Kp (ButS [W, D] w wz) ∧ Kp (wz.heap[W]? = some (.cells #[.int .i64 p.src, .int .i64 p.rd, .int .i64 p.words, .int .i64 p.period, .slice da dn dc, .int .u32 x, .int .u32 y, .int .i64 (i : Int), .bool mk, nx] 117 (0, 0))) ∧ Kp (MemAt wz B D (ws)) ∧ Kp (wz.heap[w.heap.size]? = some (.cells #[.bool false, .int .i64 0, .slice none 0 0, .bool false, .int .i64 0, .bool false, .bool false, .bool false, .int .i64 0] 64 (0, 0))) ∧ wd0.heap.size ≤ wz.heap.size) ⟨⟨ButS.trans HS1.out (ButS.of_below hb)⟩, ⟨blk_below W1.out hb⟩, ⟨(M1.out.below hb)⟩, ⟨blk_below r1.out hb⟩, hb.size⟩ (sx3 (sx_of1 (ButB.call (And.left hHeld) hb)) (xc_of HX0.out (blk_below W1.out hb) 6 (fun _ _ => rfl))) (fun wd1 hRn hHn => ?_)
  clear hK K hHeld HS1 W1 M1 r1 hb
  obtain ⟨HS1, W1, M1, r1, hsz1⟩ := hRn
  have hHeld := hHn
  clear hHn
  try simp only [Act.put, ls0, ls1, ls2]
  refine wrd [11] ?_
  refine (arc rfl (fun K hK => ?_) arn)
  go_simp
  go_at_call 83
  refine (fload_any B D ws (p.slot x) h1.1 h1.2 _ M1.out).mono ?_
  rw [HV.out]
  rintro e w9 ⟨rfl, hw9⟩
  have hw8 := hw9.symm
  clear hw9
  subst hw8
  have hb : Below wd1.heap.size wd1 wd1 := Below.refl _ _
  try go_wp2_with fail
  refine out_gen hK _ _ (fun wz : World => Kp (ButS [W, D] w wz) ∧ Kp (wz.heap[W]? = some (.cells #[.int .i64 p.src, .int .i64 p.rd, .int .i64 p.words, .int .i64 p.period, .slice da dn dc, .int .u32 x, .int .u32 y, .int .i64 (i : Int), .bool mk, nx] 117 (0, 0))) ∧ Kp (MemAt wz B D (ws)) ∧ Kp (wz.heap[w.heap.size]? = some (.cells #[.bool false, .int .i64 0, .slice none 0 0, .bool false, .int .i64 0, .bool false, .bool false, .bool false, .int .i64 0] 64 (0, 0))) ∧ wd1.heap.size ≤ wz.heap.size) ⟨⟨ButS.trans HS1.out (ButS.of_below hb)⟩, ⟨blk_below W1.out hb⟩, ⟨(M1.out.below hb)⟩, ⟨blk_below r1.out hb⟩, hb.size⟩ (sx3 (sx_of1 (ButB.call (And.left hHeld) hb)) (xc_of HX0.out (blk_below W1.out hb) 6 (fun _ _ => rfl))) (fun wd2 hRn hHn => ?_)
  clear hK K hHeld HS1 W1 M1 r1 hb
  obtain ⟨HS1, W1, M1, r1, hsz2⟩ := hRn
  have hHeld := hHn
  clear hHn
  try simp only [Act.put, ls0, ls1, ls2]
  refine wtk 12 ?_ rfl (.inl ⟨by rfl, ?_⟩) ?_
  rotate_left 1
  · (intro w hSw; go_simp; try with_reducible rfl)
  try simp only [Act.put, ls0, ls1, ls2]
  refine wtk 13 ?_ rfl (.inl ⟨by rfl, ?_⟩) ?_
  rotate_left 1
  · (intro w hSw; go_simp; try with_reducible rfl)
  try simp only [Act.put, ls0, ls1, ls2]
  refine wtk 14 ?_ rfl (.inl ⟨by rfl, ?_⟩) ?_
  rotate_left 1
  · (intro w hSw; go_simp; try with_reducible rfl)
  try simp only [Act.put, ls0, ls1, ls2]
  refine wtk 15 ?_ rfl (.inl ⟨by rfl, ?_⟩) ?_
  rotate_left 1
  · (intro w hSw; go_simp; try with_reducible rfl)
  try simp only [Act.put, ls0, ls1, ls2]
  refine wrd [16] ?_
  refine (arc rfl (fun K hK => ?_) arn)
  have sd := cbk W1.out 6 (.int .u32 y) rfl
  have sf := frozen_blk W1.out 6
  have sl := blk_lt W1.out
  go_simp
  try go_wp2_with fail
  refine out_gen hK _ _ (fun wz : World => Kp (ButS [W, D] w wz) ∧ Kp (wz.heap[W]? = some (.cells #[.int .i64 p.src, .int .i64 p.rd, .int .i64 p.words, .int .i64 p.period, .slice da dn dc, .int .u32 x, .int .u32 (1 - v % 2), .int .i64 (i : Int), .bool mk, nx] 117 (0, 0))) ∧ Kp (MemAt wz B D (ws)) ∧ Kp (wz.heap[w.heap.size]? = some (.cells #[.bool false, .int .i64 0, .slice none 0 0, .bool false, .int .i64 0, .bool false, .bool false, .bool false, .int .i64 0] 64 (0, 0))) ∧ wd2.heap.size ≤ wz.heap.size) ⟨⟨ButS.set' HS1.out (p := ⟨W, 6, none⟩) (by first | (left; simp; done) | (right; show _ ≤ W; omega)) _⟩, ⟨(blk_set W1.out 6 _).trans rfl⟩, ⟨MemAt.setne M1.out (p := ⟨W, 6, none⟩) (by show B ≠ W; omega) (by show D ≠ W; omega) _⟩, ⟨blk_set_ne (p := ⟨W, 6, none⟩) r1.out (by show w.heap.size ≠ W; omega) _⟩, (by simp [World.setCell])⟩ (sx3 (sx_of1 (ButB.set (And.left hHeld) (p := ⟨W, 6, none⟩) (by first | (left; simp; done) | (right; show _ ≤ W; omega)) _)) (xc_of HX0.out ((blk_set W1.out 6 _).trans rfl) 6 (xc_ne (cs := #[.int .i64 p.src, .int .i64 p.rd, .int .i64 p.words, .int .i64 p.period, .slice da dn dc, .int .u32 x, .int .u32 y, .int .i64 (i : Int), .bool mk, nx]) 6 (.int .u32 (1 - v % 2))))) (fun wd3 hRn hHn => ?_)
  clear hK K hHeld HS1 W1 M1 r1 sd sf sl
  obtain ⟨HS1, W1, M1, r1, hsz3⟩ := hRn
  have hHeld := hHn
  clear hHn
  try simp only [Act.put, ls0, ls1, ls2]
  refine wpAnyH_done (by kernel_rfl) ?_ _
  clear HX0
  clear c0 c1 c2 c3 c4 c5 c6 c7 c8 c9 cl
  have q0 := cbk r1.out 0 (.bool false) rfl
  have q1 := cbk r1.out 1 (.int .i64 0) rfl
  have q2 := cbk r1.out 2 (.slice none 0 0) rfl
  have q3 := cbk r1.out 3 (.bool false) rfl
  have q4 := cbk r1.out 4 (.int .i64 0) rfl
  have q5 := cbk r1.out 5 (.bool false) rfl
  have q6 := cbk r1.out 6 (.bool false) rfl
  have q7 := cbk r1.out 7 (.bool false) rfl
  have q8 := cbk r1.out 8 (.int .i64 0) rfl
  have qf0 := frozen_blk r1.out 0
  have qf1 := frozen_blk r1.out 1
  have qf2 := frozen_blk r1.out 2
  have qf3 := frozen_blk r1.out 3
  have qf4 := frozen_blk r1.out 4
  have qf5 := frozen_blk r1.out 5
  have qf6 := frozen_blk r1.out 6
  have qf7 := frozen_blk r1.out 7
  have qf8 := frozen_blk r1.out 8
  have ql := blk_lt r1.out
  have u0 := cbk W1.out 0 (.int .i64 p.src) rfl
  have u1 := cbk W1.out 1 (.int .i64 p.rd) rfl
  have u2 := cbk W1.out 2 (.int .i64 p.words) rfl
  have u3 := cbk W1.out 3 (.int .i64 p.period) rfl
  have u4 := cbk W1.out 4 (.slice da dn dc) rfl
  have u5 := cbk W1.out 5 (.int .u32 x) rfl
  have u6 := cbk W1.out 6 (.int .u32 (1 - v % 2)) rfl
  have u7 := cbk W1.out 7 (.int .i64 (i : Int)) rfl
  have u8 := cbk W1.out 8 (.bool mk) rfl
  have u9 := cbk W1.out 9 (nx) rfl
  have ul := blk_lt W1.out
  go_wp2
  refine bodyPost_ret (v := .tuple #[.agg #[.bool false, .int .i64 0, .slice none 0 0, .bool false, .int .i64 0, .bool false, .bool false, .bool false, .int .i64 0], .func (.func 99) #[.pointer (some ⟨W, 0, none⟩)] #[]]) ?_ rfl ?_
  · refine (results_row_tmp (fn := Tryz.f84) (p := 6) (u := 7) (ty := 64) rfl _ _ w.heap.size 64 #[.bool false, .int .i64 0, .slice none 0 0, .bool false, .int .i64 0, .bool false, .bool false, .bool false, .int .i64 0] (0, 0) _ (by go_simp) ((blk_set (blk_set (blk_set (blk_set (blk_set (blk_set (blk_set (blk_set (blk_set r1.out 0 _) 1 _) 2 _) 3 _) 4 _) 5 _) 6 _) 7 _) 8 _).trans (by rfl)) Tryz.underlying64 rfl (by kernel_rfl)).trans ?_
    rfl
  · exact ⟨rfl, (blk_set_ne (p := ⟨w.heap.size, 8, none⟩) (blk_set_ne (p := ⟨w.heap.size, 7, none⟩) (blk_set_ne (p := ⟨w.heap.size, 6, none⟩) (blk_set_ne (p := ⟨w.heap.size, 5, none⟩) (blk_set_ne (p := ⟨w.heap.size, 4, none⟩) (blk_set_ne (p := ⟨w.heap.size, 3, none⟩) (blk_set_ne (p := ⟨w.heap.size, 2, none⟩) (blk_set_ne (p := ⟨w.heap.size, 1, none⟩) (blk_set_ne (p := ⟨w.heap.size, 0, none⟩) W1.out (by show W ≠ w.heap.size; omega) _) (by show W ≠ w.heap.size; omega) _) (by show W ≠ w.heap.size; omega) _) (by show W ≠ w.heap.size; omega) _) (by show W ≠ w.heap.size; omega) _) (by show W ≠ w.heap.size; omega) _) (by show W ≠ w.heap.size; omega) _) (by show W ≠ w.heap.size; omega) _) (by show W ≠ w.heap.size; omega) _), (MemAt.setne (MemAt.setne (MemAt.setne (MemAt.setne (MemAt.setne (MemAt.setne (MemAt.setne (MemAt.setne (MemAt.setne M1.out (p := ⟨w.heap.size, 0, none⟩) (by show B ≠ w.heap.size; omega) (by show D ≠ w.heap.size; omega) _) (p := ⟨w.heap.size, 1, none⟩) (by show B ≠ w.heap.size; omega) (by show D ≠ w.heap.size; omega) _) (p := ⟨w.heap.size, 2, none⟩) (by show B ≠ w.heap.size; omega) (by show D ≠ w.heap.size; omega) _) (p := ⟨w.heap.size, 3, none⟩) (by show B ≠ w.heap.size; omega) (by show D ≠ w.heap.size; omega) _) (p := ⟨w.heap.size, 4, none⟩) (by show B ≠ w.heap.size; omega) (by show D ≠ w.heap.size; omega) _) (p := ⟨w.heap.size, 5, none⟩) (by show B ≠ w.heap.size; omega) (by show D ≠ w.heap.size; omega) _) (p := ⟨w.heap.size, 6, none⟩) (by show B ≠ w.heap.size; omega) (by show D ≠ w.heap.size; omega) _) (p := ⟨w.heap.size, 7, none⟩) (by show B ≠ w.heap.size; omega) (by show D ≠ w.heap.size; omega) _) (p := ⟨w.heap.size, 8, none⟩) (by show B ≠ w.heap.size; omega) (by show D ≠ w.heap.size; omega) _), (ButS.set' (ButS.set' (ButS.set' (ButS.set' (ButS.set' (ButS.set' (ButS.set' (ButS.set' (ButS.set' HS1.out (p := ⟨w.heap.size, 0, none⟩) (.inr (Nat.le_refl _)) _) (p := ⟨w.heap.size, 1, none⟩) (.inr (Nat.le_refl _)) _) (p := ⟨w.heap.size, 2, none⟩) (.inr (Nat.le_refl _)) _) (p := ⟨w.heap.size, 3, none⟩) (.inr (Nat.le_refl _)) _) (p := ⟨w.heap.size, 4, none⟩) (.inr (Nat.le_refl _)) _) (p := ⟨w.heap.size, 5, none⟩) (.inr (Nat.le_refl _)) _) (p := ⟨w.heap.size, 6, none⟩) (.inr (Nat.le_refl _)) _) (p := ⟨w.heap.size, 7, none⟩) (.inr (Nat.le_refl _)) _) (p := ⟨w.heap.size, 8, none⟩) (.inr (Nat.le_refl _)) _)⟩
set_option maxRecDepth 100000 in
set_option maxHeartbeats 4000000 in
theorem wlength_any (p : Plc) (hp : p.low) (W B D : Nat) (ws : List Int) (da : Option Addr) (dn dc : Nat) (x y : Int) (i : Nat) (mk : Bool) (nx : Value) (now : Int) (hi : p.In ws.length) (hws : Words ws) (hx : bit x) (hy : bit y) (hdn : dn ≤ 100) (w : World) (hW : w.heap[W]? = some (.cells #[.int .i64 p.src, .int .i64 p.rd, .int .i64 p.words, .int .i64 p.period, .slice da dn dc, .int .u32 x, .int .u32 y, .int .i64 (i : Int), .bool mk, nx] 117 (0, 0))) (h : MemAt w B D ws) : Calls Tryz.prog 99 #[.pointer (some ⟨W, 0, none⟩), .pointer (some ⟨B, 0, none⟩), .int .i64 now] w fun e w' =>
    e = .returned (.tuple #[.agg #[.bool false, .int .i64 0, .slice none 0 0, .bool false, .int .i64 0, .bool false, .bool false, .bool false, .int .i64 (1 + (2 * x + y))], .func (.func 109) #[.pointer (some ⟨W, 0, none⟩)] #[]]) ∧ w'.heap[W]? = some (.cells #[.int .i64 p.src, .int .i64 p.rd, .int .i64 p.words, .int .i64 p.period, .slice da dn dc, .int .u32 x, .int .u32 y, .int .i64 (i : Int), .bool mk, nx] 117 (0, 0)) ∧ MemAt w' B D (stW ws (p.buf x y) dn) ∧ ButS [W, D] w w' := by
  have HM := Kp.mk h
  have HW := Kp.mk hW
  have lW := blk_lt hW
  have lD := blk_lt h.words
  have lB := blk_lt h.head
  have hWD : W ≠ D := by
    rintro rfl
    rw [h.words] at hW
    simp at hW
  have hWB : W ≠ B := by
    rintro rfl
    rw [h.head] at hW
    simp at hW
  have hBD := h.ne
  have hWr : W ≠ w.heap.size := by omega
  have hDr : D ≠ w.heap.size := by omega
  have hBr : B ≠ w.heap.size := by omega
  clear h hW
  have bx := bit_two x hx
  have byy := bit_two y hy
  have h1 := buf_in hp hi x y hx hy 0 (by omega) (by have := hp.words; omega)
  rw [Int.add_zero] at h1
  have n1 : IntKind.u32.wrap (dn : Int) = dn := IntWalk.u32_in _ (by omega)
  have n2 : IntKind.u32.wrap (2 * x) = 2 * x := IntWalk.u32_in _ (by omega)
  have n3 : IntKind.u32.wrap (2 * x + y) = 2 * x + y := IntWalk.u32_in _ (by omega)
  have n4 : IntKind.i64.wrap (2 * x + y) = 2 * x + y := IntWalk.i64_in _ (by omega)
  have n5 : IntKind.i64.wrap (1 + (2 * x + y)) = 1 + (2 * x + y) := IntWalk.i64_in _ (by omega)
  clear hws
  go_enter Tryz.func99, Tryz.ntmps99
  have HB0 : Kp (Below w.heap.size w w) := ⟨Below.refl _ _⟩
  go_wp2_with fail
  have r1 : Kp ((w.alloc (.cells #[.bool false, .int .i64 0, .slice none 0 0, .bool false, .int .i64 0, .bool false, .bool false, .bool false, .int .i64 0] 64)).heap[w.heap.size]? = some (.cells #[.bool false, .int .i64 0, .slice none 0 0, .bool false, .int .i64 0, .bool false, .bool false, .bool false, .int .i64 0] 64 (0, 0))) := ⟨(blk_new _ _)⟩
  have HB1 : Kp (Below w.heap.size w (w.alloc (.cells #[.bool false, .int .i64 0, .slice none 0 0, .bool false, .int .i64 0, .bool false, .bool false, .bool false, .int .i64 0] 64))) := ⟨(below_al HB0.out _)⟩
  have W1 : Kp ((w.alloc (.cells #[.bool false, .int .i64 0, .slice none 0 0, .bool false, .int .i64 0, .bool false, .bool false, .bool false, .int .i64 0] 64)).heap[W]? = some (.cells #[.int .i64 p.src, .int .i64 p.rd, .int .i64 p.words, .int .i64 p.period, .slice da dn dc, .int .u32 x, .int .u32 y, .int .i64 (i : Int), .bool mk, nx] 117 (0, 0))) := ⟨(blk_al HW.out _)⟩
  have M1 : Kp (MemAt (w.alloc (.cells #[.bool false, .int .i64 0, .slice none 0 0, .bool false, .int .i64 0, .bool false, .bool false, .bool false, .int .i64 0] 64)) B D (ws)) := ⟨(HM.out.below (below_al (Below.refl _ _) _))⟩
  clear HB0 HW HM
  generalize (w.alloc (.cells #[.bool false, .int .i64 0, .slice none 0 0, .bool false, .int .i64 0, .bool false, .bool false, .bool false, .int .i64 0] 64)) = w1 at r1 HB1 W1 M1 ⊢
  have HS1 : Kp (ButS [W, D] w w1) := ⟨ButS.of_below HB1.out⟩
  have hsz0 : w.heap.size < w1.heap.size := blk_lt r1.out
  have c0 := cbk W1.out 0 (.int .i64 p.src) rfl
  have c1 := cbk W1.out 1 (.int .i64 p.rd) rfl
  have c2 := cbk W1.out 2 (.int .i64 p.words) rfl
  have c3 := cbk W1.out 3 (.int .i64 p.period) rfl
  have c4 := cbk W1.out 4 (.slice da dn dc) rfl
  have c5 := cbk W1.out 5 (.int .u32 x) rfl
  have c6 := cbk W1.out 6 (.int .u32 y) rfl
  have c7 := cbk W1.out 7 (.int .i64 (i : Int)) rfl
  have c8 := cbk W1.out 8 (.bool mk) rfl
  have c9 := cbk W1.out 9 (nx) rfl
  have cl := blk_lt W1.out
  refine held_start_gen (S := (fun w' : World => ButB (w1.heap.size) [D] w1 w' ∧ ∀ bb o, bb < w1.heap.size → bb ≠ D → w'.cell? ⟨bb, o, none⟩ = w1.cell? ⟨bb, o, none⟩)) (by kernel_rfl) (fun wz : World => Kp (ButS [W, D] w wz) ∧ Kp (wz.heap[W]? = some (.cells #[.int .i64 p.src, .int .i64 p.rd, .int .i64 p.words, .int .i64 p.period, .slice da dn dc, .int .u32 x, .int .u32 y, .int .i64 (i : Int), .bool mk, nx] 117 (0, 0))) ∧ Kp (MemAt wz B D (ws)) ∧ Kp (wz.heap[w.heap.size]? = some (.cells #[.bool false, .int .i64 0, .slice none 0 0, .bool false, .int .i64 0, .bool false, .bool false, .bool false, .int .i64 0] 64 (0, 0))) ∧ w1.heap.size ≤ wz.heap.size) ⟨⟨ButS.dr HS1.out⟩, ⟨blk_dr W1.out⟩, ⟨(M1.out.below (below_dr (Below.refl _ _)))⟩, ⟨blk_dr r1.out⟩, Nat.le_refl _⟩ (sx_of1 (ButB.dr (ButB.refl _ (by omega)))) (fun wd0 hRn hHeld => ?_)
  clear HS1 W1 M1 r1
  obtain ⟨HS1, W1, M1, r1, hsz⟩ := hRn
  refine wtk 0 ?_ rfl (.inl ⟨by rfl, ?_⟩) ?_
  rotate_left 1
  · (intro w hSw; go_simp; try with_reducible rfl)
  try simp only [Act.put, ls0, ls1, ls2]
  refine wtk 1 ?_ rfl (.inl ⟨by rfl, ?_⟩) ?_
  rotate_left 1
  · (intro w hSw; go_simp; try with_reducible rfl)
  try simp only [Act.put, ls0, ls1, ls2]
  refine wtk 2 ?_ rfl (.inl ⟨by rfl, ?_⟩) ?_
  rotate_left 1
  · (intro w hSw; go_simp; try with_reducible rfl)
  try simp only [Act.put, ls0, ls1, ls2]
  refine wtk 3 ?_ rfl (.inl ⟨by rfl, ?_⟩) ?_
  rotate_left 1
  · (intro w hSw; go_simp; try with_reducible rfl)
  try simp only [Act.put, ls0, ls1, ls2]
  refine wtk 4 ?_ rfl (.inl ⟨by rfl, ?_⟩) ?_
  rotate_left 1
  · (intro w hSw; go_simp; try with_reducible rfl)
  try simp only [Act.put, ls0, ls1, ls2]
  refine wtk 5 ?_ rfl (.inl ⟨by rfl, ?_⟩) ?_
  rotate_left 1
  · (intro w hSw; go_simp; try with_reducible rfl)
  try simp only [Act.put, ls0, ls1, ls2]
  refine wtk 6 ?_ rfl (.inl ⟨by rfl, ?_⟩) ?_
  rotate_left 1
  · (intro w hSw; go_simp; try with_reducible rfl)
  try simp only [Act.put, ls0, ls1, ls2]
  refine wtk 7 ?_ rfl (.inl ⟨by rfl, ?_⟩) ?_
  rotate_left 1
  · (intro w hSw; go_simp; try with_reducible rfl)
  try simp only [Act.put, ls0, ls1, ls2]
  refine wtk 8 ?_ rfl (.inl ⟨by rfl, ?_⟩) ?_
  rotate_left 1
  · (intro w hSw; go_simp; try with_reducible rfl)
  try simp only [Act.put, ls0, ls1, ls2]
  refine wtk 9 ?_ rfl (.inl ⟨by rfl, ?_⟩) ?_
  rotate_left 1
  · (intro w hSw; go_simp; try with_reducible rfl)
  try simp only [Act.put, ls0, ls1, ls2]
  refine wtk 10 ?_ rfl (.inl ⟨by rfl, ?_⟩) ?_
  rotate_left 1
  · (intro w hSw; go_simp; try with_reducible rfl)
  try simp only [Act.put, ls0, ls1, ls2]
  refine wtk 11 ?_ rfl (.inl ⟨by rfl, ?_⟩) ?_
  rotate_left 1
  · (intro w hSw; go_simp; try with_reducible rfl)
  try simp only [Act.put, ls0, ls1, ls2]
  refine wtk 12 ?_ rfl (.inl ⟨by rfl, ?_⟩) ?_
  rotate_left 1
  · (intro w hSw; go_simp; try with_reducible rfl)
  try simp only [Act.put, ls0, ls1, ls2]
  refine wtk 14 ?_ rfl (.inl ⟨by rfl, ?_⟩) ?_
  rotate_left 1
  · (intro w hSw; go_simp; try with_reducible rfl)
  try simp only [Act.put, ls0, ls1, ls2]
  refine wtk 15 ?_ rfl (.inl ⟨by rfl, ?_⟩) ?_
  rotate_left 1
  · (intro w hSw; go_simp; try with_reducible rfl)
  try simp only [Act.put, ls0, ls1, ls2]
  refine wtk 16 ?_ rfl (.inl ⟨by rfl, ?_⟩) ?_
  rotate_left 1
  · (intro w hSw; go_simp; try with_reducible rfl)
  try simp only [Act.put, ls0, ls1, ls2]
  refine wtk 17 ?_ rfl (.inl ⟨by rfl, ?_⟩) ?_
  rotate_left 1
  · (intro w hSw; go_simp; try with_reducible rfl)
  try simp only [Act.put, ls0, ls1, ls2]
  refine wtk 18 ?_ rfl (.inl ⟨by rfl, ?_⟩) ?_
  rotate_left 1
  · (intro w hSw; go_simp; try with_reducible rfl)
  try simp only [Act.put, ls0, ls1, ls2]
  refine wtk 19 ?_ rfl (.inl ⟨by rfl, ?_⟩) ?_
  rotate_left 1
  · (intro w hSw; go_simp; try with_reducible rfl)
  try simp only [Act.put, ls0, ls1, ls2]
  refine wrd [13] ?_
  refine (arc rfl (fun K hK => ?_) arn)
  go_simp
  go_at_call 108
  refine (fbuffer_any p hp x y hx hy _).mono ?_
  rintro e w9 ⟨rfl, hb⟩
  try go_wp2_with fail
  refine out_gen hK _ _ (fun wz : World => Kp (ButS [W, D] w wz) ∧ Kp (wz.heap[W]? = some (.cells #[.int .i64 p.src, .int .i64 p.rd, .int .i64 p.words, .int .i64 p.period, .slice da dn dc, .int .u32 x, .int .u32 y, .int .i64 (i : Int), .bool mk, nx] 117 (0, 0))) ∧ Kp (MemAt wz B D (ws)) ∧ Kp (wz.heap[w.heap.size]? = some (.cells #[.bool false, .int .i64 0, .slice none 0 0, .bool false, .int .i64 0, .bool false, .bool false, .bool false, .int .i64 0] 64 (0, 0))) ∧ wd0.heap.size ≤ wz.heap.size) ⟨⟨ButS.trans HS1.out (ButS.of_below hb)⟩, ⟨blk_below W1.out hb⟩, ⟨(M1.out.below hb)⟩, ⟨blk_below r1.out hb⟩, hb.size⟩ (sx_of1 (ButB.call (And.left hHeld) hb)) (fun wd1 hRn hHn => ?_)
  clear hK K hHeld HS1 W1 M1 r1 hb
  obtain ⟨HS1, W1, M1, r1, hsz1⟩ := hRn
  have hHeld := hHn
  clear hHn
  try simp only [Act.put, ls0, ls1, ls2]
  refine wrd [20] ?_
  refine (arc rfl (fun K hK => ?_) arn)
  go_simp
  go_at_call 100
  refine (fstore_any B D (ws) (p.buf x y) (dn) h1.1 h1.2.1 _ M1.out).mono ?_
  rintro e w9 ⟨⟨rr, rfl⟩, rfl⟩
  try go_wp2_with fail
  refine out_gen hK _ _ (fun wz : World => Kp (ButS [W, D] w wz) ∧ Kp (wz.heap[W]? = some (.cells #[.int .i64 p.src, .int .i64 p.rd, .int .i64 p.words, .int .i64 p.period, .slice da dn dc, .int .u32 x, .int .u32 y, .int .i64 (i : Int), .bool mk, nx] 117 (0, 0))) ∧ Kp (MemAt wz B D (stW (ws) (p.buf x y) (dn))) ∧ Kp (wz.heap[w.heap.size]? = some (.cells #[.bool false, .int .i64 0, .slice none 0 0, .bool false, .int .i64 0, .bool false, .bool false, .bool false, .int .i64 0] 64 (0, 0))) ∧ wd1.heap.size ≤ wz.heap.size) ⟨⟨ButS.set' HS1.out (p := ⟨D, (p.buf x y).toNat, none⟩) (by first | (left; simp; done) | (right; show _ ≤ D; omega)) _⟩, ⟨blk_set_ne (p := ⟨D, (p.buf x y).toNat, none⟩) W1.out (by show W ≠ D; omega) _⟩, ⟨MemAt.st M1.out _ _⟩, ⟨blk_set_ne (p := ⟨D, (p.buf x y).toNat, none⟩) r1.out (by show w.heap.size ≠ D; omega) _⟩, (by simp [World.setCell])⟩ (sx_of1 (ButB.set (And.left hHeld) (p := ⟨D, (p.buf x y).toNat, none⟩) (by first | (left; simp; done) | (right; show _ ≤ D; omega)) _)) (fun wd2 hRn hHn => ?_)
  clear hK K hHeld HS1 W1 M1 r1
  obtain ⟨HS1, W1, M1, r1, hsz2⟩ := hRn
  have hHeld := hHn
  clear hHn
  try simp only [Act.put, ls0, ls1, ls2]
  refine wpAnyH_done (by kernel_rfl) ?_ _
  clear c0 c1 c2 c3 c4 c5 c6 c7 c8 c9 cl
  have c0 := cbk W1.out 0 (.int .i64 p.src) rfl
  have c1 := cbk W1.out 1 (.int .i64 p.rd) rfl
  have c2 := cbk W1.out 2 (.int .i64 p.words) rfl
  have c3 := cbk W1.out 3 (.int .i64 p.period) rfl
  have c4 := cbk W1.out 4 (.slice da dn dc) rfl
  have c5 := cbk W1.out 5 (.int .u32 x) rfl
  have c6 := cbk W1.out 6 (.int .u32 y) rfl
  have c7 := cbk W1.out 7 (.int .i64 (i : Int)) rfl
  have c8 := cbk W1.out 8 (.bool mk) rfl
  have c9 := cbk W1.out 9 (nx) rfl
  have cl := blk_lt W1.out
  go_wp2_with fail
  refine held_start_gen (S := (fun w' : World => ButB (wd2.heap.size) [w.heap.size] wd2 w' ∧ ∀ bb o, bb < wd2.heap.size → bb ≠ w.heap.size → w'.cell? ⟨bb, o, none⟩ = wd2.cell? ⟨bb, o, none⟩)) (by kernel_rfl) (fun wz : World => Kp (ButS [W, D] w wz) ∧ Kp (wz.heap[W]? = some (.cells #[.int .i64 p.src, .int .i64 p.rd, .int .i64 p.words, .int .i64 p.period, .slice da dn dc, .int .u32 x, .int .u32 y, .int .i64 (i : Int), .bool mk, nx] 117 (0, 0))) ∧ Kp (MemAt wz B D (stW (ws) (p.buf x y) (dn))) ∧ Kp (wz.heap[w.heap.size]? = some (.cells #[.bool false, .int .i64 0, .slice none 0 0, .bool false, .int .i64 0, .bool false, .bool false, .bool false, .int .i64 0] 64 (0, 0))) ∧ wd2.heap.size ≤ wz.heap.size) ⟨⟨ButS.dr HS1.out⟩, ⟨blk_dr W1.out⟩, ⟨(M1.out.below (below_dr (Below.refl _ _)))⟩, ⟨blk_dr r1.out⟩, Nat.le_refl _⟩ (sx_of1 (ButB.dr (ButB.refl _ (by omega)))) (fun wd0 hRn hHeld => ?_)
  clear HS1 W1 M1 r1
  obtain ⟨HS1, W1, M1, r1, hsz⟩ := hRn
  refine wtk 0 ?_ rfl (.inl ⟨by rfl, ?_⟩) ?_
  rotate_left 1
  · (intro w hSw; go_simp; try with_reducible rfl)
  try simp only [Act.put, ls0, ls1, ls2]
  refine wtk 1 ?_ rfl (.inl ⟨by rfl, ?_⟩) ?_
  rotate_left 1
  · (intro w hSw; go_simp; try with_reducible rfl)
  try simp only [Act.put, ls0, ls1, ls2]
  refine wtk 2 ?_ rfl (.inl ⟨by rfl, ?_⟩) ?_
  rotate_left 1
  · (intro w hSw; go_simp; try with_reducible rfl)
  try simp only [Act.put, ls0, ls1, ls2]
  refine wtk 3 ?_ rfl (.inl ⟨by rfl, ?_⟩) ?_
  rotate_left 1
  · (intro w hSw; go_simp; try with_reducible rfl)
  try simp only [Act.put, ls0, ls1, ls2]
  refine wtk 4 ?_ rfl (.inl ⟨by rfl, ?_⟩) ?_
  rotate_left 1
  · (intro w hSw; go_simp; try with_reducible rfl)
  try simp only [Act.put, ls0, ls1, ls2]
  refine wtk 5 ?_ rfl (.inl ⟨by rfl, ?_⟩) ?_
  rotate_left 1
  · (intro w hSw; go_simp; try with_reducible rfl)
  try simp only [Act.put, ls0, ls1, ls2]
  refine wtk 6 ?_ rfl (.inl ⟨by rfl, ?_⟩) ?_
  rotate_left 1
  · (intro w hSw; go_simp; try with_reducible rfl)
  try simp only [Act.put, ls0, ls1, ls2]
  refine wtk 7 ?_ rfl (.inl ⟨by rfl, ?_⟩) ?_
  rotate_left 1
  · (intro w hSw; go_simp; try with_reducible rfl)
  try simp only [Act.put, ls0, ls1, ls2]
  refine wtk 8 ?_ rfl (.inl ⟨by rfl, ?_⟩) ?_
  rotate_left 1
  · (intro w hSw; go_simp; try with_reducible rfl)
  try simp only [Act.put, ls0, ls1, ls2]
  refine wtk 9 ?_ rfl (.inl ⟨by rfl, ?_⟩) ?_
  rotate_left 1
  · (intro w hSw; go_simp; try with_reducible rfl)
  try simp only [Act.put, ls0, ls1, ls2]
  refine wtk 10 ?_ rfl (.inl ⟨by rfl, ?_⟩) ?_
  rotate_left 1
  · (intro w hSw; go_simp; try with_reducible rfl)
  try simp only [Act.put, ls0, ls1, ls2]
  refine wtk 11 ?_ rfl (.inl ⟨by rfl, ?_⟩) ?_
  rotate_left 1
  · (intro w hSw; go_simp; try with_reducible rfl)
  try simp only [Act.put, ls0, ls1, ls2]
  refine wtk 12 ?_ rfl (.inl ⟨by rfl, ?_⟩) ?_
  rotate_left 1
  · (intro w hSw; go_simp; try with_reducible rfl)
  try simp only [Act.put, ls0, ls1, ls2]
  refine wtk 13 ?_ rfl (.inl ⟨by rfl, ?_⟩) ?_
  rotate_left 1
  · (intro w hSw; go_simp; try with_reducible rfl)
  try simp only [Act.put, ls0, ls1, ls2]
  refine wtk 14 ?_ rfl (.inl ⟨by rfl, ?_⟩) ?_
  rotate_left 1
  · (intro w hSw; go_simp; try with_reducible rfl)
  try simp only [Act.put, ls0, ls1, ls2]
  refine wrd [15] ?_
  refine (arc rfl (fun K hK => ?_) arn)
  have sd0 := cbk r1.out 0 (.bool false) rfl
  have sf0 := frozen_blk r1.out 0
  have sd1 := cbk r1.out 1 (.int .i64 0) rfl
  have sf1 := frozen_blk r1.out 1
  have sd2 := cbk r1.out 2 (.slice none 0 0) rfl
  have sf2 := frozen_blk r1.out 2
  have sd3 := cbk r1.out 3 (.bool false) rfl
  have sf3 := frozen_blk r1.out 3
  have sd4 := cbk r1.out 4 (.int .i64 0) rfl
  have sf4 := frozen_blk r1.out 4
  have sd5 := cbk r1.out 5 (.bool false) rfl
  have sf5 := frozen_blk r1.out 5
  have sd6 := cbk r1.out 6 (.bool false) rfl
  have sf6 := frozen_blk r1.out 6
  have sd7 := cbk r1.out 7 (.bool false) rfl
  have sf7 := frozen_blk r1.out 7
  have sd8 := cbk r1.out 8 (.int .i64 0) rfl
  have sf8 := frozen_blk r1.out 8
  have sl := blk_lt r1.out
  go_simp
  try go_wp2_with fail
  refine out_gen hK _ _ (fun wz : World => Kp (ButS [W, D] w wz) ∧ Kp (wz.heap[W]? = some (.cells #[.int .i64 p.src, .int .i64 p.rd, .int .i64 p.words, .int .i64 p.period, .slice da dn dc, .int .u32 x, .int .u32 y, .int .i64 (i : Int), .bool mk, nx] 117 (0, 0))) ∧ Kp (MemAt wz B D (stW (ws) (p.buf x y) (dn))) ∧ Kp (wz.heap[w.heap.size]? = some (.cells #[.bool false, .int .i64 0, .slice none 0 0, .bool false, .int .i64 0, .bool false, .bool false, .bool false, .int .i64 (1 + (2 * x + y))] 64 (0, 0))) ∧ wd0.heap.size ≤ wz.heap.size) ⟨⟨(ButS.set' (ButS.set' (ButS.set' (ButS.set' (ButS.set' (ButS.set' (ButS.set' (ButS.set' (ButS.set' HS1.out (p := ⟨w.heap.size, 0, none⟩) (by first | (left; simp; done) | (right; show _ ≤ w.heap.size; omega)) _) (p := ⟨w.heap.size, 1, none⟩) (by first | (left; simp; done) | (right; show _ ≤ w.heap.size; omega)) _) (p := ⟨w.heap.size, 2, none⟩) (by first | (left; simp; done) | (right; show _ ≤ w.heap.size; omega)) _) (p := ⟨w.heap.size, 3, none⟩) (by first | (left; simp; done) | (right; show _ ≤ w.heap.size; omega)) _) (p := ⟨w.heap.size, 4, none⟩) (by first | (left; simp; done) | (right; show _ ≤ w.heap.size; omega)) _) (p := ⟨w.heap.size, 5, none⟩) (by first | (left; simp; done) | (right; show _ ≤ w.heap.size; omega)) _) (p := ⟨w.heap.size, 6, none⟩) (by first | (left; simp; done) | (right; show _ ≤ w.heap.size; omega)) _) (p := ⟨w.heap.size, 7, none⟩) (by first | (left; simp; done) | (right; show _ ≤ w.heap.size; omega)) _) (p := ⟨w.heap.size, 8, none⟩) (by first | (left; simp; done) | (right; show _ ≤ w.heap.size; omega)) _)⟩, ⟨(blk_set_ne (p := ⟨w.heap.size, 8, none⟩) (blk_set_ne (p := ⟨w.heap.size, 7, none⟩) (blk_set_ne (p := ⟨w.heap.size, 6, none⟩) (blk_set_ne (p := ⟨w.heap.size, 5, none⟩) (blk_set_ne (p := ⟨w.heap.size, 4, none⟩) (blk_set_ne (p := ⟨w.heap.size, 3, none⟩) (blk_set_ne (p := ⟨w.heap.size, 2, none⟩) (blk_set_ne (p := ⟨w.heap.size, 1, none⟩) (blk_set_ne (p := ⟨w.heap.size, 0, none⟩) W1.out (by show W ≠ w.heap.size; omega) _) (by show W ≠ w.heap.size; omega) _) (by show W ≠ w.heap.size; omega) _) (by show W ≠ w.heap.size; omega) _) (by show W ≠ w.heap.size; omega) _) (by show W ≠ w.heap.size; omega) _) (by show W ≠ w.heap.size; omega) _) (by show W ≠ w.heap.size; omega) _) (by show W ≠ w.heap.size; omega) _)⟩, ⟨(MemAt.setne (MemAt.setne (MemAt.setne (MemAt.setne (MemAt.setne (MemAt.setne (MemAt.setne (MemAt.setne (MemAt.setne M1.out (p := ⟨w.heap.size, 0, none⟩) (by show B ≠ w.heap.size; omega) (by show D ≠ w.heap.size; omega) _) (p := ⟨w.heap.size, 1, none⟩) (by show B ≠ w.heap.size; omega) (by show D ≠ w.heap.size; omega) _) (p := ⟨w.heap.size, 2, none⟩) (by show B ≠ w.heap.size; omega) (by show D ≠ w.heap.size; omega) _) (p := ⟨w.heap.size, 3, none⟩) (by show B ≠ w.heap.size; omega) (by show D ≠ w.heap.size; omega) _) (p := ⟨w.heap.size, 4, none⟩) (by show B ≠ w.heap.size; omega) (by show D ≠ w.heap.size; omega) _) (p := ⟨w.heap.size, 5, none⟩) (by show B ≠ w.heap.size; omega) (by show D ≠ w.heap.size; omega) _) (p := ⟨w.heap.size, 6, none⟩) (by show B ≠ w.heap.size; omega) (by show D ≠ w.heap.size; omega) _) (p := ⟨w.heap.size, 7, none⟩) (by show B ≠ w.heap.size; omega) (by show D ≠ w.heap.size; omega) _) (p := ⟨w.heap.size, 8, none⟩) (by show B ≠ w.heap.size; omega) (by show D ≠ w.heap.size; omega) _)⟩, ⟨(blk_set (blk_set (blk_set (blk_set (blk_set (blk_set (blk_set (blk_set (blk_set r1.out 0 _) 1 _) 2 _) 3 _) 4 _) 5 _) 6 _) 7 _) 8 _).trans rfl⟩, (by simp [World.setCell])⟩ (sx_of1 ((ButB.set (ButB.set (ButB.set (ButB.set (ButB.set (ButB.set (ButB.set (ButB.set (ButB.set (And.left hHeld) (p := ⟨w.heap.size, 0, none⟩) (by first | (left; simp; done) | (right; show _ ≤ w.heap.size; omega)) _) (p := ⟨w.heap.size, 1, none⟩) (by first | (left; simp; done) | (right; show _ ≤ w.heap.size; omega)) _) (p := ⟨w.heap.size, 2, none⟩) (by first | (left; simp; done) | (right; show _ ≤ w.heap.size; omega)) _) (p := ⟨w.heap.size, 3, none⟩) (by first | (left; simp; done) | (right; show _ ≤ w.heap.size; omega)) _) (p := ⟨w.heap.size, 4, none⟩) (by first | (left; simp; done) | (right; show _ ≤ w.heap.size; omega)) _) (p := ⟨w.heap.size, 5, none⟩) (by first | (left; simp; done) | (right; show _ ≤ w.heap.size; omega)) _) (p := ⟨w.heap.size, 6, none⟩) (by first | (left; simp; done) | (right; show _ ≤ w.heap.size; omega)) _) (p := ⟨w.heap.size, 7, none⟩) (by first | (left; simp; done) | (right; show _ ≤ w.heap.size; omega)) _) (p := ⟨w.heap.size, 8, none⟩) (by first | (left; simp; done) | (right; show _ ≤ w.heap.size; omega)) _))) (fun wd1 hRn hHn => ?_)
  clear hK K hHeld HS1 W1 M1 r1 sd0 sf0 sd1 sf1 sd2 sf2 sd3 sf3 sd4 sf4 sd5 sf5 sd6 sf6 sd7 sf7 sd8 sf8 sl
  obtain ⟨HS1, W1, M1, r1, hsz1⟩ := hRn
  have hHeld := hHn
  clear hHn
  try simp only [Act.put, ls0, ls1, ls2]
  refine wtk 16 ?_ rfl (.inl ⟨by rfl, ?_⟩) ?_
  rotate_left 1
  · (intro w hSw; go_simp; try with_reducible rfl)
  try simp only [Act.put, ls0, ls1, ls2]
  refine wpAnyH_done (by kernel_rfl) ?_ _
  go_wp2
  refine bodyPost_ret (v := .tuple #[.agg #[.bool false, .int .i64 0, .slice none 0 0, .bool false, .int .i64 0, .bool false, .bool false, .bool false, .int .i64 (1 + (2 * x + y))], .func (.func 109) #[.pointer (some ⟨W, 0, none⟩)] #[]]) ?_ rfl ?_
  · refine (results_row_tmp (fn := Tryz.f99) (p := 6) (u := 7) (ty := 64) rfl _ _ w.heap.size 64 #[.bool false, .int .i64 0, .slice none 0 0, .bool false, .int .i64 0, .bool false, .bool false, .bool false, .int .i64 (1 + (2 * x + y))] (0, 0) _ (by go_simp) (r1.out.trans (by rfl)) Tryz.underlying64 rfl (by kernel_rfl)).trans ?_
    rfl
  · exact ⟨rfl, W1.out, M1.out, HS1.out⟩
set_option maxRecDepth 100000 in
set_option maxHeartbeats 4000000 in
theorem stamp_any (p : Plc) (hp : p.low) (W B D : Nat) (ws : List Int) (da : Option Addr) (dn dc : Nat) (x y : Int) (i : Nat) (mk : Bool) (nx : Value) (now : Int) (hi : p.In ws.length) (hws : Words ws) (hx : bit x) (hy : bit y) (w : World) (hW : w.heap[W]? = some (.cells #[.int .i64 p.src, .int .i64 p.rd, .int .i64 p.words, .int .i64 p.period, .slice da dn dc, .int .u32 x, .int .u32 y, .int .i64 (i : Int), .bool mk, nx] 117 (0, 0))) (h : MemAt w B D ws) : Calls Tryz.prog 109 #[.pointer (some ⟨W, 0, none⟩), .pointer (some ⟨B, 0, none⟩), .int .i64 now] w fun e w' =>
    e = .returned (.tuple #[.agg #[.bool false, .int .i64 0, .slice none 0 0, .bool false, .int .i64 0, .bool false, .bool false, .bool true, .int .i64 0], .func (.func 112) #[.pointer (some ⟨W, 0, none⟩)] #[]]) ∧ w'.heap[W]? = some (.cells #[.int .i64 p.src, .int .i64 p.rd, .int .i64 p.words, .int .i64 p.period, .slice da dn dc, .int .u32 x, .int .u32 y, .int .i64 (i : Int), .bool mk, nx] 117 (0, 0)) ∧ MemAt w' B D (stW ws (p.buf x y + 1) (now % 4294967296)) ∧ ButS [W, D] w w' := by
  have HM := Kp.mk h
  have HW := Kp.mk hW
  have lW := blk_lt hW
  have lD := blk_lt h.words
  have lB := blk_lt h.head
  have hWD : W ≠ D := by
    rintro rfl
    rw [h.words] at hW
    simp at hW
  have hWB : W ≠ B := by
    rintro rfl
    rw [h.head] at hW
    simp at hW
  have hBD := h.ne
  have hWr : W ≠ w.heap.size := by omega
  have hDr : D ≠ w.heap.size := by omega
  have hBr : B ≠ w.heap.size := by omega
  clear h hW
  have bx := bit_two x hx
  have byy := bit_two y hy
  have h1 := buf_in hp hi x y hx hy 1 (by omega) (by have := hp.words; omega)
  have n1 : IntKind.i64.wrap (p.buf x y + 1) = p.buf x y + 1 := IntWalk.i64_in _ (by omega)
  clear hws
  go_enter Tryz.func109, Tryz.ntmps109
  have HB0 : Kp (Below w.heap.size w w) := ⟨Below.refl _ _⟩
  go_wp2_with fail
  have r1 : Kp ((w.alloc (.cells #[.bool false, .int .i64 0, .slice none 0 0, .bool false, .int .i64 0, .bool false, .bool false, .bool false, .int .i64 0] 64)).heap[w.heap.size]? = some (.cells #[.bool false, .int .i64 0, .slice none 0 0, .bool false, .int .i64 0, .bool false, .bool false, .bool false, .int .i64 0] 64 (0, 0))) := ⟨(blk_new _ _)⟩
  have HB1 : Kp (Below w.heap.size w (w.alloc (.cells #[.bool false, .int .i64 0, .slice none 0 0, .bool false, .int .i64 0, .bool false, .bool false, .bool false, .int .i64 0] 64))) := ⟨(below_al HB0.out _)⟩
  have W1 : Kp ((w.alloc (.cells #[.bool false, .int .i64 0, .slice none 0 0, .bool false, .int .i64 0, .bool false, .bool false, .bool false, .int .i64 0] 64)).heap[W]? = some (.cells #[.int .i64 p.src, .int .i64 p.rd, .int .i64 p.words, .int .i64 p.period, .slice da dn dc, .int .u32 x, .int .u32 y, .int .i64 (i : Int), .bool mk, nx] 117 (0, 0))) := ⟨(blk_al HW.out _)⟩
  have M1 : Kp (MemAt (w.alloc (.cells #[.bool false, .int .i64 0, .slice none 0 0, .bool false, .int .i64 0, .bool false, .bool false, .bool false, .int .i64 0] 64)) B D (ws)) := ⟨(HM.out.below (below_al (Below.refl _ _) _))⟩
  clear HB0 HW HM
  generalize (w.alloc (.cells #[.bool false, .int .i64 0, .slice none 0 0, .bool false, .int .i64 0, .bool false, .bool false, .bool false, .int .i64 0] 64)) = w1 at r1 HB1 W1 M1 ⊢
  have HS1 : Kp (ButS [W, D] w w1) := ⟨ButS.of_below HB1.out⟩
  have hsz0 : w.heap.size < w1.heap.size := blk_lt r1.out
  have c0 := cbk W1.out 0 (.int .i64 p.src) rfl
  have c1 := cbk W1.out 1 (.int .i64 p.rd) rfl
  have c2 := cbk W1.out 2 (.int .i64 p.words) rfl
  have c3 := cbk W1.out 3 (.int .i64 p.period) rfl
  have c4 := cbk W1.out 4 (.slice da dn dc) rfl
  have c5 := cbk W1.out 5 (.int .u32 x) rfl
  have c6 := cbk W1.out 6 (.int .u32 y) rfl
  have c7 := cbk W1.out 7 (.int .i64 (i : Int)) rfl
  have c8 := cbk W1.out 8 (.bool mk) rfl
  have c9 := cbk W1.out 9 (nx) rfl
  have cl := blk_lt W1.out
  refine held_start_gen (S := (fun w' : World => ButB (w1.heap.size) [D] w1 w' ∧ ∀ bb o, bb < w1.heap.size → bb ≠ D → w'.cell? ⟨bb, o, none⟩ = w1.cell? ⟨bb, o, none⟩)) (by kernel_rfl) (fun wz : World => Kp (ButS [W, D] w wz) ∧ Kp (wz.heap[W]? = some (.cells #[.int .i64 p.src, .int .i64 p.rd, .int .i64 p.words, .int .i64 p.period, .slice da dn dc, .int .u32 x, .int .u32 y, .int .i64 (i : Int), .bool mk, nx] 117 (0, 0))) ∧ Kp (MemAt wz B D (ws)) ∧ Kp (wz.heap[w.heap.size]? = some (.cells #[.bool false, .int .i64 0, .slice none 0 0, .bool false, .int .i64 0, .bool false, .bool false, .bool false, .int .i64 0] 64 (0, 0))) ∧ w1.heap.size ≤ wz.heap.size) ⟨⟨ButS.dr HS1.out⟩, ⟨blk_dr W1.out⟩, ⟨(M1.out.below (below_dr (Below.refl _ _)))⟩, ⟨blk_dr r1.out⟩, Nat.le_refl _⟩ (sx_of1 (ButB.dr (ButB.refl _ (by omega)))) (fun wd0 hRn hHeld => ?_)
  clear HS1 W1 M1 r1
  obtain ⟨HS1, W1, M1, r1, hsz⟩ := hRn
  refine wtk 0 ?_ rfl (.inl ⟨by rfl, ?_⟩) ?_
  rotate_left 1
  · (intro w hSw; go_simp; try with_reducible rfl)
  try simp only [Act.put, ls0, ls1, ls2]
  refine wtk 1 ?_ rfl (.inl ⟨by rfl, ?_⟩) ?_
  rotate_left 1
  · (intro w hSw; go_simp; try with_reducible rfl)
  try simp only [Act.put, ls0, ls1, ls2]
  refine wtk 2 ?_ rfl (.inl ⟨by rfl, ?_⟩) ?_
  rotate_left 1
  · (intro w hSw; go_simp; try with_reducible rfl)
  try simp only [Act.put, ls0, ls1, ls2]
  refine wtk 3 ?_ rfl (.inl ⟨by rfl, ?_⟩) ?_
  rotate_left 1
  · (intro w hSw; go_simp; try with_reducible rfl)
  try simp only [Act.put, ls0, ls1, ls2]
  refine wtk 4 ?_ rfl (.inl ⟨by rfl, ?_⟩) ?_
  rotate_left 1
  · (intro w hSw; go_simp; try with_reducible rfl)
  try simp only [Act.put, ls0, ls1, ls2]
  refine wtk 5 ?_ rfl (.inl ⟨by rfl, ?_⟩) ?_
  rotate_left 1
  · (intro w hSw; go_simp; try with_reducible rfl)
  try simp only [Act.put, ls0, ls1, ls2]
  refine wtk 6 ?_ rfl (.inl ⟨by rfl, ?_⟩) ?_
  rotate_left 1
  · (intro w hSw; go_simp; try with_reducible rfl)
  try simp only [Act.put, ls0, ls1, ls2]
  refine wtk 7 ?_ rfl (.inl ⟨by rfl, ?_⟩) ?_
  rotate_left 1
  · (intro w hSw; go_simp; try with_reducible rfl)
  try simp only [Act.put, ls0, ls1, ls2]
  refine wtk 8 ?_ rfl (.inl ⟨by rfl, ?_⟩) ?_
  rotate_left 1
  · (intro w hSw; go_simp; try with_reducible rfl)
  try simp only [Act.put, ls0, ls1, ls2]
  refine wtk 9 ?_ rfl (.inl ⟨by rfl, ?_⟩) ?_
  rotate_left 1
  · (intro w hSw; go_simp; try with_reducible rfl)
  try simp only [Act.put, ls0, ls1, ls2]
  refine wtk 10 ?_ rfl (.inl ⟨by rfl, ?_⟩) ?_
  rotate_left 1
  · (intro w hSw; go_simp; try with_reducible rfl)
  try simp only [Act.put, ls0, ls1, ls2]
  refine wtk 11 ?_ rfl (.inl ⟨by rfl, ?_⟩) ?_
  rotate_left 1
  · (intro w hSw; go_simp; try with_reducible rfl)
  try simp only [Act.put, ls0, ls1, ls2]
  refine wtk 12 ?_ rfl (.inl ⟨by rfl, ?_⟩) ?_
  rotate_left 1
  · (intro w hSw; go_simp; try with_reducible rfl)
  try simp only [Act.put, ls0, ls1, ls2]
  refine wtk 15 ?_ rfl (.inl ⟨by rfl, ?_⟩) ?_
  rotate_left 1
  · (intro w hSw; go_simp; try with_reducible rfl)
  try simp only [Act.put, ls0, ls1, ls2]
  refine wtk 16 ?_ rfl (.inl ⟨by rfl, ?_⟩) ?_
  rotate_left 1
  · (intro w hSw; go_simp; try with_reducible rfl)
  try simp only [Act.put, ls0, ls1, ls2]
  refine wrd [13] ?_
  refine (arc rfl (fun K hK => ?_) arn)
  go_simp
  go_at_call 108
  refine (fbuffer_any p hp x y hx hy _).mono ?_
  rintro e w9 ⟨rfl, hb⟩
  try go_wp2_with fail
  refine out_gen hK _ _ (fun wz : World => Kp (ButS [W, D] w wz) ∧ Kp (wz.heap[W]? = some (.cells #[.int .i64 p.src, .int .i64 p.rd, .int .i64 p.words, .int .i64 p.period, .slice da dn dc, .int .u32 x, .int .u32 y, .int .i64 (i : Int), .bool mk, nx] 117 (0, 0))) ∧ Kp (MemAt wz B D (ws)) ∧ Kp (wz.heap[w.heap.size]? = some (.cells #[.bool false, .int .i64 0, .slice none 0 0, .bool false, .int .i64 0, .bool false, .bool false, .bool false, .int .i64 0] 64 (0, 0))) ∧ wd0.heap.size ≤ wz.heap.size) ⟨⟨ButS.trans HS1.out (ButS.of_below hb)⟩, ⟨blk_below W1.out hb⟩, ⟨(M1.out.below hb)⟩, ⟨blk_below r1.out hb⟩, hb.size⟩ (sx_of1 (ButB.call (And.left hHeld) hb)) (fun wd1 hRn hHn => ?_)
  clear hK K hHeld HS1 W1 M1 r1 hb
  obtain ⟨HS1, W1, M1, r1, hsz1⟩ := hRn
  have hHeld := hHn
  clear hHn
  try simp only [Act.put, ls0, ls1, ls2]
  refine wtk 14 ?_ rfl (.inl ⟨by rfl, ?_⟩) ?_
  rotate_left 1
  · (intro w hSw; go_simp; try with_reducible rfl)
  try simp only [Act.put, ls0, ls1, ls2]
  refine wrd [17] ?_
  refine (arc rfl (fun K hK => ?_) arn)
  go_simp
  go_at_call 100
  refine (fstore_any B D (ws) (p.buf x y + 1) (now % 4294967296) h1.1 h1.2.1 _ M1.out).mono ?_
  rintro e w9 ⟨⟨rr, rfl⟩, rfl⟩
  try go_wp2_with fail
  refine out_gen hK _ _ (fun wz : World => Kp (ButS [W, D] w wz) ∧ Kp (wz.heap[W]? = some (.cells #[.int .i64 p.src, .int .i64 p.rd, .int .i64 p.words, .int .i64 p.period, .slice da dn dc, .int .u32 x, .int .u32 y, .int .i64 (i : Int), .bool mk, nx] 117 (0, 0))) ∧ Kp (MemAt wz B D (stW (ws) (p.buf x y + 1) (now % 4294967296))) ∧ Kp (wz.heap[w.heap.size]? = some (.cells #[.bool false, .int .i64 0, .slice none 0 0, .bool false, .int .i64 0, .bool false, .bool false, .bool false, .int .i64 0] 64 (0, 0))) ∧ wd1.heap.size ≤ wz.heap.size) ⟨⟨ButS.set' HS1.out (p := ⟨D, (p.buf x y + 1).toNat, none⟩) (by first | (left; simp; done) | (right; show _ ≤ D; omega)) _⟩, ⟨blk_set_ne (p := ⟨D, (p.buf x y + 1).toNat, none⟩) W1.out (by show W ≠ D; omega) _⟩, ⟨MemAt.st M1.out _ _⟩, ⟨blk_set_ne (p := ⟨D, (p.buf x y + 1).toNat, none⟩) r1.out (by show w.heap.size ≠ D; omega) _⟩, (by simp [World.setCell])⟩ (sx_of1 (ButB.set (And.left hHeld) (p := ⟨D, (p.buf x y + 1).toNat, none⟩) (by first | (left; simp; done) | (right; show _ ≤ D; omega)) _)) (fun wd2 hRn hHn => ?_)
  clear hK K hHeld HS1 W1 M1 r1
  obtain ⟨HS1, W1, M1, r1, hsz2⟩ := hRn
  have hHeld := hHn
  clear hHn
  try simp only [Act.put, ls0, ls1, ls2]
  refine wpAnyH_done (by kernel_rfl) ?_ _
  clear c0 c1 c2 c3 c4 c5 c6 c7 c8 c9 cl
  have q0 := cbk r1.out 0 (.bool false) rfl
  have q1 := cbk r1.out 1 (.int .i64 0) rfl
  have q2 := cbk r1.out 2 (.slice none 0 0) rfl
  have q3 := cbk r1.out 3 (.bool false) rfl
  have q4 := cbk r1.out 4 (.int .i64 0) rfl
  have q5 := cbk r1.out 5 (.bool false) rfl
  have q6 := cbk r1.out 6 (.bool false) rfl
  have q7 := cbk r1.out 7 (.bool false) rfl
  have q8 := cbk r1.out 8 (.int .i64 0) rfl
  have qf0 := frozen_blk r1.out 0
  have qf1 := frozen_blk r1.out 1
  have qf2 := frozen_blk r1.out 2
  have qf3 := frozen_blk r1.out 3
  have qf4 := frozen_blk r1.out 4
  have qf5 := frozen_blk r1.out 5
  have qf6 := frozen_blk r1.out 6
  have qf7 := frozen_blk r1.out 7
  have qf8 := frozen_blk r1.out 8
  have ql := blk_lt r1.out
  have u0 := cbk W1.out 0 (.int .i64 p.src) rfl
  have u1 := cbk W1.out 1 (.int .i64 p.rd) rfl
  have u2 := cbk W1.out 2 (.int .i64 p.words) rfl
  have u3 := cbk W1.out 3 (.int .i64 p.period) rfl
  have u4 := cbk W1.out 4 (.slice da dn dc) rfl
  have u5 := cbk W1.out 5 (.int .u32 x) rfl
  have u6 := cbk W1.out 6 (.int .u32 y) rfl
  have u7 := cbk W1.out 7 (.int .i64 (i : Int)) rfl
  have u8 := cbk W1.out 8 (.bool mk) rfl
  have u9 := cbk W1.out 9 (nx) rfl
  have ul := blk_lt W1.out
  go_wp2
  refine bodyPost_ret (v := .tuple #[.agg #[.bool false, .int .i64 0, .slice none 0 0, .bool false, .int .i64 0, .bool false, .bool false, .bool true, .int .i64 0], .func (.func 112) #[.pointer (some ⟨W, 0, none⟩)] #[]]) ?_ rfl ?_
  · refine (results_row_tmp (fn := Tryz.f109) (p := 6) (u := 7) (ty := 64) rfl _ _ w.heap.size 64 #[.bool false, .int .i64 0, .slice none 0 0, .bool false, .int .i64 0, .bool false, .bool false, .bool true, .int .i64 0] (0, 0) _ (by go_simp) ((blk_set (blk_set (blk_set (blk_set (blk_set (blk_set (blk_set (blk_set (blk_set r1.out 0 _) 1 _) 2 _) 3 _) 4 _) 5 _) 6 _) 7 _) 8 _).trans (by rfl)) Tryz.underlying64 rfl (by kernel_rfl)).trans ?_
    rfl
  · exact ⟨rfl, (blk_set_ne (p := ⟨w.heap.size, 8, none⟩) (blk_set_ne (p := ⟨w.heap.size, 7, none⟩) (blk_set_ne (p := ⟨w.heap.size, 6, none⟩) (blk_set_ne (p := ⟨w.heap.size, 5, none⟩) (blk_set_ne (p := ⟨w.heap.size, 4, none⟩) (blk_set_ne (p := ⟨w.heap.size, 3, none⟩) (blk_set_ne (p := ⟨w.heap.size, 2, none⟩) (blk_set_ne (p := ⟨w.heap.size, 1, none⟩) (blk_set_ne (p := ⟨w.heap.size, 0, none⟩) W1.out (by show W ≠ w.heap.size; omega) _) (by show W ≠ w.heap.size; omega) _) (by show W ≠ w.heap.size; omega) _) (by show W ≠ w.heap.size; omega) _) (by show W ≠ w.heap.size; omega) _) (by show W ≠ w.heap.size; omega) _) (by show W ≠ w.heap.size; omega) _) (by show W ≠ w.heap.size; omega) _) (by show W ≠ w.heap.size; omega) _), (MemAt.setne (MemAt.setne (MemAt.setne (MemAt.setne (MemAt.setne (MemAt.setne (MemAt.setne (MemAt.setne (MemAt.setne M1.out (p := ⟨w.heap.size, 0, none⟩) (by show B ≠ w.heap.size; omega) (by show D ≠ w.heap.size; omega) _) (p := ⟨w.heap.size, 1, none⟩) (by show B ≠ w.heap.size; omega) (by show D ≠ w.heap.size; omega) _) (p := ⟨w.heap.size, 2, none⟩) (by show B ≠ w.heap.size; omega) (by show D ≠ w.heap.size; omega) _) (p := ⟨w.heap.size, 3, none⟩) (by show B ≠ w.heap.size; omega) (by show D ≠ w.heap.size; omega) _) (p := ⟨w.heap.size, 4, none⟩) (by show B ≠ w.heap.size; omega) (by show D ≠ w.heap.size; omega) _) (p := ⟨w.heap.size, 5, none⟩) (by show B ≠ w.heap.size; omega) (by show D ≠ w.heap.size; omega) _) (p := ⟨w.heap.size, 6, none⟩) (by show B ≠ w.heap.size; omega) (by show D ≠ w.heap.size; omega) _) (p := ⟨w.heap.size, 7, none⟩) (by show B ≠ w.heap.size; omega) (by show D ≠ w.heap.size; omega) _) (p := ⟨w.heap.size, 8, none⟩) (by show B ≠ w.heap.size; omega) (by show D ≠ w.heap.size; omega) _), (ButS.set' (ButS.set' (ButS.set' (ButS.set' (ButS.set' (ButS.set' (ButS.set' (ButS.set' (ButS.set' HS1.out (p := ⟨w.heap.size, 0, none⟩) (.inr (Nat.le_refl _)) _) (p := ⟨w.heap.size, 1, none⟩) (.inr (Nat.le_refl _)) _) (p := ⟨w.heap.size, 2, none⟩) (.inr (Nat.le_refl _)) _) (p := ⟨w.heap.size, 3, none⟩) (.inr (Nat.le_refl _)) _) (p := ⟨w.heap.size, 4, none⟩) (.inr (Nat.le_refl _)) _) (p := ⟨w.heap.size, 5, none⟩) (.inr (Nat.le_refl _)) _) (p := ⟨w.heap.size, 6, none⟩) (.inr (Nat.le_refl _)) _) (p := ⟨w.heap.size, 7, none⟩) (.inr (Nat.le_refl _)) _) (p := ⟨w.heap.size, 8, none⟩) (.inr (Nat.le_refl _)) _)⟩
set_option maxRecDepth 100000 in
set_option maxHeartbeats 4000000 in
theorem wend_any (p : Plc) (hp : p.low) (W B D : Nat) (ws : List Int) (da : Option Addr) (dn dc : Nat) (x y : Int) (i : Nat) (mk : Bool) (nx : Value) (now : Int) (hi : p.In ws.length) (hws : Words ws) (hx : bit x) (w : World) (hW : w.heap[W]? = some (.cells #[.int .i64 p.src, .int .i64 p.rd, .int .i64 p.words, .int .i64 p.period, .slice da dn dc, .int .u32 x, .int .u32 y, .int .i64 (i : Int), .bool mk, nx] 117 (0, 0))) (h : MemAt w B D ws) : Calls Tryz.prog 119 #[.pointer (some ⟨W, 0, none⟩), .pointer (some ⟨B, 0, none⟩), .int .i64 now] w fun e w' =>
    e = .returned (.tuple #[.agg #[.bool true, .int .i64 0, .slice none 0 0, .bool false, .int .i64 0, .bool !mk, .bool false, .bool false, .int .i64 0], .nilFunc]) ∧ w'.heap[W]? = some (.cells #[.int .i64 p.src, .int .i64 p.rd, .int .i64 p.words, .int .i64 p.period, .slice da dn dc, .int .u32 x, .int .u32 y, .int .i64 (i : Int), .bool mk, nx] 117 (0, 0)) ∧ MemAt w' B D (stW ws p.src x) ∧ ButS [W, D] w w' := by
  have HM := Kp.mk h
  have HW := Kp.mk hW
  have lW := blk_lt hW
  have lD := blk_lt h.words
  have lB := blk_lt h.head
  have hWD : W ≠ D := by
    rintro rfl
    rw [h.words] at hW
    simp at hW
  have hWB : W ≠ B := by
    rintro rfl
    rw [h.head] at hW
    simp at hW
  have hBD := h.ne
  have hWr : W ≠ w.heap.size := by omega
  have hDr : D ≠ w.heap.size := by omega
  have hBr : B ≠ w.heap.size := by omega
  clear h hW
  have h1 := src_in hp hi
  clear hws
  go_enter Tryz.func119, Tryz.ntmps119
  have HB0 : Kp (Below w.heap.size w w) := ⟨Below.refl _ _⟩
  go_wp2_with fail
  have r1 : Kp ((w.alloc (.cells #[.bool false, .int .i64 0, .slice none 0 0, .bool false, .int .i64 0, .bool false, .bool false, .bool false, .int .i64 0] 64)).heap[w.heap.size]? = some (.cells #[.bool false, .int .i64 0, .slice none 0 0, .bool false, .int .i64 0, .bool false, .bool false, .bool false, .int .i64 0] 64 (0, 0))) := ⟨(blk_new _ _)⟩
  have HB1 : Kp (Below w.heap.size w (w.alloc (.cells #[.bool false, .int .i64 0, .slice none 0 0, .bool false, .int .i64 0, .bool false, .bool false, .bool false, .int .i64 0] 64))) := ⟨(below_al HB0.out _)⟩
  have W1 : Kp ((w.alloc (.cells #[.bool false, .int .i64 0, .slice none 0 0, .bool false, .int .i64 0, .bool false, .bool false, .bool false, .int .i64 0] 64)).heap[W]? = some (.cells #[.int .i64 p.src, .int .i64 p.rd, .int .i64 p.words, .int .i64 p.period, .slice da dn dc, .int .u32 x, .int .u32 y, .int .i64 (i : Int), .bool mk, nx] 117 (0, 0))) := ⟨(blk_al HW.out _)⟩
  have M1 : Kp (MemAt (w.alloc (.cells #[.bool false, .int .i64 0, .slice none 0 0, .bool false, .int .i64 0, .bool false, .bool false, .bool false, .int .i64 0] 64)) B D (ws)) := ⟨(HM.out.below (below_al (Below.refl _ _) _))⟩
  clear HB0 HW HM
  generalize (w.alloc (.cells #[.bool false, .int .i64 0, .slice none 0 0, .bool false, .int .i64 0, .bool false, .bool false, .bool false, .int .i64 0] 64)) = w1 at r1 HB1 W1 M1 ⊢
  have HS1 : Kp (ButS [W, D] w w1) := ⟨ButS.of_below HB1.out⟩
  have hsz0 : w.heap.size < w1.heap.size := blk_lt r1.out
  have c0 := cbk W1.out 0 (.int .i64 p.src) rfl
  have c1 := cbk W1.out 1 (.int .i64 p.rd) rfl
  have c2 := cbk W1.out 2 (.int .i64 p.words) rfl
  have c3 := cbk W1.out 3 (.int .i64 p.period) rfl
  have c4 := cbk W1.out 4 (.slice da dn dc) rfl
  have c5 := cbk W1.out 5 (.int .u32 x) rfl
  have c6 := cbk W1.out 6 (.int .u32 y) rfl
  have c7 := cbk W1.out 7 (.int .i64 (i : Int)) rfl
  have c8 := cbk W1.out 8 (.bool mk) rfl
  have c9 := cbk W1.out 9 (nx) rfl
  have cl := blk_lt W1.out
  refine held_start_gen (S := (fun w' : World => ButB (w1.heap.size) [D] w1 w' ∧ ∀ bb o, bb < w1.heap.size → bb ≠ D → w'.cell? ⟨bb, o, none⟩ = w1.cell? ⟨bb, o, none⟩)) (by kernel_rfl) (fun wz : World => Kp (ButS [W, D] w wz) ∧ Kp (wz.heap[W]? = some (.cells #[.int .i64 p.src, .int .i64 p.rd, .int .i64 p.words, .int .i64 p.period, .slice da dn dc, .int .u32 x, .int .u32 y, .int .i64 (i : Int), .bool mk, nx] 117 (0, 0))) ∧ Kp (MemAt wz B D (ws)) ∧ Kp (wz.heap[w.heap.size]? = some (.cells #[.bool false, .int .i64 0, .slice none 0 0, .bool false, .int .i64 0, .bool false, .bool false, .bool false, .int .i64 0] 64 (0, 0))) ∧ w1.heap.size ≤ wz.heap.size) ⟨⟨ButS.dr HS1.out⟩, ⟨blk_dr W1.out⟩, ⟨(M1.out.below (below_dr (Below.refl _ _)))⟩, ⟨blk_dr r1.out⟩, Nat.le_refl _⟩ (sx_of1 (ButB.dr (ButB.refl _ (by omega)))) (fun wd0 hRn hHeld => ?_)
  clear HS1 W1 M1 r1
  obtain ⟨HS1, W1, M1, r1, hsz⟩ := hRn
  refine wtk 0 ?_ rfl (.inl ⟨by rfl, ?_⟩) ?_
  rotate_left 1
  · (intro w hSw; go_simp; try with_reducible rfl)
  try simp only [Act.put, ls0, ls1, ls2]
  refine wtk 1 ?_ rfl (.inl ⟨by rfl, ?_⟩) ?_
  rotate_left 1
  · (intro w hSw; go_simp; try with_reducible rfl)
  try simp only [Act.put, ls0, ls1, ls2]
  refine wtk 2 ?_ rfl (.inl ⟨by rfl, ?_⟩) ?_
  rotate_left 1
  · (intro w hSw; go_simp; try with_reducible rfl)
  try simp only [Act.put, ls0, ls1, ls2]
  refine wtk 3 ?_ rfl (.inl ⟨by rfl, ?_⟩) ?_
  rotate_left 1
  · (intro w hSw; go_simp; try with_reducible rfl)
  try simp only [Act.put, ls0, ls1, ls2]
  refine wtk 4 ?_ rfl (.inl ⟨by rfl, ?_⟩) ?_
  rotate_left 1
  · (intro w hSw; go_simp; try with_reducible rfl)
  try simp only [Act.put, ls0, ls1, ls2]
  refine wtk 5 ?_ rfl (.inl ⟨by rfl, ?_⟩) ?_
  rotate_left 1
  · (intro w hSw; go_simp; try with_reducible rfl)
  try simp only [Act.put, ls0, ls1, ls2]
  refine wtk 6 ?_ rfl (.inl ⟨by rfl, ?_⟩) ?_
  rotate_left 1
  · (intro w hSw; go_simp; try with_reducible rfl)
  try simp only [Act.put, ls0, ls1, ls2]
  refine wtk 7 ?_ rfl (.inl ⟨by rfl, ?_⟩) ?_
  rotate_left 1
  · (intro w hSw; go_simp; try with_reducible rfl)
  try simp only [Act.put, ls0, ls1, ls2]
  refine wtk 8 ?_ rfl (.inl ⟨by rfl, ?_⟩) ?_
  rotate_left 1
  · (intro w hSw; go_simp; try with_reducible rfl)
  try simp only [Act.put, ls0, ls1, ls2]
  refine wtk 9 ?_ rfl (.inl ⟨by rfl, ?_⟩) ?_
  rotate_left 1
  · (intro w hSw; go_simp; try with_reducible rfl)
  try simp only [Act.put, ls0, ls1, ls2]
  refine wrd [10] ?_
  refine (arc rfl (fun K hK => ?_) arn)
  go_simp
  go_at_call 100
  refine (fstore_any B D (ws) (p.src) (x) h1.1 h1.2 _ M1.out).mono ?_
  rintro e w9 ⟨⟨rr, rfl⟩, rfl⟩
  try go_wp2_with fail
  refine out_gen hK _ _ (fun wz : World => Kp (ButS [W, D] w wz) ∧ Kp (wz.heap[W]? = some (.cells #[.int .i64 p.src, .int .i64 p.rd, .int .i64 p.words, .int .i64 p.period, .slice da dn dc, .int .u32 x, .int .u32 y, .int .i64 (i : Int), .bool mk, nx] 117 (0, 0))) ∧ Kp (MemAt wz B D (stW (ws) (p.src) (x))) ∧ Kp (wz.heap[w.heap.size]? = some (.cells #[.bool false, .int .i64 0, .slice none 0 0, .bool false, .int .i64 0, .bool false, .bool false, .bool false, .int .i64 0] 64 (0, 0))) ∧ wd0.heap.size ≤ wz.heap.size) ⟨⟨ButS.set' HS1.out (p := ⟨D, (p.src).toNat, none⟩) (by first | (left; simp; done) | (right; show _ ≤ D; omega)) _⟩, ⟨blk_set_ne (p := ⟨D, (p.src).toNat, none⟩) W1.out (by show W ≠ D; omega) _⟩, ⟨MemAt.st M1.out _ _⟩, ⟨blk_set_ne (p := ⟨D, (p.src).toNat, none⟩) r1.out (by show w.heap.size ≠ D; omega) _⟩, (by simp [World.setCell])⟩ (sx_of1 (ButB.set (And.left hHeld) (p := ⟨D, (p.src).toNat, none⟩) (by first | (left; simp; done) | (right; show _ ≤ D; omega)) _)) (fun wd1 hRn hHn => ?_)
  clear hK K hHeld HS1 W1 M1 r1
  obtain ⟨HS1, W1, M1, r1, hsz1⟩ := hRn
  have hHeld := hHn
  clear hHn
  try simp only [Act.put, ls0, ls1, ls2]
  refine wpAnyH_done (by kernel_rfl) ?_ _
  clear c0 c1 c2 c3 c4 c5 c6 c7 c8 c9 cl
  have q0 := cbk r1.out 0 (.bool false) rfl
  have q1 := cbk r1.out 1 (.int .i64 0) rfl
  have q2 := cbk r1.out 2 (.slice none 0 0) rfl
  have q3 := cbk r1.out 3 (.bool false) rfl
  have q4 := cbk r1.out 4 (.int .i64 0) rfl
  have q5 := cbk r1.out 5 (.bool false) rfl
  have q6 := cbk r1.out 6 (.bool false) rfl
  have q7 := cbk r1.out 7 (.bool false) rfl
  have q8 := cbk r1.out 8 (.int .i64 0) rfl
  have qf0 := frozen_blk r1.out 0
  have qf1 := frozen_blk r1.out 1
  have qf2 := frozen_blk r1.out 2
  have qf3 := frozen_blk r1.out 3
  have qf4 := frozen_blk r1.out 4
  have qf5 := frozen_blk r1.out 5
  have qf6 := frozen_blk r1.out 6
  have qf7 := frozen_blk r1.out 7
  have qf8 := frozen_blk r1.out 8
  have ql := blk_lt r1.out
  have u0 := cbk W1.out 0 (.int .i64 p.src) rfl
  have u1 := cbk W1.out 1 (.int .i64 p.rd) rfl
  have u2 := cbk W1.out 2 (.int .i64 p.words) rfl
  have u3 := cbk W1.out 3 (.int .i64 p.period) rfl
  have u4 := cbk W1.out 4 (.slice da dn dc) rfl
  have u5 := cbk W1.out 5 (.int .u32 x) rfl
  have u6 := cbk W1.out 6 (.int .u32 y) rfl
  have u7 := cbk W1.out 7 (.int .i64 (i : Int)) rfl
  have u8 := cbk W1.out 8 (.bool mk) rfl
  have u9 := cbk W1.out 9 (nx) rfl
  have ul := blk_lt W1.out
  go_wp2
  refine bodyPost_ret (v := .tuple #[.agg #[.bool true, .int .i64 0, .slice none 0 0, .bool false, .int .i64 0, .bool !mk, .bool false, .bool false, .int .i64 0], .nilFunc]) ?_ rfl ?_
  · refine (results_row_tmp (fn := Tryz.f119) (p := 6) (u := 7) (ty := 64) rfl _ _ w.heap.size 64 #[.bool true, .int .i64 0, .slice none 0 0, .bool false, .int .i64 0, .bool !mk, .bool false, .bool false, .int .i64 0] (0, 0) _ (by go_simp) ((blk_set (blk_set (blk_set (blk_set (blk_set (blk_set (blk_set (blk_set (blk_set r1.out 0 _) 1 _) 2 _) 3 _) 4 _) 5 _) 6 _) 7 _) 8 _).trans (by rfl)) Tryz.underlying64 rfl (by kernel_rfl)).trans ?_
    rfl
  · exact ⟨rfl, (blk_set_ne (p := ⟨w.heap.size, 8, none⟩) (blk_set_ne (p := ⟨w.heap.size, 7, none⟩) (blk_set_ne (p := ⟨w.heap.size, 6, none⟩) (blk_set_ne (p := ⟨w.heap.size, 5, none⟩) (blk_set_ne (p := ⟨w.heap.size, 4, none⟩) (blk_set_ne (p := ⟨w.heap.size, 3, none⟩) (blk_set_ne (p := ⟨w.heap.size, 2, none⟩) (blk_set_ne (p := ⟨w.heap.size, 1, none⟩) (blk_set_ne (p := ⟨w.heap.size, 0, none⟩) W1.out (by show W ≠ w.heap.size; omega) _) (by show W ≠ w.heap.size; omega) _) (by show W ≠ w.heap.size; omega) _) (by show W ≠ w.heap.size; omega) _) (by show W ≠ w.heap.size; omega) _) (by show W ≠ w.heap.size; omega) _) (by show W ≠ w.heap.size; omega) _) (by show W ≠ w.heap.size; omega) _) (by show W ≠ w.heap.size; omega) _), (MemAt.setne (MemAt.setne (MemAt.setne (MemAt.setne (MemAt.setne (MemAt.setne (MemAt.setne (MemAt.setne (MemAt.setne M1.out (p := ⟨w.heap.size, 0, none⟩) (by show B ≠ w.heap.size; omega) (by show D ≠ w.heap.size; omega) _) (p := ⟨w.heap.size, 1, none⟩) (by show B ≠ w.heap.size; omega) (by show D ≠ w.heap.size; omega) _) (p := ⟨w.heap.size, 2, none⟩) (by show B ≠ w.heap.size; omega) (by show D ≠ w.heap.size; omega) _) (p := ⟨w.heap.size, 3, none⟩) (by show B ≠ w.heap.size; omega) (by show D ≠ w.heap.size; omega) _) (p := ⟨w.heap.size, 4, none⟩) (by show B ≠ w.heap.size; omega) (by show D ≠ w.heap.size; omega) _) (p := ⟨w.heap.size, 5, none⟩) (by show B ≠ w.heap.size; omega) (by show D ≠ w.heap.size; omega) _) (p := ⟨w.heap.size, 6, none⟩) (by show B ≠ w.heap.size; omega) (by show D ≠ w.heap.size; omega) _) (p := ⟨w.heap.size, 7, none⟩) (by show B ≠ w.heap.size; omega) (by show D ≠ w.heap.size; omega) _) (p := ⟨w.heap.size, 8, none⟩) (by show B ≠ w.heap.size; omega) (by show D ≠ w.heap.size; omega) _), (ButS.set' (ButS.set' (ButS.set' (ButS.set' (ButS.set' (ButS.set' (ButS.set' (ButS.set' (ButS.set' HS1.out (p := ⟨w.heap.size, 0, none⟩) (.inr (Nat.le_refl _)) _) (p := ⟨w.heap.size, 1, none⟩) (.inr (Nat.le_refl _)) _) (p := ⟨w.heap.size, 2, none⟩) (.inr (Nat.le_refl _)) _) (p := ⟨w.heap.size, 3, none⟩) (.inr (Nat.le_refl _)) _) (p := ⟨w.heap.size, 4, none⟩) (.inr (Nat.le_refl _)) _) (p := ⟨w.heap.size, 5, none⟩) (.inr (Nat.le_refl _)) _) (p := ⟨w.heap.size, 6, none⟩) (.inr (Nat.le_refl _)) _) (p := ⟨w.heap.size, 7, none⟩) (.inr (Nat.le_refl _)) _) (p := ⟨w.heap.size, 8, none⟩) (.inr (Nat.le_refl _)) _)⟩
set_option maxRecDepth 100000 in
set_option maxHeartbeats 4000000 in
theorem show_any (p : Plc) (hp : p.low) (W B D : Nat) (ws : List Int) (da : Option Addr) (dn dc : Nat) (x y : Int) (i : Nat) (mk : Bool) (nx : Value) (now : Int) (hi : p.In ws.length) (hws : Words ws) (hx : bit x) (w : World) (hW : w.heap[W]? = some (.cells #[.int .i64 p.src, .int .i64 p.rd, .int .i64 p.words, .int .i64 p.period, .slice da dn dc, .int .u32 x, .int .u32 y, .int .i64 (i : Int), .bool mk, nx] 117 (0, 0))) (h : MemAt w B D ws) : Calls Tryz.prog 115 #[.pointer (some ⟨W, 0, none⟩), .pointer (some ⟨B, 0, none⟩), .int .i64 now] w fun e w' =>
    e = .returned (.tuple #[.agg #[.bool false, .int .i64 0, .slice none 0 0, .bool false, .int .i64 0, .bool (decide (ldW ws p.src % 2 = x)), .bool false, .bool false, .int .i64 0], .func (.func 119) #[.pointer (some ⟨W, 0, none⟩)] #[]]) ∧ w'.heap[W]? = some (.cells #[.int .i64 p.src, .int .i64 p.rd, .int .i64 p.words, .int .i64 p.period, .slice da dn dc, .int .u32 x, .int .u32 y, .int .i64 (i : Int), .bool (decide (ldW ws p.src % 2 = x)), nx] 117 (0, 0)) ∧ MemAt w' B D (stW ws (p.slot x) y) ∧ ButS [W, D] w w' := by
  have HM := Kp.mk h
  have HW := Kp.mk hW
  have lW := blk_lt hW
  have lD := blk_lt h.words
  have lB := blk_lt h.head
  have hWD : W ≠ D := by
    rintro rfl
    rw [h.words] at hW
    simp at hW
  have hWB : W ≠ B := by
    rintro rfl
    rw [h.head] at hW
    simp at hW
  have hBD := h.ne
  have hWr : W ≠ w.heap.size := by omega
  have hDr : D ≠ w.heap.size := by omega
  have hBr : B ≠ w.heap.size := by omega
  clear h hW
  obtain ⟨v, hv⟩ : ∃ v, ldW ws (p.src) = v := ⟨_, rfl⟩
  have hvw := ldW_word hws (p.src)
  rw [hv] at hvw ⊢
  have HV := Kp.mk hv
  have hb1 := and_one_u32 v hvw.1 hvw.2
  have hb2 : (1 - v % 2) % 4294967296 = 1 - v % 2 := by omega
  have hb3 : IntKind.u32.wrap (1 - v % 2) = 1 - v % 2 := IntWalk.u32_in _ (by omega)
  clear hv hvw
  have h1 := src_in hp hi
  have h2 := slot_in hp hi x hx
  obtain ⟨bb, hbb⟩ : ∃ bb, decide (v % 2 = x) = bb := ⟨_, rfl⟩
  have hbb2 : (v % 2 == x) = bb := by rw [← hbb]; rfl
  rw [hbb]
  clear hws
  go_enter Tryz.func115, Tryz.ntmps115
  have HB0 : Kp (Below w.heap.size w w) := ⟨Below.refl _ _⟩
  go_wp2_with fail
  have r1 : Kp ((w.alloc (.cells #[.bool false, .int .i64 0, .slice none 0 0, .bool false, .int .i64 0, .bool false, .bool false, .bool false, .int .i64 0] 64)).heap[w.heap.size]? = some (.cells #[.bool false, .int .i64 0, .slice none 0 0, .bool false, .int .i64 0, .bool false, .bool false, .bool false, .int .i64 0] 64 (0, 0))) := ⟨(blk_new _ _)⟩
  have HB1 : Kp (Below w.heap.size w (w.alloc (.cells #[.bool false, .int .i64 0, .slice none 0 0, .bool false, .int .i64 0, .bool false, .bool false, .bool false, .int .i64 0] 64))) := ⟨(below_al HB0.out _)⟩
  have W1 : Kp ((w.alloc (.cells #[.bool false, .int .i64 0, .slice none 0 0, .bool false, .int .i64 0, .bool false, .bool false, .bool false, .int .i64 0] 64)).heap[W]? = some (.cells #[.int .i64 p.src, .int .i64 p.rd, .int .i64 p.words, .int .i64 p.period, .slice da dn dc, .int .u32 x, .int .u32 y, .int .i64 (i : Int), .bool mk, nx] 117 (0, 0))) := ⟨(blk_al HW.out _)⟩
  have M1 : Kp (MemAt (w.alloc (.cells #[.bool false, .int .i64 0, .slice none 0 0, .bool false, .int .i64 0, .bool false, .bool false, .bool false, .int .i64 0] 64)) B D (ws)) := ⟨(HM.out.below (below_al (Below.refl _ _) _))⟩
  clear HB0 HW HM
  generalize (w.alloc (.cells #[.bool false, .int .i64 0, .slice none 0 0, .bool false, .int .i64 0, .bool false, .bool false, .bool false, .int .i64 0] 64)) = w1 at r1 HB1 W1 M1 ⊢
  have HS1 : Kp (ButS [W, D] w w1) := ⟨ButS.of_below HB1.out⟩
  have hsz0 : w.heap.size < w1.heap.size := blk_lt r1.out
  have c0 := cbk W1.out 0 (.int .i64 p.src) rfl
  have c1 := cbk W1.out 1 (.int .i64 p.rd) rfl
  have c2 := cbk W1.out 2 (.int .i64 p.words) rfl
  have c3 := cbk W1.out 3 (.int .i64 p.period) rfl
  have c4 := cbk W1.out 4 (.slice da dn dc) rfl
  have c5 := cbk W1.out 5 (.int .u32 x) rfl
  have c6 := cbk W1.out 6 (.int .u32 y) rfl
  have c7 := cbk W1.out 7 (.int .i64 (i : Int)) rfl
  have c8 := cbk W1.out 8 (.bool mk) rfl
  have c9 := cbk W1.out 9 (nx) rfl
  have cl := blk_lt W1.out
  have HX0 : Kp (w1.heap[W]? = some (.cells #[.int .i64 p.src, .int .i64 p.rd, .int .i64 p.words, .int .i64 p.period, .slice da dn dc, .int .u32 x, .int .u32 y, .int .i64 (i : Int), .bool mk, nx] 117 (0, 0))) := ⟨W1.out⟩
  refine held_start_gen (S := (fun w' : World => ButB (w1.heap.size) [W] w1 w' ∧ (∀ bb o, bb < w1.heap.size → bb ≠ W → w'.cell? ⟨bb, o, none⟩ = w1.cell? ⟨bb, o, none⟩) ∧ ∀ o, o ≠ 8 → w'.cell? ⟨W, o, none⟩ = w1.cell? ⟨W, o, none⟩)) (by kernel_rfl) (fun wz : World => Kp (ButS [W, D] w wz) ∧ Kp (wz.heap[W]? = some (.cells #[.int .i64 p.src, .int .i64 p.rd, .int .i64 p.words, .int .i64 p.period, .slice da dn dc, .int .u32 x, .int .u32 y, .int .i64 (i : Int), .bool mk, nx] 117 (0, 0))) ∧ Kp (MemAt wz B D (ws)) ∧ Kp (wz.heap[w.heap.size]? = some (.cells #[.bool false, .int .i64 0, .slice none 0 0, .bool false, .int .i64 0, .bool false, .bool false, .bool false, .int .i64 0] 64 (0, 0))) ∧ w1.heap.size ≤ wz.heap.size) ⟨⟨ButS.dr HS1.out⟩, ⟨blk_dr W1.out⟩, ⟨(M1.out.below (below_dr (Below.refl _ _)))⟩, ⟨blk_dr r1.out⟩, Nat.le_refl _⟩ (sx3 (sx_of1 (ButB.dr (ButB.refl _ (by omega)))) (xc_of HX0.out (blk_dr W1.out) 8 (fun _ _ => rfl))) (fun wd0 hRn hHeld => ?_)
  clear HS1 W1 M1 r1
  obtain ⟨HS1, W1, M1, r1, hsz⟩ := hRn
  refine wtk 0 ?_ rfl (.inl ⟨by rfl, ?_⟩) ?_
  rotate_left 1
  · (intro w hSw; go_simp; try with_reducible rfl)
  try simp only [Act.put, ls0, ls1, ls2]
  refine wtk 1 ?_ rfl (.inl ⟨by rfl, ?_⟩) ?_
  rotate_left 1
  · (intro w hSw; go_simp; try with_reducible rfl)
  try simp only [Act.put, ls0, ls1, ls2]
  refine wtk 2 ?_ rfl (.inl ⟨by rfl, ?_⟩) ?_
  rotate_left 1
  · (intro w hSw; go_simp; try with_reducible rfl)
  try simp only [Act.put, ls0, ls1, ls2]
  refine wtk 3 ?_ rfl (.inl ⟨by rfl, ?_⟩) ?_
  rotate_left 1
  · (intro w hSw; go_simp; try with_reducible rfl)
  try simp only [Act.put, ls0, ls1, ls2]
  refine wtk 4 ?_ rfl (.inl ⟨by rfl, ?_⟩) ?_
  rotate_left 1
  · (intro w hSw; go_simp; try with_reducible rfl)
  try simp only [Act.put, ls0, ls1, ls2]
  refine wtk 5 ?_ rfl (.inl ⟨by rfl, ?_⟩) ?_
  rotate_left 1
  · (intro w hSw; go_simp; try with_reducible rfl)
  try simp only [Act.put, ls0, ls1, ls2]
  refine wtk 6 ?_ rfl (.inl ⟨by rfl, ?_⟩) ?_
  rotate_left 1
  · (intro w hSw; go_simp; try with_reducible rfl)
  try simp only [Act.put, ls0, ls1, ls2]
  refine wtk 9 ?_ rfl (.inl ⟨by rfl, ?_⟩) ?_
  rotate_left 1
  · (intro w hSw; go_simp; try with_reducible rfl)
  try simp only [Act.put, ls0, ls1, ls2]
  refine wtk 10 ?_ rfl (.inl ⟨by rfl, ?_⟩) ?_
  rotate_left 1
  · (intro w hSw; go_simp; try with_reducible rfl)
  try simp only [Act.put, ls0, ls1, ls2]
  refine wtk 11 ?_ rfl (.inl ⟨by rfl, ?_⟩) ?_
  rotate_left 1
  · (intro w hSw; go_simp; try with_reducible rfl)
  try simp only [Act.put, ls0, ls1, ls2]
  refine wtk 12 ?_ rfl (.inl ⟨by rfl, ?_⟩) ?_
  rotate_left 1
  · (intro w hSw; go_simp; try with_reducible rfl)
  try simp only [Act.put, ls0, ls1, ls2]
  refine wrd [7] ?_
  refine (arc rfl (fun K hK => ?_) arn)
  go_simp
  go_at_call 83
  refine (fload_any B D ws (p.src) h1.1 h1.2 _ M1.out).mono ?_
  rw [HV.out]
  rintro e w9 ⟨rfl, hw9⟩
  have hw8 := hw9.symm
  clear hw9
  subst hw8
  have hb : Below wd0.heap.size wd0 wd0 := Below.refl _ _
  try go_wp2_with fail
  refine out_gen hK _ _ (fun wz : World => Kp (ButS [W, D] w wz) ∧ Kp (wz.heap[W]? = some (.cells #[.int .i64 p.src, .int .i64 p.rd, .int .i64 p.words, .int .i64 p.period, .slice da dn dc, .int .u32 x, .int .u32 y, .int .i64 (i : Int), .bool mk, nx] 117 (0, 0))) ∧ Kp (MemAt wz B D (ws)) ∧ Kp (wz.heap[w.heap.size]? = some (.cells #[.bool false, .int .i64 0, .slice none 0 0, .bool false, .int .i64 0, .bool false, .bool false, .bool false, .int .i64 0] 64 (0, 0))) ∧ wd0.heap.size ≤ wz.heap.size) ⟨⟨ButS.trans HS1.out (ButS.of_below hb)⟩, ⟨blk_below W1.out hb⟩, ⟨(M1.out.below hb)⟩, ⟨blk_below r1.out hb⟩, hb.size⟩ (sx3 (sx_of1 (ButB.call (And.left hHeld) hb)) (xc_of HX0.out (blk_below W1.out hb) 8 (fun _ _ => rfl))) (fun wd1 hRn hHn => ?_)
  clear hK K hHeld HS1 W1 M1 r1 hb
  obtain ⟨HS1, W1, M1, r1, hsz1⟩ := hRn
  have hHeld := hHn
  clear hHn
  try simp only [Act.put, ls0, ls1, ls2]
  refine wtk 8 ?_ rfl (.inl ⟨by rfl, ?_⟩) ?_
  rotate_left 1
  · (intro w hSw; go_simp; try with_reducible rfl)
  try simp only [Act.put, ls0, ls1, ls2]
  refine wtk 13 ?_ rfl (.inl ⟨by rfl, ?_⟩) ?_
  rotate_left 1
  · (intro w hSw; go_simp; try with_reducible rfl)
  try simp only [Act.put, ls0, ls1, ls2]
  refine wtk 14 ?_ rfl (.inl ⟨by rfl, ?_⟩) ?_
  rotate_left 1
  · (intro w hSw; go_simp; try with_reducible rfl)
  try simp only [Act.put, ls0, ls1, ls2]
  refine wtk 15 ?_ rfl (.inl ⟨by rfl, ?_⟩) ?_
  rotate_left 1
  · (intro w hSw; go_simp; try with_reducible rfl)
  try simp only [Act.put, ls0, ls1, ls2]
  refine wrd [16] ?_
  refine (arc rfl (fun K hK => ?_) arn)
  have sd := cbk W1.out 8 (.bool mk) rfl
  have sf := frozen_blk W1.out 8
  have sl := blk_lt W1.out
  go_simp
  try go_wp2_with fail
  refine out_gen hK _ _ (fun wz : World => Kp (ButS [W, D] w wz) ∧ Kp (wz.heap[W]? = some (.cells #[.int .i64 p.src, .int .i64 p.rd, .int .i64 p.words, .int .i64 p.period, .slice da dn dc, .int .u32 x, .int .u32 y, .int .i64 (i : Int), .bool bb, nx] 117 (0, 0))) ∧ Kp (MemAt wz B D (ws)) ∧ Kp (wz.heap[w.heap.size]? = some (.cells #[.bool false, .int .i64 0, .slice none 0 0, .bool false, .int .i64 0, .bool false, .bool false, .bool false, .int .i64 0] 64 (0, 0))) ∧ wd1.heap.size ≤ wz.heap.size) ⟨⟨ButS.set' HS1.out (p := ⟨W, 8, none⟩) (by first | (left; simp; done) | (right; show _ ≤ W; omega)) _⟩, ⟨(blk_set W1.out 8 _).trans rfl⟩, ⟨MemAt.setne M1.out (p := ⟨W, 8, none⟩) (by show B ≠ W; omega) (by show D ≠ W; omega) _⟩, ⟨blk_set_ne (p := ⟨W, 8, none⟩) r1.out (by show w.heap.size ≠ W; omega) _⟩, (by simp [World.setCell])⟩ (sx3 (sx_of1 (ButB.set (And.left hHeld) (p := ⟨W, 8, none⟩) (by first | (left; simp; done) | (right; show _ ≤ W; omega)) _)) (xc_of HX0.out ((blk_set W1.out 8 _).trans rfl) 8 (xc_ne (cs := #[.int .i64 p.src, .int .i64 p.rd, .int .i64 p.words, .int .i64 p.period, .slice da dn dc, .int .u32 x, .int .u32 y, .int .i64 (i : Int), .bool mk, nx]) 8 (.bool bb)))) (fun wd2 hRn hHn => ?_)
  clear hK K hHeld HS1 W1 M1 r1 sd sf sl
  obtain ⟨HS1, W1, M1, r1, hsz2⟩ := hRn
  have hHeld := hHn
  clear hHn
  try simp only [Act.put, ls0, ls1, ls2]
  refine wpAnyH_done (by kernel_rfl) ?_ _
  clear HX0
  clear c0 c1 c2 c3 c4 c5 c6 c7 c8 c9 cl
  clear hHeld
  have c0 := cbk W1.out 0 (.int .i64 p.src) rfl
  have c1 := cbk W1.out 1 (.int .i64 p.rd) rfl
  have c2 := cbk W1.out 2 (.int .i64 p.words) rfl
  have c3 := cbk W1.out 3 (.int .i64 p.period) rfl
  have c4 := cbk W1.out 4 (.slice da dn dc) rfl
  have c5 := cbk W1.out 5 (.int .u32 x) rfl
  have c6 := cbk W1.out 6 (.int .u32 y) rfl
  have c7 := cbk W1.out 7 (.int .i64 (i : Int)) rfl
  have c8 := cbk W1.out 8 (.bool bb) rfl
  have c9 := cbk W1.out 9 (nx) rfl
  have cl := blk_lt W1.out
  go_wp2_with fail
  refine held_start_gen (S := (fun w' : World => ButB (wd2.heap.size) [D] wd2 w' ∧ ∀ bb o, bb < wd2.heap.size → bb ≠ D → w'.cell? ⟨bb, o, none⟩ = wd2.cell? ⟨bb, o, none⟩)) (by kernel_rfl) (fun wz : World => Kp (ButS [W, D] w wz) ∧ Kp (wz.heap[W]? = some (.cells #[.int .i64 p.src, .int .i64 p.rd, .int .i64 p.words, .int .i64 p.period, .slice da dn dc, .int .u32 x, .int .u32 y, .int .i64 (i : Int), .bool bb, nx] 117 (0, 0))) ∧ Kp (MemAt wz B D (ws)) ∧ Kp (wz.heap[w.heap.size]? = some (.cells #[.bool false, .int .i64 0, .slice none 0 0, .bool false, .int .i64 0, .bool false, .bool false, .bool false, .int .i64 0] 64 (0, 0))) ∧ wd2.heap.size ≤ wz.heap.size) ⟨⟨ButS.dr HS1.out⟩, ⟨blk_dr W1.out⟩, ⟨(M1.out.below (below_dr (Below.refl _ _)))⟩, ⟨blk_dr r1.out⟩, Nat.le_refl _⟩ (sx_of1 (ButB.dr (ButB.refl _ (by omega)))) (fun wd0 hRn hHeld => ?_)
  clear HS1 W1 M1 r1
  obtain ⟨HS1, W1, M1, r1, hsz⟩ := hRn
  refine wtk 0 ?_ rfl (.inl ⟨by rfl, ?_⟩) ?_
  rotate_left 1
  · (intro w hSw; go_simp; try with_reducible rfl)
  try simp only [Act.put, ls0, ls1, ls2]
  refine wtk 1 ?_ rfl (.inl ⟨by rfl, ?_⟩) ?_
  rotate_left 1
  · (intro w hSw; go_simp; try with_reducible rfl)
  try simp only [Act.put, ls0, ls1, ls2]
  refine wtk 2 ?_ rfl (.inl ⟨by rfl, ?_⟩) ?_
  rotate_left 1
  · (intro w hSw; go_simp; try with_reducible rfl)
  try simp only [Act.put, ls0, ls1, ls2]
  refine wtk 3 ?_ rfl (.inl ⟨by rfl, ?_⟩) ?_
  rotate_left 1
  · (intro w hSw; go_simp; try with_reducible rfl)
  try simp only [Act.put, ls0, ls1, ls2]
  refine wtk 4 ?_ rfl (.inl ⟨by rfl, ?_⟩) ?_
  rotate_left 1
  · (intro w hSw; go_simp; try with_reducible rfl)
  try simp only [Act.put, ls0, ls1, ls2]
  refine wtk 5 ?_ rfl (.inl ⟨by rfl, ?_⟩) ?_
  rotate_left 1
  · (intro w hSw; go_simp; try with_reducible rfl)
  try simp only [Act.put, ls0, ls1, ls2]
  refine wtk 6 ?_ rfl (.inl ⟨by rfl, ?_⟩) ?_
  rotate_left 1
  · (intro w hSw; go_simp; try with_reducible rfl)
  try simp only [Act.put, ls0, ls1, ls2]
  refine wtk 7 ?_ rfl (.inl ⟨by rfl, ?_⟩) ?_
  rotate_left 1
  · (intro w hSw; go_simp; try with_reducible rfl)
  try simp only [Act.put, ls0, ls1, ls2]
  refine wtk 8 ?_ rfl (.inl ⟨by rfl, ?_⟩) ?_
  rotate_left 1
  · (intro w hSw; go_simp; try with_reducible rfl)
  try simp only [Act.put, ls0, ls1, ls2]
  refine wtk 10 ?_ rfl (.inl ⟨by rfl, ?_⟩) ?_
  rotate_left 1
  · (intro w hSw; go_simp; try with_reducible rfl)
  try simp only [Act.put, ls0, ls1, ls2]
  refine wtk 11 ?_ rfl (.inl ⟨by rfl, ?_⟩) ?_
  rotate_left 1
  · (intro w hSw; go_simp; try with_reducible rfl)
  try simp only [Act.put, ls0, ls1, ls2]
  refine wtk 12 ?_ rfl (.inl ⟨by rfl, ?_⟩) ?_
  rotate_left 1
  · (intro w hSw; go_simp; try with_reducible rfl)
  try simp only [Act.put, ls0, ls1, ls2]
  refine wtk 13 ?_ rfl (.inl ⟨by rfl, ?_⟩) ?_
  rotate_left 1
  · (intro w hSw; go_simp; try with_reducible rfl)
  try simp only [Act.put, ls0, ls1, ls2]
  refine wrd [9] ?_
  refine (arc rfl (fun K hK => ?_) arn)
  go_simp
  go_at_call 98
  refine (slot_any p hp x hx _).mono ?_
  rintro e w9 ⟨rfl, hb⟩
  try go_wp2_with fail
  refine out_gen hK _ _ (fun wz : World => Kp (ButS [W, D] w wz) ∧ Kp (wz.heap[W]? = some (.cells #[.int .i64 p.src, .int .i64 p.rd, .int .i64 p.words, .int .i64 p.period, .slice da dn dc, .int .u32 x, .int .u32 y, .int .i64 (i : Int), .bool bb, nx] 117 (0, 0))) ∧ Kp (MemAt wz B D (ws)) ∧ Kp (wz.heap[w.heap.size]? = some (.cells #[.bool false, .int .i64 0, .slice none 0 0, .bool false, .int .i64 0, .bool false, .bool false, .bool false, .int .i64 0] 64 (0, 0))) ∧ wd0.heap.size ≤ wz.heap.size) ⟨⟨ButS.trans HS1.out (ButS.of_below hb)⟩, ⟨blk_below W1.out hb⟩, ⟨(M1.out.below hb)⟩, ⟨blk_below r1.out hb⟩, hb.size⟩ (sx_of1 (ButB.call (And.left hHeld) hb)) (fun wd1 hRn hHn => ?_)
  clear hK K hHeld HS1 W1 M1 r1 hb
  obtain ⟨HS1, W1, M1, r1, hsz1⟩ := hRn
  have hHeld := hHn
  clear hHn
  try simp only [Act.put, ls0, ls1, ls2]
  refine wrd [14] ?_
  refine (arc rfl (fun K hK => ?_) arn)
  go_simp
  go_at_call 100
  refine (fstore_any B D (ws) (p.slot x) (y) h2.1 h2.2 _ M1.out).mono ?_
  rintro e w9 ⟨⟨rr, rfl⟩, rfl⟩
  try go_wp2_with fail
  refine out_gen hK _ _ (fun wz : World => Kp (ButS [W, D] w wz) ∧ Kp (wz.heap[W]? = some (.cells #[.int .i64 p.src, .int .i64 p.rd, .int .i64 p.words, .int .i64 p.period, .slice da dn dc, .int .u32 x, .int .u32 y, .int .i64 (i : Int), .bool bb, nx] 117 (0, 0))) ∧ Kp (MemAt wz B D (stW (ws) (p.slot x) (y))) ∧ Kp (wz.heap[w.heap.size]? = some (.cells #[.bool false, .int .i64 0, .slice none 0 0, .bool false, .int .i64 0, .bool false, .bool false, .bool false, .int .i64 0] 64 (0, 0))) ∧ wd1.heap.size ≤ wz.heap.size) ⟨⟨ButS.set' HS1.out (p := ⟨D, (p.slot x).toNat, none⟩) (by first | (left; simp; done) | (right; show _ ≤ D; omega)) _⟩, ⟨blk_set_ne (p := ⟨D, (p.slot x).toNat, none⟩) W1.out (by show W ≠ D; omega) _⟩, ⟨MemAt.st M1.out _ _⟩, ⟨blk_set_ne (p := ⟨D, (p.slot x).toNat, none⟩) r1.out (by show w.heap.size ≠ D; omega) _⟩, (by simp [World.setCell])⟩ (sx_of1 (ButB.set (And.left hHeld) (p := ⟨D, (p.slot x).toNat, none⟩) (by first | (left; simp; done) | (right; show _ ≤ D; omega)) _)) (fun wd2 hRn hHn => ?_)
  clear hK K hHeld HS1 W1 M1 r1
  obtain ⟨HS1, W1, M1, r1, hsz2⟩ := hRn
  have hHeld := hHn
  clear hHn
  try simp only [Act.put, ls0, ls1, ls2]
  refine wpAnyH_done (by kernel_rfl) ?_ _
  clear c0 c1 c2 c3 c4 c5 c6 c7 c8 c9 cl
  have q0 := cbk r1.out 0 (.bool false) rfl
  have q1 := cbk r1.out 1 (.int .i64 0) rfl
  have q2 := cbk r1.out 2 (.slice none 0 0) rfl
  have q3 := cbk r1.out 3 (.bool false) rfl
  have q4 := cbk r1.out 4 (.int .i64 0) rfl
  have q5 := cbk r1.out 5 (.bool false) rfl
  have q6 := cbk r1.out 6 (.bool false) rfl
  have q7 := cbk r1.out 7 (.bool false) rfl
  have q8 := cbk r1.out 8 (.int .i64 0) rfl
  have qf0 := frozen_blk r1.out 0
  have qf1 := frozen_blk r1.out 1
  have qf2 := frozen_blk r1.out 2
  have qf3 := frozen_blk r1.out 3
  have qf4 := frozen_blk r1.out 4
  have qf5 := frozen_blk r1.out 5
  have qf6 := frozen_blk r1.out 6
  have qf7 := frozen_blk r1.out 7
  have qf8 := frozen_blk r1.out 8
  have ql := blk_lt r1.out
  have u0 := cbk W1.out 0 (.int .i64 p.src) rfl
  have u1 := cbk W1.out 1 (.int .i64 p.rd) rfl
  have u2 := cbk W1.out 2 (.int .i64 p.words) rfl
  have u3 := cbk W1.out 3 (.int .i64 p.period) rfl
  have u4 := cbk W1.out 4 (.slice da dn dc) rfl
  have u5 := cbk W1.out 5 (.int .u32 x) rfl
  have u6 := cbk W1.out 6 (.int .u32 y) rfl
  have u7 := cbk W1.out 7 (.int .i64 (i : Int)) rfl
  have u8 := cbk W1.out 8 (.bool bb) rfl
  have u9 := cbk W1.out 9 (nx) rfl
  have ul := blk_lt W1.out
  go_wp2
  refine bodyPost_ret (v := .tuple #[.agg #[.bool false, .int .i64 0, .slice none 0 0, .bool false, .int .i64 0, .bool bb, .bool false, .bool false, .int .i64 0], .func (.func 119) #[.pointer (some ⟨W, 0, none⟩)] #[]]) ?_ rfl ?_
  · refine (results_row_tmp (fn := Tryz.f115) (p := 6) (u := 7) (ty := 64) rfl _ _ w.heap.size 64 #[.bool false, .int .i64 0, .slice none 0 0, .bool false, .int .i64 0, .bool bb, .bool false, .bool false, .int .i64 0] (0, 0) _ (by go_simp) ((blk_set (blk_set (blk_set (blk_set (blk_set (blk_set (blk_set (blk_set (blk_set r1.out 0 _) 1 _) 2 _) 3 _) 4 _) 5 _) 6 _) 7 _) 8 _).trans (by rfl)) Tryz.underlying64 rfl (by kernel_rfl)).trans ?_
    rfl
  · exact ⟨rfl, (blk_set_ne (p := ⟨w.heap.size, 8, none⟩) (blk_set_ne (p := ⟨w.heap.size, 7, none⟩) (blk_set_ne (p := ⟨w.heap.size, 6, none⟩) (blk_set_ne (p := ⟨w.heap.size, 5, none⟩) (blk_set_ne (p := ⟨w.heap.size, 4, none⟩) (blk_set_ne (p := ⟨w.heap.size, 3, none⟩) (blk_set_ne (p := ⟨w.heap.size, 2, none⟩) (blk_set_ne (p := ⟨w.heap.size, 1, none⟩) (blk_set_ne (p := ⟨w.heap.size, 0, none⟩) W1.out (by show W ≠ w.heap.size; omega) _) (by show W ≠ w.heap.size; omega) _) (by show W ≠ w.heap.size; omega) _) (by show W ≠ w.heap.size; omega) _) (by show W ≠ w.heap.size; omega) _) (by show W ≠ w.heap.size; omega) _) (by show W ≠ w.heap.size; omega) _) (by show W ≠ w.heap.size; omega) _) (by show W ≠ w.heap.size; omega) _), (MemAt.setne (MemAt.setne (MemAt.setne (MemAt.setne (MemAt.setne (MemAt.setne (MemAt.setne (MemAt.setne (MemAt.setne M1.out (p := ⟨w.heap.size, 0, none⟩) (by show B ≠ w.heap.size; omega) (by show D ≠ w.heap.size; omega) _) (p := ⟨w.heap.size, 1, none⟩) (by show B ≠ w.heap.size; omega) (by show D ≠ w.heap.size; omega) _) (p := ⟨w.heap.size, 2, none⟩) (by show B ≠ w.heap.size; omega) (by show D ≠ w.heap.size; omega) _) (p := ⟨w.heap.size, 3, none⟩) (by show B ≠ w.heap.size; omega) (by show D ≠ w.heap.size; omega) _) (p := ⟨w.heap.size, 4, none⟩) (by show B ≠ w.heap.size; omega) (by show D ≠ w.heap.size; omega) _) (p := ⟨w.heap.size, 5, none⟩) (by show B ≠ w.heap.size; omega) (by show D ≠ w.heap.size; omega) _) (p := ⟨w.heap.size, 6, none⟩) (by show B ≠ w.heap.size; omega) (by show D ≠ w.heap.size; omega) _) (p := ⟨w.heap.size, 7, none⟩) (by show B ≠ w.heap.size; omega) (by show D ≠ w.heap.size; omega) _) (p := ⟨w.heap.size, 8, none⟩) (by show B ≠ w.heap.size; omega) (by show D ≠ w.heap.size; omega) _), (ButS.set' (ButS.set' (ButS.set' (ButS.set' (ButS.set' (ButS.set' (ButS.set' (ButS.set' (ButS.set' HS1.out (p := ⟨w.heap.size, 0, none⟩) (.inr (Nat.le_refl _)) _) (p := ⟨w.heap.size, 1, none⟩) (.inr (Nat.le_refl _)) _) (p := ⟨w.heap.size, 2, none⟩) (.inr (Nat.le_refl _)) _) (p := ⟨w.heap.size, 3, none⟩) (.inr (Nat.le_refl _)) _) (p := ⟨w.heap.size, 4, none⟩) (.inr (Nat.le_refl _)) _) (p := ⟨w.heap.size, 5, none⟩) (.inr (Nat.le_refl _)) _) (p := ⟨w.heap.size, 6, none⟩) (.inr (Nat.le_refl _)) _) (p := ⟨w.heap.size, 7, none⟩) (.inr (Nat.le_refl _)) _) (p := ⟨w.heap.size, 8, none⟩) (.inr (Nat.le_refl _)) _)⟩
set_option maxRecDepth 100000 in
set_option maxHeartbeats 4000000 in
theorem wordM_any (p : Plc) (hp : p.low) (W B D : Nat) (ws : List Int) (g o : Nat) (dn dc : Nat) (x y : Int) (i : Nat) (mk : Bool) (nx : Value) (now : Int) (hi : p.In ws.length) (hws : Words ws) (hx : bit x) (hy : bit y) (hin : i < dn) (hdw : (dn : Int) ≤ p.words) (d : Int) (hgD : g ≠ D) (hnx : decide (((i : Int) + 1) < (dn : Int)) = true) (w : World) (hW : w.heap[W]? = some (.cells #[.int .i64 p.src, .int .i64 p.rd, .int .i64 p.words, .int .i64 p.period, .slice (some ⟨g, o, none⟩) dn dc, .int .u32 x, .int .u32 y, .int .i64 (i : Int), .bool mk, nx] 117 (0, 0))) (h : MemAt w B D ws) (hg : g < w.heap.size) (hc : w.cell? ⟨g, o + i, none⟩ = some (.int .u32 d)) : Calls Tryz.prog 112 #[.pointer (some ⟨W, 0, none⟩), .pointer (some ⟨B, 0, none⟩), .int .i64 now] w fun e w' =>
    e = .returned (.tuple #[.agg #[.bool false, .int .i64 0, .slice none 0 0, .bool false, .int .i64 0, .bool false, .bool false, .bool false, .int .i64 0], .func (.func 112) #[.pointer (some ⟨W, 0, none⟩)] #[]]) ∧ w'.heap[W]? = some (.cells #[.int .i64 p.src, .int .i64 p.rd, .int .i64 p.words, .int .i64 p.period, .slice (some ⟨g, o, none⟩) dn dc, .int .u32 x, .int .u32 y, .int .i64 ((i : Int) + 1), .bool mk, nx] 117 (0, 0)) ∧ MemAt w' B D (stW ws (p.buf x y + 2 + i) d) ∧ ButS [W, D] w w' := by
  have HM := Kp.mk h
  have HW := Kp.mk hW
  have lW := blk_lt hW
  have lD := blk_lt h.words
  have lB := blk_lt h.head
  have hWD : W ≠ D := by
    rintro rfl
    rw [h.words] at hW
    simp at hW
  have hWB : W ≠ B := by
    rintro rfl
    rw [h.head] at hW
    simp at hW
  have hBD := h.ne
  have hWr : W ≠ w.heap.size := by omega
  have hDr : D ≠ w.heap.size := by omega
  have hBr : B ≠ w.heap.size := by omega
  clear h hW
  have bx := bit_two x hx
  have byy := bit_two y hy
  have hwd := hp.words
  have h1 := buf_in hp hi x y hx hy (2 + i) (by omega) (by omega)
  have hq : p.buf x y + (2 + (i : Int)) = p.buf x y + 2 + i := by omega
  rw [hq] at h1
  have n1 : IntKind.i64.wrap (p.buf x y + 2) = p.buf x y + 2 := IntWalk.i64_in _ (by omega)
  have n2 : IntKind.i64.wrap (p.buf x y + 2 + i) = p.buf x y + 2 + i := IntWalk.i64_in _ (by omega)
  have n3 : (0 : Int) ≤ (i : Int) := by omega
  have n4 : (i : Int) < (dn : Int) := by omega
  have n5 : IntKind.i64.wrap ((i : Int) + 1) = (i : Int) + 1 := IntWalk.i64_in _ (by omega)
  have hgr : g ≠ w.heap.size := by omega
  have HC := Kp.mk hc
  clear hws hc hq
  go_enter Tryz.func112, Tryz.ntmps112
  have HB0 : Kp (Below w.heap.size w w) := ⟨Below.refl _ _⟩
  go_wp2_with fail
  have r1 : Kp ((w.alloc (.cells #[.bool false, .int .i64 0, .slice none 0 0, .bool false, .int .i64 0, .bool false, .bool false, .bool false, .int .i64 0] 64)).heap[w.heap.size]? = some (.cells #[.bool false, .int .i64 0, .slice none 0 0, .bool false, .int .i64 0, .bool false, .bool false, .bool false, .int .i64 0] 64 (0, 0))) := ⟨(blk_new _ _)⟩
  have HB1 : Kp (Below w.heap.size w (w.alloc (.cells #[.bool false, .int .i64 0, .slice none 0 0, .bool false, .int .i64 0, .bool false, .bool false, .bool false, .int .i64 0] 64))) := ⟨(below_al HB0.out _)⟩
  have W1 : Kp ((w.alloc (.cells #[.bool false, .int .i64 0, .slice none 0 0, .bool false, .int .i64 0, .bool false, .bool false, .bool false, .int .i64 0] 64)).heap[W]? = some (.cells #[.int .i64 p.src, .int .i64 p.rd, .int .i64 p.words, .int .i64 p.period, .slice (some ⟨g, o, none⟩) dn dc, .int .u32 x, .int .u32 y, .int .i64 (i : Int), .bool mk, nx] 117 (0, 0))) := ⟨(blk_al HW.out _)⟩
  have M1 : Kp (MemAt (w.alloc (.cells #[.bool false, .int .i64 0, .slice none 0 0, .bool false, .int .i64 0, .bool false, .bool false, .bool false, .int .i64 0] 64)) B D (ws)) := ⟨(HM.out.below (below_al (Below.refl _ _) _))⟩
  clear HB0 HW HM
  generalize (w.alloc (.cells #[.bool false, .int .i64 0, .slice none 0 0, .bool false, .int .i64 0, .bool false, .bool false, .bool false, .int .i64 0] 64)) = w1 at r1 HB1 W1 M1 ⊢
  have HS1 : Kp (ButS [W, D] w w1) := ⟨ButS.of_below HB1.out⟩
  have hsz0 : w.heap.size < w1.heap.size := blk_lt r1.out
  have c0 := cbk W1.out 0 (.int .i64 p.src) rfl
  have c1 := cbk W1.out 1 (.int .i64 p.rd) rfl
  have c2 := cbk W1.out 2 (.int .i64 p.words) rfl
  have c3 := cbk W1.out 3 (.int .i64 p.period) rfl
  have c4 := cbk W1.out 4 (.slice (some ⟨g, o, none⟩) dn dc) rfl
  have c5 := cbk W1.out 5 (.int .u32 x) rfl
  have c6 := cbk W1.out 6 (.int .u32 y) rfl
  have c7 := cbk W1.out 7 (.int .i64 (i : Int)) rfl
  have c8 := cbk W1.out 8 (.bool mk) rfl
  have c9 := cbk W1.out 9 (nx) rfl
  have cl := blk_lt W1.out
  have cg : w1.cell? ⟨g, o + i, none⟩ = some (.int .u32 d) := (HB1.out.cell (p := ⟨g, o + i, none⟩) hg).trans HC.out
  have hg2 : g < w1.heap.size := by omega
  refine held_start_gen (S := (fun w' : World => ButB (w1.heap.size) [D] w1 w' ∧ ∀ bb o, bb < w1.heap.size → bb ≠ D → w'.cell? ⟨bb, o, none⟩ = w1.cell? ⟨bb, o, none⟩)) (by kernel_rfl) (fun wz : World => Kp (ButS [W, D] w wz) ∧ Kp (wz.heap[W]? = some (.cells #[.int .i64 p.src, .int .i64 p.rd, .int .i64 p.words, .int .i64 p.period, .slice (some ⟨g, o, none⟩) dn dc, .int .u32 x, .int .u32 y, .int .i64 (i : Int), .bool mk, nx] 117 (0, 0))) ∧ Kp (MemAt wz B D (ws)) ∧ Kp (wz.heap[w.heap.size]? = some (.cells #[.bool false, .int .i64 0, .slice none 0 0, .bool false, .int .i64 0, .bool false, .bool false, .bool false, .int .i64 0] 64 (0, 0))) ∧ w1.heap.size ≤ wz.heap.size) ⟨⟨ButS.dr HS1.out⟩, ⟨blk_dr W1.out⟩, ⟨(M1.out.below (below_dr (Below.refl _ _)))⟩, ⟨blk_dr r1.out⟩, Nat.le_refl _⟩ (sx_of1 (ButB.dr (ButB.refl _ (by omega)))) (fun wd0 hRn hHeld => ?_)
  clear HS1 W1 M1 r1
  obtain ⟨HS1, W1, M1, r1, hsz⟩ := hRn
  refine wtk 0 ?_ rfl (.inl ⟨by rfl, ?_⟩) ?_
  rotate_left 1
  · (intro w hSw; go_simp; try with_reducible rfl)
  try simp only [Act.put, ls0, ls1, ls2]
  refine wtk 1 ?_ rfl (.inl ⟨by rfl, ?_⟩) ?_
  rotate_left 1
  · (intro w hSw; go_simp; try with_reducible rfl)
  try simp only [Act.put, ls0, ls1, ls2]
  refine wtk 2 ?_ rfl (.inl ⟨by rfl, ?_⟩) ?_
  rotate_left 1
  · (intro w hSw; go_simp; try with_reducible rfl)
  try simp only [Act.put, ls0, ls1, ls2]
  refine wtk 3 ?_ rfl (.inl ⟨by rfl, ?_⟩) ?_
  rotate_left 1
  · (intro w hSw; go_simp; try with_reducible rfl)
  try simp only [Act.put, ls0, ls1, ls2]
  refine wtk 4 ?_ rfl (.inl ⟨by rfl, ?_⟩) ?_
  rotate_left 1
  · (intro w hSw; go_simp; try with_reducible rfl)
  try simp only [Act.put, ls0, ls1, ls2]
  refine wtk 5 ?_ rfl (.inl ⟨by rfl, ?_⟩) ?_
  rotate_left 1
  · (intro w hSw; go_simp; try with_reducible rfl)
  try simp only [Act.put, ls0, ls1, ls2]
  refine wtk 6 ?_ rfl (.inl ⟨by rfl, ?_⟩) ?_
  rotate_left 1
  · (intro w hSw; go_simp; try with_reducible rfl)
  try simp only [Act.put, ls0, ls1, ls2]
  refine wtk 7 ?_ rfl (.inl ⟨by rfl, ?_⟩) ?_
  rotate_left 1
  · (intro w hSw; go_simp; try with_reducible rfl)
  try simp only [Act.put, ls0, ls1, ls2]
  refine wtk 8 ?_ rfl (.inl ⟨by rfl, ?_⟩) ?_
  rotate_left 1
  · (intro w hSw; go_simp; try with_reducible rfl)
  try simp only [Act.put, ls0, ls1, ls2]
  refine wtk 9 ?_ rfl (.inl ⟨by rfl, ?_⟩) ?_
  rotate_left 1
  · (intro w hSw; go_simp; try with_reducible rfl)
  try simp only [Act.put, ls0, ls1, ls2]
  refine wtk 10 ?_ rfl (.inl ⟨by rfl, ?_⟩) ?_
  rotate_left 1
  · (intro w hSw; go_simp; try with_reducible rfl)
  try simp only [Act.put, ls0, ls1, ls2]
  refine wtk 11 ?_ rfl (.inl ⟨by rfl, ?_⟩) ?_
  rotate_left 1
  · (intro w hSw; go_simp; try with_reducible rfl)
  try simp only [Act.put, ls0, ls1, ls2]
  refine wtk 12 ?_ rfl (.inl ⟨by rfl, ?_⟩) ?_
  rotate_left 1
  · (intro w hSw; go_simp; try with_reducible rfl)
  try simp only [Act.put, ls0, ls1, ls2]
  refine wtk 15 ?_ rfl (.inl ⟨by rfl, ?_⟩) ?_
  rotate_left 1
  · (intro w hSw; go_simp; try with_reducible rfl)
  try simp only [Act.put, ls0, ls1, ls2]
  refine wtk 16 ?_ rfl (.inl ⟨by rfl, ?_⟩) ?_
  rotate_left 1
  · (intro w hSw; go_simp; try with_reducible rfl)
  try simp only [Act.put, ls0, ls1, ls2]
  refine wtk 17 ?_ rfl (.inl ⟨by rfl, ?_⟩) ?_
  rotate_left 1
  · (intro w hSw; go_simp; try with_reducible rfl)
  try simp only [Act.put, ls0, ls1, ls2]
  refine wtk 18 ?_ rfl (.inl ⟨by rfl, ?_⟩) ?_
  rotate_left 1
  · (intro w hSw; go_simp; try with_reducible rfl)
  try simp only [Act.put, ls0, ls1, ls2]
  refine wtk 20 ?_ rfl (.inl ⟨by rfl, ?_⟩) ?_
  rotate_left 1
  · (intro w hSw; go_simp; try with_reducible rfl)
  try simp only [Act.put, ls0, ls1, ls2]
  refine wtk 21 ?_ rfl (.inl ⟨by rfl, ?_⟩) ?_
  rotate_left 1
  · (intro w hSw; go_simp; try with_reducible rfl)
  try simp only [Act.put, ls0, ls1, ls2]
  refine wtk 22 ?_ rfl (.inl ⟨by rfl, ?_⟩) ?_
  rotate_left 1
  · (intro w hSw; go_simp; try with_reducible rfl)
  try simp only [Act.put, ls0, ls1, ls2]
  refine wtk 23 ?_ rfl (.inl ⟨by rfl, ?_⟩) ?_
  rotate_left 1
  · (intro w hSw; go_simp; try with_reducible rfl)
  try simp only [Act.put, ls0, ls1, ls2]
  refine wtk 24 ?_ rfl (.inl ⟨by rfl, ?_⟩) ?_
  rotate_left 1
  · (intro w hSw; go_simp; try with_reducible rfl)
  try simp only [Act.put, ls0, ls1, ls2]
  refine wtk 25 ?_ rfl (.inl ⟨by rfl, ?_⟩) ?_
  rotate_left 1
  · (intro w hSw; go_simp; try with_reducible rfl)
  try simp only [Act.put, ls0, ls1, ls2]
  refine wtk 26 ?_ rfl (.inl ⟨by rfl, ?_⟩) ?_
  rotate_left 1
  · (intro w hSw; go_simp; try with_reducible rfl)
  try simp only [Act.put, ls0, ls1, ls2]
  refine wtk 27 ?_ rfl (.inl ⟨by rfl, ?_⟩) ?_
  rotate_left 1
  · (intro w hSw; go_simp; try with_reducible rfl)
  try simp only [Act.put, ls0, ls1, ls2]
  refine wtk 28 ?_ rfl (.inl ⟨by rfl, ?_⟩) ?_
  rotate_left 1
  · (intro w hSw; go_simp; try with_reducible rfl)
  try simp only [Act.put, ls0, ls1, ls2]
  refine wtk 29 ?_ rfl (.inl ⟨by rfl, ?_⟩) ?_
  rotate_left 1
  · (intro w hSw; go_simp; try with_reducible rfl)
  try simp only [Act.put, ls0, ls1, ls2]
  refine wrd [13] ?_
  refine (arc rfl (fun K hK => ?_) arn)
  go_simp
  go_at_call 108
  refine (fbuffer_any p hp x y hx hy _).mono ?_
  rintro e w9 ⟨rfl, hb⟩
  try go_wp2_with fail
  refine out_gen hK _ _ (fun wz : World => Kp (ButS [W, D] w wz) ∧ Kp (wz.heap[W]? = some (.cells #[.int .i64 p.src, .int .i64 p.rd, .int .i64 p.words, .int .i64 p.period, .slice (some ⟨g, o, none⟩) dn dc, .int .u32 x, .int .u32 y, .int .i64 (i : Int), .bool mk, nx] 117 (0, 0))) ∧ Kp (MemAt wz B D (ws)) ∧ Kp (wz.heap[w.heap.size]? = some (.cells #[.bool false, .int .i64 0, .slice none 0 0, .bool false, .int .i64 0, .bool false, .bool false, .bool false, .int .i64 0] 64 (0, 0))) ∧ wd0.heap.size ≤ wz.heap.size) ⟨⟨ButS.trans HS1.out (ButS.of_below hb)⟩, ⟨blk_below W1.out hb⟩, ⟨(M1.out.below hb)⟩, ⟨blk_below r1.out hb⟩, hb.size⟩ (sx_of1 (ButB.call (And.left hHeld) hb)) (fun wd1 hRn hHn => ?_)
  clear hK K hHeld HS1 W1 M1 r1 hb
  obtain ⟨HS1, W1, M1, r1, hsz1⟩ := hRn
  have hHeld := hHn
  clear hHn
  try simp only [Act.put, ls0, ls1, ls2]
  refine wtk 14 ?_ rfl (.inl ⟨by rfl, ?_⟩) ?_
  rotate_left 1
  · (intro w hSw; go_simp; try with_reducible rfl)
  try simp only [Act.put, ls0, ls1, ls2]
  refine wtk 19 ?_ rfl (.inl ⟨by rfl, ?_⟩) ?_
  rotate_left 1
  · (intro w hSw; go_simp; try with_reducible rfl)
  try simp only [Act.put, ls0, ls1, ls2]
  refine wrd [30] ?_
  refine (arc rfl (fun K hK => ?_) arn)
  go_simp
  go_at_call 100
  refine (fstore_any B D (ws) (p.buf x y + 2 + i) (d) (by omega) h1.2.1 _ M1.out).mono ?_
  rintro e w9 ⟨⟨rr, rfl⟩, rfl⟩
  try go_wp2_with fail
  refine out_gen hK _ _ (fun wz : World => Kp (ButS [W, D] w wz) ∧ Kp (wz.heap[W]? = some (.cells #[.int .i64 p.src, .int .i64 p.rd, .int .i64 p.words, .int .i64 p.period, .slice (some ⟨g, o, none⟩) dn dc, .int .u32 x, .int .u32 y, .int .i64 (i : Int), .bool mk, nx] 117 (0, 0))) ∧ Kp (MemAt wz B D (stW (ws) (p.buf x y + 2 + i) (d))) ∧ Kp (wz.heap[w.heap.size]? = some (.cells #[.bool false, .int .i64 0, .slice none 0 0, .bool false, .int .i64 0, .bool false, .bool false, .bool false, .int .i64 0] 64 (0, 0))) ∧ wd1.heap.size ≤ wz.heap.size) ⟨⟨ButS.set' HS1.out (p := ⟨D, (p.buf x y + 2 + i).toNat, none⟩) (by first | (left; simp; done) | (right; show _ ≤ D; omega)) _⟩, ⟨blk_set_ne (p := ⟨D, (p.buf x y + 2 + i).toNat, none⟩) W1.out (by show W ≠ D; omega) _⟩, ⟨MemAt.st M1.out _ _⟩, ⟨blk_set_ne (p := ⟨D, (p.buf x y + 2 + i).toNat, none⟩) r1.out (by show w.heap.size ≠ D; omega) _⟩, (by simp [World.setCell])⟩ (sx_of1 (ButB.set (And.left hHeld) (p := ⟨D, (p.buf x y + 2 + i).toNat, none⟩) (by first | (left; simp; done) | (right; show _ ≤ D; omega)) _)) (fun wd2 hRn hHn => ?_)
  clear hK K hHeld HS1 W1 M1 r1
  obtain ⟨HS1, W1, M1, r1, hsz2⟩ := hRn
  have hHeld := hHn
  clear hHn
  try simp only [Act.put, ls0, ls1, ls2]
  refine wpAnyH_done (by kernel_rfl) ?_ _
  clear c0 c1 c2 c3 c4 c5 c6 c7 c8 c9 cl cg
  have c0 := cbk W1.out 0 (.int .i64 p.src) rfl
  have c1 := cbk W1.out 1 (.int .i64 p.rd) rfl
  have c2 := cbk W1.out 2 (.int .i64 p.words) rfl
  have c3 := cbk W1.out 3 (.int .i64 p.period) rfl
  have c4 := cbk W1.out 4 (.slice (some ⟨g, o, none⟩) dn dc) rfl
  have c5 := cbk W1.out 5 (.int .u32 x) rfl
  have c6 := cbk W1.out 6 (.int .u32 y) rfl
  have c7 := cbk W1.out 7 (.int .i64 (i : Int)) rfl
  have c8 := cbk W1.out 8 (.bool mk) rfl
  have c9 := cbk W1.out 9 (nx) rfl
  have cf7 := frozen_blk W1.out 7
  have cl := blk_lt W1.out
  have q0 := cbk r1.out 0 (.bool false) rfl
  have q1 := cbk r1.out 1 (.int .i64 0) rfl
  have q2 := cbk r1.out 2 (.slice none 0 0) rfl
  have q3 := cbk r1.out 3 (.bool false) rfl
  have q4 := cbk r1.out 4 (.int .i64 0) rfl
  have q5 := cbk r1.out 5 (.bool false) rfl
  have q6 := cbk r1.out 6 (.bool false) rfl
  have q7 := cbk r1.out 7 (.bool false) rfl
  have q8 := cbk r1.out 8 (.int .i64 0) rfl
  have qf0 := frozen_blk r1.out 0
  have qf1 := frozen_blk r1.out 1
  have qf2 := frozen_blk r1.out 2
  have qf3 := frozen_blk r1.out 3
  have qf4 := frozen_blk r1.out 4
  have qf5 := frozen_blk r1.out 5
  have qf6 := frozen_blk r1.out 6
  have qf7 := frozen_blk r1.out 7
  have qf8 := frozen_blk r1.out 8
  have ql := blk_lt r1.out
  go_wp2_with fail
  go_quiet (fail)
  go_wp2
  refine bodyPost_ret (v := .tuple #[.agg #[.bool false, .int .i64 0, .slice none 0 0, .bool false, .int .i64 0, .bool false, .bool false, .bool false, .int .i64 0], .func (.func 112) #[.pointer (some ⟨W, 0, none⟩)] #[]]) ?_ rfl ?_
  · refine (results_row_tmp (fn := Tryz.f112) (p := 6) (u := 7) (ty := 64) rfl _ _ w.heap.size 64 #[.bool false, .int .i64 0, .slice none 0 0, .bool false, .int .i64 0, .bool false, .bool false, .bool false, .int .i64 0] (0, 0) _ (by go_simp) ((blk_set (blk_set (blk_set (blk_set (blk_set (blk_set (blk_set (blk_set (blk_set (blk_drN (blk_set_ne (p := ⟨W, 7, none⟩) r1.out (by show w.heap.size ≠ W; omega) _)) 0 _) 1 _) 2 _) 3 _) 4 _) 5 _) 6 _) 7 _) 8 _).trans (by rfl)) Tryz.underlying64 rfl (by kernel_rfl)).trans ?_
    rfl
  · exact ⟨rfl, ((blk_set_ne (p := ⟨w.heap.size, 8, none⟩) (blk_set_ne (p := ⟨w.heap.size, 7, none⟩) (blk_set_ne (p := ⟨w.heap.size, 6, none⟩) (blk_set_ne (p := ⟨w.heap.size, 5, none⟩) (blk_set_ne (p := ⟨w.heap.size, 4, none⟩) (blk_set_ne (p := ⟨w.heap.size, 3, none⟩) (blk_set_ne (p := ⟨w.heap.size, 2, none⟩) (blk_set_ne (p := ⟨w.heap.size, 1, none⟩) (blk_set_ne (p := ⟨w.heap.size, 0, none⟩) (blk_drN (blk_set W1.out 7 _)) (by show W ≠ w.heap.size; omega) _) (by show W ≠ w.heap.size; omega) _) (by show W ≠ w.heap.size; omega) _) (by show W ≠ w.heap.size; omega) _) (by show W ≠ w.heap.size; omega) _) (by show W ≠ w.heap.size; omega) _) (by show W ≠ w.heap.size; omega) _) (by show W ≠ w.heap.size; omega) _) (by show W ≠ w.heap.size; omega) _).trans rfl), (MemAt.setne (MemAt.setne (MemAt.setne (MemAt.setne (MemAt.setne (MemAt.setne (MemAt.setne (MemAt.setne (MemAt.setne (MemAt.drN (MemAt.setne M1.out (p := ⟨W, 7, none⟩) (by show B ≠ W; omega) (by show D ≠ W; omega) _)) (p := ⟨w.heap.size, 0, none⟩) (by show B ≠ w.heap.size; omega) (by show D ≠ w.heap.size; omega) _) (p := ⟨w.heap.size, 1, none⟩) (by show B ≠ w.heap.size; omega) (by show D ≠ w.heap.size; omega) _) (p := ⟨w.heap.size, 2, none⟩) (by show B ≠ w.heap.size; omega) (by show D ≠ w.heap.size; omega) _) (p := ⟨w.heap.size, 3, none⟩) (by show B ≠ w.heap.size; omega) (by show D ≠ w.heap.size; omega) _) (p := ⟨w.heap.size, 4, none⟩) (by show B ≠ w.heap.size; omega) (by show D ≠ w.heap.size; omega) _) (p := ⟨w.heap.size, 5, none⟩) (by show B ≠ w.heap.size; omega) (by show D ≠ w.heap.size; omega) _) (p := ⟨w.heap.size, 6, none⟩) (by show B ≠ w.heap.size; omega) (by show D ≠ w.heap.size; omega) _) (p := ⟨w.heap.size, 7, none⟩) (by show B ≠ w.heap.size; omega) (by show D ≠ w.heap.size; omega) _) (p := ⟨w.heap.size, 8, none⟩) (by show B ≠ w.heap.size; omega) (by show D ≠ w.heap.size; omega) _), (ButS.set' (ButS.set' (ButS.set' (ButS.set' (ButS.set' (ButS.set' (ButS.set' (ButS.set' (ButS.set' (ButS.drN (ButS.set HS1.out (p := ⟨W, 7, none⟩) (by simp) _)) (p := ⟨w.heap.size, 0, none⟩) (.inr (Nat.le_refl _)) _) (p := ⟨w.heap.size, 1, none⟩) (.inr (Nat.le_refl _)) _) (p := ⟨w.heap.size, 2, none⟩) (.inr (Nat.le_refl _)) _) (p := ⟨w.heap.size, 3, none⟩) (.inr (Nat.le_refl _)) _) (p := ⟨w.heap.size, 4, none⟩) (.inr (Nat.le_refl _)) _) (p := ⟨w.heap.size, 5, none⟩) (.inr (Nat.le_refl _)) _) (p := ⟨w.heap.size, 6, none⟩) (.inr (Nat.le_refl _)) _) (p := ⟨w.heap.size, 7, none⟩) (.inr (Nat.le_refl _)) _) (p := ⟨w.heap.size, 8, none⟩) (.inr (Nat.le_refl _)) _)⟩
set_option maxRecDepth 100000 in
set_option maxHeartbeats 4000000 in
theorem wordL_any (p : Plc) (hp : p.low) (W B D : Nat) (ws : List Int) (g o : Nat) (dn dc : Nat) (x y : Int) (i : Nat) (mk : Bool) (nx : Value) (now : Int) (hi : p.In ws.length) (hws : Words ws) (hx : bit x) (hy : bit y) (hin : i < dn) (hdw : (dn : Int) ≤ p.words) (d : Int) (hgD : g ≠ D) (hnx : decide (((i : Int) + 1) < (dn : Int)) = false) (w : World) (hW : w.heap[W]? = some (.cells #[.int .i64 p.src, .int .i64 p.rd, .int .i64 p.words, .int .i64 p.period, .slice (some ⟨g, o, none⟩) dn dc, .int .u32 x, .int .u32 y, .int .i64 (i : Int), .bool mk, nx] 117 (0, 0))) (h : MemAt w B D ws) (hg : g < w.heap.size) (hc : w.cell? ⟨g, o + i, none⟩ = some (.int .u32 d)) : Calls Tryz.prog 112 #[.pointer (some ⟨W, 0, none⟩), .pointer (some ⟨B, 0, none⟩), .int .i64 now] w fun e w' =>
    e = .returned (.tuple #[.agg #[.bool false, .int .i64 0, .slice none 0 0, .bool false, .int .i64 0, .bool false, .bool false, .bool false, .int .i64 0], .func (.func 115) #[.pointer (some ⟨W, 0, none⟩)] #[]]) ∧ w'.heap[W]? = some (.cells #[.int .i64 p.src, .int .i64 p.rd, .int .i64 p.words, .int .i64 p.period, .slice (some ⟨g, o, none⟩) dn dc, .int .u32 x, .int .u32 y, .int .i64 ((i : Int) + 1), .bool mk, nx] 117 (0, 0)) ∧ MemAt w' B D (stW ws (p.buf x y + 2 + i) d) ∧ ButS [W, D] w w' := by
  have HM := Kp.mk h
  have HW := Kp.mk hW
  have lW := blk_lt hW
  have lD := blk_lt h.words
  have lB := blk_lt h.head
  have hWD : W ≠ D := by
    rintro rfl
    rw [h.words] at hW
    simp at hW
  have hWB : W ≠ B := by
    rintro rfl
    rw [h.head] at hW
    simp at hW
  have hBD := h.ne
  have hWr : W ≠ w.heap.size := by omega
  have hDr : D ≠ w.heap.size := by omega
  have hBr : B ≠ w.heap.size := by omega
  clear h hW
  have bx := bit_two x hx
  have byy := bit_two y hy
  have hwd := hp.words
  have h1 := buf_in hp hi x y hx hy (2 + i) (by omega) (by omega)
  have hq : p.buf x y + (2 + (i : Int)) = p.buf x y + 2 + i := by omega
  rw [hq] at h1
  have n1 : IntKind.i64.wrap (p.buf x y + 2) = p.buf x y + 2 := IntWalk.i64_in _ (by omega)
  have n2 : IntKind.i64.wrap (p.buf x y + 2 + i) = p.buf x y + 2 + i := IntWalk.i64_in _ (by omega)
  have n3 : (0 : Int) ≤ (i : Int) := by omega
  have n4 : (i : Int) < (dn : Int) := by omega
  have n5 : IntKind.i64.wrap ((i : Int) + 1) = (i : Int) + 1 := IntWalk.i64_in _ (by omega)
  have hgr : g ≠ w.heap.size := by omega
  have HC := Kp.mk hc
  clear hws hc hq
  go_enter Tryz.func112, Tryz.ntmps112
  have HB0 : Kp (Below w.heap.size w w) := ⟨Below.refl _ _⟩
  go_wp2_with fail
  have r1 : Kp ((w.alloc (.cells #[.bool false, .int .i64 0, .slice none 0 0, .bool false, .int .i64 0, .bool false, .bool false, .bool false, .int .i64 0] 64)).heap[w.heap.size]? = some (.cells #[.bool false, .int .i64 0, .slice none 0 0, .bool false, .int .i64 0, .bool false, .bool false, .bool false, .int .i64 0] 64 (0, 0))) := ⟨(blk_new _ _)⟩
  have HB1 : Kp (Below w.heap.size w (w.alloc (.cells #[.bool false, .int .i64 0, .slice none 0 0, .bool false, .int .i64 0, .bool false, .bool false, .bool false, .int .i64 0] 64))) := ⟨(below_al HB0.out _)⟩
  have W1 : Kp ((w.alloc (.cells #[.bool false, .int .i64 0, .slice none 0 0, .bool false, .int .i64 0, .bool false, .bool false, .bool false, .int .i64 0] 64)).heap[W]? = some (.cells #[.int .i64 p.src, .int .i64 p.rd, .int .i64 p.words, .int .i64 p.period, .slice (some ⟨g, o, none⟩) dn dc, .int .u32 x, .int .u32 y, .int .i64 (i : Int), .bool mk, nx] 117 (0, 0))) := ⟨(blk_al HW.out _)⟩
  have M1 : Kp (MemAt (w.alloc (.cells #[.bool false, .int .i64 0, .slice none 0 0, .bool false, .int .i64 0, .bool false, .bool false, .bool false, .int .i64 0] 64)) B D (ws)) := ⟨(HM.out.below (below_al (Below.refl _ _) _))⟩
  clear HB0 HW HM
  generalize (w.alloc (.cells #[.bool false, .int .i64 0, .slice none 0 0, .bool false, .int .i64 0, .bool false, .bool false, .bool false, .int .i64 0] 64)) = w1 at r1 HB1 W1 M1 ⊢
  have HS1 : Kp (ButS [W, D] w w1) := ⟨ButS.of_below HB1.out⟩
  have hsz0 : w.heap.size < w1.heap.size := blk_lt r1.out
  have c0 := cbk W1.out 0 (.int .i64 p.src) rfl
  have c1 := cbk W1.out 1 (.int .i64 p.rd) rfl
  have c2 := cbk W1.out 2 (.int .i64 p.words) rfl
  have c3 := cbk W1.out 3 (.int .i64 p.period) rfl
  have c4 := cbk W1.out 4 (.slice (some ⟨g, o, none⟩) dn dc) rfl
  have c5 := cbk W1.out 5 (.int .u32 x) rfl
  have c6 := cbk W1.out 6 (.int .u32 y) rfl
  have c7 := cbk W1.out 7 (.int .i64 (i : Int)) rfl
  have c8 := cbk W1.out 8 (.bool mk) rfl
  have c9 := cbk W1.out 9 (nx) rfl
  have cl := blk_lt W1.out
  have cg : w1.cell? ⟨g, o + i, none⟩ = some (.int .u32 d) := (HB1.out.cell (p := ⟨g, o + i, none⟩) hg).trans HC.out
  have hg2 : g < w1.heap.size := by omega
  refine held_start_gen (S := (fun w' : World => ButB (w1.heap.size) [D] w1 w' ∧ ∀ bb o, bb < w1.heap.size → bb ≠ D → w'.cell? ⟨bb, o, none⟩ = w1.cell? ⟨bb, o, none⟩)) (by kernel_rfl) (fun wz : World => Kp (ButS [W, D] w wz) ∧ Kp (wz.heap[W]? = some (.cells #[.int .i64 p.src, .int .i64 p.rd, .int .i64 p.words, .int .i64 p.period, .slice (some ⟨g, o, none⟩) dn dc, .int .u32 x, .int .u32 y, .int .i64 (i : Int), .bool mk, nx] 117 (0, 0))) ∧ Kp (MemAt wz B D (ws)) ∧ Kp (wz.heap[w.heap.size]? = some (.cells #[.bool false, .int .i64 0, .slice none 0 0, .bool false, .int .i64 0, .bool false, .bool false, .bool false, .int .i64 0] 64 (0, 0))) ∧ w1.heap.size ≤ wz.heap.size) ⟨⟨ButS.dr HS1.out⟩, ⟨blk_dr W1.out⟩, ⟨(M1.out.below (below_dr (Below.refl _ _)))⟩, ⟨blk_dr r1.out⟩, Nat.le_refl _⟩ (sx_of1 (ButB.dr (ButB.refl _ (by omega)))) (fun wd0 hRn hHeld => ?_)
  clear HS1 W1 M1 r1
  obtain ⟨HS1, W1, M1, r1, hsz⟩ := hRn
  refine wtk 0 ?_ rfl (.inl ⟨by rfl, ?_⟩) ?_
  rotate_left 1
  · (intro w hSw; go_simp; try with_reducible rfl)
  try simp only [Act.put, ls0, ls1, ls2]
  refine wtk 1 ?_ rfl (.inl ⟨by rfl, ?_⟩) ?_
  rotate_left 1
  · (intro w hSw; go_simp; try with_reducible rfl)
  try simp only [Act.put, ls0, ls1, ls2]
  refine wtk 2 ?_ rfl (.inl ⟨by rfl, ?_⟩) ?_
  rotate_left 1
  · (intro w hSw; go_simp; try with_reducible rfl)
  try simp only [Act.put, ls0, ls1, ls2]
  refine wtk 3 ?_ rfl (.inl ⟨by rfl, ?_⟩) ?_
  rotate_left 1
  · (intro w hSw; go_simp; try with_reducible rfl)
  try simp only [Act.put, ls0, ls1, ls2]
  refine wtk 4 ?_ rfl (.inl ⟨by rfl, ?_⟩) ?_
  rotate_left 1
  · (intro w hSw; go_simp; try with_reducible rfl)
  try simp only [Act.put, ls0, ls1, ls2]
  refine wtk 5 ?_ rfl (.inl ⟨by rfl, ?_⟩) ?_
  rotate_left 1
  · (intro w hSw; go_simp; try with_reducible rfl)
  try simp only [Act.put, ls0, ls1, ls2]
  refine wtk 6 ?_ rfl (.inl ⟨by rfl, ?_⟩) ?_
  rotate_left 1
  · (intro w hSw; go_simp; try with_reducible rfl)
  try simp only [Act.put, ls0, ls1, ls2]
  refine wtk 7 ?_ rfl (.inl ⟨by rfl, ?_⟩) ?_
  rotate_left 1
  · (intro w hSw; go_simp; try with_reducible rfl)
  try simp only [Act.put, ls0, ls1, ls2]
  refine wtk 8 ?_ rfl (.inl ⟨by rfl, ?_⟩) ?_
  rotate_left 1
  · (intro w hSw; go_simp; try with_reducible rfl)
  try simp only [Act.put, ls0, ls1, ls2]
  refine wtk 9 ?_ rfl (.inl ⟨by rfl, ?_⟩) ?_
  rotate_left 1
  · (intro w hSw; go_simp; try with_reducible rfl)
  try simp only [Act.put, ls0, ls1, ls2]
  refine wtk 10 ?_ rfl (.inl ⟨by rfl, ?_⟩) ?_
  rotate_left 1
  · (intro w hSw; go_simp; try with_reducible rfl)
  try simp only [Act.put, ls0, ls1, ls2]
  refine wtk 11 ?_ rfl (.inl ⟨by rfl, ?_⟩) ?_
  rotate_left 1
  · (intro w hSw; go_simp; try with_reducible rfl)
  try simp only [Act.put, ls0, ls1, ls2]
  refine wtk 12 ?_ rfl (.inl ⟨by rfl, ?_⟩) ?_
  rotate_left 1
  · (intro w hSw; go_simp; try with_reducible rfl)
  try simp only [Act.put, ls0, ls1, ls2]
  refine wtk 15 ?_ rfl (.inl ⟨by rfl, ?_⟩) ?_
  rotate_left 1
  · (intro w hSw; go_simp; try with_reducible rfl)
  try simp only [Act.put, ls0, ls1, ls2]
  refine wtk 16 ?_ rfl (.inl ⟨by rfl, ?_⟩) ?_
  rotate_left 1
  · (intro w hSw; go_simp; try with_reducible rfl)
  try simp only [Act.put, ls0, ls1, ls2]
  refine wtk 17 ?_ rfl (.inl ⟨by rfl, ?_⟩) ?_
  rotate_left 1
  · (intro w hSw; go_simp; try with_reducible rfl)
  try simp only [Act.put, ls0, ls1, ls2]
  refine wtk 18 ?_ rfl (.inl ⟨by rfl, ?_⟩) ?_
  rotate_left 1
  · (intro w hSw; go_simp; try with_reducible rfl)
  try simp only [Act.put, ls0, ls1, ls2]
  refine wtk 20 ?_ rfl (.inl ⟨by rfl, ?_⟩) ?_
  rotate_left 1
  · (intro w hSw; go_simp; try with_reducible rfl)
  try simp only [Act.put, ls0, ls1, ls2]
  refine wtk 21 ?_ rfl (.inl ⟨by rfl, ?_⟩) ?_
  rotate_left 1
  · (intro w hSw; go_simp; try with_reducible rfl)
  try simp only [Act.put, ls0, ls1, ls2]
  refine wtk 22 ?_ rfl (.inl ⟨by rfl, ?_⟩) ?_
  rotate_left 1
  · (intro w hSw; go_simp; try with_reducible rfl)
  try simp only [Act.put, ls0, ls1, ls2]
  refine wtk 23 ?_ rfl (.inl ⟨by rfl, ?_⟩) ?_
  rotate_left 1
  · (intro w hSw; go_simp; try with_reducible rfl)
  try simp only [Act.put, ls0, ls1, ls2]
  refine wtk 24 ?_ rfl (.inl ⟨by rfl, ?_⟩) ?_
  rotate_left 1
  · (intro w hSw; go_simp; try with_reducible rfl)
  try simp only [Act.put, ls0, ls1, ls2]
  refine wtk 25 ?_ rfl (.inl ⟨by rfl, ?_⟩) ?_
  rotate_left 1
  · (intro w hSw; go_simp; try with_reducible rfl)
  try simp only [Act.put, ls0, ls1, ls2]
  refine wtk 26 ?_ rfl (.inl ⟨by rfl, ?_⟩) ?_
  rotate_left 1
  · (intro w hSw; go_simp; try with_reducible rfl)
  try simp only [Act.put, ls0, ls1, ls2]
  refine wtk 27 ?_ rfl (.inl ⟨by rfl, ?_⟩) ?_
  rotate_left 1
  · (intro w hSw; go_simp; try with_reducible rfl)
  try simp only [Act.put, ls0, ls1, ls2]
  refine wtk 28 ?_ rfl (.inl ⟨by rfl, ?_⟩) ?_
  rotate_left 1
  · (intro w hSw; go_simp; try with_reducible rfl)
  try simp only [Act.put, ls0, ls1, ls2]
  refine wtk 29 ?_ rfl (.inl ⟨by rfl, ?_⟩) ?_
  rotate_left 1
  · (intro w hSw; go_simp; try with_reducible rfl)
  try simp only [Act.put, ls0, ls1, ls2]
  refine wrd [13] ?_
  refine (arc rfl (fun K hK => ?_) arn)
  go_simp
  go_at_call 108
  refine (fbuffer_any p hp x y hx hy _).mono ?_
  rintro e w9 ⟨rfl, hb⟩
  try go_wp2_with fail
  refine out_gen hK _ _ (fun wz : World => Kp (ButS [W, D] w wz) ∧ Kp (wz.heap[W]? = some (.cells #[.int .i64 p.src, .int .i64 p.rd, .int .i64 p.words, .int .i64 p.period, .slice (some ⟨g, o, none⟩) dn dc, .int .u32 x, .int .u32 y, .int .i64 (i : Int), .bool mk, nx] 117 (0, 0))) ∧ Kp (MemAt wz B D (ws)) ∧ Kp (wz.heap[w.heap.size]? = some (.cells #[.bool false, .int .i64 0, .slice none 0 0, .bool false, .int .i64 0, .bool false, .bool false, .bool false, .int .i64 0] 64 (0, 0))) ∧ wd0.heap.size ≤ wz.heap.size) ⟨⟨ButS.trans HS1.out (ButS.of_below hb)⟩, ⟨blk_below W1.out hb⟩, ⟨(M1.out.below hb)⟩, ⟨blk_below r1.out hb⟩, hb.size⟩ (sx_of1 (ButB.call (And.left hHeld) hb)) (fun wd1 hRn hHn => ?_)
  clear hK K hHeld HS1 W1 M1 r1 hb
  obtain ⟨HS1, W1, M1, r1, hsz1⟩ := hRn
  have hHeld := hHn
  clear hHn
  try simp only [Act.put, ls0, ls1, ls2]
  refine wtk 14 ?_ rfl (.inl ⟨by rfl, ?_⟩) ?_
  rotate_left 1
  · (intro w hSw; go_simp; try with_reducible rfl)
  try simp only [Act.put, ls0, ls1, ls2]
  refine wtk 19 ?_ rfl (.inl ⟨by rfl, ?_⟩) ?_
  rotate_left 1
  · (intro w hSw; go_simp; try with_reducible rfl)
  try simp only [Act.put, ls0, ls1, ls2]
  refine wrd [30] ?_
  refine (arc rfl (fun K hK => ?_) arn)
  go_simp
  go_at_call 100
  refine (fstore_any B D (ws) (p.buf x y + 2 + i) (d) (by omega) h1.2.1 _ M1.out).mono ?_
  rintro e w9 ⟨⟨rr, rfl⟩, rfl⟩
  try go_wp2_with fail
  refine out_gen hK _ _ (fun wz : World => Kp (ButS [W, D] w wz) ∧ Kp (wz.heap[W]? = some (.cells #[.int .i64 p.src, .int .i64 p.rd, .int .i64 p.words, .int .i64 p.period, .slice (some ⟨g, o, none⟩) dn dc, .int .u32 x, .int .u32 y, .int .i64 (i : Int), .bool mk, nx] 117 (0, 0))) ∧ Kp (MemAt wz B D (stW (ws) (p.buf x y + 2 + i) (d))) ∧ Kp (wz.heap[w.heap.size]? = some (.cells #[.bool false, .int .i64 0, .slice none 0 0, .bool false, .int .i64 0, .bool false, .bool false, .bool false, .int .i64 0] 64 (0, 0))) ∧ wd1.heap.size ≤ wz.heap.size) ⟨⟨ButS.set' HS1.out (p := ⟨D, (p.buf x y + 2 + i).toNat, none⟩) (by first | (left; simp; done) | (right; show _ ≤ D; omega)) _⟩, ⟨blk_set_ne (p := ⟨D, (p.buf x y + 2 + i).toNat, none⟩) W1.out (by show W ≠ D; omega) _⟩, ⟨MemAt.st M1.out _ _⟩, ⟨blk_set_ne (p := ⟨D, (p.buf x y + 2 + i).toNat, none⟩) r1.out (by show w.heap.size ≠ D; omega) _⟩, (by simp [World.setCell])⟩ (sx_of1 (ButB.set (And.left hHeld) (p := ⟨D, (p.buf x y + 2 + i).toNat, none⟩) (by first | (left; simp; done) | (right; show _ ≤ D; omega)) _)) (fun wd2 hRn hHn => ?_)
  clear hK K hHeld HS1 W1 M1 r1
  obtain ⟨HS1, W1, M1, r1, hsz2⟩ := hRn
  have hHeld := hHn
  clear hHn
  try simp only [Act.put, ls0, ls1, ls2]
  refine wpAnyH_done (by kernel_rfl) ?_ _
  clear c0 c1 c2 c3 c4 c5 c6 c7 c8 c9 cl cg
  have c0 := cbk W1.out 0 (.int .i64 p.src) rfl
  have c1 := cbk W1.out 1 (.int .i64 p.rd) rfl
  have c2 := cbk W1.out 2 (.int .i64 p.words) rfl
  have c3 := cbk W1.out 3 (.int .i64 p.period) rfl
  have c4 := cbk W1.out 4 (.slice (some ⟨g, o, none⟩) dn dc) rfl
  have c5 := cbk W1.out 5 (.int .u32 x) rfl
  have c6 := cbk W1.out 6 (.int .u32 y) rfl
  have c7 := cbk W1.out 7 (.int .i64 (i : Int)) rfl
  have c8 := cbk W1.out 8 (.bool mk) rfl
  have c9 := cbk W1.out 9 (nx) rfl
  have cf7 := frozen_blk W1.out 7
  have cl := blk_lt W1.out
  have q0 := cbk r1.out 0 (.bool false) rfl
  have q1 := cbk r1.out 1 (.int .i64 0) rfl
  have q2 := cbk r1.out 2 (.slice none 0 0) rfl
  have q3 := cbk r1.out 3 (.bool false) rfl
  have q4 := cbk r1.out 4 (.int .i64 0) rfl
  have q5 := cbk r1.out 5 (.bool false) rfl
  have q6 := cbk r1.out 6 (.bool false) rfl
  have q7 := cbk r1.out 7 (.bool false) rfl
  have q8 := cbk r1.out 8 (.int .i64 0) rfl
  have qf0 := frozen_blk r1.out 0
  have qf1 := frozen_blk r1.out 1
  have qf2 := frozen_blk r1.out 2
  have qf3 := frozen_blk r1.out 3
  have qf4 := frozen_blk r1.out 4
  have qf5 := frozen_blk r1.out 5
  have qf6 := frozen_blk r1.out 6
  have qf7 := frozen_blk r1.out 7
  have qf8 := frozen_blk r1.out 8
  have ql := blk_lt r1.out
  go_wp2_with fail
  go_quiet (fail)
  go_wp2
  refine bodyPost_ret (v := .tuple #[.agg #[.bool false, .int .i64 0, .slice none 0 0, .bool false, .int .i64 0, .bool false, .bool false, .bool false, .int .i64 0], .func (.func 115) #[.pointer (some ⟨W, 0, none⟩)] #[]]) ?_ rfl ?_
  · refine (results_row_tmp (fn := Tryz.f112) (p := 6) (u := 7) (ty := 64) rfl _ _ w.heap.size 64 #[.bool false, .int .i64 0, .slice none 0 0, .bool false, .int .i64 0, .bool false, .bool false, .bool false, .int .i64 0] (0, 0) _ (by go_simp) ((blk_set (blk_set (blk_set (blk_set (blk_set (blk_set (blk_set (blk_set (blk_set (blk_drN (blk_set_ne (p := ⟨W, 7, none⟩) r1.out (by show w.heap.size ≠ W; omega) _)) 0 _) 1 _) 2 _) 3 _) 4 _) 5 _) 6 _) 7 _) 8 _).trans (by rfl)) Tryz.underlying64 rfl (by kernel_rfl)).trans ?_
    rfl
  · exact ⟨rfl, ((blk_set_ne (p := ⟨w.heap.size, 8, none⟩) (blk_set_ne (p := ⟨w.heap.size, 7, none⟩) (blk_set_ne (p := ⟨w.heap.size, 6, none⟩) (blk_set_ne (p := ⟨w.heap.size, 5, none⟩) (blk_set_ne (p := ⟨w.heap.size, 4, none⟩) (blk_set_ne (p := ⟨w.heap.size, 3, none⟩) (blk_set_ne (p := ⟨w.heap.size, 2, none⟩) (blk_set_ne (p := ⟨w.heap.size, 1, none⟩) (blk_set_ne (p := ⟨w.heap.size, 0, none⟩) (blk_drN (blk_set W1.out 7 _)) (by show W ≠ w.heap.size; omega) _) (by show W ≠ w.heap.size; omega) _) (by show W ≠ w.heap.size; omega) _) (by show W ≠ w.heap.size; omega) _) (by show W ≠ w.heap.size; omega) _) (by show W ≠ w.heap.size; omega) _) (by show W ≠ w.heap.size; omega) _) (by show W ≠ w.heap.size; omega) _) (by show W ≠ w.heap.size; omega) _).trans rfl), (MemAt.setne (MemAt.setne (MemAt.setne (MemAt.setne (MemAt.setne (MemAt.setne (MemAt.setne (MemAt.setne (MemAt.setne (MemAt.drN (MemAt.setne M1.out (p := ⟨W, 7, none⟩) (by show B ≠ W; omega) (by show D ≠ W; omega) _)) (p := ⟨w.heap.size, 0, none⟩) (by show B ≠ w.heap.size; omega) (by show D ≠ w.heap.size; omega) _) (p := ⟨w.heap.size, 1, none⟩) (by show B ≠ w.heap.size; omega) (by show D ≠ w.heap.size; omega) _) (p := ⟨w.heap.size, 2, none⟩) (by show B ≠ w.heap.size; omega) (by show D ≠ w.heap.size; omega) _) (p := ⟨w.heap.size, 3, none⟩) (by show B ≠ w.heap.size; omega) (by show D ≠ w.heap.size; omega) _) (p := ⟨w.heap.size, 4, none⟩) (by show B ≠ w.heap.size; omega) (by show D ≠ w.heap.size; omega) _) (p := ⟨w.heap.size, 5, none⟩) (by show B ≠ w.heap.size; omega) (by show D ≠ w.heap.size; omega) _) (p := ⟨w.heap.size, 6, none⟩) (by show B ≠ w.heap.size; omega) (by show D ≠ w.heap.size; omega) _) (p := ⟨w.heap.size, 7, none⟩) (by show B ≠ w.heap.size; omega) (by show D ≠ w.heap.size; omega) _) (p := ⟨w.heap.size, 8, none⟩) (by show B ≠ w.heap.size; omega) (by show D ≠ w.heap.size; omega) _), (ButS.set' (ButS.set' (ButS.set' (ButS.set' (ButS.set' (ButS.set' (ButS.set' (ButS.set' (ButS.set' (ButS.drN (ButS.set HS1.out (p := ⟨W, 7, none⟩) (by simp) _)) (p := ⟨w.heap.size, 0, none⟩) (.inr (Nat.le_refl _)) _) (p := ⟨w.heap.size, 1, none⟩) (.inr (Nat.le_refl _)) _) (p := ⟨w.heap.size, 2, none⟩) (.inr (Nat.le_refl _)) _) (p := ⟨w.heap.size, 3, none⟩) (.inr (Nat.le_refl _)) _) (p := ⟨w.heap.size, 4, none⟩) (.inr (Nat.le_refl _)) _) (p := ⟨w.heap.size, 5, none⟩) (.inr (Nat.le_refl _)) _) (p := ⟨w.heap.size, 6, none⟩) (.inr (Nat.le_refl _)) _) (p := ⟨w.heap.size, 7, none⟩) (.inr (Nat.le_refl _)) _) (p := ⟨w.heap.size, 8, none⟩) (.inr (Nat.le_refl _)) _)⟩
end Go.Proofs.YtmidcnfmphlneaaGreat

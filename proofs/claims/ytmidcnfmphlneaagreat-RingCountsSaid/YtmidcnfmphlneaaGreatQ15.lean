/- Contracts of package ring: a receive lays the steps that are left. -/
import Derived.Test.YtmidcnfmphlneaaGreatQ14
import Derived.ArgAppend
namespace Go.Proofs.YtmidcnfmphlneaaGreat
open Go.RowKit
set_option linter.unusedSimpArgs false
set_option linter.unusedVariables false
def LeftX (w : World) (base : Nat) (e : TypeId) (k : Nat) (v : Value) (n : Nat) (xs : List Value) (ob : Option Nat) : Prop :=
  (n = 0 ∧ xs = [] ∧ ob = none ∧ ∃ ad, v = .slice (some ad) 0 0) ∨ (w.ownsRow base e k v n xs ∧ ob = v.ownBlock)
theorem LeftX.below {w w1 : World} {base : Nat} {e : TypeId} {k : Nat} {v : Value} {n : Nat} {xs : List Value} {ob : Option Nat} (h : LeftX w base e k v n xs ob) (hb : Below w.heap.size w w1) : LeftX w1 base e k v n xs ob := by
  rcases h with h | ⟨h, h2⟩
  · exact .inl h
  · exact .inr ⟨own_below h hb, h2⟩
theorem LeftX.ge {w : World} {base : Nat} {e : TypeId} {k : Nat} {v : Value} {n : Nat} {xs : List Value} {ob : Option Nat} (h : LeftX w base e k v n xs ob) (q : Nat) (hq : ob = some q) : base ≤ q := by
  rcases h with ⟨_, _, h, _⟩ | ⟨h, h2⟩
  · rw [h] at hq; cases hq
  · exact (h.lt q (h2 ▸ hq)).1
theorem step_append_X {P : Program} (w : World) {ops : Array Oper} {o : Oper} {a : Act} {K : Act → World → Prop} {Q : Exit → Act → World → Prop} {E : Prop} (hgd : o.guard = none) (s x : Operand) (t : TypeId)
    (ho : o.op = .call { callee := .builtin .append, args := #[s, x], argTypes := #[t, t] })
    (base : Nat) (e : TypeId) (i : TypeInfo) (z : Value) (size bytes : Nat) (ht : P.underlying t = some (.slice e)) (hi : P.info? e = some i) (hz : i.zero = some z)
    (hsize : i.size = size) (hby : i.bytes = bytes) (hzs : z.cells.size = size) (hsz : 0 < size)
    (v : Value) (n : Nat) (xs : List Value) (ob : Option Nat) (hs : a.eval s = v) (hX : LeftX w base e size v n xs ob)
    (ad : Addr) (m c : Nat) (news : List Value) (hx : a.eval x = .slice (some ad) m c) (hl : news.length = m * size) (hnews : ∀ j u, news[j]? = some u → w.cell? (ad.add j) = some u) (h1 : ∀ u ∈ news, u.oneCell' = true)
    (hm : 0 < m) (h63 : n + m ≤ maxLen) (hbytes : (n + m) * bytes ≤ 140737488355328) (hbase : base ≤ w.heap.size)
    (h : ∀ g cap w', w'.ownsRow base e size (.slice (some ⟨g, 0, none⟩) (n + m) cap) (n + m) (xs ++ news) → w.grownBy w' ob → (ob = some g ∨ w.heap.size ≤ g) → K (a.put o.dst (.slice (some ⟨g, 0, none⟩) (n + m) cap)) w') :
    if Region.wanted o (yielded ops a.tmps) = true then Oper.wp P o a w K Q else E := by
  rcases hX with ⟨rfl, rfl, rfl, ad0, rfl⟩ | ⟨hown, rfl⟩
  · have hw : Region.wanted o (yielded ops a.tmps) = true := by simp [Region.wanted, hgd]
    rw [if_pos hw]
    obtain ⟨v', w', hr, h2, h3⟩ := run_append_arg_grows (P := P) w t o.type e i z size bytes ht hi hz hsize hby hzs hsz ad0 0 0 [] (by simp) (by simp) ad m c news hl hnews (by omega) h63 hbytes
    obtain ⟨m', rfl⟩ : ∃ m', m = m' + 1 := ⟨m - 1, by omega⟩
    have h2' := h2
    rw [← Nat.add_assoc] at h2'
    obtain ⟨g, cap, rfl⟩ := ownsRow_succ h2'
    have hg := (h2.lt g rfl).1
    unfold Oper.wp execOp
    simp only [ho, resolve, invoke, builtin, Sem.run_bind, Sem.run_pure, Result.andThen_ok, List.map_toArray, List.map_cons, List.map_nil, hs, hx, hr]
    exact h g cap w' (own_base h2 hbase) h3 (.inr hg)
  · refine step_append_lies w hgd s x t ho base e i z size bytes ht hi hz hsize hby hzs hsz v n xs hs hown ad m c news hx hl hnews h1 hm h63 hbytes hbase _ rfl fun g cap w' h2 h3 h4 _ => h g cap w' h2 h3 (h4.imp id fun e => Nat.le_of_eq e.symm)
theorem blk_grownO {w w1 : World} {b : Nat} {o : Obj} {ob : Option Nat} (h : w.heap[b]? = some o) (hg : w.grownBy w1 ob) (hne : ∀ q, ob = some q → q ≠ b) : w1.heap[b]? = some o := by
  rw [hg.block b (blk_lt h) fun he => hne b he.symm rfl]; exact h
theorem MemAt.grownO {w w1 : World} {B D : Nat} {ws : List Int} {ob : Option Nat} (h : MemAt w B D ws) (hg : w.grownBy w1 ob) (h1 : ∀ q, ob = some q → q ≠ B ∧ q ≠ D) : MemAt w1 B D ws := ⟨blk_grownO h.head hg fun q hq => (h1 q hq).1, blk_grownO h.words hg fun q hq => (h1 q hq).2, h.len⟩
theorem ButS.grownO {S : List Nat} {W0 W W1 : World} {ob : Option Nat} (h : ButS S W0 W) (hg : W.grownBy W1 ob) (hs : ∀ q, ob = some q → W0.heap.size ≤ q) : ButS S W0 W1 :=
  ⟨hg.os.trans h.os, hg.tape.trans h.tape, hg.output.trans h.output, Nat.le_trans h.size hg.size, fun b hb hn => (hg.block b (Nat.lt_of_lt_of_le hb h.size) fun he => by have := hs b he.symm; omega).trans (h.block b hb hn)⟩
theorem ButB.grownO {B : Nat} {S : List Nat} {W0 W W1 : World} {ob : Option Nat} (h : ButB B S W0 W) (hg : W.grownBy W1 ob) (hs : ∀ q, ob = some q → B ≤ q) : ButB B S W0 W1 :=
  ⟨h.le, hg.os.trans h.os, hg.tape.trans h.tape, hg.output.trans h.output, Nat.le_trans h.size hg.size, fun b hb hn => (hg.block b (by have := h.le; have := h.size; omega) fun he => by have := hs b he.symm; omega).trans (h.block b hb hn)⟩
theorem blk_low {w w1 : World} {b : Nat} {o : Obj} (h : w.heap[b]? = some o) (hb : Below w.heap.size w w1) : w1.heap[b]? = some o := blk_below h hb
set_option maxRecDepth 100000 in
set_option maxHeartbeats 4000000 in
theorem rglenA_any (q : Qu) (B BB D QB OB WB EB O : Nat) (own : Int) (ad0 : Addr) (fw fe : FuncId) (cw ce : Array Value) (ws : List Int) (hq : q.ok ws.length) (hws : Words ws) (L : Nat) (hL : (L : Int) = ldW ws q.cell) (hx : ldW ws q.cell ≤ q.words) (w : World) (hM : MemAt w B D ws) (hOB : w.heap[OB]? = some (.cells #[.pointer (some ⟨O, 0, none⟩)] 75 (0, 0))) (hO : w.heap[O]? = some (.cells #[.int .u32 own, (.slice (some ad0) 0 0)] 132 (0, 0))) (hQB : w.heap[QB]? = some (.cells q.cells 124 (0, 0))) (hWB : w.heap[WB]? = some (.cells #[Value.func (.func fw) #[] cw] 129 (0, 0))) (hEB : w.heap[EB]? = some (.cells #[Value.func (.func fe) #[] ce] 129 (0, 0))) : Calls Tryz.prog 73 #[.agg #[.pointer (some ⟨B, 0, none⟩), .pointer (some ⟨BB, 0, none⟩)], .pointer (some ⟨QB, 0, none⟩), .pointer (some ⟨OB, 0, none⟩), .pointer (some ⟨WB, 0, none⟩), .pointer (some ⟨EB, 0, none⟩)] w fun e w' => ∃ g cap, e = .returned (.agg #[.bool false, .int .i64 0, .slice none 0 0, .bool false, .int .i64 0, .bool false, .bool false, .bool false, .int .i64 0]) ∧ w'.heap[O]? = some (.cells #[.int .u32 own, .slice (some ⟨g, 0, none⟩) (L + 1) cap] 132 (0, 0)) ∧ w'.ownsRow w.heap.size 133 1 (.slice (some ⟨g, 0, none⟩) (L + 1) cap) (L + 1) (List.replicate L (Value.func (.func fw) #[] cw) ++ [Value.func (.func fe) #[] ce]) ∧ MemAt w' B D ws ∧ ButS [O] w w' := by
  have HM := Kp.mk hM
  have lD := blk_lt hM.words
  have lB := blk_lt hM.head
  obtain ⟨i0, hi0, hz0, hz1, hz2⟩ := info_parts Tryz.infoStep
  have hqc := hq.cell
  have hqw := hq.words
  have hlen := hM.len
  have hlv := ldW_word hws q.cell
  have hOBO : OB ≠ O := by
    rintro rfl
    rw [hO] at hOB
    simp at hOB
  have hQBO : QB ≠ O := by
    rintro rfl
    rw [hO] at hQB
    simp at hQB
  have hWBO : WB ≠ O := by
    rintro rfl
    rw [hO] at hWB
    simp at hWB
  have hEBO : EB ≠ O := by
    rintro rfl
    rw [hO] at hEB
    simp at hEB
  have hOB_ : O ≠ B := by
    rintro rfl
    rw [hM.head] at hO
    simp at hO
  have hOD_ : O ≠ D := by
    rintro rfl
    rw [hM.words] at hO
    simp at hO
  have lO := blk_lt hO
  have lOB := blk_lt hOB
  have lQB := blk_lt hQB
  have lWB := blk_lt hWB
  have lEB := blk_lt hEB
  obtain ⟨x, hxx⟩ : ∃ x, ldW ws q.cell = x := ⟨_, rfl⟩
  rw [hxx] at hx hlv hL
  have HX := Kp.mk hxx
  have n1 : IntKind.u32.wrap q.words = q.words := IntWalk.u32_in _ (by omega)
  have hL17 : L ≤ 16 := by omega
  have HLL := Kp.mk hL
  have HOB := Kp.mk hOB
  have HO := Kp.mk hO
  have HQB := Kp.mk hQB
  have HWB := Kp.mk hWB
  have HEB := Kp.mk hEB
  clear hM hOB hO hQB hWB hEB hq hws hxx hL
  go_enter Tryz.func73, Tryz.ntmps73
  have HB0 : Kp (Below w.heap.size w w) := ⟨Below.refl _ _⟩
  go_wp2_with fail
  have wb1 : Kp (((w.alloc (.cells #[.pointer (some ⟨B, 0, none⟩), .pointer (some ⟨BB, 0, none⟩)] 127)).alloc (.cells #[.bool false, .int .i64 0, .slice none 0 0, .bool false, .int .i64 0, .bool false, .bool false, .bool false, .int .i64 0] 64)).heap[w.heap.size]? = some (.cells #[.pointer (some ⟨B, 0, none⟩), .pointer (some ⟨BB, 0, none⟩)] 127 (0, 0))) := ⟨(blk_al (blk_new _ _) _)⟩
  have d1 : Kp (((w.alloc (.cells #[.pointer (some ⟨B, 0, none⟩), .pointer (some ⟨BB, 0, none⟩)] 127)).alloc (.cells #[.bool false, .int .i64 0, .slice none 0 0, .bool false, .int .i64 0, .bool false, .bool false, .bool false, .int .i64 0] 64)).heap[w.heap.size + 1]? = some (.cells #[.bool false, .int .i64 0, .slice none 0 0, .bool false, .int .i64 0, .bool false, .bool false, .bool false, .int .i64 0] 64 (0, 0))) := ⟨(blk_at (w := (w.alloc (.cells #[.pointer (some ⟨B, 0, none⟩), .pointer (some ⟨BB, 0, none⟩)] 127))) (by simp) _)⟩
  have HB1 : Kp (Below w.heap.size w ((w.alloc (.cells #[.pointer (some ⟨B, 0, none⟩), .pointer (some ⟨BB, 0, none⟩)] 127)).alloc (.cells #[.bool false, .int .i64 0, .slice none 0 0, .bool false, .int .i64 0, .bool false, .bool false, .bool false, .int .i64 0] 64))) := ⟨(below_al (below_al HB0.out _) _)⟩
  clear HB0
  generalize ((w.alloc (.cells #[.pointer (some ⟨B, 0, none⟩), .pointer (some ⟨BB, 0, none⟩)] 127)).alloc (.cells #[.bool false, .int .i64 0, .slice none 0 0, .bool false, .int .i64 0, .bool false, .bool false, .bool false, .int .i64 0] 64)) = w1 at wb1 d1 HB1 ⊢
  have wbc0 := cbk wb1.out 0 (.pointer (some ⟨B, 0, none⟩)) rfl
  have wbc1 := cbk wb1.out 1 (.pointer (some ⟨BB, 0, none⟩)) rfl
  have wbl := blk_lt wb1.out
  have dc0 := cbk d1.out 0 (.bool false) rfl
  have dc1 := cbk d1.out 1 (.int .i64 0) rfl
  have dc2 := cbk d1.out 2 (.slice none 0 0) rfl
  have dc3 := cbk d1.out 3 (.bool false) rfl
  have dc4 := cbk d1.out 4 (.int .i64 0) rfl
  have dc5 := cbk d1.out 5 (.bool false) rfl
  have dc6 := cbk d1.out 6 (.bool false) rfl
  have dc7 := cbk d1.out 7 (.bool false) rfl
  have dc8 := cbk d1.out 8 (.int .i64 0) rfl
  have dl := blk_lt d1.out
  have qb0 : w1.cell? ⟨QB, 0, none⟩ = some (.int .i64 q.k) := (HB1.out.cell (p := ⟨QB, 0, none⟩) lQB).trans ((cell_blk HQB.out 0).trans rfl)
  have qb1 : w1.cell? ⟨QB, 1, none⟩ = some (.int .i64 q.tail) := (HB1.out.cell (p := ⟨QB, 1, none⟩) lQB).trans ((cell_blk HQB.out 1).trans rfl)
  have qb2 : w1.cell? ⟨QB, 2, none⟩ = some (.int .i64 q.head) := (HB1.out.cell (p := ⟨QB, 2, none⟩) lQB).trans ((cell_blk HQB.out 2).trans rfl)
  have qb3 : w1.cell? ⟨QB, 3, none⟩ = some (.int .i64 q.cell) := (HB1.out.cell (p := ⟨QB, 3, none⟩) lQB).trans ((cell_blk HQB.out 3).trans rfl)
  have qb4 : w1.cell? ⟨QB, 4, none⟩ = some (.int .i64 q.words) := (HB1.out.cell (p := ⟨QB, 4, none⟩) lQB).trans ((cell_blk HQB.out 4).trans rfl)
  have qb5 : w1.cell? ⟨QB, 5, none⟩ = some (.int .i64 q.deep) := (HB1.out.cell (p := ⟨QB, 5, none⟩) lQB).trans ((cell_blk HQB.out 5).trans rfl)
  have ql : QB < w1.heap.size := Nat.lt_of_lt_of_le lQB HB1.out.size
  refine held_start_gen (S := (fun w' : World => ButB (w1.heap.size) [] w1 w' ∧ ∀ bb o, bb < w1.heap.size → w'.cell? ⟨bb, o, none⟩ = w1.cell? ⟨bb, o, none⟩)) (by kernel_rfl) (fun wz : World => Kp (Below w.heap.size w wz) ∧ Kp (wz.heap[w.heap.size]? = some (.cells #[.pointer (some ⟨B, 0, none⟩), .pointer (some ⟨BB, 0, none⟩)] 127 (0, 0))) ∧ Kp (wz.heap[w.heap.size + 1]? = some (.cells #[.bool false, .int .i64 0, .slice none 0 0, .bool false, .int .i64 0, .bool false, .bool false, .bool false, .int .i64 0] 64 (0, 0))) ∧ w1.heap.size ≤ wz.heap.size) ⟨⟨below_dr HB1.out⟩, ⟨blk_dr wb1.out⟩, ⟨blk_dr d1.out⟩, Nat.le_refl _⟩ (sx_of0 (ButB.dr (ButB.refl _ (by omega)))) (fun wd0 hRn hHeld => ?_)
  clear HB1 wb1 d1
  obtain ⟨HB1, wb1, d1, hsz⟩ := hRn
  refine wtk 0 ?_ rfl (.inl ⟨by rfl, ?_⟩) ?_
  rotate_left 1
  · (intro w hSw; go_simp; try with_reducible rfl)
  try simp only [Act.put, ls0, ls1, ls2]
  refine wtk 1 ?_ rfl (.inl ⟨by rfl, ?_⟩) ?_
  rotate_left 1
  · (intro w hSw; go_simp; try with_reducible rfl)
  try simp only [Act.put, ls0, ls1, ls2]
  refine wtk 2 ?_ rfl (.inl ⟨by rfl, ?_⟩) ?_
  rotate_left 1
  · (intro w hSw; go_simp; try with_reducible rfl)
  try simp only [Act.put, ls0, ls1, ls2]
  refine wtk 4 ?_ rfl (.inl ⟨by rfl, ?_⟩) ?_
  rotate_left 1
  · (intro w hSw; go_simp; try with_reducible rfl)
  try simp only [Act.put, ls0, ls1, ls2]
  refine wtk 5 ?_ rfl (.inl ⟨by rfl, ?_⟩) ?_
  rotate_left 1
  · (intro w hSw; go_simp; try with_reducible rfl)
  try simp only [Act.put, ls0, ls1, ls2]
  refine wtk 6 ?_ rfl (.inl ⟨by rfl, ?_⟩) ?_
  rotate_left 1
  · (intro w hSw; go_simp; try with_reducible rfl)
  try simp only [Act.put, ls0, ls1, ls2]
  refine wtk 8 ?_ rfl (.inl ⟨by rfl, ?_⟩) ?_
  rotate_left 1
  · (intro w hSw; go_simp; try with_reducible rfl)
  try simp only [Act.put, ls0, ls1, ls2]
  refine wrd [3] ?_
  refine (arc rfl (fun K hK => ?_) arn)
  go_simp
  go_at_call 61
  refine (rgload_any B BB D ws q.cell (by omega) (by omega) _ (HM.out.below HB1.out)).mono ?_
  rw [HX.out]
  rintro e w9 ⟨rfl, hb⟩
  try go_wp2_with fail
  refine out_gen hK _ _ (fun wz : World => Kp (Below w.heap.size w wz) ∧ Kp (wz.heap[w.heap.size]? = some (.cells #[.pointer (some ⟨B, 0, none⟩), .pointer (some ⟨BB, 0, none⟩)] 127 (0, 0))) ∧ Kp (wz.heap[w.heap.size + 1]? = some (.cells #[.bool false, .int .i64 0, .slice none 0 0, .bool false, .int .i64 0, .bool false, .bool false, .bool false, .int .i64 0] 64 (0, 0))) ∧ wd0.heap.size ≤ wz.heap.size) ⟨⟨below_call HB1.out hb⟩, ⟨blk_below wb1.out hb⟩, ⟨blk_below d1.out hb⟩, hb.size⟩ (sx_of0 (ButB.call (And.left hHeld) hb)) (fun wd1 hRn hHn => ?_)
  clear hK K hHeld HB1 wb1 d1 hb
  obtain ⟨HB1, wb1, d1, hsz1⟩ := hRn
  have hHeld := hHn
  clear hHn
  try simp only [Act.put, ls0, ls1, ls2]
  refine wtk 7 ?_ rfl (.inl ⟨by rfl, ?_⟩) ?_
  rotate_left 1
  · (intro w hSw; go_simp; try with_reducible rfl)
  try simp only [Act.put, ls0, ls1, ls2]
  refine wpAnyH_done (by kernel_rfl) ?_ _
  clear hHeld ql qb0 qb1 qb2 qb3 qb4 qb5 wbc0 wbc1 wbl dc0 dc1 dc2 dc3 dc4 dc5 dc6 dc7 dc8 dl
  have HO1 : Kp (wd1.heap[O]? = some (.cells #[.int .u32 own, .slice (some ad0) 0 0] 132 (0, 0))) := ⟨blk_low HO.out HB1.out⟩
  have HM1 : Kp (MemAt wd1 B D ws) := ⟨⟨blk_low HM.out.head HB1.out, blk_low HM.out.words HB1.out, HM.out.len⟩⟩
  have HS1 : Kp (ButS [O] w wd1) := ⟨ButS.of_below HB1.out⟩
  have d1 := d1
  have hszb : w.heap.size + 1 < wd1.heap.size := blk_lt d1.out
  clear HB1 wb1 d1
  obtain ⟨w2, hw2⟩ : ∃ w2, wd1 = w2 := ⟨_, rfl⟩
  rw [hw2] at HO1 HM1 HS1 d1 hszb ⊢
  clear hw2
  obtain ⟨bs, hbs⟩ : ∃ bs, w2.heap.size = bs := ⟨_, rfl⟩
  have LX : Kp (LeftX w2 bs 133 1 (.slice (some ad0) 0 0) 0 (List.replicate 0 (Value.func (.func fw) #[] cw)) none) := ⟨.inl ⟨rfl, rfl, rfl, ad0, rfl⟩⟩
  have HBS : Kp (bs ≤ w2.heap.size) := ⟨Nat.le_of_eq hbs.symm⟩
  rw [hbs] at hszb
  clear hbs
  go_wp2_with fail
  go_loopw [15] (fun i wr => ∃ (k : Nat) (v : Value) (ob : Option Nat), k ≤ L ∧ i = .int .u32 k ∧ Kp (wr.heap[O]? = some (.cells #[.int .u32 own, v] 132 (0, 0))) ∧ Kp (LeftX wr bs 133 1 v k (List.replicate k (Value.func (.func fw) #[] cw)) ob) ∧ Kp (MemAt wr B D ws) ∧ Kp (wr.heap[w.heap.size + 1]? = some (.cells #[.bool false, .int .i64 0, .slice none 0 0, .bool false, .int .i64 0, .bool false, .bool false, .bool false, .int .i64 0] 64 (0, 0))) ∧ Kp (ButS [O] w wr) ∧ Kp (bs ≤ wr.heap.size)) (fun i wr => L - (intOf i).toNat)
  case atStart => exact ⟨0, _, none, Nat.zero_le _, rfl, HO1, LX, HM1, d1, HS1, HBS⟩
  case round =>
    clear HO1 LX HM1 d1 HS1 HBS
    obtain ⟨k, v, ob, hk, rfl, HO1, LX, HM1, d1, HS1, HBS⟩ := hrel
    have hobg := LX.out.ge
    have hbsr := HBS.out
    have hLx := HLL.out
    have ob0 : wr.cell? ⟨OB, 0, none⟩ = some (.pointer (some ⟨O, 0, none⟩)) := (HS1.out.cell lOB (by simpa using hOBO)).trans ((cell_blk HOB.out 0).trans rfl)
    have lOBr : OB < wr.heap.size := Nat.lt_of_lt_of_le lOB HS1.out.size
    have lOBb : OB < bs := by omega
    have wb0 : wr.cell? ⟨WB, 0, none⟩ = some (Value.func (.func fw) #[] cw) := (HS1.out.cell lWB (by simpa using hWBO)).trans ((cell_blk HWB.out 0).trans rfl)
    have lWBr : WB < wr.heap.size := Nat.lt_of_lt_of_le lWB HS1.out.size
    have lWBb : WB < bs := by omega
    have eb0 : wr.cell? ⟨EB, 0, none⟩ = some (Value.func (.func fe) #[] ce) := (HS1.out.cell lEB (by simpa using hEBO)).trans ((cell_blk HEB.out 0).trans rfl)
    have lEBr : EB < wr.heap.size := Nat.lt_of_lt_of_le lEB HS1.out.size
    have lEBb : EB < bs := by omega
    by_cases hlt : k < L
    · have hkx : (k : Int) < x := by omega
      have hkx2 : IntKind.u32.wrap ((k : Int) + 1) = (k : Int) + 1 := IntWalk.u32_in _ (by omega)
      clear hLx
      go_wp2_with fail
      refine held_start_gen (S := (fun w' : World => ButB (bs) [O] wr w' ∧ ∀ bb o, bb < bs → bb ≠ O → w'.cell? ⟨bb, o, none⟩ = wr.cell? ⟨bb, o, none⟩)) (by kernel_rfl) (fun wz : World => Kp (wz.heap[O]? = some (.cells #[.int .u32 own, v] 132 (0, 0))) ∧ Kp (LeftX wz bs 133 1 v k (List.replicate k (Value.func (.func fw) #[] cw)) ob) ∧ Kp (MemAt wz B D ws) ∧ Kp (wz.heap[w.heap.size + 1]? = some (.cells #[.bool false, .int .i64 0, .slice none 0 0, .bool false, .int .i64 0, .bool false, .bool false, .bool false, .int .i64 0] 64 (0, 0))) ∧ Kp (ButS [O] w wz) ∧ wr.heap.size ≤ wz.heap.size) ⟨⟨blk_dr HO1.out⟩, ⟨LX.out.below (below_dr (Below.refl _ _))⟩, ⟨HM1.out.below (below_dr (Below.refl _ _))⟩, ⟨blk_dr d1.out⟩, ⟨ButS.dr HS1.out⟩, Nat.le_refl _⟩ (sx_of1 (ButB.dr (ButB.refl _ (by omega)))) (fun wd0 hRn hHeld => ?_)
      clear HO1 LX HM1 d1 HS1
      obtain ⟨HO1, LX, HM1, d1, HS1, hsz⟩ := hRn
      refine wtk 0 ?_ rfl (.inl ⟨by rfl, ?_⟩) ?_
      rotate_left 1
      · (intro w hSw; go_simp; try with_reducible rfl)
      try simp only [Act.put, ls0, ls1, ls2]
      refine wtk 1 ?_ rfl (.inl ⟨by rfl, ?_⟩) ?_
      rotate_left 1
      · (intro w hSw; go_simp; try with_reducible rfl)
      try simp only [Act.put, ls0, ls1, ls2]
      refine wtk 2 ?_ rfl (.inl ⟨by rfl, ?_⟩) ?_
      rotate_left 1
      · (intro w hSw; go_simp; try with_reducible rfl)
      try simp only [Act.put, ls0, ls1, ls2]
      refine wtk 3 ?_ rfl (.inl ⟨by rfl, ?_⟩) ?_
      rotate_left 1
      · (intro w hSw; go_simp; try with_reducible rfl)
      try simp only [Act.put, ls0, ls1, ls2]
      refine wtk 5 ?_ rfl (.inl ⟨by rfl, ?_⟩) ?_
      rotate_left 1
      · (intro w hSw; go_simp; try with_reducible rfl)
      try simp only [Act.put, ls0, ls1, ls2]
      refine wrd [4, 6] ?_
      refine (arc rfl (fun K hK => ?_) (arc rfl (fun K hK => ?_) arn))
      · have sd1 := cbk HO1.out 1 (v) rfl
        have sl := blk_lt HO1.out
        go_simp
        try go_wp2_with fail
        refine out_gen hK _ _ (fun wz : World => Kp (wz.heap[O]? = some (.cells #[.int .u32 own, v] 132 (0, 0))) ∧ Kp (LeftX wz bs 133 1 v k (List.replicate k (Value.func (.func fw) #[] cw)) ob) ∧ Kp (MemAt wz B D ws) ∧ Kp (wz.heap[w.heap.size + 1]? = some (.cells #[.bool false, .int .i64 0, .slice none 0 0, .bool false, .int .i64 0, .bool false, .bool false, .bool false, .int .i64 0] 64 (0, 0))) ∧ Kp (ButS [O] w wz) ∧ wd0.heap.size ≤ wz.heap.size) ⟨⟨HO1.out⟩, ⟨LX.out⟩, ⟨HM1.out⟩, ⟨d1.out⟩, ⟨HS1.out⟩, Nat.le_refl _⟩ (sx_of1 ((And.left hHeld))) (fun wd1 hRn hHn => ?_)
        clear hK K hHeld HO1 LX HM1 d1 HS1  sd1 sl
        obtain ⟨HO1, LX, HM1, d1, HS1, hsz1⟩ := hRn
        have hHeld := hHn
        clear hHn
        try simp only [Act.put, ls0, ls1, ls2]
        refine wrd [6] ?_
        refine (arc rfl (fun K hK => ?_) arn)
        have ge_qa : wr.heap.size ≤ wd1.heap.size := (And.left hHeld).size
        go_simp
        try go_wp2_with fail
        refine out_gen hK _ _ (fun wz : World => Kp (wz.heap[O]? = some (.cells #[.int .u32 own, v] 132 (0, 0))) ∧ Kp (LeftX wz bs 133 1 v k (List.replicate k (Value.func (.func fw) #[] cw)) ob) ∧ Kp (MemAt wz B D ws) ∧ Kp (wz.heap[w.heap.size + 1]? = some (.cells #[.bool false, .int .i64 0, .slice none 0 0, .bool false, .int .i64 0, .bool false, .bool false, .bool false, .int .i64 0] 64 (0, 0))) ∧ Kp (ButS [O] w wz) ∧ Kp (wz.heap[wd1.heap.size]? = some (.cells #[Value.func (.func fw) #[] cw] 133 (0, 0))) ∧ wd1.heap.size < wz.heap.size) ⟨⟨blk_al HO1.out _⟩, ⟨LX.out.below (below_al (Below.refl _ _) _)⟩, ⟨HM1.out.al _⟩, ⟨blk_al d1.out _⟩, ⟨ButS.al HS1.out _⟩, ⟨blk_new wd1 _⟩, (by simp)⟩ (sx_of1 (ButB.al (And.left hHeld) _)) (fun wd2 hRn hHn => ?_)
        clear hK K hHeld HO1 LX HM1 d1 HS1
        obtain ⟨HO1, LX, HM1, d1, HS1, qa, hsz2⟩ := hRn
        have hHeld := hHn
        clear hHn
        try simp only [Act.put, ls0, ls1, ls2]
        have lt_qa := blk_lt qa.out
        refine wrd [7] ?_
        refine (arc rfl (fun K hK => ?_) arn)
        have hws := (And.left hHeld).size
        refine step_append_X _ (by rfl) _ _ 130 (by rfl) (bs) 133 i0 .nilFunc 1 8 Tryz.underlying130 hi0 hz0 hz1 hz2 (by rfl) (by decide) _ _ _ _ (by rfl) LX.out _ 1 _ [Value.func (.func fw) #[] cw] (by rfl) rfl (World.news_of_block qa.out) (by simp [Value.oneCell', FV]) (by decide) (by unfold maxLen; omega) (by omega) (by omega) ?_
        intro g cap w9 hown hgrow hob
        refine out_gen hK _ _ (fun wz : World => Kp (wz.heap[O]? = some (.cells #[.int .u32 own, v] 132 (0, 0))) ∧ Kp (wz.ownsRow (bs) 133 1 (.slice (some ⟨g, 0, none⟩) (k + 1) cap) (k + 1) (List.replicate (k + 1) (Value.func (.func fw) #[] cw))) ∧ Kp (MemAt wz B D ws) ∧ Kp (wz.heap[w.heap.size + 1]? = some (.cells #[.bool false, .int .i64 0, .slice none 0 0, .bool false, .int .i64 0, .bool false, .bool false, .bool false, .int .i64 0] 64 (0, 0))) ∧ Kp (ButS [O] w wz) ∧ wd2.heap.size ≤ wz.heap.size) ⟨⟨blk_grownO HO1.out hgrow (fun q hq => by have := hobg q hq; omega)⟩, ⟨by have h := hown; rw [← List.replicate_succ'] at h; exact h⟩, ⟨MemAt.grownO HM1.out hgrow (fun q hq => by have := hobg q hq; omega)⟩, ⟨blk_grownO d1.out hgrow (fun q hq => by have := hobg q hq; omega)⟩, ⟨ButS.grownO HS1.out hgrow (fun q hq => by have := hobg q hq; omega)⟩, hgrow.size⟩ (sx_of1 (ButB.grownO (And.left hHeld) hgrow hobg)) (fun wd3 hRn hHn => ?_)
        clear hK K hHeld HO1 LX HM1 d1 HS1 qa hown hgrow hws hob
        obtain ⟨HO1, LX, HM1, d1, HS1, hsz3⟩ := hRn
        have hHeld := hHn
        clear hHn
        try simp only [Act.put, ls0, ls1, ls2]
        refine wtk 8 ?_ rfl (.inl ⟨by rfl, ?_⟩) ?_
        rotate_left 1
        · (intro w hSw; go_simp; try with_reducible rfl)
        try simp only [Act.put, ls0, ls1, ls2]
        refine wtk 9 ?_ rfl (.inl ⟨by rfl, ?_⟩) ?_
        rotate_left 1
        · (intro w hSw; go_simp; try with_reducible rfl)
        try simp only [Act.put, ls0, ls1, ls2]
        refine wrd [10] ?_
        refine (arc rfl (fun K hK => ?_) arn)
        have sd := cbk HO1.out 1 (v) rfl
        have sf := frozen_blk HO1.out 1
        have sl := blk_lt HO1.out
        go_simp
        try go_wp2_with fail
        refine out_gen hK _ _ (fun wz : World => Kp (wz.heap[O]? = some (.cells #[.int .u32 own, .slice (some ⟨g, 0, none⟩) (k + 1) cap] 132 (0, 0))) ∧ Kp (wz.ownsRow (bs) 133 1 (.slice (some ⟨g, 0, none⟩) (k + 1) cap) (k + 1) (List.replicate (k + 1) (Value.func (.func fw) #[] cw))) ∧ Kp (MemAt wz B D ws) ∧ Kp (wz.heap[w.heap.size + 1]? = some (.cells #[.bool false, .int .i64 0, .slice none 0 0, .bool false, .int .i64 0, .bool false, .bool false, .bool false, .int .i64 0] 64 (0, 0))) ∧ Kp (ButS [O] w wz) ∧ wd3.heap.size ≤ wz.heap.size) ⟨⟨(blk_set HO1.out 1 _).trans rfl⟩, ⟨own_set_ne LX.out (p := ⟨O, 1, none⟩) (by show O < bs; omega) _⟩, ⟨MemAt.setne HM1.out (p := ⟨O, 1, none⟩) (by show B ≠ O; omega) (by show D ≠ O; omega) _⟩, ⟨blk_set_ne (p := ⟨O, 1, none⟩) d1.out (by show w.heap.size + 1 ≠ O; omega) _⟩, ⟨ButS.set' HS1.out (p := ⟨O, 1, none⟩) (by first | (left; simp; done) | (right; show _ ≤ O; omega)) _⟩, (by simp [World.setCell])⟩ (sx_of1 (ButB.set (And.left hHeld) (p := ⟨O, 1, none⟩) (by first | (left; simp; done) | (right; show _ ≤ O; omega)) _)) (fun wd4 hRn hHn => ?_)
        clear hK K hHeld HO1 LX HM1 d1 HS1 sd sf sl
        obtain ⟨HO1, LX, HM1, d1, HS1, hsz4⟩ := hRn
        have hHeld := hHn
        clear hHn
        try simp only [Act.put, ls0, ls1, ls2]
        refine wpAnyH_done (by kernel_rfl) ?_ _
        clear hHeld
        have LX2 : Kp (LeftX wd4 bs 133 1 (.slice (some ⟨g, 0, none⟩) (k + 1) cap) (k + 1) (List.replicate (k + 1) (Value.func (.func fw) #[] cw)) (some g)) := ⟨.inr ⟨LX.out, rfl⟩⟩
        have HBS2 : Kp (bs ≤ wd4.heap.size) := ⟨by have := HBS.out; have := HS1.out.size; omega⟩
        clear LX
        go_wp2
        go_roundw
        case rel => exact ⟨k + 1, _, some g, by omega, by go_num, HO1, LX2, HM1, d1, HS1, HBS2⟩
        case measure => simp [intOf]; omega
      · have ge_qa : wr.heap.size ≤ wd0.heap.size := (And.left hHeld).size
        go_simp
        try go_wp2_with fail
        refine out_gen hK _ _ (fun wz : World => Kp (wz.heap[O]? = some (.cells #[.int .u32 own, v] 132 (0, 0))) ∧ Kp (LeftX wz bs 133 1 v k (List.replicate k (Value.func (.func fw) #[] cw)) ob) ∧ Kp (MemAt wz B D ws) ∧ Kp (wz.heap[w.heap.size + 1]? = some (.cells #[.bool false, .int .i64 0, .slice none 0 0, .bool false, .int .i64 0, .bool false, .bool false, .bool false, .int .i64 0] 64 (0, 0))) ∧ Kp (ButS [O] w wz) ∧ Kp (wz.heap[wd0.heap.size]? = some (.cells #[Value.func (.func fw) #[] cw] 133 (0, 0))) ∧ wd0.heap.size < wz.heap.size) ⟨⟨blk_al HO1.out _⟩, ⟨LX.out.below (below_al (Below.refl _ _) _)⟩, ⟨HM1.out.al _⟩, ⟨blk_al d1.out _⟩, ⟨ButS.al HS1.out _⟩, ⟨blk_new wd0 _⟩, (by simp)⟩ (sx_of1 (ButB.al (And.left hHeld) _)) (fun wd5 hRn hHn => ?_)
        clear hK K hHeld HO1 LX HM1 d1 HS1
        obtain ⟨HO1, LX, HM1, d1, HS1, qa, hsz5⟩ := hRn
        have hHeld := hHn
        clear hHn
        try simp only [Act.put, ls0, ls1, ls2]
        have lt_qa := blk_lt qa.out
        refine wrd [4] ?_
        refine (arc rfl (fun K hK => ?_) arn)
        have sd1 := cbk HO1.out 1 (v) rfl
        have sl := blk_lt HO1.out
        go_simp
        try go_wp2_with fail
        refine out_gen hK _ _ (fun wz : World => Kp (wz.heap[O]? = some (.cells #[.int .u32 own, v] 132 (0, 0))) ∧ Kp (LeftX wz bs 133 1 v k (List.replicate k (Value.func (.func fw) #[] cw)) ob) ∧ Kp (MemAt wz B D ws) ∧ Kp (wz.heap[w.heap.size + 1]? = some (.cells #[.bool false, .int .i64 0, .slice none 0 0, .bool false, .int .i64 0, .bool false, .bool false, .bool false, .int .i64 0] 64 (0, 0))) ∧ Kp (ButS [O] w wz) ∧ Kp (wz.heap[wd0.heap.size]? = some (.cells #[Value.func (.func fw) #[] cw] 133 (0, 0))) ∧ wd5.heap.size ≤ wz.heap.size) ⟨⟨HO1.out⟩, ⟨LX.out⟩, ⟨HM1.out⟩, ⟨d1.out⟩, ⟨HS1.out⟩, ⟨qa.out⟩, Nat.le_refl _⟩ (sx_of1 ((And.left hHeld))) (fun wd6 hRn hHn => ?_)
        clear hK K hHeld HO1 LX HM1 d1 HS1 qa  sd1 sl
        obtain ⟨HO1, LX, HM1, d1, HS1, qa, hsz6⟩ := hRn
        have hHeld := hHn
        clear hHn
        try simp only [Act.put, ls0, ls1, ls2]
        refine wrd [7] ?_
        refine (arc rfl (fun K hK => ?_) arn)
        have hws := (And.left hHeld).size
        refine step_append_X _ (by rfl) _ _ 130 (by rfl) (bs) 133 i0 .nilFunc 1 8 Tryz.underlying130 hi0 hz0 hz1 hz2 (by rfl) (by decide) _ _ _ _ (by rfl) LX.out _ 1 _ [Value.func (.func fw) #[] cw] (by rfl) rfl (World.news_of_block qa.out) (by simp [Value.oneCell', FV]) (by decide) (by unfold maxLen; omega) (by omega) (by omega) ?_
        intro g cap w9 hown hgrow hob
        refine out_gen hK _ _ (fun wz : World => Kp (wz.heap[O]? = some (.cells #[.int .u32 own, v] 132 (0, 0))) ∧ Kp (wz.ownsRow (bs) 133 1 (.slice (some ⟨g, 0, none⟩) (k + 1) cap) (k + 1) (List.replicate (k + 1) (Value.func (.func fw) #[] cw))) ∧ Kp (MemAt wz B D ws) ∧ Kp (wz.heap[w.heap.size + 1]? = some (.cells #[.bool false, .int .i64 0, .slice none 0 0, .bool false, .int .i64 0, .bool false, .bool false, .bool false, .int .i64 0] 64 (0, 0))) ∧ Kp (ButS [O] w wz) ∧ wd6.heap.size ≤ wz.heap.size) ⟨⟨blk_grownO HO1.out hgrow (fun q hq => by have := hobg q hq; omega)⟩, ⟨by have h := hown; rw [← List.replicate_succ'] at h; exact h⟩, ⟨MemAt.grownO HM1.out hgrow (fun q hq => by have := hobg q hq; omega)⟩, ⟨blk_grownO d1.out hgrow (fun q hq => by have := hobg q hq; omega)⟩, ⟨ButS.grownO HS1.out hgrow (fun q hq => by have := hobg q hq; omega)⟩, hgrow.size⟩ (sx_of1 (ButB.grownO (And.left hHeld) hgrow hobg)) (fun wd7 hRn hHn => ?_)
        clear hK K hHeld HO1 LX HM1 d1 HS1 qa hown hgrow hws hob
        obtain ⟨HO1, LX, HM1, d1, HS1, hsz7⟩ := hRn
        have hHeld := hHn
        clear hHn
        try simp only [Act.put, ls0, ls1, ls2]
        refine wtk 8 ?_ rfl (.inl ⟨by rfl, ?_⟩) ?_
        rotate_left 1
        · (intro w hSw; go_simp; try with_reducible rfl)
        try simp only [Act.put, ls0, ls1, ls2]
        refine wtk 9 ?_ rfl (.inl ⟨by rfl, ?_⟩) ?_
        rotate_left 1
        · (intro w hSw; go_simp; try with_reducible rfl)
        try simp only [Act.put, ls0, ls1, ls2]
        refine wrd [10] ?_
        refine (arc rfl (fun K hK => ?_) arn)
        have sd := cbk HO1.out 1 (v) rfl
        have sf := frozen_blk HO1.out 1
        have sl := blk_lt HO1.out
        go_simp
        try go_wp2_with fail
        refine out_gen hK _ _ (fun wz : World => Kp (wz.heap[O]? = some (.cells #[.int .u32 own, .slice (some ⟨g, 0, none⟩) (k + 1) cap] 132 (0, 0))) ∧ Kp (wz.ownsRow (bs) 133 1 (.slice (some ⟨g, 0, none⟩) (k + 1) cap) (k + 1) (List.replicate (k + 1) (Value.func (.func fw) #[] cw))) ∧ Kp (MemAt wz B D ws) ∧ Kp (wz.heap[w.heap.size + 1]? = some (.cells #[.bool false, .int .i64 0, .slice none 0 0, .bool false, .int .i64 0, .bool false, .bool false, .bool false, .int .i64 0] 64 (0, 0))) ∧ Kp (ButS [O] w wz) ∧ wd7.heap.size ≤ wz.heap.size) ⟨⟨(blk_set HO1.out 1 _).trans rfl⟩, ⟨own_set_ne LX.out (p := ⟨O, 1, none⟩) (by show O < bs; omega) _⟩, ⟨MemAt.setne HM1.out (p := ⟨O, 1, none⟩) (by show B ≠ O; omega) (by show D ≠ O; omega) _⟩, ⟨blk_set_ne (p := ⟨O, 1, none⟩) d1.out (by show w.heap.size + 1 ≠ O; omega) _⟩, ⟨ButS.set' HS1.out (p := ⟨O, 1, none⟩) (by first | (left; simp; done) | (right; show _ ≤ O; omega)) _⟩, (by simp [World.setCell])⟩ (sx_of1 (ButB.set (And.left hHeld) (p := ⟨O, 1, none⟩) (by first | (left; simp; done) | (right; show _ ≤ O; omega)) _)) (fun wd8 hRn hHn => ?_)
        clear hK K hHeld HO1 LX HM1 d1 HS1 sd sf sl
        obtain ⟨HO1, LX, HM1, d1, HS1, hsz8⟩ := hRn
        have hHeld := hHn
        clear hHn
        try simp only [Act.put, ls0, ls1, ls2]
        refine wpAnyH_done (by kernel_rfl) ?_ _
        clear hHeld
        have LX2 : Kp (LeftX wd8 bs 133 1 (.slice (some ⟨g, 0, none⟩) (k + 1) cap) (k + 1) (List.replicate (k + 1) (Value.func (.func fw) #[] cw)) (some g)) := ⟨.inr ⟨LX.out, rfl⟩⟩
        have HBS2 : Kp (bs ≤ wd8.heap.size) := ⟨by have := HBS.out; have := HS1.out.size; omega⟩
        clear LX
        go_wp2
        go_roundw
        case rel => exact ⟨k + 1, _, some g, by omega, by go_num, HO1, LX2, HM1, d1, HS1, HBS2⟩
        case measure => simp [intOf]; omega
    · obtain rfl : k = L := by omega
      have hkx : ¬ (k : Int) < x := by omega
      clear hLx
      go_wp2_with fail
      refine held_start_gen (S := (fun w' : World => ButB (bs) [O] wr w' ∧ ∀ bb o, bb < bs → bb ≠ O → w'.cell? ⟨bb, o, none⟩ = wr.cell? ⟨bb, o, none⟩)) (by kernel_rfl) (fun wz : World => Kp (wz.heap[O]? = some (.cells #[.int .u32 own, v] 132 (0, 0))) ∧ Kp (LeftX wz bs 133 1 v k (List.replicate k (Value.func (.func fw) #[] cw)) ob) ∧ Kp (MemAt wz B D ws) ∧ Kp (wz.heap[w.heap.size + 1]? = some (.cells #[.bool false, .int .i64 0, .slice none 0 0, .bool false, .int .i64 0, .bool false, .bool false, .bool false, .int .i64 0] 64 (0, 0))) ∧ Kp (ButS [O] w wz) ∧ wr.heap.size ≤ wz.heap.size) ⟨⟨blk_dr HO1.out⟩, ⟨LX.out.below (below_dr (Below.refl _ _))⟩, ⟨HM1.out.below (below_dr (Below.refl _ _))⟩, ⟨blk_dr d1.out⟩, ⟨ButS.dr HS1.out⟩, Nat.le_refl _⟩ (sx_of1 (ButB.dr (ButB.refl _ (by omega)))) (fun wd0 hRn hHeld => ?_)
      clear HO1 LX HM1 d1 HS1
      obtain ⟨HO1, LX, HM1, d1, HS1, hsz⟩ := hRn
      refine wtk 0 ?_ rfl (.inl ⟨by rfl, ?_⟩) ?_
      rotate_left 1
      · (intro w hSw; go_simp; try with_reducible rfl)
      try simp only [Act.put, ls0, ls1, ls2]
      refine wtk 1 ?_ rfl (.inl ⟨by rfl, ?_⟩) ?_
      rotate_left 1
      · (intro w hSw; go_simp; try with_reducible rfl)
      try simp only [Act.put, ls0, ls1, ls2]
      refine wtk 2 ?_ rfl (.inl ⟨by rfl, ?_⟩) ?_
      rotate_left 1
      · (intro w hSw; go_simp; try with_reducible rfl)
      try simp only [Act.put, ls0, ls1, ls2]
      refine wtk 3 ?_ rfl (.inl ⟨by rfl, ?_⟩) ?_
      rotate_left 1
      · (intro w hSw; go_simp; try with_reducible rfl)
      try simp only [Act.put, ls0, ls1, ls2]
      refine wtk 5 ?_ rfl (.inl ⟨by rfl, ?_⟩) ?_
      rotate_left 1
      · (intro w hSw; go_simp; try with_reducible rfl)
      try simp only [Act.put, ls0, ls1, ls2]
      refine wrd [4, 6] ?_
      refine (arc rfl (fun K hK => ?_) (arc rfl (fun K hK => ?_) arn))
      · have sd1 := cbk HO1.out 1 (v) rfl
        have sl := blk_lt HO1.out
        go_simp
        try go_wp2_with fail
        refine out_gen hK _ _ (fun wz : World => Kp (wz.heap[O]? = some (.cells #[.int .u32 own, v] 132 (0, 0))) ∧ Kp (LeftX wz bs 133 1 v k (List.replicate k (Value.func (.func fw) #[] cw)) ob) ∧ Kp (MemAt wz B D ws) ∧ Kp (wz.heap[w.heap.size + 1]? = some (.cells #[.bool false, .int .i64 0, .slice none 0 0, .bool false, .int .i64 0, .bool false, .bool false, .bool false, .int .i64 0] 64 (0, 0))) ∧ Kp (ButS [O] w wz) ∧ wd0.heap.size ≤ wz.heap.size) ⟨⟨HO1.out⟩, ⟨LX.out⟩, ⟨HM1.out⟩, ⟨d1.out⟩, ⟨HS1.out⟩, Nat.le_refl _⟩ (sx_of1 ((And.left hHeld))) (fun wd1 hRn hHn => ?_)
        clear hK K hHeld HO1 LX HM1 d1 HS1  sd1 sl
        obtain ⟨HO1, LX, HM1, d1, HS1, hsz1⟩ := hRn
        have hHeld := hHn
        clear hHn
        try simp only [Act.put, ls0, ls1, ls2]
        refine wrd [6] ?_
        refine (arc rfl (fun K hK => ?_) arn)
        have ge_qa : wr.heap.size ≤ wd1.heap.size := (And.left hHeld).size
        go_simp
        try go_wp2_with fail
        refine out_gen hK _ _ (fun wz : World => Kp (wz.heap[O]? = some (.cells #[.int .u32 own, v] 132 (0, 0))) ∧ Kp (LeftX wz bs 133 1 v k (List.replicate k (Value.func (.func fw) #[] cw)) ob) ∧ Kp (MemAt wz B D ws) ∧ Kp (wz.heap[w.heap.size + 1]? = some (.cells #[.bool false, .int .i64 0, .slice none 0 0, .bool false, .int .i64 0, .bool false, .bool false, .bool false, .int .i64 0] 64 (0, 0))) ∧ Kp (ButS [O] w wz) ∧ Kp (wz.heap[wd1.heap.size]? = some (.cells #[Value.func (.func fe) #[] ce] 133 (0, 0))) ∧ wd1.heap.size < wz.heap.size) ⟨⟨blk_al HO1.out _⟩, ⟨LX.out.below (below_al (Below.refl _ _) _)⟩, ⟨HM1.out.al _⟩, ⟨blk_al d1.out _⟩, ⟨ButS.al HS1.out _⟩, ⟨blk_new wd1 _⟩, (by simp)⟩ (sx_of1 (ButB.al (And.left hHeld) _)) (fun wd2 hRn hHn => ?_)
        clear hK K hHeld HO1 LX HM1 d1 HS1
        obtain ⟨HO1, LX, HM1, d1, HS1, qa, hsz2⟩ := hRn
        have hHeld := hHn
        clear hHn
        try simp only [Act.put, ls0, ls1, ls2]
        have lt_qa := blk_lt qa.out
        refine wrd [7] ?_
        refine (arc rfl (fun K hK => ?_) arn)
        have hws := (And.left hHeld).size
        refine step_append_X _ (by rfl) _ _ 130 (by rfl) (bs) 133 i0 .nilFunc 1 8 Tryz.underlying130 hi0 hz0 hz1 hz2 (by rfl) (by decide) _ _ _ _ (by rfl) LX.out _ 1 _ [Value.func (.func fe) #[] ce] (by rfl) rfl (World.news_of_block qa.out) (by simp [Value.oneCell', FV]) (by decide) (by unfold maxLen; omega) (by omega) (by omega) ?_
        intro g cap w9 hown hgrow hob
        refine out_gen hK _ _ (fun wz : World => Kp (wz.heap[O]? = some (.cells #[.int .u32 own, v] 132 (0, 0))) ∧ Kp (wz.ownsRow (bs) 133 1 (.slice (some ⟨g, 0, none⟩) (k + 1) cap) (k + 1) (List.replicate k (Value.func (.func fw) #[] cw) ++ [Value.func (.func fe) #[] ce])) ∧ Kp (MemAt wz B D ws) ∧ Kp (wz.heap[w.heap.size + 1]? = some (.cells #[.bool false, .int .i64 0, .slice none 0 0, .bool false, .int .i64 0, .bool false, .bool false, .bool false, .int .i64 0] 64 (0, 0))) ∧ Kp (ButS [O] w wz) ∧ wd2.heap.size ≤ wz.heap.size) ⟨⟨blk_grownO HO1.out hgrow (fun q hq => by have := hobg q hq; omega)⟩, ⟨by have h := hown; skip; exact h⟩, ⟨MemAt.grownO HM1.out hgrow (fun q hq => by have := hobg q hq; omega)⟩, ⟨blk_grownO d1.out hgrow (fun q hq => by have := hobg q hq; omega)⟩, ⟨ButS.grownO HS1.out hgrow (fun q hq => by have := hobg q hq; omega)⟩, hgrow.size⟩ (sx_of1 (ButB.grownO (And.left hHeld) hgrow hobg)) (fun wd3 hRn hHn => ?_)
        clear hK K hHeld HO1 LX HM1 d1 HS1 qa hown hgrow hws hob
        obtain ⟨HO1, LX, HM1, d1, HS1, hsz3⟩ := hRn
        have hHeld := hHn
        clear hHn
        try simp only [Act.put, ls0, ls1, ls2]
        refine wtk 8 ?_ rfl (.inl ⟨by rfl, ?_⟩) ?_
        rotate_left 1
        · (intro w hSw; go_simp; try with_reducible rfl)
        try simp only [Act.put, ls0, ls1, ls2]
        refine wtk 9 ?_ rfl (.inl ⟨by rfl, ?_⟩) ?_
        rotate_left 1
        · (intro w hSw; go_simp; try with_reducible rfl)
        try simp only [Act.put, ls0, ls1, ls2]
        refine wrd [10] ?_
        refine (arc rfl (fun K hK => ?_) arn)
        have sd := cbk HO1.out 1 (v) rfl
        have sf := frozen_blk HO1.out 1
        have sl := blk_lt HO1.out
        go_simp
        try go_wp2_with fail
        refine out_gen hK _ _ (fun wz : World => Kp (wz.heap[O]? = some (.cells #[.int .u32 own, .slice (some ⟨g, 0, none⟩) (k + 1) cap] 132 (0, 0))) ∧ Kp (wz.ownsRow (bs) 133 1 (.slice (some ⟨g, 0, none⟩) (k + 1) cap) (k + 1) (List.replicate k (Value.func (.func fw) #[] cw) ++ [Value.func (.func fe) #[] ce])) ∧ Kp (MemAt wz B D ws) ∧ Kp (wz.heap[w.heap.size + 1]? = some (.cells #[.bool false, .int .i64 0, .slice none 0 0, .bool false, .int .i64 0, .bool false, .bool false, .bool false, .int .i64 0] 64 (0, 0))) ∧ Kp (ButS [O] w wz) ∧ wd3.heap.size ≤ wz.heap.size) ⟨⟨(blk_set HO1.out 1 _).trans rfl⟩, ⟨own_set_ne LX.out (p := ⟨O, 1, none⟩) (by show O < bs; omega) _⟩, ⟨MemAt.setne HM1.out (p := ⟨O, 1, none⟩) (by show B ≠ O; omega) (by show D ≠ O; omega) _⟩, ⟨blk_set_ne (p := ⟨O, 1, none⟩) d1.out (by show w.heap.size + 1 ≠ O; omega) _⟩, ⟨ButS.set' HS1.out (p := ⟨O, 1, none⟩) (by first | (left; simp; done) | (right; show _ ≤ O; omega)) _⟩, (by simp [World.setCell])⟩ (sx_of1 (ButB.set (And.left hHeld) (p := ⟨O, 1, none⟩) (by first | (left; simp; done) | (right; show _ ≤ O; omega)) _)) (fun wd4 hRn hHn => ?_)
        clear hK K hHeld HO1 LX HM1 d1 HS1 sd sf sl
        obtain ⟨HO1, LX, HM1, d1, HS1, hsz4⟩ := hRn
        have hHeld := hHn
        clear hHn
        try simp only [Act.put, ls0, ls1, ls2]
        refine wpAnyH_done (by kernel_rfl) ?_ _
        clear hHeld
        have dc0 := cbk d1.out 0 (.bool false) rfl
        have df0 := frozen_blk d1.out 0
        have dc1 := cbk d1.out 1 (.int .i64 0) rfl
        have df1 := frozen_blk d1.out 1
        have dc2 := cbk d1.out 2 (.slice none 0 0) rfl
        have df2 := frozen_blk d1.out 2
        have dc3 := cbk d1.out 3 (.bool false) rfl
        have df3 := frozen_blk d1.out 3
        have dc4 := cbk d1.out 4 (.int .i64 0) rfl
        have df4 := frozen_blk d1.out 4
        have dc5 := cbk d1.out 5 (.bool false) rfl
        have df5 := frozen_blk d1.out 5
        have dc6 := cbk d1.out 6 (.bool false) rfl
        have df6 := frozen_blk d1.out 6
        have dc7 := cbk d1.out 7 (.bool false) rfl
        have df7 := frozen_blk d1.out 7
        have dc8 := cbk d1.out 8 (.int .i64 0) rfl
        have df8 := frozen_blk d1.out 8
        have dl := blk_lt d1.out
        have hgb := (LX.out.lt g rfl).1
        have LY : Kp (wd4.ownsRow w.heap.size 133 1 (.slice (some ⟨g, 0, none⟩) (k + 1) cap) (k + 1) (List.replicate k (Value.func (.func fw) #[] cw) ++ [Value.func (.func fe) #[] ce])) := ⟨own_base LX.out (by have := hszb; omega)⟩
        go_wp2
        exact bodyPost_ret (v := .agg #[.bool false, .int .i64 0, .slice none 0 0, .bool false, .int .i64 0, .bool false, .bool false, .bool false, .int .i64 0]) (results_cell_row rfl _ _ _ _ _ _ _ rfl ((blk_set (blk_set (blk_set (blk_set (blk_set (blk_set (blk_set (blk_set (blk_set d1.out 0 (.bool false)) 1 (.int .i64 0)) 2 (.slice none 0 0)) 3 (.bool false)) 4 (.int .i64 0)) 5 (.bool false)) 6 (.bool false)) 7 (.bool false)) 8 (.int .i64 0)).trans rfl) Tryz.underlying64 rfl (by kernel_rfl)) rfl ⟨g, cap, rfl, (blk_set_ne (p := ⟨w.heap.size + 1, 8, none⟩) (blk_set_ne (p := ⟨w.heap.size + 1, 7, none⟩) (blk_set_ne (p := ⟨w.heap.size + 1, 6, none⟩) (blk_set_ne (p := ⟨w.heap.size + 1, 5, none⟩) (blk_set_ne (p := ⟨w.heap.size + 1, 4, none⟩) (blk_set_ne (p := ⟨w.heap.size + 1, 3, none⟩) (blk_set_ne (p := ⟨w.heap.size + 1, 2, none⟩) (blk_set_ne (p := ⟨w.heap.size + 1, 1, none⟩) (blk_set_ne (p := ⟨w.heap.size + 1, 0, none⟩) HO1.out (by show O ≠ w.heap.size + 1; omega) (.bool false)) (by show O ≠ w.heap.size + 1; omega) (.int .i64 0)) (by show O ≠ w.heap.size + 1; omega) (.slice none 0 0)) (by show O ≠ w.heap.size + 1; omega) (.bool false)) (by show O ≠ w.heap.size + 1; omega) (.int .i64 0)) (by show O ≠ w.heap.size + 1; omega) (.bool false)) (by show O ≠ w.heap.size + 1; omega) (.bool false)) (by show O ≠ w.heap.size + 1; omega) (.bool false)) (by show O ≠ w.heap.size + 1; omega) (.int .i64 0)), (own_set_blk (own_set_blk (own_set_blk (own_set_blk (own_set_blk (own_set_blk (own_set_blk (own_set_blk (own_set_blk LY.out (p := ⟨w.heap.size + 1, 0, none⟩) (by show g ≠ w.heap.size + 1; omega) (.bool false)) (p := ⟨w.heap.size + 1, 1, none⟩) (by show g ≠ w.heap.size + 1; omega) (.int .i64 0)) (p := ⟨w.heap.size + 1, 2, none⟩) (by show g ≠ w.heap.size + 1; omega) (.slice none 0 0)) (p := ⟨w.heap.size + 1, 3, none⟩) (by show g ≠ w.heap.size + 1; omega) (.bool false)) (p := ⟨w.heap.size + 1, 4, none⟩) (by show g ≠ w.heap.size + 1; omega) (.int .i64 0)) (p := ⟨w.heap.size + 1, 5, none⟩) (by show g ≠ w.heap.size + 1; omega) (.bool false)) (p := ⟨w.heap.size + 1, 6, none⟩) (by show g ≠ w.heap.size + 1; omega) (.bool false)) (p := ⟨w.heap.size + 1, 7, none⟩) (by show g ≠ w.heap.size + 1; omega) (.bool false)) (p := ⟨w.heap.size + 1, 8, none⟩) (by show g ≠ w.heap.size + 1; omega) (.int .i64 0)), (MemAt.setne (MemAt.setne (MemAt.setne (MemAt.setne (MemAt.setne (MemAt.setne (MemAt.setne (MemAt.setne (MemAt.setne HM1.out (p := ⟨w.heap.size + 1, 0, none⟩) (by show B ≠ w.heap.size + 1; omega) (by show D ≠ w.heap.size + 1; omega) (.bool false)) (p := ⟨w.heap.size + 1, 1, none⟩) (by show B ≠ w.heap.size + 1; omega) (by show D ≠ w.heap.size + 1; omega) (.int .i64 0)) (p := ⟨w.heap.size + 1, 2, none⟩) (by show B ≠ w.heap.size + 1; omega) (by show D ≠ w.heap.size + 1; omega) (.slice none 0 0)) (p := ⟨w.heap.size + 1, 3, none⟩) (by show B ≠ w.heap.size + 1; omega) (by show D ≠ w.heap.size + 1; omega) (.bool false)) (p := ⟨w.heap.size + 1, 4, none⟩) (by show B ≠ w.heap.size + 1; omega) (by show D ≠ w.heap.size + 1; omega) (.int .i64 0)) (p := ⟨w.heap.size + 1, 5, none⟩) (by show B ≠ w.heap.size + 1; omega) (by show D ≠ w.heap.size + 1; omega) (.bool false)) (p := ⟨w.heap.size + 1, 6, none⟩) (by show B ≠ w.heap.size + 1; omega) (by show D ≠ w.heap.size + 1; omega) (.bool false)) (p := ⟨w.heap.size + 1, 7, none⟩) (by show B ≠ w.heap.size + 1; omega) (by show D ≠ w.heap.size + 1; omega) (.bool false)) (p := ⟨w.heap.size + 1, 8, none⟩) (by show B ≠ w.heap.size + 1; omega) (by show D ≠ w.heap.size + 1; omega) (.int .i64 0)), (ButS.set' (ButS.set' (ButS.set' (ButS.set' (ButS.set' (ButS.set' (ButS.set' (ButS.set' (ButS.set' HS1.out (p := ⟨w.heap.size + 1, 0, none⟩) (by right; show w.heap.size ≤ w.heap.size + 1; omega) (.bool false)) (p := ⟨w.heap.size + 1, 1, none⟩) (by right; show w.heap.size ≤ w.heap.size + 1; omega) (.int .i64 0)) (p := ⟨w.heap.size + 1, 2, none⟩) (by right; show w.heap.size ≤ w.heap.size + 1; omega) (.slice none 0 0)) (p := ⟨w.heap.size + 1, 3, none⟩) (by right; show w.heap.size ≤ w.heap.size + 1; omega) (.bool false)) (p := ⟨w.heap.size + 1, 4, none⟩) (by right; show w.heap.size ≤ w.heap.size + 1; omega) (.int .i64 0)) (p := ⟨w.heap.size + 1, 5, none⟩) (by right; show w.heap.size ≤ w.heap.size + 1; omega) (.bool false)) (p := ⟨w.heap.size + 1, 6, none⟩) (by right; show w.heap.size ≤ w.heap.size + 1; omega) (.bool false)) (p := ⟨w.heap.size + 1, 7, none⟩) (by right; show w.heap.size ≤ w.heap.size + 1; omega) (.bool false)) (p := ⟨w.heap.size + 1, 8, none⟩) (by right; show w.heap.size ≤ w.heap.size + 1; omega) (.int .i64 0))⟩
      · have ge_qa : wr.heap.size ≤ wd0.heap.size := (And.left hHeld).size
        go_simp
        try go_wp2_with fail
        refine out_gen hK _ _ (fun wz : World => Kp (wz.heap[O]? = some (.cells #[.int .u32 own, v] 132 (0, 0))) ∧ Kp (LeftX wz bs 133 1 v k (List.replicate k (Value.func (.func fw) #[] cw)) ob) ∧ Kp (MemAt wz B D ws) ∧ Kp (wz.heap[w.heap.size + 1]? = some (.cells #[.bool false, .int .i64 0, .slice none 0 0, .bool false, .int .i64 0, .bool false, .bool false, .bool false, .int .i64 0] 64 (0, 0))) ∧ Kp (ButS [O] w wz) ∧ Kp (wz.heap[wd0.heap.size]? = some (.cells #[Value.func (.func fe) #[] ce] 133 (0, 0))) ∧ wd0.heap.size < wz.heap.size) ⟨⟨blk_al HO1.out _⟩, ⟨LX.out.below (below_al (Below.refl _ _) _)⟩, ⟨HM1.out.al _⟩, ⟨blk_al d1.out _⟩, ⟨ButS.al HS1.out _⟩, ⟨blk_new wd0 _⟩, (by simp)⟩ (sx_of1 (ButB.al (And.left hHeld) _)) (fun wd5 hRn hHn => ?_)
        clear hK K hHeld HO1 LX HM1 d1 HS1
        obtain ⟨HO1, LX, HM1, d1, HS1, qa, hsz5⟩ := hRn
        have hHeld := hHn
        clear hHn
        try simp only [Act.put, ls0, ls1, ls2]
        have lt_qa := blk_lt qa.out
        refine wrd [4] ?_
        refine (arc rfl (fun K hK => ?_) arn)
        have sd1 := cbk HO1.out 1 (v) rfl
        have sl := blk_lt HO1.out
        go_simp
        try go_wp2_with fail
        refine out_gen hK _ _ (fun wz : World => Kp (wz.heap[O]? = some (.cells #[.int .u32 own, v] 132 (0, 0))) ∧ Kp (LeftX wz bs 133 1 v k (List.replicate k (Value.func (.func fw) #[] cw)) ob) ∧ Kp (MemAt wz B D ws) ∧ Kp (wz.heap[w.heap.size + 1]? = some (.cells #[.bool false, .int .i64 0, .slice none 0 0, .bool false, .int .i64 0, .bool false, .bool false, .bool false, .int .i64 0] 64 (0, 0))) ∧ Kp (ButS [O] w wz) ∧ Kp (wz.heap[wd0.heap.size]? = some (.cells #[Value.func (.func fe) #[] ce] 133 (0, 0))) ∧ wd5.heap.size ≤ wz.heap.size) ⟨⟨HO1.out⟩, ⟨LX.out⟩, ⟨HM1.out⟩, ⟨d1.out⟩, ⟨HS1.out⟩, ⟨qa.out⟩, Nat.le_refl _⟩ (sx_of1 ((And.left hHeld))) (fun wd6 hRn hHn => ?_)
        clear hK K hHeld HO1 LX HM1 d1 HS1 qa  sd1 sl
        obtain ⟨HO1, LX, HM1, d1, HS1, qa, hsz6⟩ := hRn
        have hHeld := hHn
        clear hHn
        try simp only [Act.put, ls0, ls1, ls2]
        refine wrd [7] ?_
        refine (arc rfl (fun K hK => ?_) arn)
        have hws := (And.left hHeld).size
        refine step_append_X _ (by rfl) _ _ 130 (by rfl) (bs) 133 i0 .nilFunc 1 8 Tryz.underlying130 hi0 hz0 hz1 hz2 (by rfl) (by decide) _ _ _ _ (by rfl) LX.out _ 1 _ [Value.func (.func fe) #[] ce] (by rfl) rfl (World.news_of_block qa.out) (by simp [Value.oneCell', FV]) (by decide) (by unfold maxLen; omega) (by omega) (by omega) ?_
        intro g cap w9 hown hgrow hob
        refine out_gen hK _ _ (fun wz : World => Kp (wz.heap[O]? = some (.cells #[.int .u32 own, v] 132 (0, 0))) ∧ Kp (wz.ownsRow (bs) 133 1 (.slice (some ⟨g, 0, none⟩) (k + 1) cap) (k + 1) (List.replicate k (Value.func (.func fw) #[] cw) ++ [Value.func (.func fe) #[] ce])) ∧ Kp (MemAt wz B D ws) ∧ Kp (wz.heap[w.heap.size + 1]? = some (.cells #[.bool false, .int .i64 0, .slice none 0 0, .bool false, .int .i64 0, .bool false, .bool false, .bool false, .int .i64 0] 64 (0, 0))) ∧ Kp (ButS [O] w wz) ∧ wd6.heap.size ≤ wz.heap.size) ⟨⟨blk_grownO HO1.out hgrow (fun q hq => by have := hobg q hq; omega)⟩, ⟨by have h := hown; skip; exact h⟩, ⟨MemAt.grownO HM1.out hgrow (fun q hq => by have := hobg q hq; omega)⟩, ⟨blk_grownO d1.out hgrow (fun q hq => by have := hobg q hq; omega)⟩, ⟨ButS.grownO HS1.out hgrow (fun q hq => by have := hobg q hq; omega)⟩, hgrow.size⟩ (sx_of1 (ButB.grownO (And.left hHeld) hgrow hobg)) (fun wd7 hRn hHn => ?_)
        clear hK K hHeld HO1 LX HM1 d1 HS1 qa hown hgrow hws hob
        obtain ⟨HO1, LX, HM1, d1, HS1, hsz7⟩ := hRn
        have hHeld := hHn
        clear hHn
        try simp only [Act.put, ls0, ls1, ls2]
        refine wtk 8 ?_ rfl (.inl ⟨by rfl, ?_⟩) ?_
        rotate_left 1
        · (intro w hSw; go_simp; try with_reducible rfl)
        try simp only [Act.put, ls0, ls1, ls2]
        refine wtk 9 ?_ rfl (.inl ⟨by rfl, ?_⟩) ?_
        rotate_left 1
        · (intro w hSw; go_simp; try with_reducible rfl)
        try simp only [Act.put, ls0, ls1, ls2]
        refine wrd [10] ?_
        refine (arc rfl (fun K hK => ?_) arn)
        have sd := cbk HO1.out 1 (v) rfl
        have sf := frozen_blk HO1.out 1
        have sl := blk_lt HO1.out
        go_simp
        try go_wp2_with fail
        refine out_gen hK _ _ (fun wz : World => Kp (wz.heap[O]? = some (.cells #[.int .u32 own, .slice (some ⟨g, 0, none⟩) (k + 1) cap] 132 (0, 0))) ∧ Kp (wz.ownsRow (bs) 133 1 (.slice (some ⟨g, 0, none⟩) (k + 1) cap) (k + 1) (List.replicate k (Value.func (.func fw) #[] cw) ++ [Value.func (.func fe) #[] ce])) ∧ Kp (MemAt wz B D ws) ∧ Kp (wz.heap[w.heap.size + 1]? = some (.cells #[.bool false, .int .i64 0, .slice none 0 0, .bool false, .int .i64 0, .bool false, .bool false, .bool false, .int .i64 0] 64 (0, 0))) ∧ Kp (ButS [O] w wz) ∧ wd7.heap.size ≤ wz.heap.size) ⟨⟨(blk_set HO1.out 1 _).trans rfl⟩, ⟨own_set_ne LX.out (p := ⟨O, 1, none⟩) (by show O < bs; omega) _⟩, ⟨MemAt.setne HM1.out (p := ⟨O, 1, none⟩) (by show B ≠ O; omega) (by show D ≠ O; omega) _⟩, ⟨blk_set_ne (p := ⟨O, 1, none⟩) d1.out (by show w.heap.size + 1 ≠ O; omega) _⟩, ⟨ButS.set' HS1.out (p := ⟨O, 1, none⟩) (by first | (left; simp; done) | (right; show _ ≤ O; omega)) _⟩, (by simp [World.setCell])⟩ (sx_of1 (ButB.set (And.left hHeld) (p := ⟨O, 1, none⟩) (by first | (left; simp; done) | (right; show _ ≤ O; omega)) _)) (fun wd8 hRn hHn => ?_)
        clear hK K hHeld HO1 LX HM1 d1 HS1 sd sf sl
        obtain ⟨HO1, LX, HM1, d1, HS1, hsz8⟩ := hRn
        have hHeld := hHn
        clear hHn
        try simp only [Act.put, ls0, ls1, ls2]
        refine wpAnyH_done (by kernel_rfl) ?_ _
        clear hHeld
        have dc0 := cbk d1.out 0 (.bool false) rfl
        have df0 := frozen_blk d1.out 0
        have dc1 := cbk d1.out 1 (.int .i64 0) rfl
        have df1 := frozen_blk d1.out 1
        have dc2 := cbk d1.out 2 (.slice none 0 0) rfl
        have df2 := frozen_blk d1.out 2
        have dc3 := cbk d1.out 3 (.bool false) rfl
        have df3 := frozen_blk d1.out 3
        have dc4 := cbk d1.out 4 (.int .i64 0) rfl
        have df4 := frozen_blk d1.out 4
        have dc5 := cbk d1.out 5 (.bool false) rfl
        have df5 := frozen_blk d1.out 5
        have dc6 := cbk d1.out 6 (.bool false) rfl
        have df6 := frozen_blk d1.out 6
        have dc7 := cbk d1.out 7 (.bool false) rfl
        have df7 := frozen_blk d1.out 7
        have dc8 := cbk d1.out 8 (.int .i64 0) rfl
        have df8 := frozen_blk d1.out 8
        have dl := blk_lt d1.out
        have hgb := (LX.out.lt g rfl).1
        have LY : Kp (wd8.ownsRow w.heap.size 133 1 (.slice (some ⟨g, 0, none⟩) (k + 1) cap) (k + 1) (List.replicate k (Value.func (.func fw) #[] cw) ++ [Value.func (.func fe) #[] ce])) := ⟨own_base LX.out (by have := hszb; omega)⟩
        go_wp2
        exact bodyPost_ret (v := .agg #[.bool false, .int .i64 0, .slice none 0 0, .bool false, .int .i64 0, .bool false, .bool false, .bool false, .int .i64 0]) (results_cell_row rfl _ _ _ _ _ _ _ rfl ((blk_set (blk_set (blk_set (blk_set (blk_set (blk_set (blk_set (blk_set (blk_set d1.out 0 (.bool false)) 1 (.int .i64 0)) 2 (.slice none 0 0)) 3 (.bool false)) 4 (.int .i64 0)) 5 (.bool false)) 6 (.bool false)) 7 (.bool false)) 8 (.int .i64 0)).trans rfl) Tryz.underlying64 rfl (by kernel_rfl)) rfl ⟨g, cap, rfl, (blk_set_ne (p := ⟨w.heap.size + 1, 8, none⟩) (blk_set_ne (p := ⟨w.heap.size + 1, 7, none⟩) (blk_set_ne (p := ⟨w.heap.size + 1, 6, none⟩) (blk_set_ne (p := ⟨w.heap.size + 1, 5, none⟩) (blk_set_ne (p := ⟨w.heap.size + 1, 4, none⟩) (blk_set_ne (p := ⟨w.heap.size + 1, 3, none⟩) (blk_set_ne (p := ⟨w.heap.size + 1, 2, none⟩) (blk_set_ne (p := ⟨w.heap.size + 1, 1, none⟩) (blk_set_ne (p := ⟨w.heap.size + 1, 0, none⟩) HO1.out (by show O ≠ w.heap.size + 1; omega) (.bool false)) (by show O ≠ w.heap.size + 1; omega) (.int .i64 0)) (by show O ≠ w.heap.size + 1; omega) (.slice none 0 0)) (by show O ≠ w.heap.size + 1; omega) (.bool false)) (by show O ≠ w.heap.size + 1; omega) (.int .i64 0)) (by show O ≠ w.heap.size + 1; omega) (.bool false)) (by show O ≠ w.heap.size + 1; omega) (.bool false)) (by show O ≠ w.heap.size + 1; omega) (.bool false)) (by show O ≠ w.heap.size + 1; omega) (.int .i64 0)), (own_set_blk (own_set_blk (own_set_blk (own_set_blk (own_set_blk (own_set_blk (own_set_blk (own_set_blk (own_set_blk LY.out (p := ⟨w.heap.size + 1, 0, none⟩) (by show g ≠ w.heap.size + 1; omega) (.bool false)) (p := ⟨w.heap.size + 1, 1, none⟩) (by show g ≠ w.heap.size + 1; omega) (.int .i64 0)) (p := ⟨w.heap.size + 1, 2, none⟩) (by show g ≠ w.heap.size + 1; omega) (.slice none 0 0)) (p := ⟨w.heap.size + 1, 3, none⟩) (by show g ≠ w.heap.size + 1; omega) (.bool false)) (p := ⟨w.heap.size + 1, 4, none⟩) (by show g ≠ w.heap.size + 1; omega) (.int .i64 0)) (p := ⟨w.heap.size + 1, 5, none⟩) (by show g ≠ w.heap.size + 1; omega) (.bool false)) (p := ⟨w.heap.size + 1, 6, none⟩) (by show g ≠ w.heap.size + 1; omega) (.bool false)) (p := ⟨w.heap.size + 1, 7, none⟩) (by show g ≠ w.heap.size + 1; omega) (.bool false)) (p := ⟨w.heap.size + 1, 8, none⟩) (by show g ≠ w.heap.size + 1; omega) (.int .i64 0)), (MemAt.setne (MemAt.setne (MemAt.setne (MemAt.setne (MemAt.setne (MemAt.setne (MemAt.setne (MemAt.setne (MemAt.setne HM1.out (p := ⟨w.heap.size + 1, 0, none⟩) (by show B ≠ w.heap.size + 1; omega) (by show D ≠ w.heap.size + 1; omega) (.bool false)) (p := ⟨w.heap.size + 1, 1, none⟩) (by show B ≠ w.heap.size + 1; omega) (by show D ≠ w.heap.size + 1; omega) (.int .i64 0)) (p := ⟨w.heap.size + 1, 2, none⟩) (by show B ≠ w.heap.size + 1; omega) (by show D ≠ w.heap.size + 1; omega) (.slice none 0 0)) (p := ⟨w.heap.size + 1, 3, none⟩) (by show B ≠ w.heap.size + 1; omega) (by show D ≠ w.heap.size + 1; omega) (.bool false)) (p := ⟨w.heap.size + 1, 4, none⟩) (by show B ≠ w.heap.size + 1; omega) (by show D ≠ w.heap.size + 1; omega) (.int .i64 0)) (p := ⟨w.heap.size + 1, 5, none⟩) (by show B ≠ w.heap.size + 1; omega) (by show D ≠ w.heap.size + 1; omega) (.bool false)) (p := ⟨w.heap.size + 1, 6, none⟩) (by show B ≠ w.heap.size + 1; omega) (by show D ≠ w.heap.size + 1; omega) (.bool false)) (p := ⟨w.heap.size + 1, 7, none⟩) (by show B ≠ w.heap.size + 1; omega) (by show D ≠ w.heap.size + 1; omega) (.bool false)) (p := ⟨w.heap.size + 1, 8, none⟩) (by show B ≠ w.heap.size + 1; omega) (by show D ≠ w.heap.size + 1; omega) (.int .i64 0)), (ButS.set' (ButS.set' (ButS.set' (ButS.set' (ButS.set' (ButS.set' (ButS.set' (ButS.set' (ButS.set' HS1.out (p := ⟨w.heap.size + 1, 0, none⟩) (by right; show w.heap.size ≤ w.heap.size + 1; omega) (.bool false)) (p := ⟨w.heap.size + 1, 1, none⟩) (by right; show w.heap.size ≤ w.heap.size + 1; omega) (.int .i64 0)) (p := ⟨w.heap.size + 1, 2, none⟩) (by right; show w.heap.size ≤ w.heap.size + 1; omega) (.slice none 0 0)) (p := ⟨w.heap.size + 1, 3, none⟩) (by right; show w.heap.size ≤ w.heap.size + 1; omega) (.bool false)) (p := ⟨w.heap.size + 1, 4, none⟩) (by right; show w.heap.size ≤ w.heap.size + 1; omega) (.int .i64 0)) (p := ⟨w.heap.size + 1, 5, none⟩) (by right; show w.heap.size ≤ w.heap.size + 1; omega) (.bool false)) (p := ⟨w.heap.size + 1, 6, none⟩) (by right; show w.heap.size ≤ w.heap.size + 1; omega) (.bool false)) (p := ⟨w.heap.size + 1, 7, none⟩) (by right; show w.heap.size ≤ w.heap.size + 1; omega) (.bool false)) (p := ⟨w.heap.size + 1, 8, none⟩) (by right; show w.heap.size ≤ w.heap.size + 1; omega) (.int .i64 0))⟩
set_option maxRecDepth 100000 in
set_option maxHeartbeats 4000000 in
theorem rglenB_any (q : Qu) (B BB D QB OB WB EB O : Nat) (own : Int) (ad0 : Addr) (fw fe : FuncId) (cw ce : Array Value) (ws : List Int) (hq : q.ok ws.length) (hws : Words ws) (L : Nat) (hL : (L : Int) = q.words) (hx : ¬ ldW ws q.cell ≤ q.words) (w : World) (hM : MemAt w B D ws) (hOB : w.heap[OB]? = some (.cells #[.pointer (some ⟨O, 0, none⟩)] 75 (0, 0))) (hO : w.heap[O]? = some (.cells #[.int .u32 own, (.slice (some ad0) 0 0)] 132 (0, 0))) (hQB : w.heap[QB]? = some (.cells q.cells 124 (0, 0))) (hWB : w.heap[WB]? = some (.cells #[Value.func (.func fw) #[] cw] 129 (0, 0))) (hEB : w.heap[EB]? = some (.cells #[Value.func (.func fe) #[] ce] 129 (0, 0))) : Calls Tryz.prog 73 #[.agg #[.pointer (some ⟨B, 0, none⟩), .pointer (some ⟨BB, 0, none⟩)], .pointer (some ⟨QB, 0, none⟩), .pointer (some ⟨OB, 0, none⟩), .pointer (some ⟨WB, 0, none⟩), .pointer (some ⟨EB, 0, none⟩)] w fun e w' => ∃ g cap, e = .returned (.agg #[.bool false, .int .i64 0, .slice none 0 0, .bool false, .int .i64 0, .bool false, .bool false, .bool false, .int .i64 0]) ∧ w'.heap[O]? = some (.cells #[.int .u32 own, .slice (some ⟨g, 0, none⟩) (L + 1) cap] 132 (0, 0)) ∧ w'.ownsRow w.heap.size 133 1 (.slice (some ⟨g, 0, none⟩) (L + 1) cap) (L + 1) (List.replicate L (Value.func (.func fw) #[] cw) ++ [Value.func (.func fe) #[] ce]) ∧ MemAt w' B D ws ∧ ButS [O] w w' := by
  have HM := Kp.mk hM
  have lD := blk_lt hM.words
  have lB := blk_lt hM.head
  obtain ⟨i0, hi0, hz0, hz1, hz2⟩ := info_parts Tryz.infoStep
  have hqc := hq.cell
  have hqw := hq.words
  have hlen := hM.len
  have hlv := ldW_word hws q.cell
  have hOBO : OB ≠ O := by
    rintro rfl
    rw [hO] at hOB
    simp at hOB
  have hQBO : QB ≠ O := by
    rintro rfl
    rw [hO] at hQB
    simp at hQB
  have hWBO : WB ≠ O := by
    rintro rfl
    rw [hO] at hWB
    simp at hWB
  have hEBO : EB ≠ O := by
    rintro rfl
    rw [hO] at hEB
    simp at hEB
  have hOB_ : O ≠ B := by
    rintro rfl
    rw [hM.head] at hO
    simp at hO
  have hOD_ : O ≠ D := by
    rintro rfl
    rw [hM.words] at hO
    simp at hO
  have lO := blk_lt hO
  have lOB := blk_lt hOB
  have lQB := blk_lt hQB
  have lWB := blk_lt hWB
  have lEB := blk_lt hEB
  obtain ⟨x, hxx⟩ : ∃ x, ldW ws q.cell = x := ⟨_, rfl⟩
  rw [hxx] at hx hlv
  have HX := Kp.mk hxx
  have n1 : IntKind.u32.wrap q.words = q.words := IntWalk.u32_in _ (by omega)
  have hL17 : L ≤ 16 := by omega
  have HLL := Kp.mk hL
  have HOB := Kp.mk hOB
  have HO := Kp.mk hO
  have HQB := Kp.mk hQB
  have HWB := Kp.mk hWB
  have HEB := Kp.mk hEB
  clear hM hOB hO hQB hWB hEB hq hws hxx hL
  go_enter Tryz.func73, Tryz.ntmps73
  have HB0 : Kp (Below w.heap.size w w) := ⟨Below.refl _ _⟩
  go_wp2_with fail
  have wb1 : Kp (((w.alloc (.cells #[.pointer (some ⟨B, 0, none⟩), .pointer (some ⟨BB, 0, none⟩)] 127)).alloc (.cells #[.bool false, .int .i64 0, .slice none 0 0, .bool false, .int .i64 0, .bool false, .bool false, .bool false, .int .i64 0] 64)).heap[w.heap.size]? = some (.cells #[.pointer (some ⟨B, 0, none⟩), .pointer (some ⟨BB, 0, none⟩)] 127 (0, 0))) := ⟨(blk_al (blk_new _ _) _)⟩
  have d1 : Kp (((w.alloc (.cells #[.pointer (some ⟨B, 0, none⟩), .pointer (some ⟨BB, 0, none⟩)] 127)).alloc (.cells #[.bool false, .int .i64 0, .slice none 0 0, .bool false, .int .i64 0, .bool false, .bool false, .bool false, .int .i64 0] 64)).heap[w.heap.size + 1]? = some (.cells #[.bool false, .int .i64 0, .slice none 0 0, .bool false, .int .i64 0, .bool false, .bool false, .bool false, .int .i64 0] 64 (0, 0))) := ⟨(blk_at (w := (w.alloc (.cells #[.pointer (some ⟨B, 0, none⟩), .pointer (some ⟨BB, 0, none⟩)] 127))) (by simp) _)⟩
  have HB1 : Kp (Below w.heap.size w ((w.alloc (.cells #[.pointer (some ⟨B, 0, none⟩), .pointer (some ⟨BB, 0, none⟩)] 127)).alloc (.cells #[.bool false, .int .i64 0, .slice none 0 0, .bool false, .int .i64 0, .bool false, .bool false, .bool false, .int .i64 0] 64))) := ⟨(below_al (below_al HB0.out _) _)⟩
  clear HB0
  generalize ((w.alloc (.cells #[.pointer (some ⟨B, 0, none⟩), .pointer (some ⟨BB, 0, none⟩)] 127)).alloc (.cells #[.bool false, .int .i64 0, .slice none 0 0, .bool false, .int .i64 0, .bool false, .bool false, .bool false, .int .i64 0] 64)) = w1 at wb1 d1 HB1 ⊢
  have wbc0 := cbk wb1.out 0 (.pointer (some ⟨B, 0, none⟩)) rfl
  have wbc1 := cbk wb1.out 1 (.pointer (some ⟨BB, 0, none⟩)) rfl
  have wbl := blk_lt wb1.out
  have dc0 := cbk d1.out 0 (.bool false) rfl
  have dc1 := cbk d1.out 1 (.int .i64 0) rfl
  have dc2 := cbk d1.out 2 (.slice none 0 0) rfl
  have dc3 := cbk d1.out 3 (.bool false) rfl
  have dc4 := cbk d1.out 4 (.int .i64 0) rfl
  have dc5 := cbk d1.out 5 (.bool false) rfl
  have dc6 := cbk d1.out 6 (.bool false) rfl
  have dc7 := cbk d1.out 7 (.bool false) rfl
  have dc8 := cbk d1.out 8 (.int .i64 0) rfl
  have dl := blk_lt d1.out
  have qb0 : w1.cell? ⟨QB, 0, none⟩ = some (.int .i64 q.k) := (HB1.out.cell (p := ⟨QB, 0, none⟩) lQB).trans ((cell_blk HQB.out 0).trans rfl)
  have qb1 : w1.cell? ⟨QB, 1, none⟩ = some (.int .i64 q.tail) := (HB1.out.cell (p := ⟨QB, 1, none⟩) lQB).trans ((cell_blk HQB.out 1).trans rfl)
  have qb2 : w1.cell? ⟨QB, 2, none⟩ = some (.int .i64 q.head) := (HB1.out.cell (p := ⟨QB, 2, none⟩) lQB).trans ((cell_blk HQB.out 2).trans rfl)
  have qb3 : w1.cell? ⟨QB, 3, none⟩ = some (.int .i64 q.cell) := (HB1.out.cell (p := ⟨QB, 3, none⟩) lQB).trans ((cell_blk HQB.out 3).trans rfl)
  have qb4 : w1.cell? ⟨QB, 4, none⟩ = some (.int .i64 q.words) := (HB1.out.cell (p := ⟨QB, 4, none⟩) lQB).trans ((cell_blk HQB.out 4).trans rfl)
  have qb5 : w1.cell? ⟨QB, 5, none⟩ = some (.int .i64 q.deep) := (HB1.out.cell (p := ⟨QB, 5, none⟩) lQB).trans ((cell_blk HQB.out 5).trans rfl)
  have ql : QB < w1.heap.size := Nat.lt_of_lt_of_le lQB HB1.out.size
  refine held_start_gen (S := (fun w' : World => ButB (w1.heap.size) [] w1 w' ∧ ∀ bb o, bb < w1.heap.size → w'.cell? ⟨bb, o, none⟩ = w1.cell? ⟨bb, o, none⟩)) (by kernel_rfl) (fun wz : World => Kp (Below w.heap.size w wz) ∧ Kp (wz.heap[w.heap.size]? = some (.cells #[.pointer (some ⟨B, 0, none⟩), .pointer (some ⟨BB, 0, none⟩)] 127 (0, 0))) ∧ Kp (wz.heap[w.heap.size + 1]? = some (.cells #[.bool false, .int .i64 0, .slice none 0 0, .bool false, .int .i64 0, .bool false, .bool false, .bool false, .int .i64 0] 64 (0, 0))) ∧ w1.heap.size ≤ wz.heap.size) ⟨⟨below_dr HB1.out⟩, ⟨blk_dr wb1.out⟩, ⟨blk_dr d1.out⟩, Nat.le_refl _⟩ (sx_of0 (ButB.dr (ButB.refl _ (by omega)))) (fun wd0 hRn hHeld => ?_)
  clear HB1 wb1 d1
  obtain ⟨HB1, wb1, d1, hsz⟩ := hRn
  refine wtk 0 ?_ rfl (.inl ⟨by rfl, ?_⟩) ?_
  rotate_left 1
  · (intro w hSw; go_simp; try with_reducible rfl)
  try simp only [Act.put, ls0, ls1, ls2]
  refine wtk 1 ?_ rfl (.inl ⟨by rfl, ?_⟩) ?_
  rotate_left 1
  · (intro w hSw; go_simp; try with_reducible rfl)
  try simp only [Act.put, ls0, ls1, ls2]
  refine wtk 2 ?_ rfl (.inl ⟨by rfl, ?_⟩) ?_
  rotate_left 1
  · (intro w hSw; go_simp; try with_reducible rfl)
  try simp only [Act.put, ls0, ls1, ls2]
  refine wtk 4 ?_ rfl (.inl ⟨by rfl, ?_⟩) ?_
  rotate_left 1
  · (intro w hSw; go_simp; try with_reducible rfl)
  try simp only [Act.put, ls0, ls1, ls2]
  refine wtk 5 ?_ rfl (.inl ⟨by rfl, ?_⟩) ?_
  rotate_left 1
  · (intro w hSw; go_simp; try with_reducible rfl)
  try simp only [Act.put, ls0, ls1, ls2]
  refine wtk 6 ?_ rfl (.inl ⟨by rfl, ?_⟩) ?_
  rotate_left 1
  · (intro w hSw; go_simp; try with_reducible rfl)
  try simp only [Act.put, ls0, ls1, ls2]
  refine wtk 8 ?_ rfl (.inl ⟨by rfl, ?_⟩) ?_
  rotate_left 1
  · (intro w hSw; go_simp; try with_reducible rfl)
  try simp only [Act.put, ls0, ls1, ls2]
  refine wrd [3] ?_
  refine (arc rfl (fun K hK => ?_) arn)
  go_simp
  go_at_call 61
  refine (rgload_any B BB D ws q.cell (by omega) (by omega) _ (HM.out.below HB1.out)).mono ?_
  rw [HX.out]
  rintro e w9 ⟨rfl, hb⟩
  try go_wp2_with fail
  refine out_gen hK _ _ (fun wz : World => Kp (Below w.heap.size w wz) ∧ Kp (wz.heap[w.heap.size]? = some (.cells #[.pointer (some ⟨B, 0, none⟩), .pointer (some ⟨BB, 0, none⟩)] 127 (0, 0))) ∧ Kp (wz.heap[w.heap.size + 1]? = some (.cells #[.bool false, .int .i64 0, .slice none 0 0, .bool false, .int .i64 0, .bool false, .bool false, .bool false, .int .i64 0] 64 (0, 0))) ∧ wd0.heap.size ≤ wz.heap.size) ⟨⟨below_call HB1.out hb⟩, ⟨blk_below wb1.out hb⟩, ⟨blk_below d1.out hb⟩, hb.size⟩ (sx_of0 (ButB.call (And.left hHeld) hb)) (fun wd1 hRn hHn => ?_)
  clear hK K hHeld HB1 wb1 d1 hb
  obtain ⟨HB1, wb1, d1, hsz1⟩ := hRn
  have hHeld := hHn
  clear hHn
  try simp only [Act.put, ls0, ls1, ls2]
  refine wtk 7 ?_ rfl (.inl ⟨by rfl, ?_⟩) ?_
  rotate_left 1
  · (intro w hSw; go_simp; try with_reducible rfl)
  try simp only [Act.put, ls0, ls1, ls2]
  refine wpAnyH_done (by kernel_rfl) ?_ _
  clear hHeld ql qb0 qb1 qb2 qb3 qb4 qb5 wbc0 wbc1 wbl dc0 dc1 dc2 dc3 dc4 dc5 dc6 dc7 dc8 dl
  have HO1 : Kp (wd1.heap[O]? = some (.cells #[.int .u32 own, .slice (some ad0) 0 0] 132 (0, 0))) := ⟨blk_low HO.out HB1.out⟩
  have HM1 : Kp (MemAt wd1 B D ws) := ⟨⟨blk_low HM.out.head HB1.out, blk_low HM.out.words HB1.out, HM.out.len⟩⟩
  have HS1 : Kp (ButS [O] w wd1) := ⟨ButS.of_below HB1.out⟩
  have d1 := d1
  have hszb : w.heap.size + 1 < wd1.heap.size := blk_lt d1.out
  clear HB1 wb1 d1
  obtain ⟨w2, hw2⟩ : ∃ w2, wd1 = w2 := ⟨_, rfl⟩
  rw [hw2] at HO1 HM1 HS1 d1 hszb ⊢
  clear hw2
  obtain ⟨bs, hbs⟩ : ∃ bs, w2.heap.size = bs := ⟨_, rfl⟩
  have LX : Kp (LeftX w2 bs 133 1 (.slice (some ad0) 0 0) 0 (List.replicate 0 (Value.func (.func fw) #[] cw)) none) := ⟨.inl ⟨rfl, rfl, rfl, ad0, rfl⟩⟩
  have HBS : Kp (bs ≤ w2.heap.size) := ⟨Nat.le_of_eq hbs.symm⟩
  rw [hbs] at hszb
  clear hbs
  go_wp2_with fail
  go_loopw [15] (fun i wr => ∃ (k : Nat) (v : Value) (ob : Option Nat), k ≤ L ∧ i = .int .u32 k ∧ Kp (wr.heap[O]? = some (.cells #[.int .u32 own, v] 132 (0, 0))) ∧ Kp (LeftX wr bs 133 1 v k (List.replicate k (Value.func (.func fw) #[] cw)) ob) ∧ Kp (MemAt wr B D ws) ∧ Kp (wr.heap[w.heap.size + 1]? = some (.cells #[.bool false, .int .i64 0, .slice none 0 0, .bool false, .int .i64 0, .bool false, .bool false, .bool false, .int .i64 0] 64 (0, 0))) ∧ Kp (ButS [O] w wr) ∧ Kp (bs ≤ wr.heap.size)) (fun i wr => L - (intOf i).toNat)
  case atStart => exact ⟨0, _, none, Nat.zero_le _, rfl, HO1, LX, HM1, d1, HS1, HBS⟩
  case round =>
    clear HO1 LX HM1 d1 HS1 HBS
    obtain ⟨k, v, ob, hk, rfl, HO1, LX, HM1, d1, HS1, HBS⟩ := hrel
    have hobg := LX.out.ge
    have hbsr := HBS.out
    have hLx := HLL.out
    have ob0 : wr.cell? ⟨OB, 0, none⟩ = some (.pointer (some ⟨O, 0, none⟩)) := (HS1.out.cell lOB (by simpa using hOBO)).trans ((cell_blk HOB.out 0).trans rfl)
    have lOBr : OB < wr.heap.size := Nat.lt_of_lt_of_le lOB HS1.out.size
    have lOBb : OB < bs := by omega
    have wb0 : wr.cell? ⟨WB, 0, none⟩ = some (Value.func (.func fw) #[] cw) := (HS1.out.cell lWB (by simpa using hWBO)).trans ((cell_blk HWB.out 0).trans rfl)
    have lWBr : WB < wr.heap.size := Nat.lt_of_lt_of_le lWB HS1.out.size
    have lWBb : WB < bs := by omega
    have eb0 : wr.cell? ⟨EB, 0, none⟩ = some (Value.func (.func fe) #[] ce) := (HS1.out.cell lEB (by simpa using hEBO)).trans ((cell_blk HEB.out 0).trans rfl)
    have lEBr : EB < wr.heap.size := Nat.lt_of_lt_of_le lEB HS1.out.size
    have lEBb : EB < bs := by omega
    by_cases hlt : k < L
    · have hkx : (k : Int) < q.words := by omega
      have hkx2 : IntKind.u32.wrap ((k : Int) + 1) = (k : Int) + 1 := IntWalk.u32_in _ (by omega)
      clear hLx
      go_wp2_with fail
      refine held_start_gen (S := (fun w' : World => ButB (bs) [O] wr w' ∧ ∀ bb o, bb < bs → bb ≠ O → w'.cell? ⟨bb, o, none⟩ = wr.cell? ⟨bb, o, none⟩)) (by kernel_rfl) (fun wz : World => Kp (wz.heap[O]? = some (.cells #[.int .u32 own, v] 132 (0, 0))) ∧ Kp (LeftX wz bs 133 1 v k (List.replicate k (Value.func (.func fw) #[] cw)) ob) ∧ Kp (MemAt wz B D ws) ∧ Kp (wz.heap[w.heap.size + 1]? = some (.cells #[.bool false, .int .i64 0, .slice none 0 0, .bool false, .int .i64 0, .bool false, .bool false, .bool false, .int .i64 0] 64 (0, 0))) ∧ Kp (ButS [O] w wz) ∧ wr.heap.size ≤ wz.heap.size) ⟨⟨blk_dr HO1.out⟩, ⟨LX.out.below (below_dr (Below.refl _ _))⟩, ⟨HM1.out.below (below_dr (Below.refl _ _))⟩, ⟨blk_dr d1.out⟩, ⟨ButS.dr HS1.out⟩, Nat.le_refl _⟩ (sx_of1 (ButB.dr (ButB.refl _ (by omega)))) (fun wd0 hRn hHeld => ?_)
      clear HO1 LX HM1 d1 HS1
      obtain ⟨HO1, LX, HM1, d1, HS1, hsz⟩ := hRn
      refine wtk 0 ?_ rfl (.inl ⟨by rfl, ?_⟩) ?_
      rotate_left 1
      · (intro w hSw; go_simp; try with_reducible rfl)
      try simp only [Act.put, ls0, ls1, ls2]
      refine wtk 1 ?_ rfl (.inl ⟨by rfl, ?_⟩) ?_
      rotate_left 1
      · (intro w hSw; go_simp; try with_reducible rfl)
      try simp only [Act.put, ls0, ls1, ls2]
      refine wtk 2 ?_ rfl (.inl ⟨by rfl, ?_⟩) ?_
      rotate_left 1
      · (intro w hSw; go_simp; try with_reducible rfl)
      try simp only [Act.put, ls0, ls1, ls2]
      refine wtk 3 ?_ rfl (.inl ⟨by rfl, ?_⟩) ?_
      rotate_left 1
      · (intro w hSw; go_simp; try with_reducible rfl)
      try simp only [Act.put, ls0, ls1, ls2]
      refine wtk 5 ?_ rfl (.inl ⟨by rfl, ?_⟩) ?_
      rotate_left 1
      · (intro w hSw; go_simp; try with_reducible rfl)
      try simp only [Act.put, ls0, ls1, ls2]
      refine wrd [4, 6] ?_
      refine (arc rfl (fun K hK => ?_) (arc rfl (fun K hK => ?_) arn))
      · have sd1 := cbk HO1.out 1 (v) rfl
        have sl := blk_lt HO1.out
        go_simp
        try go_wp2_with fail
        refine out_gen hK _ _ (fun wz : World => Kp (wz.heap[O]? = some (.cells #[.int .u32 own, v] 132 (0, 0))) ∧ Kp (LeftX wz bs 133 1 v k (List.replicate k (Value.func (.func fw) #[] cw)) ob) ∧ Kp (MemAt wz B D ws) ∧ Kp (wz.heap[w.heap.size + 1]? = some (.cells #[.bool false, .int .i64 0, .slice none 0 0, .bool false, .int .i64 0, .bool false, .bool false, .bool false, .int .i64 0] 64 (0, 0))) ∧ Kp (ButS [O] w wz) ∧ wd0.heap.size ≤ wz.heap.size) ⟨⟨HO1.out⟩, ⟨LX.out⟩, ⟨HM1.out⟩, ⟨d1.out⟩, ⟨HS1.out⟩, Nat.le_refl _⟩ (sx_of1 ((And.left hHeld))) (fun wd1 hRn hHn => ?_)
        clear hK K hHeld HO1 LX HM1 d1 HS1  sd1 sl
        obtain ⟨HO1, LX, HM1, d1, HS1, hsz1⟩ := hRn
        have hHeld := hHn
        clear hHn
        try simp only [Act.put, ls0, ls1, ls2]
        refine wrd [6] ?_
        refine (arc rfl (fun K hK => ?_) arn)
        have ge_qa : wr.heap.size ≤ wd1.heap.size := (And.left hHeld).size
        go_simp
        try go_wp2_with fail
        refine out_gen hK _ _ (fun wz : World => Kp (wz.heap[O]? = some (.cells #[.int .u32 own, v] 132 (0, 0))) ∧ Kp (LeftX wz bs 133 1 v k (List.replicate k (Value.func (.func fw) #[] cw)) ob) ∧ Kp (MemAt wz B D ws) ∧ Kp (wz.heap[w.heap.size + 1]? = some (.cells #[.bool false, .int .i64 0, .slice none 0 0, .bool false, .int .i64 0, .bool false, .bool false, .bool false, .int .i64 0] 64 (0, 0))) ∧ Kp (ButS [O] w wz) ∧ Kp (wz.heap[wd1.heap.size]? = some (.cells #[Value.func (.func fw) #[] cw] 133 (0, 0))) ∧ wd1.heap.size < wz.heap.size) ⟨⟨blk_al HO1.out _⟩, ⟨LX.out.below (below_al (Below.refl _ _) _)⟩, ⟨HM1.out.al _⟩, ⟨blk_al d1.out _⟩, ⟨ButS.al HS1.out _⟩, ⟨blk_new wd1 _⟩, (by simp)⟩ (sx_of1 (ButB.al (And.left hHeld) _)) (fun wd2 hRn hHn => ?_)
        clear hK K hHeld HO1 LX HM1 d1 HS1
        obtain ⟨HO1, LX, HM1, d1, HS1, qa, hsz2⟩ := hRn
        have hHeld := hHn
        clear hHn
        try simp only [Act.put, ls0, ls1, ls2]
        have lt_qa := blk_lt qa.out
        refine wrd [7] ?_
        refine (arc rfl (fun K hK => ?_) arn)
        have hws := (And.left hHeld).size
        refine step_append_X _ (by rfl) _ _ 130 (by rfl) (bs) 133 i0 .nilFunc 1 8 Tryz.underlying130 hi0 hz0 hz1 hz2 (by rfl) (by decide) _ _ _ _ (by rfl) LX.out _ 1 _ [Value.func (.func fw) #[] cw] (by rfl) rfl (World.news_of_block qa.out) (by simp [Value.oneCell', FV]) (by decide) (by unfold maxLen; omega) (by omega) (by omega) ?_
        intro g cap w9 hown hgrow hob
        refine out_gen hK _ _ (fun wz : World => Kp (wz.heap[O]? = some (.cells #[.int .u32 own, v] 132 (0, 0))) ∧ Kp (wz.ownsRow (bs) 133 1 (.slice (some ⟨g, 0, none⟩) (k + 1) cap) (k + 1) (List.replicate (k + 1) (Value.func (.func fw) #[] cw))) ∧ Kp (MemAt wz B D ws) ∧ Kp (wz.heap[w.heap.size + 1]? = some (.cells #[.bool false, .int .i64 0, .slice none 0 0, .bool false, .int .i64 0, .bool false, .bool false, .bool false, .int .i64 0] 64 (0, 0))) ∧ Kp (ButS [O] w wz) ∧ wd2.heap.size ≤ wz.heap.size) ⟨⟨blk_grownO HO1.out hgrow (fun q hq => by have := hobg q hq; omega)⟩, ⟨by have h := hown; rw [← List.replicate_succ'] at h; exact h⟩, ⟨MemAt.grownO HM1.out hgrow (fun q hq => by have := hobg q hq; omega)⟩, ⟨blk_grownO d1.out hgrow (fun q hq => by have := hobg q hq; omega)⟩, ⟨ButS.grownO HS1.out hgrow (fun q hq => by have := hobg q hq; omega)⟩, hgrow.size⟩ (sx_of1 (ButB.grownO (And.left hHeld) hgrow hobg)) (fun wd3 hRn hHn => ?_)
        clear hK K hHeld HO1 LX HM1 d1 HS1 qa hown hgrow hws hob
        obtain ⟨HO1, LX, HM1, d1, HS1, hsz3⟩ := hRn
        have hHeld := hHn
        clear hHn
        try simp only [Act.put, ls0, ls1, ls2]
        refine wtk 8 ?_ rfl (.inl ⟨by rfl, ?_⟩) ?_
        rotate_left 1
        · (intro w hSw; go_simp; try with_reducible rfl)
        try simp only [Act.put, ls0, ls1, ls2]
        refine wtk 9 ?_ rfl (.inl ⟨by rfl, ?_⟩) ?_
        rotate_left 1
        · (intro w hSw; go_simp; try with_reducible rfl)
        try simp only [Act.put, ls0, ls1, ls2]
        refine wrd [10] ?_
        refine (arc rfl (fun K hK => ?_) arn)
        have sd := cbk HO1.out 1 (v) rfl
        have sf := frozen_blk HO1.out 1
        have sl := blk_lt HO1.out
        go_simp
        try go_wp2_with fail
        refine out_gen hK _ _ (fun wz : World => Kp (wz.heap[O]? = some (.cells #[.int .u32 own, .slice (some ⟨g, 0, none⟩) (k + 1) cap] 132 (0, 0))) ∧ Kp (wz.ownsRow (bs) 133 1 (.slice (some ⟨g, 0, none⟩) (k + 1) cap) (k + 1) (List.replicate (k + 1) (Value.func (.func fw) #[] cw))) ∧ Kp (MemAt wz B D ws) ∧ Kp (wz.heap[w.heap.size + 1]? = some (.cells #[.bool false, .int .i64 0, .slice none 0 0, .bool false, .int .i64 0, .bool false, .bool false, .bool false, .int .i64 0] 64 (0, 0))) ∧ Kp (ButS [O] w wz) ∧ wd3.heap.size ≤ wz.heap.size) ⟨⟨(blk_set HO1.out 1 _).trans rfl⟩, ⟨own_set_ne LX.out (p := ⟨O, 1, none⟩) (by show O < bs; omega) _⟩, ⟨MemAt.setne HM1.out (p := ⟨O, 1, none⟩) (by show B ≠ O; omega) (by show D ≠ O; omega) _⟩, ⟨blk_set_ne (p := ⟨O, 1, none⟩) d1.out (by show w.heap.size + 1 ≠ O; omega) _⟩, ⟨ButS.set' HS1.out (p := ⟨O, 1, none⟩) (by first | (left; simp; done) | (right; show _ ≤ O; omega)) _⟩, (by simp [World.setCell])⟩ (sx_of1 (ButB.set (And.left hHeld) (p := ⟨O, 1, none⟩) (by first | (left; simp; done) | (right; show _ ≤ O; omega)) _)) (fun wd4 hRn hHn => ?_)
        clear hK K hHeld HO1 LX HM1 d1 HS1 sd sf sl
        obtain ⟨HO1, LX, HM1, d1, HS1, hsz4⟩ := hRn
        have hHeld := hHn
        clear hHn
        try simp only [Act.put, ls0, ls1, ls2]
        refine wpAnyH_done (by kernel_rfl) ?_ _
        clear hHeld
        have LX2 : Kp (LeftX wd4 bs 133 1 (.slice (some ⟨g, 0, none⟩) (k + 1) cap) (k + 1) (List.replicate (k + 1) (Value.func (.func fw) #[] cw)) (some g)) := ⟨.inr ⟨LX.out, rfl⟩⟩
        have HBS2 : Kp (bs ≤ wd4.heap.size) := ⟨by have := HBS.out; have := HS1.out.size; omega⟩
        clear LX
        go_wp2
        go_roundw
        case rel => exact ⟨k + 1, _, some g, by omega, by go_num, HO1, LX2, HM1, d1, HS1, HBS2⟩
        case measure => simp [intOf]; omega
      · have ge_qa : wr.heap.size ≤ wd0.heap.size := (And.left hHeld).size
        go_simp
        try go_wp2_with fail
        refine out_gen hK _ _ (fun wz : World => Kp (wz.heap[O]? = some (.cells #[.int .u32 own, v] 132 (0, 0))) ∧ Kp (LeftX wz bs 133 1 v k (List.replicate k (Value.func (.func fw) #[] cw)) ob) ∧ Kp (MemAt wz B D ws) ∧ Kp (wz.heap[w.heap.size + 1]? = some (.cells #[.bool false, .int .i64 0, .slice none 0 0, .bool false, .int .i64 0, .bool false, .bool false, .bool false, .int .i64 0] 64 (0, 0))) ∧ Kp (ButS [O] w wz) ∧ Kp (wz.heap[wd0.heap.size]? = some (.cells #[Value.func (.func fw) #[] cw] 133 (0, 0))) ∧ wd0.heap.size < wz.heap.size) ⟨⟨blk_al HO1.out _⟩, ⟨LX.out.below (below_al (Below.refl _ _) _)⟩, ⟨HM1.out.al _⟩, ⟨blk_al d1.out _⟩, ⟨ButS.al HS1.out _⟩, ⟨blk_new wd0 _⟩, (by simp)⟩ (sx_of1 (ButB.al (And.left hHeld) _)) (fun wd5 hRn hHn => ?_)
        clear hK K hHeld HO1 LX HM1 d1 HS1
        obtain ⟨HO1, LX, HM1, d1, HS1, qa, hsz5⟩ := hRn
        have hHeld := hHn
        clear hHn
        try simp only [Act.put, ls0, ls1, ls2]
        have lt_qa := blk_lt qa.out
        refine wrd [4] ?_
        refine (arc rfl (fun K hK => ?_) arn)
        have sd1 := cbk HO1.out 1 (v) rfl
        have sl := blk_lt HO1.out
        go_simp
        try go_wp2_with fail
        refine out_gen hK _ _ (fun wz : World => Kp (wz.heap[O]? = some (.cells #[.int .u32 own, v] 132 (0, 0))) ∧ Kp (LeftX wz bs 133 1 v k (List.replicate k (Value.func (.func fw) #[] cw)) ob) ∧ Kp (MemAt wz B D ws) ∧ Kp (wz.heap[w.heap.size + 1]? = some (.cells #[.bool false, .int .i64 0, .slice none 0 0, .bool false, .int .i64 0, .bool false, .bool false, .bool false, .int .i64 0] 64 (0, 0))) ∧ Kp (ButS [O] w wz) ∧ Kp (wz.heap[wd0.heap.size]? = some (.cells #[Value.func (.func fw) #[] cw] 133 (0, 0))) ∧ wd5.heap.size ≤ wz.heap.size) ⟨⟨HO1.out⟩, ⟨LX.out⟩, ⟨HM1.out⟩, ⟨d1.out⟩, ⟨HS1.out⟩, ⟨qa.out⟩, Nat.le_refl _⟩ (sx_of1 ((And.left hHeld))) (fun wd6 hRn hHn => ?_)
        clear hK K hHeld HO1 LX HM1 d1 HS1 qa  sd1 sl
        obtain ⟨HO1, LX, HM1, d1, HS1, qa, hsz6⟩ := hRn
        have hHeld := hHn
        clear hHn
        try simp only [Act.put, ls0, ls1, ls2]
        refine wrd [7] ?_
        refine (arc rfl (fun K hK => ?_) arn)
        have hws := (And.left hHeld).size
        refine step_append_X _ (by rfl) _ _ 130 (by rfl) (bs) 133 i0 .nilFunc 1 8 Tryz.underlying130 hi0 hz0 hz1 hz2 (by rfl) (by decide) _ _ _ _ (by rfl) LX.out _ 1 _ [Value.func (.func fw) #[] cw] (by rfl) rfl (World.news_of_block qa.out) (by simp [Value.oneCell', FV]) (by decide) (by unfold maxLen; omega) (by omega) (by omega) ?_
        intro g cap w9 hown hgrow hob
        refine out_gen hK _ _ (fun wz : World => Kp (wz.heap[O]? = some (.cells #[.int .u32 own, v] 132 (0, 0))) ∧ Kp (wz.ownsRow (bs) 133 1 (.slice (some ⟨g, 0, none⟩) (k + 1) cap) (k + 1) (List.replicate (k + 1) (Value.func (.func fw) #[] cw))) ∧ Kp (MemAt wz B D ws) ∧ Kp (wz.heap[w.heap.size + 1]? = some (.cells #[.bool false, .int .i64 0, .slice none 0 0, .bool false, .int .i64 0, .bool false, .bool false, .bool false, .int .i64 0] 64 (0, 0))) ∧ Kp (ButS [O] w wz) ∧ wd6.heap.size ≤ wz.heap.size) ⟨⟨blk_grownO HO1.out hgrow (fun q hq => by have := hobg q hq; omega)⟩, ⟨by have h := hown; rw [← List.replicate_succ'] at h; exact h⟩, ⟨MemAt.grownO HM1.out hgrow (fun q hq => by have := hobg q hq; omega)⟩, ⟨blk_grownO d1.out hgrow (fun q hq => by have := hobg q hq; omega)⟩, ⟨ButS.grownO HS1.out hgrow (fun q hq => by have := hobg q hq; omega)⟩, hgrow.size⟩ (sx_of1 (ButB.grownO (And.left hHeld) hgrow hobg)) (fun wd7 hRn hHn => ?_)
        clear hK K hHeld HO1 LX HM1 d1 HS1 qa hown hgrow hws hob
        obtain ⟨HO1, LX, HM1, d1, HS1, hsz7⟩ := hRn
        have hHeld := hHn
        clear hHn
        try simp only [Act.put, ls0, ls1, ls2]
        refine wtk 8 ?_ rfl (.inl ⟨by rfl, ?_⟩) ?_
        rotate_left 1
        · (intro w hSw; go_simp; try with_reducible rfl)
        try simp only [Act.put, ls0, ls1, ls2]
        refine wtk 9 ?_ rfl (.inl ⟨by rfl, ?_⟩) ?_
        rotate_left 1
        · (intro w hSw; go_simp; try with_reducible rfl)
        try simp only [Act.put, ls0, ls1, ls2]
        refine wrd [10] ?_
        refine (arc rfl (fun K hK => ?_) arn)
        have sd := cbk HO1.out 1 (v) rfl
        have sf := frozen_blk HO1.out 1
        have sl := blk_lt HO1.out
        go_simp
        try go_wp2_with fail
        refine out_gen hK _ _ (fun wz : World => Kp (wz.heap[O]? = some (.cells #[.int .u32 own, .slice (some ⟨g, 0, none⟩) (k + 1) cap] 132 (0, 0))) ∧ Kp (wz.ownsRow (bs) 133 1 (.slice (some ⟨g, 0, none⟩) (k + 1) cap) (k + 1) (List.replicate (k + 1) (Value.func (.func fw) #[] cw))) ∧ Kp (MemAt wz B D ws) ∧ Kp (wz.heap[w.heap.size + 1]? = some (.cells #[.bool false, .int .i64 0, .slice none 0 0, .bool false, .int .i64 0, .bool false, .bool false, .bool false, .int .i64 0] 64 (0, 0))) ∧ Kp (ButS [O] w wz) ∧ wd7.heap.size ≤ wz.heap.size) ⟨⟨(blk_set HO1.out 1 _).trans rfl⟩, ⟨own_set_ne LX.out (p := ⟨O, 1, none⟩) (by show O < bs; omega) _⟩, ⟨MemAt.setne HM1.out (p := ⟨O, 1, none⟩) (by show B ≠ O; omega) (by show D ≠ O; omega) _⟩, ⟨blk_set_ne (p := ⟨O, 1, none⟩) d1.out (by show w.heap.size + 1 ≠ O; omega) _⟩, ⟨ButS.set' HS1.out (p := ⟨O, 1, none⟩) (by first | (left; simp; done) | (right; show _ ≤ O; omega)) _⟩, (by simp [World.setCell])⟩ (sx_of1 (ButB.set (And.left hHeld) (p := ⟨O, 1, none⟩) (by first | (left; simp; done) | (right; show _ ≤ O; omega)) _)) (fun wd8 hRn hHn => ?_)
        clear hK K hHeld HO1 LX HM1 d1 HS1 sd sf sl
        obtain ⟨HO1, LX, HM1, d1, HS1, hsz8⟩ := hRn
        have hHeld := hHn
        clear hHn
        try simp only [Act.put, ls0, ls1, ls2]
        refine wpAnyH_done (by kernel_rfl) ?_ _
        clear hHeld
        have LX2 : Kp (LeftX wd8 bs 133 1 (.slice (some ⟨g, 0, none⟩) (k + 1) cap) (k + 1) (List.replicate (k + 1) (Value.func (.func fw) #[] cw)) (some g)) := ⟨.inr ⟨LX.out, rfl⟩⟩
        have HBS2 : Kp (bs ≤ wd8.heap.size) := ⟨by have := HBS.out; have := HS1.out.size; omega⟩
        clear LX
        go_wp2
        go_roundw
        case rel => exact ⟨k + 1, _, some g, by omega, by go_num, HO1, LX2, HM1, d1, HS1, HBS2⟩
        case measure => simp [intOf]; omega
    · obtain rfl : k = L := by omega
      have hkx : ¬ (k : Int) < q.words := by omega
      clear hLx
      go_wp2_with fail
      refine held_start_gen (S := (fun w' : World => ButB (bs) [O] wr w' ∧ ∀ bb o, bb < bs → bb ≠ O → w'.cell? ⟨bb, o, none⟩ = wr.cell? ⟨bb, o, none⟩)) (by kernel_rfl) (fun wz : World => Kp (wz.heap[O]? = some (.cells #[.int .u32 own, v] 132 (0, 0))) ∧ Kp (LeftX wz bs 133 1 v k (List.replicate k (Value.func (.func fw) #[] cw)) ob) ∧ Kp (MemAt wz B D ws) ∧ Kp (wz.heap[w.heap.size + 1]? = some (.cells #[.bool false, .int .i64 0, .slice none 0 0, .bool false, .int .i64 0, .bool false, .bool false, .bool false, .int .i64 0] 64 (0, 0))) ∧ Kp (ButS [O] w wz) ∧ wr.heap.size ≤ wz.heap.size) ⟨⟨blk_dr HO1.out⟩, ⟨LX.out.below (below_dr (Below.refl _ _))⟩, ⟨HM1.out.below (below_dr (Below.refl _ _))⟩, ⟨blk_dr d1.out⟩, ⟨ButS.dr HS1.out⟩, Nat.le_refl _⟩ (sx_of1 (ButB.dr (ButB.refl _ (by omega)))) (fun wd0 hRn hHeld => ?_)
      clear HO1 LX HM1 d1 HS1
      obtain ⟨HO1, LX, HM1, d1, HS1, hsz⟩ := hRn
      refine wtk 0 ?_ rfl (.inl ⟨by rfl, ?_⟩) ?_
      rotate_left 1
      · (intro w hSw; go_simp; try with_reducible rfl)
      try simp only [Act.put, ls0, ls1, ls2]
      refine wtk 1 ?_ rfl (.inl ⟨by rfl, ?_⟩) ?_
      rotate_left 1
      · (intro w hSw; go_simp; try with_reducible rfl)
      try simp only [Act.put, ls0, ls1, ls2]
      refine wtk 2 ?_ rfl (.inl ⟨by rfl, ?_⟩) ?_
      rotate_left 1
      · (intro w hSw; go_simp; try with_reducible rfl)
      try simp only [Act.put, ls0, ls1, ls2]
      refine wtk 3 ?_ rfl (.inl ⟨by rfl, ?_⟩) ?_
      rotate_left 1
      · (intro w hSw; go_simp; try with_reducible rfl)
      try simp only [Act.put, ls0, ls1, ls2]
      refine wtk 5 ?_ rfl (.inl ⟨by rfl, ?_⟩) ?_
      rotate_left 1
      · (intro w hSw; go_simp; try with_reducible rfl)
      try simp only [Act.put, ls0, ls1, ls2]
      refine wrd [4, 6] ?_
      refine (arc rfl (fun K hK => ?_) (arc rfl (fun K hK => ?_) arn))
      · have sd1 := cbk HO1.out 1 (v) rfl
        have sl := blk_lt HO1.out
        go_simp
        try go_wp2_with fail
        refine out_gen hK _ _ (fun wz : World => Kp (wz.heap[O]? = some (.cells #[.int .u32 own, v] 132 (0, 0))) ∧ Kp (LeftX wz bs 133 1 v k (List.replicate k (Value.func (.func fw) #[] cw)) ob) ∧ Kp (MemAt wz B D ws) ∧ Kp (wz.heap[w.heap.size + 1]? = some (.cells #[.bool false, .int .i64 0, .slice none 0 0, .bool false, .int .i64 0, .bool false, .bool false, .bool false, .int .i64 0] 64 (0, 0))) ∧ Kp (ButS [O] w wz) ∧ wd0.heap.size ≤ wz.heap.size) ⟨⟨HO1.out⟩, ⟨LX.out⟩, ⟨HM1.out⟩, ⟨d1.out⟩, ⟨HS1.out⟩, Nat.le_refl _⟩ (sx_of1 ((And.left hHeld))) (fun wd1 hRn hHn => ?_)
        clear hK K hHeld HO1 LX HM1 d1 HS1  sd1 sl
        obtain ⟨HO1, LX, HM1, d1, HS1, hsz1⟩ := hRn
        have hHeld := hHn
        clear hHn
        try simp only [Act.put, ls0, ls1, ls2]
        refine wrd [6] ?_
        refine (arc rfl (fun K hK => ?_) arn)
        have ge_qa : wr.heap.size ≤ wd1.heap.size := (And.left hHeld).size
        go_simp
        try go_wp2_with fail
        refine out_gen hK _ _ (fun wz : World => Kp (wz.heap[O]? = some (.cells #[.int .u32 own, v] 132 (0, 0))) ∧ Kp (LeftX wz bs 133 1 v k (List.replicate k (Value.func (.func fw) #[] cw)) ob) ∧ Kp (MemAt wz B D ws) ∧ Kp (wz.heap[w.heap.size + 1]? = some (.cells #[.bool false, .int .i64 0, .slice none 0 0, .bool false, .int .i64 0, .bool false, .bool false, .bool false, .int .i64 0] 64 (0, 0))) ∧ Kp (ButS [O] w wz) ∧ Kp (wz.heap[wd1.heap.size]? = some (.cells #[Value.func (.func fe) #[] ce] 133 (0, 0))) ∧ wd1.heap.size < wz.heap.size) ⟨⟨blk_al HO1.out _⟩, ⟨LX.out.below (below_al (Below.refl _ _) _)⟩, ⟨HM1.out.al _⟩, ⟨blk_al d1.out _⟩, ⟨ButS.al HS1.out _⟩, ⟨blk_new wd1 _⟩, (by simp)⟩ (sx_of1 (ButB.al (And.left hHeld) _)) (fun wd2 hRn hHn => ?_)
        clear hK K hHeld HO1 LX HM1 d1 HS1
        obtain ⟨HO1, LX, HM1, d1, HS1, qa, hsz2⟩ := hRn
        have hHeld := hHn
        clear hHn
        try simp only [Act.put, ls0, ls1, ls2]
        have lt_qa := blk_lt qa.out
        refine wrd [7] ?_
        refine (arc rfl (fun K hK => ?_) arn)
        have hws := (And.left hHeld).size
        refine step_append_X _ (by rfl) _ _ 130 (by rfl) (bs) 133 i0 .nilFunc 1 8 Tryz.underlying130 hi0 hz0 hz1 hz2 (by rfl) (by decide) _ _ _ _ (by rfl) LX.out _ 1 _ [Value.func (.func fe) #[] ce] (by rfl) rfl (World.news_of_block qa.out) (by simp [Value.oneCell', FV]) (by decide) (by unfold maxLen; omega) (by omega) (by omega) ?_
        intro g cap w9 hown hgrow hob
        refine out_gen hK _ _ (fun wz : World => Kp (wz.heap[O]? = some (.cells #[.int .u32 own, v] 132 (0, 0))) ∧ Kp (wz.ownsRow (bs) 133 1 (.slice (some ⟨g, 0, none⟩) (k + 1) cap) (k + 1) (List.replicate k (Value.func (.func fw) #[] cw) ++ [Value.func (.func fe) #[] ce])) ∧ Kp (MemAt wz B D ws) ∧ Kp (wz.heap[w.heap.size + 1]? = some (.cells #[.bool false, .int .i64 0, .slice none 0 0, .bool false, .int .i64 0, .bool false, .bool false, .bool false, .int .i64 0] 64 (0, 0))) ∧ Kp (ButS [O] w wz) ∧ wd2.heap.size ≤ wz.heap.size) ⟨⟨blk_grownO HO1.out hgrow (fun q hq => by have := hobg q hq; omega)⟩, ⟨by have h := hown; skip; exact h⟩, ⟨MemAt.grownO HM1.out hgrow (fun q hq => by have := hobg q hq; omega)⟩, ⟨blk_grownO d1.out hgrow (fun q hq => by have := hobg q hq; omega)⟩, ⟨ButS.grownO HS1.out hgrow (fun q hq => by have := hobg q hq; omega)⟩, hgrow.size⟩ (sx_of1 (ButB.grownO (And.left hHeld) hgrow hobg)) (fun wd3 hRn hHn => ?_)
        clear hK K hHeld HO1 LX HM1 d1 HS1 qa hown hgrow hws hob
        obtain ⟨HO1, LX, HM1, d1, HS1, hsz3⟩ := hRn
        have hHeld := hHn
        clear hHn
        try simp only [Act.put, ls0, ls1, ls2]
        refine wtk 8 ?_ rfl (.inl ⟨by rfl, ?_⟩) ?_
        rotate_left 1
        · (intro w hSw; go_simp; try with_reducible rfl)
        try simp only [Act.put, ls0, ls1, ls2]
        refine wtk 9 ?_ rfl (.inl ⟨by rfl, ?_⟩) ?_
        rotate_left 1
        · (intro w hSw; go_simp; try with_reducible rfl)
        try simp only [Act.put, ls0, ls1, ls2]
        refine wrd [10] ?_
        refine (arc rfl (fun K hK => ?_) arn)
        have sd := cbk HO1.out 1 (v) rfl
        have sf := frozen_blk HO1.out 1
        have sl := blk_lt HO1.out
        go_simp
        try go_wp2_with fail
        refine out_gen hK _ _ (fun wz : World => Kp (wz.heap[O]? = some (.cells #[.int .u32 own, .slice (some ⟨g, 0, none⟩) (k + 1) cap] 132 (0, 0))) ∧ Kp (wz.ownsRow (bs) 133 1 (.slice (some ⟨g, 0, none⟩) (k + 1) cap) (k + 1) (List.replicate k (Value.func (.func fw) #[] cw) ++ [Value.func (.func fe) #[] ce])) ∧ Kp (MemAt wz B D ws) ∧ Kp (wz.heap[w.heap.size + 1]? = some (.cells #[.bool false, .int .i64 0, .slice none 0 0, .bool false, .int .i64 0, .bool false, .bool false, .bool false, .int .i64 0] 64 (0, 0))) ∧ Kp (ButS [O] w wz) ∧ wd3.heap.size ≤ wz.heap.size) ⟨⟨(blk_set HO1.out 1 _).trans rfl⟩, ⟨own_set_ne LX.out (p := ⟨O, 1, none⟩) (by show O < bs; omega) _⟩, ⟨MemAt.setne HM1.out (p := ⟨O, 1, none⟩) (by show B ≠ O; omega) (by show D ≠ O; omega) _⟩, ⟨blk_set_ne (p := ⟨O, 1, none⟩) d1.out (by show w.heap.size + 1 ≠ O; omega) _⟩, ⟨ButS.set' HS1.out (p := ⟨O, 1, none⟩) (by first | (left; simp; done) | (right; show _ ≤ O; omega)) _⟩, (by simp [World.setCell])⟩ (sx_of1 (ButB.set (And.left hHeld) (p := ⟨O, 1, none⟩) (by first | (left; simp; done) | (right; show _ ≤ O; omega)) _)) (fun wd4 hRn hHn => ?_)
        clear hK K hHeld HO1 LX HM1 d1 HS1 sd sf sl
        obtain ⟨HO1, LX, HM1, d1, HS1, hsz4⟩ := hRn
        have hHeld := hHn
        clear hHn
        try simp only [Act.put, ls0, ls1, ls2]
        refine wpAnyH_done (by kernel_rfl) ?_ _
        clear hHeld
        have dc0 := cbk d1.out 0 (.bool false) rfl
        have df0 := frozen_blk d1.out 0
        have dc1 := cbk d1.out 1 (.int .i64 0) rfl
        have df1 := frozen_blk d1.out 1
        have dc2 := cbk d1.out 2 (.slice none 0 0) rfl
        have df2 := frozen_blk d1.out 2
        have dc3 := cbk d1.out 3 (.bool false) rfl
        have df3 := frozen_blk d1.out 3
        have dc4 := cbk d1.out 4 (.int .i64 0) rfl
        have df4 := frozen_blk d1.out 4
        have dc5 := cbk d1.out 5 (.bool false) rfl
        have df5 := frozen_blk d1.out 5
        have dc6 := cbk d1.out 6 (.bool false) rfl
        have df6 := frozen_blk d1.out 6
        have dc7 := cbk d1.out 7 (.bool false) rfl
        have df7 := frozen_blk d1.out 7
        have dc8 := cbk d1.out 8 (.int .i64 0) rfl
        have df8 := frozen_blk d1.out 8
        have dl := blk_lt d1.out
        have hgb := (LX.out.lt g rfl).1
        have LY : Kp (wd4.ownsRow w.heap.size 133 1 (.slice (some ⟨g, 0, none⟩) (k + 1) cap) (k + 1) (List.replicate k (Value.func (.func fw) #[] cw) ++ [Value.func (.func fe) #[] ce])) := ⟨own_base LX.out (by have := hszb; omega)⟩
        go_wp2
        exact bodyPost_ret (v := .agg #[.bool false, .int .i64 0, .slice none 0 0, .bool false, .int .i64 0, .bool false, .bool false, .bool false, .int .i64 0]) (results_cell_row rfl _ _ _ _ _ _ _ rfl ((blk_set (blk_set (blk_set (blk_set (blk_set (blk_set (blk_set (blk_set (blk_set d1.out 0 (.bool false)) 1 (.int .i64 0)) 2 (.slice none 0 0)) 3 (.bool false)) 4 (.int .i64 0)) 5 (.bool false)) 6 (.bool false)) 7 (.bool false)) 8 (.int .i64 0)).trans rfl) Tryz.underlying64 rfl (by kernel_rfl)) rfl ⟨g, cap, rfl, (blk_set_ne (p := ⟨w.heap.size + 1, 8, none⟩) (blk_set_ne (p := ⟨w.heap.size + 1, 7, none⟩) (blk_set_ne (p := ⟨w.heap.size + 1, 6, none⟩) (blk_set_ne (p := ⟨w.heap.size + 1, 5, none⟩) (blk_set_ne (p := ⟨w.heap.size + 1, 4, none⟩) (blk_set_ne (p := ⟨w.heap.size + 1, 3, none⟩) (blk_set_ne (p := ⟨w.heap.size + 1, 2, none⟩) (blk_set_ne (p := ⟨w.heap.size + 1, 1, none⟩) (blk_set_ne (p := ⟨w.heap.size + 1, 0, none⟩) HO1.out (by show O ≠ w.heap.size + 1; omega) (.bool false)) (by show O ≠ w.heap.size + 1; omega) (.int .i64 0)) (by show O ≠ w.heap.size + 1; omega) (.slice none 0 0)) (by show O ≠ w.heap.size + 1; omega) (.bool false)) (by show O ≠ w.heap.size + 1; omega) (.int .i64 0)) (by show O ≠ w.heap.size + 1; omega) (.bool false)) (by show O ≠ w.heap.size + 1; omega) (.bool false)) (by show O ≠ w.heap.size + 1; omega) (.bool false)) (by show O ≠ w.heap.size + 1; omega) (.int .i64 0)), (own_set_blk (own_set_blk (own_set_blk (own_set_blk (own_set_blk (own_set_blk (own_set_blk (own_set_blk (own_set_blk LY.out (p := ⟨w.heap.size + 1, 0, none⟩) (by show g ≠ w.heap.size + 1; omega) (.bool false)) (p := ⟨w.heap.size + 1, 1, none⟩) (by show g ≠ w.heap.size + 1; omega) (.int .i64 0)) (p := ⟨w.heap.size + 1, 2, none⟩) (by show g ≠ w.heap.size + 1; omega) (.slice none 0 0)) (p := ⟨w.heap.size + 1, 3, none⟩) (by show g ≠ w.heap.size + 1; omega) (.bool false)) (p := ⟨w.heap.size + 1, 4, none⟩) (by show g ≠ w.heap.size + 1; omega) (.int .i64 0)) (p := ⟨w.heap.size + 1, 5, none⟩) (by show g ≠ w.heap.size + 1; omega) (.bool false)) (p := ⟨w.heap.size + 1, 6, none⟩) (by show g ≠ w.heap.size + 1; omega) (.bool false)) (p := ⟨w.heap.size + 1, 7, none⟩) (by show g ≠ w.heap.size + 1; omega) (.bool false)) (p := ⟨w.heap.size + 1, 8, none⟩) (by show g ≠ w.heap.size + 1; omega) (.int .i64 0)), (MemAt.setne (MemAt.setne (MemAt.setne (MemAt.setne (MemAt.setne (MemAt.setne (MemAt.setne (MemAt.setne (MemAt.setne HM1.out (p := ⟨w.heap.size + 1, 0, none⟩) (by show B ≠ w.heap.size + 1; omega) (by show D ≠ w.heap.size + 1; omega) (.bool false)) (p := ⟨w.heap.size + 1, 1, none⟩) (by show B ≠ w.heap.size + 1; omega) (by show D ≠ w.heap.size + 1; omega) (.int .i64 0)) (p := ⟨w.heap.size + 1, 2, none⟩) (by show B ≠ w.heap.size + 1; omega) (by show D ≠ w.heap.size + 1; omega) (.slice none 0 0)) (p := ⟨w.heap.size + 1, 3, none⟩) (by show B ≠ w.heap.size + 1; omega) (by show D ≠ w.heap.size + 1; omega) (.bool false)) (p := ⟨w.heap.size + 1, 4, none⟩) (by show B ≠ w.heap.size + 1; omega) (by show D ≠ w.heap.size + 1; omega) (.int .i64 0)) (p := ⟨w.heap.size + 1, 5, none⟩) (by show B ≠ w.heap.size + 1; omega) (by show D ≠ w.heap.size + 1; omega) (.bool false)) (p := ⟨w.heap.size + 1, 6, none⟩) (by show B ≠ w.heap.size + 1; omega) (by show D ≠ w.heap.size + 1; omega) (.bool false)) (p := ⟨w.heap.size + 1, 7, none⟩) (by show B ≠ w.heap.size + 1; omega) (by show D ≠ w.heap.size + 1; omega) (.bool false)) (p := ⟨w.heap.size + 1, 8, none⟩) (by show B ≠ w.heap.size + 1; omega) (by show D ≠ w.heap.size + 1; omega) (.int .i64 0)), (ButS.set' (ButS.set' (ButS.set' (ButS.set' (ButS.set' (ButS.set' (ButS.set' (ButS.set' (ButS.set' HS1.out (p := ⟨w.heap.size + 1, 0, none⟩) (by right; show w.heap.size ≤ w.heap.size + 1; omega) (.bool false)) (p := ⟨w.heap.size + 1, 1, none⟩) (by right; show w.heap.size ≤ w.heap.size + 1; omega) (.int .i64 0)) (p := ⟨w.heap.size + 1, 2, none⟩) (by right; show w.heap.size ≤ w.heap.size + 1; omega) (.slice none 0 0)) (p := ⟨w.heap.size + 1, 3, none⟩) (by right; show w.heap.size ≤ w.heap.size + 1; omega) (.bool false)) (p := ⟨w.heap.size + 1, 4, none⟩) (by right; show w.heap.size ≤ w.heap.size + 1; omega) (.int .i64 0)) (p := ⟨w.heap.size + 1, 5, none⟩) (by right; show w.heap.size ≤ w.heap.size + 1; omega) (.bool false)) (p := ⟨w.heap.size + 1, 6, none⟩) (by right; show w.heap.size ≤ w.heap.size + 1; omega) (.bool false)) (p := ⟨w.heap.size + 1, 7, none⟩) (by right; show w.heap.size ≤ w.heap.size + 1; omega) (.bool false)) (p := ⟨w.heap.size + 1, 8, none⟩) (by right; show w.heap.size ≤ w.heap.size + 1; omega) (.int .i64 0))⟩
      · have ge_qa : wr.heap.size ≤ wd0.heap.size := (And.left hHeld).size
        go_simp
        try go_wp2_with fail
        refine out_gen hK _ _ (fun wz : World => Kp (wz.heap[O]? = some (.cells #[.int .u32 own, v] 132 (0, 0))) ∧ Kp (LeftX wz bs 133 1 v k (List.replicate k (Value.func (.func fw) #[] cw)) ob) ∧ Kp (MemAt wz B D ws) ∧ Kp (wz.heap[w.heap.size + 1]? = some (.cells #[.bool false, .int .i64 0, .slice none 0 0, .bool false, .int .i64 0, .bool false, .bool false, .bool false, .int .i64 0] 64 (0, 0))) ∧ Kp (ButS [O] w wz) ∧ Kp (wz.heap[wd0.heap.size]? = some (.cells #[Value.func (.func fe) #[] ce] 133 (0, 0))) ∧ wd0.heap.size < wz.heap.size) ⟨⟨blk_al HO1.out _⟩, ⟨LX.out.below (below_al (Below.refl _ _) _)⟩, ⟨HM1.out.al _⟩, ⟨blk_al d1.out _⟩, ⟨ButS.al HS1.out _⟩, ⟨blk_new wd0 _⟩, (by simp)⟩ (sx_of1 (ButB.al (And.left hHeld) _)) (fun wd5 hRn hHn => ?_)
        clear hK K hHeld HO1 LX HM1 d1 HS1
        obtain ⟨HO1, LX, HM1, d1, HS1, qa, hsz5⟩ := hRn
        have hHeld := hHn
        clear hHn
        try simp only [Act.put, ls0, ls1, ls2]
        have lt_qa := blk_lt qa.out
        refine wrd [4] ?_
        refine (arc rfl (fun K hK => ?_) arn)
        have sd1 := cbk HO1.out 1 (v) rfl
        have sl := blk_lt HO1.out
        go_simp
        try go_wp2_with fail
        refine out_gen hK _ _ (fun wz : World => Kp (wz.heap[O]? = some (.cells #[.int .u32 own, v] 132 (0, 0))) ∧ Kp (LeftX wz bs 133 1 v k (List.replicate k (Value.func (.func fw) #[] cw)) ob) ∧ Kp (MemAt wz B D ws) ∧ Kp (wz.heap[w.heap.size + 1]? = some (.cells #[.bool false, .int .i64 0, .slice none 0 0, .bool false, .int .i64 0, .bool false, .bool false, .bool false, .int .i64 0] 64 (0, 0))) ∧ Kp (ButS [O] w wz) ∧ Kp (wz.heap[wd0.heap.size]? = some (.cells #[Value.func (.func fe) #[] ce] 133 (0, 0))) ∧ wd5.heap.size ≤ wz.heap.size) ⟨⟨HO1.out⟩, ⟨LX.out⟩, ⟨HM1.out⟩, ⟨d1.out⟩, ⟨HS1.out⟩, ⟨qa.out⟩, Nat.le_refl _⟩ (sx_of1 ((And.left hHeld))) (fun wd6 hRn hHn => ?_)
        clear hK K hHeld HO1 LX HM1 d1 HS1 qa  sd1 sl
        obtain ⟨HO1, LX, HM1, d1, HS1, qa, hsz6⟩ := hRn
        have hHeld := hHn
        clear hHn
        try simp only [Act.put, ls0, ls1, ls2]
        refine wrd [7] ?_
        refine (arc rfl (fun K hK => ?_) arn)
        have hws := (And.left hHeld).size
        refine step_append_X _ (by rfl) _ _ 130 (by rfl) (bs) 133 i0 .nilFunc 1 8 Tryz.underlying130 hi0 hz0 hz1 hz2 (by rfl) (by decide) _ _ _ _ (by rfl) LX.out _ 1 _ [Value.func (.func fe) #[] ce] (by rfl) rfl (World.news_of_block qa.out) (by simp [Value.oneCell', FV]) (by decide) (by unfold maxLen; omega) (by omega) (by omega) ?_
        intro g cap w9 hown hgrow hob
        refine out_gen hK _ _ (fun wz : World => Kp (wz.heap[O]? = some (.cells #[.int .u32 own, v] 132 (0, 0))) ∧ Kp (wz.ownsRow (bs) 133 1 (.slice (some ⟨g, 0, none⟩) (k + 1) cap) (k + 1) (List.replicate k (Value.func (.func fw) #[] cw) ++ [Value.func (.func fe) #[] ce])) ∧ Kp (MemAt wz B D ws) ∧ Kp (wz.heap[w.heap.size + 1]? = some (.cells #[.bool false, .int .i64 0, .slice none 0 0, .bool false, .int .i64 0, .bool false, .bool false, .bool false, .int .i64 0] 64 (0, 0))) ∧ Kp (ButS [O] w wz) ∧ wd6.heap.size ≤ wz.heap.size) ⟨⟨blk_grownO HO1.out hgrow (fun q hq => by have := hobg q hq; omega)⟩, ⟨by have h := hown; skip; exact h⟩, ⟨MemAt.grownO HM1.out hgrow (fun q hq => by have := hobg q hq; omega)⟩, ⟨blk_grownO d1.out hgrow (fun q hq => by have := hobg q hq; omega)⟩, ⟨ButS.grownO HS1.out hgrow (fun q hq => by have := hobg q hq; omega)⟩, hgrow.size⟩ (sx_of1 (ButB.grownO (And.left hHeld) hgrow hobg)) (fun wd7 hRn hHn => ?_)
        clear hK K hHeld HO1 LX HM1 d1 HS1 qa hown hgrow hws hob
        obtain ⟨HO1, LX, HM1, d1, HS1, hsz7⟩ := hRn
        have hHeld := hHn
        clear hHn
        try simp only [Act.put, ls0, ls1, ls2]
        refine wtk 8 ?_ rfl (.inl ⟨by rfl, ?_⟩) ?_
        rotate_left 1
        · (intro w hSw; go_simp; try with_reducible rfl)
        try simp only [Act.put, ls0, ls1, ls2]
        refine wtk 9 ?_ rfl (.inl ⟨by rfl, ?_⟩) ?_
        rotate_left 1
        · (intro w hSw; go_simp; try with_reducible rfl)
        try simp only [Act.put, ls0, ls1, ls2]
        refine wrd [10] ?_
        refine (arc rfl (fun K hK => ?_) arn)
        have sd := cbk HO1.out 1 (v) rfl
        have sf := frozen_blk HO1.out 1
        have sl := blk_lt HO1.out
        go_simp
        try go_wp2_with fail
        refine out_gen hK _ _ (fun wz : World => Kp (wz.heap[O]? = some (.cells #[.int .u32 own, .slice (some ⟨g, 0, none⟩) (k + 1) cap] 132 (0, 0))) ∧ Kp (wz.ownsRow (bs) 133 1 (.slice (some ⟨g, 0, none⟩) (k + 1) cap) (k + 1) (List.replicate k (Value.func (.func fw) #[] cw) ++ [Value.func (.func fe) #[] ce])) ∧ Kp (MemAt wz B D ws) ∧ Kp (wz.heap[w.heap.size + 1]? = some (.cells #[.bool false, .int .i64 0, .slice none 0 0, .bool false, .int .i64 0, .bool false, .bool false, .bool false, .int .i64 0] 64 (0, 0))) ∧ Kp (ButS [O] w wz) ∧ wd7.heap.size ≤ wz.heap.size) ⟨⟨(blk_set HO1.out 1 _).trans rfl⟩, ⟨own_set_ne LX.out (p := ⟨O, 1, none⟩) (by show O < bs; omega) _⟩, ⟨MemAt.setne HM1.out (p := ⟨O, 1, none⟩) (by show B ≠ O; omega) (by show D ≠ O; omega) _⟩, ⟨blk_set_ne (p := ⟨O, 1, none⟩) d1.out (by show w.heap.size + 1 ≠ O; omega) _⟩, ⟨ButS.set' HS1.out (p := ⟨O, 1, none⟩) (by first | (left; simp; done) | (right; show _ ≤ O; omega)) _⟩, (by simp [World.setCell])⟩ (sx_of1 (ButB.set (And.left hHeld) (p := ⟨O, 1, none⟩) (by first | (left; simp; done) | (right; show _ ≤ O; omega)) _)) (fun wd8 hRn hHn => ?_)
        clear hK K hHeld HO1 LX HM1 d1 HS1 sd sf sl
        obtain ⟨HO1, LX, HM1, d1, HS1, hsz8⟩ := hRn
        have hHeld := hHn
        clear hHn
        try simp only [Act.put, ls0, ls1, ls2]
        refine wpAnyH_done (by kernel_rfl) ?_ _
        clear hHeld
        have dc0 := cbk d1.out 0 (.bool false) rfl
        have df0 := frozen_blk d1.out 0
        have dc1 := cbk d1.out 1 (.int .i64 0) rfl
        have df1 := frozen_blk d1.out 1
        have dc2 := cbk d1.out 2 (.slice none 0 0) rfl
        have df2 := frozen_blk d1.out 2
        have dc3 := cbk d1.out 3 (.bool false) rfl
        have df3 := frozen_blk d1.out 3
        have dc4 := cbk d1.out 4 (.int .i64 0) rfl
        have df4 := frozen_blk d1.out 4
        have dc5 := cbk d1.out 5 (.bool false) rfl
        have df5 := frozen_blk d1.out 5
        have dc6 := cbk d1.out 6 (.bool false) rfl
        have df6 := frozen_blk d1.out 6
        have dc7 := cbk d1.out 7 (.bool false) rfl
        have df7 := frozen_blk d1.out 7
        have dc8 := cbk d1.out 8 (.int .i64 0) rfl
        have df8 := frozen_blk d1.out 8
        have dl := blk_lt d1.out
        have hgb := (LX.out.lt g rfl).1
        have LY : Kp (wd8.ownsRow w.heap.size 133 1 (.slice (some ⟨g, 0, none⟩) (k + 1) cap) (k + 1) (List.replicate k (Value.func (.func fw) #[] cw) ++ [Value.func (.func fe) #[] ce])) := ⟨own_base LX.out (by have := hszb; omega)⟩
        go_wp2
        exact bodyPost_ret (v := .agg #[.bool false, .int .i64 0, .slice none 0 0, .bool false, .int .i64 0, .bool false, .bool false, .bool false, .int .i64 0]) (results_cell_row rfl _ _ _ _ _ _ _ rfl ((blk_set (blk_set (blk_set (blk_set (blk_set (blk_set (blk_set (blk_set (blk_set d1.out 0 (.bool false)) 1 (.int .i64 0)) 2 (.slice none 0 0)) 3 (.bool false)) 4 (.int .i64 0)) 5 (.bool false)) 6 (.bool false)) 7 (.bool false)) 8 (.int .i64 0)).trans rfl) Tryz.underlying64 rfl (by kernel_rfl)) rfl ⟨g, cap, rfl, (blk_set_ne (p := ⟨w.heap.size + 1, 8, none⟩) (blk_set_ne (p := ⟨w.heap.size + 1, 7, none⟩) (blk_set_ne (p := ⟨w.heap.size + 1, 6, none⟩) (blk_set_ne (p := ⟨w.heap.size + 1, 5, none⟩) (blk_set_ne (p := ⟨w.heap.size + 1, 4, none⟩) (blk_set_ne (p := ⟨w.heap.size + 1, 3, none⟩) (blk_set_ne (p := ⟨w.heap.size + 1, 2, none⟩) (blk_set_ne (p := ⟨w.heap.size + 1, 1, none⟩) (blk_set_ne (p := ⟨w.heap.size + 1, 0, none⟩) HO1.out (by show O ≠ w.heap.size + 1; omega) (.bool false)) (by show O ≠ w.heap.size + 1; omega) (.int .i64 0)) (by show O ≠ w.heap.size + 1; omega) (.slice none 0 0)) (by show O ≠ w.heap.size + 1; omega) (.bool false)) (by show O ≠ w.heap.size + 1; omega) (.int .i64 0)) (by show O ≠ w.heap.size + 1; omega) (.bool false)) (by show O ≠ w.heap.size + 1; omega) (.bool false)) (by show O ≠ w.heap.size + 1; omega) (.bool false)) (by show O ≠ w.heap.size + 1; omega) (.int .i64 0)), (own_set_blk (own_set_blk (own_set_blk (own_set_blk (own_set_blk (own_set_blk (own_set_blk (own_set_blk (own_set_blk LY.out (p := ⟨w.heap.size + 1, 0, none⟩) (by show g ≠ w.heap.size + 1; omega) (.bool false)) (p := ⟨w.heap.size + 1, 1, none⟩) (by show g ≠ w.heap.size + 1; omega) (.int .i64 0)) (p := ⟨w.heap.size + 1, 2, none⟩) (by show g ≠ w.heap.size + 1; omega) (.slice none 0 0)) (p := ⟨w.heap.size + 1, 3, none⟩) (by show g ≠ w.heap.size + 1; omega) (.bool false)) (p := ⟨w.heap.size + 1, 4, none⟩) (by show g ≠ w.heap.size + 1; omega) (.int .i64 0)) (p := ⟨w.heap.size + 1, 5, none⟩) (by show g ≠ w.heap.size + 1; omega) (.bool false)) (p := ⟨w.heap.size + 1, 6, none⟩) (by show g ≠ w.heap.size + 1; omega) (.bool false)) (p := ⟨w.heap.size + 1, 7, none⟩) (by show g ≠ w.heap.size + 1; omega) (.bool false)) (p := ⟨w.heap.size + 1, 8, none⟩) (by show g ≠ w.heap.size + 1; omega) (.int .i64 0)), (MemAt.setne (MemAt.setne (MemAt.setne (MemAt.setne (MemAt.setne (MemAt.setne (MemAt.setne (MemAt.setne (MemAt.setne HM1.out (p := ⟨w.heap.size + 1, 0, none⟩) (by show B ≠ w.heap.size + 1; omega) (by show D ≠ w.heap.size + 1; omega) (.bool false)) (p := ⟨w.heap.size + 1, 1, none⟩) (by show B ≠ w.heap.size + 1; omega) (by show D ≠ w.heap.size + 1; omega) (.int .i64 0)) (p := ⟨w.heap.size + 1, 2, none⟩) (by show B ≠ w.heap.size + 1; omega) (by show D ≠ w.heap.size + 1; omega) (.slice none 0 0)) (p := ⟨w.heap.size + 1, 3, none⟩) (by show B ≠ w.heap.size + 1; omega) (by show D ≠ w.heap.size + 1; omega) (.bool false)) (p := ⟨w.heap.size + 1, 4, none⟩) (by show B ≠ w.heap.size + 1; omega) (by show D ≠ w.heap.size + 1; omega) (.int .i64 0)) (p := ⟨w.heap.size + 1, 5, none⟩) (by show B ≠ w.heap.size + 1; omega) (by show D ≠ w.heap.size + 1; omega) (.bool false)) (p := ⟨w.heap.size + 1, 6, none⟩) (by show B ≠ w.heap.size + 1; omega) (by show D ≠ w.heap.size + 1; omega) (.bool false)) (p := ⟨w.heap.size + 1, 7, none⟩) (by show B ≠ w.heap.size + 1; omega) (by show D ≠ w.heap.size + 1; omega) (.bool false)) (p := ⟨w.heap.size + 1, 8, none⟩) (by show B ≠ w.heap.size + 1; omega) (by show D ≠ w.heap.size + 1; omega) (.int .i64 0)), (ButS.set' (ButS.set' (ButS.set' (ButS.set' (ButS.set' (ButS.set' (ButS.set' (ButS.set' (ButS.set' HS1.out (p := ⟨w.heap.size + 1, 0, none⟩) (by right; show w.heap.size ≤ w.heap.size + 1; omega) (.bool false)) (p := ⟨w.heap.size + 1, 1, none⟩) (by right; show w.heap.size ≤ w.heap.size + 1; omega) (.int .i64 0)) (p := ⟨w.heap.size + 1, 2, none⟩) (by right; show w.heap.size ≤ w.heap.size + 1; omega) (.slice none 0 0)) (p := ⟨w.heap.size + 1, 3, none⟩) (by right; show w.heap.size ≤ w.heap.size + 1; omega) (.bool false)) (p := ⟨w.heap.size + 1, 4, none⟩) (by right; show w.heap.size ≤ w.heap.size + 1; omega) (.int .i64 0)) (p := ⟨w.heap.size + 1, 5, none⟩) (by right; show w.heap.size ≤ w.heap.size + 1; omega) (.bool false)) (p := ⟨w.heap.size + 1, 6, none⟩) (by right; show w.heap.size ≤ w.heap.size + 1; omega) (.bool false)) (p := ⟨w.heap.size + 1, 7, none⟩) (by right; show w.heap.size ≤ w.heap.size + 1; omega) (.bool false)) (p := ⟨w.heap.size + 1, 8, none⟩) (by right; show w.heap.size ≤ w.heap.size + 1; omega) (.int .i64 0))⟩
end Go.Proofs.YtmidcnfmphlneaaGreat

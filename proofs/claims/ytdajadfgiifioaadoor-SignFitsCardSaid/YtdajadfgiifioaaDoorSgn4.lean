/- Contracts: a request with all that is known of it; the rows' closures. -/
import Derived.Test.YtdajadfgiifioaaDoorSgn3
import Derived.Test.YtdajadfgiifioaaDoorLay4
import Derived.Test.YtdajadfgiifioaaDoorSpanH
import Derived.Deep.MidRow
namespace Go.Proofs.YtdajadfgiifioaaDoor
open Go.RowKit
set_option linter.unusedSimpArgs false
set_option linter.unusedVariables false

theorem range_blk {w : World} {b : Nat} {cs : List Value} {t : TypeId} {fz : Nat × Nat} (h : w.heap[b]? = some (.cells cs.toArray t fz)) : w.rangeAt b 0 cs := fun j v hj => by
  rw [Nat.zero_add, cell_blk h j, List.getElem?_toArray]
  exact hj
/-- A whole struct, out of a block that is known. -/
theorem wpList_load_whole {P : Program} {ops : Array Oper} {rest : List Oper} {op : Oper} {a : Act} {w : World} {Q : Exit → Act → World → Prop} (hgd : op.guard = none) (ty : TypeId) (x : Operand) (ho : op.op = .load ty x)
    (b : Nat) (hx : a.eval x = .pointer (some ⟨b, 0, none⟩)) (cs : List Value) (t : TypeId) (fz : Nat × Nat) (hb : w.heap[b]? = some (.cells cs.toArray t fz)) (d : TypeDesc) (hu : P.underlying ty = some d) (hd : d.isRow = true) (hi : (P.info? ty).map (·.size) = some cs.length)
    (h : wpList P ops Q rest (a.put op.dst (.agg cs.toArray)) w) : wpList P ops Q (op :: rest) a w :=
  wpList_load_mid hgd ty x ho b 0 hx cs d (range_blk hb) hu hd hi h
theorem wp_load_whole {P : Program} {op : Oper} {a : Act} {w : World} {K : Act → World → Prop} {Q : Exit → Act → World → Prop} (ty : TypeId) (x : Operand) (ho : op.op = .load ty x)
    (b : Nat) (hx : a.eval x = .pointer (some ⟨b, 0, none⟩)) (cs : List Value) (t : TypeId) (fz : Nat × Nat) (hb : w.heap[b]? = some (.cells cs.toArray t fz)) (d : TypeDesc) (hu : P.underlying ty = some d) (hd : d.isRow = true) (hi : (P.info? ty).map (·.size) = some cs.length)
    (h : K (a.put op.dst (.agg cs.toArray)) w) : op.wp P a w K Q :=
  wp_load_mid ty x ho b 0 hx cs d (range_blk hb) hu hd hi h
theorem wpList_load_whole_g {P : Program} {ops : Array Oper} {rest : List Oper} {op : Oper} {a : Act} {w : World} {Q : Exit → Act → World → Prop} (ty : TypeId) (x : Operand) (ho : op.op = .load ty x) (hw : Region.wanted op (yielded ops a.tmps) = true)
    (b : Nat) (hx : a.eval x = .pointer (some ⟨b, 0, none⟩)) (cs : List Value) (t : TypeId) (fz : Nat × Nat) (hb : w.heap[b]? = some (.cells cs.toArray t fz)) (d : TypeDesc) (hu : P.underlying ty = some d) (hd : d.isRow = true) (hi : (P.info? ty).map (·.size) = some cs.length)
    (h : wpList P ops Q rest (a.put op.dst (.agg cs.toArray)) w) : wpList P ops Q (op :: rest) a w := by
  unfold wpList
  rw [if_pos hw]
  exact .inl (wp_load_mid ty x ho b 0 hx cs d (range_blk hb) hu hd hi h)
theorem stop_at {P : Program} {ops : Array Oper} {rest : List Oper} {op : Oper} {a : Act} {w : World} {Q : Exit → Act → World → Prop} (o : Op) (ho : op.op = o) (h : Kp (wpList P ops Q (op :: rest) a w)) : wpList P ops Q (op :: rest) a w := h.out
theorem setCells_shape (b : Nat) : ∀ (vs : List Value) (o : Nat) (w : World) (cs : Array Value) (t : TypeId) (fz : Nat × Nat), w.heap[b]? = some (.cells cs t fz) → ∃ cs' : Array Value, (w.setCells b o vs).heap[b]? = some (.cells cs' t fz) ∧ cs'.size = cs.size
  | [], _, _, cs, _, _, h => ⟨cs, h, rfl⟩
  | v :: vs, o, w, cs, t, fz, h => by
    obtain ⟨cs', h1, h2⟩ := setCells_shape b vs (o + 1) (w.setCell ⟨b, o, none⟩ v) (cs.setIfInBounds o v) t fz (blk_set h o v)
    exact ⟨cs', h1, by rw [h2, Array.size_setIfInBounds]⟩
theorem setCells_but (b : Nat) : ∀ (vs : List Value) (o : Nat) (w : World), ButS [b] w (w.setCells b o vs) ∧ (w.setCells b o vs).heap.size = w.heap.size
  | [], _, w => ⟨ButS.refl _ _, rfl⟩
  | v :: vs, o, w => by
    obtain ⟨h1, h2⟩ := setCells_but b vs (o + 1) (w.setCell ⟨b, o, none⟩ v)
    exact ⟨(ButS.set (ButS.refl [b] w) (by simp) v).trans h1, by rw [World.setCells, h2]; simp [World.setCell]⟩
/-- A whole struct goes into a block that is known: the world behind it under a name. -/
theorem wpList_store_whole {P : Program} {ops : Array Oper} {rest : List Oper} {op : Oper} {a : Act} {w : World} {Q : Exit → Act → World → Prop} (hgd : op.guard = none) (ty : TypeId) (x y : Operand) (ho : op.op = .store ty x y)
    (b : Nat) (hx : a.eval x = .pointer (some ⟨b, 0, none⟩)) (cs : List Value) (hy : a.eval y = .agg cs.toArray) (zs : Array Value) (t : TypeId) (hb : w.heap[b]? = some (.cells zs t (0, 0))) (hz : zs.size = cs.length)
    (hi : (P.info? ty).map (·.size) = some cs.length) (h1 : cs.all (·.oneCell') = true)
    (h : ∀ w', w'.heap[b]? = some (.cells cs.toArray t (0, 0)) → ButS [b] w w' → w'.heap.size = w.heap.size → wpList P ops Q rest (a.put op.dst undef) w') : wpList P ops Q (op :: rest) a w := by
  have ht : w.there b 0 cs.toArray.size := fun j hj => by
    rw [Nat.zero_add]
    have hj2 : j < zs.size := by rw [hz]; simpa using hj
    exact ⟨by rw [cell_blk hb j, Array.getElem?_eq_getElem hj2]; rfl, frozen_blk hb j⟩
  refine wpList_store_mid hgd ty x y ho b 0 cs.toArray hx hy ht (by rw [hi]; simp) (by simpa using h1) ?_
  obtain ⟨cs', h2, h3⟩ := setCells_shape b cs 0 w zs t (0, 0) hb
  obtain ⟨h4, h5⟩ := setCells_but b cs 0 w
  have h6 : cs' = cs.toArray := by
    apply Array.ext_getElem?
    intro j
    by_cases hj : j < cs.length
    · have h7 := World.cell?_setCells_in b cs 0 w (fun i hi => by have := (ht i (by simpa using hi)).1; exact this) j hj
      rw [Nat.zero_add, cell_blk h2 j] at h7
      rw [h7, List.getElem?_toArray, List.getElem?_eq_getElem hj]
    · rw [Array.getElem?_eq_none (by rw [h3, hz]; omega), List.getElem?_toArray, List.getElem?_eq_none (by omega)]
  rw [h6] at h2
  exact h _ h2 h4 h5
theorem blk_but {w w1 : World} {b k : Nat} {o : Obj} (h : w.heap[k]? = some o) (hb : ButS [b] w w1) (hne : k ≠ b) : w1.heap[k]? = some o := (hb.block k (blk_lt h) (by simpa using hne)).trans h
theorem below_but {w0 w w1 : World} {n b : Nat} (h : Below n w0 w) (hb : ButS [b] w w1) (hn : n ≤ b) (hs : n ≤ w.heap.size) : Below n w0 w1 :=
  ⟨hb.os.trans h.os, hb.tape.trans h.tape, hb.output.trans h.output, Nat.le_trans h.size hb.size, fun k hk => (hb.block k (by omega) (by simp; omega)).trans (h.block k hk)⟩
/-- An 'asked' in memory. -/
def AskAt (w : World) (v : Value) (C : Cfg) (S : Std) (R : Rqt) (x : Chn) (src own : Bool) : Prop :=
  ∃ da dc pa pc ca cc a0 c0 a1 c1 ma mc va vc, v = .agg #[.int .i64 R.op, .int .i64 R.port, .int .u64 R.addr, .slice da R.data.length dc, .slice pa C.parts.length pc, .slice ca C.chans.length cc, .int .i64 C.l0, .slice a0 C.w0.length c0, .int .i64 C.l1, .slice a1 C.w1.length c1, .int .i64 S.part, .bool S.normal, .slice ma S.made.length mc, .slice va S.valid.length vc, .int .i64 x.kind, .int .i64 x.frm, .int .i64 x.to, .int .i64 x.words, .int .i64 x.depth, .int .i64 x.period, .int .u32 x.boot, .bool src, .bool own] ∧
    RqtAt w (.agg #[.int .i64 R.op, .int .i64 R.port, .int .u64 R.addr, .slice da R.data.length dc]) R ∧ CfgAt w (.agg #[.slice pa C.parts.length pc, .slice ca C.chans.length cc, .int .i64 C.l0, .slice a0 C.w0.length c0, .int .i64 C.l1, .slice a1 C.w1.length c1]) C ∧ StdAt w (.agg #[.int .i64 S.part, .bool S.normal, .slice ma S.made.length mc, .slice va S.valid.length vc]) S
theorem AskAt.below {w w1 : World} {v : Value} {C : Cfg} {S : Std} {R : Rqt} {x : Chn} {src own : Bool} (h : AskAt w v C S R x src own) (hb : Below w.heap.size w w1) : AskAt w1 v C S R x src own := by
  obtain ⟨da, dc, pa, pc, ca, cc, a0, c0, a1, c1, ma, mc, va, vc, hv, hR, hC, hS⟩ := h
  exact ⟨da, dc, pa, pc, ca, cc, a0, c0, a1, c1, ma, mc, va, vc, hv, hR.below hb, hC.below hb, hS.below hb⟩
theorem StdAt.made {w : World} {a : Option Addr} {mc : Nat} {va : Option Addr} {vc : Nat} {S : Std} (h : StdAt w (.agg #[.int .i64 S.part, .bool S.normal, .slice a S.made.length mc, .slice va S.valid.length vc]) S) : RowAt w 1 (.slice a S.made.length mc) S.made.length (S.made.map (Value.int .i64)) := by
  obtain ⟨_, ma, mc', va', vc', hv, _, _, h1, _⟩ := h
  simp only [Value.agg.injEq, Array.mk.injEq, List.cons.injEq, Value.slice.injEq] at hv
  obtain ⟨_, _, ⟨rfl, _, rfl⟩, _⟩ := hv
  exact h1

set_option maxRecDepth 100000 in
set_option maxHeartbeats 4000000 in
theorem is_any (v : Value) (C : Cfg) (S : Std) (R : Rqt) (x : Chn) (src own : Bool) (hsm : C.small) (hm : S.made.length ≤ 100) (hd : R.data.length ≤ 100) (kind : Int) (s b : Bool) (hb : ((x.kind == kind) && (src == s)) = b) (w : World) (h : AskAt w v C S R x src own) : Calls Tryd.prog 51 #[v, .int .i64 kind, .bool s] w fun e w' => e = .returned (.bool (b)) ∧ Below w.heap.size w w' := by
  obtain ⟨da, dc, pa, pc, ca, cc, a0, c0, a1, c1, ma, mc, va, vc, rfl, hR, hC, hS⟩ := h
  have HC := Kp.mk hC
  have HS := Kp.mk hS
  have HR := Kp.mk hR
  clear hC hS hR
  have HB := Kp.mk hb
  clear hb
  go_enter Tryd.func51, Tryd.ntmps51
  cases hk : (x.kind == kind) with
  | true =>
    have HK : Kp ((x.kind == kind) = true) := ⟨hk⟩
    have HB0 : Kp (Below w.heap.size w w) := ⟨Below.refl _ _⟩
    go_wp2
    go_ret
    exact ⟨ret_bool (by rw [← HB.out, HK.out]; simp), (below_al HB0.out _)⟩
  | false =>
    have HK : Kp ((x.kind == kind) = false) := ⟨hk⟩
    have HB0 : Kp (Below w.heap.size w w) := ⟨Below.refl _ _⟩
    go_wp2
    go_ret
    exact ⟨ret_bool (by rw [← HB.out, HK.out]; rfl), (below_al HB0.out _)⟩

set_option maxRecDepth 100000 in
set_option maxHeartbeats 4000000 in
theorem made_any (v : Value) (C : Cfg) (S : Std) (R : Rqt) (x : Chn) (src own : Bool) (hsm : C.small) (hm : S.made.length ≤ 100) (hd : R.data.length ≤ 100) (b : Bool) (hb0 : S.made.contains R.port = b) (w : World) (h : AskAt w v C S R x src own) : Calls Tryd.prog 53 #[v] w fun e w' => e = .returned (.bool (b)) ∧ Below w.heap.size w w' := by
  obtain ⟨da, dc, pa, pc, ca, cc, a0, c0, a1, c1, ma, mc, va, vc, rfl, hR, hC, hS⟩ := h
  have HC := Kp.mk hC
  have HS := Kp.mk hS
  have HR := Kp.mk hR
  clear hC hS hR
  have HM := Kp.mk HS.out.made
  have HB := Kp.mk hb0
  clear hb0
  go_enter Tryd.func53, Tryd.ntmps53
  have HB0 : Kp (Below w.heap.size w w) := ⟨Below.refl _ _⟩
  go_wp2_with fail
  refine (containsInt_any _ S.made R.port b HB.out _ (HM.out.below (below_al HB0.out _)) (by omega)).mono ?_
  rintro e w1 ⟨rfl, hb⟩
  have q1 : Kp (w1.heap[w.heap.size]? = some (.cells #[.int .i64 R.op, .int .i64 R.port, .int .u64 R.addr, .slice da R.data.length dc, .slice pa C.parts.length pc, .slice ca C.chans.length cc, .int .i64 C.l0, .slice a0 C.w0.length c0, .int .i64 C.l1, .slice a1 C.w1.length c1, .int .i64 S.part, .bool S.normal, .slice ma S.made.length mc, .slice va S.valid.length vc, .int .i64 x.kind, .int .i64 x.frm, .int .i64 x.to, .int .i64 x.words, .int .i64 x.depth, .int .i64 x.period, .int .u32 x.boot, .bool src, .bool own] 74 (0, 0))) := ⟨blk_below (blk_new _ _) hb⟩
  have HB1 : Kp (Below w.heap.size w w1) := ⟨below_call (below_al HB0.out _) hb⟩
  clear HB0 hb
  go_wp2
  go_ret
  exact ⟨rfl, HB1.out⟩

set_option maxRecDepth 100000 in
set_option maxHeartbeats 4000000 in
theorem askPriv_lt (v : Value) (C : Cfg) (S : Std) (R : Rqt) (x : Chn) (src own : Bool) (hsm : C.small) (hm : S.made.length ≤ 100) (hd : R.data.length ≤ 100) (d : Bool) (hd0 : privA C S.part R.addr = d) (h1 : R.addr < 2147483648) (w : World) (h : AskAt w v C S R x src own) : Calls Tryd.prog 61 #[v] w fun e w' => e = .returned (.bool (d)) ∧ Below w.heap.size w w' := by
  obtain ⟨da, dc, pa, pc, ca, cc, a0, c0, a1, c1, ma, mc, va, vc, rfl, hR, hC, hS⟩ := h
  have HC := Kp.mk hC
  have HS := Kp.mk hS
  have HR := Kp.mk hR
  clear hC hS hR
  have hu0 := HR.out.1.2.2.1
  have HD : Kp (hasB (privB C S.part).1 (privB C S.part).2 R.addr = d) := ⟨by rw [← hd0, privA, decide_eq_true h1, Bool.true_and]⟩
  have hw1 : IntKind.i64.wrap R.addr = R.addr := IntWalk.i64_in _ (by omega)
  clear hd0
  go_enter Tryd.func61, Tryd.ntmps61
  have HB0 : Kp (Below w.heap.size w w) := ⟨Below.refl _ _⟩
  go_wp2_with fail
  have q1 : Kp ((w.alloc (.cells #[.int .i64 R.op, .int .i64 R.port, .int .u64 R.addr, .slice da R.data.length dc, .slice pa C.parts.length pc, .slice ca C.chans.length cc, .int .i64 C.l0, .slice a0 C.w0.length c0, .int .i64 C.l1, .slice a1 C.w1.length c1, .int .i64 S.part, .bool S.normal, .slice ma S.made.length mc, .slice va S.valid.length vc, .int .i64 x.kind, .int .i64 x.frm, .int .i64 x.to, .int .i64 x.words, .int .i64 x.depth, .int .i64 x.period, .int .u32 x.boot, .bool src, .bool own] 74)).heap[w.heap.size]? = some (.cells #[.int .i64 R.op, .int .i64 R.port, .int .u64 R.addr, .slice da R.data.length dc, .slice pa C.parts.length pc, .slice ca C.chans.length cc, .int .i64 C.l0, .slice a0 C.w0.length c0, .int .i64 C.l1, .slice a1 C.w1.length c1, .int .i64 S.part, .bool S.normal, .slice ma S.made.length mc, .slice va S.valid.length vc, .int .i64 x.kind, .int .i64 x.frm, .int .i64 x.to, .int .i64 x.words, .int .i64 x.depth, .int .i64 x.period, .int .u32 x.boot, .bool src, .bool own] 74 (0, 0))) := ⟨(blk_new _ _)⟩
  have HB1 : Kp (Below w.heap.size w (w.alloc (.cells #[.int .i64 R.op, .int .i64 R.port, .int .u64 R.addr, .slice da R.data.length dc, .slice pa C.parts.length pc, .slice ca C.chans.length cc, .int .i64 C.l0, .slice a0 C.w0.length c0, .int .i64 C.l1, .slice a1 C.w1.length c1, .int .i64 S.part, .bool S.normal, .slice ma S.made.length mc, .slice va S.valid.length vc, .int .i64 x.kind, .int .i64 x.frm, .int .i64 x.to, .int .i64 x.words, .int .i64 x.depth, .int .i64 x.period, .int .u32 x.boot, .bool src, .bool own] 74))) := ⟨(below_al HB0.out _)⟩
  clear HB0
  generalize (w.alloc (.cells #[.int .i64 R.op, .int .i64 R.port, .int .u64 R.addr, .slice da R.data.length dc, .slice pa C.parts.length pc, .slice ca C.chans.length cc, .int .i64 C.l0, .slice a0 C.w0.length c0, .int .i64 C.l1, .slice a1 C.w1.length c1, .int .i64 S.part, .bool S.normal, .slice ma S.made.length mc, .slice va S.valid.length vc, .int .i64 x.kind, .int .i64 x.frm, .int .i64 x.to, .int .i64 x.words, .int .i64 x.depth, .int .i64 x.period, .int .u32 x.boot, .bool src, .bool own] 74)) = w1 at q1 HB1 ⊢
  have qc0 : w1.cell? ⟨w.heap.size, 0, none⟩ = some (.int .i64 R.op) := (cell_blk q1.out 0).trans rfl
  have qc1 : w1.cell? ⟨w.heap.size, 1, none⟩ = some (.int .i64 R.port) := (cell_blk q1.out 1).trans rfl
  have qc2 : w1.cell? ⟨w.heap.size, 2, none⟩ = some (.int .u64 R.addr) := (cell_blk q1.out 2).trans rfl
  have qc3 : w1.cell? ⟨w.heap.size, 3, none⟩ = some (.slice da R.data.length dc) := (cell_blk q1.out 3).trans rfl
  have qc4 : w1.cell? ⟨w.heap.size, 4, none⟩ = some (.slice pa C.parts.length pc) := (cell_blk q1.out 4).trans rfl
  have qc5 : w1.cell? ⟨w.heap.size, 5, none⟩ = some (.slice ca C.chans.length cc) := (cell_blk q1.out 5).trans rfl
  have qc6 : w1.cell? ⟨w.heap.size, 6, none⟩ = some (.int .i64 C.l0) := (cell_blk q1.out 6).trans rfl
  have qc7 : w1.cell? ⟨w.heap.size, 7, none⟩ = some (.slice a0 C.w0.length c0) := (cell_blk q1.out 7).trans rfl
  have qc8 : w1.cell? ⟨w.heap.size, 8, none⟩ = some (.int .i64 C.l1) := (cell_blk q1.out 8).trans rfl
  have qc9 : w1.cell? ⟨w.heap.size, 9, none⟩ = some (.slice a1 C.w1.length c1) := (cell_blk q1.out 9).trans rfl
  have qc10 : w1.cell? ⟨w.heap.size, 10, none⟩ = some (.int .i64 S.part) := (cell_blk q1.out 10).trans rfl
  have qc11 : w1.cell? ⟨w.heap.size, 11, none⟩ = some (.bool S.normal) := (cell_blk q1.out 11).trans rfl
  have qc12 : w1.cell? ⟨w.heap.size, 12, none⟩ = some (.slice ma S.made.length mc) := (cell_blk q1.out 12).trans rfl
  have qc13 : w1.cell? ⟨w.heap.size, 13, none⟩ = some (.slice va S.valid.length vc) := (cell_blk q1.out 13).trans rfl
  have qc14 : w1.cell? ⟨w.heap.size, 14, none⟩ = some (.int .i64 x.kind) := (cell_blk q1.out 14).trans rfl
  have qc15 : w1.cell? ⟨w.heap.size, 15, none⟩ = some (.int .i64 x.frm) := (cell_blk q1.out 15).trans rfl
  have qc16 : w1.cell? ⟨w.heap.size, 16, none⟩ = some (.int .i64 x.to) := (cell_blk q1.out 16).trans rfl
  have qc17 : w1.cell? ⟨w.heap.size, 17, none⟩ = some (.int .i64 x.words) := (cell_blk q1.out 17).trans rfl
  have qc18 : w1.cell? ⟨w.heap.size, 18, none⟩ = some (.int .i64 x.depth) := (cell_blk q1.out 18).trans rfl
  have qc19 : w1.cell? ⟨w.heap.size, 19, none⟩ = some (.int .i64 x.period) := (cell_blk q1.out 19).trans rfl
  have qc20 : w1.cell? ⟨w.heap.size, 20, none⟩ = some (.int .u32 x.boot) := (cell_blk q1.out 20).trans rfl
  have qc21 : w1.cell? ⟨w.heap.size, 21, none⟩ = some (.bool src) := (cell_blk q1.out 21).trans rfl
  have qc22 : w1.cell? ⟨w.heap.size, 22, none⟩ = some (.bool own) := (cell_blk q1.out 22).trans rfl
  have ql := blk_lt q1.out
  refine held_start_gen (S := (fun w' : World => ButB (w1.heap.size) [] w1 w' ∧ ∀ bb o, bb < w1.heap.size → w'.cell? ⟨bb, o, none⟩ = w1.cell? ⟨bb, o, none⟩)) (by kernel_rfl) (fun wz : World => Kp (wz.heap[w.heap.size]? = some (.cells #[.int .i64 R.op, .int .i64 R.port, .int .u64 R.addr, .slice da R.data.length dc, .slice pa C.parts.length pc, .slice ca C.chans.length cc, .int .i64 C.l0, .slice a0 C.w0.length c0, .int .i64 C.l1, .slice a1 C.w1.length c1, .int .i64 S.part, .bool S.normal, .slice ma S.made.length mc, .slice va S.valid.length vc, .int .i64 x.kind, .int .i64 x.frm, .int .i64 x.to, .int .i64 x.words, .int .i64 x.depth, .int .i64 x.period, .int .u32 x.boot, .bool src, .bool own] 74 (0, 0))) ∧ Kp (Below w.heap.size w wz) ∧ w1.heap.size ≤ wz.heap.size) ⟨⟨blk_dr q1.out⟩, ⟨below_dr HB1.out⟩, Nat.le_refl _⟩ (sx_of0 (ButB.dr (ButB.refl _ (by omega)))) (fun wd0 hRn hHeld => ?_)
  clear q1 HB1
  obtain ⟨q1, HB1, hsz⟩ := hRn
  refine wpAnyH_take (i := 0) (oi := ⟨_, _, _, _, _, _⟩) (v := ?_) rfl (by kernel_rfl) (by kernel_rfl) (by kernel_rfl) (fun _ _ _ h => h) (Or.inl ⟨by rfl, ?_⟩) (by assumption) ?_
  rotate_left 1
  · (intro w hSw; go_simp; try with_reducible rfl)
  try simp only [Act.put, List.setIfInBounds_toArray, List.set_cons_zero, List.set_cons_succ]
  refine wpAnyH_take (i := 1) (oi := ⟨_, _, _, _, _, _⟩) (v := ?_) rfl (by kernel_rfl) (by kernel_rfl) (by kernel_rfl) (fun _ _ _ h => h) (Or.inl ⟨by rfl, ?_⟩) (by assumption) ?_
  rotate_left 1
  · (intro w hSw; go_simp; try with_reducible rfl)
  try simp only [Act.put, List.setIfInBounds_toArray, List.set_cons_zero, List.set_cons_succ]
  refine wpAnyH_take (i := 2) (oi := ⟨_, _, _, _, _, _⟩) (v := ?_) rfl (by kernel_rfl) (by kernel_rfl) (by kernel_rfl) (fun _ _ _ h => h) (Or.inl ⟨by rfl, ?_⟩) (by assumption) ?_
  rotate_left 1
  · (intro w hSw; go_simp; try with_reducible rfl)
  try simp only [Act.put, List.setIfInBounds_toArray, List.set_cons_zero, List.set_cons_succ]
  refine wpAnyH_take (i := 3) (oi := ⟨_, _, _, _, _, _⟩) (v := ?_) rfl (by kernel_rfl) (by kernel_rfl) (by kernel_rfl) (fun _ _ _ h => h) (Or.inl ⟨by rfl, ?_⟩) (by assumption) ?_
  rotate_left 1
  · (intro w hSw; go_simp; try with_reducible rfl)
  try simp only [Act.put, List.setIfInBounds_toArray, List.set_cons_zero, List.set_cons_succ]
  refine wpAnyH_take (i := 4) (oi := ⟨_, _, _, _, _, _⟩) (v := ?_) rfl (by kernel_rfl) (by kernel_rfl) (by kernel_rfl) (fun _ _ _ h => h) (Or.inl ⟨by rfl, ?_⟩) (by assumption) ?_
  rotate_left 1
  · (intro w hSw; go_simp; try with_reducible rfl)
  try simp only [Act.put, List.setIfInBounds_toArray, List.set_cons_zero, List.set_cons_succ]
  refine wpAnyH_take (i := 5) (oi := ⟨_, _, _, _, _, _⟩) (v := ?_) rfl (by kernel_rfl) (by kernel_rfl) (by kernel_rfl) (fun _ _ _ h => h) (Or.inl ⟨by rfl, ?_⟩) (by assumption) ?_
  rotate_left 1
  · (intro w hSw; go_simp; try with_reducible rfl)
  try simp only [Act.put, List.setIfInBounds_toArray, List.set_cons_zero, List.set_cons_succ]
  refine wpAnyH_take (i := 6) (oi := ⟨_, _, _, _, _, _⟩) (v := ?_) rfl (by kernel_rfl) (by kernel_rfl) (by kernel_rfl) (fun _ _ _ h => h) (Or.inl ⟨by rfl, ?_⟩) (by assumption) ?_
  rotate_left 1
  · (intro w hSw; go_simp; try with_reducible rfl)
  try simp only [Act.put, List.setIfInBounds_toArray, List.set_cons_zero, List.set_cons_succ]
  refine wpAnyH_take (i := 7) (oi := ⟨_, _, _, _, _, _⟩) (v := ?_) rfl (by kernel_rfl) (by kernel_rfl) (by kernel_rfl) (fun _ _ _ h => h) (Or.inl ⟨by rfl, ?_⟩) (by assumption) ?_
  rotate_left 1
  · (intro w hSw; go_simp; try with_reducible rfl)
  try simp only [Act.put, List.setIfInBounds_toArray, List.set_cons_zero, List.set_cons_succ]
  refine wpAnyH_take (i := 8) (oi := ⟨_, _, _, _, _, _⟩) (v := ?_) rfl (by kernel_rfl) (by kernel_rfl) (by kernel_rfl) (fun _ _ _ h => h) (Or.inl ⟨by rfl, ?_⟩) (by assumption) ?_
  rotate_left 1
  · (intro w hSw; go_simp; try with_reducible rfl)
  try simp only [Act.put, List.setIfInBounds_toArray, List.set_cons_zero, List.set_cons_succ]
  refine wpAnyH_take (i := 9) (oi := ⟨_, _, _, _, _, _⟩) (v := ?_) rfl (by kernel_rfl) (by kernel_rfl) (by kernel_rfl) (fun _ _ _ h => h) (Or.inl ⟨by rfl, ?_⟩) (by assumption) ?_
  rotate_left 1
  · (intro w hSw; go_simp; try with_reducible rfl)
  try simp only [Act.put, List.setIfInBounds_toArray, List.set_cons_zero, List.set_cons_succ]
  refine wpAnyH_take (i := 11) (oi := ⟨_, _, _, _, _, _⟩) (v := ?_) rfl (by kernel_rfl) (by kernel_rfl) (by kernel_rfl) (fun _ _ _ h => h) (Or.inl ⟨by rfl, ?_⟩) (by assumption) ?_
  rotate_left 1
  · (intro w hSw; go_simp; try with_reducible rfl)
  try simp only [Act.put, List.setIfInBounds_toArray, List.set_cons_zero, List.set_cons_succ]
  refine wpAnyH_take (i := 12) (oi := ⟨_, _, _, _, _, _⟩) (v := ?_) rfl (by kernel_rfl) (by kernel_rfl) (by kernel_rfl) (fun _ _ _ h => h) (Or.inl ⟨by rfl, ?_⟩) (by assumption) ?_
  rotate_left 1
  · (intro w hSw; go_simp; try with_reducible rfl)
  try simp only [Act.put, List.setIfInBounds_toArray, List.set_cons_zero, List.set_cons_succ]
  refine wpAnyH_take (i := 13) (oi := ⟨_, _, _, _, _, _⟩) (v := ?_) rfl (by kernel_rfl) (by kernel_rfl) (by kernel_rfl) (fun _ _ _ h => h) (Or.inl ⟨by rfl, ?_⟩) (by assumption) ?_
  rotate_left 1
  · (intro w hSw; go_simp; try with_reducible rfl)
  try simp only [Act.put, List.setIfInBounds_toArray, List.set_cons_zero, List.set_cons_succ]
  refine wpAnyH_take (i := 14) (oi := ⟨_, _, _, _, _, _⟩) (v := ?_) rfl (by kernel_rfl) (by kernel_rfl) (by kernel_rfl) (fun _ _ _ h => h) (Or.inl ⟨by rfl, ?_⟩) (by assumption) ?_
  rotate_left 1
  · (intro w hSw; go_simp; try with_reducible rfl)
  try simp only [Act.put, List.setIfInBounds_toArray, List.set_cons_zero, List.set_cons_succ]
  refine wpAnyH_ready (rs := [10]) (by kernel_rfl) (by simp) ?_
  refine (AllReadyH.cons (o := ⟨_, _, _, _, _, _⟩) rfl (fun K hK => ?_) AllReadyH.nil)
  go_simp
  go_at_call 75
  refine (private_any _ C hsm S.part _ (HC.out.below HB1.out)).mono ?_
  rintro e w9 ⟨rfl, hb⟩
  try go_wp2_with fail
  refine out_gen hK _ _ (fun wz : World => Kp (wz.heap[w.heap.size]? = some (.cells #[.int .i64 R.op, .int .i64 R.port, .int .u64 R.addr, .slice da R.data.length dc, .slice pa C.parts.length pc, .slice ca C.chans.length cc, .int .i64 C.l0, .slice a0 C.w0.length c0, .int .i64 C.l1, .slice a1 C.w1.length c1, .int .i64 S.part, .bool S.normal, .slice ma S.made.length mc, .slice va S.valid.length vc, .int .i64 x.kind, .int .i64 x.frm, .int .i64 x.to, .int .i64 x.words, .int .i64 x.depth, .int .i64 x.period, .int .u32 x.boot, .bool src, .bool own] 74 (0, 0))) ∧ Kp (Below w.heap.size w wz) ∧ wd0.heap.size ≤ wz.heap.size) ⟨⟨blk_below q1.out hb⟩, ⟨below_call HB1.out hb⟩, hb.size⟩ (sx_of0 (ButB.call (And.left hHeld) hb)) (fun wd1 hRn hHn => ?_)
  clear hK K hHeld q1 HB1 hb
  obtain ⟨q1, HB1, hsz1⟩ := hRn
  have hHeld := hHn
  clear hHn
  try simp only [Act.put, List.setIfInBounds_toArray, List.set_cons_zero, List.set_cons_succ]
  refine wpAnyH_ready (rs := [15]) (by kernel_rfl) (by simp) ?_
  refine (AllReadyH.cons (o := ⟨_, _, _, _, _, _⟩) rfl (fun K hK => ?_) AllReadyH.nil)
  go_simp
  go_at_call 74
  refine (has_any _ _ R.addr d HD.out _).mono ?_
  rintro e w9 ⟨rfl, hb⟩
  try go_wp2_with fail
  refine out_gen hK _ _ (fun wz : World => Kp (wz.heap[w.heap.size]? = some (.cells #[.int .i64 R.op, .int .i64 R.port, .int .u64 R.addr, .slice da R.data.length dc, .slice pa C.parts.length pc, .slice ca C.chans.length cc, .int .i64 C.l0, .slice a0 C.w0.length c0, .int .i64 C.l1, .slice a1 C.w1.length c1, .int .i64 S.part, .bool S.normal, .slice ma S.made.length mc, .slice va S.valid.length vc, .int .i64 x.kind, .int .i64 x.frm, .int .i64 x.to, .int .i64 x.words, .int .i64 x.depth, .int .i64 x.period, .int .u32 x.boot, .bool src, .bool own] 74 (0, 0))) ∧ Kp (Below w.heap.size w wz) ∧ wd1.heap.size ≤ wz.heap.size) ⟨⟨blk_below q1.out hb⟩, ⟨below_call HB1.out hb⟩, hb.size⟩ (sx_of0 (ButB.call (And.left hHeld) hb)) (fun wd2 hRn hHn => ?_)
  clear hK K hHeld q1 HB1 hb
  obtain ⟨q1, HB1, hsz2⟩ := hRn
  have hHeld := hHn
  clear hHn
  try simp only [Act.put, List.setIfInBounds_toArray, List.set_cons_zero, List.set_cons_succ]
  refine wpAnyH_take (i := 16) (oi := ⟨_, _, _, _, _, _⟩) (v := ?_) rfl (by kernel_rfl) (by kernel_rfl) (by kernel_rfl) (fun _ _ _ h => h) (Or.inl ⟨by rfl, ?_⟩) (by assumption) ?_
  rotate_left 1
  · (intro w hSw; go_simp; try with_reducible rfl)
  try simp only [Act.put, List.setIfInBounds_toArray, List.set_cons_zero, List.set_cons_succ]
  refine wpAnyH_take (i := 17) (oi := ⟨_, _, _, _, _, _⟩) (v := ?_) rfl (by kernel_rfl) (by kernel_rfl) (by kernel_rfl) (fun _ _ _ h => h) (Or.inl ⟨by rfl, ?_⟩) (by assumption) ?_
  rotate_left 1
  · (intro w hSw; go_simp; try with_reducible rfl)
  try simp only [Act.put, List.setIfInBounds_toArray, List.set_cons_zero, List.set_cons_succ]
  refine wpAnyH_done (by kernel_rfl) ?_ _
  go_wp2
  go_ret
  exact ⟨rfl, HB1.out⟩

set_option maxRecDepth 100000 in
set_option maxHeartbeats 4000000 in
theorem askPriv_ge (v : Value) (C : Cfg) (S : Std) (R : Rqt) (x : Chn) (src own : Bool) (hsm : C.small) (hm : S.made.length ≤ 100) (hd : R.data.length ≤ 100) (h1 : ¬ R.addr < 2147483648) (w : World) (h : AskAt w v C S R x src own) : Calls Tryd.prog 61 #[v] w fun e w' => e = .returned (.bool (false)) ∧ Below w.heap.size w w' := by
  obtain ⟨da, dc, pa, pc, ca, cc, a0, c0, a1, c1, ma, mc, va, vc, rfl, hR, hC, hS⟩ := h
  have HC := Kp.mk hC
  have HS := Kp.mk hS
  have HR := Kp.mk hR
  clear hC hS hR
  have hdf : decide (R.addr < 2147483648) = false := decide_eq_false h1
  clear h1
  go_enter Tryd.func61, Tryd.ntmps61
  have HB0 : Kp (Below w.heap.size w w) := ⟨Below.refl _ _⟩
  go_wp2_with fail
  have q1 : Kp ((w.alloc (.cells #[.int .i64 R.op, .int .i64 R.port, .int .u64 R.addr, .slice da R.data.length dc, .slice pa C.parts.length pc, .slice ca C.chans.length cc, .int .i64 C.l0, .slice a0 C.w0.length c0, .int .i64 C.l1, .slice a1 C.w1.length c1, .int .i64 S.part, .bool S.normal, .slice ma S.made.length mc, .slice va S.valid.length vc, .int .i64 x.kind, .int .i64 x.frm, .int .i64 x.to, .int .i64 x.words, .int .i64 x.depth, .int .i64 x.period, .int .u32 x.boot, .bool src, .bool own] 74)).heap[w.heap.size]? = some (.cells #[.int .i64 R.op, .int .i64 R.port, .int .u64 R.addr, .slice da R.data.length dc, .slice pa C.parts.length pc, .slice ca C.chans.length cc, .int .i64 C.l0, .slice a0 C.w0.length c0, .int .i64 C.l1, .slice a1 C.w1.length c1, .int .i64 S.part, .bool S.normal, .slice ma S.made.length mc, .slice va S.valid.length vc, .int .i64 x.kind, .int .i64 x.frm, .int .i64 x.to, .int .i64 x.words, .int .i64 x.depth, .int .i64 x.period, .int .u32 x.boot, .bool src, .bool own] 74 (0, 0))) := ⟨(blk_new _ _)⟩
  have HB1 : Kp (Below w.heap.size w (w.alloc (.cells #[.int .i64 R.op, .int .i64 R.port, .int .u64 R.addr, .slice da R.data.length dc, .slice pa C.parts.length pc, .slice ca C.chans.length cc, .int .i64 C.l0, .slice a0 C.w0.length c0, .int .i64 C.l1, .slice a1 C.w1.length c1, .int .i64 S.part, .bool S.normal, .slice ma S.made.length mc, .slice va S.valid.length vc, .int .i64 x.kind, .int .i64 x.frm, .int .i64 x.to, .int .i64 x.words, .int .i64 x.depth, .int .i64 x.period, .int .u32 x.boot, .bool src, .bool own] 74))) := ⟨(below_al HB0.out _)⟩
  clear HB0
  generalize (w.alloc (.cells #[.int .i64 R.op, .int .i64 R.port, .int .u64 R.addr, .slice da R.data.length dc, .slice pa C.parts.length pc, .slice ca C.chans.length cc, .int .i64 C.l0, .slice a0 C.w0.length c0, .int .i64 C.l1, .slice a1 C.w1.length c1, .int .i64 S.part, .bool S.normal, .slice ma S.made.length mc, .slice va S.valid.length vc, .int .i64 x.kind, .int .i64 x.frm, .int .i64 x.to, .int .i64 x.words, .int .i64 x.depth, .int .i64 x.period, .int .u32 x.boot, .bool src, .bool own] 74)) = w1 at q1 HB1 ⊢
  have qc0 : w1.cell? ⟨w.heap.size, 0, none⟩ = some (.int .i64 R.op) := (cell_blk q1.out 0).trans rfl
  have qc1 : w1.cell? ⟨w.heap.size, 1, none⟩ = some (.int .i64 R.port) := (cell_blk q1.out 1).trans rfl
  have qc2 : w1.cell? ⟨w.heap.size, 2, none⟩ = some (.int .u64 R.addr) := (cell_blk q1.out 2).trans rfl
  have qc3 : w1.cell? ⟨w.heap.size, 3, none⟩ = some (.slice da R.data.length dc) := (cell_blk q1.out 3).trans rfl
  have qc4 : w1.cell? ⟨w.heap.size, 4, none⟩ = some (.slice pa C.parts.length pc) := (cell_blk q1.out 4).trans rfl
  have qc5 : w1.cell? ⟨w.heap.size, 5, none⟩ = some (.slice ca C.chans.length cc) := (cell_blk q1.out 5).trans rfl
  have qc6 : w1.cell? ⟨w.heap.size, 6, none⟩ = some (.int .i64 C.l0) := (cell_blk q1.out 6).trans rfl
  have qc7 : w1.cell? ⟨w.heap.size, 7, none⟩ = some (.slice a0 C.w0.length c0) := (cell_blk q1.out 7).trans rfl
  have qc8 : w1.cell? ⟨w.heap.size, 8, none⟩ = some (.int .i64 C.l1) := (cell_blk q1.out 8).trans rfl
  have qc9 : w1.cell? ⟨w.heap.size, 9, none⟩ = some (.slice a1 C.w1.length c1) := (cell_blk q1.out 9).trans rfl
  have qc10 : w1.cell? ⟨w.heap.size, 10, none⟩ = some (.int .i64 S.part) := (cell_blk q1.out 10).trans rfl
  have qc11 : w1.cell? ⟨w.heap.size, 11, none⟩ = some (.bool S.normal) := (cell_blk q1.out 11).trans rfl
  have qc12 : w1.cell? ⟨w.heap.size, 12, none⟩ = some (.slice ma S.made.length mc) := (cell_blk q1.out 12).trans rfl
  have qc13 : w1.cell? ⟨w.heap.size, 13, none⟩ = some (.slice va S.valid.length vc) := (cell_blk q1.out 13).trans rfl
  have qc14 : w1.cell? ⟨w.heap.size, 14, none⟩ = some (.int .i64 x.kind) := (cell_blk q1.out 14).trans rfl
  have qc15 : w1.cell? ⟨w.heap.size, 15, none⟩ = some (.int .i64 x.frm) := (cell_blk q1.out 15).trans rfl
  have qc16 : w1.cell? ⟨w.heap.size, 16, none⟩ = some (.int .i64 x.to) := (cell_blk q1.out 16).trans rfl
  have qc17 : w1.cell? ⟨w.heap.size, 17, none⟩ = some (.int .i64 x.words) := (cell_blk q1.out 17).trans rfl
  have qc18 : w1.cell? ⟨w.heap.size, 18, none⟩ = some (.int .i64 x.depth) := (cell_blk q1.out 18).trans rfl
  have qc19 : w1.cell? ⟨w.heap.size, 19, none⟩ = some (.int .i64 x.period) := (cell_blk q1.out 19).trans rfl
  have qc20 : w1.cell? ⟨w.heap.size, 20, none⟩ = some (.int .u32 x.boot) := (cell_blk q1.out 20).trans rfl
  have qc21 : w1.cell? ⟨w.heap.size, 21, none⟩ = some (.bool src) := (cell_blk q1.out 21).trans rfl
  have qc22 : w1.cell? ⟨w.heap.size, 22, none⟩ = some (.bool own) := (cell_blk q1.out 22).trans rfl
  have ql := blk_lt q1.out
  refine held_start_gen (S := (fun w' : World => ButB (w1.heap.size) [] w1 w' ∧ ∀ bb o, bb < w1.heap.size → w'.cell? ⟨bb, o, none⟩ = w1.cell? ⟨bb, o, none⟩)) (by kernel_rfl) (fun wz : World => Kp (wz.heap[w.heap.size]? = some (.cells #[.int .i64 R.op, .int .i64 R.port, .int .u64 R.addr, .slice da R.data.length dc, .slice pa C.parts.length pc, .slice ca C.chans.length cc, .int .i64 C.l0, .slice a0 C.w0.length c0, .int .i64 C.l1, .slice a1 C.w1.length c1, .int .i64 S.part, .bool S.normal, .slice ma S.made.length mc, .slice va S.valid.length vc, .int .i64 x.kind, .int .i64 x.frm, .int .i64 x.to, .int .i64 x.words, .int .i64 x.depth, .int .i64 x.period, .int .u32 x.boot, .bool src, .bool own] 74 (0, 0))) ∧ Kp (Below w.heap.size w wz) ∧ w1.heap.size ≤ wz.heap.size) ⟨⟨blk_dr q1.out⟩, ⟨below_dr HB1.out⟩, Nat.le_refl _⟩ (sx_of0 (ButB.dr (ButB.refl _ (by omega)))) (fun wd0 hRn hHeld => ?_)
  clear q1 HB1
  obtain ⟨q1, HB1, hsz⟩ := hRn
  refine wpAnyH_take (i := 0) (oi := ⟨_, _, _, _, _, _⟩) (v := ?_) rfl (by kernel_rfl) (by kernel_rfl) (by kernel_rfl) (fun _ _ _ h => h) (Or.inl ⟨by rfl, ?_⟩) (by assumption) ?_
  rotate_left 1
  · (intro w hSw; go_simp; try with_reducible rfl)
  try simp only [Act.put, List.setIfInBounds_toArray, List.set_cons_zero, List.set_cons_succ]
  refine wpAnyH_take (i := 1) (oi := ⟨_, _, _, _, _, _⟩) (v := ?_) rfl (by kernel_rfl) (by kernel_rfl) (by kernel_rfl) (fun _ _ _ h => h) (Or.inl ⟨by rfl, ?_⟩) (by assumption) ?_
  rotate_left 1
  · (intro w hSw; go_simp; try with_reducible rfl)
  try simp only [Act.put, List.setIfInBounds_toArray, List.set_cons_zero, List.set_cons_succ]
  refine wpAnyH_take (i := 2) (oi := ⟨_, _, _, _, _, _⟩) (v := ?_) rfl (by kernel_rfl) (by kernel_rfl) (by kernel_rfl) (fun _ _ _ h => h) (Or.inl ⟨by rfl, ?_⟩) (by assumption) ?_
  rotate_left 1
  · (intro w hSw; go_simp; try with_reducible rfl)
  try simp only [Act.put, List.setIfInBounds_toArray, List.set_cons_zero, List.set_cons_succ]
  refine wpAnyH_take (i := 3) (oi := ⟨_, _, _, _, _, _⟩) (v := ?_) rfl (by kernel_rfl) (by kernel_rfl) (by kernel_rfl) (fun _ _ _ h => h) (Or.inl ⟨by rfl, ?_⟩) (by assumption) ?_
  rotate_left 1
  · (intro w hSw; go_simp; try with_reducible rfl)
  try simp only [Act.put, List.setIfInBounds_toArray, List.set_cons_zero, List.set_cons_succ]
  refine wpAnyH_take (i := 4) (oi := ⟨_, _, _, _, _, _⟩) (v := ?_) rfl (by kernel_rfl) (by kernel_rfl) (by kernel_rfl) (fun _ _ _ h => h) (Or.inl ⟨by rfl, ?_⟩) (by assumption) ?_
  rotate_left 1
  · (intro w hSw; go_simp; try with_reducible rfl)
  try simp only [Act.put, List.setIfInBounds_toArray, List.set_cons_zero, List.set_cons_succ]
  refine wpAnyH_take (i := 5) (oi := ⟨_, _, _, _, _, _⟩) (v := undef) rfl (by kernel_rfl) (by kernel_rfl) (by kernel_rfl) (fun _ _ _ h => h) (Or.inr ⟨by rfl, rfl⟩) (by assumption) ?_
  try simp only [Act.put, List.setIfInBounds_toArray, List.set_cons_zero, List.set_cons_succ]
  refine wpAnyH_take (i := 6) (oi := ⟨_, _, _, _, _, _⟩) (v := undef) rfl (by kernel_rfl) (by kernel_rfl) (by kernel_rfl) (fun _ _ _ h => h) (Or.inr ⟨by rfl, rfl⟩) (by assumption) ?_
  try simp only [Act.put, List.setIfInBounds_toArray, List.set_cons_zero, List.set_cons_succ]
  refine wpAnyH_take (i := 7) (oi := ⟨_, _, _, _, _, _⟩) (v := undef) rfl (by kernel_rfl) (by kernel_rfl) (by kernel_rfl) (fun _ _ _ h => h) (Or.inr ⟨by rfl, rfl⟩) (by assumption) ?_
  try simp only [Act.put, List.setIfInBounds_toArray, List.set_cons_zero, List.set_cons_succ]
  refine wpAnyH_take (i := 8) (oi := ⟨_, _, _, _, _, _⟩) (v := undef) rfl (by kernel_rfl) (by kernel_rfl) (by kernel_rfl) (fun _ _ _ h => h) (Or.inr ⟨by rfl, rfl⟩) (by assumption) ?_
  try simp only [Act.put, List.setIfInBounds_toArray, List.set_cons_zero, List.set_cons_succ]
  refine wpAnyH_take (i := 9) (oi := ⟨_, _, _, _, _, _⟩) (v := undef) rfl (by kernel_rfl) (by kernel_rfl) (by kernel_rfl) (fun _ _ _ h => h) (Or.inr ⟨by rfl, rfl⟩) (by assumption) ?_
  try simp only [Act.put, List.setIfInBounds_toArray, List.set_cons_zero, List.set_cons_succ]
  refine wpAnyH_take (i := 10) (oi := ⟨_, _, _, _, _, _⟩) (v := undef) rfl (by kernel_rfl) (by kernel_rfl) (by kernel_rfl) (fun _ _ _ h => h) (Or.inr ⟨by rfl, rfl⟩) (by assumption) ?_
  try simp only [Act.put, List.setIfInBounds_toArray, List.set_cons_zero, List.set_cons_succ]
  refine wpAnyH_take (i := 11) (oi := ⟨_, _, _, _, _, _⟩) (v := undef) rfl (by kernel_rfl) (by kernel_rfl) (by kernel_rfl) (fun _ _ _ h => h) (Or.inr ⟨by rfl, rfl⟩) (by assumption) ?_
  try simp only [Act.put, List.setIfInBounds_toArray, List.set_cons_zero, List.set_cons_succ]
  refine wpAnyH_take (i := 12) (oi := ⟨_, _, _, _, _, _⟩) (v := undef) rfl (by kernel_rfl) (by kernel_rfl) (by kernel_rfl) (fun _ _ _ h => h) (Or.inr ⟨by rfl, rfl⟩) (by assumption) ?_
  try simp only [Act.put, List.setIfInBounds_toArray, List.set_cons_zero, List.set_cons_succ]
  refine wpAnyH_take (i := 13) (oi := ⟨_, _, _, _, _, _⟩) (v := undef) rfl (by kernel_rfl) (by kernel_rfl) (by kernel_rfl) (fun _ _ _ h => h) (Or.inr ⟨by rfl, rfl⟩) (by assumption) ?_
  try simp only [Act.put, List.setIfInBounds_toArray, List.set_cons_zero, List.set_cons_succ]
  refine wpAnyH_take (i := 14) (oi := ⟨_, _, _, _, _, _⟩) (v := undef) rfl (by kernel_rfl) (by kernel_rfl) (by kernel_rfl) (fun _ _ _ h => h) (Or.inr ⟨by rfl, rfl⟩) (by assumption) ?_
  try simp only [Act.put, List.setIfInBounds_toArray, List.set_cons_zero, List.set_cons_succ]
  refine wpAnyH_take (i := 15) (oi := ⟨_, _, _, _, _, _⟩) (v := undef) rfl (by kernel_rfl) (by kernel_rfl) (by kernel_rfl) (fun _ _ _ h => h) (Or.inr ⟨by rfl, rfl⟩) (by assumption) ?_
  try simp only [Act.put, List.setIfInBounds_toArray, List.set_cons_zero, List.set_cons_succ]
  refine wpAnyH_take (i := 16) (oi := ⟨_, _, _, _, _, _⟩) (v := ?_) rfl (by kernel_rfl) (by kernel_rfl) (by kernel_rfl) (fun _ _ _ h => h) (Or.inl ⟨by rfl, ?_⟩) (by assumption) ?_
  rotate_left 1
  · (intro w hSw; go_simp; try with_reducible rfl)
  try simp only [Act.put, List.setIfInBounds_toArray, List.set_cons_zero, List.set_cons_succ]
  refine wpAnyH_take (i := 17) (oi := ⟨_, _, _, _, _, _⟩) (v := ?_) rfl (by kernel_rfl) (by kernel_rfl) (by kernel_rfl) (fun _ _ _ h => h) (Or.inl ⟨by rfl, ?_⟩) (by assumption) ?_
  rotate_left 1
  · (intro w hSw; go_simp; try with_reducible rfl)
  try simp only [Act.put, List.setIfInBounds_toArray, List.set_cons_zero, List.set_cons_succ]
  refine wpAnyH_done (by kernel_rfl) ?_ _
  go_wp2
  go_ret
  exact ⟨rfl, HB1.out⟩

set_option maxRecDepth 100000 in
set_option maxHeartbeats 4000000 in
theorem row0_any (v : Value) (C : Cfg) (S : Std) (R : Rqt) (x : Chn) (src own : Bool) (hsm : C.small) (hm : S.made.length ≤ 100) (hd : R.data.length ≤ 100)  (w : World) (h : AskAt w v C S R x src own) : Calls Tryd.prog 52 #[v] w fun e w' => e = .returned (.bool (holdR (askD C S R x src own) 0)) ∧ Below w.heap.size w w' := by
  obtain ⟨da, dc, pa, pc, ca, cc, a0, c0, a1, c1, ma, mc, va, vc, rfl, hR, hC, hS⟩ := h
  have HC := Kp.mk hC
  have HS := Kp.mk hS
  have HR := Kp.mk hR
  clear hC hS hR
  go_enter Tryd.func52, Tryd.ntmps52
  have HB0 : Kp (Below w.heap.size w w) := ⟨Below.refl _ _⟩
  go_wp2
  go_ret
  exact ⟨rfl, (below_al HB0.out _)⟩

set_option maxRecDepth 100000 in
set_option maxHeartbeats 4000000 in
theorem row2_any (v : Value) (C : Cfg) (S : Std) (R : Rqt) (x : Chn) (src own : Bool) (hsm : C.small) (hm : S.made.length ≤ 100) (hd : R.data.length ≤ 100)  (w : World) (h : AskAt w v C S R x src own) : Calls Tryd.prog 54 #[v] w fun e w' => e = .returned (.bool (holdR (askD C S R x src own) 2)) ∧ Below w.heap.size w w' := by
  obtain ⟨da, dc, pa, pc, ca, cc, a0, c0, a1, c1, ma, mc, va, vc, rfl, hR, hC, hS⟩ := h
  have HC := Kp.mk hC
  have HS := Kp.mk hS
  have HR := Kp.mk hR
  clear hC hS hR
  go_enter Tryd.func54, Tryd.ntmps54
  have HB0 : Kp (Below w.heap.size w w) := ⟨Below.refl _ _⟩
  go_wp2
  go_ret
  exact ⟨rfl, (below_al HB0.out _)⟩

set_option maxRecDepth 100000 in
set_option maxHeartbeats 4000000 in
theorem row4_any (v : Value) (C : Cfg) (S : Std) (R : Rqt) (x : Chn) (src own : Bool) (hsm : C.small) (hm : S.made.length ≤ 100) (hd : R.data.length ≤ 100)  (w : World) (h : AskAt w v C S R x src own) : Calls Tryd.prog 56 #[v] w fun e w' => e = .returned (.bool (holdR (askD C S R x src own) 4)) ∧ Below w.heap.size w w' := by
  obtain ⟨da, dc, pa, pc, ca, cc, a0, c0, a1, c1, ma, mc, va, vc, rfl, hR, hC, hS⟩ := h
  have HC := Kp.mk hC
  have HS := Kp.mk hS
  have HR := Kp.mk hR
  clear hC hS hR
  go_enter Tryd.func56, Tryd.ntmps56
  have HB0 : Kp (Below w.heap.size w w) := ⟨Below.refl _ _⟩
  go_wp2
  go_ret
  exact ⟨rfl, (below_al HB0.out _)⟩

set_option maxRecDepth 100000 in
set_option maxHeartbeats 4000000 in
theorem row9_any (v : Value) (C : Cfg) (S : Std) (R : Rqt) (x : Chn) (src own : Bool) (hsm : C.small) (hm : S.made.length ≤ 100) (hd : R.data.length ≤ 100)  (w : World) (h : AskAt w v C S R x src own) : Calls Tryd.prog 57 #[v] w fun e w' => e = .returned (.bool (holdR (askD C S R x src own) 9)) ∧ Below w.heap.size w w' := by
  obtain ⟨da, dc, pa, pc, ca, cc, a0, c0, a1, c1, ma, mc, va, vc, rfl, hR, hC, hS⟩ := h
  have HC := Kp.mk hC
  have HS := Kp.mk hS
  have HR := Kp.mk hR
  clear hC hS hR
  have EQ : Kp (holdR (askD C S R x src own) 9 = ((R.data.length : Int) == 0)) := ⟨by simp only [holdR, askD]; rw [Bool.eq_iff_iff]; simp only [beq_iff_eq]; omega⟩
  go_enter Tryd.func57, Tryd.ntmps57
  have HB0 : Kp (Below w.heap.size w w) := ⟨Below.refl _ _⟩
  go_wp2
  go_ret
  exact ⟨by rw [EQ.out]; rfl, (below_al HB0.out _)⟩

set_option maxRecDepth 100000 in
set_option maxHeartbeats 4000000 in
theorem row10_any (v : Value) (C : Cfg) (S : Std) (R : Rqt) (x : Chn) (src own : Bool) (hsm : C.small) (hm : S.made.length ≤ 100) (hd : R.data.length ≤ 100)  (w : World) (h : AskAt w v C S R x src own) : Calls Tryd.prog 58 #[v] w fun e w' => e = .returned (.bool (holdR (askD C S R x src own) 10)) ∧ Below w.heap.size w w' := by
  obtain ⟨da, dc, pa, pc, ca, cc, a0, c0, a1, c1, ma, mc, va, vc, rfl, hR, hC, hS⟩ := h
  have HC := Kp.mk hC
  have HS := Kp.mk hS
  have HR := Kp.mk hR
  clear hC hS hR
  go_enter Tryd.func58, Tryd.ntmps58
  have HB0 : Kp (Below w.heap.size w w) := ⟨Below.refl _ _⟩
  go_wp2
  go_ret
  exact ⟨rfl, (below_al HB0.out _)⟩

set_option maxRecDepth 100000 in
set_option maxHeartbeats 4000000 in
theorem row11_any (v : Value) (C : Cfg) (S : Std) (R : Rqt) (x : Chn) (src own : Bool) (hsm : C.small) (hm : S.made.length ≤ 100) (hd : R.data.length ≤ 100)  (w : World) (h : AskAt w v C S R x src own) : Calls Tryd.prog 59 #[v] w fun e w' => e = .returned (.bool (holdR (askD C S R x src own) 11)) ∧ Below w.heap.size w w' := by
  obtain ⟨da, dc, pa, pc, ca, cc, a0, c0, a1, c1, ma, mc, va, vc, rfl, hR, hC, hS⟩ := h
  have HC := Kp.mk hC
  have HS := Kp.mk hS
  have HR := Kp.mk hR
  clear hC hS hR
  have EQ : Kp (holdR (askD C S R x src own) 11 = ((R.data.length : Int) != 1)) := ⟨by simp only [holdR, askD, bne]; congr 1; rw [Bool.eq_iff_iff]; simp only [beq_iff_eq]; omega⟩
  go_enter Tryd.func59, Tryd.ntmps59
  have HB0 : Kp (Below w.heap.size w w) := ⟨Below.refl _ _⟩
  go_wp2
  go_ret
  exact ⟨by rw [EQ.out]; rfl, (below_al HB0.out _)⟩

set_option maxHeartbeats 1000000 in
theorem row1_any (v : Value) (C : Cfg) (S : Std) (R : Rqt) (x : Chn) (src own : Bool) (hsm : C.small) (hm : S.made.length ≤ 100) (hd : R.data.length ≤ 100) (w : World) (h : AskAt w v C S R x src own) : Calls Tryd.prog 53 #[v] w fun e w' => e = .returned (.bool (holdR (askD C S R x src own) 1)) ∧ Below w.heap.size w w' := made_any v C S R x src own hsm hm hd _ rfl w h

set_option maxRecDepth 100000 in
set_option maxHeartbeats 4000000 in
theorem row3_any (v : Value) (C : Cfg) (S : Std) (R : Rqt) (x : Chn) (src own : Bool) (hsm : C.small) (hm : S.made.length ≤ 100) (hd : R.data.length ≤ 100)  (w : World) (h : AskAt w v C S R x src own) : Calls Tryd.prog 55 #[v] w fun e w' => e = .returned (.bool (holdR (askD C S R x src own) 3)) ∧ Below w.heap.size w w' := by
  obtain ⟨da, dc, pa, pc, ca, cc, a0, c0, a1, c1, ma, mc, va, vc, rfl, hR, hC, hS⟩ := h
  have HC := Kp.mk hC
  have HS := Kp.mk hS
  have HR := Kp.mk hR
  clear hC hS hR
  have HA : Kp (AskAt w (.agg #[.int .i64 R.op, .int .i64 R.port, .int .u64 R.addr, .slice da R.data.length dc, .slice pa C.parts.length pc, .slice ca C.chans.length cc, .int .i64 C.l0, .slice a0 C.w0.length c0, .int .i64 C.l1, .slice a1 C.w1.length c1, .int .i64 S.part, .bool S.normal, .slice ma S.made.length mc, .slice va S.valid.length vc, .int .i64 x.kind, .int .i64 x.frm, .int .i64 x.to, .int .i64 x.words, .int .i64 x.depth, .int .i64 x.period, .int .u32 x.boot, .bool src, .bool own]) C S R x src own) := ⟨⟨da, dc, pa, pc, ca, cc, a0, c0, a1, c1, ma, mc, va, vc, rfl, HR.out, HC.out, HS.out⟩⟩
  obtain ⟨b, hb0⟩ : ∃ b, S.made.contains R.port = b := ⟨_, rfl⟩
  have EQ : Kp (holdR (askD C S R x src own) 3 = (!own || !b)) := ⟨by rw [← hb0]; rfl⟩
  have HB := Kp.mk hb0
  clear hb0
  go_enter Tryd.func55, Tryd.ntmps55
  cases own with
  | false =>
    have HB0 : Kp (Below w.heap.size w w) := ⟨Below.refl _ _⟩
    go_wp2
    go_ret
    exact ⟨ret_bool EQ.out.symm, (below_al HB0.out _)⟩
  | true =>
    have HB0 : Kp (Below w.heap.size w w) := ⟨Below.refl _ _⟩
    go_wp2_with (with_reducible refine wpList_load_whole_g 74 (.tmp 1) ?_ ?_ (w.heap.size) ?_ [.int .i64 R.op, .int .i64 R.port, .int .u64 R.addr, .slice da R.data.length dc, .slice pa C.parts.length pc, .slice ca C.chans.length cc, .int .i64 C.l0, .slice a0 C.w0.length c0, .int .i64 C.l1, .slice a1 C.w1.length c1, .int .i64 S.part, .bool S.normal, .slice ma S.made.length mc, .slice va S.valid.length vc, .int .i64 x.kind, .int .i64 x.frm, .int .i64 x.to, .int .i64 x.words, .int .i64 x.depth, .int .i64 x.period, .int .u32 x.boot, .bool src, .bool true] 74 (0, 0) (blk_new _ _) _ Tryd.underlying74 ?_ ?_ ?_; rfl; go_simp; go_simp; rfl; kernel_rfl)
    refine (made_any _ C S R x src true hsm hm hd b HB.out _ (HA.out.below (below_al HB0.out _))).mono ?_
    rintro e w1 ⟨rfl, hb⟩
    have q1 : Kp (w1.heap[w.heap.size]? = some (.cells #[.int .i64 R.op, .int .i64 R.port, .int .u64 R.addr, .slice da R.data.length dc, .slice pa C.parts.length pc, .slice ca C.chans.length cc, .int .i64 C.l0, .slice a0 C.w0.length c0, .int .i64 C.l1, .slice a1 C.w1.length c1, .int .i64 S.part, .bool S.normal, .slice ma S.made.length mc, .slice va S.valid.length vc, .int .i64 x.kind, .int .i64 x.frm, .int .i64 x.to, .int .i64 x.words, .int .i64 x.depth, .int .i64 x.period, .int .u32 x.boot, .bool src, .bool true] 74 (0, 0))) := ⟨blk_below (blk_new _ _) hb⟩
    have HB1 : Kp (Below w.heap.size w w1) := ⟨below_call (below_al HB0.out _) hb⟩
    clear HB0 hb
    go_wp2
    go_ret
    exact ⟨ret_bool EQ.out.symm, HB1.out⟩

theorem privA_ge (C : Cfg) (p a : Int) (h : ¬ a < 2147483648) : privA C p a = false := by rw [privA, decide_eq_false h, Bool.false_and]
theorem askPriv_any (v : Value) (C : Cfg) (S : Std) (R : Rqt) (x : Chn) (src own : Bool) (hsm : C.small) (hm : S.made.length ≤ 100) (hd : R.data.length ≤ 100) (b : Bool) (hb0 : privA C S.part R.addr = b) (w : World) (h : AskAt w v C S R x src own) : Calls Tryd.prog 61 #[v] w fun e w' => e = .returned (.bool b) ∧ Below w.heap.size w w' := by
  by_cases h1 : R.addr < 2147483648
  · exact askPriv_lt v C S R x src own hsm hm hd b hb0 h1 w h
  · rw [← hb0, privA_ge C _ _ h1]
    exact askPriv_ge v C S R x src own hsm hm hd h1 w h
theorem holdR12 (C : Cfg) (S : Std) (R : Rqt) (x : Chn) (src own : Bool) : holdR (askD C S R x src own) 12 = !(privA C S.part R.addr) := rfl

set_option maxRecDepth 100000 in
set_option maxHeartbeats 4000000 in
theorem row12_any (v : Value) (C : Cfg) (S : Std) (R : Rqt) (x : Chn) (src own : Bool) (hsm : C.small) (hm : S.made.length ≤ 100) (hd : R.data.length ≤ 100)  (w : World) (h : AskAt w v C S R x src own) : Calls Tryd.prog 60 #[v] w fun e w' => e = .returned (.bool (holdR (askD C S R x src own) 12)) ∧ Below w.heap.size w w' := by
  obtain ⟨da, dc, pa, pc, ca, cc, a0, c0, a1, c1, ma, mc, va, vc, rfl, hR, hC, hS⟩ := h
  have HC := Kp.mk hC
  have HS := Kp.mk hS
  have HR := Kp.mk hR
  clear hC hS hR
  have HA : Kp (AskAt w (.agg #[.int .i64 R.op, .int .i64 R.port, .int .u64 R.addr, .slice da R.data.length dc, .slice pa C.parts.length pc, .slice ca C.chans.length cc, .int .i64 C.l0, .slice a0 C.w0.length c0, .int .i64 C.l1, .slice a1 C.w1.length c1, .int .i64 S.part, .bool S.normal, .slice ma S.made.length mc, .slice va S.valid.length vc, .int .i64 x.kind, .int .i64 x.frm, .int .i64 x.to, .int .i64 x.words, .int .i64 x.depth, .int .i64 x.period, .int .u32 x.boot, .bool src, .bool own]) C S R x src own) := ⟨⟨da, dc, pa, pc, ca, cc, a0, c0, a1, c1, ma, mc, va, vc, rfl, HR.out, HC.out, HS.out⟩⟩
  obtain ⟨b, hb0⟩ : ∃ b, privA C S.part R.addr = b := ⟨_, rfl⟩
  rw [holdR12, hb0]
  have HB := Kp.mk hb0
  clear hb0
  go_enter Tryd.func60, Tryd.ntmps60
  have HB0 : Kp (Below w.heap.size w w) := ⟨Below.refl _ _⟩
  go_wp2_with (with_reducible refine wpList_load_whole rfl 74 (.tmp 1) ?_ (w.heap.size) ?_ [.int .i64 R.op, .int .i64 R.port, .int .u64 R.addr, .slice da R.data.length dc, .slice pa C.parts.length pc, .slice ca C.chans.length cc, .int .i64 C.l0, .slice a0 C.w0.length c0, .int .i64 C.l1, .slice a1 C.w1.length c1, .int .i64 S.part, .bool S.normal, .slice ma S.made.length mc, .slice va S.valid.length vc, .int .i64 x.kind, .int .i64 x.frm, .int .i64 x.to, .int .i64 x.words, .int .i64 x.depth, .int .i64 x.period, .int .u32 x.boot, .bool src, .bool own] 74 (0, 0) (blk_new _ _) _ Tryd.underlying74 ?_ ?_ ?_; rfl; go_simp; rfl; kernel_rfl)
  refine (askPriv_any _ C S R x src own hsm hm hd b HB.out _ (HA.out.below (below_al HB0.out _))).mono ?_
  rintro e w1 ⟨rfl, hb⟩
  have q1 : Kp (w1.heap[w.heap.size]? = some (.cells #[.int .i64 R.op, .int .i64 R.port, .int .u64 R.addr, .slice da R.data.length dc, .slice pa C.parts.length pc, .slice ca C.chans.length cc, .int .i64 C.l0, .slice a0 C.w0.length c0, .int .i64 C.l1, .slice a1 C.w1.length c1, .int .i64 S.part, .bool S.normal, .slice ma S.made.length mc, .slice va S.valid.length vc, .int .i64 x.kind, .int .i64 x.frm, .int .i64 x.to, .int .i64 x.words, .int .i64 x.depth, .int .i64 x.period, .int .u32 x.boot, .bool src, .bool own] 74 (0, 0))) := ⟨blk_below (blk_new _ _) hb⟩
  have HB1 : Kp (Below w.heap.size w w1) := ⟨below_call (below_al HB0.out _) hb⟩
  clear HB0 hb
  go_wp2
  go_ret
  exact ⟨rfl, HB1.out⟩

set_option maxRecDepth 100000 in
set_option maxHeartbeats 4000000 in
theorem not11_any (v : Value) (C : Cfg) (S : Std) (R : Rqt) (x : Chn) (src own : Bool) (hsm : C.small) (hm : S.made.length ≤ 100) (hd : R.data.length ≤ 100) (kind : Int) (s b : Bool) (hb0 : ((x.kind == kind) && (src == s)) = b) (kb sb : Nat) (w : World) (h : AskAt w v C S R x src own) (hkb : w.heap[kb]? = some (.cells #[.int .i64 kind] 3 (0, 0))) (hsb : w.heap[sb]? = some (.cells #[.bool s] 4 (0, 0))) :
    Calls Tryd.prog 50 #[v, .pointer (some ⟨kb, 0, none⟩), .pointer (some ⟨sb, 0, none⟩)] w fun e w' => e = .returned (.bool (!b)) ∧ Below w.heap.size w w' := by
  obtain ⟨da, dc, pa, pc, ca, cc, a0, c0, a1, c1, ma, mc, va, vc, rfl, hR, hC, hS⟩ := h
  have HC := Kp.mk hC
  have HS := Kp.mk hS
  have HR := Kp.mk hR
  clear hC hS hR
  have HB := Kp.mk hb0
  clear hb0
  have HA : Kp (AskAt w (.agg #[.int .i64 R.op, .int .i64 R.port, .int .u64 R.addr, .slice da R.data.length dc, .slice pa C.parts.length pc, .slice ca C.chans.length cc, .int .i64 C.l0, .slice a0 C.w0.length c0, .int .i64 C.l1, .slice a1 C.w1.length c1, .int .i64 S.part, .bool S.normal, .slice ma S.made.length mc, .slice va S.valid.length vc, .int .i64 x.kind, .int .i64 x.frm, .int .i64 x.to, .int .i64 x.words, .int .i64 x.depth, .int .i64 x.period, .int .u32 x.boot, .bool src, .bool own]) C S R x src own) := ⟨⟨da, dc, pa, pc, ca, cc, a0, c0, a1, c1, ma, mc, va, vc, rfl, HR.out, HC.out, HS.out⟩⟩
  have k0 : w.cell? ⟨kb, 0, none⟩ = some (.int .i64 kind) := (cell_blk hkb 0).trans rfl
  have k1 : w.cell? ⟨sb, 0, none⟩ = some (.bool s) := (cell_blk hsb 0).trans rfl
  have l0 := blk_lt hkb
  have l1 := blk_lt hsb
  clear hkb hsb
  go_enter Tryd.func50, Tryd.ntmps50
  have HB0 : Kp (Below w.heap.size w w) := ⟨Below.refl _ _⟩
  go_wp2_with (with_reducible refine wpList_load_whole rfl 74 (.tmp 3) ?_ (w.heap.size) ?_ [.int .i64 R.op, .int .i64 R.port, .int .u64 R.addr, .slice da R.data.length dc, .slice pa C.parts.length pc, .slice ca C.chans.length cc, .int .i64 C.l0, .slice a0 C.w0.length c0, .int .i64 C.l1, .slice a1 C.w1.length c1, .int .i64 S.part, .bool S.normal, .slice ma S.made.length mc, .slice va S.valid.length vc, .int .i64 x.kind, .int .i64 x.frm, .int .i64 x.to, .int .i64 x.words, .int .i64 x.depth, .int .i64 x.period, .int .u32 x.boot, .bool src, .bool own] 74 (0, 0) (blk_new _ _) _ Tryd.underlying74 ?_ ?_ ?_; rfl; go_simp; rfl; kernel_rfl)
  refine (is_any _ C S R x src own hsm hm hd kind s b HB.out _ (HA.out.below (below_al HB0.out _))).mono ?_
  rintro e w1 ⟨rfl, hb⟩
  have q1 : Kp (w1.heap[w.heap.size]? = some (.cells #[.int .i64 R.op, .int .i64 R.port, .int .u64 R.addr, .slice da R.data.length dc, .slice pa C.parts.length pc, .slice ca C.chans.length cc, .int .i64 C.l0, .slice a0 C.w0.length c0, .int .i64 C.l1, .slice a1 C.w1.length c1, .int .i64 S.part, .bool S.normal, .slice ma S.made.length mc, .slice va S.valid.length vc, .int .i64 x.kind, .int .i64 x.frm, .int .i64 x.to, .int .i64 x.words, .int .i64 x.depth, .int .i64 x.period, .int .u32 x.boot, .bool src, .bool own] 74 (0, 0))) := ⟨blk_below (blk_new _ _) hb⟩
  have HB1 : Kp (Below w.heap.size w w1) := ⟨below_call (below_al HB0.out _) hb⟩
  clear HB0 hb
  go_wp2
  go_ret
  exact ⟨rfl, HB1.out⟩
end Go.Proofs.YtdajadfgiifioaaDoor

/- Package ring: a count in memory, and its one step. -/
import Derived.Test.YtmidcnfmphlneaaGreatQX
namespace Go.Proofs.YtmidcnfmphlneaaGreat
open Go.RowKit
set_option linter.unusedSimpArgs false
set_option linter.unusedVariables false
theorem Run.below {w0 w w' : World} {P B D BB : Nat} {kc : Cf12} {wd dp b : Int} {z : Rs} {OS OR : Nat} {S R : Nat → Prop} {st ow : Nat} {sv rv : Value} {x : List Bool} {k : Nat} (h : Run w0 w P B D BB kc wd dp b z OS OR S R st ow sv rv x k) (hb : Below w.heap.size w w') : Run w0 w' P B D BB kc wd dp b z OS OR S R st ow sv rv x k := h.only (X := fun _ => False) (Only.of_below hb) (fun _ h => h.elim) _ (Nat.le_refl _)
theorem Run.butN {w0 w w' : World} {P B D BB : Nat} {kc : Cf12} {wd dp b : Int} {z : Rs} {OS OR : Nat} {S R : Nat → Prop} {st ow : Nat} {sv rv : Value} {x : List Bool} {k O : Nat} (h : Run w0 w P B D BB kc wd dp b z OS OR S R st ow sv rv x k) (hb : ButS [O] w w') (hN : w0.heap.size ≤ O ∧ ¬ S O ∧ ¬ R O ∧ O ≠ P ∧ O ≠ B ∧ O ≠ D ∧ O ≠ BB) : Run w0 w' P B D BB kc wd dp b z OS OR S R st ow sv rv x k := h.only (X := fun k => k = O) (Only.of_but hb (by simp)) (fun k hk => by subst hk; exact hN) _ (Nat.le_refl _)
theorem Run.setN {w0 w : World} {P B D BB : Nat} {kc : Cf12} {wd dp b : Int} {z : Rs} {OS OR : Nat} {S R : Nat → Prop} {st ow : Nat} {sv rv : Value} {x : List Bool} {k : Nat} (h : Run w0 w P B D BB kc wd dp b z OS OR S R st ow sv rv x k) (O o : Nat) (v : Value) (hN : w0.heap.size ≤ O ∧ ¬ S O ∧ ¬ R O ∧ O ≠ P ∧ O ≠ B ∧ O ≠ D ∧ O ≠ BB) : Run w0 (w.setCell ⟨O, o, none⟩ v) P B D BB kc wd dp b z OS OR S R st ow sv rv x k := h.butN (ButS.set (ButS.refl [O] w) (p := ⟨O, o, none⟩) (by simp) v) hN
theorem entersC1 : Enters 60 := enters_at Tryz.func60 (by kernel_rfl) rfl
structure CntAt (w : World) (O g QB OW SB : Nat) (own : Int) (src : Bool) (q : Qu) : Prop where
  op : w.heap[O]? = some (.cells #[.int .u32 own, .slice (some ⟨g, 0, none⟩) 1 1] 132 (0, 0))
  row : w.heap[g]? = some (.cells #[FV 60 #[.pointer (some ⟨QB, 0, none⟩), .pointer (some ⟨OW, 0, none⟩), .pointer (some ⟨SB, 0, none⟩)]] 133 (0, 0))
  qb : w.heap[QB]? = some (.cells q.cells 124 (0, 0))
  ow : w.heap[OW]? = some (.cells #[.int .u32 own] 41 (0, 0))
  sb : w.heap[SB]? = some (.cells #[.bool src] 4 (0, 0))
theorem CntAt.below {w w' : World} {O g QB OW SB : Nat} {own : Int} {src : Bool} {q : Qu} (h : CntAt w O g QB OW SB own src q) (hb : Below w.heap.size w w') : CntAt w' O g QB OW SB own src q := ⟨blk_below h.op hb, blk_below h.row hb, blk_below h.qb hb, blk_below h.ow hb, blk_below h.sb hb⟩
def cntV (p : Pl) (ws : List Int) (own : Int) (src : Bool) : Int := if src then (own - ldW ws p.head) % 4294967296 else (ldW ws p.tail - own) % 4294967296
set_option maxHeartbeats 1000000 in
theorem cnt_step {w : World} {O g QB OW SB B D BB : Nat} {own : Int} {src : Bool} {q : Qu} {p : Pl} {ws : List Int} (h : CntAt w O g QB OW SB own src q) (hf : Fits p q) (hq : q.ok ws.length) (hown : 0 ≤ own ∧ own < 4294967296) (hM : MemAt w B D ws) (hD : O ≠ B ∧ O ≠ D) (now : Int) :
    Calls Tryz.prog 36 #[.pointer (some ⟨O, 0, none⟩), .pointer (some ⟨B, 0, none⟩), .pointer (some ⟨BB, 0, none⟩), .int .i64 now] w fun e w' => e = .returned (.agg #[.bool true, .int .i64 0, .slice none 0 0, .bool false, .int .i64 (cntV p ws own src), .bool true, .bool false, .bool false, .int .i64 0]) ∧ ButS [O] w w' := by
  have lO := blk_lt h.op
  have lg := blk_lt h.row
  have ngO : g ≠ O := ne_of_type h.row h.op (by decide)
  have V : True := trivial
  have hb0 := stepW0_but w O (leftV (some ⟨g, 0, none⟩) 0 1)
  have hO0 := stepW0_op (leftV (some ⟨g, 0, none⟩) 0 1) h.op
  have hD0 := stepW0_did (w := w) O (leftV (some ⟨g, 0, none⟩) 0 1) lO
  have hM0 : MemAt (stepW0 w O (leftV (some ⟨g, 0, none⟩) 0 1)) B D ws := hM.but hb0 (by simpa using Ne.symm hD.1) (by simpa using Ne.symm hD.2)
  have hQ0 := hb0.blk h.qb (by simpa using ne_of_type h.qb h.op (by decide))
  have hW0 := hb0.blk h.ow (by simpa using ne_of_type h.ow h.op (by decide))
  have hS0 := hb0.blk h.sb (by simpa using ne_of_type h.sb h.op (by decide))
  have hcell := cbk h.row 0 (FV 60 #[.pointer (some ⟨QB, 0, none⟩), .pointer (some ⟨OW, 0, none⟩), .pointer (some ⟨SB, 0, none⟩)]) rfl
  refine (opstep_true O B BB own now g 0 0 1 _ _ 0 none 0 0 false (cntV p ws own src) true false false 0 (fun w2 => Below (stepW0 w O (leftV (some ⟨g, 0, none⟩) 0 1)).heap.size (stepW0 w O (leftV (some ⟨g, 0, none⟩) 0 1)) w2) w h.op (by omega) (by omega) lg ngO hcell entersC1 ?_ ?_).mono ?_
  · cases src with
    | true => exact rgcountS_any q B BB D QB OW SB own _ ws hq hown (by unfold cntV; rw [if_pos rfl, hf.head]) _ hM0 hQ0 hW0 hS0
    | false => exact rgcountD_any q B BB D QB OW SB own _ ws hq hown (by unfold cntV; rw [if_neg (by decide), hf.tail]) _ hM0 hQ0 hW0 hS0
  · intro w2 hb
    exact ⟨blk_below hD0 hb, _, _, blk_below hO0 hb⟩
  · rintro e w' ⟨rfl, w2, hb, hfin, _⟩
    exact ⟨rfl, (hb0.trans (ButS.of_below hb)).fin2 (by simp) hfin⟩
theorem count_at {kc : Cf12} {wd dp bt : Int} (own : Int) (hown : 0 ≤ own ∧ own < 4294967296) (src : Bool) (w : World) (h : Cf12Ok w kc wd dp bt) :
    Calls Tryz.prog 35 #[.agg #[.slice kc.pa 2 kc.pc, .slice (some ⟨kc.cg, kc.co, none⟩) 1 kc.cc, .int .i64 1, .slice kc.a0 1 kc.c0, .int .i64 1, .slice kc.a1 1 kc.c1], .int .i64 0, .int .u32 own, .bool src] w fun e w' => ∃ O g QB OW SB : Nat, e = .returned (.pointer (some ⟨O, 0, none⟩)) ∧ CntAt w' O g QB OW SB own src (qu12 wd dp own) ∧ Below w.heap.size w w' ∧ w.heap.size ≤ O :=
  (count_two own hown src w h).mono fun e w' ⟨O, g, QB, OW, SB, he, h1, h2, h3, h4, h5, h6, h7, _⟩ => ⟨O, g, QB, OW, SB, he, ⟨h1, h2, h3, h4, h5⟩, h6, h7⟩
theorem JR.cntS {p : Pl} {b : Int} {z : Rs} (h : JR p b z) (h0 : z.sOn = false) : cntV p z.ws ((b + z.n) % 4294967296) true = (z.sent : Int) - z.got := by
  have h1 := h.le
  have h2 := h.dp
  have h3 := h.ok.deep
  have h4 := h.idle h0
  unfold cntV
  rw [if_pos rfl, h.hd, h4]
  omega
theorem JR.cntD {p : Pl} {b : Int} {z : Rs} (h : JR p b z) : cntV p z.ws ((b + z.got) % 4294967296) false = (z.sent : Int) - z.got := by
  have h1 := h.le
  have h2 := h.dp
  have h3 := h.ok.deep
  unfold cntV
  rw [if_neg (by decide), h.tl]
  omega
end Go.Proofs.YtmidcnfmphlneaaGreat

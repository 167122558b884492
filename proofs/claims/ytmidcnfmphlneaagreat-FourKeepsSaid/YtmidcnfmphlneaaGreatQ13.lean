/- Contracts of package four: a step of the writer, a new writer. -/
import Derived.Test.YtmidcnfmphlneaaGreatQ12
import Derived.Test.YtmidcnfmphlneaaGreatQ3
namespace Go.Proofs.YtmidcnfmphlneaaGreat
open Go.RowKit
set_option linter.unusedSimpArgs false
set_option linter.unusedVariables false
theorem run_eql_func_nil {P : Program} (w : World) (t : TypeId) (fn : Fn) (fi ca : Array Value) {ps rs : Array TypeId} {vd : Bool} (h : P.underlying t = some (.func ps rs vd)) :
    (binOp .eql t (.func fn fi ca) .nilFunc).run P w = .ok (.bool false) w := by
  simp only [binOp]
  simp [Op.equal, Op.maxDepth, run_equalIn_func_nil w 9999 t fn fi ca h]
theorem run_equalIn_func_nn {P : Program} (w : World) (d : Nat) (t : TypeId) {ps rs : Array TypeId} {vd : Bool} (h : P.underlying t = some (.func ps rs vd)) :
    (Op.equalIn (d + 1) t .nilFunc .nilFunc).run P w = .ok true w := by simp [Op.equalIn, run_underlying h]
theorem run_eql_func_nn {P : Program} (w : World) (t : TypeId) {ps rs : Array TypeId} {vd : Bool} (h : P.underlying t = some (.func ps rs vd)) :
    (binOp .eql t .nilFunc .nilFunc).run P w = .ok (.bool true) w := by
  simp only [binOp]
  simp [Op.equal, Op.maxDepth, run_equalIn_func_nn w 9999 t h]
theorem run_equalIn_slice_nilH {P : Program} (w : World) (d : Nat) (t e : TypeId) (a : Option Addr) (l c : Nat) (h : P.underlying t = some (.slice e)) : (Op.equalIn (d + 1) t (.slice a l c) (.slice none 0 0)).run P w = .ok a.isNone w := by
  cases a <;> simp [Op.equalIn, run_underlying h]
theorem run_equal_slice_nilH {P : Program} (w : World) (t e : TypeId) (a : Option Addr) (l c : Nat) (h : P.underlying t = some (.slice e)) : (Op.equal t (.slice a l c) (.slice none 0 0)).run P w = .ok a.isNone w := run_equalIn_slice_nilH w 9999 t e a l c h
theorem run_eql_slice_nilH {P : Program} (w : World) (t e : TypeId) (a : Option Addr) (l c : Nat) (h : P.underlying t = some (.slice e)) : (binOp .eql t (.slice a l c) (.slice none 0 0)).run P w = .ok (.bool a.isNone) w := by
  simp [binOp, run_equal_slice_nilH w t e a l c h]
set_option maxRecDepth 100000 in
set_option maxHeartbeats 1000000 in
theorem clone_any (a : Option Addr) (n c : Nat) (cs : List Value) (hn : 0 < n) (h1 : ∀ u ∈ cs, u.oneCell' = true) (w : World) (h : RowAt w 1 (.slice a n c) n cs) (hl : n ≤ 1000) : Calls Tryz.prog 52 #[.slice a n c] w fun e w' =>
    ∃ g cap, e = .returned (.slice (some ⟨g, 0, none⟩) n cap) ∧ Kp (w'.ownsRow w.heap.size 41 1 (.slice (some ⟨g, 0, none⟩) n cap) n cs) ∧ Below w.heap.size w w' ∧ w.heap.size ≤ g := by
  obtain ⟨g0, o, rfl, hg, hc⟩ := h.at hn
  have H := Kp.mk h
  obtain ⟨i0, hi, hz0, hz1, hz2⟩ := info_parts Tryz.infoU32
  have H1 := Kp.mk h1
  have qS := fun (w : World) a l c => run_eql_slice_nilH (P := Tryz.prog) w 44 41 a l c Tryz.underlying44
  clear h hc h1
  go_enter Tryz.func52, Tryz.ntmps52
  go_wp2_with (refine wpList_append_lies _ rfl _ _ 44 rfl w.heap.size 41 i0 (.int .u32 0) 1 4 Tryz.underlying44 hi hz0 hz1 hz2 rfl (by decide) (.slice (some ⟨w.heap.size, 0, none⟩) 0 0) 0 [] rfl (own_new0 w 41 1) ⟨g0, o, none⟩ n c cs rfl (by have := H.out.1; simpa using this) ?hnews H1.out hn (by unfold maxLen; omega) (by omega) (by simp) _ rfl ?hk)
  case hnews =>
    exact news_of_row (H.out.below (below_al (Below.refl _ _) _)) hn rfl
  case hk =>
    intro g cap w1 hown hgrow hat hlt
    try simp only [Nat.zero_add, List.nil_append] at hown
    have HO := Kp.mk hown
    have HB : Kp (Below w.heap.size w w1) := ⟨(below_al (Below.refl w.heap.size w) (.cells #[] 41)).grown hgrow (by simp) fun k hk => by simp [Value.ownBlock] at hk; omega⟩
    have hgl : w.heap.size ≤ g := by
      rcases hat with h | h
      · simp [Value.ownBlock] at h; omega
      · first | omega | (simp at h; omega)
    clear hown hgrow hat
    go_wp2
    go_ret
    exact ⟨g, cap, rfl, HO, HB.out, hgl⟩
def wNx (W : Nat) : Nat → Value
  | 0 => .func (.func 53) #[.pointer (some ⟨W, 0, none⟩)] #[]
  | 1 => .func (.func 84) #[.pointer (some ⟨W, 0, none⟩)] #[]
  | 2 => .func (.func 99) #[.pointer (some ⟨W, 0, none⟩)] #[]
  | 3 => .func (.func 109) #[.pointer (some ⟨W, 0, none⟩)] #[]
  | 4 => .func (.func 112) #[.pointer (some ⟨W, 0, none⟩)] #[]
  | 5 => .func (.func 115) #[.pointer (some ⟨W, 0, none⟩)] #[]
  | 6 => .func (.func 119) #[.pointer (some ⟨W, 0, none⟩)] #[]
  | _ => .nilFunc
def didA (d : DidV) (v : Value) : Array Value := #[.bool d.done, .int .i64 d.code, v, .bool d.valid, .int .i64 d.count, .bool d.mark, .bool d.ring, .bool d.stamped, .int .i64 d.buffer]
structure WrAt (w : World) (W g dc : Nat) (p : Plc) (s : Wr) : Prop where
  blk : w.heap[W]? = some (.cells #[.int .i64 p.src, .int .i64 p.rd, .int .i64 p.words, .int .i64 p.period, .slice (some ⟨g, 0, none⟩) s.data.length dc, .int .u32 s.pair, .int .u32 s.index, .int .i64 (s.i : Int), .bool s.marked, wNx W s.pc] 117 (0, 0))
  row : ∀ j (h : j < s.data.length), w.cell? ⟨g, j, none⟩ = some (.int .u32 s.data[j])
  lt : g < w.heap.size
theorem WrAt.but {w w' : World} {W g dc : Nat} {p : Plc} {s : Wr} {S : List Nat} (h : WrAt w W g dc p s) (hb : ButS S w w') (h1 : W ∉ S) (h2 : g ∉ S) : WrAt w' W g dc p s :=
  ⟨hb.blk h.blk h1, fun j hj => (hb.cell h.lt h2).trans (h.row j hj), Nat.lt_of_lt_of_le h.lt hb.size⟩
theorem MemAt.but {w w' : World} {B D : Nat} {ws : List Int} {S : List Nat} (h : MemAt w B D ws) (hb : ButS S w w') (h1 : B ∉ S) (h2 : D ∉ S) : MemAt w' B D ws :=
  ⟨hb.blk h.head h1, hb.blk h.words h2, h.len⟩
theorem enters_wchoose : Enters 53 := enters_at Tryz.func53 (by kernel_rfl) rfl
theorem enters_wother : Enters 84 := enters_at Tryz.func84 (by kernel_rfl) rfl
theorem enters_wlength : Enters 99 := enters_at Tryz.func99 (by kernel_rfl) rfl
theorem enters_wstamp : Enters 109 := enters_at Tryz.func109 (by kernel_rfl) rfl
theorem enters_wword : Enters 112 := enters_at Tryz.func112 (by kernel_rfl) rfl
theorem enters_wshow : Enters 115 := enters_at Tryz.func115 (by kernel_rfl) rfl
theorem enters_wend : Enters 119 := enters_at Tryz.func119 (by kernel_rfl) rfl
set_option maxRecDepth 100000 in
set_option maxHeartbeats 4000000 in
theorem wStep_gen (fn : FuncId) (hE : Enters fn) (W B D : Nat) (p : Plc) (ws' : List Int) (da : Option Addr) (dn dc : Nat) (x y : Int) (i : Int) (mk : Bool) (x' y' : Int) (i' : Int) (mk' : Bool) (now : Int) (d0 : Bool) (d1 : Int) (da9 : Option Addr) (dn9 dc9 : Nat) (d3 : Bool) (d4 : Int) (d5 d6 d7 : Bool) (d8 : Int) (fn2 : FuncId) (w : World) (hbD : W < w.heap.size ∧ D < w.heap.size) (hW : w.heap[W]? = some (.cells #[.int .i64 p.src, .int .i64 p.rd, .int .i64 p.words, .int .i64 p.period, .slice da dn dc, .int .u32 x, .int .u32 y, .int .i64 i, .bool mk, .func (.func fn) #[.pointer (some ⟨W, 0, none⟩)] #[]] 117 (0, 0)))
    (hS : w.heap.size ∉ [W, D]) (hbS : W ∈ [W, D])
    (hact : ∀ w1, Below w.heap.size w w1 → Calls Tryz.prog fn #[.pointer (some ⟨W, 0, none⟩), .pointer (some ⟨B, 0, none⟩), .int .i64 now] w1 fun e w2 => e = .returned (.tuple #[.agg #[.bool d0, .int .i64 d1, .slice da9 dn9 dc9, .bool d3, .int .i64 d4, .bool d5, .bool d6, .bool d7, .int .i64 d8], .func (.func fn2) #[.pointer (some ⟨W, 0, none⟩)] #[]]) ∧ w2.heap[W]? = some (.cells #[.int .i64 p.src, .int .i64 p.rd, .int .i64 p.words, .int .i64 p.period, .slice da dn dc, .int .u32 x', .int .u32 y', .int .i64 i', .bool mk', .func (.func fn) #[.pointer (some ⟨W, 0, none⟩)] #[]] 117 (0, 0)) ∧ MemAt w2 B D ws' ∧ ButS ([W, D]) w1 w2) :
    Calls Tryz.prog 25 #[.pointer (some ⟨W, 0, none⟩), .pointer (some ⟨B, 0, none⟩), .int .i64 now] w fun e w' =>
    e = .returned (.agg #[.bool d0, .int .i64 d1, .slice da9 dn9 dc9, .bool d3, .int .i64 d4, .bool d5, .bool d6, .bool d7, .int .i64 d8]) ∧ w'.heap[W]? = some (.cells #[.int .i64 p.src, .int .i64 p.rd, .int .i64 p.words, .int .i64 p.period, .slice da dn dc, .int .u32 x', .int .u32 y', .int .i64 i', .bool mk', .func (.func fn2) #[.pointer (some ⟨W, 0, none⟩)] #[]] 117 (0, 0)) ∧ MemAt w' B D ws' ∧ ButS ([W, D]) w w' := by
  have HA := Kp.mk hact
  have hE' := hE.out
  have qF := fun (w : World) fn fi ca => run_eql_func_nil (P := Tryz.prog) w 115 fn fi ca Tryz.underlying115
  have lW := hbD.1
  have c9 := cbk hW 9 (.func (.func fn) #[.pointer (some ⟨W, 0, none⟩)] #[]) rfl
  have hWr : W ≠ w.heap.size := by omega
  have HS := Kp.mk hS
  have HBS := Kp.mk hbS
  clear hact hW hS hE hbS
  go_enter Tryz.func25, Tryz.ntmps25
  go_wp2_with fail
  refine (HA.out _ (below_al (Below.refl _ _) _)).mono ?_
  rintro e w2 ⟨rfl, h2, h3, h4⟩
  have HR : Kp (w2.heap[w.heap.size]? = some (.cells #[.bool false, .int .i64 0, .slice none 0 0, .bool false, .int .i64 0, .bool false, .bool false, .bool false, .int .i64 0] 64 (0, 0))) := ⟨h4.blk (blk_new w _) HS.out⟩
  have H2 := Kp.mk h2
  have H3 := Kp.mk h3
  have H4 : Kp (ButS ([W, D]) w w2) := ⟨(ButS.of_below (below_al (Below.refl _ _) _)).trans h4⟩
  have hsz : w.heap.size + 1 ≤ w2.heap.size := by simpa using h4.size
  have hD : D ≠ w.heap.size := by have := hbD.2; omega
  have lB2 := blk_lt h3.head
  have lD2 := blk_lt h3.words
  have hBr : B ≠ w.heap.size := by
    rintro rfl
    have h5 := h3.head
    rw [HR.out] at h5
    simp at h5
  have hBW : B ≠ W := by
    rintro rfl
    have h5 := h3.head
    rw [h2] at h5
    simp at h5
  have hDW : D ≠ W := by
    rintro rfl
    have h5 := h3.words
    rw [h2] at h5
    simp at h5
  have d9 := cbk H2.out 9 (.func (.func fn) #[.pointer (some ⟨W, 0, none⟩)] #[]) rfl
  have f9 := frozen_blk H2.out 9
  have l9 := blk_lt H2.out
  have q0 := cbk HR.out 0 (.bool false) rfl
  have qf0 := frozen_blk HR.out 0
  have q1 := cbk HR.out 1 (.int .i64 0) rfl
  have qf1 := frozen_blk HR.out 1
  have q2 := cbk HR.out 2 (.slice none 0 0) rfl
  have qf2 := frozen_blk HR.out 2
  have q3 := cbk HR.out 3 (.bool false) rfl
  have qf3 := frozen_blk HR.out 3
  have q4 := cbk HR.out 4 (.int .i64 0) rfl
  have qf4 := frozen_blk HR.out 4
  have q5 := cbk HR.out 5 (.bool false) rfl
  have qf5 := frozen_blk HR.out 5
  have q6 := cbk HR.out 6 (.bool false) rfl
  have qf6 := frozen_blk HR.out 6
  have q7 := cbk HR.out 7 (.bool false) rfl
  have qf7 := frozen_blk HR.out 7
  have q8 := cbk HR.out 8 (.int .i64 0) rfl
  have qf8 := frozen_blk HR.out 8
  have ql := blk_lt HR.out
  clear h2 h3 h4 c9
  go_wp2
  refine bodyPost_ret (v := .agg #[.bool d0, .int .i64 d1, .slice da9 dn9 dc9, .bool d3, .int .i64 d4, .bool d5, .bool d6, .bool d7, .int .i64 d8]) (results_cell_row rfl _ _ w.heap.size 64 #[.bool d0, .int .i64 d1, .slice da9 dn9 dc9, .bool d3, .int .i64 d4, .bool d5, .bool d6, .bool d7, .int .i64 d8] (0, 0) _ (by go_simp) ((blk_al (blk_set (blk_set (blk_set (blk_set (blk_set (blk_set (blk_set (blk_set (blk_set (blk_set_ne (p := ⟨W, 9, none⟩) HR.out hWr.symm _) 0 _) 1 _) 2 _) 3 _) 4 _) 5 _) 6 _) 7 _) 8 _) _).trans (by simp only [ls0, ls1, ls2])) Tryz.underlying64 rfl (by kernel_rfl)) rfl ⟨rfl, (blk_al (blk_set_ne (p := ⟨w.heap.size, 8, none⟩) (blk_set_ne (p := ⟨w.heap.size, 7, none⟩) (blk_set_ne (p := ⟨w.heap.size, 6, none⟩) (blk_set_ne (p := ⟨w.heap.size, 5, none⟩) (blk_set_ne (p := ⟨w.heap.size, 4, none⟩) (blk_set_ne (p := ⟨w.heap.size, 3, none⟩) (blk_set_ne (p := ⟨w.heap.size, 2, none⟩) (blk_set_ne (p := ⟨w.heap.size, 1, none⟩) (blk_set_ne (p := ⟨w.heap.size, 0, none⟩) (blk_set H2.out 9 _) hWr _) hWr _) hWr _) hWr _) hWr _) hWr _) hWr _) hWr _) hWr _) _).trans (by simp only [ls0, ls1, ls2]), ((MemAt.setne (MemAt.setne (MemAt.setne (MemAt.setne (MemAt.setne (MemAt.setne (MemAt.setne (MemAt.setne (MemAt.setne (MemAt.setne H3.out (p := ⟨W, 9, none⟩) hBW hDW _) (p := ⟨w.heap.size, 0, none⟩) hBr hD _) (p := ⟨w.heap.size, 1, none⟩) hBr hD _) (p := ⟨w.heap.size, 2, none⟩) hBr hD _) (p := ⟨w.heap.size, 3, none⟩) hBr hD _) (p := ⟨w.heap.size, 4, none⟩) hBr hD _) (p := ⟨w.heap.size, 5, none⟩) hBr hD _) (p := ⟨w.heap.size, 6, none⟩) hBr hD _) (p := ⟨w.heap.size, 7, none⟩) hBr hD _) (p := ⟨w.heap.size, 8, none⟩) hBr hD _).al _), (ButS.al (ButS.set' (ButS.set' (ButS.set' (ButS.set' (ButS.set' (ButS.set' (ButS.set' (ButS.set' (ButS.set' (ButS.set H4.out (p := ⟨W, 9, none⟩) HBS.out _) (p := ⟨w.heap.size, 0, none⟩) (.inr (Nat.le_refl _)) _) (p := ⟨w.heap.size, 1, none⟩) (.inr (Nat.le_refl _)) _) (p := ⟨w.heap.size, 2, none⟩) (.inr (Nat.le_refl _)) _) (p := ⟨w.heap.size, 3, none⟩) (.inr (Nat.le_refl _)) _) (p := ⟨w.heap.size, 4, none⟩) (.inr (Nat.le_refl _)) _) (p := ⟨w.heap.size, 5, none⟩) (.inr (Nat.le_refl _)) _) (p := ⟨w.heap.size, 6, none⟩) (.inr (Nat.le_refl _)) _) (p := ⟨w.heap.size, 7, none⟩) (.inr (Nat.le_refl _)) _) (p := ⟨w.heap.size, 8, none⟩) (.inr (Nat.le_refl _)) _) _)⟩
set_option maxRecDepth 100000 in
set_option maxHeartbeats 4000000 in
theorem wStep_genN (fn : FuncId) (hE : Enters fn) (W B D : Nat) (p : Plc) (ws' : List Int) (da : Option Addr) (dn dc : Nat) (x y : Int) (i : Int) (mk : Bool) (x' y' : Int) (i' : Int) (mk' : Bool) (now : Int) (d0 : Bool) (d1 : Int) (da9 : Option Addr) (dn9 dc9 : Nat) (d3 : Bool) (d4 : Int) (d5 d6 d7 : Bool) (d8 : Int) (w : World) (hbD : W < w.heap.size ∧ D < w.heap.size) (hW : w.heap[W]? = some (.cells #[.int .i64 p.src, .int .i64 p.rd, .int .i64 p.words, .int .i64 p.period, .slice da dn dc, .int .u32 x, .int .u32 y, .int .i64 i, .bool mk, .func (.func fn) #[.pointer (some ⟨W, 0, none⟩)] #[]] 117 (0, 0)))
    (hS : w.heap.size ∉ [W, D]) (hbS : W ∈ [W, D])
    (hact : ∀ w1, Below w.heap.size w w1 → Calls Tryz.prog fn #[.pointer (some ⟨W, 0, none⟩), .pointer (some ⟨B, 0, none⟩), .int .i64 now] w1 fun e w2 => e = .returned (.tuple #[.agg #[.bool d0, .int .i64 d1, .slice da9 dn9 dc9, .bool d3, .int .i64 d4, .bool d5, .bool d6, .bool d7, .int .i64 d8], .nilFunc]) ∧ w2.heap[W]? = some (.cells #[.int .i64 p.src, .int .i64 p.rd, .int .i64 p.words, .int .i64 p.period, .slice da dn dc, .int .u32 x', .int .u32 y', .int .i64 i', .bool mk', .func (.func fn) #[.pointer (some ⟨W, 0, none⟩)] #[]] 117 (0, 0)) ∧ MemAt w2 B D ws' ∧ ButS ([W, D]) w1 w2) :
    Calls Tryz.prog 25 #[.pointer (some ⟨W, 0, none⟩), .pointer (some ⟨B, 0, none⟩), .int .i64 now] w fun e w' =>
    e = .returned (.agg #[.bool d0, .int .i64 d1, .slice da9 dn9 dc9, .bool d3, .int .i64 d4, .bool d5, .bool d6, .bool d7, .int .i64 d8]) ∧ w'.heap[W]? = some (.cells #[.int .i64 p.src, .int .i64 p.rd, .int .i64 p.words, .int .i64 p.period, .slice da dn dc, .int .u32 x', .int .u32 y', .int .i64 i', .bool mk', .nilFunc] 117 (0, 0)) ∧ MemAt w' B D ws' ∧ ButS ([W, D]) w w' := by
  have HA := Kp.mk hact
  have hE' := hE.out
  have qF := fun (w : World) fn fi ca => run_eql_func_nil (P := Tryz.prog) w 115 fn fi ca Tryz.underlying115
  have lW := hbD.1
  have c9 := cbk hW 9 (.func (.func fn) #[.pointer (some ⟨W, 0, none⟩)] #[]) rfl
  have hWr : W ≠ w.heap.size := by omega
  have HS := Kp.mk hS
  have HBS := Kp.mk hbS
  clear hact hW hS hE hbS
  go_enter Tryz.func25, Tryz.ntmps25
  go_wp2_with fail
  refine (HA.out _ (below_al (Below.refl _ _) _)).mono ?_
  rintro e w2 ⟨rfl, h2, h3, h4⟩
  have HR : Kp (w2.heap[w.heap.size]? = some (.cells #[.bool false, .int .i64 0, .slice none 0 0, .bool false, .int .i64 0, .bool false, .bool false, .bool false, .int .i64 0] 64 (0, 0))) := ⟨h4.blk (blk_new w _) HS.out⟩
  have H2 := Kp.mk h2
  have H3 := Kp.mk h3
  have H4 : Kp (ButS ([W, D]) w w2) := ⟨(ButS.of_below (below_al (Below.refl _ _) _)).trans h4⟩
  have hsz : w.heap.size + 1 ≤ w2.heap.size := by simpa using h4.size
  have hD : D ≠ w.heap.size := by have := hbD.2; omega
  have lB2 := blk_lt h3.head
  have lD2 := blk_lt h3.words
  have hBr : B ≠ w.heap.size := by
    rintro rfl
    have h5 := h3.head
    rw [HR.out] at h5
    simp at h5
  have hBW : B ≠ W := by
    rintro rfl
    have h5 := h3.head
    rw [h2] at h5
    simp at h5
  have hDW : D ≠ W := by
    rintro rfl
    have h5 := h3.words
    rw [h2] at h5
    simp at h5
  have d9 := cbk H2.out 9 (.func (.func fn) #[.pointer (some ⟨W, 0, none⟩)] #[]) rfl
  have f9 := frozen_blk H2.out 9
  have l9 := blk_lt H2.out
  have q0 := cbk HR.out 0 (.bool false) rfl
  have qf0 := frozen_blk HR.out 0
  have q1 := cbk HR.out 1 (.int .i64 0) rfl
  have qf1 := frozen_blk HR.out 1
  have q2 := cbk HR.out 2 (.slice none 0 0) rfl
  have qf2 := frozen_blk HR.out 2
  have q3 := cbk HR.out 3 (.bool false) rfl
  have qf3 := frozen_blk HR.out 3
  have q4 := cbk HR.out 4 (.int .i64 0) rfl
  have qf4 := frozen_blk HR.out 4
  have q5 := cbk HR.out 5 (.bool false) rfl
  have qf5 := frozen_blk HR.out 5
  have q6 := cbk HR.out 6 (.bool false) rfl
  have qf6 := frozen_blk HR.out 6
  have q7 := cbk HR.out 7 (.bool false) rfl
  have qf7 := frozen_blk HR.out 7
  have q8 := cbk HR.out 8 (.int .i64 0) rfl
  have qf8 := frozen_blk HR.out 8
  have ql := blk_lt HR.out
  clear h2 h3 h4 c9
  go_wp2
  refine bodyPost_ret (v := .agg #[.bool d0, .int .i64 d1, .slice da9 dn9 dc9, .bool d3, .int .i64 d4, .bool d5, .bool d6, .bool d7, .int .i64 d8]) (results_cell_row rfl _ _ w.heap.size 64 #[.bool d0, .int .i64 d1, .slice da9 dn9 dc9, .bool d3, .int .i64 d4, .bool d5, .bool d6, .bool d7, .int .i64 d8] (0, 0) _ (by go_simp) ((blk_al (blk_set (blk_set (blk_set (blk_set (blk_set (blk_set (blk_set (blk_set (blk_set (blk_set_ne (p := ⟨W, 9, none⟩) HR.out hWr.symm _) 0 _) 1 _) 2 _) 3 _) 4 _) 5 _) 6 _) 7 _) 8 _) _).trans (by simp only [ls0, ls1, ls2])) Tryz.underlying64 rfl (by kernel_rfl)) rfl ⟨rfl, (blk_al (blk_set_ne (p := ⟨w.heap.size, 8, none⟩) (blk_set_ne (p := ⟨w.heap.size, 7, none⟩) (blk_set_ne (p := ⟨w.heap.size, 6, none⟩) (blk_set_ne (p := ⟨w.heap.size, 5, none⟩) (blk_set_ne (p := ⟨w.heap.size, 4, none⟩) (blk_set_ne (p := ⟨w.heap.size, 3, none⟩) (blk_set_ne (p := ⟨w.heap.size, 2, none⟩) (blk_set_ne (p := ⟨w.heap.size, 1, none⟩) (blk_set_ne (p := ⟨w.heap.size, 0, none⟩) (blk_set H2.out 9 _) hWr _) hWr _) hWr _) hWr _) hWr _) hWr _) hWr _) hWr _) hWr _) _).trans (by simp only [ls0, ls1, ls2]), ((MemAt.setne (MemAt.setne (MemAt.setne (MemAt.setne (MemAt.setne (MemAt.setne (MemAt.setne (MemAt.setne (MemAt.setne (MemAt.setne H3.out (p := ⟨W, 9, none⟩) hBW hDW _) (p := ⟨w.heap.size, 0, none⟩) hBr hD _) (p := ⟨w.heap.size, 1, none⟩) hBr hD _) (p := ⟨w.heap.size, 2, none⟩) hBr hD _) (p := ⟨w.heap.size, 3, none⟩) hBr hD _) (p := ⟨w.heap.size, 4, none⟩) hBr hD _) (p := ⟨w.heap.size, 5, none⟩) hBr hD _) (p := ⟨w.heap.size, 6, none⟩) hBr hD _) (p := ⟨w.heap.size, 7, none⟩) hBr hD _) (p := ⟨w.heap.size, 8, none⟩) hBr hD _).al _), (ButS.al (ButS.set' (ButS.set' (ButS.set' (ButS.set' (ButS.set' (ButS.set' (ButS.set' (ButS.set' (ButS.set' (ButS.set H4.out (p := ⟨W, 9, none⟩) HBS.out _) (p := ⟨w.heap.size, 0, none⟩) (.inr (Nat.le_refl _)) _) (p := ⟨w.heap.size, 1, none⟩) (.inr (Nat.le_refl _)) _) (p := ⟨w.heap.size, 2, none⟩) (.inr (Nat.le_refl _)) _) (p := ⟨w.heap.size, 3, none⟩) (.inr (Nat.le_refl _)) _) (p := ⟨w.heap.size, 4, none⟩) (.inr (Nat.le_refl _)) _) (p := ⟨w.heap.size, 5, none⟩) (.inr (Nat.le_refl _)) _) (p := ⟨w.heap.size, 6, none⟩) (.inr (Nat.le_refl _)) _) (p := ⟨w.heap.size, 7, none⟩) (.inr (Nat.le_refl _)) _) (p := ⟨w.heap.size, 8, none⟩) (.inr (Nat.le_refl _)) _) _)⟩
theorem row_own {w : World} {base g n cap : Nat} {e : TypeId} {l : List Int} (h0 : 0 < l.length) (h : w.ownsRow base e 1 (.slice (some ⟨g, 0, none⟩) l.length cap) l.length (u32s l)) : g < w.heap.size ∧ ∀ j (hj : j < l.length), w.cell? ⟨g, j, none⟩ = some (.int .u32 l[j]) := by
  obtain ⟨g', o', e1, hg, hc⟩ := (RowAt.of_own h).at h0
  cases e1
  exact ⟨hg, fun j hj => by
    have h1 := hc j (by omega)
    rw [Nat.zero_add, u32s_at l j hj] at h1
    exact h1⟩
set_option maxRecDepth 100000 in
set_option maxHeartbeats 4000000 in
theorem newWriter_any (cv : Value) (C : Cfg) (hsm : C.small) (k : Nat) (hk : k < C.chans.length) (x : Chn) (hx : C.chans[k] = x) (s1 s2 d1 d2 : Int) (hs : srcB C k = (s1, s2)) (hd : dstB C k = (d1, d2)) (ra : Option Addr) (rc : Nat) (l : List Int) (h0 : 0 < l.length) (hl : l.length ≤ 1000) (w : World) (h : CfgAt w cv C) (hr : RowAt w 1 (.slice ra l.length rc) l.length (u32s l)) :
    Calls Tryz.prog 23 #[cv, .int .i64 k, .slice ra l.length rc] w fun e w' => ∃ W g dc, e = .returned (.pointer (some ⟨W, 0, none⟩)) ∧ Kp (WrAt w' W g dc ⟨s1, d1, x.words, x.period⟩ (wr0 l)) ∧ Below w.heap.size w w' ∧ w.heap.size ≤ W ∧ w.heap.size ≤ g ∧ g ≠ W := by
  have HC := Kp.mk h
  have HS := Kp.mk hs
  have HD := Kp.mk hd
  have HX := Kp.mk hx
  have HR := Kp.mk hr
  obtain ⟨ho, pa, pc, ca, cc, a0, c0, a1, c1, rfl, bp, bc, b0, b1, hp, hc, hw0, hw1⟩ := h
  clear ho hp hw0 hw1 hs hd hc hx hr
  go_enter Tryz.func23, Tryz.ntmps23
  have HB0 : Kp (Below w.heap.size w w) := ⟨Below.refl _ _⟩
  go_wp2_with fail
  refine (of_any4 _ C hsm k hk x HX.out s1 s2 d1 d2 HS.out HD.out _ (HC.out.below (below_al HB0.out _))).mono ?_
  rintro e w1 ⟨rfl, hb⟩
  have q1 : Kp (w1.heap[w.heap.size]? = some (.cells #[.slice pa C.parts.length pc, .slice ca C.chans.length cc, .int .i64 C.l0, .slice a0 C.w0.length c0, .int .i64 C.l1, .slice a1 C.w1.length c1] 31 (0, 0))) := ⟨blk_below (blk_new _ _) hb⟩
  have HB1 : Kp (Below w.heap.size w w1) := ⟨below_call (below_al HB0.out _) hb⟩
  clear HB0 hb
  go_wp2_with fail
  have hs1 : w.heap.size ≤ w1.heap.size := HB1.out.size
  refine (clone_any ra l.length rc (u32s l) h0 (u32s_one _) _ (HR.out.below HB1.out) hl).mono ?_
  rintro e w2 ⟨g, dc, rfl, hown, hb, hg⟩
  have q2 : Kp (w2.heap[w.heap.size]? = some (.cells #[.slice pa C.parts.length pc, .slice ca C.chans.length cc, .int .i64 C.l0, .slice a0 C.w0.length c0, .int .i64 C.l1, .slice a1 C.w1.length c1] 31 (0, 0))) := ⟨blk_below q1.out hb⟩
  have HB2 : Kp (Below w.heap.size w w2) := ⟨below_call HB1.out hb⟩
  have o2 : Kp (w2.ownsRow (w1.heap.size) 41 1 (.slice (some ⟨g, 0, none⟩) l.length dc) (l.length) (u32s l)) := ⟨hown.out⟩
  clear q1 HB1 hb
  have hgw : w.heap.size ≤ g := by omega
  have hr1 := row_own (n := 0) h0 o2.out
  have HRW := Kp.mk hr1
  have hg2 := hr1.1
  clear hr1
  go_wp2
  go_ret
  exact ⟨_, g, dc, rfl, ⟨⟨(blk_new _ _).trans rfl, fun j hj => ((below_al (Below.refl w2.heap.size w2) _).cell (p := ⟨g, j, none⟩) hg2).trans (HRW.out.2 j hj), Nat.lt_succ_of_lt hg2 |> fun h => by simpa using h⟩⟩, (below_al HB2.out _), HB2.out.size, hgw, by omega⟩
set_option maxRecDepth 100000 in
set_option maxHeartbeats 1000000 in
theorem wstep_nil (W B D : Nat) (p : Plc) (da : Option Addr) (dn dc : Nat) (x y : Int) (i : Int) (mk : Bool) (now : Int) (w : World) (hW : w.heap[W]? = some (.cells #[.int .i64 p.src, .int .i64 p.rd, .int .i64 p.words, .int .i64 p.period, .slice da dn dc, .int .u32 x, .int .u32 y, .int .i64 i, .bool mk, .nilFunc] 117 (0, 0))) : Calls Tryz.prog 25 #[.pointer (some ⟨W, 0, none⟩), .pointer (some ⟨B, 0, none⟩), .int .i64 now] w fun e w' => e = .returned (.agg #[.bool false, .int .i64 0, .slice none 0 0, .bool false, .int .i64 0, .bool false, .bool false, .bool false, .int .i64 0]) ∧ Below w.heap.size w w' := by
  have c9 : w.cell? ⟨W, 9, none⟩ = some .nilFunc := (cell_blk hW 9).trans rfl
  have l9 := blk_lt hW
  have qF := fun (w : World) => run_eql_func_nn (P := Tryz.prog) w 115 Tryz.underlying115
  clear hW
  go_enter Tryz.func25, Tryz.ntmps25
  go_wp2
  exact bodyPost_ret (v := .agg #[.bool false, .int .i64 0, .slice none 0 0, .bool false, .int .i64 0, .bool false, .bool false, .bool false, .int .i64 0]) (results_cell_row rfl _ _ _ _ _ _ _ rfl (blk_new _ _) Tryz.underlying64 rfl (by kernel_rfl)) rfl ⟨rfl, below_al (Below.refl _ _) _⟩
set_option maxHeartbeats 1000000 in
theorem wstep_any (p : Plc) (hp : p.low) (W B D g dc : Nat) (ws : List Int) (now : Int) (hi : p.In ws.length) (hws : Words ws) (s : Wr) (hx : bit s.pair) (hy : bit s.index) (h0 : 0 < s.data.length) (hdw : (s.data.length : Int) ≤ p.words) (hin : s.pc = 4 → s.i < s.data.length) (hgD : g ≠ D) (hgW : g ≠ W) (w : World) (hW : WrAt w W g dc p s) (hM : MemAt w B D ws) :
    Calls Tryz.prog 25 #[.pointer (some ⟨W, 0, none⟩), .pointer (some ⟨B, 0, none⟩), .int .i64 now] w fun e w' => e = .returned (.agg (didA (wDid p ws s) (.slice none 0 0))) ∧ WrAt w' W g dc p (wNext p ws s) ∧ MemAt w' B D (wMem p ws now s) ∧ ButS [W, D] w w' := by
  have hgS : g ∉ [W, D] := by simp [hgD, hgW]
  have lW := blk_lt hW.blk
  have lD := blk_lt hM.words
  have hw16 := hp.words
  obtain ⟨pc, data, pair, index, i, marked⟩ := s
  simp only at hx hy h0 hdw hin
  have hpc : pc = 0 ∨ pc = 1 ∨ pc = 2 ∨ pc = 3 ∨ pc = 4 ∨ pc = 5 ∨ pc = 6 ∨ 7 ≤ pc := by omega
  rcases hpc with rfl | rfl | rfl | rfl | rfl | rfl | rfl | h7
  · refine (wStep_gen 53 enters_wchoose W B D p (ws) (some ⟨g, 0, none⟩) data.length dc pair index i marked (1 - ldW ws p.rd % 2) (index) (i) (marked) now (false) (0) (none) (0) (0) (false) (0) (false) (false) (false) (0) 84 w ⟨lW, lD⟩ hW.blk (by simp; omega) (by simp) fun w1 hb => (choose_any p hp W B D ws (some ⟨g, 0, none⟩) data.length dc pair index i marked _ now hi hws w1 (blk_below hW.blk hb) (hM.below hb)).mono ?_).mono ?_
    · rintro e w2 ⟨he, h2, h3, h4⟩
      exact ⟨he, h2, h3, h4⟩
    · rintro e w2 ⟨rfl, h2, h3, h4⟩
      exact ⟨rfl, ⟨h2, fun j hj => (h4.cell hW.lt hgS).trans (hW.row j hj), Nat.lt_of_lt_of_le hW.lt h4.size⟩, h3, h4⟩
  · refine (wStep_gen 84 enters_wother W B D p (ws) (some ⟨g, 0, none⟩) data.length dc pair index i marked (pair) (1 - ldW ws (p.slot pair) % 2) (i) (marked) now (false) (0) (none) (0) (0) (false) (0) (false) (false) (false) (0) 99 w ⟨lW, lD⟩ hW.blk (by simp; omega) (by simp) fun w1 hb => (other_any p hp W B D ws (some ⟨g, 0, none⟩) data.length dc pair index i marked _ now hi hws hx w1 (blk_below hW.blk hb) (hM.below hb)).mono ?_).mono ?_
    · rintro e w2 ⟨he, h2, h3, h4⟩
      exact ⟨he, h2, h3, h4⟩
    · rintro e w2 ⟨rfl, h2, h3, h4⟩
      exact ⟨rfl, ⟨h2, fun j hj => (h4.cell hW.lt hgS).trans (hW.row j hj), Nat.lt_of_lt_of_le hW.lt h4.size⟩, h3, h4⟩
  · refine (wStep_gen 99 enters_wlength W B D p (stW ws (p.buf pair index) data.length) (some ⟨g, 0, none⟩) data.length dc pair index i marked (pair) (index) (i) (marked) now (false) (0) (none) (0) (0) (false) (0) (false) (false) (false) (1 + (2 * pair + index)) 109 w ⟨lW, lD⟩ hW.blk (by simp; omega) (by simp) fun w1 hb => (wlength_any p hp W B D ws (some ⟨g, 0, none⟩) data.length dc pair index i marked _ now hi hws hx hy (by omega) w1 (blk_below hW.blk hb) (hM.below hb)).mono ?_).mono ?_
    · rintro e w2 ⟨he, h2, h3, h4⟩
      exact ⟨he, h2, h3, h4⟩
    · rintro e w2 ⟨rfl, h2, h3, h4⟩
      exact ⟨rfl, ⟨h2, fun j hj => (h4.cell hW.lt hgS).trans (hW.row j hj), Nat.lt_of_lt_of_le hW.lt h4.size⟩, h3, h4⟩
  · refine (wStep_gen 109 enters_wstamp W B D p (stW ws (p.buf pair index + 1) (now % 4294967296)) (some ⟨g, 0, none⟩) data.length dc pair index i marked (pair) (index) (i) (marked) now (false) (0) (none) (0) (0) (false) (0) (false) (false) (true) (0) 112 w ⟨lW, lD⟩ hW.blk (by simp; omega) (by simp) fun w1 hb => (stamp_any p hp W B D ws (some ⟨g, 0, none⟩) data.length dc pair index i marked _ now hi hws hx hy w1 (blk_below hW.blk hb) (hM.below hb)).mono ?_).mono ?_
    · rintro e w2 ⟨he, h2, h3, h4⟩
      exact ⟨he, h2, h3, h4⟩
    · rintro e w2 ⟨rfl, h2, h3, h4⟩
      exact ⟨rfl, ⟨h2, fun j hj => (h4.cell hW.lt hgS).trans (hW.row j hj), Nat.lt_of_lt_of_le hW.lt h4.size⟩, h3, h4⟩
  · have hin' := hin rfl
    have hm : wMem p ws now ⟨4, data, pair, index, i, marked⟩ = stW ws (p.buf pair index + 2 + i) data[i] := by
      show stW ws _ (data.getD i 0) = _
      rw [List.getD_eq_getElem?_getD, List.getElem?_eq_getElem hin']; rfl
    by_cases hl : i + 1 < data.length
    · have hn : wNext p ws ⟨4, data, pair, index, i, marked⟩ = ⟨4, data, pair, index, i + 1, marked⟩ := by
        show Wr.mk (if i + 1 < data.length then 4 else 5) _ _ _ _ _ = _
        rw [if_pos hl]
      refine (wStep_gen 112 enters_wword W B D p (stW ws (p.buf pair index + 2 + i) data[i]) (some ⟨g, 0, none⟩) data.length dc pair index i marked (pair) (index) ((i : Int) + 1) (marked) now (false) (0) (none) (0) (0) (false) (0) (false) (false) (false) (0) 112 w ⟨lW, lD⟩ hW.blk (by simp; omega) (by simp) fun w1 hb => (wordM_any p hp W B D ws g 0 data.length dc pair index i marked _ now hi hws hx hy hin' hdw (data[i]) hgD (decide_eq_true (by omega)) w1 (blk_below hW.blk hb) (hM.below hb) (Nat.lt_of_lt_of_le hW.lt hb.size) (by rw [Nat.zero_add]; exact (hb.cell (p := ⟨g, i, none⟩) hW.lt).trans (hW.row i hin'))).mono ?_).mono ?_
      · rintro e w2 ⟨he, h2, h3, h4⟩
        exact ⟨he, h2, h3, h4⟩
      · rintro e w2 ⟨rfl, h2, h3, h4⟩
        refine ⟨rfl, ?_, ?_, h4⟩
        · rw [hn]
          exact ⟨h2, fun j hj => (h4.cell hW.lt hgS).trans (hW.row j hj), Nat.lt_of_lt_of_le hW.lt h4.size⟩
        · rw [hm]
          exact h3
    · have hn : wNext p ws ⟨4, data, pair, index, i, marked⟩ = ⟨5, data, pair, index, i + 1, marked⟩ := by
        show Wr.mk (if i + 1 < data.length then 4 else 5) _ _ _ _ _ = _
        rw [if_neg hl]
      refine (wStep_gen 112 enters_wword W B D p (stW ws (p.buf pair index + 2 + i) data[i]) (some ⟨g, 0, none⟩) data.length dc pair index i marked (pair) (index) ((i : Int) + 1) (marked) now (false) (0) (none) (0) (0) (false) (0) (false) (false) (false) (0) 115 w ⟨lW, lD⟩ hW.blk (by simp; omega) (by simp) fun w1 hb => (wordL_any p hp W B D ws g 0 data.length dc pair index i marked _ now hi hws hx hy hin' hdw (data[i]) hgD (decide_eq_false (by omega)) w1 (blk_below hW.blk hb) (hM.below hb) (Nat.lt_of_lt_of_le hW.lt hb.size) (by rw [Nat.zero_add]; exact (hb.cell (p := ⟨g, i, none⟩) hW.lt).trans (hW.row i hin'))).mono ?_).mono ?_
      · rintro e w2 ⟨he, h2, h3, h4⟩
        exact ⟨he, h2, h3, h4⟩
      · rintro e w2 ⟨rfl, h2, h3, h4⟩
        refine ⟨rfl, ?_, ?_, h4⟩
        · rw [hn]
          exact ⟨h2, fun j hj => (h4.cell hW.lt hgS).trans (hW.row j hj), Nat.lt_of_lt_of_le hW.lt h4.size⟩
        · rw [hm]
          exact h3
  · refine (wStep_gen 115 enters_wshow W B D p (stW ws (p.slot pair) index) (some ⟨g, 0, none⟩) data.length dc pair index i marked (pair) (index) (i) (decide (ldW ws p.src % 2 = pair)) now (false) (0) (none) (0) (0) (false) (0) (decide (ldW ws p.src % 2 = pair)) (false) (false) (0) 119 w ⟨lW, lD⟩ hW.blk (by simp; omega) (by simp) fun w1 hb => (show_any p hp W B D ws (some ⟨g, 0, none⟩) data.length dc pair index i marked _ now hi hws hx w1 (blk_below hW.blk hb) (hM.below hb)).mono ?_).mono ?_
    · rintro e w2 ⟨he, h2, h3, h4⟩
      exact ⟨he, h2, h3, h4⟩
    · rintro e w2 ⟨rfl, h2, h3, h4⟩
      exact ⟨rfl, ⟨h2, fun j hj => (h4.cell hW.lt hgS).trans (hW.row j hj), Nat.lt_of_lt_of_le hW.lt h4.size⟩, h3, h4⟩
  · refine (wStep_genN 119 enters_wend W B D p (stW ws p.src pair) (some ⟨g, 0, none⟩) data.length dc pair index i marked (pair) (index) (i) (marked) now (true) (0) (none) (0) (0) (false) (0) (!marked) (false) (false) (0) w ⟨lW, lD⟩ hW.blk (by simp; omega) (by simp) fun w1 hb => (wend_any p hp W B D ws (some ⟨g, 0, none⟩) data.length dc pair index i marked _ now hi hws hx w1 (blk_below hW.blk hb) (hM.below hb)).mono ?_).mono ?_
    · rintro e w2 ⟨he, h2, h3, h4⟩
      exact ⟨he, h2, h3, h4⟩
    · rintro e w2 ⟨rfl, h2, h3, h4⟩
      exact ⟨rfl, ⟨h2, fun j hj => (h4.cell hW.lt hgS).trans (hW.row j hj), Nat.lt_of_lt_of_le hW.lt h4.size⟩, h3, h4⟩
  · have e1 : wNext p ws ⟨pc, data, pair, index, i, marked⟩ = ⟨pc, data, pair, index, i, marked⟩ := by unfold wNext; split <;> simp_all
    have e2 : wMem p ws now ⟨pc, data, pair, index, i, marked⟩ = ws := by unfold wMem; split <;> simp_all
    have e3 : wDid p ws ⟨pc, data, pair, index, i, marked⟩ = {} := by unfold wDid; split <;> simp_all
    have e4 : wNx W pc = .nilFunc := by unfold wNx; split <;> first | omega | rfl
    rw [e1, e2, e3]
    have hb := hW.blk
    simp only [e4] at hb
    refine (wstep_nil W B D p _ _ _ _ _ _ _ now w hb).mono ?_
    rintro e w2 ⟨rfl, hb2⟩
    exact ⟨rfl, hW.but (ButS.of_below (S := []) hb2) (by simp) (by simp), hM.below hb2, ButS.of_below hb2⟩
end Go.Proofs.YtmidcnfmphlneaaGreat

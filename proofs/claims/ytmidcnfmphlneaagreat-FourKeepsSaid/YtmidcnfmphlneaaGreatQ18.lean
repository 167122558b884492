/- Contracts of package four: a step of the reader, a new reader. -/
import Derived.Test.YtmidcnfmphlneaaGreatQ13
import Derived.Test.YtmidcnfmphlneaaGreatQ16
import Derived.Test.YtmidcnfmphlneaaGreatQ17
namespace Go.Proofs.YtmidcnfmphlneaaGreat
open Go.RowKit
set_option linter.unusedSimpArgs false
set_option linter.unusedVariables false
def rNx (R : Nat) : Nat → Value
  | 0 => .func (.func 54) #[.pointer (some ⟨R, 0, none⟩)] #[]
  | 1 => .func (.func 85) #[.pointer (some ⟨R, 0, none⟩)] #[]
  | 2 => .func (.func 101) #[.pointer (some ⟨R, 0, none⟩)] #[]
  | 3 => .func (.func 110) #[.pointer (some ⟨R, 0, none⟩)] #[]
  | 4 => .func (.func 113) #[.pointer (some ⟨R, 0, none⟩)] #[]
  | 5 => .func (.func 116) #[.pointer (some ⟨R, 0, none⟩)] #[]
  | _ => .nilFunc
structure RdAt (w : World) (R bs : Nat) (p : Plc) (s : Rdr) (da : Option Addr) (dc : Nat) : Prop where
  blk : w.heap[R]? = some (.cells #[.int .i64 p.src, .int .i64 p.rd, .int .i64 p.words, .int .i64 p.period, .int .u32 s.pair, .int .u32 s.index, .int .i64 (s.left : Int), .int .u32 s.stamp, .slice da s.data.length dc, rNx R s.pc] 119 (0, 0))
  own : w.ownsRow bs 41 1 (.slice da s.data.length dc) s.data.length (u32s s.data)
  lt : R < bs
  le : bs ≤ w.heap.size
theorem own_lt {w : World} {base : Nat} {e : TypeId} {k : Nat} {v : Value} {n : Nat} {cs : List Value} (h : w.ownsRow base e k v n cs) (q : Nat) (hq : v.ownBlock = some q) : q < w.heap.size := by
  rcases h.2 with ⟨e, _⟩ | ⟨g, cap, cur, e, _, hg, _⟩
  · rw [e] at hq; cases hq
  · rw [e] at hq
    have h1 : g = q := by simpa [Value.ownBlock] using hq
    rw [← h1]
    exact blk_lt hg
theorem own_but {w w1 : World} {base : Nat} {e : TypeId} {k : Nat} {v : Value} {n : Nat} {cs : List Value} {S : List Nat} (h : w.ownsRow base e k v n cs) (hb : ButS S w w1) (hq : ∀ q, v.ownBlock = some q → q ∉ S) : w1.ownsRow base e k v n cs := by
  obtain ⟨h0, h | ⟨g, cap, cur, e1, hg, h1, r⟩⟩ := h
  · exact ⟨h0, .inl h⟩
  · exact ⟨h0, .inr ⟨g, cap, cur, e1, hg, hb.blk h1 (hq g (by rw [e1]; rfl)), r⟩⟩
theorem RdAt.but {w w' : World} {R bs : Nat} {p : Plc} {s : Rdr} {da : Option Addr} {dc : Nat} {S : List Nat} (h : RdAt w R bs p s da dc) (hb : ButS S w w') (h1 : R ∉ S) (h2 : ∀ q, (Value.slice da s.data.length dc).ownBlock = some q → q ∉ S) : RdAt w' R bs p s da dc :=
  ⟨hb.blk h.blk h1, own_but h.own hb h2, h.lt, Nat.le_trans h.le hb.size⟩
theorem enters_rlatest : Enters 54 := enters_at Tryz.func54 (by kernel_rfl) rfl
theorem enters_rtell : Enters 85 := enters_at Tryz.func85 (by kernel_rfl) rfl
theorem enters_rnewer : Enters 101 := enters_at Tryz.func101 (by kernel_rfl) rfl
theorem enters_rlength : Enters 110 := enters_at Tryz.func110 (by kernel_rfl) rfl
theorem enters_rwhen : Enters 113 := enters_at Tryz.func113 (by kernel_rfl) rfl
theorem enters_rword : Enters 116 := enters_at Tryz.func116 (by kernel_rfl) rfl
set_option maxRecDepth 100000 in
set_option maxHeartbeats 4000000 in
theorem rStep_gen (fn : FuncId) (hE : Enters fn) (R B D : Nat) (p : Plc) (ws' : List Int) (x y : Int) (lf sp : Int) (da : Option Addr) (dn dc : Nat) (x' y' lf' sp' : Int) (now : Int) (d0 : Bool) (d1 : Int) (da9 : Option Addr) (dn9 dc9 : Nat) (d3 : Bool) (d4 : Int) (d5 d6 d7 : Bool) (d8 : Int) (fn2 : FuncId) (w : World) (hbD : R < w.heap.size ∧ D < w.heap.size) (hW : w.heap[R]? = some (.cells #[.int .i64 p.src, .int .i64 p.rd, .int .i64 p.words, .int .i64 p.period, .int .u32 x, .int .u32 y, .int .i64 lf, .int .u32 sp, .slice da dn dc, .func (.func fn) #[.pointer (some ⟨R, 0, none⟩)] #[]] 119 (0, 0)))
    (hS : w.heap.size ∉ [R, D]) (hbS : R ∈ [R, D])
    (hact : ∀ w1, Below w.heap.size w w1 → Calls Tryz.prog fn #[.pointer (some ⟨R, 0, none⟩), .pointer (some ⟨B, 0, none⟩), .int .i64 now] w1 fun e w2 => e = .returned (.tuple #[.agg #[.bool d0, .int .i64 d1, .slice da9 dn9 dc9, .bool d3, .int .i64 d4, .bool d5, .bool d6, .bool d7, .int .i64 d8], .func (.func fn2) #[.pointer (some ⟨R, 0, none⟩)] #[]]) ∧ w2.heap[R]? = some (.cells #[.int .i64 p.src, .int .i64 p.rd, .int .i64 p.words, .int .i64 p.period, .int .u32 x', .int .u32 y', .int .i64 lf', .int .u32 sp', .slice da dn dc, .func (.func fn) #[.pointer (some ⟨R, 0, none⟩)] #[]] 119 (0, 0)) ∧ MemAt w2 B D ws' ∧ ButS ([R, D]) w1 w2) :
    Calls Tryz.prog 27 #[.pointer (some ⟨R, 0, none⟩), .pointer (some ⟨B, 0, none⟩), .int .i64 now] w fun e w' =>
    e = .returned (.agg #[.bool d0, .int .i64 d1, .slice da9 dn9 dc9, .bool d3, .int .i64 d4, .bool d5, .bool d6, .bool d7, .int .i64 d8]) ∧ w'.heap[R]? = some (.cells #[.int .i64 p.src, .int .i64 p.rd, .int .i64 p.words, .int .i64 p.period, .int .u32 x', .int .u32 y', .int .i64 lf', .int .u32 sp', .slice da dn dc, .func (.func fn2) #[.pointer (some ⟨R, 0, none⟩)] #[]] 119 (0, 0)) ∧ MemAt w' B D ws' ∧ ButS ([R, D]) w w' := by
  have HA := Kp.mk hact
  have hE' := hE.out
  have qF := fun (w : World) fn fi ca => run_eql_func_nil (P := Tryz.prog) w 115 fn fi ca Tryz.underlying115
  have lW := hbD.1
  have c9 := cbk hW 9 (.func (.func fn) #[.pointer (some ⟨R, 0, none⟩)] #[]) rfl
  have hWr : R ≠ w.heap.size := by omega
  have HS := Kp.mk hS
  have HBS := Kp.mk hbS
  clear hact hW hS hE hbS
  go_enter Tryz.func27, Tryz.ntmps27
  go_wp2_with fail
  refine (HA.out _ (below_al (Below.refl _ _) _)).mono ?_
  rintro e w2 ⟨rfl, h2, h3, h4⟩
  have HR : Kp (w2.heap[w.heap.size]? = some (.cells #[.bool false, .int .i64 0, .slice none 0 0, .bool false, .int .i64 0, .bool false, .bool false, .bool false, .int .i64 0] 64 (0, 0))) := ⟨h4.blk (blk_new w _) HS.out⟩
  have H2 := Kp.mk h2
  have H3 := Kp.mk h3
  have H4 : Kp (ButS ([R, D]) w w2) := ⟨(ButS.of_below (below_al (Below.refl _ _) _)).trans h4⟩
  have hsz : w.heap.size + 1 ≤ w2.heap.size := by simpa using h4.size
  have hD : D ≠ w.heap.size := by have := hbD.2; omega
  have lB2 := blk_lt h3.head
  have lD2 := blk_lt h3.words
  have hBr : B ≠ w.heap.size := by
    rintro rfl
    have h5 := h3.head
    rw [HR.out] at h5
    simp at h5
  have hBW : B ≠ R := by
    rintro rfl
    have h5 := h3.head
    rw [h2] at h5
    simp at h5
  have hDW : D ≠ R := by
    rintro rfl
    have h5 := h3.words
    rw [h2] at h5
    simp at h5
  have d9 := cbk H2.out 9 (.func (.func fn) #[.pointer (some ⟨R, 0, none⟩)] #[]) rfl
  have f9 := frozen_blk H2.out 9
  have l9 := blk_lt H2.out
  have q0 := cbk HR.out 0 (.bool false) rfl
  have qf0 := frozen_blk HR.out 0
  have q1 := cbk HR.out 1 (.int .i64 0) rfl
  have qf1 := frozen_blk HR.out 1
  have q2 := cbk HR.out 2 (.slice none 0 0) rfl
  have qf2 := frozen_blk HR.out 2
  have q3 := cbk HR.out 3 (.bool false) rfl
  have qf3 := frozen_blk HR.out 3
  have q4 := cbk HR.out 4 (.int .i64 0) rfl
  have qf4 := frozen_blk HR.out 4
  have q5 := cbk HR.out 5 (.bool false) rfl
  have qf5 := frozen_blk HR.out 5
  have q6 := cbk HR.out 6 (.bool false) rfl
  have qf6 := frozen_blk HR.out 6
  have q7 := cbk HR.out 7 (.bool false) rfl
  have qf7 := frozen_blk HR.out 7
  have q8 := cbk HR.out 8 (.int .i64 0) rfl
  have qf8 := frozen_blk HR.out 8
  have ql := blk_lt HR.out
  clear h2 h3 h4 c9
  go_wp2
  refine bodyPost_ret (v := .agg #[.bool d0, .int .i64 d1, .slice da9 dn9 dc9, .bool d3, .int .i64 d4, .bool d5, .bool d6, .bool d7, .int .i64 d8]) (results_cell_row rfl _ _ w.heap.size 64 #[.bool d0, .int .i64 d1, .slice da9 dn9 dc9, .bool d3, .int .i64 d4, .bool d5, .bool d6, .bool d7, .int .i64 d8] (0, 0) _ (by go_simp) ((blk_al (blk_set (blk_set (blk_set (blk_set (blk_set (blk_set (blk_set (blk_set (blk_set (blk_set_ne (p := ⟨R, 9, none⟩) HR.out hWr.symm _) 0 _) 1 _) 2 _) 3 _) 4 _) 5 _) 6 _) 7 _) 8 _) _).trans (by simp only [ls0, ls1, ls2])) Tryz.underlying64 rfl (by kernel_rfl)) rfl ⟨rfl, (blk_al (blk_set_ne (p := ⟨w.heap.size, 8, none⟩) (blk_set_ne (p := ⟨w.heap.size, 7, none⟩) (blk_set_ne (p := ⟨w.heap.size, 6, none⟩) (blk_set_ne (p := ⟨w.heap.size, 5, none⟩) (blk_set_ne (p := ⟨w.heap.size, 4, none⟩) (blk_set_ne (p := ⟨w.heap.size, 3, none⟩) (blk_set_ne (p := ⟨w.heap.size, 2, none⟩) (blk_set_ne (p := ⟨w.heap.size, 1, none⟩) (blk_set_ne (p := ⟨w.heap.size, 0, none⟩) (blk_set H2.out 9 _) hWr _) hWr _) hWr _) hWr _) hWr _) hWr _) hWr _) hWr _) hWr _) _).trans (by simp only [ls0, ls1, ls2]), ((MemAt.setne (MemAt.setne (MemAt.setne (MemAt.setne (MemAt.setne (MemAt.setne (MemAt.setne (MemAt.setne (MemAt.setne (MemAt.setne H3.out (p := ⟨R, 9, none⟩) hBW hDW _) (p := ⟨w.heap.size, 0, none⟩) hBr hD _) (p := ⟨w.heap.size, 1, none⟩) hBr hD _) (p := ⟨w.heap.size, 2, none⟩) hBr hD _) (p := ⟨w.heap.size, 3, none⟩) hBr hD _) (p := ⟨w.heap.size, 4, none⟩) hBr hD _) (p := ⟨w.heap.size, 5, none⟩) hBr hD _) (p := ⟨w.heap.size, 6, none⟩) hBr hD _) (p := ⟨w.heap.size, 7, none⟩) hBr hD _) (p := ⟨w.heap.size, 8, none⟩) hBr hD _).al _), (ButS.al (ButS.set' (ButS.set' (ButS.set' (ButS.set' (ButS.set' (ButS.set' (ButS.set' (ButS.set' (ButS.set' (ButS.set H4.out (p := ⟨R, 9, none⟩) HBS.out _) (p := ⟨w.heap.size, 0, none⟩) (.inr (Nat.le_refl _)) _) (p := ⟨w.heap.size, 1, none⟩) (.inr (Nat.le_refl _)) _) (p := ⟨w.heap.size, 2, none⟩) (.inr (Nat.le_refl _)) _) (p := ⟨w.heap.size, 3, none⟩) (.inr (Nat.le_refl _)) _) (p := ⟨w.heap.size, 4, none⟩) (.inr (Nat.le_refl _)) _) (p := ⟨w.heap.size, 5, none⟩) (.inr (Nat.le_refl _)) _) (p := ⟨w.heap.size, 6, none⟩) (.inr (Nat.le_refl _)) _) (p := ⟨w.heap.size, 7, none⟩) (.inr (Nat.le_refl _)) _) (p := ⟨w.heap.size, 8, none⟩) (.inr (Nat.le_refl _)) _) _)⟩
set_option maxRecDepth 100000 in
set_option maxHeartbeats 4000000 in
theorem rStep_genN (fn : FuncId) (hE : Enters fn) (R B D : Nat) (p : Plc) (ws' : List Int) (x y : Int) (lf sp : Int) (da : Option Addr) (dn dc : Nat) (x' y' lf' sp' : Int) (now : Int) (d0 : Bool) (d1 : Int) (da9 : Option Addr) (dn9 dc9 : Nat) (d3 : Bool) (d4 : Int) (d5 d6 d7 : Bool) (d8 : Int) (w : World) (hbD : R < w.heap.size ∧ D < w.heap.size) (hW : w.heap[R]? = some (.cells #[.int .i64 p.src, .int .i64 p.rd, .int .i64 p.words, .int .i64 p.period, .int .u32 x, .int .u32 y, .int .i64 lf, .int .u32 sp, .slice da dn dc, .func (.func fn) #[.pointer (some ⟨R, 0, none⟩)] #[]] 119 (0, 0)))
    (hS : w.heap.size ∉ [R, D]) (hbS : R ∈ [R, D])
    (hact : ∀ w1, Below w.heap.size w w1 → Calls Tryz.prog fn #[.pointer (some ⟨R, 0, none⟩), .pointer (some ⟨B, 0, none⟩), .int .i64 now] w1 fun e w2 => e = .returned (.tuple #[.agg #[.bool d0, .int .i64 d1, .slice da9 dn9 dc9, .bool d3, .int .i64 d4, .bool d5, .bool d6, .bool d7, .int .i64 d8], .nilFunc]) ∧ w2.heap[R]? = some (.cells #[.int .i64 p.src, .int .i64 p.rd, .int .i64 p.words, .int .i64 p.period, .int .u32 x', .int .u32 y', .int .i64 lf', .int .u32 sp', .slice da dn dc, .func (.func fn) #[.pointer (some ⟨R, 0, none⟩)] #[]] 119 (0, 0)) ∧ MemAt w2 B D ws' ∧ ButS ([R, D]) w1 w2) :
    Calls Tryz.prog 27 #[.pointer (some ⟨R, 0, none⟩), .pointer (some ⟨B, 0, none⟩), .int .i64 now] w fun e w' =>
    e = .returned (.agg #[.bool d0, .int .i64 d1, .slice da9 dn9 dc9, .bool d3, .int .i64 d4, .bool d5, .bool d6, .bool d7, .int .i64 d8]) ∧ w'.heap[R]? = some (.cells #[.int .i64 p.src, .int .i64 p.rd, .int .i64 p.words, .int .i64 p.period, .int .u32 x', .int .u32 y', .int .i64 lf', .int .u32 sp', .slice da dn dc, .nilFunc] 119 (0, 0)) ∧ MemAt w' B D ws' ∧ ButS ([R, D]) w w' := by
  have HA := Kp.mk hact
  have hE' := hE.out
  have qF := fun (w : World) fn fi ca => run_eql_func_nil (P := Tryz.prog) w 115 fn fi ca Tryz.underlying115
  have lW := hbD.1
  have c9 := cbk hW 9 (.func (.func fn) #[.pointer (some ⟨R, 0, none⟩)] #[]) rfl
  have hWr : R ≠ w.heap.size := by omega
  have HS := Kp.mk hS
  have HBS := Kp.mk hbS
  clear hact hW hS hE hbS
  go_enter Tryz.func27, Tryz.ntmps27
  go_wp2_with fail
  refine (HA.out _ (below_al (Below.refl _ _) _)).mono ?_
  rintro e w2 ⟨rfl, h2, h3, h4⟩
  have HR : Kp (w2.heap[w.heap.size]? = some (.cells #[.bool false, .int .i64 0, .slice none 0 0, .bool false, .int .i64 0, .bool false, .bool false, .bool false, .int .i64 0] 64 (0, 0))) := ⟨h4.blk (blk_new w _) HS.out⟩
  have H2 := Kp.mk h2
  have H3 := Kp.mk h3
  have H4 : Kp (ButS ([R, D]) w w2) := ⟨(ButS.of_below (below_al (Below.refl _ _) _)).trans h4⟩
  have hsz : w.heap.size + 1 ≤ w2.heap.size := by simpa using h4.size
  have hD : D ≠ w.heap.size := by have := hbD.2; omega
  have lB2 := blk_lt h3.head
  have lD2 := blk_lt h3.words
  have hBr : B ≠ w.heap.size := by
    rintro rfl
    have h5 := h3.head
    rw [HR.out] at h5
    simp at h5
  have hBW : B ≠ R := by
    rintro rfl
    have h5 := h3.head
    rw [h2] at h5
    simp at h5
  have hDW : D ≠ R := by
    rintro rfl
    have h5 := h3.words
    rw [h2] at h5
    simp at h5
  have d9 := cbk H2.out 9 (.func (.func fn) #[.pointer (some ⟨R, 0, none⟩)] #[]) rfl
  have f9 := frozen_blk H2.out 9
  have l9 := blk_lt H2.out
  have q0 := cbk HR.out 0 (.bool false) rfl
  have qf0 := frozen_blk HR.out 0
  have q1 := cbk HR.out 1 (.int .i64 0) rfl
  have qf1 := frozen_blk HR.out 1
  have q2 := cbk HR.out 2 (.slice none 0 0) rfl
  have qf2 := frozen_blk HR.out 2
  have q3 := cbk HR.out 3 (.bool false) rfl
  have qf3 := frozen_blk HR.out 3
  have q4 := cbk HR.out 4 (.int .i64 0) rfl
  have qf4 := frozen_blk HR.out 4
  have q5 := cbk HR.out 5 (.bool false) rfl
  have qf5 := frozen_blk HR.out 5
  have q6 := cbk HR.out 6 (.bool false) rfl
  have qf6 := frozen_blk HR.out 6
  have q7 := cbk HR.out 7 (.bool false) rfl
  have qf7 := frozen_blk HR.out 7
  have q8 := cbk HR.out 8 (.int .i64 0) rfl
  have qf8 := frozen_blk HR.out 8
  have ql := blk_lt HR.out
  clear h2 h3 h4 c9
  go_wp2
  refine bodyPost_ret (v := .agg #[.bool d0, .int .i64 d1, .slice da9 dn9 dc9, .bool d3, .int .i64 d4, .bool d5, .bool d6, .bool d7, .int .i64 d8]) (results_cell_row rfl _ _ w.heap.size 64 #[.bool d0, .int .i64 d1, .slice da9 dn9 dc9, .bool d3, .int .i64 d4, .bool d5, .bool d6, .bool d7, .int .i64 d8] (0, 0) _ (by go_simp) ((blk_al (blk_set (blk_set (blk_set (blk_set (blk_set (blk_set (blk_set (blk_set (blk_set (blk_set_ne (p := ⟨R, 9, none⟩) HR.out hWr.symm _) 0 _) 1 _) 2 _) 3 _) 4 _) 5 _) 6 _) 7 _) 8 _) _).trans (by simp only [ls0, ls1, ls2])) Tryz.underlying64 rfl (by kernel_rfl)) rfl ⟨rfl, (blk_al (blk_set_ne (p := ⟨w.heap.size, 8, none⟩) (blk_set_ne (p := ⟨w.heap.size, 7, none⟩) (blk_set_ne (p := ⟨w.heap.size, 6, none⟩) (blk_set_ne (p := ⟨w.heap.size, 5, none⟩) (blk_set_ne (p := ⟨w.heap.size, 4, none⟩) (blk_set_ne (p := ⟨w.heap.size, 3, none⟩) (blk_set_ne (p := ⟨w.heap.size, 2, none⟩) (blk_set_ne (p := ⟨w.heap.size, 1, none⟩) (blk_set_ne (p := ⟨w.heap.size, 0, none⟩) (blk_set H2.out 9 _) hWr _) hWr _) hWr _) hWr _) hWr _) hWr _) hWr _) hWr _) hWr _) _).trans (by simp only [ls0, ls1, ls2]), ((MemAt.setne (MemAt.setne (MemAt.setne (MemAt.setne (MemAt.setne (MemAt.setne (MemAt.setne (MemAt.setne (MemAt.setne (MemAt.setne H3.out (p := ⟨R, 9, none⟩) hBW hDW _) (p := ⟨w.heap.size, 0, none⟩) hBr hD _) (p := ⟨w.heap.size, 1, none⟩) hBr hD _) (p := ⟨w.heap.size, 2, none⟩) hBr hD _) (p := ⟨w.heap.size, 3, none⟩) hBr hD _) (p := ⟨w.heap.size, 4, none⟩) hBr hD _) (p := ⟨w.heap.size, 5, none⟩) hBr hD _) (p := ⟨w.heap.size, 6, none⟩) hBr hD _) (p := ⟨w.heap.size, 7, none⟩) hBr hD _) (p := ⟨w.heap.size, 8, none⟩) hBr hD _).al _), (ButS.al (ButS.set' (ButS.set' (ButS.set' (ButS.set' (ButS.set' (ButS.set' (ButS.set' (ButS.set' (ButS.set' (ButS.set H4.out (p := ⟨R, 9, none⟩) HBS.out _) (p := ⟨w.heap.size, 0, none⟩) (.inr (Nat.le_refl _)) _) (p := ⟨w.heap.size, 1, none⟩) (.inr (Nat.le_refl _)) _) (p := ⟨w.heap.size, 2, none⟩) (.inr (Nat.le_refl _)) _) (p := ⟨w.heap.size, 3, none⟩) (.inr (Nat.le_refl _)) _) (p := ⟨w.heap.size, 4, none⟩) (.inr (Nat.le_refl _)) _) (p := ⟨w.heap.size, 5, none⟩) (.inr (Nat.le_refl _)) _) (p := ⟨w.heap.size, 6, none⟩) (.inr (Nat.le_refl _)) _) (p := ⟨w.heap.size, 7, none⟩) (.inr (Nat.le_refl _)) _) (p := ⟨w.heap.size, 8, none⟩) (.inr (Nat.le_refl _)) _) _)⟩
set_option maxRecDepth 100000 in
set_option maxHeartbeats 4000000 in
theorem rStep_genE (fn : FuncId) (hE : Enters fn) (R B D : Nat) (p : Plc) (ws' : List Int) (x y : Int) (lf sp : Int) (da : Option Addr) (dn dc : Nat) (x' y' lf' sp' : Int) (ga : Nat → Nat → Option Addr) (gn gc : Nat → Nat → Nat) (now : Int) (d0 : Bool) (d1 : Int) (fa : Nat → Nat → Option Addr) (fn9 fc : Nat → Nat → Nat) (d3 : Bool) (d4 : Int) (d5 d6 d7 : Bool) (d8 : Int) (fn2 : FuncId) (w : World) (hbD : R < w.heap.size ∧ D < w.heap.size) (hW : w.heap[R]? = some (.cells #[.int .i64 p.src, .int .i64 p.rd, .int .i64 p.words, .int .i64 p.period, .int .u32 x, .int .u32 y, .int .i64 lf, .int .u32 sp, .slice da dn dc, .func (.func fn) #[.pointer (some ⟨R, 0, none⟩)] #[]] 119 (0, 0)))
    (hS : w.heap.size ∉ (R :: D :: (Value.slice da dn dc).ownBlock.toList)) (hbS : R ∈ (R :: D :: (Value.slice da dn dc).ownBlock.toList)) (Q : Nat → Nat → World → Prop) (hQ : ∀ g cap w2 w3, Q g cap w2 → ButS [R, w.heap.size] w2 w3 → Q g cap w3)
    (hact : ∀ w1, Below w.heap.size w w1 → Calls Tryz.prog fn #[.pointer (some ⟨R, 0, none⟩), .pointer (some ⟨B, 0, none⟩), .int .i64 now] w1 fun e w2 => ∃ g cap, e = .returned (.tuple #[.agg #[.bool d0, .int .i64 d1, .slice (fa g cap) (fn9 g cap) (fc g cap), .bool d3, .int .i64 d4, .bool d5, .bool d6, .bool d7, .int .i64 d8], .func (.func fn2) #[.pointer (some ⟨R, 0, none⟩)] #[]]) ∧ w2.heap[R]? = some (.cells #[.int .i64 p.src, .int .i64 p.rd, .int .i64 p.words, .int .i64 p.period, .int .u32 x', .int .u32 y', .int .i64 lf', .int .u32 sp', .slice (ga g cap) (gn g cap) (gc g cap), .func (.func fn) #[.pointer (some ⟨R, 0, none⟩)] #[]] 119 (0, 0)) ∧ MemAt w2 B D ws' ∧ ButS (R :: D :: (Value.slice da dn dc).ownBlock.toList) w1 w2 ∧ Q g cap w2) :
    Calls Tryz.prog 27 #[.pointer (some ⟨R, 0, none⟩), .pointer (some ⟨B, 0, none⟩), .int .i64 now] w fun e w' =>
    ∃ g cap, e = .returned (.agg #[.bool d0, .int .i64 d1, .slice (fa g cap) (fn9 g cap) (fc g cap), .bool d3, .int .i64 d4, .bool d5, .bool d6, .bool d7, .int .i64 d8]) ∧ w'.heap[R]? = some (.cells #[.int .i64 p.src, .int .i64 p.rd, .int .i64 p.words, .int .i64 p.period, .int .u32 x', .int .u32 y', .int .i64 lf', .int .u32 sp', .slice (ga g cap) (gn g cap) (gc g cap), .func (.func fn2) #[.pointer (some ⟨R, 0, none⟩)] #[]] 119 (0, 0)) ∧ MemAt w' B D ws' ∧ ButS (R :: D :: (Value.slice da dn dc).ownBlock.toList) w w' ∧ Q g cap w' := by
  have HA := Kp.mk hact
  have hE' := hE.out
  have qF := fun (w : World) fn fi ca => run_eql_func_nil (P := Tryz.prog) w 115 fn fi ca Tryz.underlying115
  have lW := hbD.1
  have c9 := cbk hW 9 (.func (.func fn) #[.pointer (some ⟨R, 0, none⟩)] #[]) rfl
  have hWr : R ≠ w.heap.size := by omega
  have HS := Kp.mk hS
  have HBS := Kp.mk hbS
  clear hact hW hS hE hbS
  go_enter Tryz.func27, Tryz.ntmps27
  go_wp2_with fail
  refine (HA.out _ (below_al (Below.refl _ _) _)).mono ?_
  rintro e w2 ⟨g, cap, rfl, h2, h3, h4, hQ2⟩
  have HQ := Kp.mk hQ
  have HQ2 := Kp.mk hQ2
  clear hQ hQ2
  have HR : Kp (w2.heap[w.heap.size]? = some (.cells #[.bool false, .int .i64 0, .slice none 0 0, .bool false, .int .i64 0, .bool false, .bool false, .bool false, .int .i64 0] 64 (0, 0))) := ⟨h4.blk (blk_new w _) HS.out⟩
  have H2 := Kp.mk h2
  have H3 := Kp.mk h3
  have H4 : Kp (ButS (R :: D :: (Value.slice da dn dc).ownBlock.toList) w w2) := ⟨(ButS.of_below (below_al (Below.refl _ _) _)).trans h4⟩
  have hsz : w.heap.size + 1 ≤ w2.heap.size := by simpa using h4.size
  have hD : D ≠ w.heap.size := by have := hbD.2; omega
  have lB2 := blk_lt h3.head
  have lD2 := blk_lt h3.words
  have hBr : B ≠ w.heap.size := by
    rintro rfl
    have h5 := h3.head
    rw [HR.out] at h5
    simp at h5
  have hBW : B ≠ R := by
    rintro rfl
    have h5 := h3.head
    rw [h2] at h5
    simp at h5
  have hDW : D ≠ R := by
    rintro rfl
    have h5 := h3.words
    rw [h2] at h5
    simp at h5
  have d9 := cbk H2.out 9 (.func (.func fn) #[.pointer (some ⟨R, 0, none⟩)] #[]) rfl
  have f9 := frozen_blk H2.out 9
  have l9 := blk_lt H2.out
  have q0 := cbk HR.out 0 (.bool false) rfl
  have qf0 := frozen_blk HR.out 0
  have q1 := cbk HR.out 1 (.int .i64 0) rfl
  have qf1 := frozen_blk HR.out 1
  have q2 := cbk HR.out 2 (.slice none 0 0) rfl
  have qf2 := frozen_blk HR.out 2
  have q3 := cbk HR.out 3 (.bool false) rfl
  have qf3 := frozen_blk HR.out 3
  have q4 := cbk HR.out 4 (.int .i64 0) rfl
  have qf4 := frozen_blk HR.out 4
  have q5 := cbk HR.out 5 (.bool false) rfl
  have qf5 := frozen_blk HR.out 5
  have q6 := cbk HR.out 6 (.bool false) rfl
  have qf6 := frozen_blk HR.out 6
  have q7 := cbk HR.out 7 (.bool false) rfl
  have qf7 := frozen_blk HR.out 7
  have q8 := cbk HR.out 8 (.int .i64 0) rfl
  have qf8 := frozen_blk HR.out 8
  have ql := blk_lt HR.out
  clear h2 h3 h4 c9
  go_wp2
  refine bodyPost_ret (v := .agg #[.bool d0, .int .i64 d1, .slice (fa g cap) (fn9 g cap) (fc g cap), .bool d3, .int .i64 d4, .bool d5, .bool d6, .bool d7, .int .i64 d8]) (results_cell_row rfl _ _ w.heap.size 64 #[.bool d0, .int .i64 d1, .slice (fa g cap) (fn9 g cap) (fc g cap), .bool d3, .int .i64 d4, .bool d5, .bool d6, .bool d7, .int .i64 d8] (0, 0) _ (by go_simp) ((blk_al (blk_set (blk_set (blk_set (blk_set (blk_set (blk_set (blk_set (blk_set (blk_set (blk_set_ne (p := ⟨R, 9, none⟩) HR.out hWr.symm _) 0 _) 1 _) 2 _) 3 _) 4 _) 5 _) 6 _) 7 _) 8 _) _).trans (by simp only [ls0, ls1, ls2])) Tryz.underlying64 rfl (by kernel_rfl)) rfl ⟨g, cap, rfl, (blk_al (blk_set_ne (p := ⟨w.heap.size, 8, none⟩) (blk_set_ne (p := ⟨w.heap.size, 7, none⟩) (blk_set_ne (p := ⟨w.heap.size, 6, none⟩) (blk_set_ne (p := ⟨w.heap.size, 5, none⟩) (blk_set_ne (p := ⟨w.heap.size, 4, none⟩) (blk_set_ne (p := ⟨w.heap.size, 3, none⟩) (blk_set_ne (p := ⟨w.heap.size, 2, none⟩) (blk_set_ne (p := ⟨w.heap.size, 1, none⟩) (blk_set_ne (p := ⟨w.heap.size, 0, none⟩) (blk_set H2.out 9 _) hWr _) hWr _) hWr _) hWr _) hWr _) hWr _) hWr _) hWr _) hWr _) _).trans (by simp only [ls0, ls1, ls2]), ((MemAt.setne (MemAt.setne (MemAt.setne (MemAt.setne (MemAt.setne (MemAt.setne (MemAt.setne (MemAt.setne (MemAt.setne (MemAt.setne H3.out (p := ⟨R, 9, none⟩) hBW hDW _) (p := ⟨w.heap.size, 0, none⟩) hBr hD _) (p := ⟨w.heap.size, 1, none⟩) hBr hD _) (p := ⟨w.heap.size, 2, none⟩) hBr hD _) (p := ⟨w.heap.size, 3, none⟩) hBr hD _) (p := ⟨w.heap.size, 4, none⟩) hBr hD _) (p := ⟨w.heap.size, 5, none⟩) hBr hD _) (p := ⟨w.heap.size, 6, none⟩) hBr hD _) (p := ⟨w.heap.size, 7, none⟩) hBr hD _) (p := ⟨w.heap.size, 8, none⟩) hBr hD _).al _), (ButS.al (ButS.set' (ButS.set' (ButS.set' (ButS.set' (ButS.set' (ButS.set' (ButS.set' (ButS.set' (ButS.set' (ButS.set H4.out (p := ⟨R, 9, none⟩) HBS.out _) (p := ⟨w.heap.size, 0, none⟩) (.inr (Nat.le_refl _)) _) (p := ⟨w.heap.size, 1, none⟩) (.inr (Nat.le_refl _)) _) (p := ⟨w.heap.size, 2, none⟩) (.inr (Nat.le_refl _)) _) (p := ⟨w.heap.size, 3, none⟩) (.inr (Nat.le_refl _)) _) (p := ⟨w.heap.size, 4, none⟩) (.inr (Nat.le_refl _)) _) (p := ⟨w.heap.size, 5, none⟩) (.inr (Nat.le_refl _)) _) (p := ⟨w.heap.size, 6, none⟩) (.inr (Nat.le_refl _)) _) (p := ⟨w.heap.size, 7, none⟩) (.inr (Nat.le_refl _)) _) (p := ⟨w.heap.size, 8, none⟩) (.inr (Nat.le_refl _)) _) _), HQ.out _ _ _ _ HQ2.out (ButS.al (ButS.set (ButS.set (ButS.set (ButS.set (ButS.set (ButS.set (ButS.set (ButS.set (ButS.set (ButS.set (ButS.refl [R, w.heap.size] w2) (p := ⟨R, 9, none⟩) (by simp) _) (p := ⟨w.heap.size, 0, none⟩) (by simp) _) (p := ⟨w.heap.size, 1, none⟩) (by simp) _) (p := ⟨w.heap.size, 2, none⟩) (by simp) _) (p := ⟨w.heap.size, 3, none⟩) (by simp) _) (p := ⟨w.heap.size, 4, none⟩) (by simp) _) (p := ⟨w.heap.size, 5, none⟩) (by simp) _) (p := ⟨w.heap.size, 6, none⟩) (by simp) _) (p := ⟨w.heap.size, 7, none⟩) (by simp) _) (p := ⟨w.heap.size, 8, none⟩) (by simp) _) _)⟩
set_option maxRecDepth 100000 in
set_option maxHeartbeats 4000000 in
theorem rStep_genEN (fn : FuncId) (hE : Enters fn) (R B D : Nat) (p : Plc) (ws' : List Int) (x y : Int) (lf sp : Int) (da : Option Addr) (dn dc : Nat) (x' y' lf' sp' : Int) (ga : Nat → Nat → Option Addr) (gn gc : Nat → Nat → Nat) (now : Int) (d0 : Bool) (d1 : Int) (fa : Nat → Nat → Option Addr) (fn9 fc : Nat → Nat → Nat) (d3 : Bool) (d4 : Int) (d5 d6 d7 : Bool) (d8 : Int) (w : World) (hbD : R < w.heap.size ∧ D < w.heap.size) (hW : w.heap[R]? = some (.cells #[.int .i64 p.src, .int .i64 p.rd, .int .i64 p.words, .int .i64 p.period, .int .u32 x, .int .u32 y, .int .i64 lf, .int .u32 sp, .slice da dn dc, .func (.func fn) #[.pointer (some ⟨R, 0, none⟩)] #[]] 119 (0, 0)))
    (hS : w.heap.size ∉ (R :: D :: (Value.slice da dn dc).ownBlock.toList)) (hbS : R ∈ (R :: D :: (Value.slice da dn dc).ownBlock.toList)) (Q : Nat → Nat → World → Prop) (hQ : ∀ g cap w2 w3, Q g cap w2 → ButS [R, w.heap.size] w2 w3 → Q g cap w3)
    (hact : ∀ w1, Below w.heap.size w w1 → Calls Tryz.prog fn #[.pointer (some ⟨R, 0, none⟩), .pointer (some ⟨B, 0, none⟩), .int .i64 now] w1 fun e w2 => ∃ g cap, e = .returned (.tuple #[.agg #[.bool d0, .int .i64 d1, .slice (fa g cap) (fn9 g cap) (fc g cap), .bool d3, .int .i64 d4, .bool d5, .bool d6, .bool d7, .int .i64 d8], .nilFunc]) ∧ w2.heap[R]? = some (.cells #[.int .i64 p.src, .int .i64 p.rd, .int .i64 p.words, .int .i64 p.period, .int .u32 x', .int .u32 y', .int .i64 lf', .int .u32 sp', .slice (ga g cap) (gn g cap) (gc g cap), .func (.func fn) #[.pointer (some ⟨R, 0, none⟩)] #[]] 119 (0, 0)) ∧ MemAt w2 B D ws' ∧ ButS (R :: D :: (Value.slice da dn dc).ownBlock.toList) w1 w2 ∧ Q g cap w2) :
    Calls Tryz.prog 27 #[.pointer (some ⟨R, 0, none⟩), .pointer (some ⟨B, 0, none⟩), .int .i64 now] w fun e w' =>
    ∃ g cap, e = .returned (.agg #[.bool d0, .int .i64 d1, .slice (fa g cap) (fn9 g cap) (fc g cap), .bool d3, .int .i64 d4, .bool d5, .bool d6, .bool d7, .int .i64 d8]) ∧ w'.heap[R]? = some (.cells #[.int .i64 p.src, .int .i64 p.rd, .int .i64 p.words, .int .i64 p.period, .int .u32 x', .int .u32 y', .int .i64 lf', .int .u32 sp', .slice (ga g cap) (gn g cap) (gc g cap), .nilFunc] 119 (0, 0)) ∧ MemAt w' B D ws' ∧ ButS (R :: D :: (Value.slice da dn dc).ownBlock.toList) w w' ∧ Q g cap w' := by
  have HA := Kp.mk hact
  have hE' := hE.out
  have qF := fun (w : World) fn fi ca => run_eql_func_nil (P := Tryz.prog) w 115 fn fi ca Tryz.underlying115
  have lW := hbD.1
  have c9 := cbk hW 9 (.func (.func fn) #[.pointer (some ⟨R, 0, none⟩)] #[]) rfl
  have hWr : R ≠ w.heap.size := by omega
  have HS := Kp.mk hS
  have HBS := Kp.mk hbS
  clear hact hW hS hE hbS
  go_enter Tryz.func27, Tryz.ntmps27
  go_wp2_with fail
  refine (HA.out _ (below_al (Below.refl _ _) _)).mono ?_
  rintro e w2 ⟨g, cap, rfl, h2, h3, h4, hQ2⟩
  have HQ := Kp.mk hQ
  have HQ2 := Kp.mk hQ2
  clear hQ hQ2
  have HR : Kp (w2.heap[w.heap.size]? = some (.cells #[.bool false, .int .i64 0, .slice none 0 0, .bool false, .int .i64 0, .bool false, .bool false, .bool false, .int .i64 0] 64 (0, 0))) := ⟨h4.blk (blk_new w _) HS.out⟩
  have H2 := Kp.mk h2
  have H3 := Kp.mk h3
  have H4 : Kp (ButS (R :: D :: (Value.slice da dn dc).ownBlock.toList) w w2) := ⟨(ButS.of_below (below_al (Below.refl _ _) _)).trans h4⟩
  have hsz : w.heap.size + 1 ≤ w2.heap.size := by simpa using h4.size
  have hD : D ≠ w.heap.size := by have := hbD.2; omega
  have lB2 := blk_lt h3.head
  have lD2 := blk_lt h3.words
  have hBr : B ≠ w.heap.size := by
    rintro rfl
    have h5 := h3.head
    rw [HR.out] at h5
    simp at h5
  have hBW : B ≠ R := by
    rintro rfl
    have h5 := h3.head
    rw [h2] at h5
    simp at h5
  have hDW : D ≠ R := by
    rintro rfl
    have h5 := h3.words
    rw [h2] at h5
    simp at h5
  have d9 := cbk H2.out 9 (.func (.func fn) #[.pointer (some ⟨R, 0, none⟩)] #[]) rfl
  have f9 := frozen_blk H2.out 9
  have l9 := blk_lt H2.out
  have q0 := cbk HR.out 0 (.bool false) rfl
  have qf0 := frozen_blk HR.out 0
  have q1 := cbk HR.out 1 (.int .i64 0) rfl
  have qf1 := frozen_blk HR.out 1
  have q2 := cbk HR.out 2 (.slice none 0 0) rfl
  have qf2 := frozen_blk HR.out 2
  have q3 := cbk HR.out 3 (.bool false) rfl
  have qf3 := frozen_blk HR.out 3
  have q4 := cbk HR.out 4 (.int .i64 0) rfl
  have qf4 := frozen_blk HR.out 4
  have q5 := cbk HR.out 5 (.bool false) rfl
  have qf5 := frozen_blk HR.out 5
  have q6 := cbk HR.out 6 (.bool false) rfl
  have qf6 := frozen_blk HR.out 6
  have q7 := cbk HR.out 7 (.bool false) rfl
  have qf7 := frozen_blk HR.out 7
  have q8 := cbk HR.out 8 (.int .i64 0) rfl
  have qf8 := frozen_blk HR.out 8
  have ql := blk_lt HR.out
  clear h2 h3 h4 c9
  go_wp2
  refine bodyPost_ret (v := .agg #[.bool d0, .int .i64 d1, .slice (fa g cap) (fn9 g cap) (fc g cap), .bool d3, .int .i64 d4, .bool d5, .bool d6, .bool d7, .int .i64 d8]) (results_cell_row rfl _ _ w.heap.size 64 #[.bool d0, .int .i64 d1, .slice (fa g cap) (fn9 g cap) (fc g cap), .bool d3, .int .i64 d4, .bool d5, .bool d6, .bool d7, .int .i64 d8] (0, 0) _ (by go_simp) ((blk_al (blk_set (blk_set (blk_set (blk_set (blk_set (blk_set (blk_set (blk_set (blk_set (blk_set_ne (p := ⟨R, 9, none⟩) HR.out hWr.symm _) 0 _) 1 _) 2 _) 3 _) 4 _) 5 _) 6 _) 7 _) 8 _) _).trans (by simp only [ls0, ls1, ls2])) Tryz.underlying64 rfl (by kernel_rfl)) rfl ⟨g, cap, rfl, (blk_al (blk_set_ne (p := ⟨w.heap.size, 8, none⟩) (blk_set_ne (p := ⟨w.heap.size, 7, none⟩) (blk_set_ne (p := ⟨w.heap.size, 6, none⟩) (blk_set_ne (p := ⟨w.heap.size, 5, none⟩) (blk_set_ne (p := ⟨w.heap.size, 4, none⟩) (blk_set_ne (p := ⟨w.heap.size, 3, none⟩) (blk_set_ne (p := ⟨w.heap.size, 2, none⟩) (blk_set_ne (p := ⟨w.heap.size, 1, none⟩) (blk_set_ne (p := ⟨w.heap.size, 0, none⟩) (blk_set H2.out 9 _) hWr _) hWr _) hWr _) hWr _) hWr _) hWr _) hWr _) hWr _) hWr _) _).trans (by simp only [ls0, ls1, ls2]), ((MemAt.setne (MemAt.setne (MemAt.setne (MemAt.setne (MemAt.setne (MemAt.setne (MemAt.setne (MemAt.setne (MemAt.setne (MemAt.setne H3.out (p := ⟨R, 9, none⟩) hBW hDW _) (p := ⟨w.heap.size, 0, none⟩) hBr hD _) (p := ⟨w.heap.size, 1, none⟩) hBr hD _) (p := ⟨w.heap.size, 2, none⟩) hBr hD _) (p := ⟨w.heap.size, 3, none⟩) hBr hD _) (p := ⟨w.heap.size, 4, none⟩) hBr hD _) (p := ⟨w.heap.size, 5, none⟩) hBr hD _) (p := ⟨w.heap.size, 6, none⟩) hBr hD _) (p := ⟨w.heap.size, 7, none⟩) hBr hD _) (p := ⟨w.heap.size, 8, none⟩) hBr hD _).al _), (ButS.al (ButS.set' (ButS.set' (ButS.set' (ButS.set' (ButS.set' (ButS.set' (ButS.set' (ButS.set' (ButS.set' (ButS.set H4.out (p := ⟨R, 9, none⟩) HBS.out _) (p := ⟨w.heap.size, 0, none⟩) (.inr (Nat.le_refl _)) _) (p := ⟨w.heap.size, 1, none⟩) (.inr (Nat.le_refl _)) _) (p := ⟨w.heap.size, 2, none⟩) (.inr (Nat.le_refl _)) _) (p := ⟨w.heap.size, 3, none⟩) (.inr (Nat.le_refl _)) _) (p := ⟨w.heap.size, 4, none⟩) (.inr (Nat.le_refl _)) _) (p := ⟨w.heap.size, 5, none⟩) (.inr (Nat.le_refl _)) _) (p := ⟨w.heap.size, 6, none⟩) (.inr (Nat.le_refl _)) _) (p := ⟨w.heap.size, 7, none⟩) (.inr (Nat.le_refl _)) _) (p := ⟨w.heap.size, 8, none⟩) (.inr (Nat.le_refl _)) _) _), HQ.out _ _ _ _ HQ2.out (ButS.al (ButS.set (ButS.set (ButS.set (ButS.set (ButS.set (ButS.set (ButS.set (ButS.set (ButS.set (ButS.set (ButS.refl [R, w.heap.size] w2) (p := ⟨R, 9, none⟩) (by simp) _) (p := ⟨w.heap.size, 0, none⟩) (by simp) _) (p := ⟨w.heap.size, 1, none⟩) (by simp) _) (p := ⟨w.heap.size, 2, none⟩) (by simp) _) (p := ⟨w.heap.size, 3, none⟩) (by simp) _) (p := ⟨w.heap.size, 4, none⟩) (by simp) _) (p := ⟨w.heap.size, 5, none⟩) (by simp) _) (p := ⟨w.heap.size, 6, none⟩) (by simp) _) (p := ⟨w.heap.size, 7, none⟩) (by simp) _) (p := ⟨w.heap.size, 8, none⟩) (by simp) _) _)⟩
set_option maxRecDepth 100000 in
set_option maxHeartbeats 1000000 in
theorem rstep_nil (R B : Nat) (p : Plc) (da : Option Addr) (dn dc : Nat) (x y : Int) (lf sp : Int) (now : Int) (w : World) (hW : w.heap[R]? = some (.cells #[.int .i64 p.src, .int .i64 p.rd, .int .i64 p.words, .int .i64 p.period, .int .u32 x, .int .u32 y, .int .i64 lf, .int .u32 sp, .slice da dn dc, .nilFunc] 119 (0, 0))) : Calls Tryz.prog 27 #[.pointer (some ⟨R, 0, none⟩), .pointer (some ⟨B, 0, none⟩), .int .i64 now] w fun e w' => e = .returned (.agg #[.bool false, .int .i64 0, .slice none 0 0, .bool false, .int .i64 0, .bool false, .bool false, .bool false, .int .i64 0]) ∧ Below w.heap.size w w' := by
  have c9 : w.cell? ⟨R, 9, none⟩ = some .nilFunc := (cell_blk hW 9).trans rfl
  have l9 := blk_lt hW
  have qF := fun (w : World) => run_eql_func_nn (P := Tryz.prog) w 115 Tryz.underlying115
  clear hW
  go_enter Tryz.func27, Tryz.ntmps27
  go_wp2
  exact bodyPost_ret (v := .agg #[.bool false, .int .i64 0, .slice none 0 0, .bool false, .int .i64 0, .bool false, .bool false, .bool false, .int .i64 0]) (results_cell_row rfl _ _ _ _ _ _ _ rfl (blk_new _ _) Tryz.underlying64 rfl (by kernel_rfl)) rfl ⟨rfl, below_al (Below.refl _ _) _⟩
set_option maxRecDepth 100000 in
set_option maxHeartbeats 4000000 in
theorem newReader_any (cv : Value) (C : Cfg) (hsm : C.small) (k : Nat) (hk : k < C.chans.length) (x : Chn) (hx : C.chans[k] = x) (s1 s2 d1 d2 : Int) (hs : srcB C k = (s1, s2)) (hd : dstB C k = (d1, d2)) (w : World) (h : CfgAt w cv C) :
    Calls Tryz.prog 24 #[cv, .int .i64 k] w fun e w' => ∃ R, e = .returned (.pointer (some ⟨R, 0, none⟩)) ∧ Kp (RdAt w' R (R + 1) ⟨s1, d1, x.words, x.period⟩ rdr0 none 0) ∧ Below w.heap.size w w' ∧ w.heap.size ≤ R := by
  have HC := Kp.mk h
  have HS := Kp.mk hs
  have HD := Kp.mk hd
  have HX := Kp.mk hx
  obtain ⟨ho, pa, pc, ca, cc, a0, c0, a1, c1, rfl, bp, bc, b0, b1, hp, hc, hw0, hw1⟩ := h
  clear ho hp hw0 hw1 hs hd hc hx
  go_enter Tryz.func24, Tryz.ntmps24
  have HB0 : Kp (Below w.heap.size w w) := ⟨Below.refl _ _⟩
  go_wp2_with fail
  refine (of_any4 _ C hsm k hk x HX.out s1 s2 d1 d2 HS.out HD.out _ (HC.out.below (below_al HB0.out _))).mono ?_
  rintro e w1 ⟨rfl, hb⟩
  have q1 : Kp (w1.heap[w.heap.size]? = some (.cells #[.slice pa C.parts.length pc, .slice ca C.chans.length cc, .int .i64 C.l0, .slice a0 C.w0.length c0, .int .i64 C.l1, .slice a1 C.w1.length c1] 31 (0, 0))) := ⟨blk_below (blk_new _ _) hb⟩
  have HB1 : Kp (Below w.heap.size w w1) := ⟨below_call (below_al HB0.out _) hb⟩
  clear HB0 hb
  go_wp2
  go_ret
  exact ⟨_, rfl, ⟨⟨(blk_new _ _).trans rfl, ⟨by simp [rdr0, u32s], .inl ⟨rfl, rfl⟩⟩, Nat.lt_succ_self _, by simp⟩⟩, (below_al HB1.out _), HB1.out.size⟩
end Go.Proofs.YtmidcnfmphlneaaGreat

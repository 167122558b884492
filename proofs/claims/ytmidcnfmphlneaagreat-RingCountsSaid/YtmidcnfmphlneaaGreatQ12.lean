/- Contracts of package ring: a word loaded, a word stored, the refusal, the places.; Contracts of package four: the reader's steps. -/
import Derived.Test.YtmidcnfmphlneaaGreatQ0
import Derived.Test.YtmidcnfmphlneaaGreatQ11
import Derived.Test.YtmidcnfmphlneaaGreatQ2
namespace Go.Proofs.YtmidcnfmphlneaaGreat
section
open Go.RowKit
set_option linter.unusedSimpArgs false
set_option linter.unusedVariables false
structure Qu where
  (k tail head cell words deep : Int)
def Qu.cells (q : Qu) : Array Value := #[.int .i64 q.k, .int .i64 q.tail, .int .i64 q.head, .int .i64 q.cell, .int .i64 q.words, .int .i64 q.deep]
structure Qu.ok (q : Qu) (n : Nat) : Prop where
  k : 0 ≤ q.k ∧ q.k ≤ 200
  tail : 0 ≤ q.tail ∧ q.tail < n
  head : 0 ≤ q.head ∧ q.head < n
  cell : 0 ≤ q.cell ∧ q.cell + 1 + q.words ≤ n
  words : 1 ≤ q.words ∧ q.words ≤ 16
  deep : 1 ≤ q.deep ∧ q.deep ≤ 8
set_option maxHeartbeats 1000000 in
theorem rgload_any (B BB D : Nat) (ws : List Int) (a : Int) (h0 : 0 ≤ a) (h1 : a < ws.length) (w : World) (h : MemAt w B D ws) : Calls Tryz.prog 61 #[.agg #[.pointer (some ⟨B, 0, none⟩), .pointer (some ⟨BB, 0, none⟩)], .int .i64 a] w fun e w' => e = .returned (.int .u32 (ldW ws a)) ∧ Below w.heap.size w w' := by
  obtain ⟨i, rfl⟩ := Int.eq_ofNat_of_zero_le h0
  have hi : i < ws.length := by omega
  have hl := h.len
  have HV : Kp (ldW ws (i : Int) = ws[i]) := ⟨by rw [ldW, Int.toNat_natCast, List.getD_eq_getElem?_getD, List.getElem?_eq_getElem hi]; rfl⟩
  have v1 : IntKind.u64.wrap (i : Int) = i := IntWalk.u64_in _ (by omega)
  have H := Kp.mk h
  clear h
  go_enter Tryz.func61, Tryz.ntmps61
  go_wp2_with fail
  refine (memLoad_in B D ws i hi _ (H.out.al _)).mono ?_
  rintro e w1 ⟨rfl, rfl⟩
  go_wp2
  go_ret
  exact ⟨by rw [HV.out]; rfl, below_al (Below.refl _ _) _⟩
set_option maxHeartbeats 1000000 in
theorem rgstore_any (B BB D : Nat) (ws : List Int) (a v : Int) (h0 : 0 ≤ a) (h1 : a < ws.length) (w : World) (h : MemAt w B D ws) : Calls Tryz.prog 66 #[.agg #[.pointer (some ⟨B, 0, none⟩), .pointer (some ⟨BB, 0, none⟩)], .int .i64 a, .int .u32 v] w fun e w' => (∃ r, e = .returned r) ∧ MemAt w' B D (stW ws a v) ∧ ButS [D] w w' := by
  obtain ⟨i, rfl⟩ := Int.eq_ofNat_of_zero_le h0
  have hi : i < ws.length := by omega
  have hl := h.len
  have v1 : IntKind.u64.wrap (i : Int) = i := IntWalk.u64_in _ (by omega)
  have H := Kp.mk h
  clear h
  go_enter Tryz.func66, Tryz.ntmps66
  go_wp2_with fail
  refine (memStore_in B D ws i v hi _ (H.out.al _)).mono ?_
  rintro e w1 ⟨rfl, rfl⟩
  go_wp2
  go_end0
  exact ⟨⟨_, rfl⟩, by rw [stW, Int.toNat_natCast]; exact (H.out.al _).set i v, (ButS.al (ButS.refl _ _) _).set (p := ⟨D, i, none⟩) (by simp) _⟩
set_option maxHeartbeats 1000000 in
theorem refused_any (w : World) : Calls Tryz.prog 63 #[] w fun e w' => e = .returned (.agg #[.bool true, .int .i64 2, .slice none 0 0, .bool false, .int .i64 0, .bool true, .bool false, .bool false, .int .i64 0]) ∧ Below w.heap.size w w' := by
  go_enter Tryz.func63, Tryz.ntmps63
  have HB0 : Kp (Below w.heap.size w w) := ⟨Below.refl _ _⟩
  go_wp2
  exact bodyPost_ret (v := .agg #[.bool true, .int .i64 2, .slice none 0 0, .bool false, .int .i64 0, .bool true, .bool false, .bool false, .int .i64 0]) (results_cell_row rfl _ _ _ _ _ _ _ rfl (blk_new w _) Tryz.underlying64 rfl (by kernel_rfl)) rfl ⟨rfl, below_al (Below.refl _ _) _⟩
set_option maxRecDepth 100000 in
set_option maxHeartbeats 4000000 in
theorem rgof_any (cv : Value) (C : Cfg) (hsm : C.small) (k : Nat) (hk : k < C.chans.length) (x : Chn) (hx : C.chans[k] = x) (own : Int) (hown : 0 ≤ own ∧ own < 4294967296) (hdp : 1 ≤ x.depth ∧ x.depth ≤ 8) (s1 s2 d1 d2 l1 l2 : Int) (hs : srcB C k = (s1, s2)) (hd : dstB C k = (d1, d2)) (hcl : cellB C k (own % x.depth) = (l1, l2)) (w : World) (h : CfgAt w cv C) : Calls Tryz.prog 59 #[cv, .int .i64 k, .int .u32 own] w fun e w' => e = .returned (.agg #[.int .i64 k, .int .i64 s1, .int .i64 d1, .int .i64 l1, .int .i64 x.words, .int .i64 x.depth]) ∧ Below w.heap.size w w' := by
  have HC := Kp.mk h
  have HS := Kp.mk hs
  have HD := Kp.mk hd
  have HCL := Kp.mk hcl
  have hfd := spn_field0
  have v1 : IntKind.u32.wrap x.depth = x.depth := IntWalk.u32_in _ (by omega)
  have v2 : Int.tmod own x.depth = own % x.depth := Int.tmod_eq_emod_of_nonneg hown.1
  obtain ⟨m, hm⟩ : ∃ m, own % x.depth = m := ⟨_, rfl⟩
  have hm8 : 0 ≤ m ∧ m < 8 := by rw [← hm]; exact ⟨Int.emod_nonneg _ (by omega), by have := Int.emod_lt_of_pos own (show 0 < x.depth by omega); omega⟩
  have v3 : IntKind.u32.wrap m = m := IntWalk.u32_in _ (by omega)
  have v4 : IntKind.i64.wrap m = m := IntWalk.i64_in _ (by omega)
  have v5 : ¬ x.depth = 0 := by omega
  rw [hm] at v2 HCL
  clear hm
  obtain ⟨ho, pa, pc, ca, cc, a0, c0, a1, c1, rfl, bp, bc, b0, b1, hp, hc, hw0, hw1⟩ := h
  clear ho hp hw0 hw1 hs hd hcl
  obtain ⟨g, o, rfl, hg, hcc⟩ := hc.at (by omega)
  have HK : Kp (∀ j, j < 7 → w.cell? ⟨g, o + k * 7 + j, none⟩ = (chanC x)[j]?) := ⟨fun j hj => by
    have h1 := hcc (k * 7 + j) (by omega)
    rw [flat_at chanC 7 chanC_len C.chans k j hk hj, hx] at h1
    rw [Nat.add_assoc]
    exact h1⟩
  have hki : (k : Int) < (C.chans.length : Int) := by omega
  have hkn : (0 : Int) ≤ (k : Int) := by omega
  have e0 : w.cell? ⟨g, o + k * 7, none⟩ = some (.int .i64 x.kind) := HK.out 0 (by omega)
  have e1 : w.cell? ⟨g, o + k * 7 + 1, none⟩ = some (.int .i64 x.frm) := HK.out 1 (by omega)
  have e2 : w.cell? ⟨g, o + k * 7 + 2, none⟩ = some (.int .i64 x.to) := HK.out 2 (by omega)
  have e3 : w.cell? ⟨g, o + k * 7 + 3, none⟩ = some (.int .i64 x.words) := HK.out 3 (by omega)
  have e4 : w.cell? ⟨g, o + k * 7 + 4, none⟩ = some (.int .i64 x.depth) := HK.out 4 (by omega)
  have e5 : w.cell? ⟨g, o + k * 7 + 5, none⟩ = some (.int .i64 x.period) := HK.out 5 (by omega)
  have e6 : w.cell? ⟨g, o + k * 7 + 6, none⟩ = some (.int .u32 x.boot) := HK.out 6 (by omega)
  clear hcc hx hc
  go_enter Tryz.func59, Tryz.ntmps59
  have HB0 : Kp (Below w.heap.size w w) := ⟨Below.refl _ _⟩
  go_wp2_with fail
  have q1 : Kp ((((w.alloc (.cells #[.slice pa C.parts.length pc, .slice (some ⟨g, o, none⟩) C.chans.length cc, .int .i64 C.l0, .slice a0 C.w0.length c0, .int .i64 C.l1, .slice a1 C.w1.length c1] 31)).alloc (.cells #[.int .i64 0, .int .i64 0, .int .i64 0, .int .i64 0, .int .i64 0, .int .i64 0] 124)).alloc (.cells #[.int .i64 x.kind, .int .i64 x.frm, .int .i64 x.to, .int .i64 x.words, .int .i64 x.depth, .int .i64 x.period, .int .u32 x.boot] 52)).heap[w.heap.size]? = some (.cells #[.slice pa C.parts.length pc, .slice (some ⟨g, o, none⟩) C.chans.length cc, .int .i64 C.l0, .slice a0 C.w0.length c0, .int .i64 C.l1, .slice a1 C.w1.length c1] 31 (0, 0))) := ⟨(blk_al (blk_al (blk_new _ _) _) _)⟩
  have r1 : Kp ((((w.alloc (.cells #[.slice pa C.parts.length pc, .slice (some ⟨g, o, none⟩) C.chans.length cc, .int .i64 C.l0, .slice a0 C.w0.length c0, .int .i64 C.l1, .slice a1 C.w1.length c1] 31)).alloc (.cells #[.int .i64 0, .int .i64 0, .int .i64 0, .int .i64 0, .int .i64 0, .int .i64 0] 124)).alloc (.cells #[.int .i64 x.kind, .int .i64 x.frm, .int .i64 x.to, .int .i64 x.words, .int .i64 x.depth, .int .i64 x.period, .int .u32 x.boot] 52)).heap[w.heap.size + 1]? = some (.cells #[.int .i64 0, .int .i64 0, .int .i64 0, .int .i64 0, .int .i64 0, .int .i64 0] 124 (0, 0))) := ⟨(blk_al (blk_at (w := (w.alloc (.cells #[.slice pa C.parts.length pc, .slice (some ⟨g, o, none⟩) C.chans.length cc, .int .i64 C.l0, .slice a0 C.w0.length c0, .int .i64 C.l1, .slice a1 C.w1.length c1] 31))) (by simp) _) _)⟩
  have x1 : Kp ((((w.alloc (.cells #[.slice pa C.parts.length pc, .slice (some ⟨g, o, none⟩) C.chans.length cc, .int .i64 C.l0, .slice a0 C.w0.length c0, .int .i64 C.l1, .slice a1 C.w1.length c1] 31)).alloc (.cells #[.int .i64 0, .int .i64 0, .int .i64 0, .int .i64 0, .int .i64 0, .int .i64 0] 124)).alloc (.cells #[.int .i64 x.kind, .int .i64 x.frm, .int .i64 x.to, .int .i64 x.words, .int .i64 x.depth, .int .i64 x.period, .int .u32 x.boot] 52)).heap[w.heap.size + 1 + 1]? = some (.cells #[.int .i64 x.kind, .int .i64 x.frm, .int .i64 x.to, .int .i64 x.words, .int .i64 x.depth, .int .i64 x.period, .int .u32 x.boot] 52 (0, 0))) := ⟨(blk_at (w := ((w.alloc (.cells #[.slice pa C.parts.length pc, .slice (some ⟨g, o, none⟩) C.chans.length cc, .int .i64 C.l0, .slice a0 C.w0.length c0, .int .i64 C.l1, .slice a1 C.w1.length c1] 31)).alloc (.cells #[.int .i64 0, .int .i64 0, .int .i64 0, .int .i64 0, .int .i64 0, .int .i64 0] 124))) (by simp) _)⟩
  have HB1 : Kp (Below w.heap.size w (((w.alloc (.cells #[.slice pa C.parts.length pc, .slice (some ⟨g, o, none⟩) C.chans.length cc, .int .i64 C.l0, .slice a0 C.w0.length c0, .int .i64 C.l1, .slice a1 C.w1.length c1] 31)).alloc (.cells #[.int .i64 0, .int .i64 0, .int .i64 0, .int .i64 0, .int .i64 0, .int .i64 0] 124)).alloc (.cells #[.int .i64 x.kind, .int .i64 x.frm, .int .i64 x.to, .int .i64 x.words, .int .i64 x.depth, .int .i64 x.period, .int .u32 x.boot] 52))) := ⟨(below_al (below_al (below_al HB0.out _) _) _)⟩
  clear HB0
  generalize (((w.alloc (.cells #[.slice pa C.parts.length pc, .slice (some ⟨g, o, none⟩) C.chans.length cc, .int .i64 C.l0, .slice a0 C.w0.length c0, .int .i64 C.l1, .slice a1 C.w1.length c1] 31)).alloc (.cells #[.int .i64 0, .int .i64 0, .int .i64 0, .int .i64 0, .int .i64 0, .int .i64 0] 124)).alloc (.cells #[.int .i64 x.kind, .int .i64 x.frm, .int .i64 x.to, .int .i64 x.words, .int .i64 x.depth, .int .i64 x.period, .int .u32 x.boot] 52)) = w1 at q1 r1 x1 HB1 ⊢
  have qc0 := cbk q1.out 0 (.slice pa C.parts.length pc) rfl
  have qc1 := cbk q1.out 1 (.slice (some ⟨g, o, none⟩) C.chans.length cc) rfl
  have qc2 := cbk q1.out 2 (.int .i64 C.l0) rfl
  have qc3 := cbk q1.out 3 (.slice a0 C.w0.length c0) rfl
  have qc4 := cbk q1.out 4 (.int .i64 C.l1) rfl
  have qc5 := cbk q1.out 5 (.slice a1 C.w1.length c1) rfl
  have ql := blk_lt q1.out
  have rc0 := cbk r1.out 0 (.int .i64 0) rfl
  have rc1 := cbk r1.out 1 (.int .i64 0) rfl
  have rc2 := cbk r1.out 2 (.int .i64 0) rfl
  have rc3 := cbk r1.out 3 (.int .i64 0) rfl
  have rc4 := cbk r1.out 4 (.int .i64 0) rfl
  have rc5 := cbk r1.out 5 (.int .i64 0) rfl
  have rl := blk_lt r1.out
  have xc0 := cbk x1.out 0 (.int .i64 x.kind) rfl
  have xc1 := cbk x1.out 1 (.int .i64 x.frm) rfl
  have xc2 := cbk x1.out 2 (.int .i64 x.to) rfl
  have xc3 := cbk x1.out 3 (.int .i64 x.words) rfl
  have xc4 := cbk x1.out 4 (.int .i64 x.depth) rfl
  have xc5 := cbk x1.out 5 (.int .i64 x.period) rfl
  have xc6 := cbk x1.out 6 (.int .u32 x.boot) rfl
  have xl := blk_lt x1.out
  have gl : g < w1.heap.size := Nat.lt_of_lt_of_le hg HB1.out.size
  have hn0 : w.heap.size ≠ w.heap.size + 1 := by omega
  have hng : g ≠ w.heap.size + 1 := by omega
  have hn2 : w.heap.size + 1 + 1 ≠ w.heap.size + 1 := by omega
  refine held_start_gen (S := (fun w' : World => ButB (w1.heap.size) [w.heap.size + 1] w1 w' ∧ ∀ bb o, bb < w1.heap.size → bb ≠ w.heap.size + 1 → w'.cell? ⟨bb, o, none⟩ = w1.cell? ⟨bb, o, none⟩)) (by kernel_rfl) (fun wz : World => Kp (Below w.heap.size w wz) ∧ Kp (wz.heap[w.heap.size + 1]? = some (.cells #[.int .i64 0, .int .i64 0, .int .i64 0, .int .i64 0, .int .i64 0, .int .i64 0] 124 (0, 0))) ∧ w1.heap.size ≤ wz.heap.size) ⟨⟨below_dr HB1.out⟩, ⟨blk_dr r1.out⟩, Nat.le_refl _⟩ (sx_of1 (ButB.dr (ButB.refl _ (by omega)))) (fun wd0 hRn hHeld => ?_)
  clear HB1 r1
  obtain ⟨HB1, r1, hsz⟩ := hRn
  refine wtk 0 ?_ rfl (.inl ⟨by rfl, ?_⟩) ?_
  rotate_left 1
  · (intro w hSw; go_simp; try with_reducible rfl)
  try simp only [Act.put, ls0, ls1, ls2]
  refine wtk 1 ?_ rfl (.inl ⟨by rfl, ?_⟩) ?_
  rotate_left 1
  · (intro w hSw; go_simp; try with_reducible rfl)
  try simp only [Act.put, ls0, ls1, ls2]
  refine wtk 2 ?_ rfl (.inl ⟨by rfl, ?_⟩) ?_
  rotate_left 1
  · (intro w hSw; go_simp; try with_reducible rfl)
  try simp only [Act.put, ls0, ls1, ls2]
  refine wtk 5 ?_ rfl (.inl ⟨by rfl, ?_⟩) ?_
  rotate_left 1
  · (intro w hSw; go_simp; try with_reducible rfl)
  try simp only [Act.put, ls0, ls1, ls2]
  refine wtk 6 ?_ rfl (.inl ⟨by rfl, ?_⟩) ?_
  rotate_left 1
  · (intro w hSw; go_simp; try with_reducible rfl)
  try simp only [Act.put, ls0, ls1, ls2]
  refine wtk 9 ?_ rfl (.inl ⟨by rfl, ?_⟩) ?_
  rotate_left 1
  · (intro w hSw; go_simp; try with_reducible rfl)
  try simp only [Act.put, ls0, ls1, ls2]
  refine wtk 10 ?_ rfl (.inl ⟨by rfl, ?_⟩) ?_
  rotate_left 1
  · (intro w hSw; go_simp; try with_reducible rfl)
  try simp only [Act.put, ls0, ls1, ls2]
  refine wtk 11 ?_ rfl (.inl ⟨by rfl, ?_⟩) ?_
  rotate_left 1
  · (intro w hSw; go_simp; try with_reducible rfl)
  try simp only [Act.put, ls0, ls1, ls2]
  refine wtk 14 ?_ rfl (.inl ⟨by rfl, ?_⟩) ?_
  rotate_left 1
  · (intro w hSw; go_simp; try with_reducible rfl)
  try simp only [Act.put, ls0, ls1, ls2]
  refine wtk 15 ?_ rfl (.inl ⟨by rfl, ?_⟩) ?_
  rotate_left 1
  · (intro w hSw; go_simp; try with_reducible rfl)
  try simp only [Act.put, ls0, ls1, ls2]
  refine wtk 16 ?_ rfl (.inl ⟨by rfl, ?_⟩) ?_
  rotate_left 1
  · (intro w hSw; go_simp; try with_reducible rfl)
  try simp only [Act.put, ls0, ls1, ls2]
  refine wtk 17 ?_ rfl (.inl ⟨by rfl, ?_⟩) ?_
  rotate_left 1
  · (intro w hSw; go_simp; try with_reducible rfl)
  try simp only [Act.put, ls0, ls1, ls2]
  refine wrd [3] ?_
  refine (arc rfl (fun K hK => ?_) arn)
  go_simp
  go_at_call 81
  refine (source_any _ C hsm k _ (HC.out.below HB1.out)).mono ?_
  rw [HS.out]
  rintro e w9 ⟨rfl, hb⟩
  try go_wp2_with fail
  refine out_gen hK _ _ (fun wz : World => Kp (Below w.heap.size w wz) ∧ Kp (wz.heap[w.heap.size + 1]? = some (.cells #[.int .i64 0, .int .i64 0, .int .i64 0, .int .i64 0, .int .i64 0, .int .i64 0] 124 (0, 0))) ∧ wd0.heap.size ≤ wz.heap.size) ⟨⟨below_call HB1.out hb⟩, ⟨blk_below r1.out hb⟩, hb.size⟩ (sx_of1 (ButB.call (And.left hHeld) hb)) (fun wd1 hRn hHn => ?_)
  clear hK K hHeld HB1 r1 hb
  obtain ⟨HB1, r1, hsz1⟩ := hRn
  have hHeld := hHn
  clear hHn
  try simp only [Act.put, ls0, ls1, ls2]
  refine wtk 4 ?_ rfl (.inl ⟨by rfl, ?_⟩) ?_
  rotate_left 1
  · (intro w hSw; go_simp; try with_reducible rfl)
  try simp only [Act.put, ls0, ls1, ls2]
  refine wrd [7] ?_
  refine (arc rfl (fun K hK => ?_) arn)
  go_simp
  go_at_call 82
  refine (dest_any _ C hsm k _ (HC.out.below HB1.out)).mono ?_
  rw [HD.out]
  rintro e w9 ⟨rfl, hb⟩
  try go_wp2_with fail
  refine out_gen hK _ _ (fun wz : World => Kp (Below w.heap.size w wz) ∧ Kp (wz.heap[w.heap.size + 1]? = some (.cells #[.int .i64 0, .int .i64 0, .int .i64 0, .int .i64 0, .int .i64 0, .int .i64 0] 124 (0, 0))) ∧ wd1.heap.size ≤ wz.heap.size) ⟨⟨below_call HB1.out hb⟩, ⟨blk_below r1.out hb⟩, hb.size⟩ (sx_of1 (ButB.call (And.left hHeld) hb)) (fun wd2 hRn hHn => ?_)
  clear hK K hHeld HB1 r1 hb
  obtain ⟨HB1, r1, hsz2⟩ := hRn
  have hHeld := hHn
  clear hHn
  try simp only [Act.put, ls0, ls1, ls2]
  refine wtk 8 ?_ rfl (.inl ⟨by rfl, ?_⟩) ?_
  rotate_left 1
  · (intro w hSw; go_simp; try with_reducible rfl)
  try simp only [Act.put, ls0, ls1, ls2]
  refine wrd [12] ?_
  refine (arc rfl (fun K hK => ?_) arn)
  go_simp
  go_at_call 88
  refine (cell_any _ C hsm k m _ (HC.out.below HB1.out)).mono ?_
  rw [HCL.out]
  rintro e w9 ⟨rfl, hb⟩
  try go_wp2_with fail
  refine out_gen hK _ _ (fun wz : World => Kp (Below w.heap.size w wz) ∧ Kp (wz.heap[w.heap.size + 1]? = some (.cells #[.int .i64 0, .int .i64 0, .int .i64 0, .int .i64 0, .int .i64 0, .int .i64 0] 124 (0, 0))) ∧ wd2.heap.size ≤ wz.heap.size) ⟨⟨below_call HB1.out hb⟩, ⟨blk_below r1.out hb⟩, hb.size⟩ (sx_of1 (ButB.call (And.left hHeld) hb)) (fun wd3 hRn hHn => ?_)
  clear hK K hHeld HB1 r1 hb
  obtain ⟨HB1, r1, hsz3⟩ := hRn
  have hHeld := hHn
  clear hHn
  try simp only [Act.put, ls0, ls1, ls2]
  refine wtk 13 ?_ rfl (.inl ⟨by rfl, ?_⟩) ?_
  rotate_left 1
  · (intro w hSw; go_simp; try with_reducible rfl)
  try simp only [Act.put, ls0, ls1, ls2]
  refine wtk 18 ?_ rfl (.inl ⟨by rfl, ?_⟩) ?_
  rotate_left 1
  · (intro w hSw; go_simp; try with_reducible rfl)
  try simp only [Act.put, ls0, ls1, ls2]
  refine wrd [19] ?_
  refine (arc rfl (fun K hK => ?_) arn)
  have sd0 := cbk r1.out 0 (.int .i64 0) rfl
  have sf0 := frozen_blk r1.out 0
  have sd1 := cbk r1.out 1 (.int .i64 0) rfl
  have sf1 := frozen_blk r1.out 1
  have sd2 := cbk r1.out 2 (.int .i64 0) rfl
  have sf2 := frozen_blk r1.out 2
  have sd3 := cbk r1.out 3 (.int .i64 0) rfl
  have sf3 := frozen_blk r1.out 3
  have sd4 := cbk r1.out 4 (.int .i64 0) rfl
  have sf4 := frozen_blk r1.out 4
  have sd5 := cbk r1.out 5 (.int .i64 0) rfl
  have sf5 := frozen_blk r1.out 5
  have sl := blk_lt r1.out
  go_simp
  try go_wp2_with fail
  refine out_gen hK _ _ (fun wz : World => Kp (Below w.heap.size w wz) ∧ Kp (wz.heap[w.heap.size + 1]? = some (.cells #[.int .i64 k, .int .i64 s1, .int .i64 d1, .int .i64 l1, .int .i64 x.words, .int .i64 x.depth] 124 (0, 0))) ∧ wd3.heap.size ≤ wz.heap.size) ⟨⟨((((((HB1.out.setCell (p := ⟨w.heap.size + 1, 0, none⟩) (by show w.heap.size ≤ w.heap.size + 1; omega) _).setCell (p := ⟨w.heap.size + 1, 1, none⟩) (by show w.heap.size ≤ w.heap.size + 1; omega) _).setCell (p := ⟨w.heap.size + 1, 2, none⟩) (by show w.heap.size ≤ w.heap.size + 1; omega) _).setCell (p := ⟨w.heap.size + 1, 3, none⟩) (by show w.heap.size ≤ w.heap.size + 1; omega) _).setCell (p := ⟨w.heap.size + 1, 4, none⟩) (by show w.heap.size ≤ w.heap.size + 1; omega) _).setCell (p := ⟨w.heap.size + 1, 5, none⟩) (by show w.heap.size ≤ w.heap.size + 1; omega) _)⟩, ⟨(blk_set (blk_set (blk_set (blk_set (blk_set (blk_set r1.out 0 _) 1 _) 2 _) 3 _) 4 _) 5 _).trans (by simp only [ls0, ls1, ls2])⟩, (by simp [World.setCell])⟩ (sx_of1 ((ButB.set (ButB.set (ButB.set (ButB.set (ButB.set (ButB.set (And.left hHeld) (p := ⟨w.heap.size + 1, 0, none⟩) (by first | (left; simp; done) | (right; show _ ≤ w.heap.size + 1; omega)) _) (p := ⟨w.heap.size + 1, 1, none⟩) (by first | (left; simp; done) | (right; show _ ≤ w.heap.size + 1; omega)) _) (p := ⟨w.heap.size + 1, 2, none⟩) (by first | (left; simp; done) | (right; show _ ≤ w.heap.size + 1; omega)) _) (p := ⟨w.heap.size + 1, 3, none⟩) (by first | (left; simp; done) | (right; show _ ≤ w.heap.size + 1; omega)) _) (p := ⟨w.heap.size + 1, 4, none⟩) (by first | (left; simp; done) | (right; show _ ≤ w.heap.size + 1; omega)) _) (p := ⟨w.heap.size + 1, 5, none⟩) (by first | (left; simp; done) | (right; show _ ≤ w.heap.size + 1; omega)) _))) (fun wd4 hRn hHn => ?_)
  clear hK K hHeld HB1 r1 sd0 sf0 sd1 sf1 sd2 sf2 sd3 sf3 sd4 sf4 sd5 sf5 sl
  obtain ⟨HB1, r1, hsz4⟩ := hRn
  have hHeld := hHn
  clear hHn
  try simp only [Act.put, ls0, ls1, ls2]
  refine wpAnyH_done (by kernel_rfl) ?_ _
  go_wp2
  exact bodyPost_ret (v := .agg #[.int .i64 k, .int .i64 s1, .int .i64 d1, .int .i64 l1, .int .i64 x.words, .int .i64 x.depth]) (results_cell_row rfl _ _ _ _ _ _ _ rfl r1.out Tryz.underlying124 rfl (by kernel_rfl)) rfl ⟨rfl, HB1.out⟩
end
section
open Go.RowKit
set_option linter.unusedSimpArgs false
set_option linter.unusedVariables false
theorem own_set_blk {w : World} {base : Nat} {e : TypeId} {k : Nat} {g n0 cap n : Nat} {cs : List Value} (h : w.ownsRow base e k (.slice (some ⟨g, 0, none⟩) n0 cap) n cs) {p : Addr} (hp : g ≠ p.block) (u : Value) : (w.setCell p u).ownsRow base e k (.slice (some ⟨g, 0, none⟩) n0 cap) n cs := by
  obtain ⟨h0, h | ⟨g', cap', cur, h1, h2, h3, r⟩⟩ := h
  · exact ⟨h0, .inl h⟩
  · have h1' := h1
    simp only [Value.slice.injEq, Option.some.injEq, Addr.mk.injEq] at h1'
    have e1 : g = g' := h1'.1.1
    exact ⟨h0, .inr ⟨g', cap', cur, h1, h2, blk_set_ne h3 (by rw [← e1]; exact hp) u, r⟩⟩
end
end Go.Proofs.YtmidcnfmphlneaaGreat

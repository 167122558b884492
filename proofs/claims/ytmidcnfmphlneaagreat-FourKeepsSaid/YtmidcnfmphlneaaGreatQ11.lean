/- Contracts of package four: the places, a word loaded, a word stored.; The four slots, plain: what holds between any two steps goes on holding. Nothing of the program.; A region whose store meets one cell alone of a block: nothing of the program. -/
import Derived.Test.YtmidcnfmphlneaaGreatQ0
import Derived.Test.YtmidcnfmphlneaaGreatQ10
import Derived.Test.YtmidcnfmphlneaaGreatQ7
namespace Go.Proofs.YtmidcnfmphlneaaGreat
section
open Go.RowKit
set_option linter.unusedSimpArgs false
set_option linter.unusedVariables false
structure Plc.low (p : Plc) : Prop where
  src : 0 ≤ p.src ∧ p.src ≤ 2000
  rd : 0 ≤ p.rd ∧ p.rd ≤ 2000
  words : 1 ≤ p.words ∧ p.words ≤ 16
theorem bit_two (x : Int) (h : bit x) : 0 ≤ x ∧ x ≤ 1 := by rcases h with rfl | rfl <;> omega
set_option maxHeartbeats 1000000 in
theorem slot_any (p : Plc) (hp : p.low) (x : Int) (hx : bit x) (w : World) : Calls Tryz.prog 98 #[.agg #[.int .i64 p.src, .int .i64 p.rd, .int .i64 p.words, .int .i64 p.period], .int .u32 x] w fun e w' => e = .returned (.int .i64 (p.slot x)) ∧ Below w.heap.size w w' := by
  have hs := hp.src
  have hb := bit_two x hx
  have v1 : IntKind.i64.wrap (p.src + 1) = p.src + 1 := IntWalk.i64_in _ (by omega)
  have v2 : IntKind.i64.wrap x = x := IntWalk.i64_in _ (by omega)
  have v3 : IntKind.i64.wrap (p.src + 1 + x) = p.slot x := IntWalk.i64_in _ (by omega)
  clear hp hx
  go_enter Tryz.func98, Tryz.ntmps98
  go_wp2
  go_ret
  exact ⟨rfl, below_al (Below.refl _ _) _⟩
set_option maxHeartbeats 1000000 in
theorem fbuffer_any (p : Plc) (hp : p.low) (x y : Int) (hx : bit x) (hy : bit y) (w : World) : Calls Tryz.prog 108 #[.agg #[.int .i64 p.src, .int .i64 p.rd, .int .i64 p.words, .int .i64 p.period], .int .u32 x, .int .u32 y] w fun e w' => e = .returned (.int .i64 (p.buf x y)) ∧ Below w.heap.size w w' := by
  have hs := hp.src
  have hw := hp.words
  have hb := bit_two x hx
  have hc := bit_two y hy
  obtain ⟨n, hn⟩ : ∃ n, 2 + p.words = n := ⟨_, rfl⟩
  have hm : 0 ≤ (2 * x + y) * n ∧ (2 * x + y) * n ≤ 54 := by
    have h1 : 2 * x + y = 0 ∨ 2 * x + y = 1 ∨ 2 * x + y = 2 ∨ 2 * x + y = 3 := by omega
    rcases h1 with h1 | h1 | h1 | h1 <;> rw [h1] <;> omega
  have v1 : IntKind.i64.wrap (p.src + 3) = p.src + 3 := IntWalk.i64_in _ (by omega)
  have v2 : IntKind.u32.wrap (2 * x) = 2 * x := IntWalk.u32_in _ (by omega)
  have v3 : IntKind.u32.wrap (2 * x + y) = 2 * x + y := IntWalk.u32_in _ (by omega)
  have v4 : IntKind.i64.wrap (2 * x + y) = 2 * x + y := IntWalk.i64_in _ (by omega)
  have v5 : IntKind.i64.wrap (2 + p.words) = n := (IntWalk.i64_in _ (by omega)).trans hn
  have v6 : IntKind.i64.wrap ((2 * x + y) * n) = (2 * x + y) * n := IntWalk.i64_in _ (by omega)
  have v7 : IntKind.i64.wrap (p.src + 3 + (2 * x + y) * n) = p.buf x y := by rw [Plc.buf, hn]; exact IntWalk.i64_in _ (by omega)
  clear hp hx hy hm
  go_enter Tryz.func108, Tryz.ntmps108
  go_wp2
  go_ret
  exact ⟨rfl, below_al (Below.refl _ _) _⟩
set_option maxHeartbeats 1000000 in
theorem fload_any (B D : Nat) (ws : List Int) (a : Int) (h0 : 0 ≤ a) (h1 : a < ws.length) (w : World) (h : MemAt w B D ws) : Calls Tryz.prog 83 #[.pointer (some ⟨B, 0, none⟩), .int .i64 a] w fun e w' => e = .returned (.int .u32 (ldW ws a)) ∧ w' = w := by
  obtain ⟨i, rfl⟩ := Int.eq_ofNat_of_zero_le h0
  have hi : i < ws.length := by omega
  have hl := h.len
  have HV : Kp (ldW ws (i : Int) = ws[i]) := ⟨by rw [ldW, Int.toNat_natCast, List.getD_eq_getElem?_getD, List.getElem?_eq_getElem hi]; rfl⟩
  have v1 : IntKind.u64.wrap (i : Int) = i := IntWalk.u64_in _ (by omega)
  have H := Kp.mk h
  clear h
  go_enter Tryz.func83, Tryz.ntmps83
  go_wp2_with fail
  refine (memLoad_in B D ws i hi _ H.out).mono ?_
  rintro e w1 ⟨rfl, rfl⟩
  go_wp2
  go_ret
  exact ⟨by rw [HV.out]; rfl, rfl⟩
set_option maxHeartbeats 1000000 in
theorem fstore_any (B D : Nat) (ws : List Int) (a v : Int) (h0 : 0 ≤ a) (h1 : a < ws.length) (w : World) (h : MemAt w B D ws) : Calls Tryz.prog 100 #[.pointer (some ⟨B, 0, none⟩), .int .i64 a, .int .u32 v] w fun e w' => (∃ r, e = .returned r) ∧ w' = w.setCell ⟨D, a.toNat, none⟩ (.int .u32 v) := by
  obtain ⟨i, rfl⟩ := Int.eq_ofNat_of_zero_le h0
  have hi : i < ws.length := by omega
  have hl := h.len
  have v1 : IntKind.u64.wrap (i : Int) = i := IntWalk.u64_in _ (by omega)
  have H := Kp.mk h
  clear h
  go_enter Tryz.func100, Tryz.ntmps100
  go_wp2_with fail
  refine (memStore_in B D ws i v hi _ H.out).mono ?_
  rintro e w1 ⟨rfl, rfl⟩
  go_wp2
  go_end0
  exact ⟨⟨_, rfl⟩, by rw [Int.toNat_natCast]⟩
theorem spn_field0 (a b : Int) (w : World) : (Instr.field 105 (.agg #[.int .i64 a, .int .i64 b]) 0).run Tryz.prog w = .ok (.int .i64 a) w := by kernel_rfl
set_option maxRecDepth 100000 in
set_option maxHeartbeats 4000000 in
theorem of_any4 (cv : Value) (C : Cfg) (hsm : C.small) (k : Nat) (hk : k < C.chans.length) (x : Chn) (hx : C.chans[k] = x) (s1 s2 d1 d2 : Int) (hs : srcB C k = (s1, s2)) (hd : dstB C k = (d1, d2)) (w : World) (h : CfgAt w cv C) : Calls Tryz.prog 51 #[cv, .int .i64 k] w fun e w' => e = .returned (.agg #[.int .i64 s1, .int .i64 d1, .int .i64 x.words, .int .i64 x.period]) ∧ Below w.heap.size w w' := by
  have HC := Kp.mk h
  have HS := Kp.mk hs
  have HD := Kp.mk hd
  have hfd := spn_field0
  obtain ⟨ho, pa, pc, ca, cc, a0, c0, a1, c1, rfl, bp, bc, b0, b1, hp, hc, hw0, hw1⟩ := h
  clear ho hp hw0 hw1 hs hd
  obtain ⟨g, o, rfl, hg, hcc⟩ := hc.at (by omega)
  have HK : Kp (∀ j, j < 7 → w.cell? ⟨g, o + k * 7 + j, none⟩ = (chanC x)[j]?) := ⟨fun j hj => by
    have h1 := hcc (k * 7 + j) (by omega)
    rw [flat_at chanC 7 chanC_len C.chans k j hk hj, hx] at h1
    rw [Nat.add_assoc]
    exact h1⟩
  have hki : (k : Int) < (C.chans.length : Int) := by omega
  have hkn : (0 : Int) ≤ (k : Int) := by omega
  clear hcc hx hc
  go_enter Tryz.func51, Tryz.ntmps51
  have HB0 : Kp (Below w.heap.size w w) := ⟨Below.refl _ _⟩
  go_wp2_with fail
  have q1 : Kp (((w.alloc (.cells #[.slice pa C.parts.length pc, .slice (some ⟨g, o, none⟩) C.chans.length cc, .int .i64 C.l0, .slice a0 C.w0.length c0, .int .i64 C.l1, .slice a1 C.w1.length c1] 31)).alloc (.cells #[.int .i64 0, .int .i64 0, .int .i64 0, .int .i64 0] 111)).heap[w.heap.size]? = some (.cells #[.slice pa C.parts.length pc, .slice (some ⟨g, o, none⟩) C.chans.length cc, .int .i64 C.l0, .slice a0 C.w0.length c0, .int .i64 C.l1, .slice a1 C.w1.length c1] 31 (0, 0))) := ⟨(blk_al (blk_new _ _) _)⟩
  have r1 : Kp (((w.alloc (.cells #[.slice pa C.parts.length pc, .slice (some ⟨g, o, none⟩) C.chans.length cc, .int .i64 C.l0, .slice a0 C.w0.length c0, .int .i64 C.l1, .slice a1 C.w1.length c1] 31)).alloc (.cells #[.int .i64 0, .int .i64 0, .int .i64 0, .int .i64 0] 111)).heap[w.heap.size + 1]? = some (.cells #[.int .i64 0, .int .i64 0, .int .i64 0, .int .i64 0] 111 (0, 0))) := ⟨(blk_at (w := (w.alloc (.cells #[.slice pa C.parts.length pc, .slice (some ⟨g, o, none⟩) C.chans.length cc, .int .i64 C.l0, .slice a0 C.w0.length c0, .int .i64 C.l1, .slice a1 C.w1.length c1] 31))) (by simp) _)⟩
  have HB1 : Kp (Below w.heap.size w ((w.alloc (.cells #[.slice pa C.parts.length pc, .slice (some ⟨g, o, none⟩) C.chans.length cc, .int .i64 C.l0, .slice a0 C.w0.length c0, .int .i64 C.l1, .slice a1 C.w1.length c1] 31)).alloc (.cells #[.int .i64 0, .int .i64 0, .int .i64 0, .int .i64 0] 111))) := ⟨(below_al (below_al HB0.out _) _)⟩
  clear HB0
  generalize ((w.alloc (.cells #[.slice pa C.parts.length pc, .slice (some ⟨g, o, none⟩) C.chans.length cc, .int .i64 C.l0, .slice a0 C.w0.length c0, .int .i64 C.l1, .slice a1 C.w1.length c1] 31)).alloc (.cells #[.int .i64 0, .int .i64 0, .int .i64 0, .int .i64 0] 111)) = w1 at q1 r1 HB1 ⊢
  have qc0 := cbk q1.out 0 (.slice pa C.parts.length pc) rfl
  have qc1 := cbk q1.out 1 (.slice (some ⟨g, o, none⟩) C.chans.length cc) rfl
  have qc2 := cbk q1.out 2 (.int .i64 C.l0) rfl
  have qc3 := cbk q1.out 3 (.slice a0 C.w0.length c0) rfl
  have qc4 := cbk q1.out 4 (.int .i64 C.l1) rfl
  have qc5 := cbk q1.out 5 (.slice a1 C.w1.length c1) rfl
  have ql := blk_lt q1.out
  have rc0 := cbk r1.out 0 (.int .i64 0) rfl
  have rc1 := cbk r1.out 1 (.int .i64 0) rfl
  have rc2 := cbk r1.out 2 (.int .i64 0) rfl
  have rc3 := cbk r1.out 3 (.int .i64 0) rfl
  have rl := blk_lt r1.out
  have e3 : w1.cell? ⟨g, o + k * 7 + 3, none⟩ = some (.int .i64 x.words) := (HB1.out.cell (p := ⟨g, o + k * 7 + 3, none⟩) hg).trans (HK.out 3 (by omega))
  have e5 : w1.cell? ⟨g, o + k * 7 + 5, none⟩ = some (.int .i64 x.period) := (HB1.out.cell (p := ⟨g, o + k * 7 + 5, none⟩) hg).trans (HK.out 5 (by omega))
  have gl : g < w1.heap.size := Nat.lt_of_lt_of_le hg HB1.out.size
  have hn0 : w.heap.size ≠ w.heap.size + 1 := by omega
  have hng : g ≠ w.heap.size + 1 := by omega
  refine held_start_gen (S := (fun w' : World => ButB (w1.heap.size) [w.heap.size + 1] w1 w' ∧ ∀ bb o, bb < w1.heap.size → bb ≠ w.heap.size + 1 → w'.cell? ⟨bb, o, none⟩ = w1.cell? ⟨bb, o, none⟩)) (by kernel_rfl) (fun wz : World => Kp (Below w.heap.size w wz) ∧ Kp (wz.heap[w.heap.size + 1]? = some (.cells #[.int .i64 0, .int .i64 0, .int .i64 0, .int .i64 0] 111 (0, 0))) ∧ w1.heap.size ≤ wz.heap.size) ⟨⟨below_dr HB1.out⟩, ⟨blk_dr r1.out⟩, Nat.le_refl _⟩ (sx_of1 (ButB.dr (ButB.refl _ (by omega)))) (fun wd0 hRn hHeld => ?_)
  clear HB1 r1
  obtain ⟨HB1, r1, hsz⟩ := hRn
  refine wtk 0 ?_ rfl (.inl ⟨by rfl, ?_⟩) ?_
  rotate_left 1
  · (intro w hSw; go_simp; try with_reducible rfl)
  try simp only [Act.put, ls0, ls1, ls2]
  refine wtk 1 ?_ rfl (.inl ⟨by rfl, ?_⟩) ?_
  rotate_left 1
  · (intro w hSw; go_simp; try with_reducible rfl)
  try simp only [Act.put, ls0, ls1, ls2]
  refine wtk 4 ?_ rfl (.inl ⟨by rfl, ?_⟩) ?_
  rotate_left 1
  · (intro w hSw; go_simp; try with_reducible rfl)
  try simp only [Act.put, ls0, ls1, ls2]
  refine wtk 5 ?_ rfl (.inl ⟨by rfl, ?_⟩) ?_
  rotate_left 1
  · (intro w hSw; go_simp; try with_reducible rfl)
  try simp only [Act.put, ls0, ls1, ls2]
  refine wtk 8 ?_ rfl (.inl ⟨by rfl, ?_⟩) ?_
  rotate_left 1
  · (intro w hSw; go_simp; try with_reducible rfl)
  try simp only [Act.put, ls0, ls1, ls2]
  refine wtk 9 ?_ rfl (.inl ⟨by rfl, ?_⟩) ?_
  rotate_left 1
  · (intro w hSw; go_simp; try with_reducible rfl)
  try simp only [Act.put, ls0, ls1, ls2]
  refine wtk 10 ?_ rfl (.inl ⟨by rfl, ?_⟩) ?_
  rotate_left 1
  · (intro w hSw; go_simp; try with_reducible rfl)
  try simp only [Act.put, ls0, ls1, ls2]
  refine wtk 11 ?_ rfl (.inl ⟨by rfl, ?_⟩) ?_
  rotate_left 1
  · (intro w hSw; go_simp; try with_reducible rfl)
  try simp only [Act.put, ls0, ls1, ls2]
  refine wtk 12 ?_ rfl (.inl ⟨by rfl, ?_⟩) ?_
  rotate_left 1
  · (intro w hSw; go_simp; try with_reducible rfl)
  try simp only [Act.put, ls0, ls1, ls2]
  refine wtk 13 ?_ rfl (.inl ⟨by rfl, ?_⟩) ?_
  rotate_left 1
  · (intro w hSw; go_simp; try with_reducible rfl)
  try simp only [Act.put, ls0, ls1, ls2]
  refine wtk 14 ?_ rfl (.inl ⟨by rfl, ?_⟩) ?_
  rotate_left 1
  · (intro w hSw; go_simp; try with_reducible rfl)
  try simp only [Act.put, ls0, ls1, ls2]
  refine wtk 15 ?_ rfl (.inl ⟨by rfl, ?_⟩) ?_
  rotate_left 1
  · (intro w hSw; go_simp; try with_reducible rfl)
  try simp only [Act.put, ls0, ls1, ls2]
  refine wtk 16 ?_ rfl (.inl ⟨by rfl, ?_⟩) ?_
  rotate_left 1
  · (intro w hSw; go_simp; try with_reducible rfl)
  try simp only [Act.put, ls0, ls1, ls2]
  refine wtk 17 ?_ rfl (.inl ⟨by rfl, ?_⟩) ?_
  rotate_left 1
  · (intro w hSw; go_simp; try with_reducible rfl)
  try simp only [Act.put, ls0, ls1, ls2]
  refine wtk 18 ?_ rfl (.inl ⟨by rfl, ?_⟩) ?_
  rotate_left 1
  · (intro w hSw; go_simp; try with_reducible rfl)
  try simp only [Act.put, ls0, ls1, ls2]
  refine wtk 19 ?_ rfl (.inl ⟨by rfl, ?_⟩) ?_
  rotate_left 1
  · (intro w hSw; go_simp; try with_reducible rfl)
  try simp only [Act.put, ls0, ls1, ls2]
  refine wrd [2] ?_
  refine (arc rfl (fun K hK => ?_) arn)
  go_simp
  go_at_call 81
  refine (source_any _ C hsm k _ (HC.out.below HB1.out)).mono ?_
  rw [HS.out]
  rintro e w9 ⟨rfl, hb⟩
  try go_wp2_with fail
  refine out_gen hK _ _ (fun wz : World => Kp (Below w.heap.size w wz) ∧ Kp (wz.heap[w.heap.size + 1]? = some (.cells #[.int .i64 0, .int .i64 0, .int .i64 0, .int .i64 0] 111 (0, 0))) ∧ wd0.heap.size ≤ wz.heap.size) ⟨⟨below_call HB1.out hb⟩, ⟨blk_below r1.out hb⟩, hb.size⟩ (sx_of1 (ButB.call (And.left hHeld) hb)) (fun wd1 hRn hHn => ?_)
  clear hK K hHeld HB1 r1 hb
  obtain ⟨HB1, r1, hsz1⟩ := hRn
  have hHeld := hHn
  clear hHn
  try simp only [Act.put, ls0, ls1, ls2]
  refine wtk 3 ?_ rfl (.inl ⟨by rfl, ?_⟩) ?_
  rotate_left 1
  · (intro w hSw; go_simp; try with_reducible rfl)
  try simp only [Act.put, ls0, ls1, ls2]
  refine wrd [6] ?_
  refine (arc rfl (fun K hK => ?_) arn)
  go_simp
  go_at_call 82
  refine (dest_any _ C hsm k _ (HC.out.below HB1.out)).mono ?_
  rw [HD.out]
  rintro e w9 ⟨rfl, hb⟩
  try go_wp2_with fail
  refine out_gen hK _ _ (fun wz : World => Kp (Below w.heap.size w wz) ∧ Kp (wz.heap[w.heap.size + 1]? = some (.cells #[.int .i64 0, .int .i64 0, .int .i64 0, .int .i64 0] 111 (0, 0))) ∧ wd1.heap.size ≤ wz.heap.size) ⟨⟨below_call HB1.out hb⟩, ⟨blk_below r1.out hb⟩, hb.size⟩ (sx_of1 (ButB.call (And.left hHeld) hb)) (fun wd2 hRn hHn => ?_)
  clear hK K hHeld HB1 r1 hb
  obtain ⟨HB1, r1, hsz2⟩ := hRn
  have hHeld := hHn
  clear hHn
  try simp only [Act.put, ls0, ls1, ls2]
  refine wtk 7 ?_ rfl (.inl ⟨by rfl, ?_⟩) ?_
  rotate_left 1
  · (intro w hSw; go_simp; try with_reducible rfl)
  try simp only [Act.put, ls0, ls1, ls2]
  refine wtk 20 ?_ rfl (.inl ⟨by rfl, ?_⟩) ?_
  rotate_left 1
  · (intro w hSw; go_simp; try with_reducible rfl)
  try simp only [Act.put, ls0, ls1, ls2]
  refine wrd [21] ?_
  refine (arc rfl (fun K hK => ?_) arn)
  have sd0 := cbk r1.out 0 (.int .i64 0) rfl
  have sf0 := frozen_blk r1.out 0
  have sd1 := cbk r1.out 1 (.int .i64 0) rfl
  have sf1 := frozen_blk r1.out 1
  have sd2 := cbk r1.out 2 (.int .i64 0) rfl
  have sf2 := frozen_blk r1.out 2
  have sd3 := cbk r1.out 3 (.int .i64 0) rfl
  have sf3 := frozen_blk r1.out 3
  have sl := blk_lt r1.out
  go_simp
  try go_wp2_with fail
  refine out_gen hK _ _ (fun wz : World => Kp (Below w.heap.size w wz) ∧ Kp (wz.heap[w.heap.size + 1]? = some (.cells #[.int .i64 s1, .int .i64 d1, .int .i64 x.words, .int .i64 x.period] 111 (0, 0))) ∧ wd2.heap.size ≤ wz.heap.size) ⟨⟨((((HB1.out.setCell (p := ⟨w.heap.size + 1, 0, none⟩) (by show w.heap.size ≤ w.heap.size + 1; omega) _).setCell (p := ⟨w.heap.size + 1, 1, none⟩) (by show w.heap.size ≤ w.heap.size + 1; omega) _).setCell (p := ⟨w.heap.size + 1, 2, none⟩) (by show w.heap.size ≤ w.heap.size + 1; omega) _).setCell (p := ⟨w.heap.size + 1, 3, none⟩) (by show w.heap.size ≤ w.heap.size + 1; omega) _)⟩, ⟨(blk_set (blk_set (blk_set (blk_set r1.out 0 _) 1 _) 2 _) 3 _).trans (by simp only [ls0, ls1, ls2])⟩, (by simp [World.setCell])⟩ (sx_of1 ((ButB.set (ButB.set (ButB.set (ButB.set (And.left hHeld) (p := ⟨w.heap.size + 1, 0, none⟩) (by first | (left; simp; done) | (right; show _ ≤ w.heap.size + 1; omega)) _) (p := ⟨w.heap.size + 1, 1, none⟩) (by first | (left; simp; done) | (right; show _ ≤ w.heap.size + 1; omega)) _) (p := ⟨w.heap.size + 1, 2, none⟩) (by first | (left; simp; done) | (right; show _ ≤ w.heap.size + 1; omega)) _) (p := ⟨w.heap.size + 1, 3, none⟩) (by first | (left; simp; done) | (right; show _ ≤ w.heap.size + 1; omega)) _))) (fun wd3 hRn hHn => ?_)
  clear hK K hHeld HB1 r1 sd0 sf0 sd1 sf1 sd2 sf2 sd3 sf3 sl
  obtain ⟨HB1, r1, hsz3⟩ := hRn
  have hHeld := hHn
  clear hHn
  try simp only [Act.put, ls0, ls1, ls2]
  refine wpAnyH_done (by kernel_rfl) ?_ _
  go_wp2
  exact bodyPost_ret (v := .agg #[.int .i64 s1, .int .i64 d1, .int .i64 x.words, .int .i64 x.period]) (results_cell_row rfl _ _ _ _ _ _ _ rfl r1.out Tryz.underlying111 rfl (by kernel_rfl)) rfl ⟨rfl, HB1.out⟩
end
section
theorem ld_st (ws : List Int) (a b v : Int) (ha : 0 ≤ a) (hb : 0 ≤ b) (h : a ≠ b) : ldW (stW ws a v) b = ldW ws b := ldW_st _ _ _ _ (by omega)
theorem slot_at (p : Plc) (x : Int) (h : bit x) : p.src + 1 ≤ p.slot x ∧ p.slot x ≤ p.src + 2 := by
  rcases h with rfl | rfl <;> simp only [Plc.slot] <;> omega
theorem buf_at (p : Plc) (x y : Int) (hx : bit x) (hy : bit y) (hw : 1 ≤ p.words) : p.src + 3 ≤ p.buf x y ∧ p.buf x y + 2 + p.words ≤ p.src + 3 + 4 * (2 + p.words) := by
  rcases hx with rfl | rfl <;> rcases hy with rfl | rfl <;> simp only [Plc.buf] <;> omega
theorem bit_flip (x : Int) : bit (1 - x % 2) := by
  have h : x % 2 = 0 ∨ x % 2 = 1 := by omega
  rcases h with h | h <;> rw [h]
  · exact .inr rfl
  · exact .inl rfl
theorem bit_mod (x : Int) : bit (x % 2) := by
  have h : x % 2 = 0 ∨ x % 2 = 1 := by omega
  exact h
theorem bit_self {x : Int} (h : bit x) : x % 2 = x := by rcases h with rfl | rfl <;> rfl
/-- A store that meets neither the reading word nor the slots changes nothing of it. -/
theorem Inv.store {p : Plc} {ws : List Int} {w : Wr} {r : Rdr} (h : Inv p ws w r) (a v : Int) (ok : p.ok ws.length) (ha : p.src + 3 ≤ a) (hb : a < p.rd) : Inv p (stW ws a v) w r := by
  have hs := ok.src
  have h1 := slot_at p w.pair h.wp
  exact ⟨h.wp, h.wi, h.rp, h.ri, fun c1 c2 => by rw [ld_st ws a p.rd v (by omega) (by omega) (by omega)]; exact h.tell c1 c2,
    fun c1 c2 => by rw [ld_st ws a _ v (by omega) (by omega) (by omega)]; exact h.slot c1 c2,
    fun c1 c2 c3 c4 c5 => by rw [ld_st ws a _ v (by omega) (by omega) (by omega)]; exact h.same c1 c2 c3 c4 c5⟩
theorem Inv.wstep {p : Plc} {ws : List Int} {w : Wr} {r : Rdr} (now : Int) (ok : p.ok ws.length) (h : Inv p ws w r) (hroom : (w.data.length : Int) ≤ p.words) (hin : w.pc = 4 → w.i < w.data.length) : Inv p (wMem p ws now w) (wNext p ws w) r := by
  obtain ⟨pc, data, pair, index, i, marked⟩ := w
  have hs := ok.src
  have hw := ok.words
  have hr := ok.rd
  have h1 := slot_at p pair h.wp
  have h2 := buf_at p pair index h.wp h.wi hw
  obtain ⟨wp, wi, rp, ri, tell, slot, same⟩ := h
  simp only at wp wi tell slot same hroom hin
  have hpc : pc = 0 ∨ pc = 1 ∨ pc = 2 ∨ pc = 3 ∨ pc = 4 ∨ pc = 5 ∨ pc = 6 ∨ 7 ≤ pc := by omega
  rcases hpc with rfl | rfl | rfl | rfl | rfl | rfl | rfl | hp
  · exact ⟨bit_flip _, wi, rp, ri, tell, fun c1 c2 => absurd c1 (by simp [wNext]), fun c1 c2 c3 c4 c5 => by
      have e := tell (by omega) c4
      have c6 : 1 - ldW ws p.rd % 2 = r.pair := c5
      rcases rp with e2 | e2 <;> rw [e2] at e c6 <;> omega⟩
  · exact ⟨wp, bit_flip _, rp, ri, tell, fun c1 c2 => by simp only [wNext, wMem]; omega, fun c1 c2 c3 c4 c5 => same (by omega) (by omega) c3 c4 c5⟩
  · have h3 : Inv p ws ⟨3, data, pair, index, i, marked⟩ r := ⟨wp, wi, rp, ri, tell, fun c1 c2 => slot (by omega) (by omega), fun c1 c2 c3 c4 c5 => same (by omega) (by omega) c3 c4 c5⟩
    exact h3.store (p.buf pair index) _ ok (by omega) (by omega)
  · have h3 : Inv p ws ⟨4, data, pair, index, i, marked⟩ r := ⟨wp, wi, rp, ri, tell, fun c1 c2 => slot (by omega) (by omega), fun c1 c2 c3 c4 c5 => same (by omega) (by omega) c3 c4 c5⟩
    exact h3.store (p.buf pair index + 1) _ ok (by omega) (by omega)
  · have hi := hin rfl
    have h3 : Inv p ws ⟨if i + 1 < data.length then 4 else 5, data, pair, index, i + 1, marked⟩ r := ⟨wp, wi, rp, ri, tell, fun c1 c2 => slot (by omega) (by omega), fun c1 c2 c3 c4 c5 => same (by omega) (by omega) c3 c4 c5⟩
    exact h3.store (p.buf pair index + 2 + i) _ ok (by omega) (by omega)
  · refine ⟨wp, wi, rp, ri, fun c1 c2 => ?_, fun c1 c2 => absurd c2 (by simp [wNext]), fun c1 c2 => absurd c2 (by simp [wNext])⟩
    show ldW (stW ws (p.slot pair) index) p.rd % 2 = r.pair
    rw [ld_st _ _ _ _ (by omega) (by omega) (by omega)]
    exact tell c1 c2
  · refine ⟨wp, wi, rp, ri, fun c1 c2 => ?_, fun c1 c2 => absurd c2 (by simp [wNext]), fun c1 c2 => absurd c2 (by simp [wNext])⟩
    show ldW (stW ws p.src pair) p.rd % 2 = r.pair
    rw [ld_st _ _ _ _ (by omega) (by omega) (by omega)]
    exact tell c1 c2
  · have e1 : wNext p ws ⟨pc, data, pair, index, i, marked⟩ = ⟨pc, data, pair, index, i, marked⟩ := by unfold wNext; split <;> simp_all
    have e2 : wMem p ws now ⟨pc, data, pair, index, i, marked⟩ = ws := by unfold wMem; split <;> simp_all
    rw [e1, e2]
    exact ⟨wp, wi, rp, ri, tell, slot, same⟩
theorem Inv.rstep {p : Plc} {ws : List Int} {w : Wr} {r : Rdr} (ok : p.ok ws.length) (h : Inv p ws w r) : Inv p (rMem p ws r) w (rNext p ws r) := by
  obtain ⟨pc, pair, index, left, stamp, data⟩ := r
  have hs := ok.src
  have hw := ok.words
  have hr := ok.rd
  have hl := ok.len
  have h1 := slot_at p w.pair h.wp
  obtain ⟨wp, wi, rp, ri, tell, slot, same⟩ := h
  simp only at rp ri tell same
  have hpc : pc = 0 ∨ pc = 1 ∨ pc = 2 ∨ pc = 3 ∨ pc = 4 ∨ pc = 5 ∨ 6 ≤ pc := by omega
  rcases hpc with rfl | rfl | rfl | rfl | rfl | rfl | hp
  · exact ⟨wp, wi, bit_mod _, ri, fun c1 => absurd c1 (by simp [rNext]), slot, fun c1 c2 c3 => absurd c3 (by simp [rNext])⟩
  · refine ⟨wp, wi, rp, ri, fun c1 c2 => ?_, fun c1 c2 => ?_, fun c1 c2 c3 => absurd c3 (by simp [rNext])⟩
    · show ldW (stW ws p.rd pair) p.rd % 2 = pair
      rw [ldW_same _ _ _ (by omega)]
      exact bit_self rp
    · show ldW (stW ws p.rd pair) (p.slot w.pair) % 2 = _
      rw [ld_st _ _ _ _ (by omega) (by omega) (by omega)]
      exact slot c1 c2
  · exact ⟨wp, wi, rp, bit_mod _, fun c1 c2 => tell (by omega) (by omega), slot, fun c1 c2 c3 c4 c5 => by
      have c6 : w.pair = pair := c5
      rw [c6]; rfl⟩
  · have e1 : ∃ q l, rNext p ws ⟨3, pair, index, left, stamp, data⟩ = ⟨q, pair, index, l, stamp, data⟩ := by
      simp only [rNext]
      split
      · exact ⟨_, _, rfl⟩
      · exact ⟨_, _, rfl⟩
    obtain ⟨q, l, e1⟩ := e1
    rw [e1]
    exact ⟨wp, wi, rp, ri, fun c1 c2 => tell (by omega) (by omega), slot, fun c1 c2 c3 c4 c5 => same c1 c2 (by omega) (by omega) c5⟩
  · exact ⟨wp, wi, rp, ri, fun c1 c2 => tell (by omega) (by omega), slot, fun c1 c2 c3 c4 c5 => same c1 c2 (by omega) (by omega) c5⟩
  · exact ⟨wp, wi, rp, ri, fun c1 c2 => tell (by omega) (by omega), slot, fun c1 c2 c3 c4 c5 => same c1 c2 (by omega) (by omega) c5⟩
  · have e1 : rNext p ws ⟨pc, pair, index, left, stamp, data⟩ = ⟨pc, pair, index, left, stamp, data⟩ := by unfold rNext; split <;> simp_all
    have e2 : rMem p ws ⟨pc, pair, index, left, stamp, data⟩ = ws := by unfold rMem; split <;> simp_all
    rw [e1, e2]
    exact ⟨wp, wi, rp, ri, tell, slot, same⟩
end
section
open Go.RowKit
set_option linter.unusedSimpArgs false
set_option linter.unusedVariables false
theorem sx3 {p q r : Prop} (h : p ∧ q) (x : r) : p ∧ q ∧ r := ⟨h.1, h.2, x⟩
theorem xc_of {W0 W : World} {b : Nat} {cs cs' : Array Value} {t : TypeId} {fz fz' : Nat × Nat} (h0 : W0.heap[b]? = some (.cells cs t fz)) (h1 : W.heap[b]? = some (.cells cs' t fz')) (j : Nat) (h : ∀ o, o ≠ j → cs'[o]? = cs[o]?) : ∀ o, o ≠ j → W.cell? ⟨b, o, none⟩ = W0.cell? ⟨b, o, none⟩ := fun o ho => by rw [cell_blk h1, cell_blk h0]; exact h o ho
theorem xc_ne {cs : Array Value} (j : Nat) (v : Value) : ∀ o, o ≠ j → (cs.setIfInBounds j v)[o]? = cs[o]? := fun o ho => Array.getElem?_setIfInBounds_ne (Ne.symm ho)
end
end Go.Proofs.YtmidcnfmphlneaaGreat

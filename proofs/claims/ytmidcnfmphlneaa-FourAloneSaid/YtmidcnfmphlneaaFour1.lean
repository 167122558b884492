/- Contracts of package four: the places, a word loaded, a word stored. -/
import Derived.Test.YtmidcnfmphlneaaFourP
import Derived.Test.YtmidcnfmphlneaaMem
import Derived.Test.YtmidcnfmphlneaaLay4
namespace Go.Proofs.Ytmidcnfmphlneaa
open Go.RowKit
set_option linter.unusedSimpArgs false
set_option linter.unusedVariables false

/-- Places that are small. -/
structure Plc.low (p : Plc) : Prop where
  src : 0 ≤ p.src ∧ p.src ≤ 2000
  rd : 0 ≤ p.rd ∧ p.rd ≤ 2000
  words : 1 ≤ p.words ∧ p.words ≤ 16
theorem bit_two (x : Int) (h : bit x) : 0 ≤ x ∧ x ≤ 1 := by rcases h with rfl | rfl <;> omega
set_option maxHeartbeats 1000000 in
theorem slot_any (p : Plc) (hp : p.low) (x : Int) (hx : bit x) (w : World) : Calls Try.prog 38 #[.agg #[.int .i64 p.src, .int .i64 p.rd, .int .i64 p.words, .int .i64 p.period], .int .u32 x] w fun e w' => e = .returned (.int .i64 (p.slot x)) ∧ Below w.heap.size w w' := by
  have hs := hp.src
  have hb := bit_two x hx
  have v1 : IntKind.i64.wrap (p.src + 1) = p.src + 1 := IntWalk.i64_in _ (by omega)
  have v2 : IntKind.i64.wrap x = x := IntWalk.i64_in _ (by omega)
  have v3 : IntKind.i64.wrap (p.src + 1 + x) = p.slot x := IntWalk.i64_in _ (by omega)
  clear hp hx
  go_enter Try.func38, Try.ntmps38
  go_wp2
  go_ret
  exact ⟨rfl, below_al (Below.refl _ _) _⟩
set_option maxHeartbeats 1000000 in
theorem fbuffer_any (p : Plc) (hp : p.low) (x y : Int) (hx : bit x) (hy : bit y) (w : World) : Calls Try.prog 49 #[.agg #[.int .i64 p.src, .int .i64 p.rd, .int .i64 p.words, .int .i64 p.period], .int .u32 x, .int .u32 y] w fun e w' => e = .returned (.int .i64 (p.buf x y)) ∧ Below w.heap.size w w' := by
  have hs := hp.src
  have hw := hp.words
  have hb := bit_two x hx
  have hc := bit_two y hy
  obtain ⟨n, hn⟩ : ∃ n, 2 + p.words = n := ⟨_, rfl⟩
  have hm : 0 ≤ (2 * x + y) * n ∧ (2 * x + y) * n ≤ 54 := by
    have h1 : 2 * x + y = 0 ∨ 2 * x + y = 1 ∨ 2 * x + y = 2 ∨ 2 * x + y = 3 := by omega
    rcases h1 with h1 | h1 | h1 | h1 <;> rw [h1] <;> omega
  have v1 : IntKind.i64.wrap (p.src + 3) = p.src + 3 := IntWalk.i64_in _ (by omega)
  have v2 : IntKind.u32.wrap (2 * x) = 2 * x := IntWalk.u32_in _ (by omega)
  have v3 : IntKind.u32.wrap (2 * x + y) = 2 * x + y := IntWalk.u32_in _ (by omega)
  have v4 : IntKind.i64.wrap (2 * x + y) = 2 * x + y := IntWalk.i64_in _ (by omega)
  have v5 : IntKind.i64.wrap (2 + p.words) = n := (IntWalk.i64_in _ (by omega)).trans hn
  have v6 : IntKind.i64.wrap ((2 * x + y) * n) = (2 * x + y) * n := IntWalk.i64_in _ (by omega)
  have v7 : IntKind.i64.wrap (p.src + 3 + (2 * x + y) * n) = p.buf x y := by rw [Plc.buf, hn]; exact IntWalk.i64_in _ (by omega)
  clear hp hx hy hm
  go_enter Try.func49, Try.ntmps49
  go_wp2
  go_ret
  exact ⟨rfl, below_al (Below.refl _ _) _⟩
set_option maxHeartbeats 1000000 in
theorem fload_any (B D : Nat) (ws : List Int) (a : Int) (h0 : 0 ≤ a) (h1 : a < ws.length) (w : World) (h : MemAt w B D ws) : Calls Try.prog 30 #[.pointer (some ⟨B, 0, none⟩), .int .i64 a] w fun e w' => e = .returned (.int .u32 (ldW ws a)) ∧ w' = w := by
  obtain ⟨i, rfl⟩ := Int.eq_ofNat_of_zero_le h0
  have hi : i < ws.length := by omega
  have hl := h.len
  have HV : Kp (ldW ws (i : Int) = ws[i]) := ⟨by rw [ldW, Int.toNat_natCast, List.getD_eq_getElem?_getD, List.getElem?_eq_getElem hi]; rfl⟩
  have v1 : IntKind.u64.wrap (i : Int) = i := IntWalk.u64_in _ (by omega)
  have H := Kp.mk h
  clear h
  go_enter Try.func30, Try.ntmps30
  go_wp2_with fail
  refine (memLoad_in B D ws i hi _ H.out).mono ?_
  rintro e w1 ⟨rfl, rfl⟩
  go_wp2
  go_ret
  exact ⟨by rw [HV.out]; rfl, rfl⟩
set_option maxHeartbeats 1000000 in
theorem fstore_any (B D : Nat) (ws : List Int) (a v : Int) (h0 : 0 ≤ a) (h1 : a < ws.length) (w : World) (h : MemAt w B D ws) : Calls Try.prog 40 #[.pointer (some ⟨B, 0, none⟩), .int .i64 a, .int .u32 v] w fun e w' => (∃ r, e = .returned r) ∧ w' = w.setCell ⟨D, a.toNat, none⟩ (.int .u32 v) := by
  obtain ⟨i, rfl⟩ := Int.eq_ofNat_of_zero_le h0
  have hi : i < ws.length := by omega
  have hl := h.len
  have v1 : IntKind.u64.wrap (i : Int) = i := IntWalk.u64_in _ (by omega)
  have H := Kp.mk h
  clear h
  go_enter Try.func40, Try.ntmps40
  go_wp2_with fail
  refine (memStore_in B D ws i v hi _ H.out).mono ?_
  rintro e w1 ⟨rfl, rfl⟩
  go_wp2
  go_end0
  exact ⟨⟨_, rfl⟩, by rw [Int.toNat_natCast]⟩
theorem spn_field0 (a b : Int) (w : World) : (Instr.field 85 (.agg #[.int .i64 a, .int .i64 b]) 0).run Try.prog w = .ok (.int .i64 a) w := by kernel_rfl
/-- The places of a channel. -/
def plcC (C : Cfg) (k : Nat) (x : Chn) : Plc := ⟨(srcB C k).1, (dstB C k).1, x.words, x.period⟩

set_option maxRecDepth 100000 in
set_option maxHeartbeats 4000000 in
theorem of_any4 (cv : Value) (C : Cfg) (hsm : C.small) (k : Nat) (hk : k < C.chans.length) (x : Chn) (hx : C.chans[k] = x) (s1 s2 d1 d2 : Int) (hs : srcB C k = (s1, s2)) (hd : dstB C k = (d1, d2)) (w : World) (h : CfgAt w cv C) : Calls Try.prog 22 #[cv, .int .i64 k] w fun e w' => e = .returned (.agg #[.int .i64 s1, .int .i64 d1, .int .i64 x.words, .int .i64 x.period]) ∧ Below w.heap.size w w' := by
  have HC := Kp.mk h
  have HS := Kp.mk hs
  have HD := Kp.mk hd
  have hfd := spn_field0
  obtain ⟨ho, pa, pc, ca, cc, a0, c0, a1, c1, rfl, bp, bc, b0, b1, hp, hc, hw0, hw1⟩ := h
  clear ho hp hw0 hw1 hs hd
  obtain ⟨g, o, rfl, hg, hcc⟩ := hc.at (by omega)
  have HK : Kp (∀ j, j < 7 → w.cell? ⟨g, o + k * 7 + j, none⟩ = (chanC x)[j]?) := ⟨fun j hj => by
    have h1 := hcc (k * 7 + j) (by omega)
    rw [flat_at chanC 7 chanC_len C.chans k j hk hj, hx] at h1
    rw [Nat.add_assoc]
    exact h1⟩
  have hki : (k : Int) < (C.chans.length : Int) := by omega
  have hkn : (0 : Int) ≤ (k : Int) := by omega
  clear hcc hx hc
  go_enter Try.func22, Try.ntmps22
  have HB0 : Kp (Below w.heap.size w w) := ⟨Below.refl _ _⟩
  go_wp2_with fail
  have q1 : Kp (((w.alloc (.cells #[.slice pa C.parts.length pc, .slice (some ⟨g, o, none⟩) C.chans.length cc, .int .i64 C.l0, .slice a0 C.w0.length c0, .int .i64 C.l1, .slice a1 C.w1.length c1] 31)).alloc (.cells #[.int .i64 0, .int .i64 0, .int .i64 0, .int .i64 0] 71)).heap[w.heap.size]? = some (.cells #[.slice pa C.parts.length pc, .slice (some ⟨g, o, none⟩) C.chans.length cc, .int .i64 C.l0, .slice a0 C.w0.length c0, .int .i64 C.l1, .slice a1 C.w1.length c1] 31 (0, 0))) := ⟨(blk_al (blk_new _ _) _)⟩
  have r1 : Kp (((w.alloc (.cells #[.slice pa C.parts.length pc, .slice (some ⟨g, o, none⟩) C.chans.length cc, .int .i64 C.l0, .slice a0 C.w0.length c0, .int .i64 C.l1, .slice a1 C.w1.length c1] 31)).alloc (.cells #[.int .i64 0, .int .i64 0, .int .i64 0, .int .i64 0] 71)).heap[w.heap.size + 1]? = some (.cells #[.int .i64 0, .int .i64 0, .int .i64 0, .int .i64 0] 71 (0, 0))) := ⟨(blk_at (w := (w.alloc (.cells #[.slice pa C.parts.length pc, .slice (some ⟨g, o, none⟩) C.chans.length cc, .int .i64 C.l0, .slice a0 C.w0.length c0, .int .i64 C.l1, .slice a1 C.w1.length c1] 31))) (by simp) _)⟩
  have HB1 : Kp (Below w.heap.size w ((w.alloc (.cells #[.slice pa C.parts.length pc, .slice (some ⟨g, o, none⟩) C.chans.length cc, .int .i64 C.l0, .slice a0 C.w0.length c0, .int .i64 C.l1, .slice a1 C.w1.length c1] 31)).alloc (.cells #[.int .i64 0, .int .i64 0, .int .i64 0, .int .i64 0] 71))) := ⟨(below_al (below_al HB0.out _) _)⟩
  clear HB0
  generalize ((w.alloc (.cells #[.slice pa C.parts.length pc, .slice (some ⟨g, o, none⟩) C.chans.length cc, .int .i64 C.l0, .slice a0 C.w0.length c0, .int .i64 C.l1, .slice a1 C.w1.length c1] 31)).alloc (.cells #[.int .i64 0, .int .i64 0, .int .i64 0, .int .i64 0] 71)) = w1 at q1 r1 HB1 ⊢
  have qc0 : w1.cell? ⟨w.heap.size, 0, none⟩ = some (.slice pa C.parts.length pc) := (cell_blk q1.out 0).trans rfl
  have qc1 : w1.cell? ⟨w.heap.size, 1, none⟩ = some (.slice (some ⟨g, o, none⟩) C.chans.length cc) := (cell_blk q1.out 1).trans rfl
  have qc2 : w1.cell? ⟨w.heap.size, 2, none⟩ = some (.int .i64 C.l0) := (cell_blk q1.out 2).trans rfl
  have qc3 : w1.cell? ⟨w.heap.size, 3, none⟩ = some (.slice a0 C.w0.length c0) := (cell_blk q1.out 3).trans rfl
  have qc4 : w1.cell? ⟨w.heap.size, 4, none⟩ = some (.int .i64 C.l1) := (cell_blk q1.out 4).trans rfl
  have qc5 : w1.cell? ⟨w.heap.size, 5, none⟩ = some (.slice a1 C.w1.length c1) := (cell_blk q1.out 5).trans rfl
  have ql := blk_lt q1.out
  have rc0 : w1.cell? ⟨w.heap.size + 1, 0, none⟩ = some (.int .i64 0) := (cell_blk r1.out 0).trans rfl
  have rc1 : w1.cell? ⟨w.heap.size + 1, 1, none⟩ = some (.int .i64 0) := (cell_blk r1.out 1).trans rfl
  have rc2 : w1.cell? ⟨w.heap.size + 1, 2, none⟩ = some (.int .i64 0) := (cell_blk r1.out 2).trans rfl
  have rc3 : w1.cell? ⟨w.heap.size + 1, 3, none⟩ = some (.int .i64 0) := (cell_blk r1.out 3).trans rfl
  have rl := blk_lt r1.out
  have e3 : w1.cell? ⟨g, o + k * 7 + 3, none⟩ = some (.int .i64 x.words) := (HB1.out.cell (p := ⟨g, o + k * 7 + 3, none⟩) hg).trans (HK.out 3 (by omega))
  have e5 : w1.cell? ⟨g, o + k * 7 + 5, none⟩ = some (.int .i64 x.period) := (HB1.out.cell (p := ⟨g, o + k * 7 + 5, none⟩) hg).trans (HK.out 5 (by omega))
  have gl : g < w1.heap.size := Nat.lt_of_lt_of_le hg HB1.out.size
  have hn0 : w.heap.size ≠ w.heap.size + 1 := by omega
  have hng : g ≠ w.heap.size + 1 := by omega
  refine held_start_gen (S := (fun w' : World => ButB (w1.heap.size) [w.heap.size + 1] w1 w' ∧ ∀ bb o, bb < w1.heap.size → bb ≠ w.heap.size + 1 → w'.cell? ⟨bb, o, none⟩ = w1.cell? ⟨bb, o, none⟩)) (by kernel_rfl) (fun wz : World => Kp (Below w.heap.size w wz) ∧ Kp (wz.heap[w.heap.size + 1]? = some (.cells #[.int .i64 0, .int .i64 0, .int .i64 0, .int .i64 0] 71 (0, 0))) ∧ w1.heap.size ≤ wz.heap.size) ⟨⟨below_dr HB1.out⟩, ⟨blk_dr r1.out⟩, Nat.le_refl _⟩ (sx_of1 (ButB.dr (ButB.refl _ (by omega)))) (fun wd0 hRn hHeld => ?_)
  clear HB1 r1
  obtain ⟨HB1, r1, hsz⟩ := hRn
  refine wpAnyH_take (i := 0) (oi := ⟨_, _, _, _, _, _⟩) (v := ?_) rfl (by kernel_rfl) (by kernel_rfl) (by kernel_rfl) (fun _ _ _ h => h) (Or.inl ⟨by rfl, ?_⟩) (by assumption) ?_
  rotate_left 1
  · (intro w hSw; go_simp; try with_reducible rfl)
  try simp only [Act.put, List.setIfInBounds_toArray, List.set_cons_zero, List.set_cons_succ]
  refine wpAnyH_take (i := 1) (oi := ⟨_, _, _, _, _, _⟩) (v := ?_) rfl (by kernel_rfl) (by kernel_rfl) (by kernel_rfl) (fun _ _ _ h => h) (Or.inl ⟨by rfl, ?_⟩) (by assumption) ?_
  rotate_left 1
  · (intro w hSw; go_simp; try with_reducible rfl)
  try simp only [Act.put, List.setIfInBounds_toArray, List.set_cons_zero, List.set_cons_succ]
  refine wpAnyH_take (i := 4) (oi := ⟨_, _, _, _, _, _⟩) (v := ?_) rfl (by kernel_rfl) (by kernel_rfl) (by kernel_rfl) (fun _ _ _ h => h) (Or.inl ⟨by rfl, ?_⟩) (by assumption) ?_
  rotate_left 1
  · (intro w hSw; go_simp; try with_reducible rfl)
  try simp only [Act.put, List.setIfInBounds_toArray, List.set_cons_zero, List.set_cons_succ]
  refine wpAnyH_take (i := 5) (oi := ⟨_, _, _, _, _, _⟩) (v := ?_) rfl (by kernel_rfl) (by kernel_rfl) (by kernel_rfl) (fun _ _ _ h => h) (Or.inl ⟨by rfl, ?_⟩) (by assumption) ?_
  rotate_left 1
  · (intro w hSw; go_simp; try with_reducible rfl)
  try simp only [Act.put, List.setIfInBounds_toArray, List.set_cons_zero, List.set_cons_succ]
  refine wpAnyH_take (i := 8) (oi := ⟨_, _, _, _, _, _⟩) (v := ?_) rfl (by kernel_rfl) (by kernel_rfl) (by kernel_rfl) (fun _ _ _ h => h) (Or.inl ⟨by rfl, ?_⟩) (by assumption) ?_
  rotate_left 1
  · (intro w hSw; go_simp; try with_reducible rfl)
  try simp only [Act.put, List.setIfInBounds_toArray, List.set_cons_zero, List.set_cons_succ]
  refine wpAnyH_take (i := 9) (oi := ⟨_, _, _, _, _, _⟩) (v := ?_) rfl (by kernel_rfl) (by kernel_rfl) (by kernel_rfl) (fun _ _ _ h => h) (Or.inl ⟨by rfl, ?_⟩) (by assumption) ?_
  rotate_left 1
  · (intro w hSw; go_simp; try with_reducible rfl)
  try simp only [Act.put, List.setIfInBounds_toArray, List.set_cons_zero, List.set_cons_succ]
  refine wpAnyH_take (i := 10) (oi := ⟨_, _, _, _, _, _⟩) (v := ?_) rfl (by kernel_rfl) (by kernel_rfl) (by kernel_rfl) (fun _ _ _ h => h) (Or.inl ⟨by rfl, ?_⟩) (by assumption) ?_
  rotate_left 1
  · (intro w hSw; go_simp; try with_reducible rfl)
  try simp only [Act.put, List.setIfInBounds_toArray, List.set_cons_zero, List.set_cons_succ]
  refine wpAnyH_take (i := 11) (oi := ⟨_, _, _, _, _, _⟩) (v := ?_) rfl (by kernel_rfl) (by kernel_rfl) (by kernel_rfl) (fun _ _ _ h => h) (Or.inl ⟨by rfl, ?_⟩) (by assumption) ?_
  rotate_left 1
  · (intro w hSw; go_simp; try with_reducible rfl)
  try simp only [Act.put, List.setIfInBounds_toArray, List.set_cons_zero, List.set_cons_succ]
  refine wpAnyH_take (i := 12) (oi := ⟨_, _, _, _, _, _⟩) (v := ?_) rfl (by kernel_rfl) (by kernel_rfl) (by kernel_rfl) (fun _ _ _ h => h) (Or.inl ⟨by rfl, ?_⟩) (by assumption) ?_
  rotate_left 1
  · (intro w hSw; go_simp; try with_reducible rfl)
  try simp only [Act.put, List.setIfInBounds_toArray, List.set_cons_zero, List.set_cons_succ]
  refine wpAnyH_take (i := 13) (oi := ⟨_, _, _, _, _, _⟩) (v := ?_) rfl (by kernel_rfl) (by kernel_rfl) (by kernel_rfl) (fun _ _ _ h => h) (Or.inl ⟨by rfl, ?_⟩) (by assumption) ?_
  rotate_left 1
  · (intro w hSw; go_simp; try with_reducible rfl)
  try simp only [Act.put, List.setIfInBounds_toArray, List.set_cons_zero, List.set_cons_succ]
  refine wpAnyH_take (i := 14) (oi := ⟨_, _, _, _, _, _⟩) (v := ?_) rfl (by kernel_rfl) (by kernel_rfl) (by kernel_rfl) (fun _ _ _ h => h) (Or.inl ⟨by rfl, ?_⟩) (by assumption) ?_
  rotate_left 1
  · (intro w hSw; go_simp; try with_reducible rfl)
  try simp only [Act.put, List.setIfInBounds_toArray, List.set_cons_zero, List.set_cons_succ]
  refine wpAnyH_take (i := 15) (oi := ⟨_, _, _, _, _, _⟩) (v := ?_) rfl (by kernel_rfl) (by kernel_rfl) (by kernel_rfl) (fun _ _ _ h => h) (Or.inl ⟨by rfl, ?_⟩) (by assumption) ?_
  rotate_left 1
  · (intro w hSw; go_simp; try with_reducible rfl)
  try simp only [Act.put, List.setIfInBounds_toArray, List.set_cons_zero, List.set_cons_succ]
  refine wpAnyH_take (i := 16) (oi := ⟨_, _, _, _, _, _⟩) (v := ?_) rfl (by kernel_rfl) (by kernel_rfl) (by kernel_rfl) (fun _ _ _ h => h) (Or.inl ⟨by rfl, ?_⟩) (by assumption) ?_
  rotate_left 1
  · (intro w hSw; go_simp; try with_reducible rfl)
  try simp only [Act.put, List.setIfInBounds_toArray, List.set_cons_zero, List.set_cons_succ]
  refine wpAnyH_take (i := 17) (oi := ⟨_, _, _, _, _, _⟩) (v := ?_) rfl (by kernel_rfl) (by kernel_rfl) (by kernel_rfl) (fun _ _ _ h => h) (Or.inl ⟨by rfl, ?_⟩) (by assumption) ?_
  rotate_left 1
  · (intro w hSw; go_simp; try with_reducible rfl)
  try simp only [Act.put, List.setIfInBounds_toArray, List.set_cons_zero, List.set_cons_succ]
  refine wpAnyH_take (i := 18) (oi := ⟨_, _, _, _, _, _⟩) (v := ?_) rfl (by kernel_rfl) (by kernel_rfl) (by kernel_rfl) (fun _ _ _ h => h) (Or.inl ⟨by rfl, ?_⟩) (by assumption) ?_
  rotate_left 1
  · (intro w hSw; go_simp; try with_reducible rfl)
  try simp only [Act.put, List.setIfInBounds_toArray, List.set_cons_zero, List.set_cons_succ]
  refine wpAnyH_take (i := 19) (oi := ⟨_, _, _, _, _, _⟩) (v := ?_) rfl (by kernel_rfl) (by kernel_rfl) (by kernel_rfl) (fun _ _ _ h => h) (Or.inl ⟨by rfl, ?_⟩) (by assumption) ?_
  rotate_left 1
  · (intro w hSw; go_simp; try with_reducible rfl)
  try simp only [Act.put, List.setIfInBounds_toArray, List.set_cons_zero, List.set_cons_succ]
  refine wpAnyH_ready (rs := [2]) (by kernel_rfl) (by simp) ?_
  refine (AllReadyH.cons (o := ⟨_, _, _, _, _, _⟩) rfl (fun K hK => ?_) AllReadyH.nil)
  go_simp
  go_at_call 28
  refine (source_any _ C hsm k _ (HC.out.below HB1.out)).mono ?_
  rw [HS.out]
  rintro e w9 ⟨rfl, hb⟩
  try go_wp2_with fail
  refine out_gen hK _ _ (fun wz : World => Kp (Below w.heap.size w wz) ∧ Kp (wz.heap[w.heap.size + 1]? = some (.cells #[.int .i64 0, .int .i64 0, .int .i64 0, .int .i64 0] 71 (0, 0))) ∧ wd0.heap.size ≤ wz.heap.size) ⟨⟨below_call HB1.out hb⟩, ⟨blk_below r1.out hb⟩, hb.size⟩ (sx_of1 (ButB.call (And.left hHeld) hb)) (fun wd1 hRn hHn => ?_)
  clear hK K hHeld HB1 r1 hb
  obtain ⟨HB1, r1, hsz1⟩ := hRn
  have hHeld := hHn
  clear hHn
  try simp only [Act.put, List.setIfInBounds_toArray, List.set_cons_zero, List.set_cons_succ]
  refine wpAnyH_take (i := 3) (oi := ⟨_, _, _, _, _, _⟩) (v := ?_) rfl (by kernel_rfl) (by kernel_rfl) (by kernel_rfl) (fun _ _ _ h => h) (Or.inl ⟨by rfl, ?_⟩) (by assumption) ?_
  rotate_left 1
  · (intro w hSw; go_simp; try with_reducible rfl)
  try simp only [Act.put, List.setIfInBounds_toArray, List.set_cons_zero, List.set_cons_succ]
  refine wpAnyH_ready (rs := [6]) (by kernel_rfl) (by simp) ?_
  refine (AllReadyH.cons (o := ⟨_, _, _, _, _, _⟩) rfl (fun K hK => ?_) AllReadyH.nil)
  go_simp
  go_at_call 29
  refine (dest_any _ C hsm k _ (HC.out.below HB1.out)).mono ?_
  rw [HD.out]
  rintro e w9 ⟨rfl, hb⟩
  try go_wp2_with fail
  refine out_gen hK _ _ (fun wz : World => Kp (Below w.heap.size w wz) ∧ Kp (wz.heap[w.heap.size + 1]? = some (.cells #[.int .i64 0, .int .i64 0, .int .i64 0, .int .i64 0] 71 (0, 0))) ∧ wd1.heap.size ≤ wz.heap.size) ⟨⟨below_call HB1.out hb⟩, ⟨blk_below r1.out hb⟩, hb.size⟩ (sx_of1 (ButB.call (And.left hHeld) hb)) (fun wd2 hRn hHn => ?_)
  clear hK K hHeld HB1 r1 hb
  obtain ⟨HB1, r1, hsz2⟩ := hRn
  have hHeld := hHn
  clear hHn
  try simp only [Act.put, List.setIfInBounds_toArray, List.set_cons_zero, List.set_cons_succ]
  refine wpAnyH_take (i := 7) (oi := ⟨_, _, _, _, _, _⟩) (v := ?_) rfl (by kernel_rfl) (by kernel_rfl) (by kernel_rfl) (fun _ _ _ h => h) (Or.inl ⟨by rfl, ?_⟩) (by assumption) ?_
  rotate_left 1
  · (intro w hSw; go_simp; try with_reducible rfl)
  try simp only [Act.put, List.setIfInBounds_toArray, List.set_cons_zero, List.set_cons_succ]
  refine wpAnyH_take (i := 20) (oi := ⟨_, _, _, _, _, _⟩) (v := ?_) rfl (by kernel_rfl) (by kernel_rfl) (by kernel_rfl) (fun _ _ _ h => h) (Or.inl ⟨by rfl, ?_⟩) (by assumption) ?_
  rotate_left 1
  · (intro w hSw; go_simp; try with_reducible rfl)
  try simp only [Act.put, List.setIfInBounds_toArray, List.set_cons_zero, List.set_cons_succ]
  refine wpAnyH_ready (rs := [21]) (by kernel_rfl) (by simp) ?_
  refine (AllReadyH.cons (o := ⟨_, _, _, _, _, _⟩) rfl (fun K hK => ?_) AllReadyH.nil)
  have sd0 : wd2.cell? ⟨w.heap.size + 1, 0, none⟩ = some (.int .i64 0) := (cell_blk r1.out 0).trans rfl
  have sf0 : wd2.frozen? ⟨w.heap.size + 1, 0, none⟩ = false := frozen_blk r1.out 0
  have sd1 : wd2.cell? ⟨w.heap.size + 1, 1, none⟩ = some (.int .i64 0) := (cell_blk r1.out 1).trans rfl
  have sf1 : wd2.frozen? ⟨w.heap.size + 1, 1, none⟩ = false := frozen_blk r1.out 1
  have sd2 : wd2.cell? ⟨w.heap.size + 1, 2, none⟩ = some (.int .i64 0) := (cell_blk r1.out 2).trans rfl
  have sf2 : wd2.frozen? ⟨w.heap.size + 1, 2, none⟩ = false := frozen_blk r1.out 2
  have sd3 : wd2.cell? ⟨w.heap.size + 1, 3, none⟩ = some (.int .i64 0) := (cell_blk r1.out 3).trans rfl
  have sf3 : wd2.frozen? ⟨w.heap.size + 1, 3, none⟩ = false := frozen_blk r1.out 3
  have sl := blk_lt r1.out
  go_simp
  try go_wp2_with fail
  refine out_gen hK _ _ (fun wz : World => Kp (Below w.heap.size w wz) ∧ Kp (wz.heap[w.heap.size + 1]? = some (.cells #[.int .i64 s1, .int .i64 d1, .int .i64 x.words, .int .i64 x.period] 71 (0, 0))) ∧ wd2.heap.size ≤ wz.heap.size) ⟨⟨((((HB1.out.setCell (p := ⟨w.heap.size + 1, 0, none⟩) (by show w.heap.size ≤ w.heap.size + 1; omega) _).setCell (p := ⟨w.heap.size + 1, 1, none⟩) (by show w.heap.size ≤ w.heap.size + 1; omega) _).setCell (p := ⟨w.heap.size + 1, 2, none⟩) (by show w.heap.size ≤ w.heap.size + 1; omega) _).setCell (p := ⟨w.heap.size + 1, 3, none⟩) (by show w.heap.size ≤ w.heap.size + 1; omega) _)⟩, ⟨(blk_set (blk_set (blk_set (blk_set r1.out 0 _) 1 _) 2 _) 3 _).trans (by simp only [List.setIfInBounds_toArray, List.set_cons_zero, List.set_cons_succ])⟩, (by simp [World.setCell])⟩ (sx_of1 ((ButB.set (ButB.set (ButB.set (ButB.set (And.left hHeld) (p := ⟨w.heap.size + 1, 0, none⟩) (by first | (left; simp; done) | (right; show w1.heap.size ≤ w.heap.size + 1; omega)) _) (p := ⟨w.heap.size + 1, 1, none⟩) (by first | (left; simp; done) | (right; show w1.heap.size ≤ w.heap.size + 1; omega)) _) (p := ⟨w.heap.size + 1, 2, none⟩) (by first | (left; simp; done) | (right; show w1.heap.size ≤ w.heap.size + 1; omega)) _) (p := ⟨w.heap.size + 1, 3, none⟩) (by first | (left; simp; done) | (right; show w1.heap.size ≤ w.heap.size + 1; omega)) _))) (fun wd3 hRn hHn => ?_)
  clear hK K hHeld HB1 r1 sd0 sf0 sd1 sf1 sd2 sf2 sd3 sf3 sl
  obtain ⟨HB1, r1, hsz3⟩ := hRn
  have hHeld := hHn
  clear hHn
  try simp only [Act.put, List.setIfInBounds_toArray, List.set_cons_zero, List.set_cons_succ]
  refine wpAnyH_done (by kernel_rfl) ?_ _
  go_wp2
  exact bodyPost_ret (v := .agg #[.int .i64 s1, .int .i64 d1, .int .i64 x.words, .int .i64 x.period]) (results_cell_row rfl _ _ _ _ _ _ _ rfl r1.out Try.underlying71 rfl (by kernel_rfl)) rfl ⟨rfl, HB1.out⟩
end Go.Proofs.Ytmidcnfmphlneaa

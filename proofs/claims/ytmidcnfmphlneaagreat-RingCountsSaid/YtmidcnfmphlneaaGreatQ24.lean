/- Layer 12: its examples hold. -/
import Derived.Test.YtmidcnfmphlneaaGreatQ21
import Derived.Test.YtmidcnfmphlneaaGreatQ23
namespace Go.Proofs.YtmidcnfmphlneaaGreat
open Go.RowKit
set_option linter.unusedSimpArgs false
set_option linter.unusedVariables false
def zW : Rs := { rs0 1 1 7 5 with s := ⟨0, 7, [1], 2⟩, sOn := true, r := ⟨0, 7, 0, [], 2⟩, rOn := true }
def sIt (p : Pl) : Nat → Rs → Rs
  | 0, z => z
  | k + 1, z => stepS p (sIt p k z)
theorem zW_recv : (qDid (pl12 1 1) zW.ws zW.r).done = true ∧ (qDid (pl12 1 1) zW.ws zW.r).code = 2 ∧ (qDid (pl12 1 1) zW.ws zW.r).data = [] := by decide +kernel
theorem zW_send (k : Nat) (hk : k ≤ 4) : (sIt (pl12 1 1) k (stepQ (pl12 1 1) zW)).sOn = true ∧ (sDid (pl12 1 1) (sIt (pl12 1 1) k (stepQ (pl12 1 1) zW)).ws (sIt (pl12 1 1) k (stepQ (pl12 1 1) zW)).s).done = decide (k = 4) ∧ (sDid (pl12 1 1) (sIt (pl12 1 1) k (stepQ (pl12 1 1) zW)).ws (sIt (pl12 1 1) k (stepQ (pl12 1 1) zW)).s).ring = decide (k = 4) ∧ (sIt (pl12 1 1) k (stepQ (pl12 1 1) zW)).s.data = [1] := by
  match k, hk with
  | 0, _ => decide +kernel
  | 1, _ => decide +kernel
  | 2, _ => decide +kernel
  | 3, _ => decide +kernel
  | 4, _ => decide +kernel
  | n + 5, h => omega
set_option maxRecDepth 100000 in
set_option maxHeartbeats 8000000 in
theorem wakes12_any (w : World) : Calls Tryz.prog 30 #[] w fun e w' => e = .returned (.bool true) ∧ Below w.heap.size w w' := by
  have hi : In12 1 1 7 := ⟨by omega, .inl rfl, by omega⟩
  have hfd := did_field12
  have HWS := Kp.mk zW_send
  go_enter Tryz.func30, Tryz.ntmps30
  have HB0 : Kp (Below w.heap.size w w) := ⟨Below.refl _ _⟩
  go_wp2_with fail
  refine (two12_any 1 1 7 _ (two12_ok 1 1 7 hi)).mono ?_
  rintro e w2 ⟨cs, rfl, hC, hb⟩
  have HB2 : Kp (Below w.heap.size w w2) := ⟨below_call HB0.out hb⟩
  obtain ⟨kc, rfl, hKC⟩ := cf12_of hC hi
  have HK := Kp.mk hKC
  clear HB0 hb hC hKC
  go_wp2_with fail
  refine (begin12_any 5 (by decide) _ HK.out).mono ?_
  rintro e w3 ⟨P, B, D, BB, rfl, hP, hBB0⟩
  have hP0 := hP.core.own hP.blk hP.pl
  have HP1 : Kp (w3.heap[P]? = some (.cells #[.slice kc.pa 2 kc.pc, .slice (some ⟨kc.cg, kc.co, none⟩) 1 kc.cc, .int .i64 1, .slice kc.a0 1 kc.c0, .int .i64 1, .slice kc.a1 1 kc.c1, .pointer (some ⟨B, 0, none⟩), .pointer (some ⟨BB, 0, none⟩), .pointer none, .pointer none, .int .u32 7, .int .u32 7, .int .i64 0, .int .i64 0, .int .i64 0, .int .i64 0, .int .i64 0] 77 (0, 0))) := ⟨by have h1 := hP.blk; exact h1⟩
  have HC1 : Kp (Core w2 w3 P B D BB 1 1 (rs0 1 1 7 5) 0 0 (fun _ => False) (fun _ => False) [false, false]) := ⟨hP.core⟩
  have lP := blk_lt hP.blk
  have lD := blk_lt hP.core.mem.words
  have lB := blk_lt hP.core.mem.head
  have lBB := hP.core.bell.lt
  have l23 := hP.core.low.size
  clear hP
  have c0 := cbk HP1.out 0 (.slice kc.pa 2 kc.pc) rfl
  have c1 := cbk HP1.out 1 (.slice (some ⟨kc.cg, kc.co, none⟩) 1 kc.cc) rfl
  have c2 := cbk HP1.out 2 (.int .i64 1) rfl
  have c3 := cbk HP1.out 3 (.slice kc.a0 1 kc.c0) rfl
  have c4 := cbk HP1.out 4 (.int .i64 1) rfl
  have c5 := cbk HP1.out 5 (.slice kc.a1 1 kc.c1) rfl
  have c6 := cbk HP1.out 6 (.pointer (some ⟨B, 0, none⟩)) rfl
  have c7 := cbk HP1.out 7 (.pointer (some ⟨BB, 0, none⟩)) rfl
  have c8 := cbk HP1.out 8 (.pointer none) rfl
  have c9 := cbk HP1.out 9 (.pointer none) rfl
  have c10 := cbk HP1.out 10 (.int .u32 7) rfl
  have c11 := cbk HP1.out 11 (.int .u32 7) rfl
  have c12 := cbk HP1.out 12 (.int .i64 0) rfl
  have c13 := cbk HP1.out 13 (.int .i64 0) rfl
  have c14 := cbk HP1.out 14 (.int .i64 0) rfl
  have c15 := cbk HP1.out 15 (.int .i64 0) rfl
  have c16 := cbk HP1.out 16 (.int .i64 0) rfl
  go_wp2_with fail
  have HX0 : Kp (w3.heap[P]? = some (.cells #[.slice kc.pa 2 kc.pc, .slice (some ⟨kc.cg, kc.co, none⟩) 1 kc.cc, .int .i64 1, .slice kc.a0 1 kc.c0, .int .i64 1, .slice kc.a1 1 kc.c1, .pointer (some ⟨B, 0, none⟩), .pointer (some ⟨BB, 0, none⟩), .pointer none, .pointer none, .int .u32 7, .int .u32 7, .int .i64 0, .int .i64 0, .int .i64 0, .int .i64 0, .int .i64 0] 77 (0, 0))) := ⟨HP1.out⟩
  refine held_start_gen (S := (fun w' : World => ∀ o, o ≠ 99 → w'.cell? ⟨P, o, none⟩ = w3.cell? ⟨P, o, none⟩)) (by kernel_rfl) (fun wz : World => Kp (wz.heap[P]? = some (.cells #[.slice kc.pa 2 kc.pc, .slice (some ⟨kc.cg, kc.co, none⟩) 1 kc.cc, .int .i64 1, .slice kc.a0 1 kc.c0, .int .i64 1, .slice kc.a1 1 kc.c1, .pointer (some ⟨B, 0, none⟩), .pointer (some ⟨BB, 0, none⟩), .pointer none, .pointer none, .int .u32 7, .int .u32 7, .int .i64 0, .int .i64 0, .int .i64 0, .int .i64 0, .int .i64 0] 77 (0, 0))) ∧ Kp (Core w2 wz P B D BB 1 1 (rs0 1 1 7 5) 0 0 (fun _ => False) (fun _ => False) [false, false]) ∧ w3.heap.size ≤ wz.heap.size) ⟨⟨blk_dr HP1.out⟩, ⟨HC1.out.dr⟩, Nat.le_refl _⟩ (xc_of (fz' := (0, 0)) HX0.out (blk_dr HP1.out) 99 (fun _ _ => rfl)) (fun wd0 hRn hHeld => ?_)
  clear HP1 HC1
  obtain ⟨HP1, HC1, hsz⟩ := hRn
  refine wtk 0 ?_ rfl (.inl ⟨by rfl, ?_⟩) ?_
  rotate_left 1
  · (intro w hSw; go_simp; try with_reducible rfl)
  try simp only [Act.put, ls0, ls1, ls2]
  refine wtk 1 ?_ rfl (.inl ⟨by rfl, ?_⟩) ?_
  rotate_left 1
  · (intro w hSw; go_simp; try with_reducible rfl)
  try simp only [Act.put, ls0, ls1, ls2]
  refine wtk 2 ?_ rfl (.inl ⟨by rfl, ?_⟩) ?_
  rotate_left 1
  · (intro w hSw; go_simp; try with_reducible rfl)
  try simp only [Act.put, ls0, ls1, ls2]
  refine wtk 3 ?_ rfl (.inl ⟨by rfl, ?_⟩) ?_
  rotate_left 1
  · (intro w hSw; go_simp; try with_reducible rfl)
  try simp only [Act.put, ls0, ls1, ls2]
  refine wtk 6 ?_ rfl (.inl ⟨by rfl, ?_⟩) ?_
  rotate_left 1
  · (intro w hSw; go_simp; try with_reducible rfl)
  try simp only [Act.put, ls0, ls1, ls2]
  refine wtk 7 ?_ rfl (.inl ⟨by rfl, ?_⟩) ?_
  rotate_left 1
  · (intro w hSw; go_simp; try with_reducible rfl)
  try simp only [Act.put, ls0, ls1, ls2]
  refine wtk 8 ?_ rfl (.inl ⟨by rfl, ?_⟩) ?_
  rotate_left 1
  · (intro w hSw; go_simp; try with_reducible rfl)
  try simp only [Act.put, ls0, ls1, ls2]
  refine wtk 9 ?_ rfl (.inl ⟨by rfl, ?_⟩) ?_
  rotate_left 1
  · (intro w hSw; go_simp; try with_reducible rfl)
  try simp only [Act.put, ls0, ls1, ls2]
  refine wrd [4] ?_
  refine (arc rfl (fun K hK => ?_) arn)
  have ge_qa : w3.heap.size ≤ wd0.heap.size := (by omega)
  go_simp
  try go_wp2_with fail
  refine out_gen hK _ _ (fun wz : World => Kp (wz.heap[P]? = some (.cells #[.slice kc.pa 2 kc.pc, .slice (some ⟨kc.cg, kc.co, none⟩) 1 kc.cc, .int .i64 1, .slice kc.a0 1 kc.c0, .int .i64 1, .slice kc.a1 1 kc.c1, .pointer (some ⟨B, 0, none⟩), .pointer (some ⟨BB, 0, none⟩), .pointer none, .pointer none, .int .u32 7, .int .u32 7, .int .i64 0, .int .i64 0, .int .i64 0, .int .i64 0, .int .i64 0] 77 (0, 0))) ∧ Kp (Core w2 wz P B D BB 1 1 (rs0 1 1 7 5) 0 0 (fun _ => False) (fun _ => False) [false, false]) ∧ Kp (wz.heap[wd0.heap.size]? = some (.cells #[.int .u32 1] 41 (0, 0))) ∧ wd0.heap.size < wz.heap.size) ⟨⟨blk_al HP1.out _⟩, ⟨HC1.out.al _⟩, ⟨blk_new wd0 _⟩, (by simp)⟩ (xc_of (fz' := (0, 0)) HX0.out (blk_al HP1.out _) 99 (fun _ _ => rfl)) (fun wd1 hRn hHn => ?_)
  clear hK K hHeld HP1 HC1
  obtain ⟨HP1, HC1, qa, hsz1⟩ := hRn
  have hHeld := hHn
  clear hHn
  try simp only [Act.put, ls0, ls1, ls2]
  have lt_qa := blk_lt qa.out
  refine wrd [5] ?_
  refine (arc rfl (fun K hK => ?_) arn)
  go_simp
  go_at_call 38
  refine (send_two 7 (by omega) _ [1] (by decide) _ (HK.out.below HC1.out.low) (row_blk qa.out rfl rfl (by decide))).mono ?_
  rintro e w5 ⟨OS, QB1, OB1, bs1, g1, cap1, ps1, rfl, hN1, hb⟩
  obtain ⟨S1, hS1⟩ : ∃ S1 : Nat → Prop, S1 = fun k => wd1.heap.size ≤ k ∧ k < w5.heap.size := ⟨_, rfl⟩
  have hPw := blk_lt HP1.out
  try go_wp2_with fail
  refine out_gen hK _ _ (fun wz : World => Kp (wz.heap[P]? = some (.cells #[.slice kc.pa 2 kc.pc, .slice (some ⟨kc.cg, kc.co, none⟩) 1 kc.cc, .int .i64 1, .slice kc.a0 1 kc.c0, .int .i64 1, .slice kc.a1 1 kc.c1, .pointer (some ⟨B, 0, none⟩), .pointer (some ⟨BB, 0, none⟩), .pointer none, .pointer none, .int .u32 7, .int .u32 7, .int .i64 0, .int .i64 0, .int .i64 0, .int .i64 0, .int .i64 0] 77 (0, 0))) ∧ Kp (Core w2 wz P B D BB 1 1 { rs0 1 1 7 5 with s := ⟨0, 7, [1], (qu12 1 1 7).cell⟩, sOn := true } OS 0 S1 (fun _ => False) [false, false]) ∧ Kp (¬ S1 P) ∧ wd1.heap.size ≤ wz.heap.size) ⟨⟨blk_below HP1.out hb⟩, ⟨by rw [hS1]; exact HC1.out.newS hPw hb hN1 (by decide) (by omega)⟩, ⟨by rw [hS1]; rintro ⟨hk, _⟩; omega⟩, hb.size⟩ (xc_of (fz' := (0, 0)) HX0.out (blk_below HP1.out hb) 99 (fun _ _ => rfl)) (fun wd2 hRn hHn => ?_)
  clear hK K hHeld HP1 HC1 qa hb hN1 hS1 hPw lt_qa ge_qa
  obtain ⟨HP1, HC1, HSP, hsz2⟩ := hRn
  have hHeld := hHn
  clear hHn
  try simp only [Act.put, ls0, ls1, ls2]
  refine wrd [10] ?_
  refine (arc rfl (fun K hK => ?_) arn)
  go_simp
  go_at_call 39
  refine (receive_two 7 (by omega) _ (HK.out.below HC1.out.low)).mono ?_
  rintro e w5 ⟨OR, g1, QB1, OB1, DB1, EB1, WB1, rfl, hN1, hb, hn1, hn2, hn3, hn4, hn5, hn6, hn7⟩
  obtain ⟨R1, hR1⟩ : ∃ R1 : Nat → Prop, R1 = fun k => wd2.heap.size ≤ k ∧ k < w5.heap.size := ⟨_, rfl⟩
  have hPw := blk_lt HP1.out
  try go_wp2_with fail
  refine out_gen hK _ _ (fun wz : World => Kp (wz.heap[P]? = some (.cells #[.slice kc.pa 2 kc.pc, .slice (some ⟨kc.cg, kc.co, none⟩) 1 kc.cc, .int .i64 1, .slice kc.a0 1 kc.c0, .int .i64 1, .slice kc.a1 1 kc.c1, .pointer (some ⟨B, 0, none⟩), .pointer (some ⟨BB, 0, none⟩), .pointer none, .pointer none, .int .u32 7, .int .u32 7, .int .i64 0, .int .i64 0, .int .i64 0, .int .i64 0, .int .i64 0] 77 (0, 0))) ∧ Kp (¬ S1 P) ∧ Kp (Core w2 wz P B D BB 1 1 zW OS OR S1 R1 [false, false]) ∧ Kp (¬ R1 P) ∧ wd2.heap.size ≤ wz.heap.size) ⟨⟨blk_below HP1.out hb⟩, ⟨HSP.out⟩, ⟨by rw [hR1]; exact HC1.out.newR hPw hb hN1 ⟨hn1, hn2, hn3, hn4, hn5, hn6, hn7⟩ (by omega)⟩, ⟨by rw [hR1]; rintro ⟨hk, _⟩; omega⟩, hb.size⟩ (xc_of (fz' := (0, 0)) HX0.out (blk_below HP1.out hb) 99 (fun _ _ => rfl)) (fun wd3 hRn hHn => ?_)
  clear hK K hHeld HP1 HC1 HSP hb hN1 hR1 hPw hn1 hn2 hn3 hn4 hn5 hn6 hn7
  obtain ⟨HP1, HSP, HC1, HRP, hsz3⟩ := hRn
  have hHeld := hHn
  clear hHn
  try simp only [Act.put, ls0, ls1, ls2]
  refine wtk 11 ?_ rfl (.inl ⟨by rfl, ?_⟩) ?_
  rotate_left 1
  · (intro w hSw; go_simp; try with_reducible rfl)
  try simp only [Act.put, ls0, ls1, ls2]
  refine wtk 12 ?_ rfl (.inl ⟨by rfl, ?_⟩) ?_
  rotate_left 1
  · (intro w hSw; go_simp; try with_reducible rfl)
  try simp only [Act.put, ls0, ls1, ls2]
  refine wpAnyH_done (by kernel_rfl) ?_ _
  clear HX0
  clear hHeld
  clear HK
  obtain ⟨zq, hzq⟩ : ∃ zq, zW = zq := ⟨_, rfl⟩
  have hro : zq.rOn = true := by rw [← hzq]; rfl
  have hws := HWS.out
  have hd3 := zW_recv
  rw [hzq] at hws HC1 hd3
  have HWQ := Kp.mk hws
  clear hws hzq HWS
  have c0 := cbk HP1.out 0 (.slice kc.pa 2 kc.pc) rfl
  have c1 := cbk HP1.out 1 (.slice (some ⟨kc.cg, kc.co, none⟩) 1 kc.cc) rfl
  have c2 := cbk HP1.out 2 (.int .i64 1) rfl
  have c3 := cbk HP1.out 3 (.slice kc.a0 1 kc.c0) rfl
  have c4 := cbk HP1.out 4 (.int .i64 1) rfl
  have c5 := cbk HP1.out 5 (.slice kc.a1 1 kc.c1) rfl
  have c6 := cbk HP1.out 6 (.pointer (some ⟨B, 0, none⟩)) rfl
  have c7 := cbk HP1.out 7 (.pointer (some ⟨BB, 0, none⟩)) rfl
  have c8 := cbk HP1.out 8 (.pointer none) rfl
  have c9 := cbk HP1.out 9 (.pointer none) rfl
  have c10 := cbk HP1.out 10 (.int .u32 7) rfl
  have c11 := cbk HP1.out 11 (.int .u32 7) rfl
  have c12 := cbk HP1.out 12 (.int .i64 0) rfl
  have c13 := cbk HP1.out 13 (.int .i64 0) rfl
  have c14 := cbk HP1.out 14 (.int .i64 0) rfl
  have c15 := cbk HP1.out 15 (.int .i64 0) rfl
  have c16 := cbk HP1.out 16 (.int .i64 0) rfl
  have lPj := blk_lt HP1.out
  have lDj := blk_lt HC1.out.mem.words
  have lBj := blk_lt HC1.out.mem.head
  have lBBj := HC1.out.bell.lt
  have hSlt : ∀ k, S1 k → k < wd3.heap.size := fun k hk => (HC1.out.sS k hk).2.1
  have hRlt : ∀ k, R1 k → k < wd3.heap.size := fun k hk => (HC1.out.sR k hk).2.1
  have h2j := HC1.out.low.size
  have hPn : ¬ (R1 P ∨ P = D) := by
    rintro (h1 | h1)
    · exact HRP.out h1
    · exact hP0.2.2.2.2.1 h1
  have hPn2 : ¬ (S1 P ∨ P = D ∨ P = BB) := by
    rintro (h1 | h1 | h1)
    · exact HSP.out h1
    · exact hP0.2.2.2.2.1 h1
    · exact hP0.2.2.2.2.2 h1
  have hDB := HC1.out.bb
  obtain ⟨d, hd⟩ : ∃ d, qDid (pl12 1 1) zq.ws zq.r = d := ⟨_, rfl⟩
  have HDD := Kp.mk hd
  rw [hd] at hd3
  have HD3 := Kp.mk hd3
  clear hd hd3
  go_wp2_with fail
  refine JQ.region (fun a wk => ∃ (T : Nat) (R2 : Nat → Prop) (va : Option Addr) (vc : Nat) (u5 u6 u7 u8 u9 u10 u11 u12 u13 u14 u15 u16 u17 u18 u19 u20 u21 u22 u23 u24 u25 u26 u27 u28 u29 u30 u31 u32 u33 u34 u35 : Value), a = ⟨#[.bool false, .pointer (some ⟨P, 0, none⟩), .pointer (some ⟨OS, 0, none⟩), .pointer (some ⟨OR, 0, none⟩), .pointer (some ⟨T, 0, none⟩), u5, u6, u7, u8, u9, u10, u11, u12, u13, u14, u15, u16, u17, u18, u19, u20, u21, u22, u23, u24, u25, u26, u27, u28, u29, u30, u31, u32, u33, u34, u35, undef, undef, undef, undef, undef, undef, undef, undef, undef, undef, undef, undef, undef, undef, undef, undef, undef, undef, undef, undef, undef, undef, undef, undef, undef, undef, undef, undef, undef, undef, undef, undef, undef, undef, undef, undef, undef, undef, undef], []⟩ ∧ Kp (wk.heap[P]? = some (.cells #[.slice kc.pa 2 kc.pc, .slice (some ⟨kc.cg, kc.co, none⟩) 1 kc.cc, .int .i64 1, .slice kc.a0 1 kc.c0, .int .i64 1, .slice kc.a1 1 kc.c1, .pointer (some ⟨B, 0, none⟩), .pointer (some ⟨BB, 0, none⟩), .pointer none, .pointer none, .int .u32 7, .int .u32 7, .int .i64 0, .int .i64 0, .int .i64 0, .int .i64 0, .int .i64 0] 77 (0, 0))) ∧ Kp (Core w2 wk P B D BB 1 1 (stepQ (pl12 1 1) zq) OS OR S1 R2 [false, false]) ∧ Kp (w2.heap.size ≤ T ∧ ¬ S1 T ∧ ¬ R2 T ∧ T ≠ B ∧ T ≠ D ∧ T ≠ BB) ∧ Kp (wk.heap[T]? = some (.cells #[.bool true, .int .i64 2, .slice va 0 vc, .bool d.valid, .int .i64 d.count, .bool d.mark, .bool d.ring, .bool d.stamped, .int .i64 d.buffer] 64 (0, 0)))) ?_ ?_
  · have HX0 : Kp (wd3.heap[P]? = some (.cells #[.slice kc.pa 2 kc.pc, .slice (some ⟨kc.cg, kc.co, none⟩) 1 kc.cc, .int .i64 1, .slice kc.a0 1 kc.c0, .int .i64 1, .slice kc.a1 1 kc.c1, .pointer (some ⟨B, 0, none⟩), .pointer (some ⟨BB, 0, none⟩), .pointer none, .pointer none, .int .u32 7, .int .u32 7, .int .i64 0, .int .i64 0, .int .i64 0, .int .i64 0, .int .i64 0] 77 (0, 0))) := ⟨HP1.out⟩
    refine held_start_gen (S := (fun w' : World => ∀ o, o ≠ 99 → w'.cell? ⟨P, o, none⟩ = wd3.cell? ⟨P, o, none⟩)) (by kernel_rfl) (fun wz : World => Kp (wz.heap[P]? = some (.cells #[.slice kc.pa 2 kc.pc, .slice (some ⟨kc.cg, kc.co, none⟩) 1 kc.cc, .int .i64 1, .slice kc.a0 1 kc.c0, .int .i64 1, .slice kc.a1 1 kc.c1, .pointer (some ⟨B, 0, none⟩), .pointer (some ⟨BB, 0, none⟩), .pointer none, .pointer none, .int .u32 7, .int .u32 7, .int .i64 0, .int .i64 0, .int .i64 0, .int .i64 0, .int .i64 0] 77 (0, 0))) ∧ Kp (Core w2 wz P B D BB 1 1 zq OS OR S1 R1 [false, false]) ∧ wd3.heap.size ≤ wz.heap.size) ⟨⟨blk_dr HP1.out⟩, ⟨HC1.out.dr⟩, Nat.le_refl _⟩ (xc_of (fz' := (0, 0)) HX0.out (blk_dr HP1.out) 99 (fun _ _ => rfl)) (fun wd0 hRn hHeld => ?_)
    clear HP1 HC1
    obtain ⟨HP1, HC1, hsz⟩ := hRn
    refine wtk 0 ?_ rfl (.inl ⟨by rfl, ?_⟩) ?_
    rotate_left 1
    · (intro w hSw; go_simp; try with_reducible rfl)
    try simp only [Act.put, ls0, ls1, ls2]
    refine wtk 1 ?_ rfl (.inl ⟨by rfl, ?_⟩) ?_
    rotate_left 1
    · (intro w hSw; go_simp; try with_reducible rfl)
    try simp only [Act.put, ls0, ls1, ls2]
    refine wtk 2 ?_ rfl (.inl ⟨by rfl, ?_⟩) ?_
    rotate_left 1
    · (intro w hSw; go_simp; try with_reducible rfl)
    try simp only [Act.put, ls0, ls1, ls2]
    refine wtk 3 ?_ rfl (.inl ⟨by rfl, ?_⟩) ?_
    rotate_left 1
    · (intro w hSw; go_simp; try with_reducible rfl)
    try simp only [Act.put, ls0, ls1, ls2]
    refine wtk 4 ?_ rfl (.inl ⟨by rfl, ?_⟩) ?_
    rotate_left 1
    · (intro w hSw; go_simp; try with_reducible rfl)
    try simp only [Act.put, ls0, ls1, ls2]
    refine wtk 5 ?_ rfl (.inl ⟨by rfl, ?_⟩) ?_
    rotate_left 1
    · (intro w hSw; go_simp; try with_reducible rfl)
    try simp only [Act.put, ls0, ls1, ls2]
    refine wtk 6 ?_ rfl (.inl ⟨by rfl, ?_⟩) ?_
    rotate_left 1
    · (intro w hSw; go_simp; try with_reducible rfl)
    try simp only [Act.put, ls0, ls1, ls2]
    refine wtk 7 ?_ rfl (.inl ⟨by rfl, ?_⟩) ?_
    rotate_left 1
    · (intro w hSw; go_simp; try with_reducible rfl)
    try simp only [Act.put, ls0, ls1, ls2]
    refine wtk 8 ?_ rfl (.inl ⟨by rfl, ?_⟩) ?_
    rotate_left 1
    · (intro w hSw; go_simp; try with_reducible rfl)
    try simp only [Act.put, ls0, ls1, ls2]
    refine wrd [9, 10] ?_
    refine (arc rfl (fun K hK => ?_) (arc rfl (fun K hK => ?_) arn))
    · go_simp
      go_at_call 36
      have HSt := HC1.out.recv hi hro (blk_lt HP1.out) 0
      rw [HDD.out] at HSt
      unfold didV at HSt
      rw [HD3.out.1, HD3.out.2.1, HD3.out.2.2] at HSt
      refine HSt.mono ?_
      clear HSt
      rintro e w9 ⟨v9, rfl, hrow9, _, _, hC9, hb⟩
      obtain ⟨va, vc, rfl, _, _⟩ := hrow9.shape
      obtain ⟨R2, hR2⟩ : ∃ R2 : Nat → Prop, R2 = More R1 wd0 w9 := ⟨_, rfl⟩
      rw [← hR2] at hC9
      try go_wp2_with fail
      refine out_gen hK _ _ (fun wz : World => Kp (wz.heap[P]? = some (.cells #[.slice kc.pa 2 kc.pc, .slice (some ⟨kc.cg, kc.co, none⟩) 1 kc.cc, .int .i64 1, .slice kc.a0 1 kc.c0, .int .i64 1, .slice kc.a1 1 kc.c1, .pointer (some ⟨B, 0, none⟩), .pointer (some ⟨BB, 0, none⟩), .pointer none, .pointer none, .int .u32 7, .int .u32 7, .int .i64 0, .int .i64 0, .int .i64 0, .int .i64 0, .int .i64 0] 77 (0, 0))) ∧ Kp (Core w2 wz P B D BB 1 1 (stepQ (pl12 1 1) zq) OS OR S1 R2 [false, false]) ∧ Kp (True) ∧ wd0.heap.size ≤ wz.heap.size) ⟨⟨hb.blk HP1.out hPn⟩, ⟨hC9⟩, ⟨trivial⟩, hb.size⟩ (xc_of (fz' := (0, 0)) HX0.out (hb.blk HP1.out hPn) 99 (fun _ _ => rfl)) (fun wd1 hRn hHn => ?_)
      clear hK K hHeld HP1 HC1 hC9 hb hrow9 hR2
      obtain ⟨HP1, HC1, HR2, hsz1⟩ := hRn
      have hHeld := hHn
      clear hHn
      try simp only [Act.put, ls0, ls1, ls2]
      refine wrd [10] ?_
      refine (arc rfl (fun K hK => ?_) arn)
      have ge_db : wd3.heap.size ≤ wd1.heap.size := (by omega)
      go_simp
      try go_wp2_with fail
      refine out_gen hK _ _ (fun wz : World => Kp (wz.heap[P]? = some (.cells #[.slice kc.pa 2 kc.pc, .slice (some ⟨kc.cg, kc.co, none⟩) 1 kc.cc, .int .i64 1, .slice kc.a0 1 kc.c0, .int .i64 1, .slice kc.a1 1 kc.c1, .pointer (some ⟨B, 0, none⟩), .pointer (some ⟨BB, 0, none⟩), .pointer none, .pointer none, .int .u32 7, .int .u32 7, .int .i64 0, .int .i64 0, .int .i64 0, .int .i64 0, .int .i64 0] 77 (0, 0))) ∧ Kp (Core w2 wz P B D BB 1 1 (stepQ (pl12 1 1) zq) OS OR S1 R2 [false, false]) ∧ Kp (True) ∧ Kp (wz.heap[wd1.heap.size]? = some (.cells #[.bool false, .int .i64 0, .slice none 0 0, .bool false, .int .i64 0, .bool false, .bool false, .bool false, .int .i64 0] 64 (0, 0))) ∧ Kp (w2.heap.size ≤ wd1.heap.size ∧ ¬ S1 wd1.heap.size ∧ ¬ R2 wd1.heap.size ∧ wd1.heap.size ≠ B ∧ wd1.heap.size ≠ D ∧ wd1.heap.size ≠ BB) ∧ wd1.heap.size < wz.heap.size) ⟨⟨blk_al HP1.out _⟩, ⟨HC1.out.al _⟩, ⟨HR2.out⟩, ⟨blk_new wd1 _⟩, ⟨⟨by omega, fun e => (by have := hSlt _ e; omega), fun e => (by have := (HC1.out.sR _ e).2.1; omega), by omega, by omega, by omega⟩⟩, (by simp)⟩ (xc_of (fz' := (0, 0)) HX0.out (blk_al HP1.out _) 99 (fun _ _ => rfl)) (fun wd2 hRn hHn => ?_)
      clear hK K hHeld HP1 HC1 HR2
      obtain ⟨HP1, HC1, HR2, db, HTN, hsz2⟩ := hRn
      have hHeld := hHn
      clear hHn
      try simp only [Act.put, ls0, ls1, ls2]
      have lt_db := blk_lt db.out
      refine wrd [11] ?_
      refine (arc rfl (fun K hK => ?_) arn)
      have sd0 := cbk db.out 0 (.bool false) rfl
      have sf0 := frozen_blk db.out 0
      have sd1 := cbk db.out 1 (.int .i64 0) rfl
      have sf1 := frozen_blk db.out 1
      have sd2 := cbk db.out 2 (.slice none 0 0) rfl
      have sf2 := frozen_blk db.out 2
      have sd3 := cbk db.out 3 (.bool false) rfl
      have sf3 := frozen_blk db.out 3
      have sd4 := cbk db.out 4 (.int .i64 0) rfl
      have sf4 := frozen_blk db.out 4
      have sd5 := cbk db.out 5 (.bool false) rfl
      have sf5 := frozen_blk db.out 5
      have sd6 := cbk db.out 6 (.bool false) rfl
      have sf6 := frozen_blk db.out 6
      have sd7 := cbk db.out 7 (.bool false) rfl
      have sf7 := frozen_blk db.out 7
      have sd8 := cbk db.out 8 (.int .i64 0) rfl
      have sf8 := frozen_blk db.out 8
      have sl := blk_lt db.out
      go_simp
      try go_wp2_with fail
      refine out_gen hK _ _ (fun wz : World => Kp (wz.heap[P]? = some (.cells #[.slice kc.pa 2 kc.pc, .slice (some ⟨kc.cg, kc.co, none⟩) 1 kc.cc, .int .i64 1, .slice kc.a0 1 kc.c0, .int .i64 1, .slice kc.a1 1 kc.c1, .pointer (some ⟨B, 0, none⟩), .pointer (some ⟨BB, 0, none⟩), .pointer none, .pointer none, .int .u32 7, .int .u32 7, .int .i64 0, .int .i64 0, .int .i64 0, .int .i64 0, .int .i64 0] 77 (0, 0))) ∧ Kp (Core w2 wz P B D BB 1 1 (stepQ (pl12 1 1) zq) OS OR S1 R2 [false, false]) ∧ Kp (True) ∧ Kp (wz.heap[wd1.heap.size]? = some (.cells #[.bool true, .int .i64 2, .slice va 0 vc, .bool d.valid, .int .i64 d.count, .bool d.mark, .bool d.ring, .bool d.stamped, .int .i64 d.buffer] 64 (0, 0))) ∧ Kp (w2.heap.size ≤ wd1.heap.size ∧ ¬ S1 wd1.heap.size ∧ ¬ R2 wd1.heap.size ∧ wd1.heap.size ≠ B ∧ wd1.heap.size ≠ D ∧ wd1.heap.size ≠ BB) ∧ wd2.heap.size ≤ wz.heap.size) ⟨⟨(blk_set_ne (p := ⟨wd1.heap.size, 8, none⟩) (blk_set_ne (p := ⟨wd1.heap.size, 7, none⟩) (blk_set_ne (p := ⟨wd1.heap.size, 6, none⟩) (blk_set_ne (p := ⟨wd1.heap.size, 5, none⟩) (blk_set_ne (p := ⟨wd1.heap.size, 4, none⟩) (blk_set_ne (p := ⟨wd1.heap.size, 3, none⟩) (blk_set_ne (p := ⟨wd1.heap.size, 2, none⟩) (blk_set_ne (p := ⟨wd1.heap.size, 1, none⟩) (blk_set_ne (p := ⟨wd1.heap.size, 0, none⟩) HP1.out (by show P ≠ wd1.heap.size; omega) _) (by show P ≠ wd1.heap.size; omega) _) (by show P ≠ wd1.heap.size; omega) _) (by show P ≠ wd1.heap.size; omega) _) (by show P ≠ wd1.heap.size; omega) _) (by show P ≠ wd1.heap.size; omega) _) (by show P ≠ wd1.heap.size; omega) _) (by show P ≠ wd1.heap.size; omega) _) (by show P ≠ wd1.heap.size; omega) _)⟩, ⟨(((((((((HC1.out.set wd1.heap.size 0 _ HTN.out).set wd1.heap.size 1 _ HTN.out).set wd1.heap.size 2 _ HTN.out).set wd1.heap.size 3 _ HTN.out).set wd1.heap.size 4 _ HTN.out).set wd1.heap.size 5 _ HTN.out).set wd1.heap.size 6 _ HTN.out).set wd1.heap.size 7 _ HTN.out).set wd1.heap.size 8 _ HTN.out)⟩, ⟨(((((((((HR2.out)))))))))⟩, ⟨(blk_set (blk_set (blk_set (blk_set (blk_set (blk_set (blk_set (blk_set (blk_set db.out 0 _) 1 _) 2 _) 3 _) 4 _) 5 _) 6 _) 7 _) 8 _).trans (by first | (simp only [ls0, ls1, ls2]; done) | rfl)⟩, ⟨(((((((((HTN.out)))))))))⟩, (by simp [World.setCell])⟩ (xc_of (fz' := (0, 0)) HX0.out ((blk_set_ne (p := ⟨wd1.heap.size, 8, none⟩) (blk_set_ne (p := ⟨wd1.heap.size, 7, none⟩) (blk_set_ne (p := ⟨wd1.heap.size, 6, none⟩) (blk_set_ne (p := ⟨wd1.heap.size, 5, none⟩) (blk_set_ne (p := ⟨wd1.heap.size, 4, none⟩) (blk_set_ne (p := ⟨wd1.heap.size, 3, none⟩) (blk_set_ne (p := ⟨wd1.heap.size, 2, none⟩) (blk_set_ne (p := ⟨wd1.heap.size, 1, none⟩) (blk_set_ne (p := ⟨wd1.heap.size, 0, none⟩) HP1.out (by show P ≠ wd1.heap.size; omega) _) (by show P ≠ wd1.heap.size; omega) _) (by show P ≠ wd1.heap.size; omega) _) (by show P ≠ wd1.heap.size; omega) _) (by show P ≠ wd1.heap.size; omega) _) (by show P ≠ wd1.heap.size; omega) _) (by show P ≠ wd1.heap.size; omega) _) (by show P ≠ wd1.heap.size; omega) _) (by show P ≠ wd1.heap.size; omega) _)) 99 (fun _ _ => rfl)) (fun wd3 hRn hHn => ?_)
      clear hK K hHeld HP1 HC1 HR2 db HTN sd0 sf0 sd1 sf1 sd2 sf2 sd3 sf3 sd4 sf4 sd5 sf5 sd6 sf6 sd7 sf7 sd8 sf8 sl
      obtain ⟨HP1, HC1, HR2, db, HTN, hsz3⟩ := hRn
      have hHeld := hHn
      clear hHn
      try simp only [Act.put, ls0, ls1, ls2]
      refine wpAnyH_done (by kernel_rfl) ?_ _
      clear HX0
      exact JQ.mk ⟨_, R2, va, vc, _, _, _, _, _, _, _, _, _, _, _, _, _, _, _, _, _, _, _, _, _, _, _, _, _, _, _, _, _, _, _, rfl, HP1, HC1, HTN, db⟩
    · have ge_db : wd3.heap.size ≤ wd0.heap.size := (by omega)
      go_simp
      try go_wp2_with fail
      refine out_gen hK _ _ (fun wz : World => Kp (wz.heap[P]? = some (.cells #[.slice kc.pa 2 kc.pc, .slice (some ⟨kc.cg, kc.co, none⟩) 1 kc.cc, .int .i64 1, .slice kc.a0 1 kc.c0, .int .i64 1, .slice kc.a1 1 kc.c1, .pointer (some ⟨B, 0, none⟩), .pointer (some ⟨BB, 0, none⟩), .pointer none, .pointer none, .int .u32 7, .int .u32 7, .int .i64 0, .int .i64 0, .int .i64 0, .int .i64 0, .int .i64 0] 77 (0, 0))) ∧ Kp (Core w2 wz P B D BB 1 1 zq OS OR S1 R1 [false, false]) ∧ Kp (wz.heap[wd0.heap.size]? = some (.cells #[.bool false, .int .i64 0, .slice none 0 0, .bool false, .int .i64 0, .bool false, .bool false, .bool false, .int .i64 0] 64 (0, 0))) ∧ Kp (w2.heap.size ≤ wd0.heap.size ∧ ¬ S1 wd0.heap.size ∧ ¬ R1 wd0.heap.size ∧ wd0.heap.size ≠ B ∧ wd0.heap.size ≠ D ∧ wd0.heap.size ≠ BB) ∧ wd0.heap.size < wz.heap.size) ⟨⟨blk_al HP1.out _⟩, ⟨HC1.out.al _⟩, ⟨blk_new wd0 _⟩, ⟨⟨by omega, fun e => (by have := hSlt _ e; omega), fun e => (by have := (HC1.out.sR _ e).2.1; omega), by omega, by omega, by omega⟩⟩, (by simp)⟩ (xc_of (fz' := (0, 0)) HX0.out (blk_al HP1.out _) 99 (fun _ _ => rfl)) (fun wd4 hRn hHn => ?_)
      clear hK K hHeld HP1 HC1
      obtain ⟨HP1, HC1, db, HTN, hsz4⟩ := hRn
      have hHeld := hHn
      clear hHn
      try simp only [Act.put, ls0, ls1, ls2]
      have lt_db := blk_lt db.out
      refine wrd [9] ?_
      refine (arc rfl (fun K hK => ?_) arn)
      go_simp
      go_at_call 36
      have HSt := HC1.out.recv hi hro (blk_lt HP1.out) 0
      rw [HDD.out] at HSt
      unfold didV at HSt
      rw [HD3.out.1, HD3.out.2.1, HD3.out.2.2] at HSt
      refine HSt.mono ?_
      clear HSt
      rintro e w9 ⟨v9, rfl, hrow9, _, _, hC9, hb⟩
      obtain ⟨va, vc, rfl, _, _⟩ := hrow9.shape
      obtain ⟨R2, hR2⟩ : ∃ R2 : Nat → Prop, R2 = More R1 wd4 w9 := ⟨_, rfl⟩
      rw [← hR2] at hC9
      try go_wp2_with fail
      refine out_gen hK _ _ (fun wz : World => Kp (wz.heap[P]? = some (.cells #[.slice kc.pa 2 kc.pc, .slice (some ⟨kc.cg, kc.co, none⟩) 1 kc.cc, .int .i64 1, .slice kc.a0 1 kc.c0, .int .i64 1, .slice kc.a1 1 kc.c1, .pointer (some ⟨B, 0, none⟩), .pointer (some ⟨BB, 0, none⟩), .pointer none, .pointer none, .int .u32 7, .int .u32 7, .int .i64 0, .int .i64 0, .int .i64 0, .int .i64 0, .int .i64 0] 77 (0, 0))) ∧ Kp (wz.heap[wd0.heap.size]? = some (.cells #[.bool false, .int .i64 0, .slice none 0 0, .bool false, .int .i64 0, .bool false, .bool false, .bool false, .int .i64 0] 64 (0, 0))) ∧ Kp (Core w2 wz P B D BB 1 1 (stepQ (pl12 1 1) zq) OS OR S1 R2 [false, false]) ∧ Kp (True) ∧ Kp (w2.heap.size ≤ wd0.heap.size ∧ ¬ S1 wd0.heap.size ∧ ¬ R2 wd0.heap.size ∧ wd0.heap.size ≠ B ∧ wd0.heap.size ≠ D ∧ wd0.heap.size ≠ BB) ∧ wd4.heap.size ≤ wz.heap.size) ⟨⟨hb.blk HP1.out hPn⟩, ⟨hb.blk db.out (by rintro (h1 | h1); have := hRlt _ h1; omega; omega)⟩, ⟨hC9⟩, ⟨trivial⟩, ⟨⟨HTN.out.1, HTN.out.2.1, (by rw [hR2]; rintro (e | e); exact HTN.out.2.2.1 e; omega), HTN.out.2.2.2⟩⟩, hb.size⟩ (xc_of (fz' := (0, 0)) HX0.out (hb.blk HP1.out hPn) 99 (fun _ _ => rfl)) (fun wd5 hRn hHn => ?_)
      clear hK K hHeld HP1 HC1 db HTN hC9 hb hrow9 hR2
      obtain ⟨HP1, db, HC1, HR2, HTN, hsz5⟩ := hRn
      have hHeld := hHn
      clear hHn
      try simp only [Act.put, ls0, ls1, ls2]
      refine wrd [11] ?_
      refine (arc rfl (fun K hK => ?_) arn)
      have sd0 := cbk db.out 0 (.bool false) rfl
      have sf0 := frozen_blk db.out 0
      have sd1 := cbk db.out 1 (.int .i64 0) rfl
      have sf1 := frozen_blk db.out 1
      have sd2 := cbk db.out 2 (.slice none 0 0) rfl
      have sf2 := frozen_blk db.out 2
      have sd3 := cbk db.out 3 (.bool false) rfl
      have sf3 := frozen_blk db.out 3
      have sd4 := cbk db.out 4 (.int .i64 0) rfl
      have sf4 := frozen_blk db.out 4
      have sd5 := cbk db.out 5 (.bool false) rfl
      have sf5 := frozen_blk db.out 5
      have sd6 := cbk db.out 6 (.bool false) rfl
      have sf6 := frozen_blk db.out 6
      have sd7 := cbk db.out 7 (.bool false) rfl
      have sf7 := frozen_blk db.out 7
      have sd8 := cbk db.out 8 (.int .i64 0) rfl
      have sf8 := frozen_blk db.out 8
      have sl := blk_lt db.out
      go_simp
      try go_wp2_with fail
      refine out_gen hK _ _ (fun wz : World => Kp (wz.heap[P]? = some (.cells #[.slice kc.pa 2 kc.pc, .slice (some ⟨kc.cg, kc.co, none⟩) 1 kc.cc, .int .i64 1, .slice kc.a0 1 kc.c0, .int .i64 1, .slice kc.a1 1 kc.c1, .pointer (some ⟨B, 0, none⟩), .pointer (some ⟨BB, 0, none⟩), .pointer none, .pointer none, .int .u32 7, .int .u32 7, .int .i64 0, .int .i64 0, .int .i64 0, .int .i64 0, .int .i64 0] 77 (0, 0))) ∧ Kp (wz.heap[wd0.heap.size]? = some (.cells #[.bool true, .int .i64 2, .slice va 0 vc, .bool d.valid, .int .i64 d.count, .bool d.mark, .bool d.ring, .bool d.stamped, .int .i64 d.buffer] 64 (0, 0))) ∧ Kp (Core w2 wz P B D BB 1 1 (stepQ (pl12 1 1) zq) OS OR S1 R2 [false, false]) ∧ Kp (True) ∧ Kp (w2.heap.size ≤ wd0.heap.size ∧ ¬ S1 wd0.heap.size ∧ ¬ R2 wd0.heap.size ∧ wd0.heap.size ≠ B ∧ wd0.heap.size ≠ D ∧ wd0.heap.size ≠ BB) ∧ wd5.heap.size ≤ wz.heap.size) ⟨⟨(blk_set_ne (p := ⟨wd0.heap.size, 8, none⟩) (blk_set_ne (p := ⟨wd0.heap.size, 7, none⟩) (blk_set_ne (p := ⟨wd0.heap.size, 6, none⟩) (blk_set_ne (p := ⟨wd0.heap.size, 5, none⟩) (blk_set_ne (p := ⟨wd0.heap.size, 4, none⟩) (blk_set_ne (p := ⟨wd0.heap.size, 3, none⟩) (blk_set_ne (p := ⟨wd0.heap.size, 2, none⟩) (blk_set_ne (p := ⟨wd0.heap.size, 1, none⟩) (blk_set_ne (p := ⟨wd0.heap.size, 0, none⟩) HP1.out (by show P ≠ wd0.heap.size; omega) _) (by show P ≠ wd0.heap.size; omega) _) (by show P ≠ wd0.heap.size; omega) _) (by show P ≠ wd0.heap.size; omega) _) (by show P ≠ wd0.heap.size; omega) _) (by show P ≠ wd0.heap.size; omega) _) (by show P ≠ wd0.heap.size; omega) _) (by show P ≠ wd0.heap.size; omega) _) (by show P ≠ wd0.heap.size; omega) _)⟩, ⟨(blk_set (blk_set (blk_set (blk_set (blk_set (blk_set (blk_set (blk_set (blk_set db.out 0 _) 1 _) 2 _) 3 _) 4 _) 5 _) 6 _) 7 _) 8 _).trans (by first | (simp only [ls0, ls1, ls2]; done) | rfl)⟩, ⟨(((((((((HC1.out.set wd0.heap.size 0 _ HTN.out).set wd0.heap.size 1 _ HTN.out).set wd0.heap.size 2 _ HTN.out).set wd0.heap.size 3 _ HTN.out).set wd0.heap.size 4 _ HTN.out).set wd0.heap.size 5 _ HTN.out).set wd0.heap.size 6 _ HTN.out).set wd0.heap.size 7 _ HTN.out).set wd0.heap.size 8 _ HTN.out)⟩, ⟨(((((((((HR2.out)))))))))⟩, ⟨(((((((((HTN.out)))))))))⟩, (by simp [World.setCell])⟩ (xc_of (fz' := (0, 0)) HX0.out ((blk_set_ne (p := ⟨wd0.heap.size, 8, none⟩) (blk_set_ne (p := ⟨wd0.heap.size, 7, none⟩) (blk_set_ne (p := ⟨wd0.heap.size, 6, none⟩) (blk_set_ne (p := ⟨wd0.heap.size, 5, none⟩) (blk_set_ne (p := ⟨wd0.heap.size, 4, none⟩) (blk_set_ne (p := ⟨wd0.heap.size, 3, none⟩) (blk_set_ne (p := ⟨wd0.heap.size, 2, none⟩) (blk_set_ne (p := ⟨wd0.heap.size, 1, none⟩) (blk_set_ne (p := ⟨wd0.heap.size, 0, none⟩) HP1.out (by show P ≠ wd0.heap.size; omega) _) (by show P ≠ wd0.heap.size; omega) _) (by show P ≠ wd0.heap.size; omega) _) (by show P ≠ wd0.heap.size; omega) _) (by show P ≠ wd0.heap.size; omega) _) (by show P ≠ wd0.heap.size; omega) _) (by show P ≠ wd0.heap.size; omega) _) (by show P ≠ wd0.heap.size; omega) _) (by show P ≠ wd0.heap.size; omega) _)) 99 (fun _ _ => rfl)) (fun wd6 hRn hHn => ?_)
      clear hK K hHeld HP1 db HC1 HR2 HTN sd0 sf0 sd1 sf1 sd2 sf2 sd3 sf3 sd4 sf4 sd5 sf5 sd6 sf6 sd7 sf7 sd8 sf8 sl
      obtain ⟨HP1, db, HC1, HR2, HTN, hsz6⟩ := hRn
      have hHeld := hHn
      clear hHn
      try simp only [Act.put, ls0, ls1, ls2]
      refine wpAnyH_done (by kernel_rfl) ?_ _
      clear HX0
      exact JQ.mk ⟨_, R2, va, vc, _, _, _, _, _, _, _, _, _, _, _, _, _, _, _, _, _, _, _, _, _, _, _, _, _, _, _, _, _, _, _, rfl, HP1, HC1, HTN, db⟩
  · rintro a wk ⟨T, R2, va, vc, u5, u6, u7, u8, u9, u10, u11, u12, u13, u14, u15, u16, u17, u18, u19, u20, u21, u22, u23, u24, u25, u26, u27, u28, u29, u30, u31, u32, u33, u34, u35, rfl, HP1, HC1, HTN, db⟩
    have hPT : P ≠ T := ne_of_type HP1.out db.out (by decide)
    have lTk := blk_lt db.out
    have lPk := blk_lt HP1.out
    have t0 := cbk db.out 0 (.bool true) rfl
    have t1 := cbk db.out 1 (.int .i64 2) rfl
    have hTn : ¬ (S1 T ∨ T = D ∨ T = BB) := by
      rintro (h1 | h1 | h1)
      · exact HTN.out.2.1 h1
      · exact HTN.out.2.2.2.2.1 h1
      · exact HTN.out.2.2.2.2.2 h1
    clear lDj lBj lBBj hSlt hRlt h2j hPn lPj c0 c1 c2 c3 c4 c5 c6 c7 c8 c9 c10 c11 c12 c13 c14 c15 c16
    go_wp2_with fail
    go_loopw [45] (fun i wr => ∃ (k : Nat) (x9 : List Bool), k ≤ 4 ∧ i = .int .i64 k ∧ Kp (wr.heap[P]? = some (.cells #[.slice kc.pa 2 kc.pc, .slice (some ⟨kc.cg, kc.co, none⟩) 1 kc.cc, .int .i64 1, .slice kc.a0 1 kc.c0, .int .i64 1, .slice kc.a1 1 kc.c1, .pointer (some ⟨B, 0, none⟩), .pointer (some ⟨BB, 0, none⟩), .pointer none, .pointer none, .int .u32 7, .int .u32 7, .int .i64 0, .int .i64 0, .int .i64 0, .int .i64 0, .int .i64 0] 77 (0, 0))) ∧ Kp (Core w2 wr P B D BB 1 1 (sIt (pl12 1 1) k (stepQ (pl12 1 1) zq)) OS OR S1 R2 x9) ∧ Kp (wr.heap[T]? = some (.cells #[.bool true, .int .i64 2, .slice va 0 vc, .bool d.valid, .int .i64 d.count, .bool d.mark, .bool d.ring, .bool d.stamped, .int .i64 d.buffer] 64 (0, 0)))) (fun i wr => 4 - (intOf i).toNat)
    case atStart => exact ⟨0, _, Nat.zero_le _, rfl, HP1, HC1, db⟩
    case round =>
      obtain ⟨k, x9, hk, rfl, HP1, HC1, db⟩ := hrel
      clear t0 t1
      obtain ⟨q1, q2, q3, q4⟩ := HWQ.out k hk
      obtain ⟨d2, hd2⟩ : ∃ d, sDid (pl12 1 1) (sIt (pl12 1 1) k (stepQ (pl12 1 1) zq)).ws (sIt (pl12 1 1) k (stepQ (pl12 1 1) zq)).s = d := ⟨_, rfl⟩
      rw [hd2] at q2 q3
      have hdat : Words (sIt (pl12 1 1) k (stepQ (pl12 1 1) zq)).s.data ∧ ((sIt (pl12 1 1) k (stepQ (pl12 1 1) zq)).s.data.length : Int) ≤ 1 := by
        rw [q4]
        exact ⟨fun y hy => by rw [List.mem_singleton.1 hy]; omega, by decide⟩
      have HDAT := Kp.mk hdat
      have HD2 := Kp.mk hd2
      have HQ1 := Kp.mk q1
      have HQ2 := Kp.mk q2
      have HQ3 := Kp.mk q3
      have lPr := blk_lt HP1.out
      have lTr := blk_lt db.out
      clear hd2 q1 q2 q3 q4 hdat
      have c0 := cbk HP1.out 0 (.slice kc.pa 2 kc.pc) rfl
      have c1 := cbk HP1.out 1 (.slice (some ⟨kc.cg, kc.co, none⟩) 1 kc.cc) rfl
      have c2 := cbk HP1.out 2 (.int .i64 1) rfl
      have c3 := cbk HP1.out 3 (.slice kc.a0 1 kc.c0) rfl
      have c4 := cbk HP1.out 4 (.int .i64 1) rfl
      have c5 := cbk HP1.out 5 (.slice kc.a1 1 kc.c1) rfl
      have c6 := cbk HP1.out 6 (.pointer (some ⟨B, 0, none⟩)) rfl
      have c7 := cbk HP1.out 7 (.pointer (some ⟨BB, 0, none⟩)) rfl
      have c8 := cbk HP1.out 8 (.pointer none) rfl
      have c9 := cbk HP1.out 9 (.pointer none) rfl
      have c10 := cbk HP1.out 10 (.int .u32 7) rfl
      have c11 := cbk HP1.out 11 (.int .u32 7) rfl
      have c12 := cbk HP1.out 12 (.int .i64 0) rfl
      have c13 := cbk HP1.out 13 (.int .i64 0) rfl
      have c14 := cbk HP1.out 14 (.int .i64 0) rfl
      have c15 := cbk HP1.out 15 (.int .i64 0) rfl
      have c16 := cbk HP1.out 16 (.int .i64 0) rfl
      by_cases hlt : k < 4
      · go_wp2_with fail
        have HX0 : Kp (wr.heap[P]? = some (.cells #[.slice kc.pa 2 kc.pc, .slice (some ⟨kc.cg, kc.co, none⟩) 1 kc.cc, .int .i64 1, .slice kc.a0 1 kc.c0, .int .i64 1, .slice kc.a1 1 kc.c1, .pointer (some ⟨B, 0, none⟩), .pointer (some ⟨BB, 0, none⟩), .pointer none, .pointer none, .int .u32 7, .int .u32 7, .int .i64 0, .int .i64 0, .int .i64 0, .int .i64 0, .int .i64 0] 77 (0, 0))) := ⟨HP1.out⟩
        refine held_start_gen (S := (fun w' : World => ∀ o, o ≠ 99 → w'.cell? ⟨P, o, none⟩ = wr.cell? ⟨P, o, none⟩)) (by kernel_rfl) (fun wz : World => Kp (wz.heap[P]? = some (.cells #[.slice kc.pa 2 kc.pc, .slice (some ⟨kc.cg, kc.co, none⟩) 1 kc.cc, .int .i64 1, .slice kc.a0 1 kc.c0, .int .i64 1, .slice kc.a1 1 kc.c1, .pointer (some ⟨B, 0, none⟩), .pointer (some ⟨BB, 0, none⟩), .pointer none, .pointer none, .int .u32 7, .int .u32 7, .int .i64 0, .int .i64 0, .int .i64 0, .int .i64 0, .int .i64 0] 77 (0, 0))) ∧ Kp (Core w2 wz P B D BB 1 1 (sIt (pl12 1 1) k (stepQ (pl12 1 1) zq)) OS OR S1 R2 x9) ∧ Kp (wz.heap[T]? = some (.cells #[.bool true, .int .i64 2, .slice va 0 vc, .bool d.valid, .int .i64 d.count, .bool d.mark, .bool d.ring, .bool d.stamped, .int .i64 d.buffer] 64 (0, 0))) ∧ wr.heap.size ≤ wz.heap.size) ⟨⟨blk_dr HP1.out⟩, ⟨HC1.out.dr⟩, ⟨blk_dr db.out⟩, Nat.le_refl _⟩ (xc_of (fz' := (0, 0)) HX0.out (blk_dr HP1.out) 99 (fun _ _ => rfl)) (fun wd0 hRn hHeld => ?_)
        clear HP1 HC1 db
        obtain ⟨HP1, HC1, db, hsz⟩ := hRn
        refine wtk 0 ?_ rfl (.inl ⟨by rfl, ?_⟩) ?_
        rotate_left 1
        · (intro w hSw; go_simp; try with_reducible rfl)
        try simp only [Act.put, ls0, ls1, ls2]
        refine wtk 1 ?_ rfl (.inl ⟨by rfl, ?_⟩) ?_
        rotate_left 1
        · (intro w hSw; go_simp; try with_reducible rfl)
        try simp only [Act.put, ls0, ls1, ls2]
        refine wtk 2 ?_ rfl (.inl ⟨by rfl, ?_⟩) ?_
        rotate_left 1
        · (intro w hSw; go_simp; try with_reducible rfl)
        try simp only [Act.put, ls0, ls1, ls2]
        refine wtk 3 ?_ rfl (.inl ⟨by rfl, ?_⟩) ?_
        rotate_left 1
        · (intro w hSw; go_simp; try with_reducible rfl)
        try simp only [Act.put, ls0, ls1, ls2]
        refine wtk 4 ?_ rfl (.inl ⟨by rfl, ?_⟩) ?_
        rotate_left 1
        · (intro w hSw; go_simp; try with_reducible rfl)
        try simp only [Act.put, ls0, ls1, ls2]
        refine wtk 5 ?_ rfl (.inl ⟨by rfl, ?_⟩) ?_
        rotate_left 1
        · (intro w hSw; go_simp; try with_reducible rfl)
        try simp only [Act.put, ls0, ls1, ls2]
        refine wtk 6 ?_ rfl (.inl ⟨by rfl, ?_⟩) ?_
        rotate_left 1
        · (intro w hSw; go_simp; try with_reducible rfl)
        try simp only [Act.put, ls0, ls1, ls2]
        refine wtk 7 ?_ rfl (.inl ⟨by rfl, ?_⟩) ?_
        rotate_left 1
        · (intro w hSw; go_simp; try with_reducible rfl)
        try simp only [Act.put, ls0, ls1, ls2]
        refine wtk 8 ?_ rfl (.inl ⟨by rfl, ?_⟩) ?_
        rotate_left 1
        · (intro w hSw; go_simp; try with_reducible rfl)
        try simp only [Act.put, ls0, ls1, ls2]
        refine wrd [9] ?_
        refine (arc rfl (fun K hK => ?_) arn)
        go_simp
        go_at_call 36
        have HSt := HC1.out.send hi HQ1.out HDAT.out 0
        rw [HD2.out] at HSt
        unfold didV at HSt
        rw [HQ2.out, decide_eq_false (show ¬ k = 4 by omega)] at HSt
        refine HSt.mono ?_
        clear HSt
        rintro e w9 ⟨rfl, _, hC9, hb⟩
        obtain ⟨xx, hxx⟩ : ∃ xx, (if (sIt (pl12 1 1) k (stepQ (pl12 1 1) zq)).s.pc = 3 + (sIt (pl12 1 1) k (stepQ (pl12 1 1) zq)).s.data.length then ringB x9 1 else x9) = xx := ⟨_, rfl⟩
        rw [hxx] at hC9
        try go_wp2_with fail
        refine out_gen hK _ _ (fun wz : World => Kp (wz.heap[P]? = some (.cells #[.slice kc.pa 2 kc.pc, .slice (some ⟨kc.cg, kc.co, none⟩) 1 kc.cc, .int .i64 1, .slice kc.a0 1 kc.c0, .int .i64 1, .slice kc.a1 1 kc.c1, .pointer (some ⟨B, 0, none⟩), .pointer (some ⟨BB, 0, none⟩), .pointer none, .pointer none, .int .u32 7, .int .u32 7, .int .i64 0, .int .i64 0, .int .i64 0, .int .i64 0, .int .i64 0] 77 (0, 0))) ∧ Kp (wz.heap[T]? = some (.cells #[.bool true, .int .i64 2, .slice va 0 vc, .bool d.valid, .int .i64 d.count, .bool d.mark, .bool d.ring, .bool d.stamped, .int .i64 d.buffer] 64 (0, 0))) ∧ Kp (Core w2 wz P B D BB 1 1 (sIt (pl12 1 1) (k + 1) (stepQ (pl12 1 1) zq)) OS OR S1 R2 xx) ∧ wd0.heap.size ≤ wz.heap.size) ⟨⟨hb.blk HP1.out hPn2⟩, ⟨hb.blk db.out hTn⟩, ⟨hC9⟩, hb.size⟩ (xc_of (fz' := (0, 0)) HX0.out (hb.blk HP1.out hPn2) 99 (fun _ _ => rfl)) (fun wd1 hRn hHn => ?_)
        clear hK K hHeld HP1 HC1 db hC9 hb hxx
        obtain ⟨HP1, db, HC1, hsz1⟩ := hRn
        have hHeld := hHn
        clear hHn
        try simp only [Act.put, ls0, ls1, ls2]
        refine wtk 10 ?_ rfl (.inl ⟨by rfl, ?_⟩) ?_
        rotate_left 1
        · (intro w hSw; go_simp; try with_reducible rfl)
        try simp only [Act.put, ls0, ls1, ls2]
        refine wpAnyH_done (by kernel_rfl) ?_ _
        clear HX0
        clear hHeld
        go_wp2
        go_roundw
        case rel => exact ⟨k + 1, xx, by omega, by go_num, HP1, HC1, db⟩
        case measure => simp [intOf]; omega
      · have hk4 : k = 4 := by omega
        have hlt2 : ¬ ((k : Int) < 4) := by omega
        go_wp2_with fail
        have HX0 : Kp (wr.heap[P]? = some (.cells #[.slice kc.pa 2 kc.pc, .slice (some ⟨kc.cg, kc.co, none⟩) 1 kc.cc, .int .i64 1, .slice kc.a0 1 kc.c0, .int .i64 1, .slice kc.a1 1 kc.c1, .pointer (some ⟨B, 0, none⟩), .pointer (some ⟨BB, 0, none⟩), .pointer none, .pointer none, .int .u32 7, .int .u32 7, .int .i64 0, .int .i64 0, .int .i64 0, .int .i64 0, .int .i64 0] 77 (0, 0))) := ⟨HP1.out⟩
        refine held_start_gen (S := (fun w' : World => ∀ o, o ≠ 99 → w'.cell? ⟨P, o, none⟩ = wr.cell? ⟨P, o, none⟩)) (by kernel_rfl) (fun wz : World => Kp (wz.heap[P]? = some (.cells #[.slice kc.pa 2 kc.pc, .slice (some ⟨kc.cg, kc.co, none⟩) 1 kc.cc, .int .i64 1, .slice kc.a0 1 kc.c0, .int .i64 1, .slice kc.a1 1 kc.c1, .pointer (some ⟨B, 0, none⟩), .pointer (some ⟨BB, 0, none⟩), .pointer none, .pointer none, .int .u32 7, .int .u32 7, .int .i64 0, .int .i64 0, .int .i64 0, .int .i64 0, .int .i64 0] 77 (0, 0))) ∧ Kp (Core w2 wz P B D BB 1 1 (sIt (pl12 1 1) k (stepQ (pl12 1 1) zq)) OS OR S1 R2 x9) ∧ Kp (wz.heap[T]? = some (.cells #[.bool true, .int .i64 2, .slice va 0 vc, .bool d.valid, .int .i64 d.count, .bool d.mark, .bool d.ring, .bool d.stamped, .int .i64 d.buffer] 64 (0, 0))) ∧ Kp (w2.heap.size ≤ T ∧ ¬ S1 T ∧ ¬ R2 T ∧ T ≠ B ∧ T ≠ D ∧ T ≠ BB) ∧ wr.heap.size ≤ wz.heap.size) ⟨⟨blk_dr HP1.out⟩, ⟨HC1.out.dr⟩, ⟨blk_dr db.out⟩, ⟨HTN.out⟩, Nat.le_refl _⟩ (xc_of (fz' := (0, 0)) HX0.out (blk_dr HP1.out) 99 (fun _ _ => rfl)) (fun wd0 hRn hHeld => ?_)
        clear HP1 HC1 db HTN
        obtain ⟨HP1, HC1, db, HTN, hsz⟩ := hRn
        refine wtk 0 ?_ rfl (.inl ⟨by rfl, ?_⟩) ?_
        rotate_left 1
        · (intro w hSw; go_simp; try with_reducible rfl)
        try simp only [Act.put, ls0, ls1, ls2]
        refine wtk 1 ?_ rfl (.inl ⟨by rfl, ?_⟩) ?_
        rotate_left 1
        · (intro w hSw; go_simp; try with_reducible rfl)
        try simp only [Act.put, ls0, ls1, ls2]
        refine wtk 2 ?_ rfl (.inl ⟨by rfl, ?_⟩) ?_
        rotate_left 1
        · (intro w hSw; go_simp; try with_reducible rfl)
        try simp only [Act.put, ls0, ls1, ls2]
        refine wtk 3 ?_ rfl (.inl ⟨by rfl, ?_⟩) ?_
        rotate_left 1
        · (intro w hSw; go_simp; try with_reducible rfl)
        try simp only [Act.put, ls0, ls1, ls2]
        refine wtk 4 ?_ rfl (.inl ⟨by rfl, ?_⟩) ?_
        rotate_left 1
        · (intro w hSw; go_simp; try with_reducible rfl)
        try simp only [Act.put, ls0, ls1, ls2]
        refine wtk 5 ?_ rfl (.inl ⟨by rfl, ?_⟩) ?_
        rotate_left 1
        · (intro w hSw; go_simp; try with_reducible rfl)
        try simp only [Act.put, ls0, ls1, ls2]
        refine wtk 6 ?_ rfl (.inl ⟨by rfl, ?_⟩) ?_
        rotate_left 1
        · (intro w hSw; go_simp; try with_reducible rfl)
        try simp only [Act.put, ls0, ls1, ls2]
        refine wtk 7 ?_ rfl (.inl ⟨by rfl, ?_⟩) ?_
        rotate_left 1
        · (intro w hSw; go_simp; try with_reducible rfl)
        try simp only [Act.put, ls0, ls1, ls2]
        refine wtk 8 ?_ rfl (.inl ⟨by rfl, ?_⟩) ?_
        rotate_left 1
        · (intro w hSw; go_simp; try with_reducible rfl)
        try simp only [Act.put, ls0, ls1, ls2]
        refine wrd [9] ?_
        refine (arc rfl (fun K hK => ?_) arn)
        go_simp
        go_at_call 36
        have HSt := HC1.out.send hi HQ1.out HDAT.out 0
        rw [HD2.out] at HSt
        unfold didV at HSt
        rw [HQ2.out, HQ3.out, decide_eq_true hk4] at HSt
        refine HSt.mono ?_
        clear HSt
        rintro e w9 ⟨rfl, _, hC9, hb⟩
        obtain ⟨xx, hxx⟩ : ∃ xx, (if (sIt (pl12 1 1) k (stepQ (pl12 1 1) zq)).s.pc = 3 + (sIt (pl12 1 1) k (stepQ (pl12 1 1) zq)).s.data.length then ringB x9 1 else x9) = xx := ⟨_, rfl⟩
        rw [hxx] at hC9
        try go_wp2_with fail
        refine out_gen hK _ _ (fun wz : World => Kp (wz.heap[P]? = some (.cells #[.slice kc.pa 2 kc.pc, .slice (some ⟨kc.cg, kc.co, none⟩) 1 kc.cc, .int .i64 1, .slice kc.a0 1 kc.c0, .int .i64 1, .slice kc.a1 1 kc.c1, .pointer (some ⟨B, 0, none⟩), .pointer (some ⟨BB, 0, none⟩), .pointer none, .pointer none, .int .u32 7, .int .u32 7, .int .i64 0, .int .i64 0, .int .i64 0, .int .i64 0, .int .i64 0] 77 (0, 0))) ∧ Kp (wz.heap[T]? = some (.cells #[.bool true, .int .i64 2, .slice va 0 vc, .bool d.valid, .int .i64 d.count, .bool d.mark, .bool d.ring, .bool d.stamped, .int .i64 d.buffer] 64 (0, 0))) ∧ Kp (w2.heap.size ≤ T ∧ ¬ S1 T ∧ ¬ R2 T ∧ T ≠ B ∧ T ≠ D ∧ T ≠ BB) ∧ Kp (Core w2 wz P B D BB 1 1 (sIt (pl12 1 1) (k + 1) (stepQ (pl12 1 1) zq)) OS OR S1 R2 xx) ∧ wd0.heap.size ≤ wz.heap.size) ⟨⟨hb.blk HP1.out hPn2⟩, ⟨hb.blk db.out hTn⟩, ⟨HTN.out⟩, ⟨hC9⟩, hb.size⟩ (xc_of (fz' := (0, 0)) HX0.out (hb.blk HP1.out hPn2) 99 (fun _ _ => rfl)) (fun wd1 hRn hHn => ?_)
        clear hK K hHeld HP1 HC1 db HTN hC9 hb hxx
        obtain ⟨HP1, db, HTN, HC1, hsz1⟩ := hRn
        have hHeld := hHn
        clear hHn
        try simp only [Act.put, ls0, ls1, ls2]
        refine wrd [10] ?_
        refine (arc rfl (fun K hK => ?_) arn)
        have sd0 := cbk db.out 0 (.bool true) rfl
        have sf0 := frozen_blk db.out 0
        have sd1 := cbk db.out 1 (.int .i64 2) rfl
        have sf1 := frozen_blk db.out 1
        have sd2 := cbk db.out 2 (.slice va 0 vc) rfl
        have sf2 := frozen_blk db.out 2
        have sd3 := cbk db.out 3 (.bool d.valid) rfl
        have sf3 := frozen_blk db.out 3
        have sd4 := cbk db.out 4 (.int .i64 d.count) rfl
        have sf4 := frozen_blk db.out 4
        have sd5 := cbk db.out 5 (.bool d.mark) rfl
        have sf5 := frozen_blk db.out 5
        have sd6 := cbk db.out 6 (.bool d.ring) rfl
        have sf6 := frozen_blk db.out 6
        have sd7 := cbk db.out 7 (.bool d.stamped) rfl
        have sf7 := frozen_blk db.out 7
        have sd8 := cbk db.out 8 (.int .i64 d.buffer) rfl
        have sf8 := frozen_blk db.out 8
        have sl := blk_lt db.out
        go_simp
        try go_wp2_with fail
        refine out_gen hK _ _ (fun wz : World => Kp (wz.heap[P]? = some (.cells #[.slice kc.pa 2 kc.pc, .slice (some ⟨kc.cg, kc.co, none⟩) 1 kc.cc, .int .i64 1, .slice kc.a0 1 kc.c0, .int .i64 1, .slice kc.a1 1 kc.c1, .pointer (some ⟨B, 0, none⟩), .pointer (some ⟨BB, 0, none⟩), .pointer none, .pointer none, .int .u32 7, .int .u32 7, .int .i64 0, .int .i64 0, .int .i64 0, .int .i64 0, .int .i64 0] 77 (0, 0))) ∧ Kp (wz.heap[T]? = some (.cells #[.bool true, .int .i64 d2.code, .slice none 0 0, .bool d2.valid, .int .i64 d2.count, .bool d2.mark, .bool true, .bool d2.stamped, .int .i64 d2.buffer] 64 (0, 0))) ∧ Kp (w2.heap.size ≤ T ∧ ¬ S1 T ∧ ¬ R2 T ∧ T ≠ B ∧ T ≠ D ∧ T ≠ BB) ∧ Kp (Core w2 wz P B D BB 1 1 (sIt (pl12 1 1) (k + 1) (stepQ (pl12 1 1) zq)) OS OR S1 R2 xx) ∧ wd1.heap.size ≤ wz.heap.size) ⟨⟨(blk_set_ne (p := ⟨T, 8, none⟩) (blk_set_ne (p := ⟨T, 7, none⟩) (blk_set_ne (p := ⟨T, 6, none⟩) (blk_set_ne (p := ⟨T, 5, none⟩) (blk_set_ne (p := ⟨T, 4, none⟩) (blk_set_ne (p := ⟨T, 3, none⟩) (blk_set_ne (p := ⟨T, 2, none⟩) (blk_set_ne (p := ⟨T, 1, none⟩) (blk_set_ne (p := ⟨T, 0, none⟩) HP1.out (by show P ≠ T; omega) _) (by show P ≠ T; omega) _) (by show P ≠ T; omega) _) (by show P ≠ T; omega) _) (by show P ≠ T; omega) _) (by show P ≠ T; omega) _) (by show P ≠ T; omega) _) (by show P ≠ T; omega) _) (by show P ≠ T; omega) _)⟩, ⟨(blk_set (blk_set (blk_set (blk_set (blk_set (blk_set (blk_set (blk_set (blk_set db.out 0 _) 1 _) 2 _) 3 _) 4 _) 5 _) 6 _) 7 _) 8 _).trans (by first | (simp only [ls0, ls1, ls2]; done) | rfl)⟩, ⟨(((((((((HTN.out)))))))))⟩, ⟨(((((((((HC1.out.set T 0 _ HTN.out).set T 1 _ HTN.out).set T 2 _ HTN.out).set T 3 _ HTN.out).set T 4 _ HTN.out).set T 5 _ HTN.out).set T 6 _ HTN.out).set T 7 _ HTN.out).set T 8 _ HTN.out)⟩, (by simp [World.setCell])⟩ (xc_of (fz' := (0, 0)) HX0.out ((blk_set_ne (p := ⟨T, 8, none⟩) (blk_set_ne (p := ⟨T, 7, none⟩) (blk_set_ne (p := ⟨T, 6, none⟩) (blk_set_ne (p := ⟨T, 5, none⟩) (blk_set_ne (p := ⟨T, 4, none⟩) (blk_set_ne (p := ⟨T, 3, none⟩) (blk_set_ne (p := ⟨T, 2, none⟩) (blk_set_ne (p := ⟨T, 1, none⟩) (blk_set_ne (p := ⟨T, 0, none⟩) HP1.out (by show P ≠ T; omega) _) (by show P ≠ T; omega) _) (by show P ≠ T; omega) _) (by show P ≠ T; omega) _) (by show P ≠ T; omega) _) (by show P ≠ T; omega) _) (by show P ≠ T; omega) _) (by show P ≠ T; omega) _) (by show P ≠ T; omega) _)) 99 (fun _ _ => rfl)) (fun wd2 hRn hHn => ?_)
        clear hK K hHeld HP1 db HTN HC1 sd0 sf0 sd1 sf1 sd2 sf2 sd3 sf3 sd4 sf4 sd5 sf5 sd6 sf6 sd7 sf7 sd8 sf8 sl
        obtain ⟨HP1, db, HTN, HC1, hsz2⟩ := hRn
        have hHeld := hHn
        clear hHn
        try simp only [Act.put, ls0, ls1, ls2]
        refine wpAnyH_done (by kernel_rfl) ?_ _
        clear HX0
        clear hHeld
        have t0 := cbk db.out 0 (.bool true) rfl
        have t6 := cbk db.out 6 (.bool true) rfl
        have lTl := blk_lt db.out
        go_wp2
        go_ret
        exact ⟨rfl, HB2.out.trans (HC1.out.low.mono HB2.out.size)⟩
end Go.Proofs.YtmidcnfmphlneaaGreat

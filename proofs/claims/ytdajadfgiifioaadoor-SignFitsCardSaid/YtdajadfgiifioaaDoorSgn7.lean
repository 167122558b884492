/- Contracts of the reference: Private, talk, Refused. -/
import Derived.Test.YtdajadfgiifioaaDoorSgn6
import Derived.Test.YtdajadfgiifioaaDoorRLay2
namespace Go.Proofs.YtdajadfgiifioaaDoor
open Go.RowKit
set_option linter.unusedSimpArgs false
set_option linter.unusedVariables false

theorem privB_small (C : Cfg) (p : Int) : (0 ≤ (privB C p).1 ∧ (privB C p).1 ≤ 384) ∧ 0 ≤ (privB C p).2 ∧ (privB C p).2 ≤ 64 := by
  by_cases h : accB C = true ∧ 0 ≤ p ∧ p < C.parts.length
  · rw [privB, if_pos h]
    have hp : p.toNat < C.parts.length := by omega
    have h1 := (acc_of h.1).parts _ (List.getElem_mem hp)
    have h2 := privS_small h.1 p.toNat
    rw [List.getD_eq_getElem?_getD, List.getElem?_eq_getElem hp]
    exact ⟨h2, h1.2⟩
  · rw [privB_no C p h]
    decide
theorem privA_iff (C : Cfg) (p a f s : Int) (hf : (privB C p).1 = f) (hs : (privB C p).2 = s) : privA C p a = (decide (f ≤ a) && decide (a - f < s)) := by
  have h := privB_small C p
  rw [hf, hs] at h
  rw [privA, hf, hs]
  apply bool_eq
  rw [Bool.and_eq_true_iff, hasB_true, Bool.and_eq_true_iff]
  simp only [decide_eq_true_iff]
  omega

set_option maxRecDepth 100000 in
set_option maxHeartbeats 4000000 in
theorem rpriv10_lt (cv : Value) (C : Cfg) (hsm : C.small) (p a f s : Int) (hf : (privB C p).1 = f) (hs : (privB C p).2 = s) (ha0 : 0 ≤ a) (ham : a ≤ 18446744073709551615) (h1 : a < f) (w : World) (h : CfgAt w cv C) : Calls Tryd.prog 34 #[cv, .int .i64 p, .int .u64 a] w fun e w' => e = .returned (.bool (false)) ∧ Below w.heap.size w w' := by
  have HC := Kp.mk h
  have HF := Kp.mk hf
  have HS := Kp.mk hs
  obtain ⟨⟨b1, b2⟩, b3, b4⟩ := privB_small C p
  rw [hf] at b1 b2
  rw [hs] at b3 b4
  have v1 : IntKind.u64.wrap f = f := IntWalk.u64_in _ (by omega)
  have v2 : IntKind.u64.wrap s = s := IntWalk.u64_in _ (by omega)
  have hn : ¬ f ≤ a := by omega
  clear hf hs
  obtain ⟨ho, pa, pc, ca, cc, a0, c0, a1, c1, rfl, bp, bc, b0, b1, hp, hc, hw0, hw1⟩ := h
  clear ho hp hc hw0 hw1
  go_enter Tryd.func34, Tryd.ntmps34
  have HB0 : Kp (Below w.heap.size w w) := ⟨Below.refl _ _⟩
  go_wp2_with fail
  refine (rprivate_any _ C hsm p _ (HC.out.below (below_al HB0.out _))).mono ?_
  rw [HF.out, HS.out]
  rintro e w1 ⟨rfl, hb⟩
  have q1 : Kp (w1.heap[w.heap.size]? = some (.cells #[.slice pa C.parts.length pc, .slice ca C.chans.length cc, .int .i64 C.l0, .slice a0 C.w0.length c0, .int .i64 C.l1, .slice a1 C.w1.length c1] 29 (0, 0))) := ⟨blk_below (blk_new _ _) hb⟩
  have HB1 : Kp (Below w.heap.size w w1) := ⟨below_call (below_al HB0.out _) hb⟩
  clear HB0 hb
  have qc0 : w1.cell? ⟨w.heap.size, 0, none⟩ = some (.slice pa C.parts.length pc) := (cell_blk q1.out 0).trans rfl
  have qc1 : w1.cell? ⟨w.heap.size, 1, none⟩ = some (.slice ca C.chans.length cc) := (cell_blk q1.out 1).trans rfl
  have qc2 : w1.cell? ⟨w.heap.size, 2, none⟩ = some (.int .i64 C.l0) := (cell_blk q1.out 2).trans rfl
  have qc3 : w1.cell? ⟨w.heap.size, 3, none⟩ = some (.slice a0 C.w0.length c0) := (cell_blk q1.out 3).trans rfl
  have qc4 : w1.cell? ⟨w.heap.size, 4, none⟩ = some (.int .i64 C.l1) := (cell_blk q1.out 4).trans rfl
  have qc5 : w1.cell? ⟨w.heap.size, 5, none⟩ = some (.slice a1 C.w1.length c1) := (cell_blk q1.out 5).trans rfl
  have ql := blk_lt q1.out
  go_wp2
  go_ret
  exact ⟨rfl, (below_al HB1.out _)⟩

set_option maxRecDepth 100000 in
set_option maxHeartbeats 4000000 in
theorem rpriv10_ge (cv : Value) (C : Cfg) (hsm : C.small) (p a f s : Int) (hf : (privB C p).1 = f) (hs : (privB C p).2 = s) (ha0 : 0 ≤ a) (ham : a ≤ 18446744073709551615) (h1 : f ≤ a) (w : World) (h : CfgAt w cv C) : Calls Tryd.prog 34 #[cv, .int .i64 p, .int .u64 a] w fun e w' => e = .returned (.bool (decide (a - f < s))) ∧ Below w.heap.size w w' := by
  have HC := Kp.mk h
  have HF := Kp.mk hf
  have HS := Kp.mk hs
  obtain ⟨⟨b1, b2⟩, b3, b4⟩ := privB_small C p
  rw [hf] at b1 b2
  rw [hs] at b3 b4
  have v1 : IntKind.u64.wrap f = f := IntWalk.u64_in _ (by omega)
  have v2 : IntKind.u64.wrap s = s := IntWalk.u64_in _ (by omega)
  have v3 : IntKind.u64.wrap (a - f) = a - f := IntWalk.u64_in _ (by omega)
  clear hf hs
  obtain ⟨ho, pa, pc, ca, cc, a0, c0, a1, c1, rfl, bp, bc, b0, b1, hp, hc, hw0, hw1⟩ := h
  clear ho hp hc hw0 hw1
  go_enter Tryd.func34, Tryd.ntmps34
  have HB0 : Kp (Below w.heap.size w w) := ⟨Below.refl _ _⟩
  go_wp2_with fail
  refine (rprivate_any _ C hsm p _ (HC.out.below (below_al HB0.out _))).mono ?_
  rw [HF.out, HS.out]
  rintro e w1 ⟨rfl, hb⟩
  have q1 : Kp (w1.heap[w.heap.size]? = some (.cells #[.slice pa C.parts.length pc, .slice ca C.chans.length cc, .int .i64 C.l0, .slice a0 C.w0.length c0, .int .i64 C.l1, .slice a1 C.w1.length c1] 29 (0, 0))) := ⟨blk_below (blk_new _ _) hb⟩
  have HB1 : Kp (Below w.heap.size w w1) := ⟨below_call (below_al HB0.out _) hb⟩
  clear HB0 hb
  have qc0 : w1.cell? ⟨w.heap.size, 0, none⟩ = some (.slice pa C.parts.length pc) := (cell_blk q1.out 0).trans rfl
  have qc1 : w1.cell? ⟨w.heap.size, 1, none⟩ = some (.slice ca C.chans.length cc) := (cell_blk q1.out 1).trans rfl
  have qc2 : w1.cell? ⟨w.heap.size, 2, none⟩ = some (.int .i64 C.l0) := (cell_blk q1.out 2).trans rfl
  have qc3 : w1.cell? ⟨w.heap.size, 3, none⟩ = some (.slice a0 C.w0.length c0) := (cell_blk q1.out 3).trans rfl
  have qc4 : w1.cell? ⟨w.heap.size, 4, none⟩ = some (.int .i64 C.l1) := (cell_blk q1.out 4).trans rfl
  have qc5 : w1.cell? ⟨w.heap.size, 5, none⟩ = some (.slice a1 C.w1.length c1) := (cell_blk q1.out 5).trans rfl
  have ql := blk_lt q1.out
  go_wp2
  go_ret
  exact ⟨rfl, (below_al HB1.out _)⟩

theorem rpriv10_any (cv : Value) (C : Cfg) (hsm : C.small) (p a : Int) (ha0 : 0 ≤ a) (ham : a ≤ 18446744073709551615) (w : World) (h : CfgAt w cv C) : Calls Tryd.prog 34 #[cv, .int .i64 p, .int .u64 a] w fun e w' => e = .returned (.bool (privA C p a)) ∧ Below w.heap.size w w' := by
  rw [privA_iff C p a _ _ rfl rfl]
  by_cases h1 : (privB C p).1 ≤ a
  · rw [decide_eq_true h1, Bool.true_and]
    exact rpriv10_ge cv C hsm p a _ _ rfl rfl ha0 ham h1 w h
  · rw [decide_eq_false h1, Bool.false_and]
    exact rpriv10_lt cv C hsm p a _ _ rfl rfl ha0 ham (by omega) w h
theorem askV_is (C : Cfg) (S : Std) (R : Rqt) (k : Nat) (q : Int) (b : Bool) (x : Chn) (h : portV C R.port = ⟨k, q, b, true⟩) (hx : chnAt C k = x) : askV C S R = askD C S R x b (q == S.part) := by
  rw [askV, h]
  simp only [if_pos, Bool.true_and, hx]
theorem askV_nis (C : Cfg) (S : Std) (R : Rqt) (h : (portV C R.port).is = false) : (askV C S R).own = false := by
  simp [askV, askD, h]

set_option maxRecDepth 100000 in
set_option maxHeartbeats 8000000 in
theorem talk_nis (cv sv rv : Value) (C : Cfg) (S : Std) (R : Rqt) (hsm : C.small) (hm : S.made.length ≤ 100) (hd : R.data.length ≤ 100) (hi : (portV C R.port).is = false) (w : World) (hc : CfgAt w cv C) (hs : StdAt w sv S) (hr : RqtAt w rv R) : Calls Tryd.prog 33 #[cv, sv, rv] w fun e w' => e = .returned (.int .i64 (3)) ∧ Below w.heap.size w w' := by
  have HPV := Kp.mk (portV_nis C R.port hi)
  have HST := Kp.mk hs
  have HC := Kp.mk hc
  have HS := Kp.mk hs
  have HR := Kp.mk hr
  obtain ⟨_, pa, pc, ca, cc, a0, c0, a1, c1, rfl, bp, bc, b0, b1, gp, gc, gw0, gw1⟩ := hc
  obtain ⟨_, ma, mc, va, vc, rfl, bm, bv, gm, gv⟩ := hs
  obtain ⟨ir, da, dc, rfl, bd, gd⟩ := hr
  clear gp gw0 gw1 gm gv gd bp b0 b1
  clear gc
  go_enter Tryd.func33, Tryd.ntmps33
  have HB0 : Kp (Below w.heap.size w w) := ⟨Below.refl _ _⟩
  go_wp2_with fail
  refine (rport_any _ C hsm R.port _ (HC.out.below (below_al (below_al (below_al HB0.out _) _) _))).mono ?_
  rw [HPV.out]
  rintro e w1 ⟨rfl, hb⟩
  have q1 : Kp (w1.heap[w.heap.size]? = some (.cells #[.slice pa C.parts.length pc, .slice ca C.chans.length cc, .int .i64 C.l0, .slice a0 C.w0.length c0, .int .i64 C.l1, .slice a1 C.w1.length c1] 29 (0, 0))) := ⟨blk_below (blk_al (blk_al (blk_new _ _) _) _) hb⟩
  have s1 : Kp (w1.heap[w.heap.size + 1]? = some (.cells #[.int .i64 S.part, .bool S.normal, .slice ma S.made.length mc, .slice va S.valid.length vc] 40 (0, 0))) := ⟨blk_below (blk_al (blk_at (w := (w.alloc (.cells #[.slice pa C.parts.length pc, .slice ca C.chans.length cc, .int .i64 C.l0, .slice a0 C.w0.length c0, .int .i64 C.l1, .slice a1 C.w1.length c1] 29))) (by simp) _) _) hb⟩
  have r1 : Kp (w1.heap[w.heap.size + 1 + 1]? = some (.cells #[.int .i64 R.op, .int .i64 R.port, .int .u64 R.addr, .slice da R.data.length dc] 44 (0, 0))) := ⟨blk_below (blk_at (w := ((w.alloc (.cells #[.slice pa C.parts.length pc, .slice ca C.chans.length cc, .int .i64 C.l0, .slice a0 C.w0.length c0, .int .i64 C.l1, .slice a1 C.w1.length c1] 29)).alloc (.cells #[.int .i64 S.part, .bool S.normal, .slice ma S.made.length mc, .slice va S.valid.length vc] 40))) (by simp) _) hb⟩
  have HB1 : Kp (Below w.heap.size w w1) := ⟨below_call (below_al (below_al (below_al HB0.out _) _) _) hb⟩
  clear HB0 hb
  have qc0 : w1.cell? ⟨w.heap.size, 0, none⟩ = some (.slice pa C.parts.length pc) := (cell_blk q1.out 0).trans rfl
  have qc1 : w1.cell? ⟨w.heap.size, 1, none⟩ = some (.slice ca C.chans.length cc) := (cell_blk q1.out 1).trans rfl
  have qc2 : w1.cell? ⟨w.heap.size, 2, none⟩ = some (.int .i64 C.l0) := (cell_blk q1.out 2).trans rfl
  have qc3 : w1.cell? ⟨w.heap.size, 3, none⟩ = some (.slice a0 C.w0.length c0) := (cell_blk q1.out 3).trans rfl
  have qc4 : w1.cell? ⟨w.heap.size, 4, none⟩ = some (.int .i64 C.l1) := (cell_blk q1.out 4).trans rfl
  have qc5 : w1.cell? ⟨w.heap.size, 5, none⟩ = some (.slice a1 C.w1.length c1) := (cell_blk q1.out 5).trans rfl
  have ql := blk_lt q1.out
  have sc0 : w1.cell? ⟨w.heap.size + 1, 0, none⟩ = some (.int .i64 S.part) := (cell_blk s1.out 0).trans rfl
  have sc1 : w1.cell? ⟨w.heap.size + 1, 1, none⟩ = some (.bool S.normal) := (cell_blk s1.out 1).trans rfl
  have sc2 : w1.cell? ⟨w.heap.size + 1, 2, none⟩ = some (.slice ma S.made.length mc) := (cell_blk s1.out 2).trans rfl
  have sc3 : w1.cell? ⟨w.heap.size + 1, 3, none⟩ = some (.slice va S.valid.length vc) := (cell_blk s1.out 3).trans rfl
  have sl := blk_lt s1.out
  have rc0 : w1.cell? ⟨w.heap.size + 1 + 1, 0, none⟩ = some (.int .i64 R.op) := (cell_blk r1.out 0).trans rfl
  have rc1 : w1.cell? ⟨w.heap.size + 1 + 1, 1, none⟩ = some (.int .i64 R.port) := (cell_blk r1.out 1).trans rfl
  have rc2 : w1.cell? ⟨w.heap.size + 1 + 1, 2, none⟩ = some (.int .u64 R.addr) := (cell_blk r1.out 2).trans rfl
  have rc3 : w1.cell? ⟨w.heap.size + 1 + 1, 3, none⟩ = some (.slice da R.data.length dc) := (cell_blk r1.out 3).trans rfl
  have rl := blk_lt r1.out
  go_wp2
  go_ret
  exact ⟨rfl, (below_al HB1.out _)⟩

set_option maxRecDepth 100000 in
set_option maxHeartbeats 8000000 in
theorem talk_part (cv sv rv : Value) (C : Cfg) (S : Std) (R : Rqt) (hsm : C.small) (hm : S.made.length ≤ 100) (hd : R.data.length ≤ 100) (k0 : Nat) (hk0 : k0 < C.chans.length) (pp : Int) (src : Bool) (hpv : portV C R.port = ⟨k0, pp, src, true⟩) (hp : pp ≠ S.part) (w : World) (hc : CfgAt w cv C) (hs : StdAt w sv S) (hr : RqtAt w rv R) : Calls Tryd.prog 33 #[cv, sv, rv] w fun e w' => e = .returned (.int .i64 (3)) ∧ Below w.heap.size w w' := by
  have HPV := Kp.mk hpv
  have hne : (pp != S.part) = true := by simpa using hp
  clear hpv hp
  have HST := Kp.mk hs
  have HC := Kp.mk hc
  have HS := Kp.mk hs
  have HR := Kp.mk hr
  obtain ⟨_, pa, pc, ca, cc, a0, c0, a1, c1, rfl, bp, bc, b0, b1, gp, gc, gw0, gw1⟩ := hc
  obtain ⟨_, ma, mc, va, vc, rfl, bm, bv, gm, gv⟩ := hs
  obtain ⟨ir, da, dc, rfl, bd, gd⟩ := hr
  clear gp gw0 gw1 gm gv gd bp b0 b1
  clear gc
  go_enter Tryd.func33, Tryd.ntmps33
  have HB0 : Kp (Below w.heap.size w w) := ⟨Below.refl _ _⟩
  go_wp2_with fail
  refine (rport_any _ C hsm R.port _ (HC.out.below (below_al (below_al (below_al HB0.out _) _) _))).mono ?_
  rw [HPV.out]
  rintro e w1 ⟨rfl, hb⟩
  have q1 : Kp (w1.heap[w.heap.size]? = some (.cells #[.slice pa C.parts.length pc, .slice ca C.chans.length cc, .int .i64 C.l0, .slice a0 C.w0.length c0, .int .i64 C.l1, .slice a1 C.w1.length c1] 29 (0, 0))) := ⟨blk_below (blk_al (blk_al (blk_new _ _) _) _) hb⟩
  have s1 : Kp (w1.heap[w.heap.size + 1]? = some (.cells #[.int .i64 S.part, .bool S.normal, .slice ma S.made.length mc, .slice va S.valid.length vc] 40 (0, 0))) := ⟨blk_below (blk_al (blk_at (w := (w.alloc (.cells #[.slice pa C.parts.length pc, .slice ca C.chans.length cc, .int .i64 C.l0, .slice a0 C.w0.length c0, .int .i64 C.l1, .slice a1 C.w1.length c1] 29))) (by simp) _) _) hb⟩
  have r1 : Kp (w1.heap[w.heap.size + 1 + 1]? = some (.cells #[.int .i64 R.op, .int .i64 R.port, .int .u64 R.addr, .slice da R.data.length dc] 44 (0, 0))) := ⟨blk_below (blk_at (w := ((w.alloc (.cells #[.slice pa C.parts.length pc, .slice ca C.chans.length cc, .int .i64 C.l0, .slice a0 C.w0.length c0, .int .i64 C.l1, .slice a1 C.w1.length c1] 29)).alloc (.cells #[.int .i64 S.part, .bool S.normal, .slice ma S.made.length mc, .slice va S.valid.length vc] 40))) (by simp) _) hb⟩
  have HB1 : Kp (Below w.heap.size w w1) := ⟨below_call (below_al (below_al (below_al HB0.out _) _) _) hb⟩
  clear HB0 hb
  have qc0 : w1.cell? ⟨w.heap.size, 0, none⟩ = some (.slice pa C.parts.length pc) := (cell_blk q1.out 0).trans rfl
  have qc1 : w1.cell? ⟨w.heap.size, 1, none⟩ = some (.slice ca C.chans.length cc) := (cell_blk q1.out 1).trans rfl
  have qc2 : w1.cell? ⟨w.heap.size, 2, none⟩ = some (.int .i64 C.l0) := (cell_blk q1.out 2).trans rfl
  have qc3 : w1.cell? ⟨w.heap.size, 3, none⟩ = some (.slice a0 C.w0.length c0) := (cell_blk q1.out 3).trans rfl
  have qc4 : w1.cell? ⟨w.heap.size, 4, none⟩ = some (.int .i64 C.l1) := (cell_blk q1.out 4).trans rfl
  have qc5 : w1.cell? ⟨w.heap.size, 5, none⟩ = some (.slice a1 C.w1.length c1) := (cell_blk q1.out 5).trans rfl
  have ql := blk_lt q1.out
  have sc0 : w1.cell? ⟨w.heap.size + 1, 0, none⟩ = some (.int .i64 S.part) := (cell_blk s1.out 0).trans rfl
  have sc1 : w1.cell? ⟨w.heap.size + 1, 1, none⟩ = some (.bool S.normal) := (cell_blk s1.out 1).trans rfl
  have sc2 : w1.cell? ⟨w.heap.size + 1, 2, none⟩ = some (.slice ma S.made.length mc) := (cell_blk s1.out 2).trans rfl
  have sc3 : w1.cell? ⟨w.heap.size + 1, 3, none⟩ = some (.slice va S.valid.length vc) := (cell_blk s1.out 3).trans rfl
  have sl := blk_lt s1.out
  have rc0 : w1.cell? ⟨w.heap.size + 1 + 1, 0, none⟩ = some (.int .i64 R.op) := (cell_blk r1.out 0).trans rfl
  have rc1 : w1.cell? ⟨w.heap.size + 1 + 1, 1, none⟩ = some (.int .i64 R.port) := (cell_blk r1.out 1).trans rfl
  have rc2 : w1.cell? ⟨w.heap.size + 1 + 1, 2, none⟩ = some (.int .u64 R.addr) := (cell_blk r1.out 2).trans rfl
  have rc3 : w1.cell? ⟨w.heap.size + 1 + 1, 3, none⟩ = some (.slice da R.data.length dc) := (cell_blk r1.out 3).trans rfl
  have rl := blk_lt r1.out
  go_wp2
  go_ret
  exact ⟨rfl, (below_al HB1.out _)⟩

set_option maxRecDepth 100000 in
set_option maxHeartbeats 8000000 in
theorem talk_made (cv sv rv : Value) (C : Cfg) (S : Std) (R : Rqt) (hsm : C.small) (hm : S.made.length ≤ 100) (hd : R.data.length ≤ 100) (k0 : Nat) (hk0 : k0 < C.chans.length) (pp : Int) (src : Bool) (hpv : portV C R.port = ⟨k0, pp, src, true⟩) (hp : pp = S.part) (hmd : S.made.contains R.port = false) (w : World) (hc : CfgAt w cv C) (hs : StdAt w sv S) (hr : RqtAt w rv R) : Calls Tryd.prog 33 #[cv, sv, rv] w fun e w' => e = .returned (.int .i64 (3)) ∧ Below w.heap.size w w' := by
  have HPV := Kp.mk hpv
  have hne : (pp != S.part) = false := by simpa using hp
  have HMD := Kp.mk hmd
  clear hpv hp hmd
  have HST := Kp.mk hs
  have HC := Kp.mk hc
  have HS := Kp.mk hs
  have HR := Kp.mk hr
  obtain ⟨_, pa, pc, ca, cc, a0, c0, a1, c1, rfl, bp, bc, b0, b1, gp, gc, gw0, gw1⟩ := hc
  obtain ⟨_, ma, mc, va, vc, rfl, bm, bv, gm, gv⟩ := hs
  obtain ⟨ir, da, dc, rfl, bd, gd⟩ := hr
  clear gp gw0 gw1 gm gv gd bp b0 b1
  clear gc
  go_enter Tryd.func33, Tryd.ntmps33
  have HB0 : Kp (Below w.heap.size w w) := ⟨Below.refl _ _⟩
  go_wp2_with fail
  refine (rport_any _ C hsm R.port _ (HC.out.below (below_al (below_al (below_al HB0.out _) _) _))).mono ?_
  rw [HPV.out]
  rintro e w1 ⟨rfl, hb⟩
  have q1 : Kp (w1.heap[w.heap.size]? = some (.cells #[.slice pa C.parts.length pc, .slice ca C.chans.length cc, .int .i64 C.l0, .slice a0 C.w0.length c0, .int .i64 C.l1, .slice a1 C.w1.length c1] 29 (0, 0))) := ⟨blk_below (blk_al (blk_al (blk_new _ _) _) _) hb⟩
  have s1 : Kp (w1.heap[w.heap.size + 1]? = some (.cells #[.int .i64 S.part, .bool S.normal, .slice ma S.made.length mc, .slice va S.valid.length vc] 40 (0, 0))) := ⟨blk_below (blk_al (blk_at (w := (w.alloc (.cells #[.slice pa C.parts.length pc, .slice ca C.chans.length cc, .int .i64 C.l0, .slice a0 C.w0.length c0, .int .i64 C.l1, .slice a1 C.w1.length c1] 29))) (by simp) _) _) hb⟩
  have r1 : Kp (w1.heap[w.heap.size + 1 + 1]? = some (.cells #[.int .i64 R.op, .int .i64 R.port, .int .u64 R.addr, .slice da R.data.length dc] 44 (0, 0))) := ⟨blk_below (blk_at (w := ((w.alloc (.cells #[.slice pa C.parts.length pc, .slice ca C.chans.length cc, .int .i64 C.l0, .slice a0 C.w0.length c0, .int .i64 C.l1, .slice a1 C.w1.length c1] 29)).alloc (.cells #[.int .i64 S.part, .bool S.normal, .slice ma S.made.length mc, .slice va S.valid.length vc] 40))) (by simp) _) hb⟩
  have HB1 : Kp (Below w.heap.size w w1) := ⟨below_call (below_al (below_al (below_al HB0.out _) _) _) hb⟩
  clear HB0 hb
  have qc0 : w1.cell? ⟨w.heap.size, 0, none⟩ = some (.slice pa C.parts.length pc) := (cell_blk q1.out 0).trans rfl
  have qc1 : w1.cell? ⟨w.heap.size, 1, none⟩ = some (.slice ca C.chans.length cc) := (cell_blk q1.out 1).trans rfl
  have qc2 : w1.cell? ⟨w.heap.size, 2, none⟩ = some (.int .i64 C.l0) := (cell_blk q1.out 2).trans rfl
  have qc3 : w1.cell? ⟨w.heap.size, 3, none⟩ = some (.slice a0 C.w0.length c0) := (cell_blk q1.out 3).trans rfl
  have qc4 : w1.cell? ⟨w.heap.size, 4, none⟩ = some (.int .i64 C.l1) := (cell_blk q1.out 4).trans rfl
  have qc5 : w1.cell? ⟨w.heap.size, 5, none⟩ = some (.slice a1 C.w1.length c1) := (cell_blk q1.out 5).trans rfl
  have ql := blk_lt q1.out
  have sc0 : w1.cell? ⟨w.heap.size + 1, 0, none⟩ = some (.int .i64 S.part) := (cell_blk s1.out 0).trans rfl
  have sc1 : w1.cell? ⟨w.heap.size + 1, 1, none⟩ = some (.bool S.normal) := (cell_blk s1.out 1).trans rfl
  have sc2 : w1.cell? ⟨w.heap.size + 1, 2, none⟩ = some (.slice ma S.made.length mc) := (cell_blk s1.out 2).trans rfl
  have sc3 : w1.cell? ⟨w.heap.size + 1, 3, none⟩ = some (.slice va S.valid.length vc) := (cell_blk s1.out 3).trans rfl
  have sl := blk_lt s1.out
  have rc0 : w1.cell? ⟨w.heap.size + 1 + 1, 0, none⟩ = some (.int .i64 R.op) := (cell_blk r1.out 0).trans rfl
  have rc1 : w1.cell? ⟨w.heap.size + 1 + 1, 1, none⟩ = some (.int .i64 R.port) := (cell_blk r1.out 1).trans rfl
  have rc2 : w1.cell? ⟨w.heap.size + 1 + 1, 2, none⟩ = some (.int .u64 R.addr) := (cell_blk r1.out 2).trans rfl
  have rc3 : w1.cell? ⟨w.heap.size + 1 + 1, 3, none⟩ = some (.slice da R.data.length dc) := (cell_blk r1.out 3).trans rfl
  have rl := blk_lt r1.out
  go_wp2_with fail
  refine (rmade_any _ S R.port hm _ (HS.out.below (below_al HB1.out _))).mono ?_
  rw [HMD.out]
  rintro e w2 ⟨rfl, hb⟩
  have x2 : Kp (w2.heap[w1.heap.size]? = some (.cells #[.int .i64 (k0 : Int), .int .i64 pp, .bool src, .bool true] 35 (0, 0))) := ⟨blk_below (blk_new _ _) hb⟩
  have q2 : Kp (w2.heap[w.heap.size]? = some (.cells #[.slice pa C.parts.length pc, .slice ca C.chans.length cc, .int .i64 C.l0, .slice a0 C.w0.length c0, .int .i64 C.l1, .slice a1 C.w1.length c1] 29 (0, 0))) := ⟨blk_below (blk_al q1.out _) hb⟩
  have s2 : Kp (w2.heap[w.heap.size + 1]? = some (.cells #[.int .i64 S.part, .bool S.normal, .slice ma S.made.length mc, .slice va S.valid.length vc] 40 (0, 0))) := ⟨blk_below (blk_al s1.out _) hb⟩
  have r2 : Kp (w2.heap[w.heap.size + 1 + 1]? = some (.cells #[.int .i64 R.op, .int .i64 R.port, .int .u64 R.addr, .slice da R.data.length dc] 44 (0, 0))) := ⟨blk_below (blk_al r1.out _) hb⟩
  have HB2 : Kp (Below w.heap.size w w2) := ⟨below_call (below_al HB1.out _) hb⟩
  clear qc0 qc1 qc2 qc3 qc4 qc5 ql sc0 sc1 sc2 sc3 sl rc0 rc1 rc2 rc3 rl q1 s1 r1 HB1 hb
  have xc0 : w2.cell? ⟨w1.heap.size, 0, none⟩ = some (.int .i64 (k0 : Int)) := (cell_blk x2.out 0).trans rfl
  have xc1 : w2.cell? ⟨w1.heap.size, 1, none⟩ = some (.int .i64 pp) := (cell_blk x2.out 1).trans rfl
  have xc2 : w2.cell? ⟨w1.heap.size, 2, none⟩ = some (.bool src) := (cell_blk x2.out 2).trans rfl
  have xc3 : w2.cell? ⟨w1.heap.size, 3, none⟩ = some (.bool true) := (cell_blk x2.out 3).trans rfl
  have xl := blk_lt x2.out
  have qc0 : w2.cell? ⟨w.heap.size, 0, none⟩ = some (.slice pa C.parts.length pc) := (cell_blk q2.out 0).trans rfl
  have qc1 : w2.cell? ⟨w.heap.size, 1, none⟩ = some (.slice ca C.chans.length cc) := (cell_blk q2.out 1).trans rfl
  have qc2 : w2.cell? ⟨w.heap.size, 2, none⟩ = some (.int .i64 C.l0) := (cell_blk q2.out 2).trans rfl
  have qc3 : w2.cell? ⟨w.heap.size, 3, none⟩ = some (.slice a0 C.w0.length c0) := (cell_blk q2.out 3).trans rfl
  have qc4 : w2.cell? ⟨w.heap.size, 4, none⟩ = some (.int .i64 C.l1) := (cell_blk q2.out 4).trans rfl
  have qc5 : w2.cell? ⟨w.heap.size, 5, none⟩ = some (.slice a1 C.w1.length c1) := (cell_blk q2.out 5).trans rfl
  have ql := blk_lt q2.out
  have sc0 : w2.cell? ⟨w.heap.size + 1, 0, none⟩ = some (.int .i64 S.part) := (cell_blk s2.out 0).trans rfl
  have sc1 : w2.cell? ⟨w.heap.size + 1, 1, none⟩ = some (.bool S.normal) := (cell_blk s2.out 1).trans rfl
  have sc2 : w2.cell? ⟨w.heap.size + 1, 2, none⟩ = some (.slice ma S.made.length mc) := (cell_blk s2.out 2).trans rfl
  have sc3 : w2.cell? ⟨w.heap.size + 1, 3, none⟩ = some (.slice va S.valid.length vc) := (cell_blk s2.out 3).trans rfl
  have sl := blk_lt s2.out
  have rc0 : w2.cell? ⟨w.heap.size + 1 + 1, 0, none⟩ = some (.int .i64 R.op) := (cell_blk r2.out 0).trans rfl
  have rc1 : w2.cell? ⟨w.heap.size + 1 + 1, 1, none⟩ = some (.int .i64 R.port) := (cell_blk r2.out 1).trans rfl
  have rc2 : w2.cell? ⟨w.heap.size + 1 + 1, 2, none⟩ = some (.int .u64 R.addr) := (cell_blk r2.out 2).trans rfl
  have rc3 : w2.cell? ⟨w.heap.size + 1 + 1, 3, none⟩ = some (.slice da R.data.length dc) := (cell_blk r2.out 3).trans rfl
  have rl := blk_lt r2.out
  go_wp2
  go_ret
  exact ⟨rfl, HB2.out⟩

set_option maxRecDepth 100000 in
set_option maxHeartbeats 8000000 in
theorem talk_mode (cv sv rv : Value) (C : Cfg) (S : Std) (R : Rqt) (hsm : C.small) (hm : S.made.length ≤ 100) (hd : R.data.length ≤ 100) (k0 : Nat) (hk0 : k0 < C.chans.length) (pp : Int) (src : Bool) (hpv : portV C R.port = ⟨k0, pp, src, true⟩) (hp : pp = S.part) (hmd : S.made.contains R.port = true) (hn : S.normal = false) (w : World) (hc : CfgAt w cv C) (hs : StdAt w sv S) (hr : RqtAt w rv R) : Calls Tryd.prog 33 #[cv, sv, rv] w fun e w' => e = .returned (.int .i64 (5)) ∧ Below w.heap.size w w' := by
  have HPV := Kp.mk hpv
  have hne : (pp != S.part) = false := by simpa using hp
  have HMD := Kp.mk hmd
  clear hpv hp hmd
  have HST := Kp.mk hs
  have HC := Kp.mk hc
  have HS := Kp.mk hs
  have HR := Kp.mk hr
  obtain ⟨_, pa, pc, ca, cc, a0, c0, a1, c1, rfl, bp, bc, b0, b1, gp, gc, gw0, gw1⟩ := hc
  obtain ⟨_, ma, mc, va, vc, rfl, bm, bv, gm, gv⟩ := hs
  obtain ⟨ir, da, dc, rfl, bd, gd⟩ := hr
  clear gp gw0 gw1 gm gv gd bp b0 b1
  clear HST
  rw [hn] at HS ⊢
  clear hn
  clear gc
  go_enter Tryd.func33, Tryd.ntmps33
  have HB0 : Kp (Below w.heap.size w w) := ⟨Below.refl _ _⟩
  go_wp2_with fail
  refine (rport_any _ C hsm R.port _ (HC.out.below (below_al (below_al (below_al HB0.out _) _) _))).mono ?_
  rw [HPV.out]
  rintro e w1 ⟨rfl, hb⟩
  have q1 : Kp (w1.heap[w.heap.size]? = some (.cells #[.slice pa C.parts.length pc, .slice ca C.chans.length cc, .int .i64 C.l0, .slice a0 C.w0.length c0, .int .i64 C.l1, .slice a1 C.w1.length c1] 29 (0, 0))) := ⟨blk_below (blk_al (blk_al (blk_new _ _) _) _) hb⟩
  have s1 : Kp (w1.heap[w.heap.size + 1]? = some (.cells #[.int .i64 S.part, .bool false, .slice ma S.made.length mc, .slice va S.valid.length vc] 40 (0, 0))) := ⟨blk_below (blk_al (blk_at (w := (w.alloc (.cells #[.slice pa C.parts.length pc, .slice ca C.chans.length cc, .int .i64 C.l0, .slice a0 C.w0.length c0, .int .i64 C.l1, .slice a1 C.w1.length c1] 29))) (by simp) _) _) hb⟩
  have r1 : Kp (w1.heap[w.heap.size + 1 + 1]? = some (.cells #[.int .i64 R.op, .int .i64 R.port, .int .u64 R.addr, .slice da R.data.length dc] 44 (0, 0))) := ⟨blk_below (blk_at (w := ((w.alloc (.cells #[.slice pa C.parts.length pc, .slice ca C.chans.length cc, .int .i64 C.l0, .slice a0 C.w0.length c0, .int .i64 C.l1, .slice a1 C.w1.length c1] 29)).alloc (.cells #[.int .i64 S.part, .bool false, .slice ma S.made.length mc, .slice va S.valid.length vc] 40))) (by simp) _) hb⟩
  have HB1 : Kp (Below w.heap.size w w1) := ⟨below_call (below_al (below_al (below_al HB0.out _) _) _) hb⟩
  clear HB0 hb
  have qc0 : w1.cell? ⟨w.heap.size, 0, none⟩ = some (.slice pa C.parts.length pc) := (cell_blk q1.out 0).trans rfl
  have qc1 : w1.cell? ⟨w.heap.size, 1, none⟩ = some (.slice ca C.chans.length cc) := (cell_blk q1.out 1).trans rfl
  have qc2 : w1.cell? ⟨w.heap.size, 2, none⟩ = some (.int .i64 C.l0) := (cell_blk q1.out 2).trans rfl
  have qc3 : w1.cell? ⟨w.heap.size, 3, none⟩ = some (.slice a0 C.w0.length c0) := (cell_blk q1.out 3).trans rfl
  have qc4 : w1.cell? ⟨w.heap.size, 4, none⟩ = some (.int .i64 C.l1) := (cell_blk q1.out 4).trans rfl
  have qc5 : w1.cell? ⟨w.heap.size, 5, none⟩ = some (.slice a1 C.w1.length c1) := (cell_blk q1.out 5).trans rfl
  have ql := blk_lt q1.out
  have sc0 : w1.cell? ⟨w.heap.size + 1, 0, none⟩ = some (.int .i64 S.part) := (cell_blk s1.out 0).trans rfl
  have sc1 : w1.cell? ⟨w.heap.size + 1, 1, none⟩ = some (.bool false) := (cell_blk s1.out 1).trans rfl
  have sc2 : w1.cell? ⟨w.heap.size + 1, 2, none⟩ = some (.slice ma S.made.length mc) := (cell_blk s1.out 2).trans rfl
  have sc3 : w1.cell? ⟨w.heap.size + 1, 3, none⟩ = some (.slice va S.valid.length vc) := (cell_blk s1.out 3).trans rfl
  have sl := blk_lt s1.out
  have rc0 : w1.cell? ⟨w.heap.size + 1 + 1, 0, none⟩ = some (.int .i64 R.op) := (cell_blk r1.out 0).trans rfl
  have rc1 : w1.cell? ⟨w.heap.size + 1 + 1, 1, none⟩ = some (.int .i64 R.port) := (cell_blk r1.out 1).trans rfl
  have rc2 : w1.cell? ⟨w.heap.size + 1 + 1, 2, none⟩ = some (.int .u64 R.addr) := (cell_blk r1.out 2).trans rfl
  have rc3 : w1.cell? ⟨w.heap.size + 1 + 1, 3, none⟩ = some (.slice da R.data.length dc) := (cell_blk r1.out 3).trans rfl
  have rl := blk_lt r1.out
  go_wp2_with fail
  refine (rmade_any _ S R.port hm _ (HS.out.below (below_al HB1.out _))).mono ?_
  rw [HMD.out]
  rintro e w2 ⟨rfl, hb⟩
  have x2 : Kp (w2.heap[w1.heap.size]? = some (.cells #[.int .i64 (k0 : Int), .int .i64 pp, .bool src, .bool true] 35 (0, 0))) := ⟨blk_below (blk_new _ _) hb⟩
  have q2 : Kp (w2.heap[w.heap.size]? = some (.cells #[.slice pa C.parts.length pc, .slice ca C.chans.length cc, .int .i64 C.l0, .slice a0 C.w0.length c0, .int .i64 C.l1, .slice a1 C.w1.length c1] 29 (0, 0))) := ⟨blk_below (blk_al q1.out _) hb⟩
  have s2 : Kp (w2.heap[w.heap.size + 1]? = some (.cells #[.int .i64 S.part, .bool false, .slice ma S.made.length mc, .slice va S.valid.length vc] 40 (0, 0))) := ⟨blk_below (blk_al s1.out _) hb⟩
  have r2 : Kp (w2.heap[w.heap.size + 1 + 1]? = some (.cells #[.int .i64 R.op, .int .i64 R.port, .int .u64 R.addr, .slice da R.data.length dc] 44 (0, 0))) := ⟨blk_below (blk_al r1.out _) hb⟩
  have HB2 : Kp (Below w.heap.size w w2) := ⟨below_call (below_al HB1.out _) hb⟩
  clear qc0 qc1 qc2 qc3 qc4 qc5 ql sc0 sc1 sc2 sc3 sl rc0 rc1 rc2 rc3 rl q1 s1 r1 HB1 hb
  have xc0 : w2.cell? ⟨w1.heap.size, 0, none⟩ = some (.int .i64 (k0 : Int)) := (cell_blk x2.out 0).trans rfl
  have xc1 : w2.cell? ⟨w1.heap.size, 1, none⟩ = some (.int .i64 pp) := (cell_blk x2.out 1).trans rfl
  have xc2 : w2.cell? ⟨w1.heap.size, 2, none⟩ = some (.bool src) := (cell_blk x2.out 2).trans rfl
  have xc3 : w2.cell? ⟨w1.heap.size, 3, none⟩ = some (.bool true) := (cell_blk x2.out 3).trans rfl
  have xl := blk_lt x2.out
  have qc0 : w2.cell? ⟨w.heap.size, 0, none⟩ = some (.slice pa C.parts.length pc) := (cell_blk q2.out 0).trans rfl
  have qc1 : w2.cell? ⟨w.heap.size, 1, none⟩ = some (.slice ca C.chans.length cc) := (cell_blk q2.out 1).trans rfl
  have qc2 : w2.cell? ⟨w.heap.size, 2, none⟩ = some (.int .i64 C.l0) := (cell_blk q2.out 2).trans rfl
  have qc3 : w2.cell? ⟨w.heap.size, 3, none⟩ = some (.slice a0 C.w0.length c0) := (cell_blk q2.out 3).trans rfl
  have qc4 : w2.cell? ⟨w.heap.size, 4, none⟩ = some (.int .i64 C.l1) := (cell_blk q2.out 4).trans rfl
  have qc5 : w2.cell? ⟨w.heap.size, 5, none⟩ = some (.slice a1 C.w1.length c1) := (cell_blk q2.out 5).trans rfl
  have ql := blk_lt q2.out
  have sc0 : w2.cell? ⟨w.heap.size + 1, 0, none⟩ = some (.int .i64 S.part) := (cell_blk s2.out 0).trans rfl
  have sc1 : w2.cell? ⟨w.heap.size + 1, 1, none⟩ = some (.bool false) := (cell_blk s2.out 1).trans rfl
  have sc2 : w2.cell? ⟨w.heap.size + 1, 2, none⟩ = some (.slice ma S.made.length mc) := (cell_blk s2.out 2).trans rfl
  have sc3 : w2.cell? ⟨w.heap.size + 1, 3, none⟩ = some (.slice va S.valid.length vc) := (cell_blk s2.out 3).trans rfl
  have sl := blk_lt s2.out
  have rc0 : w2.cell? ⟨w.heap.size + 1 + 1, 0, none⟩ = some (.int .i64 R.op) := (cell_blk r2.out 0).trans rfl
  have rc1 : w2.cell? ⟨w.heap.size + 1 + 1, 1, none⟩ = some (.int .i64 R.port) := (cell_blk r2.out 1).trans rfl
  have rc2 : w2.cell? ⟨w.heap.size + 1 + 1, 2, none⟩ = some (.int .u64 R.addr) := (cell_blk r2.out 2).trans rfl
  have rc3 : w2.cell? ⟨w.heap.size + 1 + 1, 3, none⟩ = some (.slice da R.data.length dc) := (cell_blk r2.out 3).trans rfl
  have rl := blk_lt r2.out
  go_wp2
  go_ret
  exact ⟨rfl, HB2.out⟩

set_option maxRecDepth 100000 in
set_option maxHeartbeats 8000000 in
theorem talk_3kind (cv sv rv : Value) (C : Cfg) (S : Std) (R : Rqt) (hsm : C.small) (hm : S.made.length ≤ 100) (hd : R.data.length ≤ 100) (ho : R.op = 3) (k0 : Nat) (hk0 : k0 < C.chans.length) (pp : Int) (src : Bool) (hpv : portV C R.port = ⟨k0, pp, src, true⟩) (x : Chn) (hx : C.chans[k0] = x) (hp : pp = S.part) (hmd : S.made.contains R.port = true) (hn : S.normal = true) (hk : ¬ x.kind = 1) (w : World) (hc : CfgAt w cv C) (hs : StdAt w sv S) (hr : RqtAt w rv R) : Calls Tryd.prog 33 #[cv, sv, rv] w fun e w' => e = .returned (.int .i64 (5)) ∧ Below w.heap.size w w' := by
  have HPV := Kp.mk hpv
  have hne : (pp != S.part) = false := by simpa using hp
  have HMD := Kp.mk hmd
  clear hpv hp hmd
  have hkb : (x.kind != 1) = true := by simpa using hk
  clear hk
  have HST := Kp.mk hs
  have HC := Kp.mk hc
  have HS := Kp.mk hs
  have HR := Kp.mk hr
  obtain ⟨_, pa, pc, ca, cc, a0, c0, a1, c1, rfl, bp, bc, b0, b1, gp, gc, gw0, gw1⟩ := hc
  obtain ⟨_, ma, mc, va, vc, rfl, bm, bv, gm, gv⟩ := hs
  obtain ⟨ir, da, dc, rfl, bd, gd⟩ := hr
  clear gp gw0 gw1 gm gv gd bp b0 b1
  clear HST
  rw [hn] at HS ⊢
  clear hn
  rw [ho] at HR ⊢
  clear ho
  obtain ⟨g, o, rfl, hg, hcc⟩ := gc.at (by omega)
  have HK : Kp (∀ j, j < 7 → w.cell? ⟨g, o + k0 * 7 + j, none⟩ = (chanC x)[j]?) := ⟨fun j hj => by
    have h1 := hcc (k0 * 7 + j) (by omega)
    rw [flat_at chanC 7 chanC_len C.chans k0 j hk0 hj, hx] at h1
    rw [Nat.add_assoc]
    exact h1⟩
  have hki : (k0 : Int) < (C.chans.length : Int) := by omega
  have hkn := nat_nn k0
  clear hcc hx
  go_enter Tryd.func33, Tryd.ntmps33
  have HB0 : Kp (Below w.heap.size w w) := ⟨Below.refl _ _⟩
  go_wp2_with fail
  refine (rport_any _ C hsm R.port _ (HC.out.below (below_al (below_al (below_al HB0.out _) _) _))).mono ?_
  rw [HPV.out]
  rintro e w1 ⟨rfl, hb⟩
  have q1 : Kp (w1.heap[w.heap.size]? = some (.cells #[.slice pa C.parts.length pc, .slice (some ⟨g, o, none⟩) C.chans.length cc, .int .i64 C.l0, .slice a0 C.w0.length c0, .int .i64 C.l1, .slice a1 C.w1.length c1] 29 (0, 0))) := ⟨blk_below (blk_al (blk_al (blk_new _ _) _) _) hb⟩
  have s1 : Kp (w1.heap[w.heap.size + 1]? = some (.cells #[.int .i64 S.part, .bool true, .slice ma S.made.length mc, .slice va S.valid.length vc] 40 (0, 0))) := ⟨blk_below (blk_al (blk_at (w := (w.alloc (.cells #[.slice pa C.parts.length pc, .slice (some ⟨g, o, none⟩) C.chans.length cc, .int .i64 C.l0, .slice a0 C.w0.length c0, .int .i64 C.l1, .slice a1 C.w1.length c1] 29))) (by simp) _) _) hb⟩
  have r1 : Kp (w1.heap[w.heap.size + 1 + 1]? = some (.cells #[.int .i64 3, .int .i64 R.port, .int .u64 R.addr, .slice da R.data.length dc] 44 (0, 0))) := ⟨blk_below (blk_at (w := ((w.alloc (.cells #[.slice pa C.parts.length pc, .slice (some ⟨g, o, none⟩) C.chans.length cc, .int .i64 C.l0, .slice a0 C.w0.length c0, .int .i64 C.l1, .slice a1 C.w1.length c1] 29)).alloc (.cells #[.int .i64 S.part, .bool true, .slice ma S.made.length mc, .slice va S.valid.length vc] 40))) (by simp) _) hb⟩
  have HB1 : Kp (Below w.heap.size w w1) := ⟨below_call (below_al (below_al (below_al HB0.out _) _) _) hb⟩
  clear HB0 hb
  have qc0 : w1.cell? ⟨w.heap.size, 0, none⟩ = some (.slice pa C.parts.length pc) := (cell_blk q1.out 0).trans rfl
  have qc1 : w1.cell? ⟨w.heap.size, 1, none⟩ = some (.slice (some ⟨g, o, none⟩) C.chans.length cc) := (cell_blk q1.out 1).trans rfl
  have qc2 : w1.cell? ⟨w.heap.size, 2, none⟩ = some (.int .i64 C.l0) := (cell_blk q1.out 2).trans rfl
  have qc3 : w1.cell? ⟨w.heap.size, 3, none⟩ = some (.slice a0 C.w0.length c0) := (cell_blk q1.out 3).trans rfl
  have qc4 : w1.cell? ⟨w.heap.size, 4, none⟩ = some (.int .i64 C.l1) := (cell_blk q1.out 4).trans rfl
  have qc5 : w1.cell? ⟨w.heap.size, 5, none⟩ = some (.slice a1 C.w1.length c1) := (cell_blk q1.out 5).trans rfl
  have ql := blk_lt q1.out
  have sc0 : w1.cell? ⟨w.heap.size + 1, 0, none⟩ = some (.int .i64 S.part) := (cell_blk s1.out 0).trans rfl
  have sc1 : w1.cell? ⟨w.heap.size + 1, 1, none⟩ = some (.bool true) := (cell_blk s1.out 1).trans rfl
  have sc2 : w1.cell? ⟨w.heap.size + 1, 2, none⟩ = some (.slice ma S.made.length mc) := (cell_blk s1.out 2).trans rfl
  have sc3 : w1.cell? ⟨w.heap.size + 1, 3, none⟩ = some (.slice va S.valid.length vc) := (cell_blk s1.out 3).trans rfl
  have sl := blk_lt s1.out
  have rc0 : w1.cell? ⟨w.heap.size + 1 + 1, 0, none⟩ = some (.int .i64 3) := (cell_blk r1.out 0).trans rfl
  have rc1 : w1.cell? ⟨w.heap.size + 1 + 1, 1, none⟩ = some (.int .i64 R.port) := (cell_blk r1.out 1).trans rfl
  have rc2 : w1.cell? ⟨w.heap.size + 1 + 1, 2, none⟩ = some (.int .u64 R.addr) := (cell_blk r1.out 2).trans rfl
  have rc3 : w1.cell? ⟨w.heap.size + 1 + 1, 3, none⟩ = some (.slice da R.data.length dc) := (cell_blk r1.out 3).trans rfl
  have rl := blk_lt r1.out
  go_wp2_with fail
  refine (rmade_any _ S R.port hm _ (HS.out.below (below_al HB1.out _))).mono ?_
  rw [HMD.out]
  rintro e w2 ⟨rfl, hb⟩
  have x2 : Kp (w2.heap[w1.heap.size]? = some (.cells #[.int .i64 (k0 : Int), .int .i64 pp, .bool src, .bool true] 35 (0, 0))) := ⟨blk_below (blk_new _ _) hb⟩
  have q2 : Kp (w2.heap[w.heap.size]? = some (.cells #[.slice pa C.parts.length pc, .slice (some ⟨g, o, none⟩) C.chans.length cc, .int .i64 C.l0, .slice a0 C.w0.length c0, .int .i64 C.l1, .slice a1 C.w1.length c1] 29 (0, 0))) := ⟨blk_below (blk_al q1.out _) hb⟩
  have s2 : Kp (w2.heap[w.heap.size + 1]? = some (.cells #[.int .i64 S.part, .bool true, .slice ma S.made.length mc, .slice va S.valid.length vc] 40 (0, 0))) := ⟨blk_below (blk_al s1.out _) hb⟩
  have r2 : Kp (w2.heap[w.heap.size + 1 + 1]? = some (.cells #[.int .i64 3, .int .i64 R.port, .int .u64 R.addr, .slice da R.data.length dc] 44 (0, 0))) := ⟨blk_below (blk_al r1.out _) hb⟩
  have HB2 : Kp (Below w.heap.size w w2) := ⟨below_call (below_al HB1.out _) hb⟩
  clear qc0 qc1 qc2 qc3 qc4 qc5 ql sc0 sc1 sc2 sc3 sl rc0 rc1 rc2 rc3 rl q1 s1 r1 HB1 hb
  have xc0 : w2.cell? ⟨w1.heap.size, 0, none⟩ = some (.int .i64 (k0 : Int)) := (cell_blk x2.out 0).trans rfl
  have xc1 : w2.cell? ⟨w1.heap.size, 1, none⟩ = some (.int .i64 pp) := (cell_blk x2.out 1).trans rfl
  have xc2 : w2.cell? ⟨w1.heap.size, 2, none⟩ = some (.bool src) := (cell_blk x2.out 2).trans rfl
  have xc3 : w2.cell? ⟨w1.heap.size, 3, none⟩ = some (.bool true) := (cell_blk x2.out 3).trans rfl
  have xl := blk_lt x2.out
  have qc0 : w2.cell? ⟨w.heap.size, 0, none⟩ = some (.slice pa C.parts.length pc) := (cell_blk q2.out 0).trans rfl
  have qc1 : w2.cell? ⟨w.heap.size, 1, none⟩ = some (.slice (some ⟨g, o, none⟩) C.chans.length cc) := (cell_blk q2.out 1).trans rfl
  have qc2 : w2.cell? ⟨w.heap.size, 2, none⟩ = some (.int .i64 C.l0) := (cell_blk q2.out 2).trans rfl
  have qc3 : w2.cell? ⟨w.heap.size, 3, none⟩ = some (.slice a0 C.w0.length c0) := (cell_blk q2.out 3).trans rfl
  have qc4 : w2.cell? ⟨w.heap.size, 4, none⟩ = some (.int .i64 C.l1) := (cell_blk q2.out 4).trans rfl
  have qc5 : w2.cell? ⟨w.heap.size, 5, none⟩ = some (.slice a1 C.w1.length c1) := (cell_blk q2.out 5).trans rfl
  have ql := blk_lt q2.out
  have sc0 : w2.cell? ⟨w.heap.size + 1, 0, none⟩ = some (.int .i64 S.part) := (cell_blk s2.out 0).trans rfl
  have sc1 : w2.cell? ⟨w.heap.size + 1, 1, none⟩ = some (.bool true) := (cell_blk s2.out 1).trans rfl
  have sc2 : w2.cell? ⟨w.heap.size + 1, 2, none⟩ = some (.slice ma S.made.length mc) := (cell_blk s2.out 2).trans rfl
  have sc3 : w2.cell? ⟨w.heap.size + 1, 3, none⟩ = some (.slice va S.valid.length vc) := (cell_blk s2.out 3).trans rfl
  have sl := blk_lt s2.out
  have rc0 : w2.cell? ⟨w.heap.size + 1 + 1, 0, none⟩ = some (.int .i64 3) := (cell_blk r2.out 0).trans rfl
  have rc1 : w2.cell? ⟨w.heap.size + 1 + 1, 1, none⟩ = some (.int .i64 R.port) := (cell_blk r2.out 1).trans rfl
  have rc2 : w2.cell? ⟨w.heap.size + 1 + 1, 2, none⟩ = some (.int .u64 R.addr) := (cell_blk r2.out 2).trans rfl
  have rc3 : w2.cell? ⟨w.heap.size + 1 + 1, 3, none⟩ = some (.slice da R.data.length dc) := (cell_blk r2.out 3).trans rfl
  have rl := blk_lt r2.out
  have e0 : w2.cell? ⟨g, o + k0 * 7, none⟩ = some (.int .i64 x.kind) := (HB2.out.cell (p := ⟨g, o + k0 * 7, none⟩) hg).trans (HK.out 0 (by omega))
  have e3 : w2.cell? ⟨g, o + k0 * 7 + 3, none⟩ = some (.int .i64 x.words) := (HB2.out.cell (p := ⟨g, o + k0 * 7 + 3, none⟩) hg).trans (HK.out 3 (by omega))
  go_wp2
  go_ret
  exact ⟨rfl, HB2.out⟩

set_option maxRecDepth 100000 in
set_option maxHeartbeats 8000000 in
theorem talk_3src (cv sv rv : Value) (C : Cfg) (S : Std) (R : Rqt) (hsm : C.small) (hm : S.made.length ≤ 100) (hd : R.data.length ≤ 100) (ho : R.op = 3) (k0 : Nat) (hk0 : k0 < C.chans.length) (pp : Int) (src : Bool) (hpv : portV C R.port = ⟨k0, pp, src, true⟩) (x : Chn) (hx : C.chans[k0] = x) (hp : pp = S.part) (hmd : S.made.contains R.port = true) (hn : S.normal = true) (hk : x.kind = 1) (hsr : src = false) (w : World) (hc : CfgAt w cv C) (hs : StdAt w sv S) (hr : RqtAt w rv R) : Calls Tryd.prog 33 #[cv, sv, rv] w fun e w' => e = .returned (.int .i64 (5)) ∧ Below w.heap.size w w' := by
  have HPV := Kp.mk hpv
  have hne : (pp != S.part) = false := by simpa using hp
  have HMD := Kp.mk hmd
  clear hpv hp hmd
  have hkb : (x.kind != 1) = false := by simpa using hk
  subst hsr
  clear hk
  have HST := Kp.mk hs
  have HC := Kp.mk hc
  have HS := Kp.mk hs
  have HR := Kp.mk hr
  obtain ⟨_, pa, pc, ca, cc, a0, c0, a1, c1, rfl, bp, bc, b0, b1, gp, gc, gw0, gw1⟩ := hc
  obtain ⟨_, ma, mc, va, vc, rfl, bm, bv, gm, gv⟩ := hs
  obtain ⟨ir, da, dc, rfl, bd, gd⟩ := hr
  clear gp gw0 gw1 gm gv gd bp b0 b1
  clear HST
  rw [hn] at HS ⊢
  clear hn
  rw [ho] at HR ⊢
  clear ho
  obtain ⟨g, o, rfl, hg, hcc⟩ := gc.at (by omega)
  have HK : Kp (∀ j, j < 7 → w.cell? ⟨g, o + k0 * 7 + j, none⟩ = (chanC x)[j]?) := ⟨fun j hj => by
    have h1 := hcc (k0 * 7 + j) (by omega)
    rw [flat_at chanC 7 chanC_len C.chans k0 j hk0 hj, hx] at h1
    rw [Nat.add_assoc]
    exact h1⟩
  have hki : (k0 : Int) < (C.chans.length : Int) := by omega
  have hkn := nat_nn k0
  clear hcc hx
  go_enter Tryd.func33, Tryd.ntmps33
  have HB0 : Kp (Below w.heap.size w w) := ⟨Below.refl _ _⟩
  go_wp2_with fail
  refine (rport_any _ C hsm R.port _ (HC.out.below (below_al (below_al (below_al HB0.out _) _) _))).mono ?_
  rw [HPV.out]
  rintro e w1 ⟨rfl, hb⟩
  have q1 : Kp (w1.heap[w.heap.size]? = some (.cells #[.slice pa C.parts.length pc, .slice (some ⟨g, o, none⟩) C.chans.length cc, .int .i64 C.l0, .slice a0 C.w0.length c0, .int .i64 C.l1, .slice a1 C.w1.length c1] 29 (0, 0))) := ⟨blk_below (blk_al (blk_al (blk_new _ _) _) _) hb⟩
  have s1 : Kp (w1.heap[w.heap.size + 1]? = some (.cells #[.int .i64 S.part, .bool true, .slice ma S.made.length mc, .slice va S.valid.length vc] 40 (0, 0))) := ⟨blk_below (blk_al (blk_at (w := (w.alloc (.cells #[.slice pa C.parts.length pc, .slice (some ⟨g, o, none⟩) C.chans.length cc, .int .i64 C.l0, .slice a0 C.w0.length c0, .int .i64 C.l1, .slice a1 C.w1.length c1] 29))) (by simp) _) _) hb⟩
  have r1 : Kp (w1.heap[w.heap.size + 1 + 1]? = some (.cells #[.int .i64 3, .int .i64 R.port, .int .u64 R.addr, .slice da R.data.length dc] 44 (0, 0))) := ⟨blk_below (blk_at (w := ((w.alloc (.cells #[.slice pa C.parts.length pc, .slice (some ⟨g, o, none⟩) C.chans.length cc, .int .i64 C.l0, .slice a0 C.w0.length c0, .int .i64 C.l1, .slice a1 C.w1.length c1] 29)).alloc (.cells #[.int .i64 S.part, .bool true, .slice ma S.made.length mc, .slice va S.valid.length vc] 40))) (by simp) _) hb⟩
  have HB1 : Kp (Below w.heap.size w w1) := ⟨below_call (below_al (below_al (below_al HB0.out _) _) _) hb⟩
  clear HB0 hb
  have qc0 : w1.cell? ⟨w.heap.size, 0, none⟩ = some (.slice pa C.parts.length pc) := (cell_blk q1.out 0).trans rfl
  have qc1 : w1.cell? ⟨w.heap.size, 1, none⟩ = some (.slice (some ⟨g, o, none⟩) C.chans.length cc) := (cell_blk q1.out 1).trans rfl
  have qc2 : w1.cell? ⟨w.heap.size, 2, none⟩ = some (.int .i64 C.l0) := (cell_blk q1.out 2).trans rfl
  have qc3 : w1.cell? ⟨w.heap.size, 3, none⟩ = some (.slice a0 C.w0.length c0) := (cell_blk q1.out 3).trans rfl
  have qc4 : w1.cell? ⟨w.heap.size, 4, none⟩ = some (.int .i64 C.l1) := (cell_blk q1.out 4).trans rfl
  have qc5 : w1.cell? ⟨w.heap.size, 5, none⟩ = some (.slice a1 C.w1.length c1) := (cell_blk q1.out 5).trans rfl
  have ql := blk_lt q1.out
  have sc0 : w1.cell? ⟨w.heap.size + 1, 0, none⟩ = some (.int .i64 S.part) := (cell_blk s1.out 0).trans rfl
  have sc1 : w1.cell? ⟨w.heap.size + 1, 1, none⟩ = some (.bool true) := (cell_blk s1.out 1).trans rfl
  have sc2 : w1.cell? ⟨w.heap.size + 1, 2, none⟩ = some (.slice ma S.made.length mc) := (cell_blk s1.out 2).trans rfl
  have sc3 : w1.cell? ⟨w.heap.size + 1, 3, none⟩ = some (.slice va S.valid.length vc) := (cell_blk s1.out 3).trans rfl
  have sl := blk_lt s1.out
  have rc0 : w1.cell? ⟨w.heap.size + 1 + 1, 0, none⟩ = some (.int .i64 3) := (cell_blk r1.out 0).trans rfl
  have rc1 : w1.cell? ⟨w.heap.size + 1 + 1, 1, none⟩ = some (.int .i64 R.port) := (cell_blk r1.out 1).trans rfl
  have rc2 : w1.cell? ⟨w.heap.size + 1 + 1, 2, none⟩ = some (.int .u64 R.addr) := (cell_blk r1.out 2).trans rfl
  have rc3 : w1.cell? ⟨w.heap.size + 1 + 1, 3, none⟩ = some (.slice da R.data.length dc) := (cell_blk r1.out 3).trans rfl
  have rl := blk_lt r1.out
  go_wp2_with fail
  refine (rmade_any _ S R.port hm _ (HS.out.below (below_al HB1.out _))).mono ?_
  rw [HMD.out]
  rintro e w2 ⟨rfl, hb⟩
  have x2 : Kp (w2.heap[w1.heap.size]? = some (.cells #[.int .i64 (k0 : Int), .int .i64 pp, .bool false, .bool true] 35 (0, 0))) := ⟨blk_below (blk_new _ _) hb⟩
  have q2 : Kp (w2.heap[w.heap.size]? = some (.cells #[.slice pa C.parts.length pc, .slice (some ⟨g, o, none⟩) C.chans.length cc, .int .i64 C.l0, .slice a0 C.w0.length c0, .int .i64 C.l1, .slice a1 C.w1.length c1] 29 (0, 0))) := ⟨blk_below (blk_al q1.out _) hb⟩
  have s2 : Kp (w2.heap[w.heap.size + 1]? = some (.cells #[.int .i64 S.part, .bool true, .slice ma S.made.length mc, .slice va S.valid.length vc] 40 (0, 0))) := ⟨blk_below (blk_al s1.out _) hb⟩
  have r2 : Kp (w2.heap[w.heap.size + 1 + 1]? = some (.cells #[.int .i64 3, .int .i64 R.port, .int .u64 R.addr, .slice da R.data.length dc] 44 (0, 0))) := ⟨blk_below (blk_al r1.out _) hb⟩
  have HB2 : Kp (Below w.heap.size w w2) := ⟨below_call (below_al HB1.out _) hb⟩
  clear qc0 qc1 qc2 qc3 qc4 qc5 ql sc0 sc1 sc2 sc3 sl rc0 rc1 rc2 rc3 rl q1 s1 r1 HB1 hb
  have xc0 : w2.cell? ⟨w1.heap.size, 0, none⟩ = some (.int .i64 (k0 : Int)) := (cell_blk x2.out 0).trans rfl
  have xc1 : w2.cell? ⟨w1.heap.size, 1, none⟩ = some (.int .i64 pp) := (cell_blk x2.out 1).trans rfl
  have xc2 : w2.cell? ⟨w1.heap.size, 2, none⟩ = some (.bool false) := (cell_blk x2.out 2).trans rfl
  have xc3 : w2.cell? ⟨w1.heap.size, 3, none⟩ = some (.bool true) := (cell_blk x2.out 3).trans rfl
  have xl := blk_lt x2.out
  have qc0 : w2.cell? ⟨w.heap.size, 0, none⟩ = some (.slice pa C.parts.length pc) := (cell_blk q2.out 0).trans rfl
  have qc1 : w2.cell? ⟨w.heap.size, 1, none⟩ = some (.slice (some ⟨g, o, none⟩) C.chans.length cc) := (cell_blk q2.out 1).trans rfl
  have qc2 : w2.cell? ⟨w.heap.size, 2, none⟩ = some (.int .i64 C.l0) := (cell_blk q2.out 2).trans rfl
  have qc3 : w2.cell? ⟨w.heap.size, 3, none⟩ = some (.slice a0 C.w0.length c0) := (cell_blk q2.out 3).trans rfl
  have qc4 : w2.cell? ⟨w.heap.size, 4, none⟩ = some (.int .i64 C.l1) := (cell_blk q2.out 4).trans rfl
  have qc5 : w2.cell? ⟨w.heap.size, 5, none⟩ = some (.slice a1 C.w1.length c1) := (cell_blk q2.out 5).trans rfl
  have ql := blk_lt q2.out
  have sc0 : w2.cell? ⟨w.heap.size + 1, 0, none⟩ = some (.int .i64 S.part) := (cell_blk s2.out 0).trans rfl
  have sc1 : w2.cell? ⟨w.heap.size + 1, 1, none⟩ = some (.bool true) := (cell_blk s2.out 1).trans rfl
  have sc2 : w2.cell? ⟨w.heap.size + 1, 2, none⟩ = some (.slice ma S.made.length mc) := (cell_blk s2.out 2).trans rfl
  have sc3 : w2.cell? ⟨w.heap.size + 1, 3, none⟩ = some (.slice va S.valid.length vc) := (cell_blk s2.out 3).trans rfl
  have sl := blk_lt s2.out
  have rc0 : w2.cell? ⟨w.heap.size + 1 + 1, 0, none⟩ = some (.int .i64 3) := (cell_blk r2.out 0).trans rfl
  have rc1 : w2.cell? ⟨w.heap.size + 1 + 1, 1, none⟩ = some (.int .i64 R.port) := (cell_blk r2.out 1).trans rfl
  have rc2 : w2.cell? ⟨w.heap.size + 1 + 1, 2, none⟩ = some (.int .u64 R.addr) := (cell_blk r2.out 2).trans rfl
  have rc3 : w2.cell? ⟨w.heap.size + 1 + 1, 3, none⟩ = some (.slice da R.data.length dc) := (cell_blk r2.out 3).trans rfl
  have rl := blk_lt r2.out
  have e0 : w2.cell? ⟨g, o + k0 * 7, none⟩ = some (.int .i64 x.kind) := (HB2.out.cell (p := ⟨g, o + k0 * 7, none⟩) hg).trans (HK.out 0 (by omega))
  have e3 : w2.cell? ⟨g, o + k0 * 7 + 3, none⟩ = some (.int .i64 x.words) := (HB2.out.cell (p := ⟨g, o + k0 * 7 + 3, none⟩) hg).trans (HK.out 3 (by omega))
  go_wp2
  go_ret
  exact ⟨rfl, HB2.out⟩

set_option maxRecDepth 100000 in
set_option maxHeartbeats 8000000 in
theorem talk_3nil (cv sv rv : Value) (C : Cfg) (S : Std) (R : Rqt) (hsm : C.small) (hm : S.made.length ≤ 100) (hd : R.data.length ≤ 100) (ho : R.op = 3) (k0 : Nat) (hk0 : k0 < C.chans.length) (pp : Int) (src : Bool) (hpv : portV C R.port = ⟨k0, pp, src, true⟩) (x : Chn) (hx : C.chans[k0] = x) (hp : pp = S.part) (hmd : S.made.contains R.port = true) (hn : S.normal = true) (hk : x.kind = 1) (hsr : src = true) (hl : R.data.length = 0) (w : World) (hc : CfgAt w cv C) (hs : StdAt w sv S) (hr : RqtAt w rv R) : Calls Tryd.prog 33 #[cv, sv, rv] w fun e w' => e = .returned (.int .i64 (3)) ∧ Below w.heap.size w w' := by
  have HPV := Kp.mk hpv
  have hne : (pp != S.part) = false := by simpa using hp
  have HMD := Kp.mk hmd
  clear hpv hp hmd
  have hkb : (x.kind != 1) = false := by simpa using hk
  subst hsr
  clear hk
  have hl0 : ((R.data.length : Int) == 0) = true := by rw [beq_iff_eq]; omega
  clear hl
  have HST := Kp.mk hs
  have HC := Kp.mk hc
  have HS := Kp.mk hs
  have HR := Kp.mk hr
  obtain ⟨_, pa, pc, ca, cc, a0, c0, a1, c1, rfl, bp, bc, b0, b1, gp, gc, gw0, gw1⟩ := hc
  obtain ⟨_, ma, mc, va, vc, rfl, bm, bv, gm, gv⟩ := hs
  obtain ⟨ir, da, dc, rfl, bd, gd⟩ := hr
  clear gp gw0 gw1 gm gv gd bp b0 b1
  clear HST
  rw [hn] at HS ⊢
  clear hn
  rw [ho] at HR ⊢
  clear ho
  obtain ⟨g, o, rfl, hg, hcc⟩ := gc.at (by omega)
  have HK : Kp (∀ j, j < 7 → w.cell? ⟨g, o + k0 * 7 + j, none⟩ = (chanC x)[j]?) := ⟨fun j hj => by
    have h1 := hcc (k0 * 7 + j) (by omega)
    rw [flat_at chanC 7 chanC_len C.chans k0 j hk0 hj, hx] at h1
    rw [Nat.add_assoc]
    exact h1⟩
  have hki : (k0 : Int) < (C.chans.length : Int) := by omega
  have hkn := nat_nn k0
  clear hcc hx
  go_enter Tryd.func33, Tryd.ntmps33
  have HB0 : Kp (Below w.heap.size w w) := ⟨Below.refl _ _⟩
  go_wp2_with fail
  refine (rport_any _ C hsm R.port _ (HC.out.below (below_al (below_al (below_al HB0.out _) _) _))).mono ?_
  rw [HPV.out]
  rintro e w1 ⟨rfl, hb⟩
  have q1 : Kp (w1.heap[w.heap.size]? = some (.cells #[.slice pa C.parts.length pc, .slice (some ⟨g, o, none⟩) C.chans.length cc, .int .i64 C.l0, .slice a0 C.w0.length c0, .int .i64 C.l1, .slice a1 C.w1.length c1] 29 (0, 0))) := ⟨blk_below (blk_al (blk_al (blk_new _ _) _) _) hb⟩
  have s1 : Kp (w1.heap[w.heap.size + 1]? = some (.cells #[.int .i64 S.part, .bool true, .slice ma S.made.length mc, .slice va S.valid.length vc] 40 (0, 0))) := ⟨blk_below (blk_al (blk_at (w := (w.alloc (.cells #[.slice pa C.parts.length pc, .slice (some ⟨g, o, none⟩) C.chans.length cc, .int .i64 C.l0, .slice a0 C.w0.length c0, .int .i64 C.l1, .slice a1 C.w1.length c1] 29))) (by simp) _) _) hb⟩
  have r1 : Kp (w1.heap[w.heap.size + 1 + 1]? = some (.cells #[.int .i64 3, .int .i64 R.port, .int .u64 R.addr, .slice da R.data.length dc] 44 (0, 0))) := ⟨blk_below (blk_at (w := ((w.alloc (.cells #[.slice pa C.parts.length pc, .slice (some ⟨g, o, none⟩) C.chans.length cc, .int .i64 C.l0, .slice a0 C.w0.length c0, .int .i64 C.l1, .slice a1 C.w1.length c1] 29)).alloc (.cells #[.int .i64 S.part, .bool true, .slice ma S.made.length mc, .slice va S.valid.length vc] 40))) (by simp) _) hb⟩
  have HB1 : Kp (Below w.heap.size w w1) := ⟨below_call (below_al (below_al (below_al HB0.out _) _) _) hb⟩
  clear HB0 hb
  have qc0 : w1.cell? ⟨w.heap.size, 0, none⟩ = some (.slice pa C.parts.length pc) := (cell_blk q1.out 0).trans rfl
  have qc1 : w1.cell? ⟨w.heap.size, 1, none⟩ = some (.slice (some ⟨g, o, none⟩) C.chans.length cc) := (cell_blk q1.out 1).trans rfl
  have qc2 : w1.cell? ⟨w.heap.size, 2, none⟩ = some (.int .i64 C.l0) := (cell_blk q1.out 2).trans rfl
  have qc3 : w1.cell? ⟨w.heap.size, 3, none⟩ = some (.slice a0 C.w0.length c0) := (cell_blk q1.out 3).trans rfl
  have qc4 : w1.cell? ⟨w.heap.size, 4, none⟩ = some (.int .i64 C.l1) := (cell_blk q1.out 4).trans rfl
  have qc5 : w1.cell? ⟨w.heap.size, 5, none⟩ = some (.slice a1 C.w1.length c1) := (cell_blk q1.out 5).trans rfl
  have ql := blk_lt q1.out
  have sc0 : w1.cell? ⟨w.heap.size + 1, 0, none⟩ = some (.int .i64 S.part) := (cell_blk s1.out 0).trans rfl
  have sc1 : w1.cell? ⟨w.heap.size + 1, 1, none⟩ = some (.bool true) := (cell_blk s1.out 1).trans rfl
  have sc2 : w1.cell? ⟨w.heap.size + 1, 2, none⟩ = some (.slice ma S.made.length mc) := (cell_blk s1.out 2).trans rfl
  have sc3 : w1.cell? ⟨w.heap.size + 1, 3, none⟩ = some (.slice va S.valid.length vc) := (cell_blk s1.out 3).trans rfl
  have sl := blk_lt s1.out
  have rc0 : w1.cell? ⟨w.heap.size + 1 + 1, 0, none⟩ = some (.int .i64 3) := (cell_blk r1.out 0).trans rfl
  have rc1 : w1.cell? ⟨w.heap.size + 1 + 1, 1, none⟩ = some (.int .i64 R.port) := (cell_blk r1.out 1).trans rfl
  have rc2 : w1.cell? ⟨w.heap.size + 1 + 1, 2, none⟩ = some (.int .u64 R.addr) := (cell_blk r1.out 2).trans rfl
  have rc3 : w1.cell? ⟨w.heap.size + 1 + 1, 3, none⟩ = some (.slice da R.data.length dc) := (cell_blk r1.out 3).trans rfl
  have rl := blk_lt r1.out
  go_wp2_with fail
  refine (rmade_any _ S R.port hm _ (HS.out.below (below_al HB1.out _))).mono ?_
  rw [HMD.out]
  rintro e w2 ⟨rfl, hb⟩
  have x2 : Kp (w2.heap[w1.heap.size]? = some (.cells #[.int .i64 (k0 : Int), .int .i64 pp, .bool true, .bool true] 35 (0, 0))) := ⟨blk_below (blk_new _ _) hb⟩
  have q2 : Kp (w2.heap[w.heap.size]? = some (.cells #[.slice pa C.parts.length pc, .slice (some ⟨g, o, none⟩) C.chans.length cc, .int .i64 C.l0, .slice a0 C.w0.length c0, .int .i64 C.l1, .slice a1 C.w1.length c1] 29 (0, 0))) := ⟨blk_below (blk_al q1.out _) hb⟩
  have s2 : Kp (w2.heap[w.heap.size + 1]? = some (.cells #[.int .i64 S.part, .bool true, .slice ma S.made.length mc, .slice va S.valid.length vc] 40 (0, 0))) := ⟨blk_below (blk_al s1.out _) hb⟩
  have r2 : Kp (w2.heap[w.heap.size + 1 + 1]? = some (.cells #[.int .i64 3, .int .i64 R.port, .int .u64 R.addr, .slice da R.data.length dc] 44 (0, 0))) := ⟨blk_below (blk_al r1.out _) hb⟩
  have HB2 : Kp (Below w.heap.size w w2) := ⟨below_call (below_al HB1.out _) hb⟩
  clear qc0 qc1 qc2 qc3 qc4 qc5 ql sc0 sc1 sc2 sc3 sl rc0 rc1 rc2 rc3 rl q1 s1 r1 HB1 hb
  have xc0 : w2.cell? ⟨w1.heap.size, 0, none⟩ = some (.int .i64 (k0 : Int)) := (cell_blk x2.out 0).trans rfl
  have xc1 : w2.cell? ⟨w1.heap.size, 1, none⟩ = some (.int .i64 pp) := (cell_blk x2.out 1).trans rfl
  have xc2 : w2.cell? ⟨w1.heap.size, 2, none⟩ = some (.bool true) := (cell_blk x2.out 2).trans rfl
  have xc3 : w2.cell? ⟨w1.heap.size, 3, none⟩ = some (.bool true) := (cell_blk x2.out 3).trans rfl
  have xl := blk_lt x2.out
  have qc0 : w2.cell? ⟨w.heap.size, 0, none⟩ = some (.slice pa C.parts.length pc) := (cell_blk q2.out 0).trans rfl
  have qc1 : w2.cell? ⟨w.heap.size, 1, none⟩ = some (.slice (some ⟨g, o, none⟩) C.chans.length cc) := (cell_blk q2.out 1).trans rfl
  have qc2 : w2.cell? ⟨w.heap.size, 2, none⟩ = some (.int .i64 C.l0) := (cell_blk q2.out 2).trans rfl
  have qc3 : w2.cell? ⟨w.heap.size, 3, none⟩ = some (.slice a0 C.w0.length c0) := (cell_blk q2.out 3).trans rfl
  have qc4 : w2.cell? ⟨w.heap.size, 4, none⟩ = some (.int .i64 C.l1) := (cell_blk q2.out 4).trans rfl
  have qc5 : w2.cell? ⟨w.heap.size, 5, none⟩ = some (.slice a1 C.w1.length c1) := (cell_blk q2.out 5).trans rfl
  have ql := blk_lt q2.out
  have sc0 : w2.cell? ⟨w.heap.size + 1, 0, none⟩ = some (.int .i64 S.part) := (cell_blk s2.out 0).trans rfl
  have sc1 : w2.cell? ⟨w.heap.size + 1, 1, none⟩ = some (.bool true) := (cell_blk s2.out 1).trans rfl
  have sc2 : w2.cell? ⟨w.heap.size + 1, 2, none⟩ = some (.slice ma S.made.length mc) := (cell_blk s2.out 2).trans rfl
  have sc3 : w2.cell? ⟨w.heap.size + 1, 3, none⟩ = some (.slice va S.valid.length vc) := (cell_blk s2.out 3).trans rfl
  have sl := blk_lt s2.out
  have rc0 : w2.cell? ⟨w.heap.size + 1 + 1, 0, none⟩ = some (.int .i64 3) := (cell_blk r2.out 0).trans rfl
  have rc1 : w2.cell? ⟨w.heap.size + 1 + 1, 1, none⟩ = some (.int .i64 R.port) := (cell_blk r2.out 1).trans rfl
  have rc2 : w2.cell? ⟨w.heap.size + 1 + 1, 2, none⟩ = some (.int .u64 R.addr) := (cell_blk r2.out 2).trans rfl
  have rc3 : w2.cell? ⟨w.heap.size + 1 + 1, 3, none⟩ = some (.slice da R.data.length dc) := (cell_blk r2.out 3).trans rfl
  have rl := blk_lt r2.out
  have e0 : w2.cell? ⟨g, o + k0 * 7, none⟩ = some (.int .i64 x.kind) := (HB2.out.cell (p := ⟨g, o + k0 * 7, none⟩) hg).trans (HK.out 0 (by omega))
  have e3 : w2.cell? ⟨g, o + k0 * 7 + 3, none⟩ = some (.int .i64 x.words) := (HB2.out.cell (p := ⟨g, o + k0 * 7 + 3, none⟩) hg).trans (HK.out 3 (by omega))
  go_wp2
  go_ret
  exact ⟨rfl, HB2.out⟩

set_option maxRecDepth 100000 in
set_option maxHeartbeats 8000000 in
theorem talk_3big (cv sv rv : Value) (C : Cfg) (S : Std) (R : Rqt) (hsm : C.small) (hm : S.made.length ≤ 100) (hd : R.data.length ≤ 100) (ho : R.op = 3) (k0 : Nat) (hk0 : k0 < C.chans.length) (pp : Int) (src : Bool) (hpv : portV C R.port = ⟨k0, pp, src, true⟩) (x : Chn) (hx : C.chans[k0] = x) (hp : pp = S.part) (hmd : S.made.contains R.port = true) (hn : S.normal = true) (hk : x.kind = 1) (hsr : src = true) (hl : R.data.length ≠ 0) (hw : x.words < (R.data.length : Int)) (w : World) (hc : CfgAt w cv C) (hs : StdAt w sv S) (hr : RqtAt w rv R) : Calls Tryd.prog 33 #[cv, sv, rv] w fun e w' => e = .returned (.int .i64 (4)) ∧ Below w.heap.size w w' := by
  have HPV := Kp.mk hpv
  have hne : (pp != S.part) = false := by simpa using hp
  have HMD := Kp.mk hmd
  clear hpv hp hmd
  have hkb : (x.kind != 1) = false := by simpa using hk
  subst hsr
  clear hk
  have hl0 : ((R.data.length : Int) == 0) = false := by rw [beq_eq_false_iff_ne]; omega
  clear hl
  have HST := Kp.mk hs
  have HC := Kp.mk hc
  have HS := Kp.mk hs
  have HR := Kp.mk hr
  obtain ⟨_, pa, pc, ca, cc, a0, c0, a1, c1, rfl, bp, bc, b0, b1, gp, gc, gw0, gw1⟩ := hc
  obtain ⟨_, ma, mc, va, vc, rfl, bm, bv, gm, gv⟩ := hs
  obtain ⟨ir, da, dc, rfl, bd, gd⟩ := hr
  clear gp gw0 gw1 gm gv gd bp b0 b1
  clear HST
  rw [hn] at HS ⊢
  clear hn
  rw [ho] at HR ⊢
  clear ho
  obtain ⟨g, o, rfl, hg, hcc⟩ := gc.at (by omega)
  have HK : Kp (∀ j, j < 7 → w.cell? ⟨g, o + k0 * 7 + j, none⟩ = (chanC x)[j]?) := ⟨fun j hj => by
    have h1 := hcc (k0 * 7 + j) (by omega)
    rw [flat_at chanC 7 chanC_len C.chans k0 j hk0 hj, hx] at h1
    rw [Nat.add_assoc]
    exact h1⟩
  have hki : (k0 : Int) < (C.chans.length : Int) := by omega
  have hkn := nat_nn k0
  clear hcc hx
  go_enter Tryd.func33, Tryd.ntmps33
  have HB0 : Kp (Below w.heap.size w w) := ⟨Below.refl _ _⟩
  go_wp2_with fail
  refine (rport_any _ C hsm R.port _ (HC.out.below (below_al (below_al (below_al HB0.out _) _) _))).mono ?_
  rw [HPV.out]
  rintro e w1 ⟨rfl, hb⟩
  have q1 : Kp (w1.heap[w.heap.size]? = some (.cells #[.slice pa C.parts.length pc, .slice (some ⟨g, o, none⟩) C.chans.length cc, .int .i64 C.l0, .slice a0 C.w0.length c0, .int .i64 C.l1, .slice a1 C.w1.length c1] 29 (0, 0))) := ⟨blk_below (blk_al (blk_al (blk_new _ _) _) _) hb⟩
  have s1 : Kp (w1.heap[w.heap.size + 1]? = some (.cells #[.int .i64 S.part, .bool true, .slice ma S.made.length mc, .slice va S.valid.length vc] 40 (0, 0))) := ⟨blk_below (blk_al (blk_at (w := (w.alloc (.cells #[.slice pa C.parts.length pc, .slice (some ⟨g, o, none⟩) C.chans.length cc, .int .i64 C.l0, .slice a0 C.w0.length c0, .int .i64 C.l1, .slice a1 C.w1.length c1] 29))) (by simp) _) _) hb⟩
  have r1 : Kp (w1.heap[w.heap.size + 1 + 1]? = some (.cells #[.int .i64 3, .int .i64 R.port, .int .u64 R.addr, .slice da R.data.length dc] 44 (0, 0))) := ⟨blk_below (blk_at (w := ((w.alloc (.cells #[.slice pa C.parts.length pc, .slice (some ⟨g, o, none⟩) C.chans.length cc, .int .i64 C.l0, .slice a0 C.w0.length c0, .int .i64 C.l1, .slice a1 C.w1.length c1] 29)).alloc (.cells #[.int .i64 S.part, .bool true, .slice ma S.made.length mc, .slice va S.valid.length vc] 40))) (by simp) _) hb⟩
  have HB1 : Kp (Below w.heap.size w w1) := ⟨below_call (below_al (below_al (below_al HB0.out _) _) _) hb⟩
  clear HB0 hb
  have qc0 : w1.cell? ⟨w.heap.size, 0, none⟩ = some (.slice pa C.parts.length pc) := (cell_blk q1.out 0).trans rfl
  have qc1 : w1.cell? ⟨w.heap.size, 1, none⟩ = some (.slice (some ⟨g, o, none⟩) C.chans.length cc) := (cell_blk q1.out 1).trans rfl
  have qc2 : w1.cell? ⟨w.heap.size, 2, none⟩ = some (.int .i64 C.l0) := (cell_blk q1.out 2).trans rfl
  have qc3 : w1.cell? ⟨w.heap.size, 3, none⟩ = some (.slice a0 C.w0.length c0) := (cell_blk q1.out 3).trans rfl
  have qc4 : w1.cell? ⟨w.heap.size, 4, none⟩ = some (.int .i64 C.l1) := (cell_blk q1.out 4).trans rfl
  have qc5 : w1.cell? ⟨w.heap.size, 5, none⟩ = some (.slice a1 C.w1.length c1) := (cell_blk q1.out 5).trans rfl
  have ql := blk_lt q1.out
  have sc0 : w1.cell? ⟨w.heap.size + 1, 0, none⟩ = some (.int .i64 S.part) := (cell_blk s1.out 0).trans rfl
  have sc1 : w1.cell? ⟨w.heap.size + 1, 1, none⟩ = some (.bool true) := (cell_blk s1.out 1).trans rfl
  have sc2 : w1.cell? ⟨w.heap.size + 1, 2, none⟩ = some (.slice ma S.made.length mc) := (cell_blk s1.out 2).trans rfl
  have sc3 : w1.cell? ⟨w.heap.size + 1, 3, none⟩ = some (.slice va S.valid.length vc) := (cell_blk s1.out 3).trans rfl
  have sl := blk_lt s1.out
  have rc0 : w1.cell? ⟨w.heap.size + 1 + 1, 0, none⟩ = some (.int .i64 3) := (cell_blk r1.out 0).trans rfl
  have rc1 : w1.cell? ⟨w.heap.size + 1 + 1, 1, none⟩ = some (.int .i64 R.port) := (cell_blk r1.out 1).trans rfl
  have rc2 : w1.cell? ⟨w.heap.size + 1 + 1, 2, none⟩ = some (.int .u64 R.addr) := (cell_blk r1.out 2).trans rfl
  have rc3 : w1.cell? ⟨w.heap.size + 1 + 1, 3, none⟩ = some (.slice da R.data.length dc) := (cell_blk r1.out 3).trans rfl
  have rl := blk_lt r1.out
  go_wp2_with fail
  refine (rmade_any _ S R.port hm _ (HS.out.below (below_al HB1.out _))).mono ?_
  rw [HMD.out]
  rintro e w2 ⟨rfl, hb⟩
  have x2 : Kp (w2.heap[w1.heap.size]? = some (.cells #[.int .i64 (k0 : Int), .int .i64 pp, .bool true, .bool true] 35 (0, 0))) := ⟨blk_below (blk_new _ _) hb⟩
  have q2 : Kp (w2.heap[w.heap.size]? = some (.cells #[.slice pa C.parts.length pc, .slice (some ⟨g, o, none⟩) C.chans.length cc, .int .i64 C.l0, .slice a0 C.w0.length c0, .int .i64 C.l1, .slice a1 C.w1.length c1] 29 (0, 0))) := ⟨blk_below (blk_al q1.out _) hb⟩
  have s2 : Kp (w2.heap[w.heap.size + 1]? = some (.cells #[.int .i64 S.part, .bool true, .slice ma S.made.length mc, .slice va S.valid.length vc] 40 (0, 0))) := ⟨blk_below (blk_al s1.out _) hb⟩
  have r2 : Kp (w2.heap[w.heap.size + 1 + 1]? = some (.cells #[.int .i64 3, .int .i64 R.port, .int .u64 R.addr, .slice da R.data.length dc] 44 (0, 0))) := ⟨blk_below (blk_al r1.out _) hb⟩
  have HB2 : Kp (Below w.heap.size w w2) := ⟨below_call (below_al HB1.out _) hb⟩
  clear qc0 qc1 qc2 qc3 qc4 qc5 ql sc0 sc1 sc2 sc3 sl rc0 rc1 rc2 rc3 rl q1 s1 r1 HB1 hb
  have xc0 : w2.cell? ⟨w1.heap.size, 0, none⟩ = some (.int .i64 (k0 : Int)) := (cell_blk x2.out 0).trans rfl
  have xc1 : w2.cell? ⟨w1.heap.size, 1, none⟩ = some (.int .i64 pp) := (cell_blk x2.out 1).trans rfl
  have xc2 : w2.cell? ⟨w1.heap.size, 2, none⟩ = some (.bool true) := (cell_blk x2.out 2).trans rfl
  have xc3 : w2.cell? ⟨w1.heap.size, 3, none⟩ = some (.bool true) := (cell_blk x2.out 3).trans rfl
  have xl := blk_lt x2.out
  have qc0 : w2.cell? ⟨w.heap.size, 0, none⟩ = some (.slice pa C.parts.length pc) := (cell_blk q2.out 0).trans rfl
  have qc1 : w2.cell? ⟨w.heap.size, 1, none⟩ = some (.slice (some ⟨g, o, none⟩) C.chans.length cc) := (cell_blk q2.out 1).trans rfl
  have qc2 : w2.cell? ⟨w.heap.size, 2, none⟩ = some (.int .i64 C.l0) := (cell_blk q2.out 2).trans rfl
  have qc3 : w2.cell? ⟨w.heap.size, 3, none⟩ = some (.slice a0 C.w0.length c0) := (cell_blk q2.out 3).trans rfl
  have qc4 : w2.cell? ⟨w.heap.size, 4, none⟩ = some (.int .i64 C.l1) := (cell_blk q2.out 4).trans rfl
  have qc5 : w2.cell? ⟨w.heap.size, 5, none⟩ = some (.slice a1 C.w1.length c1) := (cell_blk q2.out 5).trans rfl
  have ql := blk_lt q2.out
  have sc0 : w2.cell? ⟨w.heap.size + 1, 0, none⟩ = some (.int .i64 S.part) := (cell_blk s2.out 0).trans rfl
  have sc1 : w2.cell? ⟨w.heap.size + 1, 1, none⟩ = some (.bool true) := (cell_blk s2.out 1).trans rfl
  have sc2 : w2.cell? ⟨w.heap.size + 1, 2, none⟩ = some (.slice ma S.made.length mc) := (cell_blk s2.out 2).trans rfl
  have sc3 : w2.cell? ⟨w.heap.size + 1, 3, none⟩ = some (.slice va S.valid.length vc) := (cell_blk s2.out 3).trans rfl
  have sl := blk_lt s2.out
  have rc0 : w2.cell? ⟨w.heap.size + 1 + 1, 0, none⟩ = some (.int .i64 3) := (cell_blk r2.out 0).trans rfl
  have rc1 : w2.cell? ⟨w.heap.size + 1 + 1, 1, none⟩ = some (.int .i64 R.port) := (cell_blk r2.out 1).trans rfl
  have rc2 : w2.cell? ⟨w.heap.size + 1 + 1, 2, none⟩ = some (.int .u64 R.addr) := (cell_blk r2.out 2).trans rfl
  have rc3 : w2.cell? ⟨w.heap.size + 1 + 1, 3, none⟩ = some (.slice da R.data.length dc) := (cell_blk r2.out 3).trans rfl
  have rl := blk_lt r2.out
  have e0 : w2.cell? ⟨g, o + k0 * 7, none⟩ = some (.int .i64 x.kind) := (HB2.out.cell (p := ⟨g, o + k0 * 7, none⟩) hg).trans (HK.out 0 (by omega))
  have e3 : w2.cell? ⟨g, o + k0 * 7 + 3, none⟩ = some (.int .i64 x.words) := (HB2.out.cell (p := ⟨g, o + k0 * 7 + 3, none⟩) hg).trans (HK.out 3 (by omega))
  go_wp2_with fail
  go_quiet (fail)
  go_wp2
  go_ret
  exact ⟨rfl, by first | exact below_drN HB2.out | exact HB2.out⟩

set_option maxRecDepth 100000 in
set_option maxHeartbeats 8000000 in
theorem talk_3ok (cv sv rv : Value) (C : Cfg) (S : Std) (R : Rqt) (hsm : C.small) (hm : S.made.length ≤ 100) (hd : R.data.length ≤ 100) (ho : R.op = 3) (k0 : Nat) (hk0 : k0 < C.chans.length) (pp : Int) (src : Bool) (hpv : portV C R.port = ⟨k0, pp, src, true⟩) (x : Chn) (hx : C.chans[k0] = x) (hp : pp = S.part) (hmd : S.made.contains R.port = true) (hn : S.normal = true) (hk : x.kind = 1) (hsr : src = true) (hl : R.data.length ≠ 0) (hw : ¬ x.words < (R.data.length : Int)) (w : World) (hc : CfgAt w cv C) (hs : StdAt w sv S) (hr : RqtAt w rv R) : Calls Tryd.prog 33 #[cv, sv, rv] w fun e w' => e = .returned (.int .i64 (0)) ∧ Below w.heap.size w w' := by
  have HPV := Kp.mk hpv
  have hne : (pp != S.part) = false := by simpa using hp
  have HMD := Kp.mk hmd
  clear hpv hp hmd
  have hkb : (x.kind != 1) = false := by simpa using hk
  subst hsr
  clear hk
  have hl0 : ((R.data.length : Int) == 0) = false := by rw [beq_eq_false_iff_ne]; omega
  clear hl
  have HST := Kp.mk hs
  have HC := Kp.mk hc
  have HS := Kp.mk hs
  have HR := Kp.mk hr
  obtain ⟨_, pa, pc, ca, cc, a0, c0, a1, c1, rfl, bp, bc, b0, b1, gp, gc, gw0, gw1⟩ := hc
  obtain ⟨_, ma, mc, va, vc, rfl, bm, bv, gm, gv⟩ := hs
  obtain ⟨ir, da, dc, rfl, bd, gd⟩ := hr
  clear gp gw0 gw1 gm gv gd bp b0 b1
  clear HST
  rw [hn] at HS ⊢
  clear hn
  rw [ho] at HR ⊢
  clear ho
  obtain ⟨g, o, rfl, hg, hcc⟩ := gc.at (by omega)
  have HK : Kp (∀ j, j < 7 → w.cell? ⟨g, o + k0 * 7 + j, none⟩ = (chanC x)[j]?) := ⟨fun j hj => by
    have h1 := hcc (k0 * 7 + j) (by omega)
    rw [flat_at chanC 7 chanC_len C.chans k0 j hk0 hj, hx] at h1
    rw [Nat.add_assoc]
    exact h1⟩
  have hki : (k0 : Int) < (C.chans.length : Int) := by omega
  have hkn := nat_nn k0
  clear hcc hx
  go_enter Tryd.func33, Tryd.ntmps33
  have HB0 : Kp (Below w.heap.size w w) := ⟨Below.refl _ _⟩
  go_wp2_with fail
  refine (rport_any _ C hsm R.port _ (HC.out.below (below_al (below_al (below_al HB0.out _) _) _))).mono ?_
  rw [HPV.out]
  rintro e w1 ⟨rfl, hb⟩
  have q1 : Kp (w1.heap[w.heap.size]? = some (.cells #[.slice pa C.parts.length pc, .slice (some ⟨g, o, none⟩) C.chans.length cc, .int .i64 C.l0, .slice a0 C.w0.length c0, .int .i64 C.l1, .slice a1 C.w1.length c1] 29 (0, 0))) := ⟨blk_below (blk_al (blk_al (blk_new _ _) _) _) hb⟩
  have s1 : Kp (w1.heap[w.heap.size + 1]? = some (.cells #[.int .i64 S.part, .bool true, .slice ma S.made.length mc, .slice va S.valid.length vc] 40 (0, 0))) := ⟨blk_below (blk_al (blk_at (w := (w.alloc (.cells #[.slice pa C.parts.length pc, .slice (some ⟨g, o, none⟩) C.chans.length cc, .int .i64 C.l0, .slice a0 C.w0.length c0, .int .i64 C.l1, .slice a1 C.w1.length c1] 29))) (by simp) _) _) hb⟩
  have r1 : Kp (w1.heap[w.heap.size + 1 + 1]? = some (.cells #[.int .i64 3, .int .i64 R.port, .int .u64 R.addr, .slice da R.data.length dc] 44 (0, 0))) := ⟨blk_below (blk_at (w := ((w.alloc (.cells #[.slice pa C.parts.length pc, .slice (some ⟨g, o, none⟩) C.chans.length cc, .int .i64 C.l0, .slice a0 C.w0.length c0, .int .i64 C.l1, .slice a1 C.w1.length c1] 29)).alloc (.cells #[.int .i64 S.part, .bool true, .slice ma S.made.length mc, .slice va S.valid.length vc] 40))) (by simp) _) hb⟩
  have HB1 : Kp (Below w.heap.size w w1) := ⟨below_call (below_al (below_al (below_al HB0.out _) _) _) hb⟩
  clear HB0 hb
  have qc0 : w1.cell? ⟨w.heap.size, 0, none⟩ = some (.slice pa C.parts.length pc) := (cell_blk q1.out 0).trans rfl
  have qc1 : w1.cell? ⟨w.heap.size, 1, none⟩ = some (.slice (some ⟨g, o, none⟩) C.chans.length cc) := (cell_blk q1.out 1).trans rfl
  have qc2 : w1.cell? ⟨w.heap.size, 2, none⟩ = some (.int .i64 C.l0) := (cell_blk q1.out 2).trans rfl
  have qc3 : w1.cell? ⟨w.heap.size, 3, none⟩ = some (.slice a0 C.w0.length c0) := (cell_blk q1.out 3).trans rfl
  have qc4 : w1.cell? ⟨w.heap.size, 4, none⟩ = some (.int .i64 C.l1) := (cell_blk q1.out 4).trans rfl
  have qc5 : w1.cell? ⟨w.heap.size, 5, none⟩ = some (.slice a1 C.w1.length c1) := (cell_blk q1.out 5).trans rfl
  have ql := blk_lt q1.out
  have sc0 : w1.cell? ⟨w.heap.size + 1, 0, none⟩ = some (.int .i64 S.part) := (cell_blk s1.out 0).trans rfl
  have sc1 : w1.cell? ⟨w.heap.size + 1, 1, none⟩ = some (.bool true) := (cell_blk s1.out 1).trans rfl
  have sc2 : w1.cell? ⟨w.heap.size + 1, 2, none⟩ = some (.slice ma S.made.length mc) := (cell_blk s1.out 2).trans rfl
  have sc3 : w1.cell? ⟨w.heap.size + 1, 3, none⟩ = some (.slice va S.valid.length vc) := (cell_blk s1.out 3).trans rfl
  have sl := blk_lt s1.out
  have rc0 : w1.cell? ⟨w.heap.size + 1 + 1, 0, none⟩ = some (.int .i64 3) := (cell_blk r1.out 0).trans rfl
  have rc1 : w1.cell? ⟨w.heap.size + 1 + 1, 1, none⟩ = some (.int .i64 R.port) := (cell_blk r1.out 1).trans rfl
  have rc2 : w1.cell? ⟨w.heap.size + 1 + 1, 2, none⟩ = some (.int .u64 R.addr) := (cell_blk r1.out 2).trans rfl
  have rc3 : w1.cell? ⟨w.heap.size + 1 + 1, 3, none⟩ = some (.slice da R.data.length dc) := (cell_blk r1.out 3).trans rfl
  have rl := blk_lt r1.out
  go_wp2_with fail
  refine (rmade_any _ S R.port hm _ (HS.out.below (below_al HB1.out _))).mono ?_
  rw [HMD.out]
  rintro e w2 ⟨rfl, hb⟩
  have x2 : Kp (w2.heap[w1.heap.size]? = some (.cells #[.int .i64 (k0 : Int), .int .i64 pp, .bool true, .bool true] 35 (0, 0))) := ⟨blk_below (blk_new _ _) hb⟩
  have q2 : Kp (w2.heap[w.heap.size]? = some (.cells #[.slice pa C.parts.length pc, .slice (some ⟨g, o, none⟩) C.chans.length cc, .int .i64 C.l0, .slice a0 C.w0.length c0, .int .i64 C.l1, .slice a1 C.w1.length c1] 29 (0, 0))) := ⟨blk_below (blk_al q1.out _) hb⟩
  have s2 : Kp (w2.heap[w.heap.size + 1]? = some (.cells #[.int .i64 S.part, .bool true, .slice ma S.made.length mc, .slice va S.valid.length vc] 40 (0, 0))) := ⟨blk_below (blk_al s1.out _) hb⟩
  have r2 : Kp (w2.heap[w.heap.size + 1 + 1]? = some (.cells #[.int .i64 3, .int .i64 R.port, .int .u64 R.addr, .slice da R.data.length dc] 44 (0, 0))) := ⟨blk_below (blk_al r1.out _) hb⟩
  have HB2 : Kp (Below w.heap.size w w2) := ⟨below_call (below_al HB1.out _) hb⟩
  clear qc0 qc1 qc2 qc3 qc4 qc5 ql sc0 sc1 sc2 sc3 sl rc0 rc1 rc2 rc3 rl q1 s1 r1 HB1 hb
  have xc0 : w2.cell? ⟨w1.heap.size, 0, none⟩ = some (.int .i64 (k0 : Int)) := (cell_blk x2.out 0).trans rfl
  have xc1 : w2.cell? ⟨w1.heap.size, 1, none⟩ = some (.int .i64 pp) := (cell_blk x2.out 1).trans rfl
  have xc2 : w2.cell? ⟨w1.heap.size, 2, none⟩ = some (.bool true) := (cell_blk x2.out 2).trans rfl
  have xc3 : w2.cell? ⟨w1.heap.size, 3, none⟩ = some (.bool true) := (cell_blk x2.out 3).trans rfl
  have xl := blk_lt x2.out
  have qc0 : w2.cell? ⟨w.heap.size, 0, none⟩ = some (.slice pa C.parts.length pc) := (cell_blk q2.out 0).trans rfl
  have qc1 : w2.cell? ⟨w.heap.size, 1, none⟩ = some (.slice (some ⟨g, o, none⟩) C.chans.length cc) := (cell_blk q2.out 1).trans rfl
  have qc2 : w2.cell? ⟨w.heap.size, 2, none⟩ = some (.int .i64 C.l0) := (cell_blk q2.out 2).trans rfl
  have qc3 : w2.cell? ⟨w.heap.size, 3, none⟩ = some (.slice a0 C.w0.length c0) := (cell_blk q2.out 3).trans rfl
  have qc4 : w2.cell? ⟨w.heap.size, 4, none⟩ = some (.int .i64 C.l1) := (cell_blk q2.out 4).trans rfl
  have qc5 : w2.cell? ⟨w.heap.size, 5, none⟩ = some (.slice a1 C.w1.length c1) := (cell_blk q2.out 5).trans rfl
  have ql := blk_lt q2.out
  have sc0 : w2.cell? ⟨w.heap.size + 1, 0, none⟩ = some (.int .i64 S.part) := (cell_blk s2.out 0).trans rfl
  have sc1 : w2.cell? ⟨w.heap.size + 1, 1, none⟩ = some (.bool true) := (cell_blk s2.out 1).trans rfl
  have sc2 : w2.cell? ⟨w.heap.size + 1, 2, none⟩ = some (.slice ma S.made.length mc) := (cell_blk s2.out 2).trans rfl
  have sc3 : w2.cell? ⟨w.heap.size + 1, 3, none⟩ = some (.slice va S.valid.length vc) := (cell_blk s2.out 3).trans rfl
  have sl := blk_lt s2.out
  have rc0 : w2.cell? ⟨w.heap.size + 1 + 1, 0, none⟩ = some (.int .i64 3) := (cell_blk r2.out 0).trans rfl
  have rc1 : w2.cell? ⟨w.heap.size + 1 + 1, 1, none⟩ = some (.int .i64 R.port) := (cell_blk r2.out 1).trans rfl
  have rc2 : w2.cell? ⟨w.heap.size + 1 + 1, 2, none⟩ = some (.int .u64 R.addr) := (cell_blk r2.out 2).trans rfl
  have rc3 : w2.cell? ⟨w.heap.size + 1 + 1, 3, none⟩ = some (.slice da R.data.length dc) := (cell_blk r2.out 3).trans rfl
  have rl := blk_lt r2.out
  have e0 : w2.cell? ⟨g, o + k0 * 7, none⟩ = some (.int .i64 x.kind) := (HB2.out.cell (p := ⟨g, o + k0 * 7, none⟩) hg).trans (HK.out 0 (by omega))
  have e3 : w2.cell? ⟨g, o + k0 * 7 + 3, none⟩ = some (.int .i64 x.words) := (HB2.out.cell (p := ⟨g, o + k0 * 7 + 3, none⟩) hg).trans (HK.out 3 (by omega))
  go_wp2_with fail
  go_quiet (fail)
  go_wp2
  go_ret
  exact ⟨rfl, by first | exact below_drN HB2.out | exact HB2.out⟩

set_option maxRecDepth 100000 in
set_option maxHeartbeats 8000000 in
theorem talk_4kind (cv sv rv : Value) (C : Cfg) (S : Std) (R : Rqt) (hsm : C.small) (hm : S.made.length ≤ 100) (hd : R.data.length ≤ 100) (ho : R.op = 4) (k0 : Nat) (hk0 : k0 < C.chans.length) (pp : Int) (src : Bool) (hpv : portV C R.port = ⟨k0, pp, src, true⟩) (x : Chn) (hx : C.chans[k0] = x) (hp : pp = S.part) (hmd : S.made.contains R.port = true) (hn : S.normal = true) (hk : ¬ x.kind = 1) (w : World) (hc : CfgAt w cv C) (hs : StdAt w sv S) (hr : RqtAt w rv R) : Calls Tryd.prog 33 #[cv, sv, rv] w fun e w' => e = .returned (.int .i64 (5)) ∧ Below w.heap.size w w' := by
  have HPV := Kp.mk hpv
  have hne : (pp != S.part) = false := by simpa using hp
  have HMD := Kp.mk hmd
  clear hpv hp hmd
  have hkb : (x.kind != 1) = true := by simpa using hk
  clear hk
  have HST := Kp.mk hs
  have HC := Kp.mk hc
  have HS := Kp.mk hs
  have HR := Kp.mk hr
  obtain ⟨_, pa, pc, ca, cc, a0, c0, a1, c1, rfl, bp, bc, b0, b1, gp, gc, gw0, gw1⟩ := hc
  obtain ⟨_, ma, mc, va, vc, rfl, bm, bv, gm, gv⟩ := hs
  obtain ⟨ir, da, dc, rfl, bd, gd⟩ := hr
  clear gp gw0 gw1 gm gv gd bp b0 b1
  clear HST
  rw [hn] at HS ⊢
  clear hn
  rw [ho] at HR ⊢
  clear ho
  obtain ⟨g, o, rfl, hg, hcc⟩ := gc.at (by omega)
  have HK : Kp (∀ j, j < 7 → w.cell? ⟨g, o + k0 * 7 + j, none⟩ = (chanC x)[j]?) := ⟨fun j hj => by
    have h1 := hcc (k0 * 7 + j) (by omega)
    rw [flat_at chanC 7 chanC_len C.chans k0 j hk0 hj, hx] at h1
    rw [Nat.add_assoc]
    exact h1⟩
  have hki : (k0 : Int) < (C.chans.length : Int) := by omega
  have hkn := nat_nn k0
  clear hcc hx
  go_enter Tryd.func33, Tryd.ntmps33
  have HB0 : Kp (Below w.heap.size w w) := ⟨Below.refl _ _⟩
  go_wp2_with fail
  refine (rport_any _ C hsm R.port _ (HC.out.below (below_al (below_al (below_al HB0.out _) _) _))).mono ?_
  rw [HPV.out]
  rintro e w1 ⟨rfl, hb⟩
  have q1 : Kp (w1.heap[w.heap.size]? = some (.cells #[.slice pa C.parts.length pc, .slice (some ⟨g, o, none⟩) C.chans.length cc, .int .i64 C.l0, .slice a0 C.w0.length c0, .int .i64 C.l1, .slice a1 C.w1.length c1] 29 (0, 0))) := ⟨blk_below (blk_al (blk_al (blk_new _ _) _) _) hb⟩
  have s1 : Kp (w1.heap[w.heap.size + 1]? = some (.cells #[.int .i64 S.part, .bool true, .slice ma S.made.length mc, .slice va S.valid.length vc] 40 (0, 0))) := ⟨blk_below (blk_al (blk_at (w := (w.alloc (.cells #[.slice pa C.parts.length pc, .slice (some ⟨g, o, none⟩) C.chans.length cc, .int .i64 C.l0, .slice a0 C.w0.length c0, .int .i64 C.l1, .slice a1 C.w1.length c1] 29))) (by simp) _) _) hb⟩
  have r1 : Kp (w1.heap[w.heap.size + 1 + 1]? = some (.cells #[.int .i64 4, .int .i64 R.port, .int .u64 R.addr, .slice da R.data.length dc] 44 (0, 0))) := ⟨blk_below (blk_at (w := ((w.alloc (.cells #[.slice pa C.parts.length pc, .slice (some ⟨g, o, none⟩) C.chans.length cc, .int .i64 C.l0, .slice a0 C.w0.length c0, .int .i64 C.l1, .slice a1 C.w1.length c1] 29)).alloc (.cells #[.int .i64 S.part, .bool true, .slice ma S.made.length mc, .slice va S.valid.length vc] 40))) (by simp) _) hb⟩
  have HB1 : Kp (Below w.heap.size w w1) := ⟨below_call (below_al (below_al (below_al HB0.out _) _) _) hb⟩
  clear HB0 hb
  have qc0 : w1.cell? ⟨w.heap.size, 0, none⟩ = some (.slice pa C.parts.length pc) := (cell_blk q1.out 0).trans rfl
  have qc1 : w1.cell? ⟨w.heap.size, 1, none⟩ = some (.slice (some ⟨g, o, none⟩) C.chans.length cc) := (cell_blk q1.out 1).trans rfl
  have qc2 : w1.cell? ⟨w.heap.size, 2, none⟩ = some (.int .i64 C.l0) := (cell_blk q1.out 2).trans rfl
  have qc3 : w1.cell? ⟨w.heap.size, 3, none⟩ = some (.slice a0 C.w0.length c0) := (cell_blk q1.out 3).trans rfl
  have qc4 : w1.cell? ⟨w.heap.size, 4, none⟩ = some (.int .i64 C.l1) := (cell_blk q1.out 4).trans rfl
  have qc5 : w1.cell? ⟨w.heap.size, 5, none⟩ = some (.slice a1 C.w1.length c1) := (cell_blk q1.out 5).trans rfl
  have ql := blk_lt q1.out
  have sc0 : w1.cell? ⟨w.heap.size + 1, 0, none⟩ = some (.int .i64 S.part) := (cell_blk s1.out 0).trans rfl
  have sc1 : w1.cell? ⟨w.heap.size + 1, 1, none⟩ = some (.bool true) := (cell_blk s1.out 1).trans rfl
  have sc2 : w1.cell? ⟨w.heap.size + 1, 2, none⟩ = some (.slice ma S.made.length mc) := (cell_blk s1.out 2).trans rfl
  have sc3 : w1.cell? ⟨w.heap.size + 1, 3, none⟩ = some (.slice va S.valid.length vc) := (cell_blk s1.out 3).trans rfl
  have sl := blk_lt s1.out
  have rc0 : w1.cell? ⟨w.heap.size + 1 + 1, 0, none⟩ = some (.int .i64 4) := (cell_blk r1.out 0).trans rfl
  have rc1 : w1.cell? ⟨w.heap.size + 1 + 1, 1, none⟩ = some (.int .i64 R.port) := (cell_blk r1.out 1).trans rfl
  have rc2 : w1.cell? ⟨w.heap.size + 1 + 1, 2, none⟩ = some (.int .u64 R.addr) := (cell_blk r1.out 2).trans rfl
  have rc3 : w1.cell? ⟨w.heap.size + 1 + 1, 3, none⟩ = some (.slice da R.data.length dc) := (cell_blk r1.out 3).trans rfl
  have rl := blk_lt r1.out
  go_wp2_with fail
  refine (rmade_any _ S R.port hm _ (HS.out.below (below_al HB1.out _))).mono ?_
  rw [HMD.out]
  rintro e w2 ⟨rfl, hb⟩
  have x2 : Kp (w2.heap[w1.heap.size]? = some (.cells #[.int .i64 (k0 : Int), .int .i64 pp, .bool src, .bool true] 35 (0, 0))) := ⟨blk_below (blk_new _ _) hb⟩
  have q2 : Kp (w2.heap[w.heap.size]? = some (.cells #[.slice pa C.parts.length pc, .slice (some ⟨g, o, none⟩) C.chans.length cc, .int .i64 C.l0, .slice a0 C.w0.length c0, .int .i64 C.l1, .slice a1 C.w1.length c1] 29 (0, 0))) := ⟨blk_below (blk_al q1.out _) hb⟩
  have s2 : Kp (w2.heap[w.heap.size + 1]? = some (.cells #[.int .i64 S.part, .bool true, .slice ma S.made.length mc, .slice va S.valid.length vc] 40 (0, 0))) := ⟨blk_below (blk_al s1.out _) hb⟩
  have r2 : Kp (w2.heap[w.heap.size + 1 + 1]? = some (.cells #[.int .i64 4, .int .i64 R.port, .int .u64 R.addr, .slice da R.data.length dc] 44 (0, 0))) := ⟨blk_below (blk_al r1.out _) hb⟩
  have HB2 : Kp (Below w.heap.size w w2) := ⟨below_call (below_al HB1.out _) hb⟩
  clear qc0 qc1 qc2 qc3 qc4 qc5 ql sc0 sc1 sc2 sc3 sl rc0 rc1 rc2 rc3 rl q1 s1 r1 HB1 hb
  have xc0 : w2.cell? ⟨w1.heap.size, 0, none⟩ = some (.int .i64 (k0 : Int)) := (cell_blk x2.out 0).trans rfl
  have xc1 : w2.cell? ⟨w1.heap.size, 1, none⟩ = some (.int .i64 pp) := (cell_blk x2.out 1).trans rfl
  have xc2 : w2.cell? ⟨w1.heap.size, 2, none⟩ = some (.bool src) := (cell_blk x2.out 2).trans rfl
  have xc3 : w2.cell? ⟨w1.heap.size, 3, none⟩ = some (.bool true) := (cell_blk x2.out 3).trans rfl
  have xl := blk_lt x2.out
  have qc0 : w2.cell? ⟨w.heap.size, 0, none⟩ = some (.slice pa C.parts.length pc) := (cell_blk q2.out 0).trans rfl
  have qc1 : w2.cell? ⟨w.heap.size, 1, none⟩ = some (.slice (some ⟨g, o, none⟩) C.chans.length cc) := (cell_blk q2.out 1).trans rfl
  have qc2 : w2.cell? ⟨w.heap.size, 2, none⟩ = some (.int .i64 C.l0) := (cell_blk q2.out 2).trans rfl
  have qc3 : w2.cell? ⟨w.heap.size, 3, none⟩ = some (.slice a0 C.w0.length c0) := (cell_blk q2.out 3).trans rfl
  have qc4 : w2.cell? ⟨w.heap.size, 4, none⟩ = some (.int .i64 C.l1) := (cell_blk q2.out 4).trans rfl
  have qc5 : w2.cell? ⟨w.heap.size, 5, none⟩ = some (.slice a1 C.w1.length c1) := (cell_blk q2.out 5).trans rfl
  have ql := blk_lt q2.out
  have sc0 : w2.cell? ⟨w.heap.size + 1, 0, none⟩ = some (.int .i64 S.part) := (cell_blk s2.out 0).trans rfl
  have sc1 : w2.cell? ⟨w.heap.size + 1, 1, none⟩ = some (.bool true) := (cell_blk s2.out 1).trans rfl
  have sc2 : w2.cell? ⟨w.heap.size + 1, 2, none⟩ = some (.slice ma S.made.length mc) := (cell_blk s2.out 2).trans rfl
  have sc3 : w2.cell? ⟨w.heap.size + 1, 3, none⟩ = some (.slice va S.valid.length vc) := (cell_blk s2.out 3).trans rfl
  have sl := blk_lt s2.out
  have rc0 : w2.cell? ⟨w.heap.size + 1 + 1, 0, none⟩ = some (.int .i64 4) := (cell_blk r2.out 0).trans rfl
  have rc1 : w2.cell? ⟨w.heap.size + 1 + 1, 1, none⟩ = some (.int .i64 R.port) := (cell_blk r2.out 1).trans rfl
  have rc2 : w2.cell? ⟨w.heap.size + 1 + 1, 2, none⟩ = some (.int .u64 R.addr) := (cell_blk r2.out 2).trans rfl
  have rc3 : w2.cell? ⟨w.heap.size + 1 + 1, 3, none⟩ = some (.slice da R.data.length dc) := (cell_blk r2.out 3).trans rfl
  have rl := blk_lt r2.out
  have e0 : w2.cell? ⟨g, o + k0 * 7, none⟩ = some (.int .i64 x.kind) := (HB2.out.cell (p := ⟨g, o + k0 * 7, none⟩) hg).trans (HK.out 0 (by omega))
  have e3 : w2.cell? ⟨g, o + k0 * 7 + 3, none⟩ = some (.int .i64 x.words) := (HB2.out.cell (p := ⟨g, o + k0 * 7 + 3, none⟩) hg).trans (HK.out 3 (by omega))
  go_wp2
  go_ret
  exact ⟨rfl, HB2.out⟩

set_option maxRecDepth 100000 in
set_option maxHeartbeats 8000000 in
theorem talk_4src (cv sv rv : Value) (C : Cfg) (S : Std) (R : Rqt) (hsm : C.small) (hm : S.made.length ≤ 100) (hd : R.data.length ≤ 100) (ho : R.op = 4) (k0 : Nat) (hk0 : k0 < C.chans.length) (pp : Int) (src : Bool) (hpv : portV C R.port = ⟨k0, pp, src, true⟩) (x : Chn) (hx : C.chans[k0] = x) (hp : pp = S.part) (hmd : S.made.contains R.port = true) (hn : S.normal = true) (hk : x.kind = 1) (hsr : src = true) (w : World) (hc : CfgAt w cv C) (hs : StdAt w sv S) (hr : RqtAt w rv R) : Calls Tryd.prog 33 #[cv, sv, rv] w fun e w' => e = .returned (.int .i64 (5)) ∧ Below w.heap.size w w' := by
  have HPV := Kp.mk hpv
  have hne : (pp != S.part) = false := by simpa using hp
  have HMD := Kp.mk hmd
  clear hpv hp hmd
  have hkb : (x.kind != 1) = false := by simpa using hk
  subst hsr
  clear hk
  have HST := Kp.mk hs
  have HC := Kp.mk hc
  have HS := Kp.mk hs
  have HR := Kp.mk hr
  obtain ⟨_, pa, pc, ca, cc, a0, c0, a1, c1, rfl, bp, bc, b0, b1, gp, gc, gw0, gw1⟩ := hc
  obtain ⟨_, ma, mc, va, vc, rfl, bm, bv, gm, gv⟩ := hs
  obtain ⟨ir, da, dc, rfl, bd, gd⟩ := hr
  clear gp gw0 gw1 gm gv gd bp b0 b1
  clear HST
  rw [hn] at HS ⊢
  clear hn
  rw [ho] at HR ⊢
  clear ho
  obtain ⟨g, o, rfl, hg, hcc⟩ := gc.at (by omega)
  have HK : Kp (∀ j, j < 7 → w.cell? ⟨g, o + k0 * 7 + j, none⟩ = (chanC x)[j]?) := ⟨fun j hj => by
    have h1 := hcc (k0 * 7 + j) (by omega)
    rw [flat_at chanC 7 chanC_len C.chans k0 j hk0 hj, hx] at h1
    rw [Nat.add_assoc]
    exact h1⟩
  have hki : (k0 : Int) < (C.chans.length : Int) := by omega
  have hkn := nat_nn k0
  clear hcc hx
  go_enter Tryd.func33, Tryd.ntmps33
  have HB0 : Kp (Below w.heap.size w w) := ⟨Below.refl _ _⟩
  go_wp2_with fail
  refine (rport_any _ C hsm R.port _ (HC.out.below (below_al (below_al (below_al HB0.out _) _) _))).mono ?_
  rw [HPV.out]
  rintro e w1 ⟨rfl, hb⟩
  have q1 : Kp (w1.heap[w.heap.size]? = some (.cells #[.slice pa C.parts.length pc, .slice (some ⟨g, o, none⟩) C.chans.length cc, .int .i64 C.l0, .slice a0 C.w0.length c0, .int .i64 C.l1, .slice a1 C.w1.length c1] 29 (0, 0))) := ⟨blk_below (blk_al (blk_al (blk_new _ _) _) _) hb⟩
  have s1 : Kp (w1.heap[w.heap.size + 1]? = some (.cells #[.int .i64 S.part, .bool true, .slice ma S.made.length mc, .slice va S.valid.length vc] 40 (0, 0))) := ⟨blk_below (blk_al (blk_at (w := (w.alloc (.cells #[.slice pa C.parts.length pc, .slice (some ⟨g, o, none⟩) C.chans.length cc, .int .i64 C.l0, .slice a0 C.w0.length c0, .int .i64 C.l1, .slice a1 C.w1.length c1] 29))) (by simp) _) _) hb⟩
  have r1 : Kp (w1.heap[w.heap.size + 1 + 1]? = some (.cells #[.int .i64 4, .int .i64 R.port, .int .u64 R.addr, .slice da R.data.length dc] 44 (0, 0))) := ⟨blk_below (blk_at (w := ((w.alloc (.cells #[.slice pa C.parts.length pc, .slice (some ⟨g, o, none⟩) C.chans.length cc, .int .i64 C.l0, .slice a0 C.w0.length c0, .int .i64 C.l1, .slice a1 C.w1.length c1] 29)).alloc (.cells #[.int .i64 S.part, .bool true, .slice ma S.made.length mc, .slice va S.valid.length vc] 40))) (by simp) _) hb⟩
  have HB1 : Kp (Below w.heap.size w w1) := ⟨below_call (below_al (below_al (below_al HB0.out _) _) _) hb⟩
  clear HB0 hb
  have qc0 : w1.cell? ⟨w.heap.size, 0, none⟩ = some (.slice pa C.parts.length pc) := (cell_blk q1.out 0).trans rfl
  have qc1 : w1.cell? ⟨w.heap.size, 1, none⟩ = some (.slice (some ⟨g, o, none⟩) C.chans.length cc) := (cell_blk q1.out 1).trans rfl
  have qc2 : w1.cell? ⟨w.heap.size, 2, none⟩ = some (.int .i64 C.l0) := (cell_blk q1.out 2).trans rfl
  have qc3 : w1.cell? ⟨w.heap.size, 3, none⟩ = some (.slice a0 C.w0.length c0) := (cell_blk q1.out 3).trans rfl
  have qc4 : w1.cell? ⟨w.heap.size, 4, none⟩ = some (.int .i64 C.l1) := (cell_blk q1.out 4).trans rfl
  have qc5 : w1.cell? ⟨w.heap.size, 5, none⟩ = some (.slice a1 C.w1.length c1) := (cell_blk q1.out 5).trans rfl
  have ql := blk_lt q1.out
  have sc0 : w1.cell? ⟨w.heap.size + 1, 0, none⟩ = some (.int .i64 S.part) := (cell_blk s1.out 0).trans rfl
  have sc1 : w1.cell? ⟨w.heap.size + 1, 1, none⟩ = some (.bool true) := (cell_blk s1.out 1).trans rfl
  have sc2 : w1.cell? ⟨w.heap.size + 1, 2, none⟩ = some (.slice ma S.made.length mc) := (cell_blk s1.out 2).trans rfl
  have sc3 : w1.cell? ⟨w.heap.size + 1, 3, none⟩ = some (.slice va S.valid.length vc) := (cell_blk s1.out 3).trans rfl
  have sl := blk_lt s1.out
  have rc0 : w1.cell? ⟨w.heap.size + 1 + 1, 0, none⟩ = some (.int .i64 4) := (cell_blk r1.out 0).trans rfl
  have rc1 : w1.cell? ⟨w.heap.size + 1 + 1, 1, none⟩ = some (.int .i64 R.port) := (cell_blk r1.out 1).trans rfl
  have rc2 : w1.cell? ⟨w.heap.size + 1 + 1, 2, none⟩ = some (.int .u64 R.addr) := (cell_blk r1.out 2).trans rfl
  have rc3 : w1.cell? ⟨w.heap.size + 1 + 1, 3, none⟩ = some (.slice da R.data.length dc) := (cell_blk r1.out 3).trans rfl
  have rl := blk_lt r1.out
  go_wp2_with fail
  refine (rmade_any _ S R.port hm _ (HS.out.below (below_al HB1.out _))).mono ?_
  rw [HMD.out]
  rintro e w2 ⟨rfl, hb⟩
  have x2 : Kp (w2.heap[w1.heap.size]? = some (.cells #[.int .i64 (k0 : Int), .int .i64 pp, .bool true, .bool true] 35 (0, 0))) := ⟨blk_below (blk_new _ _) hb⟩
  have q2 : Kp (w2.heap[w.heap.size]? = some (.cells #[.slice pa C.parts.length pc, .slice (some ⟨g, o, none⟩) C.chans.length cc, .int .i64 C.l0, .slice a0 C.w0.length c0, .int .i64 C.l1, .slice a1 C.w1.length c1] 29 (0, 0))) := ⟨blk_below (blk_al q1.out _) hb⟩
  have s2 : Kp (w2.heap[w.heap.size + 1]? = some (.cells #[.int .i64 S.part, .bool true, .slice ma S.made.length mc, .slice va S.valid.length vc] 40 (0, 0))) := ⟨blk_below (blk_al s1.out _) hb⟩
  have r2 : Kp (w2.heap[w.heap.size + 1 + 1]? = some (.cells #[.int .i64 4, .int .i64 R.port, .int .u64 R.addr, .slice da R.data.length dc] 44 (0, 0))) := ⟨blk_below (blk_al r1.out _) hb⟩
  have HB2 : Kp (Below w.heap.size w w2) := ⟨below_call (below_al HB1.out _) hb⟩
  clear qc0 qc1 qc2 qc3 qc4 qc5 ql sc0 sc1 sc2 sc3 sl rc0 rc1 rc2 rc3 rl q1 s1 r1 HB1 hb
  have xc0 : w2.cell? ⟨w1.heap.size, 0, none⟩ = some (.int .i64 (k0 : Int)) := (cell_blk x2.out 0).trans rfl
  have xc1 : w2.cell? ⟨w1.heap.size, 1, none⟩ = some (.int .i64 pp) := (cell_blk x2.out 1).trans rfl
  have xc2 : w2.cell? ⟨w1.heap.size, 2, none⟩ = some (.bool true) := (cell_blk x2.out 2).trans rfl
  have xc3 : w2.cell? ⟨w1.heap.size, 3, none⟩ = some (.bool true) := (cell_blk x2.out 3).trans rfl
  have xl := blk_lt x2.out
  have qc0 : w2.cell? ⟨w.heap.size, 0, none⟩ = some (.slice pa C.parts.length pc) := (cell_blk q2.out 0).trans rfl
  have qc1 : w2.cell? ⟨w.heap.size, 1, none⟩ = some (.slice (some ⟨g, o, none⟩) C.chans.length cc) := (cell_blk q2.out 1).trans rfl
  have qc2 : w2.cell? ⟨w.heap.size, 2, none⟩ = some (.int .i64 C.l0) := (cell_blk q2.out 2).trans rfl
  have qc3 : w2.cell? ⟨w.heap.size, 3, none⟩ = some (.slice a0 C.w0.length c0) := (cell_blk q2.out 3).trans rfl
  have qc4 : w2.cell? ⟨w.heap.size, 4, none⟩ = some (.int .i64 C.l1) := (cell_blk q2.out 4).trans rfl
  have qc5 : w2.cell? ⟨w.heap.size, 5, none⟩ = some (.slice a1 C.w1.length c1) := (cell_blk q2.out 5).trans rfl
  have ql := blk_lt q2.out
  have sc0 : w2.cell? ⟨w.heap.size + 1, 0, none⟩ = some (.int .i64 S.part) := (cell_blk s2.out 0).trans rfl
  have sc1 : w2.cell? ⟨w.heap.size + 1, 1, none⟩ = some (.bool true) := (cell_blk s2.out 1).trans rfl
  have sc2 : w2.cell? ⟨w.heap.size + 1, 2, none⟩ = some (.slice ma S.made.length mc) := (cell_blk s2.out 2).trans rfl
  have sc3 : w2.cell? ⟨w.heap.size + 1, 3, none⟩ = some (.slice va S.valid.length vc) := (cell_blk s2.out 3).trans rfl
  have sl := blk_lt s2.out
  have rc0 : w2.cell? ⟨w.heap.size + 1 + 1, 0, none⟩ = some (.int .i64 4) := (cell_blk r2.out 0).trans rfl
  have rc1 : w2.cell? ⟨w.heap.size + 1 + 1, 1, none⟩ = some (.int .i64 R.port) := (cell_blk r2.out 1).trans rfl
  have rc2 : w2.cell? ⟨w.heap.size + 1 + 1, 2, none⟩ = some (.int .u64 R.addr) := (cell_blk r2.out 2).trans rfl
  have rc3 : w2.cell? ⟨w.heap.size + 1 + 1, 3, none⟩ = some (.slice da R.data.length dc) := (cell_blk r2.out 3).trans rfl
  have rl := blk_lt r2.out
  have e0 : w2.cell? ⟨g, o + k0 * 7, none⟩ = some (.int .i64 x.kind) := (HB2.out.cell (p := ⟨g, o + k0 * 7, none⟩) hg).trans (HK.out 0 (by omega))
  have e3 : w2.cell? ⟨g, o + k0 * 7 + 3, none⟩ = some (.int .i64 x.words) := (HB2.out.cell (p := ⟨g, o + k0 * 7 + 3, none⟩) hg).trans (HK.out 3 (by omega))
  go_wp2
  go_ret
  exact ⟨rfl, HB2.out⟩

set_option maxRecDepth 100000 in
set_option maxHeartbeats 8000000 in
theorem talk_4ok (cv sv rv : Value) (C : Cfg) (S : Std) (R : Rqt) (hsm : C.small) (hm : S.made.length ≤ 100) (hd : R.data.length ≤ 100) (ho : R.op = 4) (k0 : Nat) (hk0 : k0 < C.chans.length) (pp : Int) (src : Bool) (hpv : portV C R.port = ⟨k0, pp, src, true⟩) (x : Chn) (hx : C.chans[k0] = x) (hp : pp = S.part) (hmd : S.made.contains R.port = true) (hn : S.normal = true) (hk : x.kind = 1) (hsr : src = false) (w : World) (hc : CfgAt w cv C) (hs : StdAt w sv S) (hr : RqtAt w rv R) : Calls Tryd.prog 33 #[cv, sv, rv] w fun e w' => e = .returned (.int .i64 (0)) ∧ Below w.heap.size w w' := by
  have HPV := Kp.mk hpv
  have hne : (pp != S.part) = false := by simpa using hp
  have HMD := Kp.mk hmd
  clear hpv hp hmd
  have hkb : (x.kind != 1) = false := by simpa using hk
  subst hsr
  clear hk
  have HST := Kp.mk hs
  have HC := Kp.mk hc
  have HS := Kp.mk hs
  have HR := Kp.mk hr
  obtain ⟨_, pa, pc, ca, cc, a0, c0, a1, c1, rfl, bp, bc, b0, b1, gp, gc, gw0, gw1⟩ := hc
  obtain ⟨_, ma, mc, va, vc, rfl, bm, bv, gm, gv⟩ := hs
  obtain ⟨ir, da, dc, rfl, bd, gd⟩ := hr
  clear gp gw0 gw1 gm gv gd bp b0 b1
  clear HST
  rw [hn] at HS ⊢
  clear hn
  rw [ho] at HR ⊢
  clear ho
  obtain ⟨g, o, rfl, hg, hcc⟩ := gc.at (by omega)
  have HK : Kp (∀ j, j < 7 → w.cell? ⟨g, o + k0 * 7 + j, none⟩ = (chanC x)[j]?) := ⟨fun j hj => by
    have h1 := hcc (k0 * 7 + j) (by omega)
    rw [flat_at chanC 7 chanC_len C.chans k0 j hk0 hj, hx] at h1
    rw [Nat.add_assoc]
    exact h1⟩
  have hki : (k0 : Int) < (C.chans.length : Int) := by omega
  have hkn := nat_nn k0
  clear hcc hx
  go_enter Tryd.func33, Tryd.ntmps33
  have HB0 : Kp (Below w.heap.size w w) := ⟨Below.refl _ _⟩
  go_wp2_with fail
  refine (rport_any _ C hsm R.port _ (HC.out.below (below_al (below_al (below_al HB0.out _) _) _))).mono ?_
  rw [HPV.out]
  rintro e w1 ⟨rfl, hb⟩
  have q1 : Kp (w1.heap[w.heap.size]? = some (.cells #[.slice pa C.parts.length pc, .slice (some ⟨g, o, none⟩) C.chans.length cc, .int .i64 C.l0, .slice a0 C.w0.length c0, .int .i64 C.l1, .slice a1 C.w1.length c1] 29 (0, 0))) := ⟨blk_below (blk_al (blk_al (blk_new _ _) _) _) hb⟩
  have s1 : Kp (w1.heap[w.heap.size + 1]? = some (.cells #[.int .i64 S.part, .bool true, .slice ma S.made.length mc, .slice va S.valid.length vc] 40 (0, 0))) := ⟨blk_below (blk_al (blk_at (w := (w.alloc (.cells #[.slice pa C.parts.length pc, .slice (some ⟨g, o, none⟩) C.chans.length cc, .int .i64 C.l0, .slice a0 C.w0.length c0, .int .i64 C.l1, .slice a1 C.w1.length c1] 29))) (by simp) _) _) hb⟩
  have r1 : Kp (w1.heap[w.heap.size + 1 + 1]? = some (.cells #[.int .i64 4, .int .i64 R.port, .int .u64 R.addr, .slice da R.data.length dc] 44 (0, 0))) := ⟨blk_below (blk_at (w := ((w.alloc (.cells #[.slice pa C.parts.length pc, .slice (some ⟨g, o, none⟩) C.chans.length cc, .int .i64 C.l0, .slice a0 C.w0.length c0, .int .i64 C.l1, .slice a1 C.w1.length c1] 29)).alloc (.cells #[.int .i64 S.part, .bool true, .slice ma S.made.length mc, .slice va S.valid.length vc] 40))) (by simp) _) hb⟩
  have HB1 : Kp (Below w.heap.size w w1) := ⟨below_call (below_al (below_al (below_al HB0.out _) _) _) hb⟩
  clear HB0 hb
  have qc0 : w1.cell? ⟨w.heap.size, 0, none⟩ = some (.slice pa C.parts.length pc) := (cell_blk q1.out 0).trans rfl
  have qc1 : w1.cell? ⟨w.heap.size, 1, none⟩ = some (.slice (some ⟨g, o, none⟩) C.chans.length cc) := (cell_blk q1.out 1).trans rfl
  have qc2 : w1.cell? ⟨w.heap.size, 2, none⟩ = some (.int .i64 C.l0) := (cell_blk q1.out 2).trans rfl
  have qc3 : w1.cell? ⟨w.heap.size, 3, none⟩ = some (.slice a0 C.w0.length c0) := (cell_blk q1.out 3).trans rfl
  have qc4 : w1.cell? ⟨w.heap.size, 4, none⟩ = some (.int .i64 C.l1) := (cell_blk q1.out 4).trans rfl
  have qc5 : w1.cell? ⟨w.heap.size, 5, none⟩ = some (.slice a1 C.w1.length c1) := (cell_blk q1.out 5).trans rfl
  have ql := blk_lt q1.out
  have sc0 : w1.cell? ⟨w.heap.size + 1, 0, none⟩ = some (.int .i64 S.part) := (cell_blk s1.out 0).trans rfl
  have sc1 : w1.cell? ⟨w.heap.size + 1, 1, none⟩ = some (.bool true) := (cell_blk s1.out 1).trans rfl
  have sc2 : w1.cell? ⟨w.heap.size + 1, 2, none⟩ = some (.slice ma S.made.length mc) := (cell_blk s1.out 2).trans rfl
  have sc3 : w1.cell? ⟨w.heap.size + 1, 3, none⟩ = some (.slice va S.valid.length vc) := (cell_blk s1.out 3).trans rfl
  have sl := blk_lt s1.out
  have rc0 : w1.cell? ⟨w.heap.size + 1 + 1, 0, none⟩ = some (.int .i64 4) := (cell_blk r1.out 0).trans rfl
  have rc1 : w1.cell? ⟨w.heap.size + 1 + 1, 1, none⟩ = some (.int .i64 R.port) := (cell_blk r1.out 1).trans rfl
  have rc2 : w1.cell? ⟨w.heap.size + 1 + 1, 2, none⟩ = some (.int .u64 R.addr) := (cell_blk r1.out 2).trans rfl
  have rc3 : w1.cell? ⟨w.heap.size + 1 + 1, 3, none⟩ = some (.slice da R.data.length dc) := (cell_blk r1.out 3).trans rfl
  have rl := blk_lt r1.out
  go_wp2_with fail
  refine (rmade_any _ S R.port hm _ (HS.out.below (below_al HB1.out _))).mono ?_
  rw [HMD.out]
  rintro e w2 ⟨rfl, hb⟩
  have x2 : Kp (w2.heap[w1.heap.size]? = some (.cells #[.int .i64 (k0 : Int), .int .i64 pp, .bool false, .bool true] 35 (0, 0))) := ⟨blk_below (blk_new _ _) hb⟩
  have q2 : Kp (w2.heap[w.heap.size]? = some (.cells #[.slice pa C.parts.length pc, .slice (some ⟨g, o, none⟩) C.chans.length cc, .int .i64 C.l0, .slice a0 C.w0.length c0, .int .i64 C.l1, .slice a1 C.w1.length c1] 29 (0, 0))) := ⟨blk_below (blk_al q1.out _) hb⟩
  have s2 : Kp (w2.heap[w.heap.size + 1]? = some (.cells #[.int .i64 S.part, .bool true, .slice ma S.made.length mc, .slice va S.valid.length vc] 40 (0, 0))) := ⟨blk_below (blk_al s1.out _) hb⟩
  have r2 : Kp (w2.heap[w.heap.size + 1 + 1]? = some (.cells #[.int .i64 4, .int .i64 R.port, .int .u64 R.addr, .slice da R.data.length dc] 44 (0, 0))) := ⟨blk_below (blk_al r1.out _) hb⟩
  have HB2 : Kp (Below w.heap.size w w2) := ⟨below_call (below_al HB1.out _) hb⟩
  clear qc0 qc1 qc2 qc3 qc4 qc5 ql sc0 sc1 sc2 sc3 sl rc0 rc1 rc2 rc3 rl q1 s1 r1 HB1 hb
  have xc0 : w2.cell? ⟨w1.heap.size, 0, none⟩ = some (.int .i64 (k0 : Int)) := (cell_blk x2.out 0).trans rfl
  have xc1 : w2.cell? ⟨w1.heap.size, 1, none⟩ = some (.int .i64 pp) := (cell_blk x2.out 1).trans rfl
  have xc2 : w2.cell? ⟨w1.heap.size, 2, none⟩ = some (.bool false) := (cell_blk x2.out 2).trans rfl
  have xc3 : w2.cell? ⟨w1.heap.size, 3, none⟩ = some (.bool true) := (cell_blk x2.out 3).trans rfl
  have xl := blk_lt x2.out
  have qc0 : w2.cell? ⟨w.heap.size, 0, none⟩ = some (.slice pa C.parts.length pc) := (cell_blk q2.out 0).trans rfl
  have qc1 : w2.cell? ⟨w.heap.size, 1, none⟩ = some (.slice (some ⟨g, o, none⟩) C.chans.length cc) := (cell_blk q2.out 1).trans rfl
  have qc2 : w2.cell? ⟨w.heap.size, 2, none⟩ = some (.int .i64 C.l0) := (cell_blk q2.out 2).trans rfl
  have qc3 : w2.cell? ⟨w.heap.size, 3, none⟩ = some (.slice a0 C.w0.length c0) := (cell_blk q2.out 3).trans rfl
  have qc4 : w2.cell? ⟨w.heap.size, 4, none⟩ = some (.int .i64 C.l1) := (cell_blk q2.out 4).trans rfl
  have qc5 : w2.cell? ⟨w.heap.size, 5, none⟩ = some (.slice a1 C.w1.length c1) := (cell_blk q2.out 5).trans rfl
  have ql := blk_lt q2.out
  have sc0 : w2.cell? ⟨w.heap.size + 1, 0, none⟩ = some (.int .i64 S.part) := (cell_blk s2.out 0).trans rfl
  have sc1 : w2.cell? ⟨w.heap.size + 1, 1, none⟩ = some (.bool true) := (cell_blk s2.out 1).trans rfl
  have sc2 : w2.cell? ⟨w.heap.size + 1, 2, none⟩ = some (.slice ma S.made.length mc) := (cell_blk s2.out 2).trans rfl
  have sc3 : w2.cell? ⟨w.heap.size + 1, 3, none⟩ = some (.slice va S.valid.length vc) := (cell_blk s2.out 3).trans rfl
  have sl := blk_lt s2.out
  have rc0 : w2.cell? ⟨w.heap.size + 1 + 1, 0, none⟩ = some (.int .i64 4) := (cell_blk r2.out 0).trans rfl
  have rc1 : w2.cell? ⟨w.heap.size + 1 + 1, 1, none⟩ = some (.int .i64 R.port) := (cell_blk r2.out 1).trans rfl
  have rc2 : w2.cell? ⟨w.heap.size + 1 + 1, 2, none⟩ = some (.int .u64 R.addr) := (cell_blk r2.out 2).trans rfl
  have rc3 : w2.cell? ⟨w.heap.size + 1 + 1, 3, none⟩ = some (.slice da R.data.length dc) := (cell_blk r2.out 3).trans rfl
  have rl := blk_lt r2.out
  have e0 : w2.cell? ⟨g, o + k0 * 7, none⟩ = some (.int .i64 x.kind) := (HB2.out.cell (p := ⟨g, o + k0 * 7, none⟩) hg).trans (HK.out 0 (by omega))
  have e3 : w2.cell? ⟨g, o + k0 * 7 + 3, none⟩ = some (.int .i64 x.words) := (HB2.out.cell (p := ⟨g, o + k0 * 7 + 3, none⟩) hg).trans (HK.out 3 (by omega))
  go_wp2
  go_ret
  exact ⟨rfl, HB2.out⟩

set_option maxRecDepth 100000 in
set_option maxHeartbeats 8000000 in
theorem talk_5kind (cv sv rv : Value) (C : Cfg) (S : Std) (R : Rqt) (hsm : C.small) (hm : S.made.length ≤ 100) (hd : R.data.length ≤ 100) (ho : R.op = 5) (k0 : Nat) (hk0 : k0 < C.chans.length) (pp : Int) (src : Bool) (hpv : portV C R.port = ⟨k0, pp, src, true⟩) (x : Chn) (hx : C.chans[k0] = x) (hp : pp = S.part) (hmd : S.made.contains R.port = true) (hn : S.normal = true) (hk : ¬ x.kind = 2) (w : World) (hc : CfgAt w cv C) (hs : StdAt w sv S) (hr : RqtAt w rv R) : Calls Tryd.prog 33 #[cv, sv, rv] w fun e w' => e = .returned (.int .i64 (5)) ∧ Below w.heap.size w w' := by
  have HPV := Kp.mk hpv
  have hne : (pp != S.part) = false := by simpa using hp
  have HMD := Kp.mk hmd
  clear hpv hp hmd
  have hkb : (x.kind != 2) = true := by simpa using hk
  clear hk
  have HST := Kp.mk hs
  have HC := Kp.mk hc
  have HS := Kp.mk hs
  have HR := Kp.mk hr
  obtain ⟨_, pa, pc, ca, cc, a0, c0, a1, c1, rfl, bp, bc, b0, b1, gp, gc, gw0, gw1⟩ := hc
  obtain ⟨_, ma, mc, va, vc, rfl, bm, bv, gm, gv⟩ := hs
  obtain ⟨ir, da, dc, rfl, bd, gd⟩ := hr
  clear gp gw0 gw1 gm gv gd bp b0 b1
  clear HST
  rw [hn] at HS ⊢
  clear hn
  rw [ho] at HR ⊢
  clear ho
  obtain ⟨g, o, rfl, hg, hcc⟩ := gc.at (by omega)
  have HK : Kp (∀ j, j < 7 → w.cell? ⟨g, o + k0 * 7 + j, none⟩ = (chanC x)[j]?) := ⟨fun j hj => by
    have h1 := hcc (k0 * 7 + j) (by omega)
    rw [flat_at chanC 7 chanC_len C.chans k0 j hk0 hj, hx] at h1
    rw [Nat.add_assoc]
    exact h1⟩
  have hki : (k0 : Int) < (C.chans.length : Int) := by omega
  have hkn := nat_nn k0
  clear hcc hx
  go_enter Tryd.func33, Tryd.ntmps33
  have HB0 : Kp (Below w.heap.size w w) := ⟨Below.refl _ _⟩
  go_wp2_with fail
  refine (rport_any _ C hsm R.port _ (HC.out.below (below_al (below_al (below_al HB0.out _) _) _))).mono ?_
  rw [HPV.out]
  rintro e w1 ⟨rfl, hb⟩
  have q1 : Kp (w1.heap[w.heap.size]? = some (.cells #[.slice pa C.parts.length pc, .slice (some ⟨g, o, none⟩) C.chans.length cc, .int .i64 C.l0, .slice a0 C.w0.length c0, .int .i64 C.l1, .slice a1 C.w1.length c1] 29 (0, 0))) := ⟨blk_below (blk_al (blk_al (blk_new _ _) _) _) hb⟩
  have s1 : Kp (w1.heap[w.heap.size + 1]? = some (.cells #[.int .i64 S.part, .bool true, .slice ma S.made.length mc, .slice va S.valid.length vc] 40 (0, 0))) := ⟨blk_below (blk_al (blk_at (w := (w.alloc (.cells #[.slice pa C.parts.length pc, .slice (some ⟨g, o, none⟩) C.chans.length cc, .int .i64 C.l0, .slice a0 C.w0.length c0, .int .i64 C.l1, .slice a1 C.w1.length c1] 29))) (by simp) _) _) hb⟩
  have r1 : Kp (w1.heap[w.heap.size + 1 + 1]? = some (.cells #[.int .i64 5, .int .i64 R.port, .int .u64 R.addr, .slice da R.data.length dc] 44 (0, 0))) := ⟨blk_below (blk_at (w := ((w.alloc (.cells #[.slice pa C.parts.length pc, .slice (some ⟨g, o, none⟩) C.chans.length cc, .int .i64 C.l0, .slice a0 C.w0.length c0, .int .i64 C.l1, .slice a1 C.w1.length c1] 29)).alloc (.cells #[.int .i64 S.part, .bool true, .slice ma S.made.length mc, .slice va S.valid.length vc] 40))) (by simp) _) hb⟩
  have HB1 : Kp (Below w.heap.size w w1) := ⟨below_call (below_al (below_al (below_al HB0.out _) _) _) hb⟩
  clear HB0 hb
  have qc0 : w1.cell? ⟨w.heap.size, 0, none⟩ = some (.slice pa C.parts.length pc) := (cell_blk q1.out 0).trans rfl
  have qc1 : w1.cell? ⟨w.heap.size, 1, none⟩ = some (.slice (some ⟨g, o, none⟩) C.chans.length cc) := (cell_blk q1.out 1).trans rfl
  have qc2 : w1.cell? ⟨w.heap.size, 2, none⟩ = some (.int .i64 C.l0) := (cell_blk q1.out 2).trans rfl
  have qc3 : w1.cell? ⟨w.heap.size, 3, none⟩ = some (.slice a0 C.w0.length c0) := (cell_blk q1.out 3).trans rfl
  have qc4 : w1.cell? ⟨w.heap.size, 4, none⟩ = some (.int .i64 C.l1) := (cell_blk q1.out 4).trans rfl
  have qc5 : w1.cell? ⟨w.heap.size, 5, none⟩ = some (.slice a1 C.w1.length c1) := (cell_blk q1.out 5).trans rfl
  have ql := blk_lt q1.out
  have sc0 : w1.cell? ⟨w.heap.size + 1, 0, none⟩ = some (.int .i64 S.part) := (cell_blk s1.out 0).trans rfl
  have sc1 : w1.cell? ⟨w.heap.size + 1, 1, none⟩ = some (.bool true) := (cell_blk s1.out 1).trans rfl
  have sc2 : w1.cell? ⟨w.heap.size + 1, 2, none⟩ = some (.slice ma S.made.length mc) := (cell_blk s1.out 2).trans rfl
  have sc3 : w1.cell? ⟨w.heap.size + 1, 3, none⟩ = some (.slice va S.valid.length vc) := (cell_blk s1.out 3).trans rfl
  have sl := blk_lt s1.out
  have rc0 : w1.cell? ⟨w.heap.size + 1 + 1, 0, none⟩ = some (.int .i64 5) := (cell_blk r1.out 0).trans rfl
  have rc1 : w1.cell? ⟨w.heap.size + 1 + 1, 1, none⟩ = some (.int .i64 R.port) := (cell_blk r1.out 1).trans rfl
  have rc2 : w1.cell? ⟨w.heap.size + 1 + 1, 2, none⟩ = some (.int .u64 R.addr) := (cell_blk r1.out 2).trans rfl
  have rc3 : w1.cell? ⟨w.heap.size + 1 + 1, 3, none⟩ = some (.slice da R.data.length dc) := (cell_blk r1.out 3).trans rfl
  have rl := blk_lt r1.out
  go_wp2_with fail
  refine (rmade_any _ S R.port hm _ (HS.out.below (below_al HB1.out _))).mono ?_
  rw [HMD.out]
  rintro e w2 ⟨rfl, hb⟩
  have x2 : Kp (w2.heap[w1.heap.size]? = some (.cells #[.int .i64 (k0 : Int), .int .i64 pp, .bool src, .bool true] 35 (0, 0))) := ⟨blk_below (blk_new _ _) hb⟩
  have q2 : Kp (w2.heap[w.heap.size]? = some (.cells #[.slice pa C.parts.length pc, .slice (some ⟨g, o, none⟩) C.chans.length cc, .int .i64 C.l0, .slice a0 C.w0.length c0, .int .i64 C.l1, .slice a1 C.w1.length c1] 29 (0, 0))) := ⟨blk_below (blk_al q1.out _) hb⟩
  have s2 : Kp (w2.heap[w.heap.size + 1]? = some (.cells #[.int .i64 S.part, .bool true, .slice ma S.made.length mc, .slice va S.valid.length vc] 40 (0, 0))) := ⟨blk_below (blk_al s1.out _) hb⟩
  have r2 : Kp (w2.heap[w.heap.size + 1 + 1]? = some (.cells #[.int .i64 5, .int .i64 R.port, .int .u64 R.addr, .slice da R.data.length dc] 44 (0, 0))) := ⟨blk_below (blk_al r1.out _) hb⟩
  have HB2 : Kp (Below w.heap.size w w2) := ⟨below_call (below_al HB1.out _) hb⟩
  clear qc0 qc1 qc2 qc3 qc4 qc5 ql sc0 sc1 sc2 sc3 sl rc0 rc1 rc2 rc3 rl q1 s1 r1 HB1 hb
  have xc0 : w2.cell? ⟨w1.heap.size, 0, none⟩ = some (.int .i64 (k0 : Int)) := (cell_blk x2.out 0).trans rfl
  have xc1 : w2.cell? ⟨w1.heap.size, 1, none⟩ = some (.int .i64 pp) := (cell_blk x2.out 1).trans rfl
  have xc2 : w2.cell? ⟨w1.heap.size, 2, none⟩ = some (.bool src) := (cell_blk x2.out 2).trans rfl
  have xc3 : w2.cell? ⟨w1.heap.size, 3, none⟩ = some (.bool true) := (cell_blk x2.out 3).trans rfl
  have xl := blk_lt x2.out
  have qc0 : w2.cell? ⟨w.heap.size, 0, none⟩ = some (.slice pa C.parts.length pc) := (cell_blk q2.out 0).trans rfl
  have qc1 : w2.cell? ⟨w.heap.size, 1, none⟩ = some (.slice (some ⟨g, o, none⟩) C.chans.length cc) := (cell_blk q2.out 1).trans rfl
  have qc2 : w2.cell? ⟨w.heap.size, 2, none⟩ = some (.int .i64 C.l0) := (cell_blk q2.out 2).trans rfl
  have qc3 : w2.cell? ⟨w.heap.size, 3, none⟩ = some (.slice a0 C.w0.length c0) := (cell_blk q2.out 3).trans rfl
  have qc4 : w2.cell? ⟨w.heap.size, 4, none⟩ = some (.int .i64 C.l1) := (cell_blk q2.out 4).trans rfl
  have qc5 : w2.cell? ⟨w.heap.size, 5, none⟩ = some (.slice a1 C.w1.length c1) := (cell_blk q2.out 5).trans rfl
  have ql := blk_lt q2.out
  have sc0 : w2.cell? ⟨w.heap.size + 1, 0, none⟩ = some (.int .i64 S.part) := (cell_blk s2.out 0).trans rfl
  have sc1 : w2.cell? ⟨w.heap.size + 1, 1, none⟩ = some (.bool true) := (cell_blk s2.out 1).trans rfl
  have sc2 : w2.cell? ⟨w.heap.size + 1, 2, none⟩ = some (.slice ma S.made.length mc) := (cell_blk s2.out 2).trans rfl
  have sc3 : w2.cell? ⟨w.heap.size + 1, 3, none⟩ = some (.slice va S.valid.length vc) := (cell_blk s2.out 3).trans rfl
  have sl := blk_lt s2.out
  have rc0 : w2.cell? ⟨w.heap.size + 1 + 1, 0, none⟩ = some (.int .i64 5) := (cell_blk r2.out 0).trans rfl
  have rc1 : w2.cell? ⟨w.heap.size + 1 + 1, 1, none⟩ = some (.int .i64 R.port) := (cell_blk r2.out 1).trans rfl
  have rc2 : w2.cell? ⟨w.heap.size + 1 + 1, 2, none⟩ = some (.int .u64 R.addr) := (cell_blk r2.out 2).trans rfl
  have rc3 : w2.cell? ⟨w.heap.size + 1 + 1, 3, none⟩ = some (.slice da R.data.length dc) := (cell_blk r2.out 3).trans rfl
  have rl := blk_lt r2.out
  have e0 : w2.cell? ⟨g, o + k0 * 7, none⟩ = some (.int .i64 x.kind) := (HB2.out.cell (p := ⟨g, o + k0 * 7, none⟩) hg).trans (HK.out 0 (by omega))
  have e3 : w2.cell? ⟨g, o + k0 * 7 + 3, none⟩ = some (.int .i64 x.words) := (HB2.out.cell (p := ⟨g, o + k0 * 7 + 3, none⟩) hg).trans (HK.out 3 (by omega))
  go_wp2
  go_ret
  exact ⟨rfl, HB2.out⟩

set_option maxRecDepth 100000 in
set_option maxHeartbeats 8000000 in
theorem talk_5src (cv sv rv : Value) (C : Cfg) (S : Std) (R : Rqt) (hsm : C.small) (hm : S.made.length ≤ 100) (hd : R.data.length ≤ 100) (ho : R.op = 5) (k0 : Nat) (hk0 : k0 < C.chans.length) (pp : Int) (src : Bool) (hpv : portV C R.port = ⟨k0, pp, src, true⟩) (x : Chn) (hx : C.chans[k0] = x) (hp : pp = S.part) (hmd : S.made.contains R.port = true) (hn : S.normal = true) (hk : x.kind = 2) (hsr : src = false) (w : World) (hc : CfgAt w cv C) (hs : StdAt w sv S) (hr : RqtAt w rv R) : Calls Tryd.prog 33 #[cv, sv, rv] w fun e w' => e = .returned (.int .i64 (5)) ∧ Below w.heap.size w w' := by
  have HPV := Kp.mk hpv
  have hne : (pp != S.part) = false := by simpa using hp
  have HMD := Kp.mk hmd
  clear hpv hp hmd
  have hkb : (x.kind != 2) = false := by simpa using hk
  subst hsr
  clear hk
  have HST := Kp.mk hs
  have HC := Kp.mk hc
  have HS := Kp.mk hs
  have HR := Kp.mk hr
  obtain ⟨_, pa, pc, ca, cc, a0, c0, a1, c1, rfl, bp, bc, b0, b1, gp, gc, gw0, gw1⟩ := hc
  obtain ⟨_, ma, mc, va, vc, rfl, bm, bv, gm, gv⟩ := hs
  obtain ⟨ir, da, dc, rfl, bd, gd⟩ := hr
  clear gp gw0 gw1 gm gv gd bp b0 b1
  clear HST
  rw [hn] at HS ⊢
  clear hn
  rw [ho] at HR ⊢
  clear ho
  obtain ⟨g, o, rfl, hg, hcc⟩ := gc.at (by omega)
  have HK : Kp (∀ j, j < 7 → w.cell? ⟨g, o + k0 * 7 + j, none⟩ = (chanC x)[j]?) := ⟨fun j hj => by
    have h1 := hcc (k0 * 7 + j) (by omega)
    rw [flat_at chanC 7 chanC_len C.chans k0 j hk0 hj, hx] at h1
    rw [Nat.add_assoc]
    exact h1⟩
  have hki : (k0 : Int) < (C.chans.length : Int) := by omega
  have hkn := nat_nn k0
  clear hcc hx
  go_enter Tryd.func33, Tryd.ntmps33
  have HB0 : Kp (Below w.heap.size w w) := ⟨Below.refl _ _⟩
  go_wp2_with fail
  refine (rport_any _ C hsm R.port _ (HC.out.below (below_al (below_al (below_al HB0.out _) _) _))).mono ?_
  rw [HPV.out]
  rintro e w1 ⟨rfl, hb⟩
  have q1 : Kp (w1.heap[w.heap.size]? = some (.cells #[.slice pa C.parts.length pc, .slice (some ⟨g, o, none⟩) C.chans.length cc, .int .i64 C.l0, .slice a0 C.w0.length c0, .int .i64 C.l1, .slice a1 C.w1.length c1] 29 (0, 0))) := ⟨blk_below (blk_al (blk_al (blk_new _ _) _) _) hb⟩
  have s1 : Kp (w1.heap[w.heap.size + 1]? = some (.cells #[.int .i64 S.part, .bool true, .slice ma S.made.length mc, .slice va S.valid.length vc] 40 (0, 0))) := ⟨blk_below (blk_al (blk_at (w := (w.alloc (.cells #[.slice pa C.parts.length pc, .slice (some ⟨g, o, none⟩) C.chans.length cc, .int .i64 C.l0, .slice a0 C.w0.length c0, .int .i64 C.l1, .slice a1 C.w1.length c1] 29))) (by simp) _) _) hb⟩
  have r1 : Kp (w1.heap[w.heap.size + 1 + 1]? = some (.cells #[.int .i64 5, .int .i64 R.port, .int .u64 R.addr, .slice da R.data.length dc] 44 (0, 0))) := ⟨blk_below (blk_at (w := ((w.alloc (.cells #[.slice pa C.parts.length pc, .slice (some ⟨g, o, none⟩) C.chans.length cc, .int .i64 C.l0, .slice a0 C.w0.length c0, .int .i64 C.l1, .slice a1 C.w1.length c1] 29)).alloc (.cells #[.int .i64 S.part, .bool true, .slice ma S.made.length mc, .slice va S.valid.length vc] 40))) (by simp) _) hb⟩
  have HB1 : Kp (Below w.heap.size w w1) := ⟨below_call (below_al (below_al (below_al HB0.out _) _) _) hb⟩
  clear HB0 hb
  have qc0 : w1.cell? ⟨w.heap.size, 0, none⟩ = some (.slice pa C.parts.length pc) := (cell_blk q1.out 0).trans rfl
  have qc1 : w1.cell? ⟨w.heap.size, 1, none⟩ = some (.slice (some ⟨g, o, none⟩) C.chans.length cc) := (cell_blk q1.out 1).trans rfl
  have qc2 : w1.cell? ⟨w.heap.size, 2, none⟩ = some (.int .i64 C.l0) := (cell_blk q1.out 2).trans rfl
  have qc3 : w1.cell? ⟨w.heap.size, 3, none⟩ = some (.slice a0 C.w0.length c0) := (cell_blk q1.out 3).trans rfl
  have qc4 : w1.cell? ⟨w.heap.size, 4, none⟩ = some (.int .i64 C.l1) := (cell_blk q1.out 4).trans rfl
  have qc5 : w1.cell? ⟨w.heap.size, 5, none⟩ = some (.slice a1 C.w1.length c1) := (cell_blk q1.out 5).trans rfl
  have ql := blk_lt q1.out
  have sc0 : w1.cell? ⟨w.heap.size + 1, 0, none⟩ = some (.int .i64 S.part) := (cell_blk s1.out 0).trans rfl
  have sc1 : w1.cell? ⟨w.heap.size + 1, 1, none⟩ = some (.bool true) := (cell_blk s1.out 1).trans rfl
  have sc2 : w1.cell? ⟨w.heap.size + 1, 2, none⟩ = some (.slice ma S.made.length mc) := (cell_blk s1.out 2).trans rfl
  have sc3 : w1.cell? ⟨w.heap.size + 1, 3, none⟩ = some (.slice va S.valid.length vc) := (cell_blk s1.out 3).trans rfl
  have sl := blk_lt s1.out
  have rc0 : w1.cell? ⟨w.heap.size + 1 + 1, 0, none⟩ = some (.int .i64 5) := (cell_blk r1.out 0).trans rfl
  have rc1 : w1.cell? ⟨w.heap.size + 1 + 1, 1, none⟩ = some (.int .i64 R.port) := (cell_blk r1.out 1).trans rfl
  have rc2 : w1.cell? ⟨w.heap.size + 1 + 1, 2, none⟩ = some (.int .u64 R.addr) := (cell_blk r1.out 2).trans rfl
  have rc3 : w1.cell? ⟨w.heap.size + 1 + 1, 3, none⟩ = some (.slice da R.data.length dc) := (cell_blk r1.out 3).trans rfl
  have rl := blk_lt r1.out
  go_wp2_with fail
  refine (rmade_any _ S R.port hm _ (HS.out.below (below_al HB1.out _))).mono ?_
  rw [HMD.out]
  rintro e w2 ⟨rfl, hb⟩
  have x2 : Kp (w2.heap[w1.heap.size]? = some (.cells #[.int .i64 (k0 : Int), .int .i64 pp, .bool false, .bool true] 35 (0, 0))) := ⟨blk_below (blk_new _ _) hb⟩
  have q2 : Kp (w2.heap[w.heap.size]? = some (.cells #[.slice pa C.parts.length pc, .slice (some ⟨g, o, none⟩) C.chans.length cc, .int .i64 C.l0, .slice a0 C.w0.length c0, .int .i64 C.l1, .slice a1 C.w1.length c1] 29 (0, 0))) := ⟨blk_below (blk_al q1.out _) hb⟩
  have s2 : Kp (w2.heap[w.heap.size + 1]? = some (.cells #[.int .i64 S.part, .bool true, .slice ma S.made.length mc, .slice va S.valid.length vc] 40 (0, 0))) := ⟨blk_below (blk_al s1.out _) hb⟩
  have r2 : Kp (w2.heap[w.heap.size + 1 + 1]? = some (.cells #[.int .i64 5, .int .i64 R.port, .int .u64 R.addr, .slice da R.data.length dc] 44 (0, 0))) := ⟨blk_below (blk_al r1.out _) hb⟩
  have HB2 : Kp (Below w.heap.size w w2) := ⟨below_call (below_al HB1.out _) hb⟩
  clear qc0 qc1 qc2 qc3 qc4 qc5 ql sc0 sc1 sc2 sc3 sl rc0 rc1 rc2 rc3 rl q1 s1 r1 HB1 hb
  have xc0 : w2.cell? ⟨w1.heap.size, 0, none⟩ = some (.int .i64 (k0 : Int)) := (cell_blk x2.out 0).trans rfl
  have xc1 : w2.cell? ⟨w1.heap.size, 1, none⟩ = some (.int .i64 pp) := (cell_blk x2.out 1).trans rfl
  have xc2 : w2.cell? ⟨w1.heap.size, 2, none⟩ = some (.bool false) := (cell_blk x2.out 2).trans rfl
  have xc3 : w2.cell? ⟨w1.heap.size, 3, none⟩ = some (.bool true) := (cell_blk x2.out 3).trans rfl
  have xl := blk_lt x2.out
  have qc0 : w2.cell? ⟨w.heap.size, 0, none⟩ = some (.slice pa C.parts.length pc) := (cell_blk q2.out 0).trans rfl
  have qc1 : w2.cell? ⟨w.heap.size, 1, none⟩ = some (.slice (some ⟨g, o, none⟩) C.chans.length cc) := (cell_blk q2.out 1).trans rfl
  have qc2 : w2.cell? ⟨w.heap.size, 2, none⟩ = some (.int .i64 C.l0) := (cell_blk q2.out 2).trans rfl
  have qc3 : w2.cell? ⟨w.heap.size, 3, none⟩ = some (.slice a0 C.w0.length c0) := (cell_blk q2.out 3).trans rfl
  have qc4 : w2.cell? ⟨w.heap.size, 4, none⟩ = some (.int .i64 C.l1) := (cell_blk q2.out 4).trans rfl
  have qc5 : w2.cell? ⟨w.heap.size, 5, none⟩ = some (.slice a1 C.w1.length c1) := (cell_blk q2.out 5).trans rfl
  have ql := blk_lt q2.out
  have sc0 : w2.cell? ⟨w.heap.size + 1, 0, none⟩ = some (.int .i64 S.part) := (cell_blk s2.out 0).trans rfl
  have sc1 : w2.cell? ⟨w.heap.size + 1, 1, none⟩ = some (.bool true) := (cell_blk s2.out 1).trans rfl
  have sc2 : w2.cell? ⟨w.heap.size + 1, 2, none⟩ = some (.slice ma S.made.length mc) := (cell_blk s2.out 2).trans rfl
  have sc3 : w2.cell? ⟨w.heap.size + 1, 3, none⟩ = some (.slice va S.valid.length vc) := (cell_blk s2.out 3).trans rfl
  have sl := blk_lt s2.out
  have rc0 : w2.cell? ⟨w.heap.size + 1 + 1, 0, none⟩ = some (.int .i64 5) := (cell_blk r2.out 0).trans rfl
  have rc1 : w2.cell? ⟨w.heap.size + 1 + 1, 1, none⟩ = some (.int .i64 R.port) := (cell_blk r2.out 1).trans rfl
  have rc2 : w2.cell? ⟨w.heap.size + 1 + 1, 2, none⟩ = some (.int .u64 R.addr) := (cell_blk r2.out 2).trans rfl
  have rc3 : w2.cell? ⟨w.heap.size + 1 + 1, 3, none⟩ = some (.slice da R.data.length dc) := (cell_blk r2.out 3).trans rfl
  have rl := blk_lt r2.out
  have e0 : w2.cell? ⟨g, o + k0 * 7, none⟩ = some (.int .i64 x.kind) := (HB2.out.cell (p := ⟨g, o + k0 * 7, none⟩) hg).trans (HK.out 0 (by omega))
  have e3 : w2.cell? ⟨g, o + k0 * 7 + 3, none⟩ = some (.int .i64 x.words) := (HB2.out.cell (p := ⟨g, o + k0 * 7 + 3, none⟩) hg).trans (HK.out 3 (by omega))
  go_wp2
  go_ret
  exact ⟨rfl, HB2.out⟩

set_option maxRecDepth 100000 in
set_option maxHeartbeats 8000000 in
theorem talk_5nil (cv sv rv : Value) (C : Cfg) (S : Std) (R : Rqt) (hsm : C.small) (hm : S.made.length ≤ 100) (hd : R.data.length ≤ 100) (ho : R.op = 5) (k0 : Nat) (hk0 : k0 < C.chans.length) (pp : Int) (src : Bool) (hpv : portV C R.port = ⟨k0, pp, src, true⟩) (x : Chn) (hx : C.chans[k0] = x) (hp : pp = S.part) (hmd : S.made.contains R.port = true) (hn : S.normal = true) (hk : x.kind = 2) (hsr : src = true) (hl : R.data.length = 0) (w : World) (hc : CfgAt w cv C) (hs : StdAt w sv S) (hr : RqtAt w rv R) : Calls Tryd.prog 33 #[cv, sv, rv] w fun e w' => e = .returned (.int .i64 (3)) ∧ Below w.heap.size w w' := by
  have HPV := Kp.mk hpv
  have hne : (pp != S.part) = false := by simpa using hp
  have HMD := Kp.mk hmd
  clear hpv hp hmd
  have hkb : (x.kind != 2) = false := by simpa using hk
  subst hsr
  clear hk
  have hl0 : ((R.data.length : Int) == 0) = true := by rw [beq_iff_eq]; omega
  clear hl
  have HST := Kp.mk hs
  have HC := Kp.mk hc
  have HS := Kp.mk hs
  have HR := Kp.mk hr
  obtain ⟨_, pa, pc, ca, cc, a0, c0, a1, c1, rfl, bp, bc, b0, b1, gp, gc, gw0, gw1⟩ := hc
  obtain ⟨_, ma, mc, va, vc, rfl, bm, bv, gm, gv⟩ := hs
  obtain ⟨ir, da, dc, rfl, bd, gd⟩ := hr
  clear gp gw0 gw1 gm gv gd bp b0 b1
  clear HST
  rw [hn] at HS ⊢
  clear hn
  rw [ho] at HR ⊢
  clear ho
  obtain ⟨g, o, rfl, hg, hcc⟩ := gc.at (by omega)
  have HK : Kp (∀ j, j < 7 → w.cell? ⟨g, o + k0 * 7 + j, none⟩ = (chanC x)[j]?) := ⟨fun j hj => by
    have h1 := hcc (k0 * 7 + j) (by omega)
    rw [flat_at chanC 7 chanC_len C.chans k0 j hk0 hj, hx] at h1
    rw [Nat.add_assoc]
    exact h1⟩
  have hki : (k0 : Int) < (C.chans.length : Int) := by omega
  have hkn := nat_nn k0
  clear hcc hx
  go_enter Tryd.func33, Tryd.ntmps33
  have HB0 : Kp (Below w.heap.size w w) := ⟨Below.refl _ _⟩
  go_wp2_with fail
  refine (rport_any _ C hsm R.port _ (HC.out.below (below_al (below_al (below_al HB0.out _) _) _))).mono ?_
  rw [HPV.out]
  rintro e w1 ⟨rfl, hb⟩
  have q1 : Kp (w1.heap[w.heap.size]? = some (.cells #[.slice pa C.parts.length pc, .slice (some ⟨g, o, none⟩) C.chans.length cc, .int .i64 C.l0, .slice a0 C.w0.length c0, .int .i64 C.l1, .slice a1 C.w1.length c1] 29 (0, 0))) := ⟨blk_below (blk_al (blk_al (blk_new _ _) _) _) hb⟩
  have s1 : Kp (w1.heap[w.heap.size + 1]? = some (.cells #[.int .i64 S.part, .bool true, .slice ma S.made.length mc, .slice va S.valid.length vc] 40 (0, 0))) := ⟨blk_below (blk_al (blk_at (w := (w.alloc (.cells #[.slice pa C.parts.length pc, .slice (some ⟨g, o, none⟩) C.chans.length cc, .int .i64 C.l0, .slice a0 C.w0.length c0, .int .i64 C.l1, .slice a1 C.w1.length c1] 29))) (by simp) _) _) hb⟩
  have r1 : Kp (w1.heap[w.heap.size + 1 + 1]? = some (.cells #[.int .i64 5, .int .i64 R.port, .int .u64 R.addr, .slice da R.data.length dc] 44 (0, 0))) := ⟨blk_below (blk_at (w := ((w.alloc (.cells #[.slice pa C.parts.length pc, .slice (some ⟨g, o, none⟩) C.chans.length cc, .int .i64 C.l0, .slice a0 C.w0.length c0, .int .i64 C.l1, .slice a1 C.w1.length c1] 29)).alloc (.cells #[.int .i64 S.part, .bool true, .slice ma S.made.length mc, .slice va S.valid.length vc] 40))) (by simp) _) hb⟩
  have HB1 : Kp (Below w.heap.size w w1) := ⟨below_call (below_al (below_al (below_al HB0.out _) _) _) hb⟩
  clear HB0 hb
  have qc0 : w1.cell? ⟨w.heap.size, 0, none⟩ = some (.slice pa C.parts.length pc) := (cell_blk q1.out 0).trans rfl
  have qc1 : w1.cell? ⟨w.heap.size, 1, none⟩ = some (.slice (some ⟨g, o, none⟩) C.chans.length cc) := (cell_blk q1.out 1).trans rfl
  have qc2 : w1.cell? ⟨w.heap.size, 2, none⟩ = some (.int .i64 C.l0) := (cell_blk q1.out 2).trans rfl
  have qc3 : w1.cell? ⟨w.heap.size, 3, none⟩ = some (.slice a0 C.w0.length c0) := (cell_blk q1.out 3).trans rfl
  have qc4 : w1.cell? ⟨w.heap.size, 4, none⟩ = some (.int .i64 C.l1) := (cell_blk q1.out 4).trans rfl
  have qc5 : w1.cell? ⟨w.heap.size, 5, none⟩ = some (.slice a1 C.w1.length c1) := (cell_blk q1.out 5).trans rfl
  have ql := blk_lt q1.out
  have sc0 : w1.cell? ⟨w.heap.size + 1, 0, none⟩ = some (.int .i64 S.part) := (cell_blk s1.out 0).trans rfl
  have sc1 : w1.cell? ⟨w.heap.size + 1, 1, none⟩ = some (.bool true) := (cell_blk s1.out 1).trans rfl
  have sc2 : w1.cell? ⟨w.heap.size + 1, 2, none⟩ = some (.slice ma S.made.length mc) := (cell_blk s1.out 2).trans rfl
  have sc3 : w1.cell? ⟨w.heap.size + 1, 3, none⟩ = some (.slice va S.valid.length vc) := (cell_blk s1.out 3).trans rfl
  have sl := blk_lt s1.out
  have rc0 : w1.cell? ⟨w.heap.size + 1 + 1, 0, none⟩ = some (.int .i64 5) := (cell_blk r1.out 0).trans rfl
  have rc1 : w1.cell? ⟨w.heap.size + 1 + 1, 1, none⟩ = some (.int .i64 R.port) := (cell_blk r1.out 1).trans rfl
  have rc2 : w1.cell? ⟨w.heap.size + 1 + 1, 2, none⟩ = some (.int .u64 R.addr) := (cell_blk r1.out 2).trans rfl
  have rc3 : w1.cell? ⟨w.heap.size + 1 + 1, 3, none⟩ = some (.slice da R.data.length dc) := (cell_blk r1.out 3).trans rfl
  have rl := blk_lt r1.out
  go_wp2_with fail
  refine (rmade_any _ S R.port hm _ (HS.out.below (below_al HB1.out _))).mono ?_
  rw [HMD.out]
  rintro e w2 ⟨rfl, hb⟩
  have x2 : Kp (w2.heap[w1.heap.size]? = some (.cells #[.int .i64 (k0 : Int), .int .i64 pp, .bool true, .bool true] 35 (0, 0))) := ⟨blk_below (blk_new _ _) hb⟩
  have q2 : Kp (w2.heap[w.heap.size]? = some (.cells #[.slice pa C.parts.length pc, .slice (some ⟨g, o, none⟩) C.chans.length cc, .int .i64 C.l0, .slice a0 C.w0.length c0, .int .i64 C.l1, .slice a1 C.w1.length c1] 29 (0, 0))) := ⟨blk_below (blk_al q1.out _) hb⟩
  have s2 : Kp (w2.heap[w.heap.size + 1]? = some (.cells #[.int .i64 S.part, .bool true, .slice ma S.made.length mc, .slice va S.valid.length vc] 40 (0, 0))) := ⟨blk_below (blk_al s1.out _) hb⟩
  have r2 : Kp (w2.heap[w.heap.size + 1 + 1]? = some (.cells #[.int .i64 5, .int .i64 R.port, .int .u64 R.addr, .slice da R.data.length dc] 44 (0, 0))) := ⟨blk_below (blk_al r1.out _) hb⟩
  have HB2 : Kp (Below w.heap.size w w2) := ⟨below_call (below_al HB1.out _) hb⟩
  clear qc0 qc1 qc2 qc3 qc4 qc5 ql sc0 sc1 sc2 sc3 sl rc0 rc1 rc2 rc3 rl q1 s1 r1 HB1 hb
  have xc0 : w2.cell? ⟨w1.heap.size, 0, none⟩ = some (.int .i64 (k0 : Int)) := (cell_blk x2.out 0).trans rfl
  have xc1 : w2.cell? ⟨w1.heap.size, 1, none⟩ = some (.int .i64 pp) := (cell_blk x2.out 1).trans rfl
  have xc2 : w2.cell? ⟨w1.heap.size, 2, none⟩ = some (.bool true) := (cell_blk x2.out 2).trans rfl
  have xc3 : w2.cell? ⟨w1.heap.size, 3, none⟩ = some (.bool true) := (cell_blk x2.out 3).trans rfl
  have xl := blk_lt x2.out
  have qc0 : w2.cell? ⟨w.heap.size, 0, none⟩ = some (.slice pa C.parts.length pc) := (cell_blk q2.out 0).trans rfl
  have qc1 : w2.cell? ⟨w.heap.size, 1, none⟩ = some (.slice (some ⟨g, o, none⟩) C.chans.length cc) := (cell_blk q2.out 1).trans rfl
  have qc2 : w2.cell? ⟨w.heap.size, 2, none⟩ = some (.int .i64 C.l0) := (cell_blk q2.out 2).trans rfl
  have qc3 : w2.cell? ⟨w.heap.size, 3, none⟩ = some (.slice a0 C.w0.length c0) := (cell_blk q2.out 3).trans rfl
  have qc4 : w2.cell? ⟨w.heap.size, 4, none⟩ = some (.int .i64 C.l1) := (cell_blk q2.out 4).trans rfl
  have qc5 : w2.cell? ⟨w.heap.size, 5, none⟩ = some (.slice a1 C.w1.length c1) := (cell_blk q2.out 5).trans rfl
  have ql := blk_lt q2.out
  have sc0 : w2.cell? ⟨w.heap.size + 1, 0, none⟩ = some (.int .i64 S.part) := (cell_blk s2.out 0).trans rfl
  have sc1 : w2.cell? ⟨w.heap.size + 1, 1, none⟩ = some (.bool true) := (cell_blk s2.out 1).trans rfl
  have sc2 : w2.cell? ⟨w.heap.size + 1, 2, none⟩ = some (.slice ma S.made.length mc) := (cell_blk s2.out 2).trans rfl
  have sc3 : w2.cell? ⟨w.heap.size + 1, 3, none⟩ = some (.slice va S.valid.length vc) := (cell_blk s2.out 3).trans rfl
  have sl := blk_lt s2.out
  have rc0 : w2.cell? ⟨w.heap.size + 1 + 1, 0, none⟩ = some (.int .i64 5) := (cell_blk r2.out 0).trans rfl
  have rc1 : w2.cell? ⟨w.heap.size + 1 + 1, 1, none⟩ = some (.int .i64 R.port) := (cell_blk r2.out 1).trans rfl
  have rc2 : w2.cell? ⟨w.heap.size + 1 + 1, 2, none⟩ = some (.int .u64 R.addr) := (cell_blk r2.out 2).trans rfl
  have rc3 : w2.cell? ⟨w.heap.size + 1 + 1, 3, none⟩ = some (.slice da R.data.length dc) := (cell_blk r2.out 3).trans rfl
  have rl := blk_lt r2.out
  have e0 : w2.cell? ⟨g, o + k0 * 7, none⟩ = some (.int .i64 x.kind) := (HB2.out.cell (p := ⟨g, o + k0 * 7, none⟩) hg).trans (HK.out 0 (by omega))
  have e3 : w2.cell? ⟨g, o + k0 * 7 + 3, none⟩ = some (.int .i64 x.words) := (HB2.out.cell (p := ⟨g, o + k0 * 7 + 3, none⟩) hg).trans (HK.out 3 (by omega))
  go_wp2
  go_ret
  exact ⟨rfl, HB2.out⟩

set_option maxRecDepth 100000 in
set_option maxHeartbeats 8000000 in
theorem talk_5big (cv sv rv : Value) (C : Cfg) (S : Std) (R : Rqt) (hsm : C.small) (hm : S.made.length ≤ 100) (hd : R.data.length ≤ 100) (ho : R.op = 5) (k0 : Nat) (hk0 : k0 < C.chans.length) (pp : Int) (src : Bool) (hpv : portV C R.port = ⟨k0, pp, src, true⟩) (x : Chn) (hx : C.chans[k0] = x) (hp : pp = S.part) (hmd : S.made.contains R.port = true) (hn : S.normal = true) (hk : x.kind = 2) (hsr : src = true) (hl : R.data.length ≠ 0) (hw : x.words < (R.data.length : Int)) (w : World) (hc : CfgAt w cv C) (hs : StdAt w sv S) (hr : RqtAt w rv R) : Calls Tryd.prog 33 #[cv, sv, rv] w fun e w' => e = .returned (.int .i64 (4)) ∧ Below w.heap.size w w' := by
  have HPV := Kp.mk hpv
  have hne : (pp != S.part) = false := by simpa using hp
  have HMD := Kp.mk hmd
  clear hpv hp hmd
  have hkb : (x.kind != 2) = false := by simpa using hk
  subst hsr
  clear hk
  have hl0 : ((R.data.length : Int) == 0) = false := by rw [beq_eq_false_iff_ne]; omega
  clear hl
  have HST := Kp.mk hs
  have HC := Kp.mk hc
  have HS := Kp.mk hs
  have HR := Kp.mk hr
  obtain ⟨_, pa, pc, ca, cc, a0, c0, a1, c1, rfl, bp, bc, b0, b1, gp, gc, gw0, gw1⟩ := hc
  obtain ⟨_, ma, mc, va, vc, rfl, bm, bv, gm, gv⟩ := hs
  obtain ⟨ir, da, dc, rfl, bd, gd⟩ := hr
  clear gp gw0 gw1 gm gv gd bp b0 b1
  clear HST
  rw [hn] at HS ⊢
  clear hn
  rw [ho] at HR ⊢
  clear ho
  obtain ⟨g, o, rfl, hg, hcc⟩ := gc.at (by omega)
  have HK : Kp (∀ j, j < 7 → w.cell? ⟨g, o + k0 * 7 + j, none⟩ = (chanC x)[j]?) := ⟨fun j hj => by
    have h1 := hcc (k0 * 7 + j) (by omega)
    rw [flat_at chanC 7 chanC_len C.chans k0 j hk0 hj, hx] at h1
    rw [Nat.add_assoc]
    exact h1⟩
  have hki : (k0 : Int) < (C.chans.length : Int) := by omega
  have hkn := nat_nn k0
  clear hcc hx
  go_enter Tryd.func33, Tryd.ntmps33
  have HB0 : Kp (Below w.heap.size w w) := ⟨Below.refl _ _⟩
  go_wp2_with fail
  refine (rport_any _ C hsm R.port _ (HC.out.below (below_al (below_al (below_al HB0.out _) _) _))).mono ?_
  rw [HPV.out]
  rintro e w1 ⟨rfl, hb⟩
  have q1 : Kp (w1.heap[w.heap.size]? = some (.cells #[.slice pa C.parts.length pc, .slice (some ⟨g, o, none⟩) C.chans.length cc, .int .i64 C.l0, .slice a0 C.w0.length c0, .int .i64 C.l1, .slice a1 C.w1.length c1] 29 (0, 0))) := ⟨blk_below (blk_al (blk_al (blk_new _ _) _) _) hb⟩
  have s1 : Kp (w1.heap[w.heap.size + 1]? = some (.cells #[.int .i64 S.part, .bool true, .slice ma S.made.length mc, .slice va S.valid.length vc] 40 (0, 0))) := ⟨blk_below (blk_al (blk_at (w := (w.alloc (.cells #[.slice pa C.parts.length pc, .slice (some ⟨g, o, none⟩) C.chans.length cc, .int .i64 C.l0, .slice a0 C.w0.length c0, .int .i64 C.l1, .slice a1 C.w1.length c1] 29))) (by simp) _) _) hb⟩
  have r1 : Kp (w1.heap[w.heap.size + 1 + 1]? = some (.cells #[.int .i64 5, .int .i64 R.port, .int .u64 R.addr, .slice da R.data.length dc] 44 (0, 0))) := ⟨blk_below (blk_at (w := ((w.alloc (.cells #[.slice pa C.parts.length pc, .slice (some ⟨g, o, none⟩) C.chans.length cc, .int .i64 C.l0, .slice a0 C.w0.length c0, .int .i64 C.l1, .slice a1 C.w1.length c1] 29)).alloc (.cells #[.int .i64 S.part, .bool true, .slice ma S.made.length mc, .slice va S.valid.length vc] 40))) (by simp) _) hb⟩
  have HB1 : Kp (Below w.heap.size w w1) := ⟨below_call (below_al (below_al (below_al HB0.out _) _) _) hb⟩
  clear HB0 hb
  have qc0 : w1.cell? ⟨w.heap.size, 0, none⟩ = some (.slice pa C.parts.length pc) := (cell_blk q1.out 0).trans rfl
  have qc1 : w1.cell? ⟨w.heap.size, 1, none⟩ = some (.slice (some ⟨g, o, none⟩) C.chans.length cc) := (cell_blk q1.out 1).trans rfl
  have qc2 : w1.cell? ⟨w.heap.size, 2, none⟩ = some (.int .i64 C.l0) := (cell_blk q1.out 2).trans rfl
  have qc3 : w1.cell? ⟨w.heap.size, 3, none⟩ = some (.slice a0 C.w0.length c0) := (cell_blk q1.out 3).trans rfl
  have qc4 : w1.cell? ⟨w.heap.size, 4, none⟩ = some (.int .i64 C.l1) := (cell_blk q1.out 4).trans rfl
  have qc5 : w1.cell? ⟨w.heap.size, 5, none⟩ = some (.slice a1 C.w1.length c1) := (cell_blk q1.out 5).trans rfl
  have ql := blk_lt q1.out
  have sc0 : w1.cell? ⟨w.heap.size + 1, 0, none⟩ = some (.int .i64 S.part) := (cell_blk s1.out 0).trans rfl
  have sc1 : w1.cell? ⟨w.heap.size + 1, 1, none⟩ = some (.bool true) := (cell_blk s1.out 1).trans rfl
  have sc2 : w1.cell? ⟨w.heap.size + 1, 2, none⟩ = some (.slice ma S.made.length mc) := (cell_blk s1.out 2).trans rfl
  have sc3 : w1.cell? ⟨w.heap.size + 1, 3, none⟩ = some (.slice va S.valid.length vc) := (cell_blk s1.out 3).trans rfl
  have sl := blk_lt s1.out
  have rc0 : w1.cell? ⟨w.heap.size + 1 + 1, 0, none⟩ = some (.int .i64 5) := (cell_blk r1.out 0).trans rfl
  have rc1 : w1.cell? ⟨w.heap.size + 1 + 1, 1, none⟩ = some (.int .i64 R.port) := (cell_blk r1.out 1).trans rfl
  have rc2 : w1.cell? ⟨w.heap.size + 1 + 1, 2, none⟩ = some (.int .u64 R.addr) := (cell_blk r1.out 2).trans rfl
  have rc3 : w1.cell? ⟨w.heap.size + 1 + 1, 3, none⟩ = some (.slice da R.data.length dc) := (cell_blk r1.out 3).trans rfl
  have rl := blk_lt r1.out
  go_wp2_with fail
  refine (rmade_any _ S R.port hm _ (HS.out.below (below_al HB1.out _))).mono ?_
  rw [HMD.out]
  rintro e w2 ⟨rfl, hb⟩
  have x2 : Kp (w2.heap[w1.heap.size]? = some (.cells #[.int .i64 (k0 : Int), .int .i64 pp, .bool true, .bool true] 35 (0, 0))) := ⟨blk_below (blk_new _ _) hb⟩
  have q2 : Kp (w2.heap[w.heap.size]? = some (.cells #[.slice pa C.parts.length pc, .slice (some ⟨g, o, none⟩) C.chans.length cc, .int .i64 C.l0, .slice a0 C.w0.length c0, .int .i64 C.l1, .slice a1 C.w1.length c1] 29 (0, 0))) := ⟨blk_below (blk_al q1.out _) hb⟩
  have s2 : Kp (w2.heap[w.heap.size + 1]? = some (.cells #[.int .i64 S.part, .bool true, .slice ma S.made.length mc, .slice va S.valid.length vc] 40 (0, 0))) := ⟨blk_below (blk_al s1.out _) hb⟩
  have r2 : Kp (w2.heap[w.heap.size + 1 + 1]? = some (.cells #[.int .i64 5, .int .i64 R.port, .int .u64 R.addr, .slice da R.data.length dc] 44 (0, 0))) := ⟨blk_below (blk_al r1.out _) hb⟩
  have HB2 : Kp (Below w.heap.size w w2) := ⟨below_call (below_al HB1.out _) hb⟩
  clear qc0 qc1 qc2 qc3 qc4 qc5 ql sc0 sc1 sc2 sc3 sl rc0 rc1 rc2 rc3 rl q1 s1 r1 HB1 hb
  have xc0 : w2.cell? ⟨w1.heap.size, 0, none⟩ = some (.int .i64 (k0 : Int)) := (cell_blk x2.out 0).trans rfl
  have xc1 : w2.cell? ⟨w1.heap.size, 1, none⟩ = some (.int .i64 pp) := (cell_blk x2.out 1).trans rfl
  have xc2 : w2.cell? ⟨w1.heap.size, 2, none⟩ = some (.bool true) := (cell_blk x2.out 2).trans rfl
  have xc3 : w2.cell? ⟨w1.heap.size, 3, none⟩ = some (.bool true) := (cell_blk x2.out 3).trans rfl
  have xl := blk_lt x2.out
  have qc0 : w2.cell? ⟨w.heap.size, 0, none⟩ = some (.slice pa C.parts.length pc) := (cell_blk q2.out 0).trans rfl
  have qc1 : w2.cell? ⟨w.heap.size, 1, none⟩ = some (.slice (some ⟨g, o, none⟩) C.chans.length cc) := (cell_blk q2.out 1).trans rfl
  have qc2 : w2.cell? ⟨w.heap.size, 2, none⟩ = some (.int .i64 C.l0) := (cell_blk q2.out 2).trans rfl
  have qc3 : w2.cell? ⟨w.heap.size, 3, none⟩ = some (.slice a0 C.w0.length c0) := (cell_blk q2.out 3).trans rfl
  have qc4 : w2.cell? ⟨w.heap.size, 4, none⟩ = some (.int .i64 C.l1) := (cell_blk q2.out 4).trans rfl
  have qc5 : w2.cell? ⟨w.heap.size, 5, none⟩ = some (.slice a1 C.w1.length c1) := (cell_blk q2.out 5).trans rfl
  have ql := blk_lt q2.out
  have sc0 : w2.cell? ⟨w.heap.size + 1, 0, none⟩ = some (.int .i64 S.part) := (cell_blk s2.out 0).trans rfl
  have sc1 : w2.cell? ⟨w.heap.size + 1, 1, none⟩ = some (.bool true) := (cell_blk s2.out 1).trans rfl
  have sc2 : w2.cell? ⟨w.heap.size + 1, 2, none⟩ = some (.slice ma S.made.length mc) := (cell_blk s2.out 2).trans rfl
  have sc3 : w2.cell? ⟨w.heap.size + 1, 3, none⟩ = some (.slice va S.valid.length vc) := (cell_blk s2.out 3).trans rfl
  have sl := blk_lt s2.out
  have rc0 : w2.cell? ⟨w.heap.size + 1 + 1, 0, none⟩ = some (.int .i64 5) := (cell_blk r2.out 0).trans rfl
  have rc1 : w2.cell? ⟨w.heap.size + 1 + 1, 1, none⟩ = some (.int .i64 R.port) := (cell_blk r2.out 1).trans rfl
  have rc2 : w2.cell? ⟨w.heap.size + 1 + 1, 2, none⟩ = some (.int .u64 R.addr) := (cell_blk r2.out 2).trans rfl
  have rc3 : w2.cell? ⟨w.heap.size + 1 + 1, 3, none⟩ = some (.slice da R.data.length dc) := (cell_blk r2.out 3).trans rfl
  have rl := blk_lt r2.out
  have e0 : w2.cell? ⟨g, o + k0 * 7, none⟩ = some (.int .i64 x.kind) := (HB2.out.cell (p := ⟨g, o + k0 * 7, none⟩) hg).trans (HK.out 0 (by omega))
  have e3 : w2.cell? ⟨g, o + k0 * 7 + 3, none⟩ = some (.int .i64 x.words) := (HB2.out.cell (p := ⟨g, o + k0 * 7 + 3, none⟩) hg).trans (HK.out 3 (by omega))
  go_wp2_with fail
  go_quiet (fail)
  go_wp2
  go_ret
  exact ⟨rfl, by first | exact below_drN HB2.out | exact HB2.out⟩

set_option maxRecDepth 100000 in
set_option maxHeartbeats 8000000 in
theorem talk_5ok (cv sv rv : Value) (C : Cfg) (S : Std) (R : Rqt) (hsm : C.small) (hm : S.made.length ≤ 100) (hd : R.data.length ≤ 100) (ho : R.op = 5) (k0 : Nat) (hk0 : k0 < C.chans.length) (pp : Int) (src : Bool) (hpv : portV C R.port = ⟨k0, pp, src, true⟩) (x : Chn) (hx : C.chans[k0] = x) (hp : pp = S.part) (hmd : S.made.contains R.port = true) (hn : S.normal = true) (hk : x.kind = 2) (hsr : src = true) (hl : R.data.length ≠ 0) (hw : ¬ x.words < (R.data.length : Int)) (w : World) (hc : CfgAt w cv C) (hs : StdAt w sv S) (hr : RqtAt w rv R) : Calls Tryd.prog 33 #[cv, sv, rv] w fun e w' => e = .returned (.int .i64 (0)) ∧ Below w.heap.size w w' := by
  have HPV := Kp.mk hpv
  have hne : (pp != S.part) = false := by simpa using hp
  have HMD := Kp.mk hmd
  clear hpv hp hmd
  have hkb : (x.kind != 2) = false := by simpa using hk
  subst hsr
  clear hk
  have hl0 : ((R.data.length : Int) == 0) = false := by rw [beq_eq_false_iff_ne]; omega
  clear hl
  have HST := Kp.mk hs
  have HC := Kp.mk hc
  have HS := Kp.mk hs
  have HR := Kp.mk hr
  obtain ⟨_, pa, pc, ca, cc, a0, c0, a1, c1, rfl, bp, bc, b0, b1, gp, gc, gw0, gw1⟩ := hc
  obtain ⟨_, ma, mc, va, vc, rfl, bm, bv, gm, gv⟩ := hs
  obtain ⟨ir, da, dc, rfl, bd, gd⟩ := hr
  clear gp gw0 gw1 gm gv gd bp b0 b1
  clear HST
  rw [hn] at HS ⊢
  clear hn
  rw [ho] at HR ⊢
  clear ho
  obtain ⟨g, o, rfl, hg, hcc⟩ := gc.at (by omega)
  have HK : Kp (∀ j, j < 7 → w.cell? ⟨g, o + k0 * 7 + j, none⟩ = (chanC x)[j]?) := ⟨fun j hj => by
    have h1 := hcc (k0 * 7 + j) (by omega)
    rw [flat_at chanC 7 chanC_len C.chans k0 j hk0 hj, hx] at h1
    rw [Nat.add_assoc]
    exact h1⟩
  have hki : (k0 : Int) < (C.chans.length : Int) := by omega
  have hkn := nat_nn k0
  clear hcc hx
  go_enter Tryd.func33, Tryd.ntmps33
  have HB0 : Kp (Below w.heap.size w w) := ⟨Below.refl _ _⟩
  go_wp2_with fail
  refine (rport_any _ C hsm R.port _ (HC.out.below (below_al (below_al (below_al HB0.out _) _) _))).mono ?_
  rw [HPV.out]
  rintro e w1 ⟨rfl, hb⟩
  have q1 : Kp (w1.heap[w.heap.size]? = some (.cells #[.slice pa C.parts.length pc, .slice (some ⟨g, o, none⟩) C.chans.length cc, .int .i64 C.l0, .slice a0 C.w0.length c0, .int .i64 C.l1, .slice a1 C.w1.length c1] 29 (0, 0))) := ⟨blk_below (blk_al (blk_al (blk_new _ _) _) _) hb⟩
  have s1 : Kp (w1.heap[w.heap.size + 1]? = some (.cells #[.int .i64 S.part, .bool true, .slice ma S.made.length mc, .slice va S.valid.length vc] 40 (0, 0))) := ⟨blk_below (blk_al (blk_at (w := (w.alloc (.cells #[.slice pa C.parts.length pc, .slice (some ⟨g, o, none⟩) C.chans.length cc, .int .i64 C.l0, .slice a0 C.w0.length c0, .int .i64 C.l1, .slice a1 C.w1.length c1] 29))) (by simp) _) _) hb⟩
  have r1 : Kp (w1.heap[w.heap.size + 1 + 1]? = some (.cells #[.int .i64 5, .int .i64 R.port, .int .u64 R.addr, .slice da R.data.length dc] 44 (0, 0))) := ⟨blk_below (blk_at (w := ((w.alloc (.cells #[.slice pa C.parts.length pc, .slice (some ⟨g, o, none⟩) C.chans.length cc, .int .i64 C.l0, .slice a0 C.w0.length c0, .int .i64 C.l1, .slice a1 C.w1.length c1] 29)).alloc (.cells #[.int .i64 S.part, .bool true, .slice ma S.made.length mc, .slice va S.valid.length vc] 40))) (by simp) _) hb⟩
  have HB1 : Kp (Below w.heap.size w w1) := ⟨below_call (below_al (below_al (below_al HB0.out _) _) _) hb⟩
  clear HB0 hb
  have qc0 : w1.cell? ⟨w.heap.size, 0, none⟩ = some (.slice pa C.parts.length pc) := (cell_blk q1.out 0).trans rfl
  have qc1 : w1.cell? ⟨w.heap.size, 1, none⟩ = some (.slice (some ⟨g, o, none⟩) C.chans.length cc) := (cell_blk q1.out 1).trans rfl
  have qc2 : w1.cell? ⟨w.heap.size, 2, none⟩ = some (.int .i64 C.l0) := (cell_blk q1.out 2).trans rfl
  have qc3 : w1.cell? ⟨w.heap.size, 3, none⟩ = some (.slice a0 C.w0.length c0) := (cell_blk q1.out 3).trans rfl
  have qc4 : w1.cell? ⟨w.heap.size, 4, none⟩ = some (.int .i64 C.l1) := (cell_blk q1.out 4).trans rfl
  have qc5 : w1.cell? ⟨w.heap.size, 5, none⟩ = some (.slice a1 C.w1.length c1) := (cell_blk q1.out 5).trans rfl
  have ql := blk_lt q1.out
  have sc0 : w1.cell? ⟨w.heap.size + 1, 0, none⟩ = some (.int .i64 S.part) := (cell_blk s1.out 0).trans rfl
  have sc1 : w1.cell? ⟨w.heap.size + 1, 1, none⟩ = some (.bool true) := (cell_blk s1.out 1).trans rfl
  have sc2 : w1.cell? ⟨w.heap.size + 1, 2, none⟩ = some (.slice ma S.made.length mc) := (cell_blk s1.out 2).trans rfl
  have sc3 : w1.cell? ⟨w.heap.size + 1, 3, none⟩ = some (.slice va S.valid.length vc) := (cell_blk s1.out 3).trans rfl
  have sl := blk_lt s1.out
  have rc0 : w1.cell? ⟨w.heap.size + 1 + 1, 0, none⟩ = some (.int .i64 5) := (cell_blk r1.out 0).trans rfl
  have rc1 : w1.cell? ⟨w.heap.size + 1 + 1, 1, none⟩ = some (.int .i64 R.port) := (cell_blk r1.out 1).trans rfl
  have rc2 : w1.cell? ⟨w.heap.size + 1 + 1, 2, none⟩ = some (.int .u64 R.addr) := (cell_blk r1.out 2).trans rfl
  have rc3 : w1.cell? ⟨w.heap.size + 1 + 1, 3, none⟩ = some (.slice da R.data.length dc) := (cell_blk r1.out 3).trans rfl
  have rl := blk_lt r1.out
  go_wp2_with fail
  refine (rmade_any _ S R.port hm _ (HS.out.below (below_al HB1.out _))).mono ?_
  rw [HMD.out]
  rintro e w2 ⟨rfl, hb⟩
  have x2 : Kp (w2.heap[w1.heap.size]? = some (.cells #[.int .i64 (k0 : Int), .int .i64 pp, .bool true, .bool true] 35 (0, 0))) := ⟨blk_below (blk_new _ _) hb⟩
  have q2 : Kp (w2.heap[w.heap.size]? = some (.cells #[.slice pa C.parts.length pc, .slice (some ⟨g, o, none⟩) C.chans.length cc, .int .i64 C.l0, .slice a0 C.w0.length c0, .int .i64 C.l1, .slice a1 C.w1.length c1] 29 (0, 0))) := ⟨blk_below (blk_al q1.out _) hb⟩
  have s2 : Kp (w2.heap[w.heap.size + 1]? = some (.cells #[.int .i64 S.part, .bool true, .slice ma S.made.length mc, .slice va S.valid.length vc] 40 (0, 0))) := ⟨blk_below (blk_al s1.out _) hb⟩
  have r2 : Kp (w2.heap[w.heap.size + 1 + 1]? = some (.cells #[.int .i64 5, .int .i64 R.port, .int .u64 R.addr, .slice da R.data.length dc] 44 (0, 0))) := ⟨blk_below (blk_al r1.out _) hb⟩
  have HB2 : Kp (Below w.heap.size w w2) := ⟨below_call (below_al HB1.out _) hb⟩
  clear qc0 qc1 qc2 qc3 qc4 qc5 ql sc0 sc1 sc2 sc3 sl rc0 rc1 rc2 rc3 rl q1 s1 r1 HB1 hb
  have xc0 : w2.cell? ⟨w1.heap.size, 0, none⟩ = some (.int .i64 (k0 : Int)) := (cell_blk x2.out 0).trans rfl
  have xc1 : w2.cell? ⟨w1.heap.size, 1, none⟩ = some (.int .i64 pp) := (cell_blk x2.out 1).trans rfl
  have xc2 : w2.cell? ⟨w1.heap.size, 2, none⟩ = some (.bool true) := (cell_blk x2.out 2).trans rfl
  have xc3 : w2.cell? ⟨w1.heap.size, 3, none⟩ = some (.bool true) := (cell_blk x2.out 3).trans rfl
  have xl := blk_lt x2.out
  have qc0 : w2.cell? ⟨w.heap.size, 0, none⟩ = some (.slice pa C.parts.length pc) := (cell_blk q2.out 0).trans rfl
  have qc1 : w2.cell? ⟨w.heap.size, 1, none⟩ = some (.slice (some ⟨g, o, none⟩) C.chans.length cc) := (cell_blk q2.out 1).trans rfl
  have qc2 : w2.cell? ⟨w.heap.size, 2, none⟩ = some (.int .i64 C.l0) := (cell_blk q2.out 2).trans rfl
  have qc3 : w2.cell? ⟨w.heap.size, 3, none⟩ = some (.slice a0 C.w0.length c0) := (cell_blk q2.out 3).trans rfl
  have qc4 : w2.cell? ⟨w.heap.size, 4, none⟩ = some (.int .i64 C.l1) := (cell_blk q2.out 4).trans rfl
  have qc5 : w2.cell? ⟨w.heap.size, 5, none⟩ = some (.slice a1 C.w1.length c1) := (cell_blk q2.out 5).trans rfl
  have ql := blk_lt q2.out
  have sc0 : w2.cell? ⟨w.heap.size + 1, 0, none⟩ = some (.int .i64 S.part) := (cell_blk s2.out 0).trans rfl
  have sc1 : w2.cell? ⟨w.heap.size + 1, 1, none⟩ = some (.bool true) := (cell_blk s2.out 1).trans rfl
  have sc2 : w2.cell? ⟨w.heap.size + 1, 2, none⟩ = some (.slice ma S.made.length mc) := (cell_blk s2.out 2).trans rfl
  have sc3 : w2.cell? ⟨w.heap.size + 1, 3, none⟩ = some (.slice va S.valid.length vc) := (cell_blk s2.out 3).trans rfl
  have sl := blk_lt s2.out
  have rc0 : w2.cell? ⟨w.heap.size + 1 + 1, 0, none⟩ = some (.int .i64 5) := (cell_blk r2.out 0).trans rfl
  have rc1 : w2.cell? ⟨w.heap.size + 1 + 1, 1, none⟩ = some (.int .i64 R.port) := (cell_blk r2.out 1).trans rfl
  have rc2 : w2.cell? ⟨w.heap.size + 1 + 1, 2, none⟩ = some (.int .u64 R.addr) := (cell_blk r2.out 2).trans rfl
  have rc3 : w2.cell? ⟨w.heap.size + 1 + 1, 3, none⟩ = some (.slice da R.data.length dc) := (cell_blk r2.out 3).trans rfl
  have rl := blk_lt r2.out
  have e0 : w2.cell? ⟨g, o + k0 * 7, none⟩ = some (.int .i64 x.kind) := (HB2.out.cell (p := ⟨g, o + k0 * 7, none⟩) hg).trans (HK.out 0 (by omega))
  have e3 : w2.cell? ⟨g, o + k0 * 7 + 3, none⟩ = some (.int .i64 x.words) := (HB2.out.cell (p := ⟨g, o + k0 * 7 + 3, none⟩) hg).trans (HK.out 3 (by omega))
  go_wp2_with fail
  go_quiet (fail)
  go_wp2
  go_ret
  exact ⟨rfl, by first | exact below_drN HB2.out | exact HB2.out⟩

set_option maxRecDepth 100000 in
set_option maxHeartbeats 8000000 in
theorem talk_6kind (cv sv rv : Value) (C : Cfg) (S : Std) (R : Rqt) (hsm : C.small) (hm : S.made.length ≤ 100) (hd : R.data.length ≤ 100) (ho : R.op = 6) (k0 : Nat) (hk0 : k0 < C.chans.length) (pp : Int) (src : Bool) (hpv : portV C R.port = ⟨k0, pp, src, true⟩) (x : Chn) (hx : C.chans[k0] = x) (hp : pp = S.part) (hmd : S.made.contains R.port = true) (hn : S.normal = true) (hk : ¬ x.kind = 2) (w : World) (hc : CfgAt w cv C) (hs : StdAt w sv S) (hr : RqtAt w rv R) : Calls Tryd.prog 33 #[cv, sv, rv] w fun e w' => e = .returned (.int .i64 (5)) ∧ Below w.heap.size w w' := by
  have HPV := Kp.mk hpv
  have hne : (pp != S.part) = false := by simpa using hp
  have HMD := Kp.mk hmd
  clear hpv hp hmd
  have hkb : (x.kind != 2) = true := by simpa using hk
  clear hk
  have HST := Kp.mk hs
  have HC := Kp.mk hc
  have HS := Kp.mk hs
  have HR := Kp.mk hr
  obtain ⟨_, pa, pc, ca, cc, a0, c0, a1, c1, rfl, bp, bc, b0, b1, gp, gc, gw0, gw1⟩ := hc
  obtain ⟨_, ma, mc, va, vc, rfl, bm, bv, gm, gv⟩ := hs
  obtain ⟨ir, da, dc, rfl, bd, gd⟩ := hr
  clear gp gw0 gw1 gm gv gd bp b0 b1
  clear HST
  rw [hn] at HS ⊢
  clear hn
  rw [ho] at HR ⊢
  clear ho
  obtain ⟨g, o, rfl, hg, hcc⟩ := gc.at (by omega)
  have HK : Kp (∀ j, j < 7 → w.cell? ⟨g, o + k0 * 7 + j, none⟩ = (chanC x)[j]?) := ⟨fun j hj => by
    have h1 := hcc (k0 * 7 + j) (by omega)
    rw [flat_at chanC 7 chanC_len C.chans k0 j hk0 hj, hx] at h1
    rw [Nat.add_assoc]
    exact h1⟩
  have hki : (k0 : Int) < (C.chans.length : Int) := by omega
  have hkn := nat_nn k0
  clear hcc hx
  go_enter Tryd.func33, Tryd.ntmps33
  have HB0 : Kp (Below w.heap.size w w) := ⟨Below.refl _ _⟩
  go_wp2_with fail
  refine (rport_any _ C hsm R.port _ (HC.out.below (below_al (below_al (below_al HB0.out _) _) _))).mono ?_
  rw [HPV.out]
  rintro e w1 ⟨rfl, hb⟩
  have q1 : Kp (w1.heap[w.heap.size]? = some (.cells #[.slice pa C.parts.length pc, .slice (some ⟨g, o, none⟩) C.chans.length cc, .int .i64 C.l0, .slice a0 C.w0.length c0, .int .i64 C.l1, .slice a1 C.w1.length c1] 29 (0, 0))) := ⟨blk_below (blk_al (blk_al (blk_new _ _) _) _) hb⟩
  have s1 : Kp (w1.heap[w.heap.size + 1]? = some (.cells #[.int .i64 S.part, .bool true, .slice ma S.made.length mc, .slice va S.valid.length vc] 40 (0, 0))) := ⟨blk_below (blk_al (blk_at (w := (w.alloc (.cells #[.slice pa C.parts.length pc, .slice (some ⟨g, o, none⟩) C.chans.length cc, .int .i64 C.l0, .slice a0 C.w0.length c0, .int .i64 C.l1, .slice a1 C.w1.length c1] 29))) (by simp) _) _) hb⟩
  have r1 : Kp (w1.heap[w.heap.size + 1 + 1]? = some (.cells #[.int .i64 6, .int .i64 R.port, .int .u64 R.addr, .slice da R.data.length dc] 44 (0, 0))) := ⟨blk_below (blk_at (w := ((w.alloc (.cells #[.slice pa C.parts.length pc, .slice (some ⟨g, o, none⟩) C.chans.length cc, .int .i64 C.l0, .slice a0 C.w0.length c0, .int .i64 C.l1, .slice a1 C.w1.length c1] 29)).alloc (.cells #[.int .i64 S.part, .bool true, .slice ma S.made.length mc, .slice va S.valid.length vc] 40))) (by simp) _) hb⟩
  have HB1 : Kp (Below w.heap.size w w1) := ⟨below_call (below_al (below_al (below_al HB0.out _) _) _) hb⟩
  clear HB0 hb
  have qc0 : w1.cell? ⟨w.heap.size, 0, none⟩ = some (.slice pa C.parts.length pc) := (cell_blk q1.out 0).trans rfl
  have qc1 : w1.cell? ⟨w.heap.size, 1, none⟩ = some (.slice (some ⟨g, o, none⟩) C.chans.length cc) := (cell_blk q1.out 1).trans rfl
  have qc2 : w1.cell? ⟨w.heap.size, 2, none⟩ = some (.int .i64 C.l0) := (cell_blk q1.out 2).trans rfl
  have qc3 : w1.cell? ⟨w.heap.size, 3, none⟩ = some (.slice a0 C.w0.length c0) := (cell_blk q1.out 3).trans rfl
  have qc4 : w1.cell? ⟨w.heap.size, 4, none⟩ = some (.int .i64 C.l1) := (cell_blk q1.out 4).trans rfl
  have qc5 : w1.cell? ⟨w.heap.size, 5, none⟩ = some (.slice a1 C.w1.length c1) := (cell_blk q1.out 5).trans rfl
  have ql := blk_lt q1.out
  have sc0 : w1.cell? ⟨w.heap.size + 1, 0, none⟩ = some (.int .i64 S.part) := (cell_blk s1.out 0).trans rfl
  have sc1 : w1.cell? ⟨w.heap.size + 1, 1, none⟩ = some (.bool true) := (cell_blk s1.out 1).trans rfl
  have sc2 : w1.cell? ⟨w.heap.size + 1, 2, none⟩ = some (.slice ma S.made.length mc) := (cell_blk s1.out 2).trans rfl
  have sc3 : w1.cell? ⟨w.heap.size + 1, 3, none⟩ = some (.slice va S.valid.length vc) := (cell_blk s1.out 3).trans rfl
  have sl := blk_lt s1.out
  have rc0 : w1.cell? ⟨w.heap.size + 1 + 1, 0, none⟩ = some (.int .i64 6) := (cell_blk r1.out 0).trans rfl
  have rc1 : w1.cell? ⟨w.heap.size + 1 + 1, 1, none⟩ = some (.int .i64 R.port) := (cell_blk r1.out 1).trans rfl
  have rc2 : w1.cell? ⟨w.heap.size + 1 + 1, 2, none⟩ = some (.int .u64 R.addr) := (cell_blk r1.out 2).trans rfl
  have rc3 : w1.cell? ⟨w.heap.size + 1 + 1, 3, none⟩ = some (.slice da R.data.length dc) := (cell_blk r1.out 3).trans rfl
  have rl := blk_lt r1.out
  go_wp2_with fail
  refine (rmade_any _ S R.port hm _ (HS.out.below (below_al HB1.out _))).mono ?_
  rw [HMD.out]
  rintro e w2 ⟨rfl, hb⟩
  have x2 : Kp (w2.heap[w1.heap.size]? = some (.cells #[.int .i64 (k0 : Int), .int .i64 pp, .bool src, .bool true] 35 (0, 0))) := ⟨blk_below (blk_new _ _) hb⟩
  have q2 : Kp (w2.heap[w.heap.size]? = some (.cells #[.slice pa C.parts.length pc, .slice (some ⟨g, o, none⟩) C.chans.length cc, .int .i64 C.l0, .slice a0 C.w0.length c0, .int .i64 C.l1, .slice a1 C.w1.length c1] 29 (0, 0))) := ⟨blk_below (blk_al q1.out _) hb⟩
  have s2 : Kp (w2.heap[w.heap.size + 1]? = some (.cells #[.int .i64 S.part, .bool true, .slice ma S.made.length mc, .slice va S.valid.length vc] 40 (0, 0))) := ⟨blk_below (blk_al s1.out _) hb⟩
  have r2 : Kp (w2.heap[w.heap.size + 1 + 1]? = some (.cells #[.int .i64 6, .int .i64 R.port, .int .u64 R.addr, .slice da R.data.length dc] 44 (0, 0))) := ⟨blk_below (blk_al r1.out _) hb⟩
  have HB2 : Kp (Below w.heap.size w w2) := ⟨below_call (below_al HB1.out _) hb⟩
  clear qc0 qc1 qc2 qc3 qc4 qc5 ql sc0 sc1 sc2 sc3 sl rc0 rc1 rc2 rc3 rl q1 s1 r1 HB1 hb
  have xc0 : w2.cell? ⟨w1.heap.size, 0, none⟩ = some (.int .i64 (k0 : Int)) := (cell_blk x2.out 0).trans rfl
  have xc1 : w2.cell? ⟨w1.heap.size, 1, none⟩ = some (.int .i64 pp) := (cell_blk x2.out 1).trans rfl
  have xc2 : w2.cell? ⟨w1.heap.size, 2, none⟩ = some (.bool src) := (cell_blk x2.out 2).trans rfl
  have xc3 : w2.cell? ⟨w1.heap.size, 3, none⟩ = some (.bool true) := (cell_blk x2.out 3).trans rfl
  have xl := blk_lt x2.out
  have qc0 : w2.cell? ⟨w.heap.size, 0, none⟩ = some (.slice pa C.parts.length pc) := (cell_blk q2.out 0).trans rfl
  have qc1 : w2.cell? ⟨w.heap.size, 1, none⟩ = some (.slice (some ⟨g, o, none⟩) C.chans.length cc) := (cell_blk q2.out 1).trans rfl
  have qc2 : w2.cell? ⟨w.heap.size, 2, none⟩ = some (.int .i64 C.l0) := (cell_blk q2.out 2).trans rfl
  have qc3 : w2.cell? ⟨w.heap.size, 3, none⟩ = some (.slice a0 C.w0.length c0) := (cell_blk q2.out 3).trans rfl
  have qc4 : w2.cell? ⟨w.heap.size, 4, none⟩ = some (.int .i64 C.l1) := (cell_blk q2.out 4).trans rfl
  have qc5 : w2.cell? ⟨w.heap.size, 5, none⟩ = some (.slice a1 C.w1.length c1) := (cell_blk q2.out 5).trans rfl
  have ql := blk_lt q2.out
  have sc0 : w2.cell? ⟨w.heap.size + 1, 0, none⟩ = some (.int .i64 S.part) := (cell_blk s2.out 0).trans rfl
  have sc1 : w2.cell? ⟨w.heap.size + 1, 1, none⟩ = some (.bool true) := (cell_blk s2.out 1).trans rfl
  have sc2 : w2.cell? ⟨w.heap.size + 1, 2, none⟩ = some (.slice ma S.made.length mc) := (cell_blk s2.out 2).trans rfl
  have sc3 : w2.cell? ⟨w.heap.size + 1, 3, none⟩ = some (.slice va S.valid.length vc) := (cell_blk s2.out 3).trans rfl
  have sl := blk_lt s2.out
  have rc0 : w2.cell? ⟨w.heap.size + 1 + 1, 0, none⟩ = some (.int .i64 6) := (cell_blk r2.out 0).trans rfl
  have rc1 : w2.cell? ⟨w.heap.size + 1 + 1, 1, none⟩ = some (.int .i64 R.port) := (cell_blk r2.out 1).trans rfl
  have rc2 : w2.cell? ⟨w.heap.size + 1 + 1, 2, none⟩ = some (.int .u64 R.addr) := (cell_blk r2.out 2).trans rfl
  have rc3 : w2.cell? ⟨w.heap.size + 1 + 1, 3, none⟩ = some (.slice da R.data.length dc) := (cell_blk r2.out 3).trans rfl
  have rl := blk_lt r2.out
  have e0 : w2.cell? ⟨g, o + k0 * 7, none⟩ = some (.int .i64 x.kind) := (HB2.out.cell (p := ⟨g, o + k0 * 7, none⟩) hg).trans (HK.out 0 (by omega))
  have e3 : w2.cell? ⟨g, o + k0 * 7 + 3, none⟩ = some (.int .i64 x.words) := (HB2.out.cell (p := ⟨g, o + k0 * 7 + 3, none⟩) hg).trans (HK.out 3 (by omega))
  go_wp2
  go_ret
  exact ⟨rfl, HB2.out⟩

set_option maxRecDepth 100000 in
set_option maxHeartbeats 8000000 in
theorem talk_6src (cv sv rv : Value) (C : Cfg) (S : Std) (R : Rqt) (hsm : C.small) (hm : S.made.length ≤ 100) (hd : R.data.length ≤ 100) (ho : R.op = 6) (k0 : Nat) (hk0 : k0 < C.chans.length) (pp : Int) (src : Bool) (hpv : portV C R.port = ⟨k0, pp, src, true⟩) (x : Chn) (hx : C.chans[k0] = x) (hp : pp = S.part) (hmd : S.made.contains R.port = true) (hn : S.normal = true) (hk : x.kind = 2) (hsr : src = true) (w : World) (hc : CfgAt w cv C) (hs : StdAt w sv S) (hr : RqtAt w rv R) : Calls Tryd.prog 33 #[cv, sv, rv] w fun e w' => e = .returned (.int .i64 (5)) ∧ Below w.heap.size w w' := by
  have HPV := Kp.mk hpv
  have hne : (pp != S.part) = false := by simpa using hp
  have HMD := Kp.mk hmd
  clear hpv hp hmd
  have hkb : (x.kind != 2) = false := by simpa using hk
  subst hsr
  clear hk
  have HST := Kp.mk hs
  have HC := Kp.mk hc
  have HS := Kp.mk hs
  have HR := Kp.mk hr
  obtain ⟨_, pa, pc, ca, cc, a0, c0, a1, c1, rfl, bp, bc, b0, b1, gp, gc, gw0, gw1⟩ := hc
  obtain ⟨_, ma, mc, va, vc, rfl, bm, bv, gm, gv⟩ := hs
  obtain ⟨ir, da, dc, rfl, bd, gd⟩ := hr
  clear gp gw0 gw1 gm gv gd bp b0 b1
  clear HST
  rw [hn] at HS ⊢
  clear hn
  rw [ho] at HR ⊢
  clear ho
  obtain ⟨g, o, rfl, hg, hcc⟩ := gc.at (by omega)
  have HK : Kp (∀ j, j < 7 → w.cell? ⟨g, o + k0 * 7 + j, none⟩ = (chanC x)[j]?) := ⟨fun j hj => by
    have h1 := hcc (k0 * 7 + j) (by omega)
    rw [flat_at chanC 7 chanC_len C.chans k0 j hk0 hj, hx] at h1
    rw [Nat.add_assoc]
    exact h1⟩
  have hki : (k0 : Int) < (C.chans.length : Int) := by omega
  have hkn := nat_nn k0
  clear hcc hx
  go_enter Tryd.func33, Tryd.ntmps33
  have HB0 : Kp (Below w.heap.size w w) := ⟨Below.refl _ _⟩
  go_wp2_with fail
  refine (rport_any _ C hsm R.port _ (HC.out.below (below_al (below_al (below_al HB0.out _) _) _))).mono ?_
  rw [HPV.out]
  rintro e w1 ⟨rfl, hb⟩
  have q1 : Kp (w1.heap[w.heap.size]? = some (.cells #[.slice pa C.parts.length pc, .slice (some ⟨g, o, none⟩) C.chans.length cc, .int .i64 C.l0, .slice a0 C.w0.length c0, .int .i64 C.l1, .slice a1 C.w1.length c1] 29 (0, 0))) := ⟨blk_below (blk_al (blk_al (blk_new _ _) _) _) hb⟩
  have s1 : Kp (w1.heap[w.heap.size + 1]? = some (.cells #[.int .i64 S.part, .bool true, .slice ma S.made.length mc, .slice va S.valid.length vc] 40 (0, 0))) := ⟨blk_below (blk_al (blk_at (w := (w.alloc (.cells #[.slice pa C.parts.length pc, .slice (some ⟨g, o, none⟩) C.chans.length cc, .int .i64 C.l0, .slice a0 C.w0.length c0, .int .i64 C.l1, .slice a1 C.w1.length c1] 29))) (by simp) _) _) hb⟩
  have r1 : Kp (w1.heap[w.heap.size + 1 + 1]? = some (.cells #[.int .i64 6, .int .i64 R.port, .int .u64 R.addr, .slice da R.data.length dc] 44 (0, 0))) := ⟨blk_below (blk_at (w := ((w.alloc (.cells #[.slice pa C.parts.length pc, .slice (some ⟨g, o, none⟩) C.chans.length cc, .int .i64 C.l0, .slice a0 C.w0.length c0, .int .i64 C.l1, .slice a1 C.w1.length c1] 29)).alloc (.cells #[.int .i64 S.part, .bool true, .slice ma S.made.length mc, .slice va S.valid.length vc] 40))) (by simp) _) hb⟩
  have HB1 : Kp (Below w.heap.size w w1) := ⟨below_call (below_al (below_al (below_al HB0.out _) _) _) hb⟩
  clear HB0 hb
  have qc0 : w1.cell? ⟨w.heap.size, 0, none⟩ = some (.slice pa C.parts.length pc) := (cell_blk q1.out 0).trans rfl
  have qc1 : w1.cell? ⟨w.heap.size, 1, none⟩ = some (.slice (some ⟨g, o, none⟩) C.chans.length cc) := (cell_blk q1.out 1).trans rfl
  have qc2 : w1.cell? ⟨w.heap.size, 2, none⟩ = some (.int .i64 C.l0) := (cell_blk q1.out 2).trans rfl
  have qc3 : w1.cell? ⟨w.heap.size, 3, none⟩ = some (.slice a0 C.w0.length c0) := (cell_blk q1.out 3).trans rfl
  have qc4 : w1.cell? ⟨w.heap.size, 4, none⟩ = some (.int .i64 C.l1) := (cell_blk q1.out 4).trans rfl
  have qc5 : w1.cell? ⟨w.heap.size, 5, none⟩ = some (.slice a1 C.w1.length c1) := (cell_blk q1.out 5).trans rfl
  have ql := blk_lt q1.out
  have sc0 : w1.cell? ⟨w.heap.size + 1, 0, none⟩ = some (.int .i64 S.part) := (cell_blk s1.out 0).trans rfl
  have sc1 : w1.cell? ⟨w.heap.size + 1, 1, none⟩ = some (.bool true) := (cell_blk s1.out 1).trans rfl
  have sc2 : w1.cell? ⟨w.heap.size + 1, 2, none⟩ = some (.slice ma S.made.length mc) := (cell_blk s1.out 2).trans rfl
  have sc3 : w1.cell? ⟨w.heap.size + 1, 3, none⟩ = some (.slice va S.valid.length vc) := (cell_blk s1.out 3).trans rfl
  have sl := blk_lt s1.out
  have rc0 : w1.cell? ⟨w.heap.size + 1 + 1, 0, none⟩ = some (.int .i64 6) := (cell_blk r1.out 0).trans rfl
  have rc1 : w1.cell? ⟨w.heap.size + 1 + 1, 1, none⟩ = some (.int .i64 R.port) := (cell_blk r1.out 1).trans rfl
  have rc2 : w1.cell? ⟨w.heap.size + 1 + 1, 2, none⟩ = some (.int .u64 R.addr) := (cell_blk r1.out 2).trans rfl
  have rc3 : w1.cell? ⟨w.heap.size + 1 + 1, 3, none⟩ = some (.slice da R.data.length dc) := (cell_blk r1.out 3).trans rfl
  have rl := blk_lt r1.out
  go_wp2_with fail
  refine (rmade_any _ S R.port hm _ (HS.out.below (below_al HB1.out _))).mono ?_
  rw [HMD.out]
  rintro e w2 ⟨rfl, hb⟩
  have x2 : Kp (w2.heap[w1.heap.size]? = some (.cells #[.int .i64 (k0 : Int), .int .i64 pp, .bool true, .bool true] 35 (0, 0))) := ⟨blk_below (blk_new _ _) hb⟩
  have q2 : Kp (w2.heap[w.heap.size]? = some (.cells #[.slice pa C.parts.length pc, .slice (some ⟨g, o, none⟩) C.chans.length cc, .int .i64 C.l0, .slice a0 C.w0.length c0, .int .i64 C.l1, .slice a1 C.w1.length c1] 29 (0, 0))) := ⟨blk_below (blk_al q1.out _) hb⟩
  have s2 : Kp (w2.heap[w.heap.size + 1]? = some (.cells #[.int .i64 S.part, .bool true, .slice ma S.made.length mc, .slice va S.valid.length vc] 40 (0, 0))) := ⟨blk_below (blk_al s1.out _) hb⟩
  have r2 : Kp (w2.heap[w.heap.size + 1 + 1]? = some (.cells #[.int .i64 6, .int .i64 R.port, .int .u64 R.addr, .slice da R.data.length dc] 44 (0, 0))) := ⟨blk_below (blk_al r1.out _) hb⟩
  have HB2 : Kp (Below w.heap.size w w2) := ⟨below_call (below_al HB1.out _) hb⟩
  clear qc0 qc1 qc2 qc3 qc4 qc5 ql sc0 sc1 sc2 sc3 sl rc0 rc1 rc2 rc3 rl q1 s1 r1 HB1 hb
  have xc0 : w2.cell? ⟨w1.heap.size, 0, none⟩ = some (.int .i64 (k0 : Int)) := (cell_blk x2.out 0).trans rfl
  have xc1 : w2.cell? ⟨w1.heap.size, 1, none⟩ = some (.int .i64 pp) := (cell_blk x2.out 1).trans rfl
  have xc2 : w2.cell? ⟨w1.heap.size, 2, none⟩ = some (.bool true) := (cell_blk x2.out 2).trans rfl
  have xc3 : w2.cell? ⟨w1.heap.size, 3, none⟩ = some (.bool true) := (cell_blk x2.out 3).trans rfl
  have xl := blk_lt x2.out
  have qc0 : w2.cell? ⟨w.heap.size, 0, none⟩ = some (.slice pa C.parts.length pc) := (cell_blk q2.out 0).trans rfl
  have qc1 : w2.cell? ⟨w.heap.size, 1, none⟩ = some (.slice (some ⟨g, o, none⟩) C.chans.length cc) := (cell_blk q2.out 1).trans rfl
  have qc2 : w2.cell? ⟨w.heap.size, 2, none⟩ = some (.int .i64 C.l0) := (cell_blk q2.out 2).trans rfl
  have qc3 : w2.cell? ⟨w.heap.size, 3, none⟩ = some (.slice a0 C.w0.length c0) := (cell_blk q2.out 3).trans rfl
  have qc4 : w2.cell? ⟨w.heap.size, 4, none⟩ = some (.int .i64 C.l1) := (cell_blk q2.out 4).trans rfl
  have qc5 : w2.cell? ⟨w.heap.size, 5, none⟩ = some (.slice a1 C.w1.length c1) := (cell_blk q2.out 5).trans rfl
  have ql := blk_lt q2.out
  have sc0 : w2.cell? ⟨w.heap.size + 1, 0, none⟩ = some (.int .i64 S.part) := (cell_blk s2.out 0).trans rfl
  have sc1 : w2.cell? ⟨w.heap.size + 1, 1, none⟩ = some (.bool true) := (cell_blk s2.out 1).trans rfl
  have sc2 : w2.cell? ⟨w.heap.size + 1, 2, none⟩ = some (.slice ma S.made.length mc) := (cell_blk s2.out 2).trans rfl
  have sc3 : w2.cell? ⟨w.heap.size + 1, 3, none⟩ = some (.slice va S.valid.length vc) := (cell_blk s2.out 3).trans rfl
  have sl := blk_lt s2.out
  have rc0 : w2.cell? ⟨w.heap.size + 1 + 1, 0, none⟩ = some (.int .i64 6) := (cell_blk r2.out 0).trans rfl
  have rc1 : w2.cell? ⟨w.heap.size + 1 + 1, 1, none⟩ = some (.int .i64 R.port) := (cell_blk r2.out 1).trans rfl
  have rc2 : w2.cell? ⟨w.heap.size + 1 + 1, 2, none⟩ = some (.int .u64 R.addr) := (cell_blk r2.out 2).trans rfl
  have rc3 : w2.cell? ⟨w.heap.size + 1 + 1, 3, none⟩ = some (.slice da R.data.length dc) := (cell_blk r2.out 3).trans rfl
  have rl := blk_lt r2.out
  have e0 : w2.cell? ⟨g, o + k0 * 7, none⟩ = some (.int .i64 x.kind) := (HB2.out.cell (p := ⟨g, o + k0 * 7, none⟩) hg).trans (HK.out 0 (by omega))
  have e3 : w2.cell? ⟨g, o + k0 * 7 + 3, none⟩ = some (.int .i64 x.words) := (HB2.out.cell (p := ⟨g, o + k0 * 7 + 3, none⟩) hg).trans (HK.out 3 (by omega))
  go_wp2
  go_ret
  exact ⟨rfl, HB2.out⟩

set_option maxRecDepth 100000 in
set_option maxHeartbeats 8000000 in
theorem talk_6ok (cv sv rv : Value) (C : Cfg) (S : Std) (R : Rqt) (hsm : C.small) (hm : S.made.length ≤ 100) (hd : R.data.length ≤ 100) (ho : R.op = 6) (k0 : Nat) (hk0 : k0 < C.chans.length) (pp : Int) (src : Bool) (hpv : portV C R.port = ⟨k0, pp, src, true⟩) (x : Chn) (hx : C.chans[k0] = x) (hp : pp = S.part) (hmd : S.made.contains R.port = true) (hn : S.normal = true) (hk : x.kind = 2) (hsr : src = false) (w : World) (hc : CfgAt w cv C) (hs : StdAt w sv S) (hr : RqtAt w rv R) : Calls Tryd.prog 33 #[cv, sv, rv] w fun e w' => e = .returned (.int .i64 (0)) ∧ Below w.heap.size w w' := by
  have HPV := Kp.mk hpv
  have hne : (pp != S.part) = false := by simpa using hp
  have HMD := Kp.mk hmd
  clear hpv hp hmd
  have hkb : (x.kind != 2) = false := by simpa using hk
  subst hsr
  clear hk
  have HST := Kp.mk hs
  have HC := Kp.mk hc
  have HS := Kp.mk hs
  have HR := Kp.mk hr
  obtain ⟨_, pa, pc, ca, cc, a0, c0, a1, c1, rfl, bp, bc, b0, b1, gp, gc, gw0, gw1⟩ := hc
  obtain ⟨_, ma, mc, va, vc, rfl, bm, bv, gm, gv⟩ := hs
  obtain ⟨ir, da, dc, rfl, bd, gd⟩ := hr
  clear gp gw0 gw1 gm gv gd bp b0 b1
  clear HST
  rw [hn] at HS ⊢
  clear hn
  rw [ho] at HR ⊢
  clear ho
  obtain ⟨g, o, rfl, hg, hcc⟩ := gc.at (by omega)
  have HK : Kp (∀ j, j < 7 → w.cell? ⟨g, o + k0 * 7 + j, none⟩ = (chanC x)[j]?) := ⟨fun j hj => by
    have h1 := hcc (k0 * 7 + j) (by omega)
    rw [flat_at chanC 7 chanC_len C.chans k0 j hk0 hj, hx] at h1
    rw [Nat.add_assoc]
    exact h1⟩
  have hki : (k0 : Int) < (C.chans.length : Int) := by omega
  have hkn := nat_nn k0
  clear hcc hx
  go_enter Tryd.func33, Tryd.ntmps33
  have HB0 : Kp (Below w.heap.size w w) := ⟨Below.refl _ _⟩
  go_wp2_with fail
  refine (rport_any _ C hsm R.port _ (HC.out.below (below_al (below_al (below_al HB0.out _) _) _))).mono ?_
  rw [HPV.out]
  rintro e w1 ⟨rfl, hb⟩
  have q1 : Kp (w1.heap[w.heap.size]? = some (.cells #[.slice pa C.parts.length pc, .slice (some ⟨g, o, none⟩) C.chans.length cc, .int .i64 C.l0, .slice a0 C.w0.length c0, .int .i64 C.l1, .slice a1 C.w1.length c1] 29 (0, 0))) := ⟨blk_below (blk_al (blk_al (blk_new _ _) _) _) hb⟩
  have s1 : Kp (w1.heap[w.heap.size + 1]? = some (.cells #[.int .i64 S.part, .bool true, .slice ma S.made.length mc, .slice va S.valid.length vc] 40 (0, 0))) := ⟨blk_below (blk_al (blk_at (w := (w.alloc (.cells #[.slice pa C.parts.length pc, .slice (some ⟨g, o, none⟩) C.chans.length cc, .int .i64 C.l0, .slice a0 C.w0.length c0, .int .i64 C.l1, .slice a1 C.w1.length c1] 29))) (by simp) _) _) hb⟩
  have r1 : Kp (w1.heap[w.heap.size + 1 + 1]? = some (.cells #[.int .i64 6, .int .i64 R.port, .int .u64 R.addr, .slice da R.data.length dc] 44 (0, 0))) := ⟨blk_below (blk_at (w := ((w.alloc (.cells #[.slice pa C.parts.length pc, .slice (some ⟨g, o, none⟩) C.chans.length cc, .int .i64 C.l0, .slice a0 C.w0.length c0, .int .i64 C.l1, .slice a1 C.w1.length c1] 29)).alloc (.cells #[.int .i64 S.part, .bool true, .slice ma S.made.length mc, .slice va S.valid.length vc] 40))) (by simp) _) hb⟩
  have HB1 : Kp (Below w.heap.size w w1) := ⟨below_call (below_al (below_al (below_al HB0.out _) _) _) hb⟩
  clear HB0 hb
  have qc0 : w1.cell? ⟨w.heap.size, 0, none⟩ = some (.slice pa C.parts.length pc) := (cell_blk q1.out 0).trans rfl
  have qc1 : w1.cell? ⟨w.heap.size, 1, none⟩ = some (.slice (some ⟨g, o, none⟩) C.chans.length cc) := (cell_blk q1.out 1).trans rfl
  have qc2 : w1.cell? ⟨w.heap.size, 2, none⟩ = some (.int .i64 C.l0) := (cell_blk q1.out 2).trans rfl
  have qc3 : w1.cell? ⟨w.heap.size, 3, none⟩ = some (.slice a0 C.w0.length c0) := (cell_blk q1.out 3).trans rfl
  have qc4 : w1.cell? ⟨w.heap.size, 4, none⟩ = some (.int .i64 C.l1) := (cell_blk q1.out 4).trans rfl
  have qc5 : w1.cell? ⟨w.heap.size, 5, none⟩ = some (.slice a1 C.w1.length c1) := (cell_blk q1.out 5).trans rfl
  have ql := blk_lt q1.out
  have sc0 : w1.cell? ⟨w.heap.size + 1, 0, none⟩ = some (.int .i64 S.part) := (cell_blk s1.out 0).trans rfl
  have sc1 : w1.cell? ⟨w.heap.size + 1, 1, none⟩ = some (.bool true) := (cell_blk s1.out 1).trans rfl
  have sc2 : w1.cell? ⟨w.heap.size + 1, 2, none⟩ = some (.slice ma S.made.length mc) := (cell_blk s1.out 2).trans rfl
  have sc3 : w1.cell? ⟨w.heap.size + 1, 3, none⟩ = some (.slice va S.valid.length vc) := (cell_blk s1.out 3).trans rfl
  have sl := blk_lt s1.out
  have rc0 : w1.cell? ⟨w.heap.size + 1 + 1, 0, none⟩ = some (.int .i64 6) := (cell_blk r1.out 0).trans rfl
  have rc1 : w1.cell? ⟨w.heap.size + 1 + 1, 1, none⟩ = some (.int .i64 R.port) := (cell_blk r1.out 1).trans rfl
  have rc2 : w1.cell? ⟨w.heap.size + 1 + 1, 2, none⟩ = some (.int .u64 R.addr) := (cell_blk r1.out 2).trans rfl
  have rc3 : w1.cell? ⟨w.heap.size + 1 + 1, 3, none⟩ = some (.slice da R.data.length dc) := (cell_blk r1.out 3).trans rfl
  have rl := blk_lt r1.out
  go_wp2_with fail
  refine (rmade_any _ S R.port hm _ (HS.out.below (below_al HB1.out _))).mono ?_
  rw [HMD.out]
  rintro e w2 ⟨rfl, hb⟩
  have x2 : Kp (w2.heap[w1.heap.size]? = some (.cells #[.int .i64 (k0 : Int), .int .i64 pp, .bool false, .bool true] 35 (0, 0))) := ⟨blk_below (blk_new _ _) hb⟩
  have q2 : Kp (w2.heap[w.heap.size]? = some (.cells #[.slice pa C.parts.length pc, .slice (some ⟨g, o, none⟩) C.chans.length cc, .int .i64 C.l0, .slice a0 C.w0.length c0, .int .i64 C.l1, .slice a1 C.w1.length c1] 29 (0, 0))) := ⟨blk_below (blk_al q1.out _) hb⟩
  have s2 : Kp (w2.heap[w.heap.size + 1]? = some (.cells #[.int .i64 S.part, .bool true, .slice ma S.made.length mc, .slice va S.valid.length vc] 40 (0, 0))) := ⟨blk_below (blk_al s1.out _) hb⟩
  have r2 : Kp (w2.heap[w.heap.size + 1 + 1]? = some (.cells #[.int .i64 6, .int .i64 R.port, .int .u64 R.addr, .slice da R.data.length dc] 44 (0, 0))) := ⟨blk_below (blk_al r1.out _) hb⟩
  have HB2 : Kp (Below w.heap.size w w2) := ⟨below_call (below_al HB1.out _) hb⟩
  clear qc0 qc1 qc2 qc3 qc4 qc5 ql sc0 sc1 sc2 sc3 sl rc0 rc1 rc2 rc3 rl q1 s1 r1 HB1 hb
  have xc0 : w2.cell? ⟨w1.heap.size, 0, none⟩ = some (.int .i64 (k0 : Int)) := (cell_blk x2.out 0).trans rfl
  have xc1 : w2.cell? ⟨w1.heap.size, 1, none⟩ = some (.int .i64 pp) := (cell_blk x2.out 1).trans rfl
  have xc2 : w2.cell? ⟨w1.heap.size, 2, none⟩ = some (.bool false) := (cell_blk x2.out 2).trans rfl
  have xc3 : w2.cell? ⟨w1.heap.size, 3, none⟩ = some (.bool true) := (cell_blk x2.out 3).trans rfl
  have xl := blk_lt x2.out
  have qc0 : w2.cell? ⟨w.heap.size, 0, none⟩ = some (.slice pa C.parts.length pc) := (cell_blk q2.out 0).trans rfl
  have qc1 : w2.cell? ⟨w.heap.size, 1, none⟩ = some (.slice (some ⟨g, o, none⟩) C.chans.length cc) := (cell_blk q2.out 1).trans rfl
  have qc2 : w2.cell? ⟨w.heap.size, 2, none⟩ = some (.int .i64 C.l0) := (cell_blk q2.out 2).trans rfl
  have qc3 : w2.cell? ⟨w.heap.size, 3, none⟩ = some (.slice a0 C.w0.length c0) := (cell_blk q2.out 3).trans rfl
  have qc4 : w2.cell? ⟨w.heap.size, 4, none⟩ = some (.int .i64 C.l1) := (cell_blk q2.out 4).trans rfl
  have qc5 : w2.cell? ⟨w.heap.size, 5, none⟩ = some (.slice a1 C.w1.length c1) := (cell_blk q2.out 5).trans rfl
  have ql := blk_lt q2.out
  have sc0 : w2.cell? ⟨w.heap.size + 1, 0, none⟩ = some (.int .i64 S.part) := (cell_blk s2.out 0).trans rfl
  have sc1 : w2.cell? ⟨w.heap.size + 1, 1, none⟩ = some (.bool true) := (cell_blk s2.out 1).trans rfl
  have sc2 : w2.cell? ⟨w.heap.size + 1, 2, none⟩ = some (.slice ma S.made.length mc) := (cell_blk s2.out 2).trans rfl
  have sc3 : w2.cell? ⟨w.heap.size + 1, 3, none⟩ = some (.slice va S.valid.length vc) := (cell_blk s2.out 3).trans rfl
  have sl := blk_lt s2.out
  have rc0 : w2.cell? ⟨w.heap.size + 1 + 1, 0, none⟩ = some (.int .i64 6) := (cell_blk r2.out 0).trans rfl
  have rc1 : w2.cell? ⟨w.heap.size + 1 + 1, 1, none⟩ = some (.int .i64 R.port) := (cell_blk r2.out 1).trans rfl
  have rc2 : w2.cell? ⟨w.heap.size + 1 + 1, 2, none⟩ = some (.int .u64 R.addr) := (cell_blk r2.out 2).trans rfl
  have rc3 : w2.cell? ⟨w.heap.size + 1 + 1, 3, none⟩ = some (.slice da R.data.length dc) := (cell_blk r2.out 3).trans rfl
  have rl := blk_lt r2.out
  have e0 : w2.cell? ⟨g, o + k0 * 7, none⟩ = some (.int .i64 x.kind) := (HB2.out.cell (p := ⟨g, o + k0 * 7, none⟩) hg).trans (HK.out 0 (by omega))
  have e3 : w2.cell? ⟨g, o + k0 * 7 + 3, none⟩ = some (.int .i64 x.words) := (HB2.out.cell (p := ⟨g, o + k0 * 7 + 3, none⟩) hg).trans (HK.out 3 (by omega))
  go_wp2
  go_ret
  exact ⟨rfl, HB2.out⟩

set_option maxRecDepth 100000 in
set_option maxHeartbeats 8000000 in
theorem talk_7ok (cv sv rv : Value) (C : Cfg) (S : Std) (R : Rqt) (hsm : C.small) (hm : S.made.length ≤ 100) (hd : R.data.length ≤ 100) (ho : R.op = 7) (k0 : Nat) (hk0 : k0 < C.chans.length) (pp : Int) (src : Bool) (hpv : portV C R.port = ⟨k0, pp, src, true⟩) (x : Chn) (hx : C.chans[k0] = x) (hp : pp = S.part) (hmd : S.made.contains R.port = true) (hn : S.normal = true)  (w : World) (hc : CfgAt w cv C) (hs : StdAt w sv S) (hr : RqtAt w rv R) : Calls Tryd.prog 33 #[cv, sv, rv] w fun e w' => e = .returned (.int .i64 (0)) ∧ Below w.heap.size w w' := by
  have HPV := Kp.mk hpv
  have hne : (pp != S.part) = false := by simpa using hp
  have HMD := Kp.mk hmd
  clear hpv hp hmd
  have HST := Kp.mk hs
  have HC := Kp.mk hc
  have HS := Kp.mk hs
  have HR := Kp.mk hr
  obtain ⟨_, pa, pc, ca, cc, a0, c0, a1, c1, rfl, bp, bc, b0, b1, gp, gc, gw0, gw1⟩ := hc
  obtain ⟨_, ma, mc, va, vc, rfl, bm, bv, gm, gv⟩ := hs
  obtain ⟨ir, da, dc, rfl, bd, gd⟩ := hr
  clear gp gw0 gw1 gm gv gd bp b0 b1
  clear HST
  rw [hn] at HS ⊢
  clear hn
  rw [ho] at HR ⊢
  clear ho
  obtain ⟨g, o, rfl, hg, hcc⟩ := gc.at (by omega)
  have HK : Kp (∀ j, j < 7 → w.cell? ⟨g, o + k0 * 7 + j, none⟩ = (chanC x)[j]?) := ⟨fun j hj => by
    have h1 := hcc (k0 * 7 + j) (by omega)
    rw [flat_at chanC 7 chanC_len C.chans k0 j hk0 hj, hx] at h1
    rw [Nat.add_assoc]
    exact h1⟩
  have hki : (k0 : Int) < (C.chans.length : Int) := by omega
  have hkn := nat_nn k0
  clear hcc hx
  go_enter Tryd.func33, Tryd.ntmps33
  have HB0 : Kp (Below w.heap.size w w) := ⟨Below.refl _ _⟩
  go_wp2_with fail
  refine (rport_any _ C hsm R.port _ (HC.out.below (below_al (below_al (below_al HB0.out _) _) _))).mono ?_
  rw [HPV.out]
  rintro e w1 ⟨rfl, hb⟩
  have q1 : Kp (w1.heap[w.heap.size]? = some (.cells #[.slice pa C.parts.length pc, .slice (some ⟨g, o, none⟩) C.chans.length cc, .int .i64 C.l0, .slice a0 C.w0.length c0, .int .i64 C.l1, .slice a1 C.w1.length c1] 29 (0, 0))) := ⟨blk_below (blk_al (blk_al (blk_new _ _) _) _) hb⟩
  have s1 : Kp (w1.heap[w.heap.size + 1]? = some (.cells #[.int .i64 S.part, .bool true, .slice ma S.made.length mc, .slice va S.valid.length vc] 40 (0, 0))) := ⟨blk_below (blk_al (blk_at (w := (w.alloc (.cells #[.slice pa C.parts.length pc, .slice (some ⟨g, o, none⟩) C.chans.length cc, .int .i64 C.l0, .slice a0 C.w0.length c0, .int .i64 C.l1, .slice a1 C.w1.length c1] 29))) (by simp) _) _) hb⟩
  have r1 : Kp (w1.heap[w.heap.size + 1 + 1]? = some (.cells #[.int .i64 7, .int .i64 R.port, .int .u64 R.addr, .slice da R.data.length dc] 44 (0, 0))) := ⟨blk_below (blk_at (w := ((w.alloc (.cells #[.slice pa C.parts.length pc, .slice (some ⟨g, o, none⟩) C.chans.length cc, .int .i64 C.l0, .slice a0 C.w0.length c0, .int .i64 C.l1, .slice a1 C.w1.length c1] 29)).alloc (.cells #[.int .i64 S.part, .bool true, .slice ma S.made.length mc, .slice va S.valid.length vc] 40))) (by simp) _) hb⟩
  have HB1 : Kp (Below w.heap.size w w1) := ⟨below_call (below_al (below_al (below_al HB0.out _) _) _) hb⟩
  clear HB0 hb
  have qc0 : w1.cell? ⟨w.heap.size, 0, none⟩ = some (.slice pa C.parts.length pc) := (cell_blk q1.out 0).trans rfl
  have qc1 : w1.cell? ⟨w.heap.size, 1, none⟩ = some (.slice (some ⟨g, o, none⟩) C.chans.length cc) := (cell_blk q1.out 1).trans rfl
  have qc2 : w1.cell? ⟨w.heap.size, 2, none⟩ = some (.int .i64 C.l0) := (cell_blk q1.out 2).trans rfl
  have qc3 : w1.cell? ⟨w.heap.size, 3, none⟩ = some (.slice a0 C.w0.length c0) := (cell_blk q1.out 3).trans rfl
  have qc4 : w1.cell? ⟨w.heap.size, 4, none⟩ = some (.int .i64 C.l1) := (cell_blk q1.out 4).trans rfl
  have qc5 : w1.cell? ⟨w.heap.size, 5, none⟩ = some (.slice a1 C.w1.length c1) := (cell_blk q1.out 5).trans rfl
  have ql := blk_lt q1.out
  have sc0 : w1.cell? ⟨w.heap.size + 1, 0, none⟩ = some (.int .i64 S.part) := (cell_blk s1.out 0).trans rfl
  have sc1 : w1.cell? ⟨w.heap.size + 1, 1, none⟩ = some (.bool true) := (cell_blk s1.out 1).trans rfl
  have sc2 : w1.cell? ⟨w.heap.size + 1, 2, none⟩ = some (.slice ma S.made.length mc) := (cell_blk s1.out 2).trans rfl
  have sc3 : w1.cell? ⟨w.heap.size + 1, 3, none⟩ = some (.slice va S.valid.length vc) := (cell_blk s1.out 3).trans rfl
  have sl := blk_lt s1.out
  have rc0 : w1.cell? ⟨w.heap.size + 1 + 1, 0, none⟩ = some (.int .i64 7) := (cell_blk r1.out 0).trans rfl
  have rc1 : w1.cell? ⟨w.heap.size + 1 + 1, 1, none⟩ = some (.int .i64 R.port) := (cell_blk r1.out 1).trans rfl
  have rc2 : w1.cell? ⟨w.heap.size + 1 + 1, 2, none⟩ = some (.int .u64 R.addr) := (cell_blk r1.out 2).trans rfl
  have rc3 : w1.cell? ⟨w.heap.size + 1 + 1, 3, none⟩ = some (.slice da R.data.length dc) := (cell_blk r1.out 3).trans rfl
  have rl := blk_lt r1.out
  go_wp2_with fail
  refine (rmade_any _ S R.port hm _ (HS.out.below (below_al HB1.out _))).mono ?_
  rw [HMD.out]
  rintro e w2 ⟨rfl, hb⟩
  have x2 : Kp (w2.heap[w1.heap.size]? = some (.cells #[.int .i64 (k0 : Int), .int .i64 pp, .bool src, .bool true] 35 (0, 0))) := ⟨blk_below (blk_new _ _) hb⟩
  have q2 : Kp (w2.heap[w.heap.size]? = some (.cells #[.slice pa C.parts.length pc, .slice (some ⟨g, o, none⟩) C.chans.length cc, .int .i64 C.l0, .slice a0 C.w0.length c0, .int .i64 C.l1, .slice a1 C.w1.length c1] 29 (0, 0))) := ⟨blk_below (blk_al q1.out _) hb⟩
  have s2 : Kp (w2.heap[w.heap.size + 1]? = some (.cells #[.int .i64 S.part, .bool true, .slice ma S.made.length mc, .slice va S.valid.length vc] 40 (0, 0))) := ⟨blk_below (blk_al s1.out _) hb⟩
  have r2 : Kp (w2.heap[w.heap.size + 1 + 1]? = some (.cells #[.int .i64 7, .int .i64 R.port, .int .u64 R.addr, .slice da R.data.length dc] 44 (0, 0))) := ⟨blk_below (blk_al r1.out _) hb⟩
  have HB2 : Kp (Below w.heap.size w w2) := ⟨below_call (below_al HB1.out _) hb⟩
  clear qc0 qc1 qc2 qc3 qc4 qc5 ql sc0 sc1 sc2 sc3 sl rc0 rc1 rc2 rc3 rl q1 s1 r1 HB1 hb
  have xc0 : w2.cell? ⟨w1.heap.size, 0, none⟩ = some (.int .i64 (k0 : Int)) := (cell_blk x2.out 0).trans rfl
  have xc1 : w2.cell? ⟨w1.heap.size, 1, none⟩ = some (.int .i64 pp) := (cell_blk x2.out 1).trans rfl
  have xc2 : w2.cell? ⟨w1.heap.size, 2, none⟩ = some (.bool src) := (cell_blk x2.out 2).trans rfl
  have xc3 : w2.cell? ⟨w1.heap.size, 3, none⟩ = some (.bool true) := (cell_blk x2.out 3).trans rfl
  have xl := blk_lt x2.out
  have qc0 : w2.cell? ⟨w.heap.size, 0, none⟩ = some (.slice pa C.parts.length pc) := (cell_blk q2.out 0).trans rfl
  have qc1 : w2.cell? ⟨w.heap.size, 1, none⟩ = some (.slice (some ⟨g, o, none⟩) C.chans.length cc) := (cell_blk q2.out 1).trans rfl
  have qc2 : w2.cell? ⟨w.heap.size, 2, none⟩ = some (.int .i64 C.l0) := (cell_blk q2.out 2).trans rfl
  have qc3 : w2.cell? ⟨w.heap.size, 3, none⟩ = some (.slice a0 C.w0.length c0) := (cell_blk q2.out 3).trans rfl
  have qc4 : w2.cell? ⟨w.heap.size, 4, none⟩ = some (.int .i64 C.l1) := (cell_blk q2.out 4).trans rfl
  have qc5 : w2.cell? ⟨w.heap.size, 5, none⟩ = some (.slice a1 C.w1.length c1) := (cell_blk q2.out 5).trans rfl
  have ql := blk_lt q2.out
  have sc0 : w2.cell? ⟨w.heap.size + 1, 0, none⟩ = some (.int .i64 S.part) := (cell_blk s2.out 0).trans rfl
  have sc1 : w2.cell? ⟨w.heap.size + 1, 1, none⟩ = some (.bool true) := (cell_blk s2.out 1).trans rfl
  have sc2 : w2.cell? ⟨w.heap.size + 1, 2, none⟩ = some (.slice ma S.made.length mc) := (cell_blk s2.out 2).trans rfl
  have sc3 : w2.cell? ⟨w.heap.size + 1, 3, none⟩ = some (.slice va S.valid.length vc) := (cell_blk s2.out 3).trans rfl
  have sl := blk_lt s2.out
  have rc0 : w2.cell? ⟨w.heap.size + 1 + 1, 0, none⟩ = some (.int .i64 7) := (cell_blk r2.out 0).trans rfl
  have rc1 : w2.cell? ⟨w.heap.size + 1 + 1, 1, none⟩ = some (.int .i64 R.port) := (cell_blk r2.out 1).trans rfl
  have rc2 : w2.cell? ⟨w.heap.size + 1 + 1, 2, none⟩ = some (.int .u64 R.addr) := (cell_blk r2.out 2).trans rfl
  have rc3 : w2.cell? ⟨w.heap.size + 1 + 1, 3, none⟩ = some (.slice da R.data.length dc) := (cell_blk r2.out 3).trans rfl
  have rl := blk_lt r2.out
  have e0 : w2.cell? ⟨g, o + k0 * 7, none⟩ = some (.int .i64 x.kind) := (HB2.out.cell (p := ⟨g, o + k0 * 7, none⟩) hg).trans (HK.out 0 (by omega))
  have e3 : w2.cell? ⟨g, o + k0 * 7 + 3, none⟩ = some (.int .i64 x.words) := (HB2.out.cell (p := ⟨g, o + k0 * 7 + 3, none⟩) hg).trans (HK.out 3 (by omega))
  go_wp2
  go_ret
  exact ⟨rfl, HB2.out⟩

theorem talk_any (cv sv rv : Value) (C : Cfg) (S : Std) (R : Rqt) (hsm : C.small) (hm : S.made.length ≤ 100) (hd : R.data.length ≤ 100) (ho : 3 ≤ R.op ∧ R.op ≤ 7) (w : World) (hc : CfgAt w cv C) (hs : StdAt w sv S) (hr : RqtAt w rv R) : Calls Tryd.prog 33 #[cv, sv, rv] w fun e w' => e = .returned (.int .i64 (talkV (askV C S R))) ∧ Below w.heap.size w w' := by
  cases hi : (portV C R.port).is with
  | false =>
    rw [show talkV (askV C S R) = 3 by simp [talkV, askV_nis C S R hi]]
    exact talk_nis cv sv rv C S R hsm hm hd hi w hc hs hr
  | true =>
    obtain ⟨k0, hk0, pp, src, hpv, hcx⟩ := portV_is C R.port hi
    obtain ⟨x, hx⟩ : ∃ x, C.chans[k0] = x := ⟨_, rfl⟩
    rw [askV_is C S R k0 pp src x hpv (hcx.trans hx)]
    by_cases hp : pp = S.part
    · cases hmd : S.made.contains R.port with
      | false =>
        rw [show talkV (askD C S R x src (pp == S.part)) = 3 by simp only [talkV, askD, hmd]; simp]
        exact talk_made cv sv rv C S R hsm hm hd k0 hk0 pp src hpv hp hmd w hc hs hr
      | true =>
        have hob : (pp == S.part) = true := by simpa using hp
        cases hn : S.normal with
        | false =>
          rw [show talkV (askD C S R x src (pp == S.part)) = 5 by simp only [talkV, askD, hmd, hn, hob]; rfl]
          exact talk_mode cv sv rv C S R hsm hm hd k0 hk0 pp src hpv hp hmd hn w hc hs hr
        | true =>
          have hlz : (R.data.length == 0) = decide (R.data.length = 0) := by rw [Bool.eq_iff_iff]; simp
          have h5 : R.op = 3 ∨ R.op = 4 ∨ R.op = 5 ∨ R.op = 6 ∨ R.op = 7 := by omega
          rcases h5 with ho | ho | ho | ho | ho
          · by_cases hk : x.kind = 1
            · cases hsr : src with
              | false =>
                subst hsr
                rw [show talkV (askD C S R x false (pp == S.part)) = 5 by simp only [talkV, askD, hmd, hn, hob, ho, hk]; rfl]
                exact talk_3src cv sv rv C S R hsm hm hd ho k0 hk0 pp false hpv x hx hp hmd hn hk rfl w hc hs hr
              | true =>
                subst hsr
                by_cases hl : R.data.length = 0
                · rw [show talkV (askD C S R x true (pp == S.part)) = 3 by simp only [talkV, askD, hmd, hn, hob, ho, hk, hl]; rfl]
                  exact talk_3nil cv sv rv C S R hsm hm hd ho k0 hk0 pp true hpv x hx hp hmd hn hk rfl hl w hc hs hr
                · have hlf : (R.data.length == 0) = false := by simpa using hl
                  by_cases hw : x.words < (R.data.length : Int)
                  · rw [show talkV (askD C S R x true (pp == S.part)) = 4 by simp only [talkV, askD, hmd, hn, hob, ho, hk, hlf, decide_eq_true hw]; rfl]
                    exact talk_3big cv sv rv C S R hsm hm hd ho k0 hk0 pp true hpv x hx hp hmd hn hk rfl hl hw w hc hs hr
                  · rw [show talkV (askD C S R x true (pp == S.part)) = 0 by simp only [talkV, askD, hmd, hn, hob, ho, hk, hlf, decide_eq_false hw]; rfl]
                    exact talk_3ok cv sv rv C S R hsm hm hd ho k0 hk0 pp true hpv x hx hp hmd hn hk rfl hl hw w hc hs hr
            · have hkb : (x.kind == 1) = false := by simpa using hk
              rw [show talkV (askD C S R x src (pp == S.part)) = 5 by simp only [talkV, askD, hmd, hn, hob, ho, hkb]; rfl]
              exact talk_3kind cv sv rv C S R hsm hm hd ho k0 hk0 pp src hpv x hx hp hmd hn hk w hc hs hr
          · by_cases hk : x.kind = 1
            · cases hsr : src with
              | true =>
                subst hsr
                rw [show talkV (askD C S R x true (pp == S.part)) = 5 by simp only [talkV, askD, hmd, hn, hob, ho, hk]; rfl]
                exact talk_4src cv sv rv C S R hsm hm hd ho k0 hk0 pp true hpv x hx hp hmd hn hk rfl w hc hs hr
              | false =>
                subst hsr
                rw [show talkV (askD C S R x false (pp == S.part)) = 0 by simp only [talkV, askD, hmd, hn, hob, ho, hk]; rfl]
                exact talk_4ok cv sv rv C S R hsm hm hd ho k0 hk0 pp false hpv x hx hp hmd hn hk rfl w hc hs hr
            · have hkb : (x.kind == 1) = false := by simpa using hk
              rw [show talkV (askD C S R x src (pp == S.part)) = 5 by simp only [talkV, askD, hmd, hn, hob, ho, hkb]; rfl]
              exact talk_4kind cv sv rv C S R hsm hm hd ho k0 hk0 pp src hpv x hx hp hmd hn hk w hc hs hr
          · by_cases hk : x.kind = 2
            · cases hsr : src with
              | false =>
                subst hsr
                rw [show talkV (askD C S R x false (pp == S.part)) = 5 by simp only [talkV, askD, hmd, hn, hob, ho, hk]; rfl]
                exact talk_5src cv sv rv C S R hsm hm hd ho k0 hk0 pp false hpv x hx hp hmd hn hk rfl w hc hs hr
              | true =>
                subst hsr
                by_cases hl : R.data.length = 0
                · rw [show talkV (askD C S R x true (pp == S.part)) = 3 by simp only [talkV, askD, hmd, hn, hob, ho, hk, hl]; rfl]
                  exact talk_5nil cv sv rv C S R hsm hm hd ho k0 hk0 pp true hpv x hx hp hmd hn hk rfl hl w hc hs hr
                · have hlf : (R.data.length == 0) = false := by simpa using hl
                  by_cases hw : x.words < (R.data.length : Int)
                  · rw [show talkV (askD C S R x true (pp == S.part)) = 4 by simp only [talkV, askD, hmd, hn, hob, ho, hk, hlf, decide_eq_true hw]; rfl]
                    exact talk_5big cv sv rv C S R hsm hm hd ho k0 hk0 pp true hpv x hx hp hmd hn hk rfl hl hw w hc hs hr
                  · rw [show talkV (askD C S R x true (pp == S.part)) = 0 by simp only [talkV, askD, hmd, hn, hob, ho, hk, hlf, decide_eq_false hw]; rfl]
                    exact talk_5ok cv sv rv C S R hsm hm hd ho k0 hk0 pp true hpv x hx hp hmd hn hk rfl hl hw w hc hs hr
            · have hkb : (x.kind == 2) = false := by simpa using hk
              rw [show talkV (askD C S R x src (pp == S.part)) = 5 by simp only [talkV, askD, hmd, hn, hob, ho, hkb]; rfl]
              exact talk_5kind cv sv rv C S R hsm hm hd ho k0 hk0 pp src hpv x hx hp hmd hn hk w hc hs hr
          · by_cases hk : x.kind = 2
            · cases hsr : src with
              | true =>
                subst hsr
                rw [show talkV (askD C S R x true (pp == S.part)) = 5 by simp only [talkV, askD, hmd, hn, hob, ho, hk]; rfl]
                exact talk_6src cv sv rv C S R hsm hm hd ho k0 hk0 pp true hpv x hx hp hmd hn hk rfl w hc hs hr
              | false =>
                subst hsr
                rw [show talkV (askD C S R x false (pp == S.part)) = 0 by simp only [talkV, askD, hmd, hn, hob, ho, hk]; rfl]
                exact talk_6ok cv sv rv C S R hsm hm hd ho k0 hk0 pp false hpv x hx hp hmd hn hk rfl w hc hs hr
            · have hkb : (x.kind == 2) = false := by simpa using hk
              rw [show talkV (askD C S R x src (pp == S.part)) = 5 by simp only [talkV, askD, hmd, hn, hob, ho, hkb]; rfl]
              exact talk_6kind cv sv rv C S R hsm hm hd ho k0 hk0 pp src hpv x hx hp hmd hn hk w hc hs hr
          · rw [show talkV (askD C S R x src (pp == S.part)) = 0 by simp only [talkV, askD, hmd, hn, hob, ho]; rfl]
            exact talk_7ok cv sv rv C S R hsm hm hd ho k0 hk0 pp src hpv x hx hp hmd hn w hc hs hr
    · have hob : (pp == S.part) = false := by simpa using hp
      rw [show talkV (askD C S R x src (pp == S.part)) = 3 by simp only [talkV, askD, hob]; rfl]
      exact talk_part cv sv rv C S R hsm hm hd k0 hk0 pp src hpv hp w hc hs hr
end Go.Proofs.YtdajadfgiifioaaDoor

/- Layer 12's play in memory; a step of its receive. -/
import Derived.Test.YtmidcnfmphlneaaGreatQ21
namespace Go.Proofs.YtmidcnfmphlneaaGreat
open Go.RowKit
set_option linter.unusedSimpArgs false
set_option linter.unusedVariables false
set_option maxRecDepth 100000 in
set_option maxHeartbeats 8000000 in
theorem precv_any {w0 : World} {P B D BB : Nat} {kc : Cf12} {wd dp b : Int} {z : Rs} {OS ORz : Nat} {S Rz : Nat → Prop} {st ow : Nat} {sv rv : Value} {x : List Bool} (hk : Cf12Ok w0 kc wd dp b) (hjz : JR (pl12 wd dp) b z) (hbd : z.sent ≤ 100000) (wq : World) (hz : PlayAt w0 wq P B D BB kc wd dp b z OS ORz S Rz st ow sv rv x) :
    Calls Tryz.prog 34 #[.pointer (some ⟨P, 0, none⟩)] wq fun e w' => e = .returned (.bool true) ∧ ∃ (OR ow' : Nat) (R : Nat → Prop) (rv' : Value), PlayAt w0 w' P B D BB kc wd dp b (stepQ (pl12 wd dp) (if z.rOn = true then z else begQ (pl12 wd dp) b z)) OS OR S R st ow' sv rv' x ∧ Only (fun k => Rz k ∨ k = P ∨ k = D) wq w' ∧ ∀ k, R k → Rz k ∨ wq.heap.size ≤ k := by
  have hi := hk.i
  have hwd := hi.w
  have hsm := dp_bound hi
  have HK0 := Kp.mk hk
  have hP0 := hz.core.own hz.blk hz.pl
  have lP0 := blk_lt hz.blk
  obtain ⟨z1, hs⟩ : ∃ z1, (if z.rOn = true then z else begQ (pl12 wd dp) b z) = z1 := ⟨_, rfl⟩
  have hS : JR (pl12 wd dp) b z1 ∧ z1.rOn = true ∧ z1.sent = z.sent ∧ z1.n = z.n ∧ z1.got = z.got := by
    rw [← hs]
    split
    · exact ⟨hjz, by assumption, rfl, rfl, rfl⟩
    · exact ⟨hjz.begQ, rfl, rfl, rfl, rfl⟩
  rw [hs]
  obtain ⟨hj, ho1, hsent, hn1, hgot⟩ := hS
  have HJ0 := Kp.mk hj
  have HS0 := Kp.mk hs
  have HZ0 := Kp.mk hz
  have HE0 := Kp.mk (And.intro hsent (And.intro hn1 hgot))
  have hb0 := hi.b
  clear hs hjz hz hk hj hsent hn1 hgot
  go_enter Tryz.func34, Tryz.ntmps34
  obtain ⟨RR, hRR⟩ : ∃ RR : Act → World → Prop, RR = fun a w => ∃ (u7 u8 u9 u10 u11 u12 u13 u14 u15 u16 u17 u18 u19 u20 u21 u22 u23 u24 u25 u26 : Value) (OR : Nat) (R : Nat → Prop), a = ⟨#[.pointer (some ⟨P, 0, none⟩), undef, .bool false, undef, undef, undef, undef, u7, u8, u9, u10, u11, u12, u13, u14, u15, u16, u17, u18, u19, u20, u21, u22, u23, u24, u25, u26, undef, undef, undef, undef, undef, undef, undef, undef, undef, undef, undef, undef, undef, undef, undef, undef, undef, undef, undef, undef, undef, undef, undef, undef, undef, undef, undef, undef, undef, undef, undef, undef, undef, undef, undef, undef, undef, undef, undef, undef, undef, undef, undef, undef, undef, undef, undef, undef, undef, undef, undef, undef, undef, undef, undef, undef, undef, undef, undef, undef, undef, undef, undef, undef, undef, undef, undef, undef, undef, undef, undef, undef, undef, undef, undef, undef, undef, undef, undef, undef, undef, undef, undef, undef, undef, undef, undef, undef, undef, undef, undef, undef, undef, undef, undef, undef, undef, undef, undef, undef, undef, undef, undef, undef, undef, undef, undef, undef, undef, undef, undef, undef, undef, undef, undef, undef, undef, undef, undef, undef, undef, undef, undef, undef, undef, undef, undef, undef, undef, undef, undef, undef, undef, undef, undef, undef, undef, undef, undef, undef, undef, undef, undef, undef, undef], []⟩ ∧ Kp (PlayAt w0 w P B D BB kc wd dp b z1 OS OR S R st (if z1.r.pc ≤ 1 then z1.r.pc else 2 + z1.r.data.length) sv (.pointer (some ⟨OR, 0, none⟩)) x) ∧ Kp (Only (fun k => Rz k ∨ k = P ∨ k = D) wq w) ∧ Kp (∀ k, R k → Rz k ∨ wq.heap.size ≤ k) := ⟨_, rfl⟩
  have HRR := Kp.mk hRR
  clear hRR
  refine seq_join RR ?_ ?_
  · have hblk := HZ0.out.blk
    have lPz := blk_lt hblk
    intro K0 hK0
    by_cases hon : z.rOn = true
    · have hs := HS0.out
      rw [if_pos hon] at hs
      obtain ⟨e1, e2⟩ := HZ0.out.r1 hon
      have HE1 := Kp.mk e1
      have HE2 := Kp.mk e2
      have c9 : wq.cell? ⟨P, 9, none⟩ = some (.pointer (some ⟨ORz, 0, none⟩)) := (cell_blk hblk 9).trans (by rw [HE1.out]; rfl)
      have HS1 := Kp.mk hs
      clear hblk hon hs e1 e2
      go_wp2
      refine JQ.mk ?_
      rw [HRR.out]
      refine ⟨_, _, _, _, _, _, _, _, _, _, _, _, _, _, _, _, _, _, _, _, ORz, Rz, rfl, ⟨?_⟩, ⟨Only.refl _ _⟩, ⟨fun k hk => .inl hk⟩⟩
      have h1 := HZ0.out
      rw [HE1.out, HE2.out] at h1
      rw [← HS1.out]
      exact h1
    · have hs := HS0.out
      rw [if_neg hon] at hs
      have hoff : z.rOn = false := by simpa using hon
      have e1 := HZ0.out.r0 hoff
      have HE1 := Kp.mk e1
      have HS1z := Kp.mk hs
      obtain ⟨hd, hhd⟩ : ∃ hd, (b + (z.got : Int)) % 4294967296 = hd := ⟨_, rfl⟩
      have hown : 0 ≤ hd ∧ hd < 4294967296 := by omega
      have HHD := Kp.mk hhd
      have HP1 : Kp (wq.heap[P]? = some (.cells #[.slice kc.pa 2 kc.pc, .slice (some ⟨kc.cg, kc.co, none⟩) 1 kc.cc, .int .i64 1, .slice kc.a0 1 kc.c0, .int .i64 1, .slice kc.a1 1 kc.c1, .pointer (some ⟨B, 0, none⟩), .pointer (some ⟨BB, 0, none⟩), sv, .pointer none, .int .u32 ((b + z.n) % 4294967296), .int .u32 hd, .int .i64 z.sent, .int .i64 z.got, .int .i64 z.n, .int .i64 st, .int .i64 ow] 77 (0, 0))) := ⟨by rw [← HE1.out, ← HHD.out]; exact hblk⟩
      have HC1 : Kp (Core w0 wq P B D BB wd dp z OS ORz S Rz x) := ⟨HZ0.out.core⟩
      have HF1 : Kp (Only (fun k => Rz k ∨ k = P ∨ k = D) wq wq) := ⟨Only.refl _ _⟩
      have c0 := cbk HP1.out 0 (.slice kc.pa 2 kc.pc) rfl
      have c1 := cbk HP1.out 1 (.slice (some ⟨kc.cg, kc.co, none⟩) 1 kc.cc) rfl
      have c2 := cbk HP1.out 2 (.int .i64 1) rfl
      have c3 := cbk HP1.out 3 (.slice kc.a0 1 kc.c0) rfl
      have c4 := cbk HP1.out 4 (.int .i64 1) rfl
      have c5 := cbk HP1.out 5 (.slice kc.a1 1 kc.c1) rfl
      have c6 := cbk HP1.out 6 (.pointer (some ⟨B, 0, none⟩)) rfl
      have c7 := cbk HP1.out 7 (.pointer (some ⟨BB, 0, none⟩)) rfl
      have c8 := cbk HP1.out 8 (sv) rfl
      have c9 := cbk HP1.out 9 (.pointer none) rfl
      have c10 := cbk HP1.out 10 (.int .u32 ((b + z.n) % 4294967296)) rfl
      have c11 := cbk HP1.out 11 (.int .u32 hd) rfl
      have c12 := cbk HP1.out 12 (.int .i64 z.sent) rfl
      have c13 := cbk HP1.out 13 (.int .i64 z.got) rfl
      have c14 := cbk HP1.out 14 (.int .i64 z.n) rfl
      have c15 := cbk HP1.out 15 (.int .i64 st) rfl
      have c16 := cbk HP1.out 16 (.int .i64 ow) rfl
      clear hblk hon hs e1 hhd
      go_wp2_with fail
      refine JQ.region (fun a wj => ∃ (O1 : Nat) (R1 : Nat → Prop) (u7 u8 u9 u10 u11 u12 u13 u14 u15 u16 u17 u18 u19 u20 u21 u22 u23 u24 u25 u26 : Value), a = ⟨#[.pointer (some ⟨P, 0, none⟩), undef, .bool false, undef, undef, undef, undef, u7, u8, u9, u10, u11, u12, u13, u14, u15, u16, u17, u18, u19, u20, u21, u22, u23, u24, u25, u26, undef, undef, undef, undef, undef, undef, undef, undef, undef, undef, undef, undef, undef, undef, undef, undef, undef, undef, undef, undef, undef, undef, undef, undef, undef, undef, undef, undef, undef, undef, undef, undef, undef, undef, undef, undef, undef, undef, undef, undef, undef, undef, undef, undef, undef, undef, undef, undef, undef, undef, undef, undef, undef, undef, undef, undef, undef, undef, undef, undef, undef, undef, undef, undef, undef, undef, undef, undef, undef, undef, undef, undef, undef, undef, undef, undef, undef, undef, undef, undef, undef, undef, undef, undef, undef, undef, undef, undef, undef, undef, undef, undef, undef, undef, undef, undef, undef, undef, undef, undef, undef, undef, undef, undef, undef, undef, undef, undef, undef, undef, undef, undef, undef, undef, undef, undef, undef, undef, undef, undef, undef, undef, undef, undef, undef, undef, undef, undef, undef, undef, undef, undef, undef, undef, undef, undef, undef, undef, undef, undef, undef, undef, undef, undef, undef], []⟩ ∧ Kp (wj.heap[P]? = some (.cells #[.slice kc.pa 2 kc.pc, .slice (some ⟨kc.cg, kc.co, none⟩) 1 kc.cc, .int .i64 1, .slice kc.a0 1 kc.c0, .int .i64 1, .slice kc.a1 1 kc.c1, .pointer (some ⟨B, 0, none⟩), .pointer (some ⟨BB, 0, none⟩), sv, .pointer (some ⟨O1, 0, none⟩), .int .u32 ((b + z.n) % 4294967296), .int .u32 hd, .int .i64 z.sent, .int .i64 z.got, .int .i64 z.n, .int .i64 st, .int .i64 ow] 77 (0, 0))) ∧ Kp (Core w0 wj P B D BB wd dp { z with r := ⟨0, hd, 0, [], (qu12 wd dp hd).cell⟩, rOn := true } OS O1 S R1 x) ∧ Kp (Only (fun k => Rz k ∨ k = P ∨ k = D) wq wj) ∧ Kp (∀ k, R1 k → wq.heap.size ≤ k) ∧ Kp (w0.heap.size ≤ P ∧ ¬ S P ∧ ¬ R1 P ∧ P ≠ B ∧ P ≠ D ∧ P ≠ BB)) ?_ ?_
      · have HX0 : Kp (wq.heap[P]? = some (.cells #[.slice kc.pa 2 kc.pc, .slice (some ⟨kc.cg, kc.co, none⟩) 1 kc.cc, .int .i64 1, .slice kc.a0 1 kc.c0, .int .i64 1, .slice kc.a1 1 kc.c1, .pointer (some ⟨B, 0, none⟩), .pointer (some ⟨BB, 0, none⟩), sv, .pointer none, .int .u32 ((b + z.n) % 4294967296), .int .u32 hd, .int .i64 z.sent, .int .i64 z.got, .int .i64 z.n, .int .i64 st, .int .i64 ow] 77 (0, 0))) := ⟨HP1.out⟩
        refine held_start_gen (S := (fun w' : World => ∀ o, o ≠ 9 → w'.cell? ⟨P, o, none⟩ = wq.cell? ⟨P, o, none⟩)) (by kernel_rfl) (fun wz : World => Kp (wz.heap[P]? = some (.cells #[.slice kc.pa 2 kc.pc, .slice (some ⟨kc.cg, kc.co, none⟩) 1 kc.cc, .int .i64 1, .slice kc.a0 1 kc.c0, .int .i64 1, .slice kc.a1 1 kc.c1, .pointer (some ⟨B, 0, none⟩), .pointer (some ⟨BB, 0, none⟩), sv, .pointer none, .int .u32 ((b + z.n) % 4294967296), .int .u32 hd, .int .i64 z.sent, .int .i64 z.got, .int .i64 z.n, .int .i64 st, .int .i64 ow] 77 (0, 0))) ∧ Kp (Core w0 wz P B D BB wd dp z OS ORz S Rz x) ∧ Kp (Only (fun k => Rz k ∨ k = P ∨ k = D) wq wz) ∧ wq.heap.size ≤ wz.heap.size) ⟨⟨blk_dr HP1.out⟩, ⟨HC1.out.dr⟩, ⟨HF1.out.trans (Only.of_below (below_dr (Below.refl _ _)))⟩, Nat.le_refl _⟩ (xc_of (fz' := (0, 0)) HX0.out (blk_dr HP1.out) 9 (fun _ _ => rfl)) (fun wd0 hRn hHeld => ?_)
        clear HP1 HC1 HF1
        obtain ⟨HP1, HC1, HF1, hsz⟩ := hRn
        refine wtk 0 ?_ rfl (.inl ⟨by rfl, ?_⟩) ?_
        rotate_left 1
        · (intro w hSw; go_simp; try with_reducible rfl)
        try simp only [Act.put, ls0, ls1, ls2]
        refine wtk 1 ?_ rfl (.inl ⟨by rfl, ?_⟩) ?_
        rotate_left 1
        · (intro w hSw; go_simp; try with_reducible rfl)
        try simp only [Act.put, ls0, ls1, ls2]
        refine wtk 2 ?_ rfl (.inl ⟨by rfl, ?_⟩) ?_
        rotate_left 1
        · (intro w hSw; go_simp; try with_reducible rfl)
        try simp only [Act.put, ls0, ls1, ls2]
        refine wtk 3 ?_ rfl (.inl ⟨by rfl, ?_⟩) ?_
        rotate_left 1
        · (intro w hSw; go_simp; try with_reducible rfl)
        try simp only [Act.put, ls0, ls1, ls2]
        refine wtk 4 ?_ rfl (.inl ⟨by rfl, ?_⟩) ?_
        rotate_left 1
        · (intro w hSw; go_simp; try with_reducible rfl)
        try simp only [Act.put, ls0, ls1, ls2]
        refine wtk 5 ?_ rfl (.inl ⟨by rfl, ?_⟩) ?_
        rotate_left 1
        · (intro w hSw; go_simp; try with_reducible rfl)
        try simp only [Act.put, ls0, ls1, ls2]
        refine wtk 6 ?_ rfl (.inl ⟨by rfl, ?_⟩) ?_
        rotate_left 1
        · (intro w hSw; go_simp; try with_reducible rfl)
        try simp only [Act.put, ls0, ls1, ls2]
        refine wtk 7 ?_ rfl (.inl ⟨by rfl, ?_⟩) ?_
        rotate_left 1
        · (intro w hSw; go_simp; try with_reducible rfl)
        try simp only [Act.put, ls0, ls1, ls2]
        refine wtk 8 ?_ rfl (.inl ⟨by rfl, ?_⟩) ?_
        rotate_left 1
        · (intro w hSw; go_simp; try with_reducible rfl)
        try simp only [Act.put, ls0, ls1, ls2]
        refine wrd [9] ?_
        refine (arc rfl (fun K hK => ?_) arn)
        go_simp
        go_at_call 39
        refine (receive_two hd hown _ (HK0.out.below HC1.out.low)).mono ?_
        rintro e w5 ⟨O1, g1, QB1, OB1, DB1, EB1, WB1, rfl, hN1, hb, hn1, hn2, hn3, hn4, hn5, hn6, hn7⟩
        obtain ⟨R1, hR1⟩ : ∃ R1 : Nat → Prop, R1 = fun k => wd0.heap.size ≤ k ∧ k < w5.heap.size := ⟨_, rfl⟩
        have hPw := blk_lt HP1.out
        try go_wp2_with fail
        refine out_gen hK _ _ (fun wz : World => Kp (wz.heap[P]? = some (.cells #[.slice kc.pa 2 kc.pc, .slice (some ⟨kc.cg, kc.co, none⟩) 1 kc.cc, .int .i64 1, .slice kc.a0 1 kc.c0, .int .i64 1, .slice kc.a1 1 kc.c1, .pointer (some ⟨B, 0, none⟩), .pointer (some ⟨BB, 0, none⟩), sv, .pointer none, .int .u32 ((b + z.n) % 4294967296), .int .u32 hd, .int .i64 z.sent, .int .i64 z.got, .int .i64 z.n, .int .i64 st, .int .i64 ow] 77 (0, 0))) ∧ Kp (Only (fun k => Rz k ∨ k = P ∨ k = D) wq wz) ∧ Kp (Core w0 wz P B D BB wd dp { z with r := ⟨0, hd, 0, [], (qu12 wd dp hd).cell⟩, rOn := true } OS O1 S R1 x) ∧ Kp (∀ k, R1 k → wq.heap.size ≤ k) ∧ Kp (w0.heap.size ≤ P ∧ ¬ S P ∧ ¬ R1 P ∧ P ≠ B ∧ P ≠ D ∧ P ≠ BB) ∧ wd0.heap.size ≤ wz.heap.size) ⟨⟨blk_below HP1.out hb⟩, ⟨HF1.out.trans (Only.of_below hb)⟩, ⟨by rw [hR1]; exact HC1.out.newR hPw hb hN1 ⟨hn1, hn2, hn3, hn4, hn5, hn6, hn7⟩ hown⟩, ⟨by rw [hR1]; rintro k ⟨hk, _⟩; omega⟩, ⟨⟨hP0.1, hP0.2.1, (by rw [hR1]; rintro ⟨hk, _⟩; omega), hP0.2.2.2⟩⟩, hb.size⟩ (xc_of (fz' := (0, 0)) HX0.out (blk_below HP1.out hb) 9 (fun _ _ => rfl)) (fun wd1 hRn hHn => ?_)
        clear hK K hHeld HP1 HC1 HF1 hb hN1 hR1 hPw hn1 hn2 hn3 hn4 hn5 hn6 hn7
        obtain ⟨HP1, HF1, HC1, HR1, HPN, hsz1⟩ := hRn
        have hHeld := hHn
        clear hHn
        try simp only [Act.put, ls0, ls1, ls2]
        refine wtk 10 ?_ rfl (.inl ⟨by rfl, ?_⟩) ?_
        rotate_left 1
        · (intro w hSw; go_simp; try with_reducible rfl)
        try simp only [Act.put, ls0, ls1, ls2]
        refine wtk 11 ?_ rfl (.inl ⟨by rfl, ?_⟩) ?_
        rotate_left 1
        · (intro w hSw; go_simp; try with_reducible rfl)
        try simp only [Act.put, ls0, ls1, ls2]
        refine wrd [12] ?_
        refine (arc rfl (fun K hK => ?_) arn)
        have hP1 := HPN.out
        have sd := cbk HP1.out 9 (.pointer none) rfl
        have sf := frozen_blk HP1.out 9
        have sl := blk_lt HP1.out
        go_simp
        try go_wp2_with fail
        refine out_gen hK _ _ (fun wz : World => Kp (wz.heap[P]? = some (.cells #[.slice kc.pa 2 kc.pc, .slice (some ⟨kc.cg, kc.co, none⟩) 1 kc.cc, .int .i64 1, .slice kc.a0 1 kc.c0, .int .i64 1, .slice kc.a1 1 kc.c1, .pointer (some ⟨B, 0, none⟩), .pointer (some ⟨BB, 0, none⟩), sv, .pointer (some ⟨O1, 0, none⟩), .int .u32 ((b + z.n) % 4294967296), .int .u32 hd, .int .i64 z.sent, .int .i64 z.got, .int .i64 z.n, .int .i64 st, .int .i64 ow] 77 (0, 0))) ∧ Kp (Only (fun k => Rz k ∨ k = P ∨ k = D) wq wz) ∧ Kp (Core w0 wz P B D BB wd dp { z with r := ⟨0, hd, 0, [], (qu12 wd dp hd).cell⟩, rOn := true } OS O1 S R1 x) ∧ Kp (∀ k, R1 k → wq.heap.size ≤ k) ∧ Kp (w0.heap.size ≤ P ∧ ¬ S P ∧ ¬ R1 P ∧ P ≠ B ∧ P ≠ D ∧ P ≠ BB) ∧ wd1.heap.size ≤ wz.heap.size) ⟨⟨(blk_set HP1.out 9 _).trans (by simp only [ls0, ls1, ls2])⟩, ⟨HF1.out.trans (Only.of_but (ButS.set (ButS.refl [P] _) (p := ⟨P, 9, none⟩) (by simp) _) (by simp))⟩, ⟨HC1.out.set P 9 _ hP1⟩, ⟨HR1.out⟩, ⟨HPN.out⟩, (by simp [World.setCell])⟩ (xc_of (fz' := (0, 0)) HX0.out ((blk_set HP1.out 9 _).trans (by simp only [ls0, ls1, ls2])) 9 (xc_ne (cs := #[.slice kc.pa 2 kc.pc, .slice (some ⟨kc.cg, kc.co, none⟩) 1 kc.cc, .int .i64 1, .slice kc.a0 1 kc.c0, .int .i64 1, .slice kc.a1 1 kc.c1, .pointer (some ⟨B, 0, none⟩), .pointer (some ⟨BB, 0, none⟩), sv, .pointer none, .int .u32 ((b + z.n) % 4294967296), .int .u32 hd, .int .i64 z.sent, .int .i64 z.got, .int .i64 z.n, .int .i64 st, .int .i64 ow]) 9 (.pointer (some ⟨O1, 0, none⟩)))) (fun wd2 hRn hHn => ?_)
        clear hK K hHeld HP1 HF1 HC1 HR1 HPN sd sf sl
        obtain ⟨HP1, HF1, HC1, HR1, HPN, hsz2⟩ := hRn
        have hHeld := hHn
        clear hHn
        try simp only [Act.put, ls0, ls1, ls2]
        refine wpAnyH_done (by kernel_rfl) ?_ _
        clear HX0
        exact JQ.mk ⟨O1, R1, _, _, _, _, _, _, _, _, _, _, _, _, _, _, _, _, _, _, _, _, rfl, HP1, HC1, HF1, HR1, HPN⟩
      · rintro a wj ⟨O1, R1, u7, u8, u9, u10, u11, u12, u13, u14, u15, u16, u17, u18, u19, u20, u21, u22, u23, u24, u25, u26, rfl, HP1, HC1, HF1, HR1, HPN⟩
        have lPj := blk_lt HP1.out
        have c0 := cbk HP1.out 0 (.slice kc.pa 2 kc.pc) rfl
        have c1 := cbk HP1.out 1 (.slice (some ⟨kc.cg, kc.co, none⟩) 1 kc.cc) rfl
        have c2 := cbk HP1.out 2 (.int .i64 1) rfl
        have c3 := cbk HP1.out 3 (.slice kc.a0 1 kc.c0) rfl
        have c4 := cbk HP1.out 4 (.int .i64 1) rfl
        have c5 := cbk HP1.out 5 (.slice kc.a1 1 kc.c1) rfl
        have c6 := cbk HP1.out 6 (.pointer (some ⟨B, 0, none⟩)) rfl
        have c7 := cbk HP1.out 7 (.pointer (some ⟨BB, 0, none⟩)) rfl
        have c8 := cbk HP1.out 8 (sv) rfl
        have c9 := cbk HP1.out 9 (.pointer (some ⟨O1, 0, none⟩)) rfl
        have c10 := cbk HP1.out 10 (.int .u32 ((b + z.n) % 4294967296)) rfl
        have c11 := cbk HP1.out 11 (.int .u32 hd) rfl
        have c12 := cbk HP1.out 12 (.int .i64 z.sent) rfl
        have c13 := cbk HP1.out 13 (.int .i64 z.got) rfl
        have c14 := cbk HP1.out 14 (.int .i64 z.n) rfl
        have c15 := cbk HP1.out 15 (.int .i64 st) rfl
        have c16 := cbk HP1.out 16 (.int .i64 ow) rfl
        have cf16 := frozen_blk HP1.out 16
        go_wp2
        have hz1 : { z with r := ⟨0, hd, 0, [], (qu12 wd dp hd).cell⟩, rOn := true } = z1 := by
          rw [← HS1z.out, ← HHD.out, qu12_cell]
          rfl
        have hC2 := HC1.out
        rw [hz1] at hC2
        have e_n : z1.n = z.n := HE0.out.2.1
        have e_g : z1.got = z.got := HE0.out.2.2
        have e_s : z1.sent = z.sent := HE0.out.1
        have e_pc : z1.r.pc = 0 := by rw [← hz1]
        have e_r : z1.s = z.s := by rw [← hz1]
        have e_o : z1.sOn = z.sOn := by rw [← hz1]
        have e_so : z1.rOn = true := by rw [← hz1]
        have e_ow : (if z1.r.pc ≤ 1 then z1.r.pc else 2 + z1.r.data.length) = 0 := by rw [e_pc]; rfl
        refine JQ.mk ?_
        rw [HRR.out]
        refine ⟨_, _, _, _, _, _, _, _, _, _, _, _, _, _, _, _, _, _, _, _, O1, R1, rfl, ⟨?_⟩, ⟨?_⟩, ⟨fun k hk => .inr (HR1.out k hk)⟩⟩
        · refine ⟨?_, fun e => HZ0.out.s0 (e_o ▸ e), fun e => (by rw [e_r]; exact HZ0.out.s1 (e_o ▸ e)), fun e => (by rw [e_so] at e; cases e), fun _ => ⟨rfl, rfl⟩, hC2.set P 16 _ HPN.out, hP0.1⟩
          rw [e_n, e_g, e_s, e_ow, HHD.out]
          exact (blk_set HP1.out 16 _).trans (by first | (simp only [ls0, ls1, ls2]; done) | rfl)
        · exact HF1.out.trans (Only.of_but (ButS.set (ButS.refl [P] wj) (p := ⟨P, 16, none⟩) (by simp) _) (by simp))
  · intro a w hRa
    rw [HRR.out] at hRa
    obtain ⟨u7, u8, u9, u10, u11, u12, u13, u14, u15, u16, u17, u18, u19, u20, u21, u22, u23, u24, u25, u26, OR, R, rfl, HPA, HF1, HSS⟩ := hRa
    have h := HPA.out
    clear HPA HS0 HZ0 HRR
    obtain ⟨OW, hOW⟩ : ∃ OW : Nat, (if z1.r.pc ≤ 1 then z1.r.pc else 2 + z1.r.data.length) = OW := ⟨_, rfl⟩
    have HOWV := Kp.mk hOW
    rw [hOW] at h
    have HP1 := Kp.mk h.blk
    have HC1 := Kp.mk h.core
    have HRZ := Kp.mk (And.intro h.s0 h.s1)
    have hSP : ¬ S P := fun e => (h.core.sS _ e).2.2.1 rfl
    have hRP : ¬ R P := fun e => (h.core.sR _ e).2.2.1 rfl
    have hSlt : ∀ k, S k → k < w.heap.size := fun k hk => (h.core.sS k hk).2.1
    have lD := blk_lt h.core.mem.words
    have lB := blk_lt h.core.mem.head
    have hRlt : ∀ k, R k → k < w.heap.size := fun k hk => (h.core.sR k hk).2.1
    have lBB := h.core.bell.lt
    have lP := blk_lt h.blk
    have hwq : wq.heap.size ≤ w.heap.size := HF1.out.size
    obtain ⟨e_se1, e_n1, e_g1⟩ := HE0.out
    have hz1s : z1.sent ≤ 100000 := by omega
    have hz1g : z1.got ≤ z1.sent := HJ0.out.le
    have hOW40 : OW ≤ 30 := by
      rw [← hOW]
      have hpc2 := (HJ0.out.rc ho1).2.2
      by_cases h2 : z1.r.pc = 2
      · have hr2 := HJ0.out.r2 ho1 h2
        have hll : (rmsg (pl12 wd dp).words z1.got).length = 1 + z1.got % wd.toNat := rmsg_len _ _
        have hml := Nat.mod_lt z1.got (show 0 < wd.toNat by omega)
        rw [if_neg (by omega)]
        omega
      · rw [if_pos (by omega)]
        omega
    have hPn : ¬ (R P ∨ P = D) := by
      rintro (h1 | h1)
      · exact hRP h1
      · exact hP0.2.2.2.2.1 h1
    have hORlt : OR < w.heap.size := by
      obtain ⟨own, QB, OBB, DB, EB, WB, bs, _, hR⟩ := h.core.r1 ho1
      exact hRlt _ hR.inX.1
    have h0w := h.core.low.size
    obtain ⟨d, hd⟩ : ∃ d, qDid (pl12 wd dp) z1.ws z1.r = d := ⟨_, rfl⟩
    have HDD := Kp.mk hd
    obtain ⟨dn, hdn⟩ : ∃ dn, d.data.length = dn := ⟨_, rfl⟩
    have HDN := Kp.mk hdn
    clear h hd hdn e_se1 e_n1 e_g1 HE0 hOW
    have c0 := cbk HP1.out 0 (.slice kc.pa 2 kc.pc) rfl
    have c1 := cbk HP1.out 1 (.slice (some ⟨kc.cg, kc.co, none⟩) 1 kc.cc) rfl
    have c2 := cbk HP1.out 2 (.int .i64 1) rfl
    have c3 := cbk HP1.out 3 (.slice kc.a0 1 kc.c0) rfl
    have c4 := cbk HP1.out 4 (.int .i64 1) rfl
    have c5 := cbk HP1.out 5 (.slice kc.a1 1 kc.c1) rfl
    have c6 := cbk HP1.out 6 (.pointer (some ⟨B, 0, none⟩)) rfl
    have c7 := cbk HP1.out 7 (.pointer (some ⟨BB, 0, none⟩)) rfl
    have c8 := cbk HP1.out 8 (sv) rfl
    have c9 := cbk HP1.out 9 (.pointer (some ⟨OR, 0, none⟩)) rfl
    have c10 := cbk HP1.out 10 (.int .u32 ((b + z1.n) % 4294967296)) rfl
    have c11 := cbk HP1.out 11 (.int .u32 ((b + z1.got) % 4294967296)) rfl
    have c12 := cbk HP1.out 12 (.int .i64 z1.sent) rfl
    have c13 := cbk HP1.out 13 (.int .i64 z1.got) rfl
    have c14 := cbk HP1.out 14 (.int .i64 z1.n) rfl
    have c15 := cbk HP1.out 15 (.int .i64 st) rfl
    have c16 := cbk HP1.out 16 (.int .i64 OW) rfl
    go_wp2_with fail
    refine JQ.region (fun a wj => ∃ (T : Nat) (va : Option Addr) (vc : Nat) (R1 : Nat → Prop) (u7 u8 u9 u10 u11 u12 u13 u14 u15 u16 u17 u18 u19 u20 u21 u22 u23 u24 u25 u26 u27 u28 u29 u30 u31 u32 u33 u34 u35 u36 u37 u38 u39 : Value), a = ⟨#[.pointer (some ⟨P, 0, none⟩), undef, .bool false, .pointer (some ⟨T, 0, none⟩), undef, undef, undef, u7, u8, u9, u10, u11, u12, u13, u14, u15, u16, u17, u18, u19, u20, u21, u22, u23, u24, u25, u26, u27, u28, u29, u30, u31, u32, u33, u34, u35, u36, u37, u38, u39, undef, undef, undef, undef, undef, undef, undef, undef, undef, undef, undef, undef, undef, undef, undef, undef, undef, undef, undef, undef, undef, undef, undef, undef, undef, undef, undef, undef, undef, undef, undef, undef, undef, undef, undef, undef, undef, undef, undef, undef, undef, undef, undef, undef, undef, undef, undef, undef, undef, undef, undef, undef, undef, undef, undef, undef, undef, undef, undef, undef, undef, undef, undef, undef, undef, undef, undef, undef, undef, undef, undef, undef, undef, undef, undef, undef, undef, undef, undef, undef, undef, undef, undef, undef, undef, undef, undef, undef, undef, undef, undef, undef, undef, undef, undef, undef, undef, undef, undef, undef, undef, undef, undef, undef, undef, undef, undef, undef, undef, undef, undef, undef, undef, undef, undef, undef, undef, undef, undef, undef, undef, undef, undef, undef, undef, undef, undef, undef, undef, undef, undef, undef], []⟩ ∧ Kp (wj.heap[P]? = some (.cells #[.slice kc.pa 2 kc.pc, .slice (some ⟨kc.cg, kc.co, none⟩) 1 kc.cc, .int .i64 1, .slice kc.a0 1 kc.c0, .int .i64 1, .slice kc.a1 1 kc.c1, .pointer (some ⟨B, 0, none⟩), .pointer (some ⟨BB, 0, none⟩), sv, .pointer (some ⟨OR, 0, none⟩), .int .u32 ((b + z1.n) % 4294967296), .int .u32 ((b + z1.got) % 4294967296), .int .i64 z1.sent, .int .i64 z1.got, .int .i64 z1.n, .int .i64 st, .int .i64 OW] 77 (0, 0))) ∧ Kp (Core w0 wj P B D BB wd dp (stepQ (pl12 wd dp) z1) OS OR S R1 x) ∧ Kp (Only (fun k => Rz k ∨ k = P ∨ k = D) wq wj) ∧ Kp (∃ lv, wj.heap[OR]? = some (.cells #[.int .u32 (qNext (pl12 wd dp) z1.ws z1.r).own, lv] 132 (0, 0))) ∧ Kp (RowAt wj 1 (.slice va dn vc) dn (u32s d.data)) ∧ Kp (∀ x9 : Addr, va = some x9 → R x9.block) ∧ Kp (∀ k, R1 k → Rz k ∨ wq.heap.size ≤ k) ∧ Kp (w0.heap.size ≤ P ∧ ¬ S P ∧ ¬ R1 P ∧ P ≠ B ∧ P ≠ D ∧ P ≠ BB) ∧ Kp (wj.heap[T]? = some (.cells #[.bool d.done, .int .i64 d.code, .slice va dn vc, .bool d.valid, .int .i64 d.count, .bool d.mark, .bool d.ring, .bool d.stamped, .int .i64 d.buffer] 64 (0, 0)))) ?_ ?_
    · have HX0 : Kp (w.heap[P]? = some (.cells #[.slice kc.pa 2 kc.pc, .slice (some ⟨kc.cg, kc.co, none⟩) 1 kc.cc, .int .i64 1, .slice kc.a0 1 kc.c0, .int .i64 1, .slice kc.a1 1 kc.c1, .pointer (some ⟨B, 0, none⟩), .pointer (some ⟨BB, 0, none⟩), sv, .pointer (some ⟨OR, 0, none⟩), .int .u32 ((b + z1.n) % 4294967296), .int .u32 ((b + z1.got) % 4294967296), .int .i64 z1.sent, .int .i64 z1.got, .int .i64 z1.n, .int .i64 st, .int .i64 OW] 77 (0, 0))) := ⟨HP1.out⟩
      refine held_start_gen (S := (fun w' : World => ∀ o, o ≠ 99 → w'.cell? ⟨P, o, none⟩ = w.cell? ⟨P, o, none⟩)) (by kernel_rfl) (fun wz : World => Kp (wz.heap[P]? = some (.cells #[.slice kc.pa 2 kc.pc, .slice (some ⟨kc.cg, kc.co, none⟩) 1 kc.cc, .int .i64 1, .slice kc.a0 1 kc.c0, .int .i64 1, .slice kc.a1 1 kc.c1, .pointer (some ⟨B, 0, none⟩), .pointer (some ⟨BB, 0, none⟩), sv, .pointer (some ⟨OR, 0, none⟩), .int .u32 ((b + z1.n) % 4294967296), .int .u32 ((b + z1.got) % 4294967296), .int .i64 z1.sent, .int .i64 z1.got, .int .i64 z1.n, .int .i64 st, .int .i64 OW] 77 (0, 0))) ∧ Kp (Core w0 wz P B D BB wd dp z1 OS OR S R x) ∧ Kp (Only (fun k => Rz k ∨ k = P ∨ k = D) wq wz) ∧ w.heap.size ≤ wz.heap.size) ⟨⟨blk_dr HP1.out⟩, ⟨HC1.out.dr⟩, ⟨HF1.out.trans (Only.of_below (below_dr (Below.refl _ _)))⟩, Nat.le_refl _⟩ (xc_of (fz' := (0, 0)) HX0.out (blk_dr HP1.out) 99 (fun _ _ => rfl)) (fun wd0 hRn hHeld => ?_)
      clear HP1 HC1 HF1
      obtain ⟨HP1, HC1, HF1, hsz⟩ := hRn
      refine wtk 0 ?_ rfl (.inl ⟨by rfl, ?_⟩) ?_
      rotate_left 1
      · (intro w hSw; go_simp; try with_reducible rfl)
      try simp only [Act.put, ls0, ls1, ls2]
      refine wtk 1 ?_ rfl (.inl ⟨by rfl, ?_⟩) ?_
      rotate_left 1
      · (intro w hSw; go_simp; try with_reducible rfl)
      try simp only [Act.put, ls0, ls1, ls2]
      refine wtk 2 ?_ rfl (.inl ⟨by rfl, ?_⟩) ?_
      rotate_left 1
      · (intro w hSw; go_simp; try with_reducible rfl)
      try simp only [Act.put, ls0, ls1, ls2]
      refine wtk 3 ?_ rfl (.inl ⟨by rfl, ?_⟩) ?_
      rotate_left 1
      · (intro w hSw; go_simp; try with_reducible rfl)
      try simp only [Act.put, ls0, ls1, ls2]
      refine wtk 4 ?_ rfl (.inl ⟨by rfl, ?_⟩) ?_
      rotate_left 1
      · (intro w hSw; go_simp; try with_reducible rfl)
      try simp only [Act.put, ls0, ls1, ls2]
      refine wtk 5 ?_ rfl (.inl ⟨by rfl, ?_⟩) ?_
      rotate_left 1
      · (intro w hSw; go_simp; try with_reducible rfl)
      try simp only [Act.put, ls0, ls1, ls2]
      refine wtk 6 ?_ rfl (.inl ⟨by rfl, ?_⟩) ?_
      rotate_left 1
      · (intro w hSw; go_simp; try with_reducible rfl)
      try simp only [Act.put, ls0, ls1, ls2]
      refine wtk 7 ?_ rfl (.inl ⟨by rfl, ?_⟩) ?_
      rotate_left 1
      · (intro w hSw; go_simp; try with_reducible rfl)
      try simp only [Act.put, ls0, ls1, ls2]
      refine wtk 8 ?_ rfl (.inl ⟨by rfl, ?_⟩) ?_
      rotate_left 1
      · (intro w hSw; go_simp; try with_reducible rfl)
      try simp only [Act.put, ls0, ls1, ls2]
      refine wtk 9 ?_ rfl (.inl ⟨by rfl, ?_⟩) ?_
      rotate_left 1
      · (intro w hSw; go_simp; try with_reducible rfl)
      try simp only [Act.put, ls0, ls1, ls2]
      refine wtk 10 ?_ rfl (.inl ⟨by rfl, ?_⟩) ?_
      rotate_left 1
      · (intro w hSw; go_simp; try with_reducible rfl)
      try simp only [Act.put, ls0, ls1, ls2]
      refine wtk 11 ?_ rfl (.inl ⟨by rfl, ?_⟩) ?_
      rotate_left 1
      · (intro w hSw; go_simp; try with_reducible rfl)
      try simp only [Act.put, ls0, ls1, ls2]
      refine wrd [12, 13] ?_
      refine (arc rfl (fun K hK => ?_) (arc rfl (fun K hK => ?_) arn))
      · go_simp
        go_at_call 36
        have HSt := HC1.out.recv hi ho1 (blk_lt HP1.out) 0
        rw [HDD.out, HDN.out] at HSt
        unfold didV at HSt
        refine HSt.mono ?_
        clear HSt
        rintro e w9 ⟨v9, rfl, hrow9, hv9, hOS9, hC9, hb⟩
        obtain ⟨va, vc, rfl, _, _⟩ := hrow9.shape
        obtain ⟨R1, hR1⟩ : ∃ R1 : Nat → Prop, R1 = More R wd0 w9 := ⟨_, rfl⟩
        rw [← hR1] at hC9
        try go_wp2_with fail
        refine out_gen hK _ _ (fun wz : World => Kp (wz.heap[P]? = some (.cells #[.slice kc.pa 2 kc.pc, .slice (some ⟨kc.cg, kc.co, none⟩) 1 kc.cc, .int .i64 1, .slice kc.a0 1 kc.c0, .int .i64 1, .slice kc.a1 1 kc.c1, .pointer (some ⟨B, 0, none⟩), .pointer (some ⟨BB, 0, none⟩), sv, .pointer (some ⟨OR, 0, none⟩), .int .u32 ((b + z1.n) % 4294967296), .int .u32 ((b + z1.got) % 4294967296), .int .i64 z1.sent, .int .i64 z1.got, .int .i64 z1.n, .int .i64 st, .int .i64 OW] 77 (0, 0))) ∧ Kp (Only (fun k => Rz k ∨ k = P ∨ k = D) wq wz) ∧ Kp (Core w0 wz P B D BB wd dp (stepQ (pl12 wd dp) z1) OS OR S R1 x) ∧ Kp (∃ lv, wz.heap[OR]? = some (.cells #[.int .u32 (qNext (pl12 wd dp) z1.ws z1.r).own, lv] 132 (0, 0))) ∧ Kp (RowAt wz 1 (.slice va dn vc) dn (u32s d.data)) ∧ Kp (∀ x9 : Addr, va = some x9 → R x9.block) ∧ Kp (∀ k, R1 k → Rz k ∨ wq.heap.size ≤ k) ∧ Kp (w0.heap.size ≤ P ∧ ¬ S P ∧ ¬ R1 P ∧ P ≠ B ∧ P ≠ D ∧ P ≠ BB) ∧ wd0.heap.size ≤ wz.heap.size) ⟨⟨hb.blk HP1.out hPn⟩, ⟨HF1.out.trans' hb (fun i hi hx => by
          rcases hx with hx | rfl
          · rcases HSS.out i hx with h1 | h1
            · exact .inl h1
            · omega
          · exact .inr (.inr rfl))⟩, ⟨hC9⟩, ⟨hOS9⟩, ⟨hrow9⟩, ⟨fun x9 hx9 => hv9 _ (by rw [hx9]; rfl)⟩, ⟨by rw [hR1]; rintro k (hk | hk); exact HSS.out k hk; right; omega⟩, ⟨⟨hP0.1, hSP, (by rw [hR1]; rintro (e | e); exact hRP e; omega), hP0.2.2.2⟩⟩, hb.size⟩ (xc_of (fz' := (0, 0)) HX0.out (hb.blk HP1.out hPn) 99 (fun _ _ => rfl)) (fun wd1 hRn hHn => ?_)
        clear hK K hHeld HP1 HC1 HF1 hOS9 hC9 hb hrow9 hv9 hR1
        obtain ⟨HP1, HF1, HC1, HOW, HRW, HVR, HR1, HPN, hsz1⟩ := hRn
        have hHeld := hHn
        clear hHn
        try simp only [Act.put, ls0, ls1, ls2]
        refine wrd [13] ?_
        refine (arc rfl (fun K hK => ?_) arn)
        have ge_db : w.heap.size ≤ wd1.heap.size := (by omega)
        go_simp
        try go_wp2_with fail
        refine out_gen hK _ _ (fun wz : World => Kp (wz.heap[P]? = some (.cells #[.slice kc.pa 2 kc.pc, .slice (some ⟨kc.cg, kc.co, none⟩) 1 kc.cc, .int .i64 1, .slice kc.a0 1 kc.c0, .int .i64 1, .slice kc.a1 1 kc.c1, .pointer (some ⟨B, 0, none⟩), .pointer (some ⟨BB, 0, none⟩), sv, .pointer (some ⟨OR, 0, none⟩), .int .u32 ((b + z1.n) % 4294967296), .int .u32 ((b + z1.got) % 4294967296), .int .i64 z1.sent, .int .i64 z1.got, .int .i64 z1.n, .int .i64 st, .int .i64 OW] 77 (0, 0))) ∧ Kp (Only (fun k => Rz k ∨ k = P ∨ k = D) wq wz) ∧ Kp (Core w0 wz P B D BB wd dp (stepQ (pl12 wd dp) z1) OS OR S R1 x) ∧ Kp (∃ lv, wz.heap[OR]? = some (.cells #[.int .u32 (qNext (pl12 wd dp) z1.ws z1.r).own, lv] 132 (0, 0))) ∧ Kp (RowAt wz 1 (.slice va dn vc) dn (u32s d.data)) ∧ Kp (∀ x9 : Addr, va = some x9 → R x9.block) ∧ Kp (∀ k, R1 k → Rz k ∨ wq.heap.size ≤ k) ∧ Kp (w0.heap.size ≤ P ∧ ¬ S P ∧ ¬ R1 P ∧ P ≠ B ∧ P ≠ D ∧ P ≠ BB) ∧ Kp (wz.heap[wd1.heap.size]? = some (.cells #[.bool false, .int .i64 0, .slice none 0 0, .bool false, .int .i64 0, .bool false, .bool false, .bool false, .int .i64 0] 64 (0, 0))) ∧ Kp (w0.heap.size ≤ wd1.heap.size ∧ ¬ S wd1.heap.size ∧ ¬ R1 wd1.heap.size ∧ wd1.heap.size ≠ B ∧ wd1.heap.size ≠ D ∧ wd1.heap.size ≠ BB) ∧ wd1.heap.size < wz.heap.size) ⟨⟨blk_al HP1.out _⟩, ⟨HF1.out.trans (Only.of_below (below_al (Below.refl _ _) _))⟩, ⟨HC1.out.al _⟩, ⟨HOW.out.imp fun _ h => blk_al h _⟩, ⟨HRW.out.below (below_al (Below.refl _ _) _)⟩, ⟨HVR.out⟩, ⟨HR1.out⟩, ⟨HPN.out⟩, ⟨blk_new wd1 _⟩, ⟨⟨by omega, fun e => (by have := hSlt _ e; omega), fun e => (by have := (HC1.out.sR _ e).2.1; omega), by omega, by omega, by omega⟩⟩, (by simp)⟩ (xc_of (fz' := (0, 0)) HX0.out (blk_al HP1.out _) 99 (fun _ _ => rfl)) (fun wd2 hRn hHn => ?_)
        clear hK K hHeld HP1 HF1 HC1 HOW HRW HVR HR1 HPN
        obtain ⟨HP1, HF1, HC1, HOW, HRW, HVR, HR1, HPN, db, HTN, hsz2⟩ := hRn
        have hHeld := hHn
        clear hHn
        try simp only [Act.put, ls0, ls1, ls2]
        have lt_db := blk_lt db.out
        refine wrd [14] ?_
        refine (arc rfl (fun K hK => ?_) arn)
        have sd0 := cbk db.out 0 (.bool false) rfl
        have sf0 := frozen_blk db.out 0
        have sd1 := cbk db.out 1 (.int .i64 0) rfl
        have sf1 := frozen_blk db.out 1
        have sd2 := cbk db.out 2 (.slice none 0 0) rfl
        have sf2 := frozen_blk db.out 2
        have sd3 := cbk db.out 3 (.bool false) rfl
        have sf3 := frozen_blk db.out 3
        have sd4 := cbk db.out 4 (.int .i64 0) rfl
        have sf4 := frozen_blk db.out 4
        have sd5 := cbk db.out 5 (.bool false) rfl
        have sf5 := frozen_blk db.out 5
        have sd6 := cbk db.out 6 (.bool false) rfl
        have sf6 := frozen_blk db.out 6
        have sd7 := cbk db.out 7 (.bool false) rfl
        have sf7 := frozen_blk db.out 7
        have sd8 := cbk db.out 8 (.int .i64 0) rfl
        have sf8 := frozen_blk db.out 8
        have sl := blk_lt db.out
        go_simp
        try go_wp2_with fail
        refine out_gen hK _ _ (fun wz : World => Kp (wz.heap[P]? = some (.cells #[.slice kc.pa 2 kc.pc, .slice (some ⟨kc.cg, kc.co, none⟩) 1 kc.cc, .int .i64 1, .slice kc.a0 1 kc.c0, .int .i64 1, .slice kc.a1 1 kc.c1, .pointer (some ⟨B, 0, none⟩), .pointer (some ⟨BB, 0, none⟩), sv, .pointer (some ⟨OR, 0, none⟩), .int .u32 ((b + z1.n) % 4294967296), .int .u32 ((b + z1.got) % 4294967296), .int .i64 z1.sent, .int .i64 z1.got, .int .i64 z1.n, .int .i64 st, .int .i64 OW] 77 (0, 0))) ∧ Kp (Only (fun k => Rz k ∨ k = P ∨ k = D) wq wz) ∧ Kp (Core w0 wz P B D BB wd dp (stepQ (pl12 wd dp) z1) OS OR S R1 x) ∧ Kp (∃ lv, wz.heap[OR]? = some (.cells #[.int .u32 (qNext (pl12 wd dp) z1.ws z1.r).own, lv] 132 (0, 0))) ∧ Kp (RowAt wz 1 (.slice va dn vc) dn (u32s d.data)) ∧ Kp (∀ x9 : Addr, va = some x9 → R x9.block) ∧ Kp (∀ k, R1 k → Rz k ∨ wq.heap.size ≤ k) ∧ Kp (w0.heap.size ≤ P ∧ ¬ S P ∧ ¬ R1 P ∧ P ≠ B ∧ P ≠ D ∧ P ≠ BB) ∧ Kp (wz.heap[wd1.heap.size]? = some (.cells #[.bool d.done, .int .i64 d.code, .slice va dn vc, .bool d.valid, .int .i64 d.count, .bool d.mark, .bool d.ring, .bool d.stamped, .int .i64 d.buffer] 64 (0, 0))) ∧ Kp (w0.heap.size ≤ wd1.heap.size ∧ ¬ S wd1.heap.size ∧ ¬ R1 wd1.heap.size ∧ wd1.heap.size ≠ B ∧ wd1.heap.size ≠ D ∧ wd1.heap.size ≠ BB) ∧ wd2.heap.size ≤ wz.heap.size) ⟨⟨(blk_set_ne (p := ⟨wd1.heap.size, 8, none⟩) (blk_set_ne (p := ⟨wd1.heap.size, 7, none⟩) (blk_set_ne (p := ⟨wd1.heap.size, 6, none⟩) (blk_set_ne (p := ⟨wd1.heap.size, 5, none⟩) (blk_set_ne (p := ⟨wd1.heap.size, 4, none⟩) (blk_set_ne (p := ⟨wd1.heap.size, 3, none⟩) (blk_set_ne (p := ⟨wd1.heap.size, 2, none⟩) (blk_set_ne (p := ⟨wd1.heap.size, 1, none⟩) (blk_set_ne (p := ⟨wd1.heap.size, 0, none⟩) HP1.out (by show P ≠ wd1.heap.size; omega) _) (by show P ≠ wd1.heap.size; omega) _) (by show P ≠ wd1.heap.size; omega) _) (by show P ≠ wd1.heap.size; omega) _) (by show P ≠ wd1.heap.size; omega) _) (by show P ≠ wd1.heap.size; omega) _) (by show P ≠ wd1.heap.size; omega) _) (by show P ≠ wd1.heap.size; omega) _) (by show P ≠ wd1.heap.size; omega) _)⟩, ⟨(((((((((HF1.out.trans' (Only.of_but (X := fun i => i = wd1.heap.size) (ButS.set (ButS.refl [wd1.heap.size] _) (p := ⟨wd1.heap.size, 0, none⟩) (by simp) _) (by simp)) (fun i hi hx => by omega)).trans' (Only.of_but (X := fun i => i = wd1.heap.size) (ButS.set (ButS.refl [wd1.heap.size] _) (p := ⟨wd1.heap.size, 1, none⟩) (by simp) _) (by simp)) (fun i hi hx => by omega)).trans' (Only.of_but (X := fun i => i = wd1.heap.size) (ButS.set (ButS.refl [wd1.heap.size] _) (p := ⟨wd1.heap.size, 2, none⟩) (by simp) _) (by simp)) (fun i hi hx => by omega)).trans' (Only.of_but (X := fun i => i = wd1.heap.size) (ButS.set (ButS.refl [wd1.heap.size] _) (p := ⟨wd1.heap.size, 3, none⟩) (by simp) _) (by simp)) (fun i hi hx => by omega)).trans' (Only.of_but (X := fun i => i = wd1.heap.size) (ButS.set (ButS.refl [wd1.heap.size] _) (p := ⟨wd1.heap.size, 4, none⟩) (by simp) _) (by simp)) (fun i hi hx => by omega)).trans' (Only.of_but (X := fun i => i = wd1.heap.size) (ButS.set (ButS.refl [wd1.heap.size] _) (p := ⟨wd1.heap.size, 5, none⟩) (by simp) _) (by simp)) (fun i hi hx => by omega)).trans' (Only.of_but (X := fun i => i = wd1.heap.size) (ButS.set (ButS.refl [wd1.heap.size] _) (p := ⟨wd1.heap.size, 6, none⟩) (by simp) _) (by simp)) (fun i hi hx => by omega)).trans' (Only.of_but (X := fun i => i = wd1.heap.size) (ButS.set (ButS.refl [wd1.heap.size] _) (p := ⟨wd1.heap.size, 7, none⟩) (by simp) _) (by simp)) (fun i hi hx => by omega)).trans' (Only.of_but (X := fun i => i = wd1.heap.size) (ButS.set (ButS.refl [wd1.heap.size] _) (p := ⟨wd1.heap.size, 8, none⟩) (by simp) _) (by simp)) (fun i hi hx => by omega))⟩, ⟨(((((((((HC1.out.set wd1.heap.size 0 _ HTN.out).set wd1.heap.size 1 _ HTN.out).set wd1.heap.size 2 _ HTN.out).set wd1.heap.size 3 _ HTN.out).set wd1.heap.size 4 _ HTN.out).set wd1.heap.size 5 _ HTN.out).set wd1.heap.size 6 _ HTN.out).set wd1.heap.size 7 _ HTN.out).set wd1.heap.size 8 _ HTN.out)⟩, ⟨(((((((((HOW.out.imp fun _ h => blk_set_ne (p := ⟨wd1.heap.size, 0, none⟩) h (by show OR ≠ wd1.heap.size; omega) _).imp fun _ h => blk_set_ne (p := ⟨wd1.heap.size, 1, none⟩) h (by show OR ≠ wd1.heap.size; omega) _).imp fun _ h => blk_set_ne (p := ⟨wd1.heap.size, 2, none⟩) h (by show OR ≠ wd1.heap.size; omega) _).imp fun _ h => blk_set_ne (p := ⟨wd1.heap.size, 3, none⟩) h (by show OR ≠ wd1.heap.size; omega) _).imp fun _ h => blk_set_ne (p := ⟨wd1.heap.size, 4, none⟩) h (by show OR ≠ wd1.heap.size; omega) _).imp fun _ h => blk_set_ne (p := ⟨wd1.heap.size, 5, none⟩) h (by show OR ≠ wd1.heap.size; omega) _).imp fun _ h => blk_set_ne (p := ⟨wd1.heap.size, 6, none⟩) h (by show OR ≠ wd1.heap.size; omega) _).imp fun _ h => blk_set_ne (p := ⟨wd1.heap.size, 7, none⟩) h (by show OR ≠ wd1.heap.size; omega) _).imp fun _ h => blk_set_ne (p := ⟨wd1.heap.size, 8, none⟩) h (by show OR ≠ wd1.heap.size; omega) _)⟩, ⟨(((((((((HRW.out.but (ButS.set (ButS.refl [wd1.heap.size] _) (p := ⟨wd1.heap.size, 0, none⟩) (by simp) _) (fun x9 hx9 => by have := hRlt _ (HVR.out x9 hx9); simp only [List.mem_singleton]; omega)).but (ButS.set (ButS.refl [wd1.heap.size] _) (p := ⟨wd1.heap.size, 1, none⟩) (by simp) _) (fun x9 hx9 => by have := hRlt _ (HVR.out x9 hx9); simp only [List.mem_singleton]; omega)).but (ButS.set (ButS.refl [wd1.heap.size] _) (p := ⟨wd1.heap.size, 2, none⟩) (by simp) _) (fun x9 hx9 => by have := hRlt _ (HVR.out x9 hx9); simp only [List.mem_singleton]; omega)).but (ButS.set (ButS.refl [wd1.heap.size] _) (p := ⟨wd1.heap.size, 3, none⟩) (by simp) _) (fun x9 hx9 => by have := hRlt _ (HVR.out x9 hx9); simp only [List.mem_singleton]; omega)).but (ButS.set (ButS.refl [wd1.heap.size] _) (p := ⟨wd1.heap.size, 4, none⟩) (by simp) _) (fun x9 hx9 => by have := hRlt _ (HVR.out x9 hx9); simp only [List.mem_singleton]; omega)).but (ButS.set (ButS.refl [wd1.heap.size] _) (p := ⟨wd1.heap.size, 5, none⟩) (by simp) _) (fun x9 hx9 => by have := hRlt _ (HVR.out x9 hx9); simp only [List.mem_singleton]; omega)).but (ButS.set (ButS.refl [wd1.heap.size] _) (p := ⟨wd1.heap.size, 6, none⟩) (by simp) _) (fun x9 hx9 => by have := hRlt _ (HVR.out x9 hx9); simp only [List.mem_singleton]; omega)).but (ButS.set (ButS.refl [wd1.heap.size] _) (p := ⟨wd1.heap.size, 7, none⟩) (by simp) _) (fun x9 hx9 => by have := hRlt _ (HVR.out x9 hx9); simp only [List.mem_singleton]; omega)).but (ButS.set (ButS.refl [wd1.heap.size] _) (p := ⟨wd1.heap.size, 8, none⟩) (by simp) _) (fun x9 hx9 => by have := hRlt _ (HVR.out x9 hx9); simp only [List.mem_singleton]; omega))⟩, ⟨(((((((((HVR.out)))))))))⟩, ⟨(((((((((HR1.out)))))))))⟩, ⟨(((((((((HPN.out)))))))))⟩, ⟨(blk_set (blk_set (blk_set (blk_set (blk_set (blk_set (blk_set (blk_set (blk_set db.out 0 _) 1 _) 2 _) 3 _) 4 _) 5 _) 6 _) 7 _) 8 _).trans (by first | (simp only [ls0, ls1, ls2]; done) | rfl)⟩, ⟨(((((((((HTN.out)))))))))⟩, (by simp [World.setCell])⟩ (xc_of (fz' := (0, 0)) HX0.out ((blk_set_ne (p := ⟨wd1.heap.size, 8, none⟩) (blk_set_ne (p := ⟨wd1.heap.size, 7, none⟩) (blk_set_ne (p := ⟨wd1.heap.size, 6, none⟩) (blk_set_ne (p := ⟨wd1.heap.size, 5, none⟩) (blk_set_ne (p := ⟨wd1.heap.size, 4, none⟩) (blk_set_ne (p := ⟨wd1.heap.size, 3, none⟩) (blk_set_ne (p := ⟨wd1.heap.size, 2, none⟩) (blk_set_ne (p := ⟨wd1.heap.size, 1, none⟩) (blk_set_ne (p := ⟨wd1.heap.size, 0, none⟩) HP1.out (by show P ≠ wd1.heap.size; omega) _) (by show P ≠ wd1.heap.size; omega) _) (by show P ≠ wd1.heap.size; omega) _) (by show P ≠ wd1.heap.size; omega) _) (by show P ≠ wd1.heap.size; omega) _) (by show P ≠ wd1.heap.size; omega) _) (by show P ≠ wd1.heap.size; omega) _) (by show P ≠ wd1.heap.size; omega) _) (by show P ≠ wd1.heap.size; omega) _)) 99 (fun _ _ => rfl)) (fun wd3 hRn hHn => ?_)
        clear hK K hHeld HP1 HF1 HC1 HOW HRW HVR HR1 HPN db HTN sd0 sf0 sd1 sf1 sd2 sf2 sd3 sf3 sd4 sf4 sd5 sf5 sd6 sf6 sd7 sf7 sd8 sf8 sl
        obtain ⟨HP1, HF1, HC1, HOW, HRW, HVR, HR1, HPN, db, HTN, hsz3⟩ := hRn
        have hHeld := hHn
        clear hHn
        try simp only [Act.put, ls0, ls1, ls2]
        refine wpAnyH_done (by kernel_rfl) ?_ _
        clear HX0
        exact JQ.mk ⟨_, va, vc, R1, _, _, _, _, _, _, _, _, _, _, _, _, _, _, _, _, _, _, _, _, _, _, _, _, _, _, _, _, _, _, _, _, _, rfl, HP1, HC1, HF1, HOW, HRW, HVR, HR1, HPN, db⟩
      · have ge_db : w.heap.size ≤ wd0.heap.size := (by omega)
        go_simp
        try go_wp2_with fail
        refine out_gen hK _ _ (fun wz : World => Kp (wz.heap[P]? = some (.cells #[.slice kc.pa 2 kc.pc, .slice (some ⟨kc.cg, kc.co, none⟩) 1 kc.cc, .int .i64 1, .slice kc.a0 1 kc.c0, .int .i64 1, .slice kc.a1 1 kc.c1, .pointer (some ⟨B, 0, none⟩), .pointer (some ⟨BB, 0, none⟩), sv, .pointer (some ⟨OR, 0, none⟩), .int .u32 ((b + z1.n) % 4294967296), .int .u32 ((b + z1.got) % 4294967296), .int .i64 z1.sent, .int .i64 z1.got, .int .i64 z1.n, .int .i64 st, .int .i64 OW] 77 (0, 0))) ∧ Kp (Core w0 wz P B D BB wd dp z1 OS OR S R x) ∧ Kp (Only (fun k => Rz k ∨ k = P ∨ k = D) wq wz) ∧ Kp (wz.heap[wd0.heap.size]? = some (.cells #[.bool false, .int .i64 0, .slice none 0 0, .bool false, .int .i64 0, .bool false, .bool false, .bool false, .int .i64 0] 64 (0, 0))) ∧ Kp (w0.heap.size ≤ wd0.heap.size ∧ ¬ S wd0.heap.size ∧ ¬ R wd0.heap.size ∧ wd0.heap.size ≠ B ∧ wd0.heap.size ≠ D ∧ wd0.heap.size ≠ BB) ∧ wd0.heap.size < wz.heap.size) ⟨⟨blk_al HP1.out _⟩, ⟨HC1.out.al _⟩, ⟨HF1.out.trans (Only.of_below (below_al (Below.refl _ _) _))⟩, ⟨blk_new wd0 _⟩, ⟨⟨by omega, fun e => (by have := hSlt _ e; omega), fun e => (by have := (HC1.out.sR _ e).2.1; omega), by omega, by omega, by omega⟩⟩, (by simp)⟩ (xc_of (fz' := (0, 0)) HX0.out (blk_al HP1.out _) 99 (fun _ _ => rfl)) (fun wd4 hRn hHn => ?_)
        clear hK K hHeld HP1 HC1 HF1
        obtain ⟨HP1, HC1, HF1, db, HTN, hsz4⟩ := hRn
        have hHeld := hHn
        clear hHn
        try simp only [Act.put, ls0, ls1, ls2]
        have lt_db := blk_lt db.out
        refine wrd [12] ?_
        refine (arc rfl (fun K hK => ?_) arn)
        go_simp
        go_at_call 36
        have HSt := HC1.out.recv hi ho1 (blk_lt HP1.out) 0
        rw [HDD.out, HDN.out] at HSt
        unfold didV at HSt
        refine HSt.mono ?_
        clear HSt
        rintro e w9 ⟨v9, rfl, hrow9, hv9, hOS9, hC9, hb⟩
        obtain ⟨va, vc, rfl, _, _⟩ := hrow9.shape
        obtain ⟨R1, hR1⟩ : ∃ R1 : Nat → Prop, R1 = More R wd4 w9 := ⟨_, rfl⟩
        rw [← hR1] at hC9
        try go_wp2_with fail
        refine out_gen hK _ _ (fun wz : World => Kp (wz.heap[P]? = some (.cells #[.slice kc.pa 2 kc.pc, .slice (some ⟨kc.cg, kc.co, none⟩) 1 kc.cc, .int .i64 1, .slice kc.a0 1 kc.c0, .int .i64 1, .slice kc.a1 1 kc.c1, .pointer (some ⟨B, 0, none⟩), .pointer (some ⟨BB, 0, none⟩), sv, .pointer (some ⟨OR, 0, none⟩), .int .u32 ((b + z1.n) % 4294967296), .int .u32 ((b + z1.got) % 4294967296), .int .i64 z1.sent, .int .i64 z1.got, .int .i64 z1.n, .int .i64 st, .int .i64 OW] 77 (0, 0))) ∧ Kp (Only (fun k => Rz k ∨ k = P ∨ k = D) wq wz) ∧ Kp (wz.heap[wd0.heap.size]? = some (.cells #[.bool false, .int .i64 0, .slice none 0 0, .bool false, .int .i64 0, .bool false, .bool false, .bool false, .int .i64 0] 64 (0, 0))) ∧ Kp (Core w0 wz P B D BB wd dp (stepQ (pl12 wd dp) z1) OS OR S R1 x) ∧ Kp (∃ lv, wz.heap[OR]? = some (.cells #[.int .u32 (qNext (pl12 wd dp) z1.ws z1.r).own, lv] 132 (0, 0))) ∧ Kp (RowAt wz 1 (.slice va dn vc) dn (u32s d.data)) ∧ Kp (∀ x9 : Addr, va = some x9 → R x9.block) ∧ Kp (∀ k, R1 k → Rz k ∨ wq.heap.size ≤ k) ∧ Kp (w0.heap.size ≤ P ∧ ¬ S P ∧ ¬ R1 P ∧ P ≠ B ∧ P ≠ D ∧ P ≠ BB) ∧ Kp (w0.heap.size ≤ wd0.heap.size ∧ ¬ S wd0.heap.size ∧ ¬ R1 wd0.heap.size ∧ wd0.heap.size ≠ B ∧ wd0.heap.size ≠ D ∧ wd0.heap.size ≠ BB) ∧ wd4.heap.size ≤ wz.heap.size) ⟨⟨hb.blk HP1.out hPn⟩, ⟨HF1.out.trans' hb (fun i hi hx => by
          rcases hx with hx | rfl
          · rcases HSS.out i hx with h1 | h1
            · exact .inl h1
            · omega
          · exact .inr (.inr rfl))⟩, ⟨hb.blk db.out (by rintro (h1 | h1); have := hRlt _ h1; omega; omega)⟩, ⟨hC9⟩, ⟨hOS9⟩, ⟨hrow9⟩, ⟨fun x9 hx9 => hv9 _ (by rw [hx9]; rfl)⟩, ⟨by rw [hR1]; rintro k (hk | hk); exact HSS.out k hk; right; omega⟩, ⟨⟨hP0.1, hSP, (by rw [hR1]; rintro (e | e); exact hRP e; omega), hP0.2.2.2⟩⟩, ⟨⟨HTN.out.1, HTN.out.2.1, (by rw [hR1]; rintro (e | e); exact HTN.out.2.2.1 e; omega), HTN.out.2.2.2⟩⟩, hb.size⟩ (xc_of (fz' := (0, 0)) HX0.out (hb.blk HP1.out hPn) 99 (fun _ _ => rfl)) (fun wd5 hRn hHn => ?_)
        clear hK K hHeld HP1 HC1 HF1 db HTN hOS9 hC9 hb hrow9 hv9 hR1
        obtain ⟨HP1, HF1, db, HC1, HOW, HRW, HVR, HR1, HPN, HTN, hsz5⟩ := hRn
        have hHeld := hHn
        clear hHn
        try simp only [Act.put, ls0, ls1, ls2]
        refine wrd [14] ?_
        refine (arc rfl (fun K hK => ?_) arn)
        have sd0 := cbk db.out 0 (.bool false) rfl
        have sf0 := frozen_blk db.out 0
        have sd1 := cbk db.out 1 (.int .i64 0) rfl
        have sf1 := frozen_blk db.out 1
        have sd2 := cbk db.out 2 (.slice none 0 0) rfl
        have sf2 := frozen_blk db.out 2
        have sd3 := cbk db.out 3 (.bool false) rfl
        have sf3 := frozen_blk db.out 3
        have sd4 := cbk db.out 4 (.int .i64 0) rfl
        have sf4 := frozen_blk db.out 4
        have sd5 := cbk db.out 5 (.bool false) rfl
        have sf5 := frozen_blk db.out 5
        have sd6 := cbk db.out 6 (.bool false) rfl
        have sf6 := frozen_blk db.out 6
        have sd7 := cbk db.out 7 (.bool false) rfl
        have sf7 := frozen_blk db.out 7
        have sd8 := cbk db.out 8 (.int .i64 0) rfl
        have sf8 := frozen_blk db.out 8
        have sl := blk_lt db.out
        go_simp
        try go_wp2_with fail
        refine out_gen hK _ _ (fun wz : World => Kp (wz.heap[P]? = some (.cells #[.slice kc.pa 2 kc.pc, .slice (some ⟨kc.cg, kc.co, none⟩) 1 kc.cc, .int .i64 1, .slice kc.a0 1 kc.c0, .int .i64 1, .slice kc.a1 1 kc.c1, .pointer (some ⟨B, 0, none⟩), .pointer (some ⟨BB, 0, none⟩), sv, .pointer (some ⟨OR, 0, none⟩), .int .u32 ((b + z1.n) % 4294967296), .int .u32 ((b + z1.got) % 4294967296), .int .i64 z1.sent, .int .i64 z1.got, .int .i64 z1.n, .int .i64 st, .int .i64 OW] 77 (0, 0))) ∧ Kp (Only (fun k => Rz k ∨ k = P ∨ k = D) wq wz) ∧ Kp (wz.heap[wd0.heap.size]? = some (.cells #[.bool d.done, .int .i64 d.code, .slice va dn vc, .bool d.valid, .int .i64 d.count, .bool d.mark, .bool d.ring, .bool d.stamped, .int .i64 d.buffer] 64 (0, 0))) ∧ Kp (Core w0 wz P B D BB wd dp (stepQ (pl12 wd dp) z1) OS OR S R1 x) ∧ Kp (∃ lv, wz.heap[OR]? = some (.cells #[.int .u32 (qNext (pl12 wd dp) z1.ws z1.r).own, lv] 132 (0, 0))) ∧ Kp (RowAt wz 1 (.slice va dn vc) dn (u32s d.data)) ∧ Kp (∀ x9 : Addr, va = some x9 → R x9.block) ∧ Kp (∀ k, R1 k → Rz k ∨ wq.heap.size ≤ k) ∧ Kp (w0.heap.size ≤ P ∧ ¬ S P ∧ ¬ R1 P ∧ P ≠ B ∧ P ≠ D ∧ P ≠ BB) ∧ Kp (w0.heap.size ≤ wd0.heap.size ∧ ¬ S wd0.heap.size ∧ ¬ R1 wd0.heap.size ∧ wd0.heap.size ≠ B ∧ wd0.heap.size ≠ D ∧ wd0.heap.size ≠ BB) ∧ wd5.heap.size ≤ wz.heap.size) ⟨⟨(blk_set_ne (p := ⟨wd0.heap.size, 8, none⟩) (blk_set_ne (p := ⟨wd0.heap.size, 7, none⟩) (blk_set_ne (p := ⟨wd0.heap.size, 6, none⟩) (blk_set_ne (p := ⟨wd0.heap.size, 5, none⟩) (blk_set_ne (p := ⟨wd0.heap.size, 4, none⟩) (blk_set_ne (p := ⟨wd0.heap.size, 3, none⟩) (blk_set_ne (p := ⟨wd0.heap.size, 2, none⟩) (blk_set_ne (p := ⟨wd0.heap.size, 1, none⟩) (blk_set_ne (p := ⟨wd0.heap.size, 0, none⟩) HP1.out (by show P ≠ wd0.heap.size; omega) _) (by show P ≠ wd0.heap.size; omega) _) (by show P ≠ wd0.heap.size; omega) _) (by show P ≠ wd0.heap.size; omega) _) (by show P ≠ wd0.heap.size; omega) _) (by show P ≠ wd0.heap.size; omega) _) (by show P ≠ wd0.heap.size; omega) _) (by show P ≠ wd0.heap.size; omega) _) (by show P ≠ wd0.heap.size; omega) _)⟩, ⟨(((((((((HF1.out.trans' (Only.of_but (X := fun i => i = wd0.heap.size) (ButS.set (ButS.refl [wd0.heap.size] _) (p := ⟨wd0.heap.size, 0, none⟩) (by simp) _) (by simp)) (fun i hi hx => by omega)).trans' (Only.of_but (X := fun i => i = wd0.heap.size) (ButS.set (ButS.refl [wd0.heap.size] _) (p := ⟨wd0.heap.size, 1, none⟩) (by simp) _) (by simp)) (fun i hi hx => by omega)).trans' (Only.of_but (X := fun i => i = wd0.heap.size) (ButS.set (ButS.refl [wd0.heap.size] _) (p := ⟨wd0.heap.size, 2, none⟩) (by simp) _) (by simp)) (fun i hi hx => by omega)).trans' (Only.of_but (X := fun i => i = wd0.heap.size) (ButS.set (ButS.refl [wd0.heap.size] _) (p := ⟨wd0.heap.size, 3, none⟩) (by simp) _) (by simp)) (fun i hi hx => by omega)).trans' (Only.of_but (X := fun i => i = wd0.heap.size) (ButS.set (ButS.refl [wd0.heap.size] _) (p := ⟨wd0.heap.size, 4, none⟩) (by simp) _) (by simp)) (fun i hi hx => by omega)).trans' (Only.of_but (X := fun i => i = wd0.heap.size) (ButS.set (ButS.refl [wd0.heap.size] _) (p := ⟨wd0.heap.size, 5, none⟩) (by simp) _) (by simp)) (fun i hi hx => by omega)).trans' (Only.of_but (X := fun i => i = wd0.heap.size) (ButS.set (ButS.refl [wd0.heap.size] _) (p := ⟨wd0.heap.size, 6, none⟩) (by simp) _) (by simp)) (fun i hi hx => by omega)).trans' (Only.of_but (X := fun i => i = wd0.heap.size) (ButS.set (ButS.refl [wd0.heap.size] _) (p := ⟨wd0.heap.size, 7, none⟩) (by simp) _) (by simp)) (fun i hi hx => by omega)).trans' (Only.of_but (X := fun i => i = wd0.heap.size) (ButS.set (ButS.refl [wd0.heap.size] _) (p := ⟨wd0.heap.size, 8, none⟩) (by simp) _) (by simp)) (fun i hi hx => by omega))⟩, ⟨(blk_set (blk_set (blk_set (blk_set (blk_set (blk_set (blk_set (blk_set (blk_set db.out 0 _) 1 _) 2 _) 3 _) 4 _) 5 _) 6 _) 7 _) 8 _).trans (by first | (simp only [ls0, ls1, ls2]; done) | rfl)⟩, ⟨(((((((((HC1.out.set wd0.heap.size 0 _ HTN.out).set wd0.heap.size 1 _ HTN.out).set wd0.heap.size 2 _ HTN.out).set wd0.heap.size 3 _ HTN.out).set wd0.heap.size 4 _ HTN.out).set wd0.heap.size 5 _ HTN.out).set wd0.heap.size 6 _ HTN.out).set wd0.heap.size 7 _ HTN.out).set wd0.heap.size 8 _ HTN.out)⟩, ⟨(((((((((HOW.out.imp fun _ h => blk_set_ne (p := ⟨wd0.heap.size, 0, none⟩) h (by show OR ≠ wd0.heap.size; omega) _).imp fun _ h => blk_set_ne (p := ⟨wd0.heap.size, 1, none⟩) h (by show OR ≠ wd0.heap.size; omega) _).imp fun _ h => blk_set_ne (p := ⟨wd0.heap.size, 2, none⟩) h (by show OR ≠ wd0.heap.size; omega) _).imp fun _ h => blk_set_ne (p := ⟨wd0.heap.size, 3, none⟩) h (by show OR ≠ wd0.heap.size; omega) _).imp fun _ h => blk_set_ne (p := ⟨wd0.heap.size, 4, none⟩) h (by show OR ≠ wd0.heap.size; omega) _).imp fun _ h => blk_set_ne (p := ⟨wd0.heap.size, 5, none⟩) h (by show OR ≠ wd0.heap.size; omega) _).imp fun _ h => blk_set_ne (p := ⟨wd0.heap.size, 6, none⟩) h (by show OR ≠ wd0.heap.size; omega) _).imp fun _ h => blk_set_ne (p := ⟨wd0.heap.size, 7, none⟩) h (by show OR ≠ wd0.heap.size; omega) _).imp fun _ h => blk_set_ne (p := ⟨wd0.heap.size, 8, none⟩) h (by show OR ≠ wd0.heap.size; omega) _)⟩, ⟨(((((((((HRW.out.but (ButS.set (ButS.refl [wd0.heap.size] _) (p := ⟨wd0.heap.size, 0, none⟩) (by simp) _) (fun x9 hx9 => by have := hRlt _ (HVR.out x9 hx9); simp only [List.mem_singleton]; omega)).but (ButS.set (ButS.refl [wd0.heap.size] _) (p := ⟨wd0.heap.size, 1, none⟩) (by simp) _) (fun x9 hx9 => by have := hRlt _ (HVR.out x9 hx9); simp only [List.mem_singleton]; omega)).but (ButS.set (ButS.refl [wd0.heap.size] _) (p := ⟨wd0.heap.size, 2, none⟩) (by simp) _) (fun x9 hx9 => by have := hRlt _ (HVR.out x9 hx9); simp only [List.mem_singleton]; omega)).but (ButS.set (ButS.refl [wd0.heap.size] _) (p := ⟨wd0.heap.size, 3, none⟩) (by simp) _) (fun x9 hx9 => by have := hRlt _ (HVR.out x9 hx9); simp only [List.mem_singleton]; omega)).but (ButS.set (ButS.refl [wd0.heap.size] _) (p := ⟨wd0.heap.size, 4, none⟩) (by simp) _) (fun x9 hx9 => by have := hRlt _ (HVR.out x9 hx9); simp only [List.mem_singleton]; omega)).but (ButS.set (ButS.refl [wd0.heap.size] _) (p := ⟨wd0.heap.size, 5, none⟩) (by simp) _) (fun x9 hx9 => by have := hRlt _ (HVR.out x9 hx9); simp only [List.mem_singleton]; omega)).but (ButS.set (ButS.refl [wd0.heap.size] _) (p := ⟨wd0.heap.size, 6, none⟩) (by simp) _) (fun x9 hx9 => by have := hRlt _ (HVR.out x9 hx9); simp only [List.mem_singleton]; omega)).but (ButS.set (ButS.refl [wd0.heap.size] _) (p := ⟨wd0.heap.size, 7, none⟩) (by simp) _) (fun x9 hx9 => by have := hRlt _ (HVR.out x9 hx9); simp only [List.mem_singleton]; omega)).but (ButS.set (ButS.refl [wd0.heap.size] _) (p := ⟨wd0.heap.size, 8, none⟩) (by simp) _) (fun x9 hx9 => by have := hRlt _ (HVR.out x9 hx9); simp only [List.mem_singleton]; omega))⟩, ⟨(((((((((HVR.out)))))))))⟩, ⟨(((((((((HR1.out)))))))))⟩, ⟨(((((((((HPN.out)))))))))⟩, ⟨(((((((((HTN.out)))))))))⟩, (by simp [World.setCell])⟩ (xc_of (fz' := (0, 0)) HX0.out ((blk_set_ne (p := ⟨wd0.heap.size, 8, none⟩) (blk_set_ne (p := ⟨wd0.heap.size, 7, none⟩) (blk_set_ne (p := ⟨wd0.heap.size, 6, none⟩) (blk_set_ne (p := ⟨wd0.heap.size, 5, none⟩) (blk_set_ne (p := ⟨wd0.heap.size, 4, none⟩) (blk_set_ne (p := ⟨wd0.heap.size, 3, none⟩) (blk_set_ne (p := ⟨wd0.heap.size, 2, none⟩) (blk_set_ne (p := ⟨wd0.heap.size, 1, none⟩) (blk_set_ne (p := ⟨wd0.heap.size, 0, none⟩) HP1.out (by show P ≠ wd0.heap.size; omega) _) (by show P ≠ wd0.heap.size; omega) _) (by show P ≠ wd0.heap.size; omega) _) (by show P ≠ wd0.heap.size; omega) _) (by show P ≠ wd0.heap.size; omega) _) (by show P ≠ wd0.heap.size; omega) _) (by show P ≠ wd0.heap.size; omega) _) (by show P ≠ wd0.heap.size; omega) _) (by show P ≠ wd0.heap.size; omega) _)) 99 (fun _ _ => rfl)) (fun wd6 hRn hHn => ?_)
        clear hK K hHeld HP1 HF1 db HC1 HOW HRW HVR HR1 HPN HTN sd0 sf0 sd1 sf1 sd2 sf2 sd3 sf3 sd4 sf4 sd5 sf5 sd6 sf6 sd7 sf7 sd8 sf8 sl
        obtain ⟨HP1, HF1, db, HC1, HOW, HRW, HVR, HR1, HPN, HTN, hsz6⟩ := hRn
        have hHeld := hHn
        clear hHn
        try simp only [Act.put, ls0, ls1, ls2]
        refine wpAnyH_done (by kernel_rfl) ?_ _
        clear HX0
        exact JQ.mk ⟨_, va, vc, R1, _, _, _, _, _, _, _, _, _, _, _, _, _, _, _, _, _, _, _, _, _, _, _, _, _, _, _, _, _, _, _, _, _, rfl, HP1, HC1, HF1, HOW, HRW, HVR, HR1, HPN, db⟩
    · rintro a wj ⟨T, va, vc, R1, u7, u8, u9, u10, u11, u12, u13, u14, u15, u16, u17, u18, u19, u20, u21, u22, u23, u24, u25, u26, u27, u28, u29, u30, u31, u32, u33, u34, u35, u36, u37, u38, u39, rfl, HP1, HC1, HF1, HOW, HRW, HVR, HR1, HPN, db⟩
      have hPT : P ≠ T := ne_of_type HP1.out db.out (by decide)
      have lT := blk_lt db.out
      have lPj := blk_lt HP1.out
      have e_g0 : (stepQ (pl12 wd dp) z1).got = if d.done = true ∧ d.code = 0 then z1.got + 1 else z1.got := by show (if (qDid (pl12 wd dp) z1.ws z1.r).done = true ∧ (qDid (pl12 wd dp) z1.ws z1.r).code = 0 then z1.got + 1 else z1.got) = _; rw [HDD.out]
      have e_so0 : (stepQ (pl12 wd dp) z1).rOn = !d.done := by show (!(qDid (pl12 wd dp) z1.ws z1.r).done) = _; rw [HDD.out]
      have e_se : (stepQ (pl12 wd dp) z1).sent = z1.sent := rfl
      have e_n : (stepQ (pl12 wd dp) z1).n = z1.n := rfl
      have e_r : (stepQ (pl12 wd dp) z1).r = qNext (pl12 wd dp) z1.ws z1.r := rfl
      have hR0 : ((stepQ (pl12 wd dp) z1).sOn = false → sv = .pointer none) ∧ ((stepQ (pl12 wd dp) z1).sOn = true → sv = .pointer (some ⟨OS, 0, none⟩) ∧ st = (stepQ (pl12 wd dp) z1).s.pc) := HRZ.out
      have HR0 := Kp.mk hR0
      clear hR0
      have t0 := cbk db.out 0 (.bool d.done) rfl
      have t1 := cbk db.out 1 (.int .i64 d.code) rfl
      have t2 := cbk db.out 2 (.slice va dn vc) rfl
      have c0 := cbk HP1.out 0 (.slice kc.pa 2 kc.pc) rfl
      have c1 := cbk HP1.out 1 (.slice (some ⟨kc.cg, kc.co, none⟩) 1 kc.cc) rfl
      have c2 := cbk HP1.out 2 (.int .i64 1) rfl
      have c3 := cbk HP1.out 3 (.slice kc.a0 1 kc.c0) rfl
      have c4 := cbk HP1.out 4 (.int .i64 1) rfl
      have c5 := cbk HP1.out 5 (.slice kc.a1 1 kc.c1) rfl
      have c6 := cbk HP1.out 6 (.pointer (some ⟨B, 0, none⟩)) rfl
      have c7 := cbk HP1.out 7 (.pointer (some ⟨BB, 0, none⟩)) rfl
      have c8 := cbk HP1.out 8 (sv) rfl
      have c9 := cbk HP1.out 9 (.pointer (some ⟨OR, 0, none⟩)) rfl
      have c10 := cbk HP1.out 10 (.int .u32 ((b + z1.n) % 4294967296)) rfl
      have c11 := cbk HP1.out 11 (.int .u32 ((b + z1.got) % 4294967296)) rfl
      have c12 := cbk HP1.out 12 (.int .i64 z1.sent) rfl
      have c13 := cbk HP1.out 13 (.int .i64 z1.got) rfl
      have c14 := cbk HP1.out 14 (.int .i64 z1.n) rfl
      have c15 := cbk HP1.out 15 (.int .i64 st) rfl
      have c16 := cbk HP1.out 16 (.int .i64 OW) rfl
      have f9 := frozen_blk HP1.out 9
      have f11 := frozen_blk HP1.out 11
      have f13 := frozen_blk HP1.out 13
      have f16 := frozen_blk HP1.out 16
      have n1 : IntKind.i64.wrap ((OW : Int) + 1) = (OW : Int) + 1 := IntWalk.i64_in _ (by omega)
      by_cases hdn : d.done = true
      · have hto := HJ0.out.told_q ho1 (by rw [HDD.out]; exact hdn)
        rw [HDD.out] at hto
        rw [hdn] at t0 e_so0
        have e_so : (stepQ (pl12 wd dp) z1).rOn = false := e_so0
        obtain ⟨own2, hown2⟩ : ∃ o, (qNext (pl12 wd dp) z1.ws z1.r).own = o := ⟨_, rfl⟩
        obtain ⟨lv, hlv⟩ := HOW.out
        rw [hown2] at hlv hto
        have hOT : P ≠ OR := ne_of_type HP1.out hlv (by decide)
        have HLV := Kp.mk hlv
        rcases hto with ⟨q1, q2, q3, q4, q5, q6⟩ | ⟨q1, q2, q3, q4, q5, q6, q7⟩
        · rw [q1] at t1 e_g0
          have e_g : (stepQ (pl12 wd dp) z1).got = z1.got := by rw [e_g0, if_neg (by simp)]
          have hdn0 : dn = 0 := by rw [← HDN.out, q2]; rfl
          subst hdn0
          have n3 : (OW : Int) + 1 = 1 := by rw [← HOWV.out, q3]; rfl
          have e_ow : OW + 1 = 1 := by omega
          have n6 : (z1.sent : Int) = (z1.got : Int) := by omega
          have e_tl : (b + (z1.got : Int)) % 4294967296 = own2 := by rw [q6]; exact (HJ0.out.rc ho1).1.symm
          have HQ := Kp.mk (And.intro e_so (And.intro e_g (And.intro e_tl n6)))
          clear hlv hown2 q1 q2 q3 q4 q5 q6 e_so0 e_g0 e_so e_g e_tl hdn e_se e_n e_r
          rw [n3] at n1
          rw [n6] at c12
          go_wp2_with fail
          refine (opown_any OR own2 lv _ (blk_set_ne (p := ⟨P, 16, none⟩) HLV.out (Ne.symm hOT) _)).mono ?_
          rintro e w10 ⟨rfl, rfl⟩
          go_wp2_with fail
          go_quiet (fail)
          go_wp2
          go_ret
          obtain ⟨e_so, e_g, e_tl, n6'⟩ := HQ.out
          refine ⟨rfl, OR, 1, R1, (.pointer none), ⟨?_, fun e => HR0.out.1 e, fun e => HR0.out.2 e, fun e => rfl, fun e => (by rw [e_so] at e; cases e), ?_, hP0.1⟩, ?_, HR1.out⟩
          · rw [show (stepQ (pl12 wd dp) z1).sent = z1.sent from rfl, show (stepQ (pl12 wd dp) z1).n = z1.n from rfl, e_g, e_tl]
            exact (blk_set (blk_set (blk_set HP1.out 16 _) 11 _) 9 _).trans (by first | (simp only [ls0, ls1, ls2]; done) | rfl)
          · exact ((((HC1.out.set P 16 _ HPN.out).set P 11 _ HPN.out).set P 9 _ HPN.out).below (below_drN (Below.refl _ _)))
          · exact ((((HF1.out.trans (Only.of_but (ButS.set (ButS.refl [P] _) (p := ⟨P, 16, none⟩) (by simp) _) (by simp))).trans (Only.of_but (ButS.set (ButS.refl [P] _) (p := ⟨P, 11, none⟩) (by simp) _) (by simp))).trans (Only.of_but (ButS.set (ButS.refl [P] _) (p := ⟨P, 9, none⟩) (by simp) _) (by simp))).trans (Only.of_below (below_drN (Below.refl _ _))))
        · rw [q1] at t1 e_g0
          have e_g : (stepQ (pl12 wd dp) z1).got = z1.got + 1 := by rw [e_g0, if_pos ⟨hdn, rfl⟩]
          obtain ⟨L, hL⟩ : ∃ L : Nat, 1 + z1.got % wd.toNat = L := ⟨_, rfl⟩
          have hL16 : L ≤ 16 ∧ 1 ≤ L := by have := Nat.mod_lt z1.got (show 0 < wd.toNat by omega); omega
          have hrl : (rmsg wd z1.got).length = L := (rmsg_len _ _).trans hL
          have hrl2 : (rmsg (pl12 wd dp).words z1.got).length = L := hrl
          have hdnL : dn = L := by rw [← HDN.out, q2]; exact hrl
          subst hdnL
          rw [hrl2] at q5
          have n3 : (OW : Int) + 1 = (dn : Int) + 3 := by rw [← HOWV.out, q4, if_neg (by omega), q5]; omega
          have n4 : IntKind.i64.wrap ((dn : Int) + 3) = (dn : Int) + 3 := IntWalk.i64_in _ (by omega)
          have n5 : IntKind.i64.wrap ((z1.got : Int) + 1) = (z1.got : Int) + 1 := IntWalk.i64_in _ (by omega)
          have n6 : ¬ ((z1.sent : Int) ≤ (z1.got : Int)) := by omega
          have n7 : decide ((z1.sent : Int) ≤ (z1.got : Int)) = false := decide_eq_false n6
          have n8 : IntKind.u32.wrap (z1.got : Int) = (z1.got : Int) := IntWalk.u32_in _ (by omega)
          have n9 : IntKind.u32.wrap ((z1.got : Int) + 1) = (z1.got : Int) + 1 := IntWalk.u32_in _ (by omega)
          have e_tl : (b + ((z1.got + 1 : Nat) : Int)) % 4294967296 = own2 := by rw [q7]; congr 1; omega
          have n10 : IntKind.u32.wrap (own2 - b) = (z1.got : Int) + 1 := by rw [IntKind.wrap_u32, q7]; omega
          have HEL : Kp (∀ k, k < dn → d.data[k]? = some (z1.got : Int)) := ⟨fun k hk => by
            rw [q2]
            show (List.replicate _ _)[k]? = _
            rw [List.getElem?_replicate, if_pos (by have := hrl; rw [rmsg_len] at this; show k < 1 + z1.got % wd.toNat; omega)]
            show some ((z1.got : Int) % 4294967296) = some (z1.got : Int)
            rw [show (z1.got : Int) % 4294967296 = (z1.got : Int) by omega]⟩
          have cd : wj.cell? ⟨kc.cg, kc.co + 6, none⟩ = some (.int .u32 b) := (HK0.out.below HC1.out.low).boot
          have lcg : kc.cg < wj.heap.size := (HK0.out.below HC1.out.low).lt
          have hcP : kc.cg ≠ P := by have := HK0.out.lt; omega
          have HLL := Kp.mk hL
          have HQ := Kp.mk (And.intro e_so (And.intro e_g e_tl))
          clear hlv hown2 q1 q2 q3 q4 q5 q6 q7 e_so0 e_g0 e_so e_g e_tl hdn e_se e_n e_r hL hrl hrl2
          rw [n3] at n1
          go_wp2_with fail
          refine (opown_any OR own2 lv _ (blk_set_ne (p := ⟨P, 16, none⟩) HLV.out (Ne.symm hOT) _)).mono ?_
          rintro e w10 ⟨rfl, rfl⟩
          go_wp2_with fail
          go_quiet ((go_at_call 58; exact Calls.quiet_of_same (psz_at (o1 := 16) (o2 := 11) (o3 := 9) HLL.out (by omega) HK0.out HC1.out HP1.out HPN.out)))
          obtain ⟨g, o, rfl, hg, hcc⟩ := HRW.out.at (show 0 < dn by omega)
          have hgP : g ≠ P := fun e => hRP (e ▸ HVR.out _ rfl)
          have HP5 : Kp (((((wj.setCell ⟨P, 16, none⟩ (.int .i64 ((dn : Int) + 3))).setCell ⟨P, 11, none⟩ (.int .u32 own2)).setCell ⟨P, 9, none⟩ (.pointer none)).drewN nq).heap[P]? = some (.cells #[.slice kc.pa 2 kc.pc, .slice (some ⟨kc.cg, kc.co, none⟩) 1 kc.cc, .int .i64 1, .slice kc.a0 1 kc.c0, .int .i64 1, .slice kc.a1 1 kc.c1, .pointer (some ⟨B, 0, none⟩), .pointer (some ⟨BB, 0, none⟩), sv, .pointer none, .int .u32 ((b + z1.n) % 4294967296), .int .u32 own2, .int .i64 z1.sent, .int .i64 z1.got, .int .i64 z1.n, .int .i64 st, .int .i64 ((dn : Int) + 3)] 77 (0, 0))) := ⟨(blk_set (blk_set (blk_set HP1.out 16 _) 11 _) 9 _).trans (by first | (simp only [ls0, ls1, ls2]; done) | rfl)⟩
          have HC5 : Kp (Core w0 ((((wj.setCell ⟨P, 16, none⟩ (.int .i64 ((dn : Int) + 3))).setCell ⟨P, 11, none⟩ (.int .u32 own2)).setCell ⟨P, 9, none⟩ (.pointer none)).drewN nq) P B D BB wd dp (stepQ (pl12 wd dp) z1) OS OR S R1 x) := ⟨(((HC1.out.set P 16 _ HPN.out).set P 11 _ HPN.out).set P 9 _ HPN.out).below (below_drN (Below.refl _ _))⟩
          have HF5 : Kp (Only (fun k => Rz k ∨ k = P ∨ k = D) wq ((((wj.setCell ⟨P, 16, none⟩ (.int .i64 ((dn : Int) + 3))).setCell ⟨P, 11, none⟩ (.int .u32 own2)).setCell ⟨P, 9, none⟩ (.pointer none)).drewN nq)) := ⟨(((HF1.out.trans (Only.of_but (ButS.set (ButS.refl [P] _) (p := ⟨P, 16, none⟩) (by simp) _) (by simp))).trans (Only.of_but (ButS.set (ButS.refl [P] _) (p := ⟨P, 11, none⟩) (by simp) _) (by simp))).trans (Only.of_but (ButS.set (ButS.refl [P] _) (p := ⟨P, 9, none⟩) (by simp) _) (by simp))).trans (Only.of_below (below_drN (Below.refl _ _)))⟩
          have HCC : Kp (∀ k, k < dn → ((((wj.setCell ⟨P, 16, none⟩ (.int .i64 ((dn : Int) + 3))).setCell ⟨P, 11, none⟩ (.int .u32 own2)).setCell ⟨P, 9, none⟩ (.pointer none)).drewN nq).cell? ⟨g, o + k, none⟩ = some (.int .u32 (z1.got : Int))) := ⟨fun k hk => by
            have h1 := hcc k (by omega)
            have h2 : ButS [P] wj ((((wj.setCell ⟨P, 16, none⟩ (.int .i64 ((dn : Int) + 3))).setCell ⟨P, 11, none⟩ (.int .u32 own2)).setCell ⟨P, 9, none⟩ (.pointer none)).drewN nq) := (ButS.set (ButS.set (ButS.set (ButS.refl [P] wj) (p := ⟨P, 16, none⟩) (by simp) _) (p := ⟨P, 11, none⟩) (by simp) _) (p := ⟨P, 9, none⟩) (by simp) _).drN
            rw [h2.cell hg (by simpa using hgP), h1, u32s, List.getElem?_map, HEL.out k hk]
            rfl⟩
          have hg5 : Kp (g < ((((wj.setCell ⟨P, 16, none⟩ (.int .i64 ((dn : Int) + 3))).setCell ⟨P, 11, none⟩ (.int .u32 own2)).setCell ⟨P, 9, none⟩ (.pointer none)).drewN nq).heap.size) := ⟨by simpa [World.setCell] using hg⟩
          have cd5 : Kp (((((wj.setCell ⟨P, 16, none⟩ (.int .i64 ((dn : Int) + 3))).setCell ⟨P, 11, none⟩ (.int .u32 own2)).setCell ⟨P, 9, none⟩ (.pointer none)).drewN nq).cell? ⟨kc.cg, kc.co + 6, none⟩ = some (.int .u32 b)) := ⟨(HK0.out.below HC5.out.low).boot⟩
          have lcg5 : Kp (kc.cg < ((((wj.setCell ⟨P, 16, none⟩ (.int .i64 ((dn : Int) + 3))).setCell ⟨P, 11, none⟩ (.int .u32 own2)).setCell ⟨P, 9, none⟩ (.pointer none)).drewN nq).heap.size) := ⟨(HK0.out.below HC5.out.low).lt⟩
          clear HP1 HC1 HF1 HRW hcc HEL hg cd lcg lPj lT t0 t1 t2 db HLV c0 c1 c2 c3 c4 c5 c6 c7 c8 c9 c10 c11 c12 c13 c14 c15 c16 f9 f11 f13 f16
          generalize ((((wj.setCell ⟨P, 16, none⟩ (.int .i64 ((dn : Int) + 3))).setCell ⟨P, 11, none⟩ (.int .u32 own2)).setCell ⟨P, 9, none⟩ (.pointer none)).drewN nq) = w5 at HP5 HC5 HF5 HCC hg5 cd5 lcg5 ⊢
          have hg6 := hg5.out
          have cd := cd5.out
          have lcg := lcg5.out
          have lP5 := blk_lt HP5.out
          have c0 := cbk HP5.out 0 (.slice kc.pa 2 kc.pc) rfl
          have c1 := cbk HP5.out 1 (.slice (some ⟨kc.cg, kc.co, none⟩) 1 kc.cc) rfl
          have c2 := cbk HP5.out 2 (.int .i64 1) rfl
          have c3 := cbk HP5.out 3 (.slice kc.a0 1 kc.c0) rfl
          have c4 := cbk HP5.out 4 (.int .i64 1) rfl
          have c5 := cbk HP5.out 5 (.slice kc.a1 1 kc.c1) rfl
          have c6 := cbk HP5.out 6 (.pointer (some ⟨B, 0, none⟩)) rfl
          have c7 := cbk HP5.out 7 (.pointer (some ⟨BB, 0, none⟩)) rfl
          have c8 := cbk HP5.out 8 (sv) rfl
          have c9 := cbk HP5.out 9 (.pointer none) rfl
          have c10 := cbk HP5.out 10 (.int .u32 ((b + z1.n) % 4294967296)) rfl
          have c11 := cbk HP5.out 11 (.int .u32 own2) rfl
          have c12 := cbk HP5.out 12 (.int .i64 z1.sent) rfl
          have c13 := cbk HP5.out 13 (.int .i64 z1.got) rfl
          have c14 := cbk HP5.out 14 (.int .i64 z1.n) rfl
          have c15 := cbk HP5.out 15 (.int .i64 st) rfl
          have c16 := cbk HP5.out 16 (.int .i64 ((dn : Int) + 3)) rfl
          have f13 := frozen_blk HP5.out 13
          go_wp2_with fail
          go_loopw [134] (fun i wr => ∃ k : Nat, k ≤ dn ∧ i = .int .i64 k ∧ wr = w5) (fun i wr => dn - (intOf i).toNat)
          case atStart => exact ⟨0, Nat.zero_le _, rfl, rfl⟩
          case round =>
            obtain ⟨k, hk, rfl, rfl⟩ := hrel
            by_cases hkl : k < dn
            · have ck := HCC.out k hkl
              have z1' : (0 : Int) ≤ (k : Int) := by omega
              go_wp2
              go_roundw
              case rel => exact ⟨k + 1, by omega, by go_num, by first | rfl | trivial⟩
              case measure => simp [intOf]; omega
            · obtain rfl : k = dn := by omega
              go_wp2_with fail
              go_quiet (fail)
              go_wp2
              go_ret
              obtain ⟨e_so, e_g, e_tl⟩ := HQ.out
              refine ⟨rfl, OR, (k + 3), R1, (.pointer none), ⟨?_, fun e => HR0.out.1 e, fun e => HR0.out.2 e, fun e => rfl, fun e => (by rw [e_so] at e; cases e), ?_, hP0.1⟩, ?_, HR1.out⟩
              · rw [show (stepQ (pl12 wd dp) z1).sent = z1.sent from rfl, show (stepQ (pl12 wd dp) z1).n = z1.n from rfl, e_g, e_tl]
                exact (blk_set HP5.out 13 _).trans (by first | (simp only [ls0, ls1, ls2]; done) | rfl)
              · exact (HC5.out.set P 13 _ HPN.out).below (below_drN (Below.refl _ _))
              · exact (HF5.out.trans (Only.of_but (ButS.set (ButS.refl [P] _) (p := ⟨P, 13, none⟩) (by simp) _) (by simp))).trans (Only.of_below (below_drN (Below.refl _ _)))
      · have hdf : d.done = false := by simpa using hdn
        have e_g : (stepQ (pl12 wd dp) z1).got = z1.got := by rw [e_g0, if_neg (by rw [hdf]; simp)]
        have e_so : (stepQ (pl12 wd dp) z1).rOn = true := by rw [e_so0, hdf]; rfl
        have e_st : OW + 1 = (if (stepQ (pl12 wd dp) z1).r.pc ≤ 1 then (stepQ (pl12 wd dp) z1).r.pc else 2 + (stepQ (pl12 wd dp) z1).r.data.length) ∧ OW + 1 < 40 := by
          have hd2 := HDD.out
          rw [e_r, ← HOWV.out]
          unfold qDid at hd2
          unfold qNext
          have hpc2 := (HJ0.out.rc ho1).2.2
          by_cases h0 : z1.r.pc = 0
          · have hf : ¬ emptyP (pl12 wd dp) z1.ws z1.r.own = true := fun hf => by
              rw [if_pos h0, if_pos hf] at hd2
              rw [← hd2] at hdf
              cases hdf
            rw [if_pos h0, if_neg hf, h0]
            exact ⟨rfl, by rw [if_pos (by decide)]; decide⟩
          · rw [if_neg h0] at hd2
            rw [if_neg h0]
            by_cases h1 : z1.r.pc = 1
            · rw [if_pos h1, h1]
              have := HJ0.out.r0 ho1 (by omega)
              rw [this]
              exact ⟨rfl, by decide⟩
            · have h2 : z1.r.pc = 2 := by omega
              have hr2 := HJ0.out.r2 ho1 h2
              have hll : (rmsg (pl12 wd dp).words z1.got).length = 1 + z1.got % wd.toNat := rmsg_len _ _
              have hml := Nat.mod_lt z1.got (show 0 < wd.toNat by omega)
              by_cases h3 : z1.r.data.length < z1.r.left
              · rw [if_neg h1, if_pos h2, if_pos h3]
                refine ⟨?_, ?_⟩
                · rw [if_neg (by omega), if_neg (by show ¬ z1.r.pc ≤ 1; omega)]
                  show 2 + z1.r.data.length + 1 = 2 + (z1.r.data ++ [_]).length
                  rw [List.length_append, List.length_singleton]
                  omega
                · rw [if_neg (by omega)]
                  omega
              · rw [if_pos ⟨h2, by omega⟩] at hd2
                rw [← hd2] at hdf
                cases hdf
        have n2 : (OW : Int) + 1 < 40 := by have := e_st.2; omega
        rw [hdf] at t0
        have HQ := Kp.mk (And.intro e_so (And.intro e_g e_st.1))
        clear e_so0 e_g0 e_so e_g hdn e_se e_n e_r hdf e_st
        go_wp2
        go_ret
        obtain ⟨e_so, e_g, e_st⟩ := HQ.out
        refine ⟨rfl, OR, (OW + 1), R1, (.pointer (some ⟨OR, 0, none⟩)), ⟨?_, fun e => HR0.out.1 e, fun e => HR0.out.2 e, fun e => (by rw [e_so] at e; cases e), fun e => ⟨rfl, e_st⟩, ?_, hP0.1⟩, ?_, HR1.out⟩
        · rw [show (stepQ (pl12 wd dp) z1).sent = z1.sent from rfl, show (stepQ (pl12 wd dp) z1).n = z1.n from rfl, e_g]
          exact (blk_set HP1.out 16 _).trans (by first | (simp only [ls0, ls1, ls2]; done) | rfl)
        · exact (HC1.out.set P 16 _ HPN.out)
        · exact (HF1.out.trans (Only.of_but (ButS.set (ButS.refl [P] _) (p := ⟨P, 16, none⟩) (by simp) _) (by simp)))
end Go.Proofs.YtmidcnfmphlneaaGreat

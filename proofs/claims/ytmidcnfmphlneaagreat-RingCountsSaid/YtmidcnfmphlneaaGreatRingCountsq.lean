/- The law RingCounts. -/
import Derived.Test.YtmidcnfmphlneaaGreatRing19q
import Derived.Test.YtmidcnfmphlneaaGreatQX
namespace Go.Proofs.YtmidcnfmphlneaaGreat
open Go.RowKit
set_option linter.unusedSimpArgs false
set_option linter.unusedVariables false
set_option maxRecDepth 100000 in
set_option maxHeartbeats 8000000 in
theorem ringCounts_main (h0 h1 bt : Int) (q0 : 0 ≤ h0 ∧ h0 ≤ 255) (q1 : 0 ≤ h1 ∧ h1 ≤ 255) (qb : 0 ≤ bt ∧ bt < 4294967296) (a1 : Option Addr) (L cp : Nat) (bs : List Bool) (hL : bs.length = L) (w : World) (hrow : RowAt w 1 (.slice a1 L cp) L (bs.map Value.bool)) :
    Calls Tryz.prog 9 #[.agg #[.int .u8 h0, .int .u8 h1], .int .u32 bt, .slice a1 L cp] w fun e w' => e = .returned (.bool true) ∧ Below w.heap.size w w' := by
  have HR := Kp.mk hrow
  have HLL := Kp.mk hL
  have hcap : L ≤ maxLen := by obtain ⟨_, _, e, q1, q2⟩ := hrow.shape; exact Nat.le_trans q1 q2
  unfold maxLen at hcap
  clear hrow hL
  obtain ⟨wd, e, dp, hwd4, he3, hdp, v2, u1, hsh⟩ := how_any h0 h1 q0 q1
  have v1 : IntKind.i64.wrap h0 = h0 := IntWalk.i64_in _ (by omega)
  have v3 : IntKind.i64.wrap (wd - 1) = wd - 1 := IntWalk.i64_in _ (by omega)
  have v4 : 1 + (wd - 1) = wd := by omega
  have v5 : IntKind.i64.wrap wd = wd := IntWalk.i64_in _ (by omega)
  have u2 : IntKind.u8.wrap e = e := IntWalk.u8_in _ (by omega)
  have he0 : 0 ≤ e := he3.1
  have he64 : e ≤ 64 := by omega
  have hsh1 : IntKind.i64.wrap dp = dp := IntWalk.i64_in _ (by omega)
  have hi : In12 wd dp bt := ⟨by omega, hdp, qb⟩
  have hdb := dp_bound hi
  obtain ⟨nn, hnn⟩ : ∃ nn : Nat, (nn : Int) = 3 + dp * (1 + wd) := ⟨(3 + dp * (1 + wd)).toNat, by omega⟩
  have HNN := Kp.mk hnn
  clear hnn
  go_enter Tryz.func9, Tryz.ntmps9
  have HB0 : Kp (Below w.heap.size w w) := ⟨Below.refl _ _⟩
  go_wp2_with fail
  refine (wakes12_any _).mono ?_
  rintro e w1 ⟨rfl, hb⟩
  have HH1 : Kp (w1.heap[w.heap.size]? = some (.cells #[.int .u8 h0, .int .u8 h1] 70 (0, 0))) := ⟨blk_below (blk_new _ _) hb⟩
  have HB1 : Kp (Below w.heap.size w w1) := ⟨below_call (below_al HB0.out _) hb⟩
  have q20 := cbk HH1.out 0 (.int .u8 h0) rfl
  have q21 := cbk HH1.out 1 (.int .u8 h1) rfl
  have ql := blk_lt HH1.out
  clear HB0 hb
  by_cases hl1 : 300 < L
  · have n1 : (300 : Int) < (L : Int) := by omega
    go_wp2
    go_ret
    exact ⟨rfl, HB1.out⟩
  have n1 : ¬ (300 : Int) < (L : Int) := by omega
  go_wp2_with fail
  refine (two12_any wd dp bt _ (two12_ok wd dp bt hi)).mono ?_
  rintro e w2 ⟨cs, rfl, hC, hb⟩
  have HB2 : Kp (Below w.heap.size w w2) := ⟨below_call HB1.out hb⟩
  obtain ⟨kc, rfl, hKC⟩ := cf12_of hC hi
  have HK := Kp.mk hKC
  clear HB1 HH1 q20 q21 ql hb hC hKC
  go_wp2_with fail
  refine (begin12_any nn HNN.out _ HK.out).mono ?_
  rintro e w3 ⟨P, B, D, BB, rfl, hP, hBB0⟩
  have HR0 : Kp (Run w2 w3 P B D BB kc wd dp bt (rs0 wd dp bt nn) 0 0 (fun _ => False) (fun _ => False) 0 0 (.pointer none) (.pointer none) [false, false] 0) := ⟨⟨hP, rs0_jr hi nn HNN.out, Nat.zero_le _⟩⟩
  clear hP
  have HROW : Kp (RowAt w2 1 (.slice a1 L cp) L (bs.map Value.bool)) := ⟨HR.out.below HB2.out⟩
  go_wp2_with fail
  go_loopw [34] (fun i wr => ∃ (k : Nat) (z : Rs) (OS OR : Nat) (S R : Nat → Prop) (st ow : Nat) (sv rv : Value) (x : List Bool), k ≤ L ∧ i = .int .i64 k ∧ Kp (Run w2 wr P B D BB kc wd dp bt z OS OR S R st ow sv rv x k)) (fun i wr => L - (intOf i).toNat)
  case atStart => exact ⟨0, _, _, _, _, _, _, _, _, _, _, Nat.zero_le _, rfl, HR0⟩
  case round =>
    obtain ⟨k, z, OS, OR, S, R, st, ow, sv, rv, x, hk, rfl, HR1⟩ := hrel
    clear HR0
    by_cases hlt : k < L
    · obtain ⟨gb, ob, hab, hgb, hcb⟩ := HROW.out.at (by omega)
      subst hab
      have hlow := HR1.out.pl.core.low
      have lwr := hlow.size
      have ck : wr.cell? ⟨gb, ob + k, none⟩ = some (.bool (bs.getD k false)) := (hlow.cell (p := ⟨gb, ob + k, none⟩) hgb).trans ((hcb k (by omega)).trans (by have := HLL.out; rw [List.getElem?_map, List.getElem?_eq_getElem (by omega), List.getD_eq_getElem?_getD, List.getElem?_eq_getElem (by omega)]; rfl))
      have lgb : gb < wr.heap.size := by omega
      have hz : (0 : Int) ≤ (k : Int) := by omega
      have HCW := Kp.mk (HR1.out.send HK.out (by omega))
      have HCR := Kp.mk (HR1.out.recv HK.out (by omega))
      clear hcb hlow
      cases hbk : bs.getD k false
      focus
        rw [hbk] at ck
        go_wp2_with fail
        refine HCR.out.mono ?_
        rintro e w6 ⟨rfl, OR9, ow9, R9, rv9, hr', -, -⟩
        obtain ⟨y, hy⟩ : ∃ y, nxQ (pl12 wd dp) bt z = y := ⟨_, rfl⟩
        obtain ⟨OS9, hOS⟩ : ∃ o, OS = o := ⟨_, rfl⟩
        obtain ⟨S9, hS9⟩ : ∃ o, S = o := ⟨_, rfl⟩
        obtain ⟨st9, hst9⟩ : ∃ o, st = o := ⟨_, rfl⟩
        obtain ⟨sv9, hsv9⟩ : ∃ o, sv = o := ⟨_, rfl⟩
        obtain ⟨x9, hx9⟩ : ∃ o, x = o := ⟨_, rfl⟩
        rw [hy, hOS, hS9, hst9, hsv9, hx9] at hr'
        have HRY := Kp.mk hr'
        clear hr' hy hOS hS9 hst9 hsv9 hx9 HR1 HCW HCR ck lgb hbk
      rotate_left 1
      focus
        rw [hbk] at ck
        go_wp2_with fail
        refine HCW.out.mono ?_
        rintro e w6 ⟨rfl, OS9, st9, S9, sv9, x9, hr', -, -⟩
        obtain ⟨y, hy⟩ : ∃ y, nxS (pl12 wd dp) bt z = y := ⟨_, rfl⟩
        obtain ⟨OR9, hOR⟩ : ∃ o, OR = o := ⟨_, rfl⟩
        obtain ⟨R9, hR9⟩ : ∃ o, R = o := ⟨_, rfl⟩
        obtain ⟨ow9, how9⟩ : ∃ o, ow = o := ⟨_, rfl⟩
        obtain ⟨rv9, hrv9⟩ : ∃ o, rv = o := ⟨_, rfl⟩
        rw [hy, hOR, hR9, how9, hrv9] at hr'
        have HRY := Kp.mk hr'
        clear hr' hy hOR hR9 how9 hrv9 HR1 HCW HCR ck lgb hbk
      all_goals
        have HP1 := Kp.mk HRY.out.pl.blk
        have hj := HRY.out.jr
        have hz1 : y.got ≤ y.sent := hj.le
        have hz3 : y.sent ≤ k + 1 := HRY.out.le
        have m1 : IntKind.i64.wrap ((y.sent : Int) - (y.got : Int)) = (y.sent : Int) - (y.got : Int) := IntWalk.i64_in _ (by omega)
        have lP := blk_lt HP1.out
        have c0 := cbk HP1.out 0 (.slice kc.pa 2 kc.pc) rfl
        have c1 := cbk HP1.out 1 (.slice (some ⟨kc.cg, kc.co, none⟩) 1 kc.cc) rfl
        have c2 := cbk HP1.out 2 (.int .i64 1) rfl
        have c3 := cbk HP1.out 3 (.slice kc.a0 1 kc.c0) rfl
        have c4 := cbk HP1.out 4 (.int .i64 1) rfl
        have c5 := cbk HP1.out 5 (.slice kc.a1 1 kc.c1) rfl
        have c6 := cbk HP1.out 6 (.pointer (some ⟨B, 0, none⟩)) rfl
        have c7 := cbk HP1.out 7 (.pointer (some ⟨BB, 0, none⟩)) rfl
        have c8 := cbk HP1.out 8 (sv9) rfl
        have c9 := cbk HP1.out 9 (rv9) rfl
        have c10 := cbk HP1.out 10 (.int .u32 ((bt + y.n) % 4294967296)) rfl
        have c11 := cbk HP1.out 11 (.int .u32 ((bt + y.got) % 4294967296)) rfl
        have c12 := cbk HP1.out 12 (.int .i64 y.sent) rfl
        have c13 := cbk HP1.out 13 (.int .i64 y.got) rfl
        have c14 := cbk HP1.out 14 (.int .i64 y.n) rfl
        have c15 := cbk HP1.out 15 (.int .i64 st9) rfl
        have c16 := cbk HP1.out 16 (.int .i64 ow9) rfl
        have ks := eq_nil12 HRY.out.pl.s0 (fun e => (HRY.out.pl.s1 e).1)
        have kr := eq_nil12 HRY.out.pl.r0 (fun e => (HRY.out.pl.r1 e).1)
        have ke := eg_nil12 HRY.out.pl.s0 (fun e => (HRY.out.pl.s1 e).1)
        have kf := eg_nil12 HRY.out.pl.r0 (fun e => (HRY.out.pl.r1 e).1)
        have KS := Kp.mk (And.intro ks ke)
        have KR := Kp.mk (And.intro kr kf)
        obtain ⟨nd, hnd⟩ : ∃ nd : Int, (y.sent : Int) - (y.got : Int) = nd := ⟨_, rfl⟩
        have HCD : Kp (cntV (pl12 wd dp) y.ws ((bt + y.got) % 4294967296) false = nd) := ⟨hj.cntD.trans hnd⟩
        have HCS : Kp (y.sOn = false → cntV (pl12 wd dp) y.ws ((bt + y.n) % 4294967296) true = nd) := ⟨fun e => (hj.cntS e).trans hnd⟩
        rw [hnd] at m1
        have m1b : (y.sent : Int) - (y.got : Int) = nd := hnd
        clear hj ks kr ke kf
        go_wp2_with fail
        go_quiet (fail)
        have HP2 : Kp ((w6.drewN nq).heap[P]? = some (.cells #[.slice kc.pa 2 kc.pc, .slice (some ⟨kc.cg, kc.co, none⟩) 1 kc.cc, .int .i64 1, .slice kc.a0 1 kc.c0, .int .i64 1, .slice kc.a1 1 kc.c1, .pointer (some ⟨B, 0, none⟩), .pointer (some ⟨BB, 0, none⟩), sv9, rv9, .int .u32 ((bt + y.n) % 4294967296), .int .u32 ((bt + y.got) % 4294967296), .int .i64 y.sent, .int .i64 y.got, .int .i64 y.n, .int .i64 st9, .int .i64 ow9] 77 (0, 0))) := ⟨HP1.out⟩
        have HRY2 : Kp (Run w2 (w6.drewN nq) P B D BB kc wd dp bt y OS9 OR9 S9 R9 st9 ow9 sv9 rv9 x9 (k + 1)) := ⟨HRY.out.below (below_drN (Below.refl _ _))⟩
        clear HP1 HRY lP c0 c1 c2 c3 c4 c5 c6 c7 c8 c9 c10 c11 c12 c13 c14 c15 c16
        generalize w6.drewN nq = w7 at HP2 HRY2 ⊢
        have HP1 := HP2
        have HRY := HRY2
        clear HP2 HRY2
        have lP := blk_lt HP1.out
        have c0 := cbk HP1.out 0 (.slice kc.pa 2 kc.pc) rfl
        have c1 := cbk HP1.out 1 (.slice (some ⟨kc.cg, kc.co, none⟩) 1 kc.cc) rfl
        have c2 := cbk HP1.out 2 (.int .i64 1) rfl
        have c3 := cbk HP1.out 3 (.slice kc.a0 1 kc.c0) rfl
        have c4 := cbk HP1.out 4 (.int .i64 1) rfl
        have c5 := cbk HP1.out 5 (.slice kc.a1 1 kc.c1) rfl
        have c6 := cbk HP1.out 6 (.pointer (some ⟨B, 0, none⟩)) rfl
        have c7 := cbk HP1.out 7 (.pointer (some ⟨BB, 0, none⟩)) rfl
        have c8 := cbk HP1.out 8 (sv9) rfl
        have c9 := cbk HP1.out 9 (rv9) rfl
        have c10 := cbk HP1.out 10 (.int .u32 ((bt + y.n) % 4294967296)) rfl
        have c11 := cbk HP1.out 11 (.int .u32 ((bt + y.got) % 4294967296)) rfl
        have c12 := cbk HP1.out 12 (.int .i64 y.sent) rfl
        have c13 := cbk HP1.out 13 (.int .i64 y.got) rfl
        have c14 := cbk HP1.out 14 (.int .i64 y.n) rfl
        have c15 := cbk HP1.out 15 (.int .i64 st9) rfl
        have c16 := cbk HP1.out 16 (.int .i64 ow9) rfl
        cases hso : y.sOn <;> (obtain ⟨ks, ke⟩ := KS.out; rw [hso] at ks)
        focus
          have HCV := Kp.mk (HCS.out hso)
          have hcc := HRY.out.pl.core
          have lP := blk_lt HP1.out
          have lB := blk_lt hcc.mem.head
          have lD := blk_lt hcc.mem.words
          have lBB := hcc.bell.lt
          have l2w := hcc.low.size
          have hSlt : ∀ k, S9 k → k < w7.heap.size := fun k hk => (hcc.sS k hk).2.1
          have hRlt : ∀ k, R9 k → k < w7.heap.size := fun k hk => (hcc.sR k hk).2.1
          clear hcc
          go_wp2_with fail
          obtain ⟨RFS, hRFS⟩ : ∃ RFS : (Nat → Value) → Act → World → Prop, RFS = fun f a w7 => ∃ (T1 : Nat), a = ⟨#[.agg #[.int .u8 h0, .int .u8 h1], .int .u32 bt, .slice (some ⟨gb, ob, none⟩) L cp, .pointer (some ⟨w.heap.size, 0, none⟩), undef, undef, f 6, .pointer (some ⟨P, 0, none⟩), undef, f 9, .int .i64 nd, .pointer (some ⟨T1, 0, none⟩), f 12, .bool true, .bool false, .slice (some ⟨gb, ob, none⟩) L cp, .int .i64 L, .bool (decide ((300 : Int) < (L : Int))), .pointer (some ⟨w.heap.size, 0, none⟩), .int .u8 h0, .int .i64 h0, .int .i64 (wd - 1), .int .i64 wd, .pointer (some ⟨w.heap.size, 1, none⟩), .int .u8 h1, .int .u8 e, .int .i64 dp, .int .u32 bt, .agg #[.slice kc.pa 2 kc.pc, .slice (some ⟨kc.cg, kc.co, none⟩) 1 kc.cc, .int .i64 1, .slice kc.a0 1 kc.c0, .int .i64 1, .slice kc.a1 1 kc.c1], .pointer (some ⟨P, 0, none⟩), .pointer (some ⟨P, 0, none⟩), .bool false, .slice (some ⟨gb, ob, none⟩) L cp, .int .i64 L, .int .i64 k, f 35, f 36, f 37, f 38, f 39, f 40, f 41, f 42, f 43, f 44, f 45, f 46, f 47, f 48, f 49, f 50, f 51, f 52, f 53, f 54, f 55, f 56, f 57, f 58, f 59, f 60, f 61, f 62, f 63, f 64, f 65, f 66, f 67, f 68, f 69, f 70, f 71, f 72, f 73, f 74, f 75, f 76, f 77, f 78, f 79, f 80, f 81, f 82, f 83, f 84, f 85, f 86, f 87, f 88, f 89, f 90, f 91, f 92, f 93, f 94, f 95, f 96, f 97, f 98, f 99, f 100, f 101, f 102, f 103, f 104, f 105, f 106, f 107, f 108, f 109, f 110, f 111, f 112, f 113, f 114, f 115, f 116, f 117, f 118, f 119, f 120, f 121, f 122, f 123, f 124, f 125, f 126, f 127, f 128, f 129, f 130, f 131, f 132, f 133, f 134, f 135, f 136, f 137, f 138, f 139, f 140, f 141, f 142, f 143, f 144, f 145, f 146, f 147, f 148, f 149, f 150], []⟩ ∧ Kp (w7.heap[P]? = some (.cells #[.slice kc.pa 2 kc.pc, .slice (some ⟨kc.cg, kc.co, none⟩) 1 kc.cc, .int .i64 1, .slice kc.a0 1 kc.c0, .int .i64 1, .slice kc.a1 1 kc.c1, .pointer (some ⟨B, 0, none⟩), .pointer (some ⟨BB, 0, none⟩), sv9, rv9, .int .u32 ((bt + y.n) % 4294967296), .int .u32 ((bt + y.got) % 4294967296), .int .i64 y.sent, .int .i64 y.got, .int .i64 y.n, .int .i64 st9, .int .i64 ow9] 77 (0, 0))) ∧ Kp (Run w2 w7 P B D BB kc wd dp bt y OS9 OR9 S9 R9 st9 ow9 sv9 rv9 x9 (k + 1)) ∧ Kp (w7.heap[T1]? = some (.cells #[.bool true, .int .i64 0, .slice none 0 0, .bool false, .int .i64 nd, .bool true, .bool false, .bool false, .int .i64 0] 64 (0, 0))) := ⟨_, rfl⟩
          have HRFS := Kp.mk hRFS
          clear hRFS
          refine JQ.region (fun a w7 => RFS (fun i => a.tmps.getD i undef) a w7) ?_ ?_
          · have HX0 : Kp (w7.heap[P]? = some (.cells #[.slice kc.pa 2 kc.pc, .slice (some ⟨kc.cg, kc.co, none⟩) 1 kc.cc, .int .i64 1, .slice kc.a0 1 kc.c0, .int .i64 1, .slice kc.a1 1 kc.c1, .pointer (some ⟨B, 0, none⟩), .pointer (some ⟨BB, 0, none⟩), sv9, rv9, .int .u32 ((bt + y.n) % 4294967296), .int .u32 ((bt + y.got) % 4294967296), .int .i64 y.sent, .int .i64 y.got, .int .i64 y.n, .int .i64 st9, .int .i64 ow9] 77 (0, 0))) := ⟨HP1.out⟩
            refine held_start_gen (S := (fun w' : World => ∀ o, o ≠ 99 → w'.cell? ⟨P, o, none⟩ = w7.cell? ⟨P, o, none⟩)) (by kernel_rfl) (fun wz : World => Kp (wz.heap[P]? = some (.cells #[.slice kc.pa 2 kc.pc, .slice (some ⟨kc.cg, kc.co, none⟩) 1 kc.cc, .int .i64 1, .slice kc.a0 1 kc.c0, .int .i64 1, .slice kc.a1 1 kc.c1, .pointer (some ⟨B, 0, none⟩), .pointer (some ⟨BB, 0, none⟩), sv9, rv9, .int .u32 ((bt + y.n) % 4294967296), .int .u32 ((bt + y.got) % 4294967296), .int .i64 y.sent, .int .i64 y.got, .int .i64 y.n, .int .i64 st9, .int .i64 ow9] 77 (0, 0))) ∧ Kp (Run w2 wz P B D BB kc wd dp bt y OS9 OR9 S9 R9 st9 ow9 sv9 rv9 x9 (k + 1)) ∧ w7.heap.size ≤ wz.heap.size) ⟨⟨blk_dr HP1.out⟩, ⟨HRY.out.below (below_dr (Below.refl _ _))⟩, Nat.le_refl _⟩ (xc_of (fz' := (0, 0)) HX0.out (blk_dr HP1.out) 99 (fun _ _ => rfl)) (fun wd0 hRn hHeld => ?_)
            clear HP1 HRY
            obtain ⟨HP1, HRY, hsz⟩ := hRn
            refine wtk 0 ?_ rfl (.inl ⟨by rfl, ?_⟩) ?_
            rotate_left 1
            · (intro w hSw; go_simp; try with_reducible rfl)
            try simp only [Act.put, ls0, ls1, ls2]
            refine wtk 1 ?_ rfl (.inl ⟨by rfl, ?_⟩) ?_
            rotate_left 1
            · (intro w hSw; go_simp; try with_reducible rfl)
            try simp only [Act.put, ls0, ls1, ls2]
            refine wtk 2 ?_ rfl (.inl ⟨by rfl, ?_⟩) ?_
            rotate_left 1
            · (intro w hSw; go_simp; try with_reducible rfl)
            try simp only [Act.put, ls0, ls1, ls2]
            refine wtk 3 ?_ rfl (.inl ⟨by rfl, ?_⟩) ?_
            rotate_left 1
            · (intro w hSw; go_simp; try with_reducible rfl)
            try simp only [Act.put, ls0, ls1, ls2]
            refine wtk 4 ?_ rfl (.inl ⟨by rfl, ?_⟩) ?_
            rotate_left 1
            · (intro w hSw; go_simp; try with_reducible rfl)
            try simp only [Act.put, ls0, ls1, ls2]
            refine wtk 5 ?_ rfl (.inl ⟨by rfl, ?_⟩) ?_
            rotate_left 1
            · (intro w hSw; go_simp; try with_reducible rfl)
            try simp only [Act.put, ls0, ls1, ls2]
            refine wtk 6 ?_ rfl (.inl ⟨by rfl, ?_⟩) ?_
            rotate_left 1
            · (intro w hSw; go_simp; try with_reducible rfl)
            try simp only [Act.put, ls0, ls1, ls2]
            refine wtk 7 ?_ rfl (.inl ⟨by rfl, ?_⟩) ?_
            rotate_left 1
            · (intro w hSw; go_simp; try with_reducible rfl)
            try simp only [Act.put, ls0, ls1, ls2]
            refine wtk 9 ?_ rfl (.inl ⟨by rfl, ?_⟩) ?_
            rotate_left 1
            · (intro w hSw; go_simp; try with_reducible rfl)
            try simp only [Act.put, ls0, ls1, ls2]
            refine wtk 10 ?_ rfl (.inl ⟨by rfl, ?_⟩) ?_
            rotate_left 1
            · (intro w hSw; go_simp; try with_reducible rfl)
            try simp only [Act.put, ls0, ls1, ls2]
            refine wtk 11 ?_ rfl (.inl ⟨by rfl, ?_⟩) ?_
            rotate_left 1
            · (intro w hSw; go_simp; try with_reducible rfl)
            try simp only [Act.put, ls0, ls1, ls2]
            refine wtk 12 ?_ rfl (.inl ⟨by rfl, ?_⟩) ?_
            rotate_left 1
            · (intro w hSw; go_simp; try with_reducible rfl)
            try simp only [Act.put, ls0, ls1, ls2]
            refine wtk 13 ?_ rfl (.inl ⟨by rfl, ?_⟩) ?_
            rotate_left 1
            · (intro w hSw; go_simp; try with_reducible rfl)
            try simp only [Act.put, ls0, ls1, ls2]
            refine wtk 14 ?_ rfl (.inl ⟨by rfl, ?_⟩) ?_
            rotate_left 1
            · (intro w hSw; go_simp; try with_reducible rfl)
            try simp only [Act.put, ls0, ls1, ls2]
            refine wtk 15 ?_ rfl (.inl ⟨by rfl, ?_⟩) ?_
            rotate_left 1
            · (intro w hSw; go_simp; try with_reducible rfl)
            try simp only [Act.put, ls0, ls1, ls2]
            refine wtk 16 ?_ rfl (.inl ⟨by rfl, ?_⟩) ?_
            rotate_left 1
            · (intro w hSw; go_simp; try with_reducible rfl)
            try simp only [Act.put, ls0, ls1, ls2]
            refine wrd [8, 18] ?_
            refine (arc rfl (fun K hK => ?_) (arc rfl (fun K hK => ?_) arn))
            · go_simp
              go_at_call 35
              refine (count_at ((bt + y.n) % 4294967296) (by omega) true _ (HK.out.below HRY.out.pl.core.low)).mono ?_
              rintro e w9 ⟨O1, g1, QB1, OW1, SB1, rfl, hCN, hb, hO1⟩
              try go_wp2_with fail
              refine out_gen hK _ _ (fun wz : World => Kp (wz.heap[P]? = some (.cells #[.slice kc.pa 2 kc.pc, .slice (some ⟨kc.cg, kc.co, none⟩) 1 kc.cc, .int .i64 1, .slice kc.a0 1 kc.c0, .int .i64 1, .slice kc.a1 1 kc.c1, .pointer (some ⟨B, 0, none⟩), .pointer (some ⟨BB, 0, none⟩), sv9, rv9, .int .u32 ((bt + y.n) % 4294967296), .int .u32 ((bt + y.got) % 4294967296), .int .i64 y.sent, .int .i64 y.got, .int .i64 y.n, .int .i64 st9, .int .i64 ow9] 77 (0, 0))) ∧ Kp (Run w2 wz P B D BB kc wd dp bt y OS9 OR9 S9 R9 st9 ow9 sv9 rv9 x9 (k + 1)) ∧ Kp (CntAt wz O1 g1 QB1 OW1 SB1 ((bt + y.n) % 4294967296) true (qu12 wd dp ((bt + y.n) % 4294967296))) ∧ Kp (w2.heap.size ≤ O1 ∧ ¬ S9 O1 ∧ ¬ R9 O1 ∧ O1 ≠ P ∧ O1 ≠ B ∧ O1 ≠ D ∧ O1 ≠ BB) ∧ wd0.heap.size ≤ wz.heap.size) ⟨⟨blk_below HP1.out hb⟩, ⟨HRY.out.below hb⟩, ⟨hCN⟩, ⟨⟨by omega, fun e => (by have := hSlt _ e; omega), fun e => (by have := hRlt _ e; omega), by omega, by omega, by omega, by omega⟩⟩, hb.size⟩ (xc_of (fz' := (0, 0)) HX0.out (blk_below HP1.out hb) 99 (fun _ _ => rfl)) (fun wd1 hRn hHn => ?_)
              clear hK K hHeld HP1 HRY hCN hb hO1
              obtain ⟨HP1, HRY, HCN, HON, hsz1⟩ := hRn
              have hHeld := hHn
              clear hHn
              try simp only [Act.put, ls0, ls1, ls2]
              refine wrd [17, 18] ?_
              refine (arc rfl (fun K hK => ?_) (arc rfl (fun K hK => ?_) arn))
              · go_simp
                go_at_call 36
                have hcc := HRY.out.pl.core
                refine (cnt_step (BB := BB) HCN.out (qu12_fits wd dp _) (qu12_ok' hi _ hcc.len) (by omega) hcc.mem ⟨HON.out.2.2.2.2.1, HON.out.2.2.2.2.2.1⟩ 0).mono ?_
                rw [HCV.out]
                rintro e w9 ⟨rfl, hb⟩
                try have hTO := HTO.out
                try go_wp2_with fail
                refine out_gen hK _ _ (fun wz : World => Kp (wz.heap[P]? = some (.cells #[.slice kc.pa 2 kc.pc, .slice (some ⟨kc.cg, kc.co, none⟩) 1 kc.cc, .int .i64 1, .slice kc.a0 1 kc.c0, .int .i64 1, .slice kc.a1 1 kc.c1, .pointer (some ⟨B, 0, none⟩), .pointer (some ⟨BB, 0, none⟩), sv9, rv9, .int .u32 ((bt + y.n) % 4294967296), .int .u32 ((bt + y.got) % 4294967296), .int .i64 y.sent, .int .i64 y.got, .int .i64 y.n, .int .i64 st9, .int .i64 ow9] 77 (0, 0))) ∧ Kp (Run w2 wz P B D BB kc wd dp bt y OS9 OR9 S9 R9 st9 ow9 sv9 rv9 x9 (k + 1)) ∧ Kp (w2.heap.size ≤ O1 ∧ ¬ S9 O1 ∧ ¬ R9 O1 ∧ O1 ≠ P ∧ O1 ≠ B ∧ O1 ≠ D ∧ O1 ≠ BB) ∧ wd1.heap.size ≤ wz.heap.size) ⟨⟨hb.blk HP1.out (by simpa using Ne.symm HON.out.2.2.2.1)⟩, ⟨HRY.out.butN hb HON.out⟩, ⟨HON.out⟩, hb.size⟩ (xc_of (fz' := (0, 0)) HX0.out (hb.blk HP1.out (by simpa using Ne.symm HON.out.2.2.2.1)) 99 (fun _ _ => rfl)) (fun wd2 hRn hHn => ?_)
                clear hK K hHeld HP1 HRY HCN HON hb hcc
                obtain ⟨HP1, HRY, HON, hsz2⟩ := hRn
                have hHeld := hHn
                clear hHn
                try simp only [Act.put, ls0, ls1, ls2]
                refine wrd [18] ?_
                refine (arc rfl (fun K hK => ?_) arn)
                have ge_db : w7.heap.size ≤ wd2.heap.size := (by omega)
                go_simp
                try go_wp2_with fail
                refine out_gen hK _ _ (fun wz : World => Kp (wz.heap[P]? = some (.cells #[.slice kc.pa 2 kc.pc, .slice (some ⟨kc.cg, kc.co, none⟩) 1 kc.cc, .int .i64 1, .slice kc.a0 1 kc.c0, .int .i64 1, .slice kc.a1 1 kc.c1, .pointer (some ⟨B, 0, none⟩), .pointer (some ⟨BB, 0, none⟩), sv9, rv9, .int .u32 ((bt + y.n) % 4294967296), .int .u32 ((bt + y.got) % 4294967296), .int .i64 y.sent, .int .i64 y.got, .int .i64 y.n, .int .i64 st9, .int .i64 ow9] 77 (0, 0))) ∧ Kp (Run w2 wz P B D BB kc wd dp bt y OS9 OR9 S9 R9 st9 ow9 sv9 rv9 x9 (k + 1)) ∧ Kp (w2.heap.size ≤ O1 ∧ ¬ S9 O1 ∧ ¬ R9 O1 ∧ O1 ≠ P ∧ O1 ≠ B ∧ O1 ≠ D ∧ O1 ≠ BB) ∧ Kp (wz.heap[wd2.heap.size]? = some (.cells #[.bool false, .int .i64 0, .slice none 0 0, .bool false, .int .i64 0, .bool false, .bool false, .bool false, .int .i64 0] 64 (0, 0))) ∧ Kp (w2.heap.size ≤ wd2.heap.size ∧ ¬ S9 wd2.heap.size ∧ ¬ R9 wd2.heap.size ∧ wd2.heap.size ≠ P ∧ wd2.heap.size ≠ B ∧ wd2.heap.size ≠ D ∧ wd2.heap.size ≠ BB) ∧ wd2.heap.size < wz.heap.size) ⟨⟨blk_al HP1.out _⟩, ⟨HRY.out.below (below_al (Below.refl _ _) _)⟩, ⟨HON.out⟩, ⟨blk_new wd2 _⟩, ⟨⟨by omega, fun e => (by have := hSlt _ e; omega), fun e => (by have := hRlt _ e; omega), by omega, by omega, by omega, by omega⟩⟩, (by simp)⟩ (xc_of (fz' := (0, 0)) HX0.out (blk_al HP1.out _) 99 (fun _ _ => rfl)) (fun wd3 hRn hHn => ?_)
                clear hK K hHeld HP1 HRY HON
                obtain ⟨HP1, HRY, HON, db, HTN, hsz3⟩ := hRn
                have hHeld := hHn
                clear hHn
                try simp only [Act.put, ls0, ls1, ls2]
                have lt_db := blk_lt db.out
                refine wrd [19] ?_
                refine (arc rfl (fun K hK => ?_) arn)
                have sd0 := cbk db.out 0 (.bool false) rfl
                have sf0 := frozen_blk db.out 0
                have sd1 := cbk db.out 1 (.int .i64 0) rfl
                have sf1 := frozen_blk db.out 1
                have sd2 := cbk db.out 2 (.slice none 0 0) rfl
                have sf2 := frozen_blk db.out 2
                have sd3 := cbk db.out 3 (.bool false) rfl
                have sf3 := frozen_blk db.out 3
                have sd4 := cbk db.out 4 (.int .i64 0) rfl
                have sf4 := frozen_blk db.out 4
                have sd5 := cbk db.out 5 (.bool false) rfl
                have sf5 := frozen_blk db.out 5
                have sd6 := cbk db.out 6 (.bool false) rfl
                have sf6 := frozen_blk db.out 6
                have sd7 := cbk db.out 7 (.bool false) rfl
                have sf7 := frozen_blk db.out 7
                have sd8 := cbk db.out 8 (.int .i64 0) rfl
                have sf8 := frozen_blk db.out 8
                have sl := blk_lt db.out
                go_simp
                try go_wp2_with fail
                refine out_gen hK _ _ (fun wz : World => Kp (wz.heap[P]? = some (.cells #[.slice kc.pa 2 kc.pc, .slice (some ⟨kc.cg, kc.co, none⟩) 1 kc.cc, .int .i64 1, .slice kc.a0 1 kc.c0, .int .i64 1, .slice kc.a1 1 kc.c1, .pointer (some ⟨B, 0, none⟩), .pointer (some ⟨BB, 0, none⟩), sv9, rv9, .int .u32 ((bt + y.n) % 4294967296), .int .u32 ((bt + y.got) % 4294967296), .int .i64 y.sent, .int .i64 y.got, .int .i64 y.n, .int .i64 st9, .int .i64 ow9] 77 (0, 0))) ∧ Kp (Run w2 wz P B D BB kc wd dp bt y OS9 OR9 S9 R9 st9 ow9 sv9 rv9 x9 (k + 1)) ∧ Kp (w2.heap.size ≤ O1 ∧ ¬ S9 O1 ∧ ¬ R9 O1 ∧ O1 ≠ P ∧ O1 ≠ B ∧ O1 ≠ D ∧ O1 ≠ BB) ∧ Kp (wz.heap[wd2.heap.size]? = some (.cells #[.bool true, .int .i64 0, .slice none 0 0, .bool false, .int .i64 nd, .bool true, .bool false, .bool false, .int .i64 0] 64 (0, 0))) ∧ Kp (w2.heap.size ≤ wd2.heap.size ∧ ¬ S9 wd2.heap.size ∧ ¬ R9 wd2.heap.size ∧ wd2.heap.size ≠ P ∧ wd2.heap.size ≠ B ∧ wd2.heap.size ≠ D ∧ wd2.heap.size ≠ BB) ∧ wd3.heap.size ≤ wz.heap.size) ⟨⟨(blk_set_ne (p := ⟨wd2.heap.size, 8, none⟩) (blk_set_ne (p := ⟨wd2.heap.size, 7, none⟩) (blk_set_ne (p := ⟨wd2.heap.size, 6, none⟩) (blk_set_ne (p := ⟨wd2.heap.size, 5, none⟩) (blk_set_ne (p := ⟨wd2.heap.size, 4, none⟩) (blk_set_ne (p := ⟨wd2.heap.size, 3, none⟩) (blk_set_ne (p := ⟨wd2.heap.size, 2, none⟩) (blk_set_ne (p := ⟨wd2.heap.size, 1, none⟩) (blk_set_ne (p := ⟨wd2.heap.size, 0, none⟩) HP1.out (by show P ≠ wd2.heap.size; omega) _) (by show P ≠ wd2.heap.size; omega) _) (by show P ≠ wd2.heap.size; omega) _) (by show P ≠ wd2.heap.size; omega) _) (by show P ≠ wd2.heap.size; omega) _) (by show P ≠ wd2.heap.size; omega) _) (by show P ≠ wd2.heap.size; omega) _) (by show P ≠ wd2.heap.size; omega) _) (by show P ≠ wd2.heap.size; omega) _)⟩, ⟨(((((((((HRY.out.setN wd2.heap.size 0 _ HTN.out).setN wd2.heap.size 1 _ HTN.out).setN wd2.heap.size 2 _ HTN.out).setN wd2.heap.size 3 _ HTN.out).setN wd2.heap.size 4 _ HTN.out).setN wd2.heap.size 5 _ HTN.out).setN wd2.heap.size 6 _ HTN.out).setN wd2.heap.size 7 _ HTN.out).setN wd2.heap.size 8 _ HTN.out)⟩, ⟨(((((((((HON.out)))))))))⟩, ⟨(blk_set (blk_set (blk_set (blk_set (blk_set (blk_set (blk_set (blk_set (blk_set db.out 0 _) 1 _) 2 _) 3 _) 4 _) 5 _) 6 _) 7 _) 8 _).trans (by first | (simp only [ls0, ls1, ls2]; done) | rfl)⟩, ⟨(((((((((HTN.out)))))))))⟩, (by simp [World.setCell])⟩ (xc_of (fz' := (0, 0)) HX0.out ((blk_set_ne (p := ⟨wd2.heap.size, 8, none⟩) (blk_set_ne (p := ⟨wd2.heap.size, 7, none⟩) (blk_set_ne (p := ⟨wd2.heap.size, 6, none⟩) (blk_set_ne (p := ⟨wd2.heap.size, 5, none⟩) (blk_set_ne (p := ⟨wd2.heap.size, 4, none⟩) (blk_set_ne (p := ⟨wd2.heap.size, 3, none⟩) (blk_set_ne (p := ⟨wd2.heap.size, 2, none⟩) (blk_set_ne (p := ⟨wd2.heap.size, 1, none⟩) (blk_set_ne (p := ⟨wd2.heap.size, 0, none⟩) HP1.out (by show P ≠ wd2.heap.size; omega) _) (by show P ≠ wd2.heap.size; omega) _) (by show P ≠ wd2.heap.size; omega) _) (by show P ≠ wd2.heap.size; omega) _) (by show P ≠ wd2.heap.size; omega) _) (by show P ≠ wd2.heap.size; omega) _) (by show P ≠ wd2.heap.size; omega) _) (by show P ≠ wd2.heap.size; omega) _) (by show P ≠ wd2.heap.size; omega) _)) 99 (fun _ _ => rfl)) (fun wd4 hRn hHn => ?_)
                clear hK K hHeld HP1 HRY HON db HTN sd0 sf0 sd1 sf1 sd2 sf2 sd3 sf3 sd4 sf4 sd5 sf5 sd6 sf6 sd7 sf7 sd8 sf8 sl
                obtain ⟨HP1, HRY, HON, db, HTN, hsz4⟩ := hRn
                have hHeld := hHn
                clear hHn
                try simp only [Act.put, ls0, ls1, ls2]
                refine wpAnyH_done (by kernel_rfl) ?_ _
                clear HX0
                refine JQ.mk ?_
                rw [HRFS.out]
                exact ⟨_, rfl, HP1, HRY, db⟩
              · have ge_db : w7.heap.size ≤ wd1.heap.size := (by omega)
                go_simp
                try go_wp2_with fail
                refine out_gen hK _ _ (fun wz : World => Kp (wz.heap[P]? = some (.cells #[.slice kc.pa 2 kc.pc, .slice (some ⟨kc.cg, kc.co, none⟩) 1 kc.cc, .int .i64 1, .slice kc.a0 1 kc.c0, .int .i64 1, .slice kc.a1 1 kc.c1, .pointer (some ⟨B, 0, none⟩), .pointer (some ⟨BB, 0, none⟩), sv9, rv9, .int .u32 ((bt + y.n) % 4294967296), .int .u32 ((bt + y.got) % 4294967296), .int .i64 y.sent, .int .i64 y.got, .int .i64 y.n, .int .i64 st9, .int .i64 ow9] 77 (0, 0))) ∧ Kp (Run w2 wz P B D BB kc wd dp bt y OS9 OR9 S9 R9 st9 ow9 sv9 rv9 x9 (k + 1)) ∧ Kp (CntAt wz O1 g1 QB1 OW1 SB1 ((bt + y.n) % 4294967296) true (qu12 wd dp ((bt + y.n) % 4294967296))) ∧ Kp (w2.heap.size ≤ O1 ∧ ¬ S9 O1 ∧ ¬ R9 O1 ∧ O1 ≠ P ∧ O1 ≠ B ∧ O1 ≠ D ∧ O1 ≠ BB) ∧ Kp (wz.heap[wd1.heap.size]? = some (.cells #[.bool false, .int .i64 0, .slice none 0 0, .bool false, .int .i64 0, .bool false, .bool false, .bool false, .int .i64 0] 64 (0, 0))) ∧ Kp (w2.heap.size ≤ wd1.heap.size ∧ ¬ S9 wd1.heap.size ∧ ¬ R9 wd1.heap.size ∧ wd1.heap.size ≠ P ∧ wd1.heap.size ≠ B ∧ wd1.heap.size ≠ D ∧ wd1.heap.size ≠ BB) ∧ Kp (wd1.heap.size ≠ O1) ∧ wd1.heap.size < wz.heap.size) ⟨⟨blk_al HP1.out _⟩, ⟨HRY.out.below (below_al (Below.refl _ _) _)⟩, ⟨HCN.out.below (below_al (Below.refl _ _) _)⟩, ⟨HON.out⟩, ⟨blk_new wd1 _⟩, ⟨⟨by omega, fun e => (by have := hSlt _ e; omega), fun e => (by have := hRlt _ e; omega), by omega, by omega, by omega, by omega⟩⟩, ⟨by have := blk_lt HCN.out.op; omega⟩, (by simp)⟩ (xc_of (fz' := (0, 0)) HX0.out (blk_al HP1.out _) 99 (fun _ _ => rfl)) (fun wd5 hRn hHn => ?_)
                clear hK K hHeld HP1 HRY HCN HON
                obtain ⟨HP1, HRY, HCN, HON, db, HTN, HTO, hsz5⟩ := hRn
                have hHeld := hHn
                clear hHn
                try simp only [Act.put, ls0, ls1, ls2]
                have lt_db := blk_lt db.out
                refine wrd [17] ?_
                refine (arc rfl (fun K hK => ?_) arn)
                go_simp
                go_at_call 36
                have hcc := HRY.out.pl.core
                refine (cnt_step (BB := BB) HCN.out (qu12_fits wd dp _) (qu12_ok' hi _ hcc.len) (by omega) hcc.mem ⟨HON.out.2.2.2.2.1, HON.out.2.2.2.2.2.1⟩ 0).mono ?_
                rw [HCV.out]
                rintro e w9 ⟨rfl, hb⟩
                try have hTO := HTO.out
                try go_wp2_with fail
                refine out_gen hK _ _ (fun wz : World => Kp (wz.heap[P]? = some (.cells #[.slice kc.pa 2 kc.pc, .slice (some ⟨kc.cg, kc.co, none⟩) 1 kc.cc, .int .i64 1, .slice kc.a0 1 kc.c0, .int .i64 1, .slice kc.a1 1 kc.c1, .pointer (some ⟨B, 0, none⟩), .pointer (some ⟨BB, 0, none⟩), sv9, rv9, .int .u32 ((bt + y.n) % 4294967296), .int .u32 ((bt + y.got) % 4294967296), .int .i64 y.sent, .int .i64 y.got, .int .i64 y.n, .int .i64 st9, .int .i64 ow9] 77 (0, 0))) ∧ Kp (Run w2 wz P B D BB kc wd dp bt y OS9 OR9 S9 R9 st9 ow9 sv9 rv9 x9 (k + 1)) ∧ Kp (w2.heap.size ≤ O1 ∧ ¬ S9 O1 ∧ ¬ R9 O1 ∧ O1 ≠ P ∧ O1 ≠ B ∧ O1 ≠ D ∧ O1 ≠ BB) ∧ Kp (wz.heap[wd1.heap.size]? = some (.cells #[.bool false, .int .i64 0, .slice none 0 0, .bool false, .int .i64 0, .bool false, .bool false, .bool false, .int .i64 0] 64 (0, 0))) ∧ Kp (w2.heap.size ≤ wd1.heap.size ∧ ¬ S9 wd1.heap.size ∧ ¬ R9 wd1.heap.size ∧ wd1.heap.size ≠ P ∧ wd1.heap.size ≠ B ∧ wd1.heap.size ≠ D ∧ wd1.heap.size ≠ BB) ∧ Kp (wd1.heap.size ≠ O1) ∧ wd5.heap.size ≤ wz.heap.size) ⟨⟨hb.blk HP1.out (by simpa using Ne.symm HON.out.2.2.2.1)⟩, ⟨HRY.out.butN hb HON.out⟩, ⟨HON.out⟩, ⟨hb.blk db.out (by simpa using hTO)⟩, ⟨HTN.out⟩, ⟨HTO.out⟩, hb.size⟩ (xc_of (fz' := (0, 0)) HX0.out (hb.blk HP1.out (by simpa using Ne.symm HON.out.2.2.2.1)) 99 (fun _ _ => rfl)) (fun wd6 hRn hHn => ?_)
                clear hK K hHeld HP1 HRY HCN HON db HTN HTO hb hcc
                obtain ⟨HP1, HRY, HON, db, HTN, HTO, hsz6⟩ := hRn
                have hHeld := hHn
                clear hHn
                try simp only [Act.put, ls0, ls1, ls2]
                refine wrd [19] ?_
                refine (arc rfl (fun K hK => ?_) arn)
                have sd0 := cbk db.out 0 (.bool false) rfl
                have sf0 := frozen_blk db.out 0
                have sd1 := cbk db.out 1 (.int .i64 0) rfl
                have sf1 := frozen_blk db.out 1
                have sd2 := cbk db.out 2 (.slice none 0 0) rfl
                have sf2 := frozen_blk db.out 2
                have sd3 := cbk db.out 3 (.bool false) rfl
                have sf3 := frozen_blk db.out 3
                have sd4 := cbk db.out 4 (.int .i64 0) rfl
                have sf4 := frozen_blk db.out 4
                have sd5 := cbk db.out 5 (.bool false) rfl
                have sf5 := frozen_blk db.out 5
                have sd6 := cbk db.out 6 (.bool false) rfl
                have sf6 := frozen_blk db.out 6
                have sd7 := cbk db.out 7 (.bool false) rfl
                have sf7 := frozen_blk db.out 7
                have sd8 := cbk db.out 8 (.int .i64 0) rfl
                have sf8 := frozen_blk db.out 8
                have sl := blk_lt db.out
                go_simp
                try go_wp2_with fail
                refine out_gen hK _ _ (fun wz : World => Kp (wz.heap[P]? = some (.cells #[.slice kc.pa 2 kc.pc, .slice (some ⟨kc.cg, kc.co, none⟩) 1 kc.cc, .int .i64 1, .slice kc.a0 1 kc.c0, .int .i64 1, .slice kc.a1 1 kc.c1, .pointer (some ⟨B, 0, none⟩), .pointer (some ⟨BB, 0, none⟩), sv9, rv9, .int .u32 ((bt + y.n) % 4294967296), .int .u32 ((bt + y.got) % 4294967296), .int .i64 y.sent, .int .i64 y.got, .int .i64 y.n, .int .i64 st9, .int .i64 ow9] 77 (0, 0))) ∧ Kp (Run w2 wz P B D BB kc wd dp bt y OS9 OR9 S9 R9 st9 ow9 sv9 rv9 x9 (k + 1)) ∧ Kp (w2.heap.size ≤ O1 ∧ ¬ S9 O1 ∧ ¬ R9 O1 ∧ O1 ≠ P ∧ O1 ≠ B ∧ O1 ≠ D ∧ O1 ≠ BB) ∧ Kp (wz.heap[wd1.heap.size]? = some (.cells #[.bool true, .int .i64 0, .slice none 0 0, .bool false, .int .i64 nd, .bool true, .bool false, .bool false, .int .i64 0] 64 (0, 0))) ∧ Kp (w2.heap.size ≤ wd1.heap.size ∧ ¬ S9 wd1.heap.size ∧ ¬ R9 wd1.heap.size ∧ wd1.heap.size ≠ P ∧ wd1.heap.size ≠ B ∧ wd1.heap.size ≠ D ∧ wd1.heap.size ≠ BB) ∧ Kp (wd1.heap.size ≠ O1) ∧ wd6.heap.size ≤ wz.heap.size) ⟨⟨(blk_set_ne (p := ⟨wd1.heap.size, 8, none⟩) (blk_set_ne (p := ⟨wd1.heap.size, 7, none⟩) (blk_set_ne (p := ⟨wd1.heap.size, 6, none⟩) (blk_set_ne (p := ⟨wd1.heap.size, 5, none⟩) (blk_set_ne (p := ⟨wd1.heap.size, 4, none⟩) (blk_set_ne (p := ⟨wd1.heap.size, 3, none⟩) (blk_set_ne (p := ⟨wd1.heap.size, 2, none⟩) (blk_set_ne (p := ⟨wd1.heap.size, 1, none⟩) (blk_set_ne (p := ⟨wd1.heap.size, 0, none⟩) HP1.out (by show P ≠ wd1.heap.size; omega) _) (by show P ≠ wd1.heap.size; omega) _) (by show P ≠ wd1.heap.size; omega) _) (by show P ≠ wd1.heap.size; omega) _) (by show P ≠ wd1.heap.size; omega) _) (by show P ≠ wd1.heap.size; omega) _) (by show P ≠ wd1.heap.size; omega) _) (by show P ≠ wd1.heap.size; omega) _) (by show P ≠ wd1.heap.size; omega) _)⟩, ⟨(((((((((HRY.out.setN wd1.heap.size 0 _ HTN.out).setN wd1.heap.size 1 _ HTN.out).setN wd1.heap.size 2 _ HTN.out).setN wd1.heap.size 3 _ HTN.out).setN wd1.heap.size 4 _ HTN.out).setN wd1.heap.size 5 _ HTN.out).setN wd1.heap.size 6 _ HTN.out).setN wd1.heap.size 7 _ HTN.out).setN wd1.heap.size 8 _ HTN.out)⟩, ⟨(((((((((HON.out)))))))))⟩, ⟨(blk_set (blk_set (blk_set (blk_set (blk_set (blk_set (blk_set (blk_set (blk_set db.out 0 _) 1 _) 2 _) 3 _) 4 _) 5 _) 6 _) 7 _) 8 _).trans (by first | (simp only [ls0, ls1, ls2]; done) | rfl)⟩, ⟨(((((((((HTN.out)))))))))⟩, ⟨(((((((((HTO.out)))))))))⟩, (by simp [World.setCell])⟩ (xc_of (fz' := (0, 0)) HX0.out ((blk_set_ne (p := ⟨wd1.heap.size, 8, none⟩) (blk_set_ne (p := ⟨wd1.heap.size, 7, none⟩) (blk_set_ne (p := ⟨wd1.heap.size, 6, none⟩) (blk_set_ne (p := ⟨wd1.heap.size, 5, none⟩) (blk_set_ne (p := ⟨wd1.heap.size, 4, none⟩) (blk_set_ne (p := ⟨wd1.heap.size, 3, none⟩) (blk_set_ne (p := ⟨wd1.heap.size, 2, none⟩) (blk_set_ne (p := ⟨wd1.heap.size, 1, none⟩) (blk_set_ne (p := ⟨wd1.heap.size, 0, none⟩) HP1.out (by show P ≠ wd1.heap.size; omega) _) (by show P ≠ wd1.heap.size; omega) _) (by show P ≠ wd1.heap.size; omega) _) (by show P ≠ wd1.heap.size; omega) _) (by show P ≠ wd1.heap.size; omega) _) (by show P ≠ wd1.heap.size; omega) _) (by show P ≠ wd1.heap.size; omega) _) (by show P ≠ wd1.heap.size; omega) _) (by show P ≠ wd1.heap.size; omega) _)) 99 (fun _ _ => rfl)) (fun wd7 hRn hHn => ?_)
                clear hK K hHeld HP1 HRY HON db HTN HTO sd0 sf0 sd1 sf1 sd2 sf2 sd3 sf3 sd4 sf4 sd5 sf5 sd6 sf6 sd7 sf7 sd8 sf8 sl
                obtain ⟨HP1, HRY, HON, db, HTN, HTO, hsz7⟩ := hRn
                have hHeld := hHn
                clear hHn
                try simp only [Act.put, ls0, ls1, ls2]
                refine wpAnyH_done (by kernel_rfl) ?_ _
                clear HX0
                refine JQ.mk ?_
                rw [HRFS.out]
                exact ⟨_, rfl, HP1, HRY, db⟩
            · have ge_db : w7.heap.size ≤ wd0.heap.size := (by omega)
              go_simp
              try go_wp2_with fail
              refine out_gen hK _ _ (fun wz : World => Kp (wz.heap[P]? = some (.cells #[.slice kc.pa 2 kc.pc, .slice (some ⟨kc.cg, kc.co, none⟩) 1 kc.cc, .int .i64 1, .slice kc.a0 1 kc.c0, .int .i64 1, .slice kc.a1 1 kc.c1, .pointer (some ⟨B, 0, none⟩), .pointer (some ⟨BB, 0, none⟩), sv9, rv9, .int .u32 ((bt + y.n) % 4294967296), .int .u32 ((bt + y.got) % 4294967296), .int .i64 y.sent, .int .i64 y.got, .int .i64 y.n, .int .i64 st9, .int .i64 ow9] 77 (0, 0))) ∧ Kp (Run w2 wz P B D BB kc wd dp bt y OS9 OR9 S9 R9 st9 ow9 sv9 rv9 x9 (k + 1)) ∧ Kp (wz.heap[wd0.heap.size]? = some (.cells #[.bool false, .int .i64 0, .slice none 0 0, .bool false, .int .i64 0, .bool false, .bool false, .bool false, .int .i64 0] 64 (0, 0))) ∧ Kp (w2.heap.size ≤ wd0.heap.size ∧ ¬ S9 wd0.heap.size ∧ ¬ R9 wd0.heap.size ∧ wd0.heap.size ≠ P ∧ wd0.heap.size ≠ B ∧ wd0.heap.size ≠ D ∧ wd0.heap.size ≠ BB) ∧ wd0.heap.size < wz.heap.size) ⟨⟨blk_al HP1.out _⟩, ⟨HRY.out.below (below_al (Below.refl _ _) _)⟩, ⟨blk_new wd0 _⟩, ⟨⟨by omega, fun e => (by have := hSlt _ e; omega), fun e => (by have := hRlt _ e; omega), by omega, by omega, by omega, by omega⟩⟩, (by simp)⟩ (xc_of (fz' := (0, 0)) HX0.out (blk_al HP1.out _) 99 (fun _ _ => rfl)) (fun wd8 hRn hHn => ?_)
              clear hK K hHeld HP1 HRY
              obtain ⟨HP1, HRY, db, HTN, hsz8⟩ := hRn
              have hHeld := hHn
              clear hHn
              try simp only [Act.put, ls0, ls1, ls2]
              have lt_db := blk_lt db.out
              refine wrd [8] ?_
              refine (arc rfl (fun K hK => ?_) arn)
              go_simp
              go_at_call 35
              refine (count_at ((bt + y.n) % 4294967296) (by omega) true _ (HK.out.below HRY.out.pl.core.low)).mono ?_
              rintro e w9 ⟨O1, g1, QB1, OW1, SB1, rfl, hCN, hb, hO1⟩
              try go_wp2_with fail
              refine out_gen hK _ _ (fun wz : World => Kp (wz.heap[P]? = some (.cells #[.slice kc.pa 2 kc.pc, .slice (some ⟨kc.cg, kc.co, none⟩) 1 kc.cc, .int .i64 1, .slice kc.a0 1 kc.c0, .int .i64 1, .slice kc.a1 1 kc.c1, .pointer (some ⟨B, 0, none⟩), .pointer (some ⟨BB, 0, none⟩), sv9, rv9, .int .u32 ((bt + y.n) % 4294967296), .int .u32 ((bt + y.got) % 4294967296), .int .i64 y.sent, .int .i64 y.got, .int .i64 y.n, .int .i64 st9, .int .i64 ow9] 77 (0, 0))) ∧ Kp (Run w2 wz P B D BB kc wd dp bt y OS9 OR9 S9 R9 st9 ow9 sv9 rv9 x9 (k + 1)) ∧ Kp (wz.heap[wd0.heap.size]? = some (.cells #[.bool false, .int .i64 0, .slice none 0 0, .bool false, .int .i64 0, .bool false, .bool false, .bool false, .int .i64 0] 64 (0, 0))) ∧ Kp (w2.heap.size ≤ wd0.heap.size ∧ ¬ S9 wd0.heap.size ∧ ¬ R9 wd0.heap.size ∧ wd0.heap.size ≠ P ∧ wd0.heap.size ≠ B ∧ wd0.heap.size ≠ D ∧ wd0.heap.size ≠ BB) ∧ Kp (CntAt wz O1 g1 QB1 OW1 SB1 ((bt + y.n) % 4294967296) true (qu12 wd dp ((bt + y.n) % 4294967296))) ∧ Kp (w2.heap.size ≤ O1 ∧ ¬ S9 O1 ∧ ¬ R9 O1 ∧ O1 ≠ P ∧ O1 ≠ B ∧ O1 ≠ D ∧ O1 ≠ BB) ∧ Kp (wd0.heap.size ≠ O1) ∧ wd8.heap.size ≤ wz.heap.size) ⟨⟨blk_below HP1.out hb⟩, ⟨HRY.out.below hb⟩, ⟨blk_below db.out hb⟩, ⟨HTN.out⟩, ⟨hCN⟩, ⟨⟨by omega, fun e => (by have := hSlt _ e; omega), fun e => (by have := hRlt _ e; omega), by omega, by omega, by omega, by omega⟩⟩, ⟨by omega⟩, hb.size⟩ (xc_of (fz' := (0, 0)) HX0.out (blk_below HP1.out hb) 99 (fun _ _ => rfl)) (fun wd9 hRn hHn => ?_)
              clear hK K hHeld HP1 HRY db HTN hCN hb hO1
              obtain ⟨HP1, HRY, db, HTN, HCN, HON, HTO, hsz9⟩ := hRn
              have hHeld := hHn
              clear hHn
              try simp only [Act.put, ls0, ls1, ls2]
              refine wrd [17] ?_
              refine (arc rfl (fun K hK => ?_) arn)
              go_simp
              go_at_call 36
              have hcc := HRY.out.pl.core
              refine (cnt_step (BB := BB) HCN.out (qu12_fits wd dp _) (qu12_ok' hi _ hcc.len) (by omega) hcc.mem ⟨HON.out.2.2.2.2.1, HON.out.2.2.2.2.2.1⟩ 0).mono ?_
              rw [HCV.out]
              rintro e w9 ⟨rfl, hb⟩
              try have hTO := HTO.out
              try go_wp2_with fail
              refine out_gen hK _ _ (fun wz : World => Kp (wz.heap[P]? = some (.cells #[.slice kc.pa 2 kc.pc, .slice (some ⟨kc.cg, kc.co, none⟩) 1 kc.cc, .int .i64 1, .slice kc.a0 1 kc.c0, .int .i64 1, .slice kc.a1 1 kc.c1, .pointer (some ⟨B, 0, none⟩), .pointer (some ⟨BB, 0, none⟩), sv9, rv9, .int .u32 ((bt + y.n) % 4294967296), .int .u32 ((bt + y.got) % 4294967296), .int .i64 y.sent, .int .i64 y.got, .int .i64 y.n, .int .i64 st9, .int .i64 ow9] 77 (0, 0))) ∧ Kp (Run w2 wz P B D BB kc wd dp bt y OS9 OR9 S9 R9 st9 ow9 sv9 rv9 x9 (k + 1)) ∧ Kp (wz.heap[wd0.heap.size]? = some (.cells #[.bool false, .int .i64 0, .slice none 0 0, .bool false, .int .i64 0, .bool false, .bool false, .bool false, .int .i64 0] 64 (0, 0))) ∧ Kp (w2.heap.size ≤ wd0.heap.size ∧ ¬ S9 wd0.heap.size ∧ ¬ R9 wd0.heap.size ∧ wd0.heap.size ≠ P ∧ wd0.heap.size ≠ B ∧ wd0.heap.size ≠ D ∧ wd0.heap.size ≠ BB) ∧ Kp (w2.heap.size ≤ O1 ∧ ¬ S9 O1 ∧ ¬ R9 O1 ∧ O1 ≠ P ∧ O1 ≠ B ∧ O1 ≠ D ∧ O1 ≠ BB) ∧ Kp (wd0.heap.size ≠ O1) ∧ wd9.heap.size ≤ wz.heap.size) ⟨⟨hb.blk HP1.out (by simpa using Ne.symm HON.out.2.2.2.1)⟩, ⟨HRY.out.butN hb HON.out⟩, ⟨hb.blk db.out (by simpa using hTO)⟩, ⟨HTN.out⟩, ⟨HON.out⟩, ⟨HTO.out⟩, hb.size⟩ (xc_of (fz' := (0, 0)) HX0.out (hb.blk HP1.out (by simpa using Ne.symm HON.out.2.2.2.1)) 99 (fun _ _ => rfl)) (fun wd10 hRn hHn => ?_)
              clear hK K hHeld HP1 HRY db HTN HCN HON HTO hb hcc
              obtain ⟨HP1, HRY, db, HTN, HON, HTO, hsz10⟩ := hRn
              have hHeld := hHn
              clear hHn
              try simp only [Act.put, ls0, ls1, ls2]
              refine wrd [19] ?_
              refine (arc rfl (fun K hK => ?_) arn)
              have sd0 := cbk db.out 0 (.bool false) rfl
              have sf0 := frozen_blk db.out 0
              have sd1 := cbk db.out 1 (.int .i64 0) rfl
              have sf1 := frozen_blk db.out 1
              have sd2 := cbk db.out 2 (.slice none 0 0) rfl
              have sf2 := frozen_blk db.out 2
              have sd3 := cbk db.out 3 (.bool false) rfl
              have sf3 := frozen_blk db.out 3
              have sd4 := cbk db.out 4 (.int .i64 0) rfl
              have sf4 := frozen_blk db.out 4
              have sd5 := cbk db.out 5 (.bool false) rfl
              have sf5 := frozen_blk db.out 5
              have sd6 := cbk db.out 6 (.bool false) rfl
              have sf6 := frozen_blk db.out 6
              have sd7 := cbk db.out 7 (.bool false) rfl
              have sf7 := frozen_blk db.out 7
              have sd8 := cbk db.out 8 (.int .i64 0) rfl
              have sf8 := frozen_blk db.out 8
              have sl := blk_lt db.out
              go_simp
              try go_wp2_with fail
              refine out_gen hK _ _ (fun wz : World => Kp (wz.heap[P]? = some (.cells #[.slice kc.pa 2 kc.pc, .slice (some ⟨kc.cg, kc.co, none⟩) 1 kc.cc, .int .i64 1, .slice kc.a0 1 kc.c0, .int .i64 1, .slice kc.a1 1 kc.c1, .pointer (some ⟨B, 0, none⟩), .pointer (some ⟨BB, 0, none⟩), sv9, rv9, .int .u32 ((bt + y.n) % 4294967296), .int .u32 ((bt + y.got) % 4294967296), .int .i64 y.sent, .int .i64 y.got, .int .i64 y.n, .int .i64 st9, .int .i64 ow9] 77 (0, 0))) ∧ Kp (Run w2 wz P B D BB kc wd dp bt y OS9 OR9 S9 R9 st9 ow9 sv9 rv9 x9 (k + 1)) ∧ Kp (wz.heap[wd0.heap.size]? = some (.cells #[.bool true, .int .i64 0, .slice none 0 0, .bool false, .int .i64 nd, .bool true, .bool false, .bool false, .int .i64 0] 64 (0, 0))) ∧ Kp (w2.heap.size ≤ wd0.heap.size ∧ ¬ S9 wd0.heap.size ∧ ¬ R9 wd0.heap.size ∧ wd0.heap.size ≠ P ∧ wd0.heap.size ≠ B ∧ wd0.heap.size ≠ D ∧ wd0.heap.size ≠ BB) ∧ Kp (w2.heap.size ≤ O1 ∧ ¬ S9 O1 ∧ ¬ R9 O1 ∧ O1 ≠ P ∧ O1 ≠ B ∧ O1 ≠ D ∧ O1 ≠ BB) ∧ Kp (wd0.heap.size ≠ O1) ∧ wd10.heap.size ≤ wz.heap.size) ⟨⟨(blk_set_ne (p := ⟨wd0.heap.size, 8, none⟩) (blk_set_ne (p := ⟨wd0.heap.size, 7, none⟩) (blk_set_ne (p := ⟨wd0.heap.size, 6, none⟩) (blk_set_ne (p := ⟨wd0.heap.size, 5, none⟩) (blk_set_ne (p := ⟨wd0.heap.size, 4, none⟩) (blk_set_ne (p := ⟨wd0.heap.size, 3, none⟩) (blk_set_ne (p := ⟨wd0.heap.size, 2, none⟩) (blk_set_ne (p := ⟨wd0.heap.size, 1, none⟩) (blk_set_ne (p := ⟨wd0.heap.size, 0, none⟩) HP1.out (by show P ≠ wd0.heap.size; omega) _) (by show P ≠ wd0.heap.size; omega) _) (by show P ≠ wd0.heap.size; omega) _) (by show P ≠ wd0.heap.size; omega) _) (by show P ≠ wd0.heap.size; omega) _) (by show P ≠ wd0.heap.size; omega) _) (by show P ≠ wd0.heap.size; omega) _) (by show P ≠ wd0.heap.size; omega) _) (by show P ≠ wd0.heap.size; omega) _)⟩, ⟨(((((((((HRY.out.setN wd0.heap.size 0 _ HTN.out).setN wd0.heap.size 1 _ HTN.out).setN wd0.heap.size 2 _ HTN.out).setN wd0.heap.size 3 _ HTN.out).setN wd0.heap.size 4 _ HTN.out).setN wd0.heap.size 5 _ HTN.out).setN wd0.heap.size 6 _ HTN.out).setN wd0.heap.size 7 _ HTN.out).setN wd0.heap.size 8 _ HTN.out)⟩, ⟨(blk_set (blk_set (blk_set (blk_set (blk_set (blk_set (blk_set (blk_set (blk_set db.out 0 _) 1 _) 2 _) 3 _) 4 _) 5 _) 6 _) 7 _) 8 _).trans (by first | (simp only [ls0, ls1, ls2]; done) | rfl)⟩, ⟨(((((((((HTN.out)))))))))⟩, ⟨(((((((((HON.out)))))))))⟩, ⟨(((((((((HTO.out)))))))))⟩, (by simp [World.setCell])⟩ (xc_of (fz' := (0, 0)) HX0.out ((blk_set_ne (p := ⟨wd0.heap.size, 8, none⟩) (blk_set_ne (p := ⟨wd0.heap.size, 7, none⟩) (blk_set_ne (p := ⟨wd0.heap.size, 6, none⟩) (blk_set_ne (p := ⟨wd0.heap.size, 5, none⟩) (blk_set_ne (p := ⟨wd0.heap.size, 4, none⟩) (blk_set_ne (p := ⟨wd0.heap.size, 3, none⟩) (blk_set_ne (p := ⟨wd0.heap.size, 2, none⟩) (blk_set_ne (p := ⟨wd0.heap.size, 1, none⟩) (blk_set_ne (p := ⟨wd0.heap.size, 0, none⟩) HP1.out (by show P ≠ wd0.heap.size; omega) _) (by show P ≠ wd0.heap.size; omega) _) (by show P ≠ wd0.heap.size; omega) _) (by show P ≠ wd0.heap.size; omega) _) (by show P ≠ wd0.heap.size; omega) _) (by show P ≠ wd0.heap.size; omega) _) (by show P ≠ wd0.heap.size; omega) _) (by show P ≠ wd0.heap.size; omega) _) (by show P ≠ wd0.heap.size; omega) _)) 99 (fun _ _ => rfl)) (fun wd11 hRn hHn => ?_)
              clear hK K hHeld HP1 HRY db HTN HON HTO sd0 sf0 sd1 sf1 sd2 sf2 sd3 sf3 sd4 sf4 sd5 sf5 sd6 sf6 sd7 sf7 sd8 sf8 sl
              obtain ⟨HP1, HRY, db, HTN, HON, HTO, hsz11⟩ := hRn
              have hHeld := hHn
              clear hHn
              try simp only [Act.put, ls0, ls1, ls2]
              refine wpAnyH_done (by kernel_rfl) ?_ _
              clear HX0
              refine JQ.mk ?_
              rw [HRFS.out]
              exact ⟨_, rfl, HP1, HRY, db⟩
          intro a w7 hRf
          generalize (fun i => a.tmps.getD i undef) = f at hRf
          rw [HRFS.out] at hRf
          obtain ⟨T1, rfl, HP1, HRY, db⟩ := hRf
          clear HRFS
          clear hSlt hRlt lP lB lD lBB l2w c0 c1 c2 c3 c4 c5 c6 c7 c8 c9 c10 c11 c12 c13 c14 c15 c16
          have t0 := cbk db.out 0 (.bool true) rfl
          have t1 := cbk db.out 1 (.int .i64 0) rfl
          have t4 := cbk db.out 4 (.int .i64 nd) rfl
          have t5 := cbk db.out 5 (.bool true) rfl
          have lT := blk_lt db.out
          clear HCV ks ke
          have lP := blk_lt HP1.out
          have c0 := cbk HP1.out 0 (.slice kc.pa 2 kc.pc) rfl
          have c1 := cbk HP1.out 1 (.slice (some ⟨kc.cg, kc.co, none⟩) 1 kc.cc) rfl
          have c2 := cbk HP1.out 2 (.int .i64 1) rfl
          have c3 := cbk HP1.out 3 (.slice kc.a0 1 kc.c0) rfl
          have c4 := cbk HP1.out 4 (.int .i64 1) rfl
          have c5 := cbk HP1.out 5 (.slice kc.a1 1 kc.c1) rfl
          have c6 := cbk HP1.out 6 (.pointer (some ⟨B, 0, none⟩)) rfl
          have c7 := cbk HP1.out 7 (.pointer (some ⟨BB, 0, none⟩)) rfl
          have c8 := cbk HP1.out 8 (sv9) rfl
          have c9 := cbk HP1.out 9 (rv9) rfl
          have c10 := cbk HP1.out 10 (.int .u32 ((bt + y.n) % 4294967296)) rfl
          have c11 := cbk HP1.out 11 (.int .u32 ((bt + y.got) % 4294967296)) rfl
          have c12 := cbk HP1.out 12 (.int .i64 y.sent) rfl
          have c13 := cbk HP1.out 13 (.int .i64 y.got) rfl
          have c14 := cbk HP1.out 14 (.int .i64 y.n) rfl
          have c15 := cbk HP1.out 15 (.int .i64 st9) rfl
          have c16 := cbk HP1.out 16 (.int .i64 ow9) rfl
        all_goals
          cases hro : y.rOn <;> (obtain ⟨kr, kf⟩ := KR.out; rw [hro] at kr)
          focus
            have HCV := HCD
            have hcc := HRY.out.pl.core
            have lP := blk_lt HP1.out
            have lB := blk_lt hcc.mem.head
            have lD := blk_lt hcc.mem.words
            have lBB := hcc.bell.lt
            have l2w := hcc.low.size
            have hSlt : ∀ k, S9 k → k < w7.heap.size := fun k hk => (hcc.sS k hk).2.1
            have hRlt : ∀ k, R9 k → k < w7.heap.size := fun k hk => (hcc.sR k hk).2.1
            clear hcc
            go_wp2_with fail
            obtain ⟨RFD, hRFD⟩ : ∃ RFD : (Nat → Value) → Act → World → Prop, RFD = fun f a w7 => ∃ (T2 : Nat), a = ⟨#[.agg #[.int .u8 h0, .int .u8 h1], .int .u32 bt, .slice (some ⟨gb, ob, none⟩) L cp, .pointer (some ⟨w.heap.size, 0, none⟩), undef, undef, f 6, .pointer (some ⟨P, 0, none⟩), undef, f 9, .int .i64 nd, f 11, .pointer (some ⟨T2, 0, none⟩), .bool true, .bool false, .slice (some ⟨gb, ob, none⟩) L cp, .int .i64 L, .bool (decide ((300 : Int) < (L : Int))), .pointer (some ⟨w.heap.size, 0, none⟩), .int .u8 h0, .int .i64 h0, .int .i64 (wd - 1), .int .i64 wd, .pointer (some ⟨w.heap.size, 1, none⟩), .int .u8 h1, .int .u8 e, .int .i64 dp, .int .u32 bt, .agg #[.slice kc.pa 2 kc.pc, .slice (some ⟨kc.cg, kc.co, none⟩) 1 kc.cc, .int .i64 1, .slice kc.a0 1 kc.c0, .int .i64 1, .slice kc.a1 1 kc.c1], .pointer (some ⟨P, 0, none⟩), .pointer (some ⟨P, 0, none⟩), .bool false, .slice (some ⟨gb, ob, none⟩) L cp, .int .i64 L, .int .i64 k, f 35, f 36, f 37, f 38, f 39, f 40, f 41, f 42, f 43, f 44, f 45, f 46, f 47, f 48, f 49, f 50, f 51, f 52, f 53, f 54, f 55, f 56, f 57, f 58, f 59, f 60, f 61, f 62, f 63, f 64, f 65, f 66, f 67, f 68, f 69, f 70, f 71, f 72, f 73, f 74, f 75, f 76, f 77, f 78, f 79, f 80, f 81, f 82, f 83, f 84, f 85, f 86, f 87, f 88, f 89, f 90, f 91, f 92, f 93, f 94, f 95, f 96, f 97, f 98, f 99, f 100, f 101, f 102, f 103, f 104, f 105, f 106, f 107, f 108, f 109, f 110, f 111, f 112, f 113, f 114, f 115, f 116, f 117, f 118, f 119, f 120, f 121, f 122, f 123, f 124, f 125, f 126, f 127, f 128, f 129, f 130, f 131, f 132, f 133, f 134, f 135, f 136, f 137, f 138, f 139, f 140, f 141, f 142, f 143, f 144, f 145, f 146, f 147, f 148, f 149, f 150], []⟩ ∧ Kp (w7.heap[P]? = some (.cells #[.slice kc.pa 2 kc.pc, .slice (some ⟨kc.cg, kc.co, none⟩) 1 kc.cc, .int .i64 1, .slice kc.a0 1 kc.c0, .int .i64 1, .slice kc.a1 1 kc.c1, .pointer (some ⟨B, 0, none⟩), .pointer (some ⟨BB, 0, none⟩), sv9, rv9, .int .u32 ((bt + y.n) % 4294967296), .int .u32 ((bt + y.got) % 4294967296), .int .i64 y.sent, .int .i64 y.got, .int .i64 y.n, .int .i64 st9, .int .i64 ow9] 77 (0, 0))) ∧ Kp (Run w2 w7 P B D BB kc wd dp bt y OS9 OR9 S9 R9 st9 ow9 sv9 rv9 x9 (k + 1)) ∧ Kp (w7.heap[T2]? = some (.cells #[.bool true, .int .i64 0, .slice none 0 0, .bool false, .int .i64 nd, .bool true, .bool false, .bool false, .int .i64 0] 64 (0, 0))) := ⟨_, rfl⟩
            have HRFD := Kp.mk hRFD
            clear hRFD
            refine JQ.region (fun a w7 => RFD (fun i => a.tmps.getD i undef) a w7) ?_ ?_
            · have HX0 : Kp (w7.heap[P]? = some (.cells #[.slice kc.pa 2 kc.pc, .slice (some ⟨kc.cg, kc.co, none⟩) 1 kc.cc, .int .i64 1, .slice kc.a0 1 kc.c0, .int .i64 1, .slice kc.a1 1 kc.c1, .pointer (some ⟨B, 0, none⟩), .pointer (some ⟨BB, 0, none⟩), sv9, rv9, .int .u32 ((bt + y.n) % 4294967296), .int .u32 ((bt + y.got) % 4294967296), .int .i64 y.sent, .int .i64 y.got, .int .i64 y.n, .int .i64 st9, .int .i64 ow9] 77 (0, 0))) := ⟨HP1.out⟩
              refine held_start_gen (S := (fun w' : World => ∀ o, o ≠ 99 → w'.cell? ⟨P, o, none⟩ = w7.cell? ⟨P, o, none⟩)) (by kernel_rfl) (fun wz : World => Kp (wz.heap[P]? = some (.cells #[.slice kc.pa 2 kc.pc, .slice (some ⟨kc.cg, kc.co, none⟩) 1 kc.cc, .int .i64 1, .slice kc.a0 1 kc.c0, .int .i64 1, .slice kc.a1 1 kc.c1, .pointer (some ⟨B, 0, none⟩), .pointer (some ⟨BB, 0, none⟩), sv9, rv9, .int .u32 ((bt + y.n) % 4294967296), .int .u32 ((bt + y.got) % 4294967296), .int .i64 y.sent, .int .i64 y.got, .int .i64 y.n, .int .i64 st9, .int .i64 ow9] 77 (0, 0))) ∧ Kp (Run w2 wz P B D BB kc wd dp bt y OS9 OR9 S9 R9 st9 ow9 sv9 rv9 x9 (k + 1)) ∧ w7.heap.size ≤ wz.heap.size) ⟨⟨blk_dr HP1.out⟩, ⟨HRY.out.below (below_dr (Below.refl _ _))⟩, Nat.le_refl _⟩ (xc_of (fz' := (0, 0)) HX0.out (blk_dr HP1.out) 99 (fun _ _ => rfl)) (fun wd0 hRn hHeld => ?_)
              clear HP1 HRY
              obtain ⟨HP1, HRY, hsz⟩ := hRn
              refine wtk 0 ?_ rfl (.inl ⟨by rfl, ?_⟩) ?_
              rotate_left 1
              · (intro w hSw; go_simp; try with_reducible rfl)
              try simp only [Act.put, ls0, ls1, ls2]
              refine wtk 1 ?_ rfl (.inl ⟨by rfl, ?_⟩) ?_
              rotate_left 1
              · (intro w hSw; go_simp; try with_reducible rfl)
              try simp only [Act.put, ls0, ls1, ls2]
              refine wtk 2 ?_ rfl (.inl ⟨by rfl, ?_⟩) ?_
              rotate_left 1
              · (intro w hSw; go_simp; try with_reducible rfl)
              try simp only [Act.put, ls0, ls1, ls2]
              refine wtk 3 ?_ rfl (.inl ⟨by rfl, ?_⟩) ?_
              rotate_left 1
              · (intro w hSw; go_simp; try with_reducible rfl)
              try simp only [Act.put, ls0, ls1, ls2]
              refine wtk 4 ?_ rfl (.inl ⟨by rfl, ?_⟩) ?_
              rotate_left 1
              · (intro w hSw; go_simp; try with_reducible rfl)
              try simp only [Act.put, ls0, ls1, ls2]
              refine wtk 5 ?_ rfl (.inl ⟨by rfl, ?_⟩) ?_
              rotate_left 1
              · (intro w hSw; go_simp; try with_reducible rfl)
              try simp only [Act.put, ls0, ls1, ls2]
              refine wtk 6 ?_ rfl (.inl ⟨by rfl, ?_⟩) ?_
              rotate_left 1
              · (intro w hSw; go_simp; try with_reducible rfl)
              try simp only [Act.put, ls0, ls1, ls2]
              refine wtk 7 ?_ rfl (.inl ⟨by rfl, ?_⟩) ?_
              rotate_left 1
              · (intro w hSw; go_simp; try with_reducible rfl)
              try simp only [Act.put, ls0, ls1, ls2]
              refine wtk 9 ?_ rfl (.inl ⟨by rfl, ?_⟩) ?_
              rotate_left 1
              · (intro w hSw; go_simp; try with_reducible rfl)
              try simp only [Act.put, ls0, ls1, ls2]
              refine wtk 10 ?_ rfl (.inl ⟨by rfl, ?_⟩) ?_
              rotate_left 1
              · (intro w hSw; go_simp; try with_reducible rfl)
              try simp only [Act.put, ls0, ls1, ls2]
              refine wtk 11 ?_ rfl (.inl ⟨by rfl, ?_⟩) ?_
              rotate_left 1
              · (intro w hSw; go_simp; try with_reducible rfl)
              try simp only [Act.put, ls0, ls1, ls2]
              refine wtk 12 ?_ rfl (.inl ⟨by rfl, ?_⟩) ?_
              rotate_left 1
              · (intro w hSw; go_simp; try with_reducible rfl)
              try simp only [Act.put, ls0, ls1, ls2]
              refine wtk 13 ?_ rfl (.inl ⟨by rfl, ?_⟩) ?_
              rotate_left 1
              · (intro w hSw; go_simp; try with_reducible rfl)
              try simp only [Act.put, ls0, ls1, ls2]
              refine wtk 14 ?_ rfl (.inl ⟨by rfl, ?_⟩) ?_
              rotate_left 1
              · (intro w hSw; go_simp; try with_reducible rfl)
              try simp only [Act.put, ls0, ls1, ls2]
              refine wtk 15 ?_ rfl (.inl ⟨by rfl, ?_⟩) ?_
              rotate_left 1
              · (intro w hSw; go_simp; try with_reducible rfl)
              try simp only [Act.put, ls0, ls1, ls2]
              refine wtk 16 ?_ rfl (.inl ⟨by rfl, ?_⟩) ?_
              rotate_left 1
              · (intro w hSw; go_simp; try with_reducible rfl)
              try simp only [Act.put, ls0, ls1, ls2]
              refine wrd [8, 18] ?_
              refine (arc rfl (fun K hK => ?_) (arc rfl (fun K hK => ?_) arn))
              · go_simp
                go_at_call 35
                refine (count_at ((bt + y.got) % 4294967296) (by omega) false _ (HK.out.below HRY.out.pl.core.low)).mono ?_
                rintro e w9 ⟨O1, g1, QB1, OW1, SB1, rfl, hCN, hb, hO1⟩
                try go_wp2_with fail
                refine out_gen hK _ _ (fun wz : World => Kp (wz.heap[P]? = some (.cells #[.slice kc.pa 2 kc.pc, .slice (some ⟨kc.cg, kc.co, none⟩) 1 kc.cc, .int .i64 1, .slice kc.a0 1 kc.c0, .int .i64 1, .slice kc.a1 1 kc.c1, .pointer (some ⟨B, 0, none⟩), .pointer (some ⟨BB, 0, none⟩), sv9, rv9, .int .u32 ((bt + y.n) % 4294967296), .int .u32 ((bt + y.got) % 4294967296), .int .i64 y.sent, .int .i64 y.got, .int .i64 y.n, .int .i64 st9, .int .i64 ow9] 77 (0, 0))) ∧ Kp (Run w2 wz P B D BB kc wd dp bt y OS9 OR9 S9 R9 st9 ow9 sv9 rv9 x9 (k + 1)) ∧ Kp (CntAt wz O1 g1 QB1 OW1 SB1 ((bt + y.got) % 4294967296) false (qu12 wd dp ((bt + y.got) % 4294967296))) ∧ Kp (w2.heap.size ≤ O1 ∧ ¬ S9 O1 ∧ ¬ R9 O1 ∧ O1 ≠ P ∧ O1 ≠ B ∧ O1 ≠ D ∧ O1 ≠ BB) ∧ wd0.heap.size ≤ wz.heap.size) ⟨⟨blk_below HP1.out hb⟩, ⟨HRY.out.below hb⟩, ⟨hCN⟩, ⟨⟨by omega, fun e => (by have := hSlt _ e; omega), fun e => (by have := hRlt _ e; omega), by omega, by omega, by omega, by omega⟩⟩, hb.size⟩ (xc_of (fz' := (0, 0)) HX0.out (blk_below HP1.out hb) 99 (fun _ _ => rfl)) (fun wd1 hRn hHn => ?_)
                clear hK K hHeld HP1 HRY hCN hb hO1
                obtain ⟨HP1, HRY, HCN, HON, hsz1⟩ := hRn
                have hHeld := hHn
                clear hHn
                try simp only [Act.put, ls0, ls1, ls2]
                refine wrd [17, 18] ?_
                refine (arc rfl (fun K hK => ?_) (arc rfl (fun K hK => ?_) arn))
                · go_simp
                  go_at_call 36
                  have hcc := HRY.out.pl.core
                  refine (cnt_step (BB := BB) HCN.out (qu12_fits wd dp _) (qu12_ok' hi _ hcc.len) (by omega) hcc.mem ⟨HON.out.2.2.2.2.1, HON.out.2.2.2.2.2.1⟩ 0).mono ?_
                  rw [HCV.out]
                  rintro e w9 ⟨rfl, hb⟩
                  try have hTO := HTO.out
                  try go_wp2_with fail
                  refine out_gen hK _ _ (fun wz : World => Kp (wz.heap[P]? = some (.cells #[.slice kc.pa 2 kc.pc, .slice (some ⟨kc.cg, kc.co, none⟩) 1 kc.cc, .int .i64 1, .slice kc.a0 1 kc.c0, .int .i64 1, .slice kc.a1 1 kc.c1, .pointer (some ⟨B, 0, none⟩), .pointer (some ⟨BB, 0, none⟩), sv9, rv9, .int .u32 ((bt + y.n) % 4294967296), .int .u32 ((bt + y.got) % 4294967296), .int .i64 y.sent, .int .i64 y.got, .int .i64 y.n, .int .i64 st9, .int .i64 ow9] 77 (0, 0))) ∧ Kp (Run w2 wz P B D BB kc wd dp bt y OS9 OR9 S9 R9 st9 ow9 sv9 rv9 x9 (k + 1)) ∧ Kp (w2.heap.size ≤ O1 ∧ ¬ S9 O1 ∧ ¬ R9 O1 ∧ O1 ≠ P ∧ O1 ≠ B ∧ O1 ≠ D ∧ O1 ≠ BB) ∧ wd1.heap.size ≤ wz.heap.size) ⟨⟨hb.blk HP1.out (by simpa using Ne.symm HON.out.2.2.2.1)⟩, ⟨HRY.out.butN hb HON.out⟩, ⟨HON.out⟩, hb.size⟩ (xc_of (fz' := (0, 0)) HX0.out (hb.blk HP1.out (by simpa using Ne.symm HON.out.2.2.2.1)) 99 (fun _ _ => rfl)) (fun wd2 hRn hHn => ?_)
                  clear hK K hHeld HP1 HRY HCN HON hb hcc
                  obtain ⟨HP1, HRY, HON, hsz2⟩ := hRn
                  have hHeld := hHn
                  clear hHn
                  try simp only [Act.put, ls0, ls1, ls2]
                  refine wrd [18] ?_
                  refine (arc rfl (fun K hK => ?_) arn)
                  have ge_db : w7.heap.size ≤ wd2.heap.size := (by omega)
                  go_simp
                  try go_wp2_with fail
                  refine out_gen hK _ _ (fun wz : World => Kp (wz.heap[P]? = some (.cells #[.slice kc.pa 2 kc.pc, .slice (some ⟨kc.cg, kc.co, none⟩) 1 kc.cc, .int .i64 1, .slice kc.a0 1 kc.c0, .int .i64 1, .slice kc.a1 1 kc.c1, .pointer (some ⟨B, 0, none⟩), .pointer (some ⟨BB, 0, none⟩), sv9, rv9, .int .u32 ((bt + y.n) % 4294967296), .int .u32 ((bt + y.got) % 4294967296), .int .i64 y.sent, .int .i64 y.got, .int .i64 y.n, .int .i64 st9, .int .i64 ow9] 77 (0, 0))) ∧ Kp (Run w2 wz P B D BB kc wd dp bt y OS9 OR9 S9 R9 st9 ow9 sv9 rv9 x9 (k + 1)) ∧ Kp (w2.heap.size ≤ O1 ∧ ¬ S9 O1 ∧ ¬ R9 O1 ∧ O1 ≠ P ∧ O1 ≠ B ∧ O1 ≠ D ∧ O1 ≠ BB) ∧ Kp (wz.heap[wd2.heap.size]? = some (.cells #[.bool false, .int .i64 0, .slice none 0 0, .bool false, .int .i64 0, .bool false, .bool false, .bool false, .int .i64 0] 64 (0, 0))) ∧ Kp (w2.heap.size ≤ wd2.heap.size ∧ ¬ S9 wd2.heap.size ∧ ¬ R9 wd2.heap.size ∧ wd2.heap.size ≠ P ∧ wd2.heap.size ≠ B ∧ wd2.heap.size ≠ D ∧ wd2.heap.size ≠ BB) ∧ wd2.heap.size < wz.heap.size) ⟨⟨blk_al HP1.out _⟩, ⟨HRY.out.below (below_al (Below.refl _ _) _)⟩, ⟨HON.out⟩, ⟨blk_new wd2 _⟩, ⟨⟨by omega, fun e => (by have := hSlt _ e; omega), fun e => (by have := hRlt _ e; omega), by omega, by omega, by omega, by omega⟩⟩, (by simp)⟩ (xc_of (fz' := (0, 0)) HX0.out (blk_al HP1.out _) 99 (fun _ _ => rfl)) (fun wd3 hRn hHn => ?_)
                  clear hK K hHeld HP1 HRY HON
                  obtain ⟨HP1, HRY, HON, db, HTN, hsz3⟩ := hRn
                  have hHeld := hHn
                  clear hHn
                  try simp only [Act.put, ls0, ls1, ls2]
                  have lt_db := blk_lt db.out
                  refine wrd [19] ?_
                  refine (arc rfl (fun K hK => ?_) arn)
                  have sd0 := cbk db.out 0 (.bool false) rfl
                  have sf0 := frozen_blk db.out 0
                  have sd1 := cbk db.out 1 (.int .i64 0) rfl
                  have sf1 := frozen_blk db.out 1
                  have sd2 := cbk db.out 2 (.slice none 0 0) rfl
                  have sf2 := frozen_blk db.out 2
                  have sd3 := cbk db.out 3 (.bool false) rfl
                  have sf3 := frozen_blk db.out 3
                  have sd4 := cbk db.out 4 (.int .i64 0) rfl
                  have sf4 := frozen_blk db.out 4
                  have sd5 := cbk db.out 5 (.bool false) rfl
                  have sf5 := frozen_blk db.out 5
                  have sd6 := cbk db.out 6 (.bool false) rfl
                  have sf6 := frozen_blk db.out 6
                  have sd7 := cbk db.out 7 (.bool false) rfl
                  have sf7 := frozen_blk db.out 7
                  have sd8 := cbk db.out 8 (.int .i64 0) rfl
                  have sf8 := frozen_blk db.out 8
                  have sl := blk_lt db.out
                  go_simp
                  try go_wp2_with fail
                  refine out_gen hK _ _ (fun wz : World => Kp (wz.heap[P]? = some (.cells #[.slice kc.pa 2 kc.pc, .slice (some ⟨kc.cg, kc.co, none⟩) 1 kc.cc, .int .i64 1, .slice kc.a0 1 kc.c0, .int .i64 1, .slice kc.a1 1 kc.c1, .pointer (some ⟨B, 0, none⟩), .pointer (some ⟨BB, 0, none⟩), sv9, rv9, .int .u32 ((bt + y.n) % 4294967296), .int .u32 ((bt + y.got) % 4294967296), .int .i64 y.sent, .int .i64 y.got, .int .i64 y.n, .int .i64 st9, .int .i64 ow9] 77 (0, 0))) ∧ Kp (Run w2 wz P B D BB kc wd dp bt y OS9 OR9 S9 R9 st9 ow9 sv9 rv9 x9 (k + 1)) ∧ Kp (w2.heap.size ≤ O1 ∧ ¬ S9 O1 ∧ ¬ R9 O1 ∧ O1 ≠ P ∧ O1 ≠ B ∧ O1 ≠ D ∧ O1 ≠ BB) ∧ Kp (wz.heap[wd2.heap.size]? = some (.cells #[.bool true, .int .i64 0, .slice none 0 0, .bool false, .int .i64 nd, .bool true, .bool false, .bool false, .int .i64 0] 64 (0, 0))) ∧ Kp (w2.heap.size ≤ wd2.heap.size ∧ ¬ S9 wd2.heap.size ∧ ¬ R9 wd2.heap.size ∧ wd2.heap.size ≠ P ∧ wd2.heap.size ≠ B ∧ wd2.heap.size ≠ D ∧ wd2.heap.size ≠ BB) ∧ wd3.heap.size ≤ wz.heap.size) ⟨⟨(blk_set_ne (p := ⟨wd2.heap.size, 8, none⟩) (blk_set_ne (p := ⟨wd2.heap.size, 7, none⟩) (blk_set_ne (p := ⟨wd2.heap.size, 6, none⟩) (blk_set_ne (p := ⟨wd2.heap.size, 5, none⟩) (blk_set_ne (p := ⟨wd2.heap.size, 4, none⟩) (blk_set_ne (p := ⟨wd2.heap.size, 3, none⟩) (blk_set_ne (p := ⟨wd2.heap.size, 2, none⟩) (blk_set_ne (p := ⟨wd2.heap.size, 1, none⟩) (blk_set_ne (p := ⟨wd2.heap.size, 0, none⟩) HP1.out (by show P ≠ wd2.heap.size; omega) _) (by show P ≠ wd2.heap.size; omega) _) (by show P ≠ wd2.heap.size; omega) _) (by show P ≠ wd2.heap.size; omega) _) (by show P ≠ wd2.heap.size; omega) _) (by show P ≠ wd2.heap.size; omega) _) (by show P ≠ wd2.heap.size; omega) _) (by show P ≠ wd2.heap.size; omega) _) (by show P ≠ wd2.heap.size; omega) _)⟩, ⟨(((((((((HRY.out.setN wd2.heap.size 0 _ HTN.out).setN wd2.heap.size 1 _ HTN.out).setN wd2.heap.size 2 _ HTN.out).setN wd2.heap.size 3 _ HTN.out).setN wd2.heap.size 4 _ HTN.out).setN wd2.heap.size 5 _ HTN.out).setN wd2.heap.size 6 _ HTN.out).setN wd2.heap.size 7 _ HTN.out).setN wd2.heap.size 8 _ HTN.out)⟩, ⟨(((((((((HON.out)))))))))⟩, ⟨(blk_set (blk_set (blk_set (blk_set (blk_set (blk_set (blk_set (blk_set (blk_set db.out 0 _) 1 _) 2 _) 3 _) 4 _) 5 _) 6 _) 7 _) 8 _).trans (by first | (simp only [ls0, ls1, ls2]; done) | rfl)⟩, ⟨(((((((((HTN.out)))))))))⟩, (by simp [World.setCell])⟩ (xc_of (fz' := (0, 0)) HX0.out ((blk_set_ne (p := ⟨wd2.heap.size, 8, none⟩) (blk_set_ne (p := ⟨wd2.heap.size, 7, none⟩) (blk_set_ne (p := ⟨wd2.heap.size, 6, none⟩) (blk_set_ne (p := ⟨wd2.heap.size, 5, none⟩) (blk_set_ne (p := ⟨wd2.heap.size, 4, none⟩) (blk_set_ne (p := ⟨wd2.heap.size, 3, none⟩) (blk_set_ne (p := ⟨wd2.heap.size, 2, none⟩) (blk_set_ne (p := ⟨wd2.heap.size, 1, none⟩) (blk_set_ne (p := ⟨wd2.heap.size, 0, none⟩) HP1.out (by show P ≠ wd2.heap.size; omega) _) (by show P ≠ wd2.heap.size; omega) _) (by show P ≠ wd2.heap.size; omega) _) (by show P ≠ wd2.heap.size; omega) _) (by show P ≠ wd2.heap.size; omega) _) (by show P ≠ wd2.heap.size; omega) _) (by show P ≠ wd2.heap.size; omega) _) (by show P ≠ wd2.heap.size; omega) _) (by show P ≠ wd2.heap.size; omega) _)) 99 (fun _ _ => rfl)) (fun wd4 hRn hHn => ?_)
                  clear hK K hHeld HP1 HRY HON db HTN sd0 sf0 sd1 sf1 sd2 sf2 sd3 sf3 sd4 sf4 sd5 sf5 sd6 sf6 sd7 sf7 sd8 sf8 sl
                  obtain ⟨HP1, HRY, HON, db, HTN, hsz4⟩ := hRn
                  have hHeld := hHn
                  clear hHn
                  try simp only [Act.put, ls0, ls1, ls2]
                  refine wpAnyH_done (by kernel_rfl) ?_ _
                  clear HX0
                  refine JQ.mk ?_
                  rw [HRFD.out]
                  exact ⟨_, rfl, HP1, HRY, db⟩
                · have ge_db : w7.heap.size ≤ wd1.heap.size := (by omega)
                  go_simp
                  try go_wp2_with fail
                  refine out_gen hK _ _ (fun wz : World => Kp (wz.heap[P]? = some (.cells #[.slice kc.pa 2 kc.pc, .slice (some ⟨kc.cg, kc.co, none⟩) 1 kc.cc, .int .i64 1, .slice kc.a0 1 kc.c0, .int .i64 1, .slice kc.a1 1 kc.c1, .pointer (some ⟨B, 0, none⟩), .pointer (some ⟨BB, 0, none⟩), sv9, rv9, .int .u32 ((bt + y.n) % 4294967296), .int .u32 ((bt + y.got) % 4294967296), .int .i64 y.sent, .int .i64 y.got, .int .i64 y.n, .int .i64 st9, .int .i64 ow9] 77 (0, 0))) ∧ Kp (Run w2 wz P B D BB kc wd dp bt y OS9 OR9 S9 R9 st9 ow9 sv9 rv9 x9 (k + 1)) ∧ Kp (CntAt wz O1 g1 QB1 OW1 SB1 ((bt + y.got) % 4294967296) false (qu12 wd dp ((bt + y.got) % 4294967296))) ∧ Kp (w2.heap.size ≤ O1 ∧ ¬ S9 O1 ∧ ¬ R9 O1 ∧ O1 ≠ P ∧ O1 ≠ B ∧ O1 ≠ D ∧ O1 ≠ BB) ∧ Kp (wz.heap[wd1.heap.size]? = some (.cells #[.bool false, .int .i64 0, .slice none 0 0, .bool false, .int .i64 0, .bool false, .bool false, .bool false, .int .i64 0] 64 (0, 0))) ∧ Kp (w2.heap.size ≤ wd1.heap.size ∧ ¬ S9 wd1.heap.size ∧ ¬ R9 wd1.heap.size ∧ wd1.heap.size ≠ P ∧ wd1.heap.size ≠ B ∧ wd1.heap.size ≠ D ∧ wd1.heap.size ≠ BB) ∧ Kp (wd1.heap.size ≠ O1) ∧ wd1.heap.size < wz.heap.size) ⟨⟨blk_al HP1.out _⟩, ⟨HRY.out.below (below_al (Below.refl _ _) _)⟩, ⟨HCN.out.below (below_al (Below.refl _ _) _)⟩, ⟨HON.out⟩, ⟨blk_new wd1 _⟩, ⟨⟨by omega, fun e => (by have := hSlt _ e; omega), fun e => (by have := hRlt _ e; omega), by omega, by omega, by omega, by omega⟩⟩, ⟨by have := blk_lt HCN.out.op; omega⟩, (by simp)⟩ (xc_of (fz' := (0, 0)) HX0.out (blk_al HP1.out _) 99 (fun _ _ => rfl)) (fun wd5 hRn hHn => ?_)
                  clear hK K hHeld HP1 HRY HCN HON
                  obtain ⟨HP1, HRY, HCN, HON, db, HTN, HTO, hsz5⟩ := hRn
                  have hHeld := hHn
                  clear hHn
                  try simp only [Act.put, ls0, ls1, ls2]
                  have lt_db := blk_lt db.out
                  refine wrd [17] ?_
                  refine (arc rfl (fun K hK => ?_) arn)
                  go_simp
                  go_at_call 36
                  have hcc := HRY.out.pl.core
                  refine (cnt_step (BB := BB) HCN.out (qu12_fits wd dp _) (qu12_ok' hi _ hcc.len) (by omega) hcc.mem ⟨HON.out.2.2.2.2.1, HON.out.2.2.2.2.2.1⟩ 0).mono ?_
                  rw [HCV.out]
                  rintro e w9 ⟨rfl, hb⟩
                  try have hTO := HTO.out
                  try go_wp2_with fail
                  refine out_gen hK _ _ (fun wz : World => Kp (wz.heap[P]? = some (.cells #[.slice kc.pa 2 kc.pc, .slice (some ⟨kc.cg, kc.co, none⟩) 1 kc.cc, .int .i64 1, .slice kc.a0 1 kc.c0, .int .i64 1, .slice kc.a1 1 kc.c1, .pointer (some ⟨B, 0, none⟩), .pointer (some ⟨BB, 0, none⟩), sv9, rv9, .int .u32 ((bt + y.n) % 4294967296), .int .u32 ((bt + y.got) % 4294967296), .int .i64 y.sent, .int .i64 y.got, .int .i64 y.n, .int .i64 st9, .int .i64 ow9] 77 (0, 0))) ∧ Kp (Run w2 wz P B D BB kc wd dp bt y OS9 OR9 S9 R9 st9 ow9 sv9 rv9 x9 (k + 1)) ∧ Kp (w2.heap.size ≤ O1 ∧ ¬ S9 O1 ∧ ¬ R9 O1 ∧ O1 ≠ P ∧ O1 ≠ B ∧ O1 ≠ D ∧ O1 ≠ BB) ∧ Kp (wz.heap[wd1.heap.size]? = some (.cells #[.bool false, .int .i64 0, .slice none 0 0, .bool false, .int .i64 0, .bool false, .bool false, .bool false, .int .i64 0] 64 (0, 0))) ∧ Kp (w2.heap.size ≤ wd1.heap.size ∧ ¬ S9 wd1.heap.size ∧ ¬ R9 wd1.heap.size ∧ wd1.heap.size ≠ P ∧ wd1.heap.size ≠ B ∧ wd1.heap.size ≠ D ∧ wd1.heap.size ≠ BB) ∧ Kp (wd1.heap.size ≠ O1) ∧ wd5.heap.size ≤ wz.heap.size) ⟨⟨hb.blk HP1.out (by simpa using Ne.symm HON.out.2.2.2.1)⟩, ⟨HRY.out.butN hb HON.out⟩, ⟨HON.out⟩, ⟨hb.blk db.out (by simpa using hTO)⟩, ⟨HTN.out⟩, ⟨HTO.out⟩, hb.size⟩ (xc_of (fz' := (0, 0)) HX0.out (hb.blk HP1.out (by simpa using Ne.symm HON.out.2.2.2.1)) 99 (fun _ _ => rfl)) (fun wd6 hRn hHn => ?_)
                  clear hK K hHeld HP1 HRY HCN HON db HTN HTO hb hcc
                  obtain ⟨HP1, HRY, HON, db, HTN, HTO, hsz6⟩ := hRn
                  have hHeld := hHn
                  clear hHn
                  try simp only [Act.put, ls0, ls1, ls2]
                  refine wrd [19] ?_
                  refine (arc rfl (fun K hK => ?_) arn)
                  have sd0 := cbk db.out 0 (.bool false) rfl
                  have sf0 := frozen_blk db.out 0
                  have sd1 := cbk db.out 1 (.int .i64 0) rfl
                  have sf1 := frozen_blk db.out 1
                  have sd2 := cbk db.out 2 (.slice none 0 0) rfl
                  have sf2 := frozen_blk db.out 2
                  have sd3 := cbk db.out 3 (.bool false) rfl
                  have sf3 := frozen_blk db.out 3
                  have sd4 := cbk db.out 4 (.int .i64 0) rfl
                  have sf4 := frozen_blk db.out 4
                  have sd5 := cbk db.out 5 (.bool false) rfl
                  have sf5 := frozen_blk db.out 5
                  have sd6 := cbk db.out 6 (.bool false) rfl
                  have sf6 := frozen_blk db.out 6
                  have sd7 := cbk db.out 7 (.bool false) rfl
                  have sf7 := frozen_blk db.out 7
                  have sd8 := cbk db.out 8 (.int .i64 0) rfl
                  have sf8 := frozen_blk db.out 8
                  have sl := blk_lt db.out
                  go_simp
                  try go_wp2_with fail
                  refine out_gen hK _ _ (fun wz : World => Kp (wz.heap[P]? = some (.cells #[.slice kc.pa 2 kc.pc, .slice (some ⟨kc.cg, kc.co, none⟩) 1 kc.cc, .int .i64 1, .slice kc.a0 1 kc.c0, .int .i64 1, .slice kc.a1 1 kc.c1, .pointer (some ⟨B, 0, none⟩), .pointer (some ⟨BB, 0, none⟩), sv9, rv9, .int .u32 ((bt + y.n) % 4294967296), .int .u32 ((bt + y.got) % 4294967296), .int .i64 y.sent, .int .i64 y.got, .int .i64 y.n, .int .i64 st9, .int .i64 ow9] 77 (0, 0))) ∧ Kp (Run w2 wz P B D BB kc wd dp bt y OS9 OR9 S9 R9 st9 ow9 sv9 rv9 x9 (k + 1)) ∧ Kp (w2.heap.size ≤ O1 ∧ ¬ S9 O1 ∧ ¬ R9 O1 ∧ O1 ≠ P ∧ O1 ≠ B ∧ O1 ≠ D ∧ O1 ≠ BB) ∧ Kp (wz.heap[wd1.heap.size]? = some (.cells #[.bool true, .int .i64 0, .slice none 0 0, .bool false, .int .i64 nd, .bool true, .bool false, .bool false, .int .i64 0] 64 (0, 0))) ∧ Kp (w2.heap.size ≤ wd1.heap.size ∧ ¬ S9 wd1.heap.size ∧ ¬ R9 wd1.heap.size ∧ wd1.heap.size ≠ P ∧ wd1.heap.size ≠ B ∧ wd1.heap.size ≠ D ∧ wd1.heap.size ≠ BB) ∧ Kp (wd1.heap.size ≠ O1) ∧ wd6.heap.size ≤ wz.heap.size) ⟨⟨(blk_set_ne (p := ⟨wd1.heap.size, 8, none⟩) (blk_set_ne (p := ⟨wd1.heap.size, 7, none⟩) (blk_set_ne (p := ⟨wd1.heap.size, 6, none⟩) (blk_set_ne (p := ⟨wd1.heap.size, 5, none⟩) (blk_set_ne (p := ⟨wd1.heap.size, 4, none⟩) (blk_set_ne (p := ⟨wd1.heap.size, 3, none⟩) (blk_set_ne (p := ⟨wd1.heap.size, 2, none⟩) (blk_set_ne (p := ⟨wd1.heap.size, 1, none⟩) (blk_set_ne (p := ⟨wd1.heap.size, 0, none⟩) HP1.out (by show P ≠ wd1.heap.size; omega) _) (by show P ≠ wd1.heap.size; omega) _) (by show P ≠ wd1.heap.size; omega) _) (by show P ≠ wd1.heap.size; omega) _) (by show P ≠ wd1.heap.size; omega) _) (by show P ≠ wd1.heap.size; omega) _) (by show P ≠ wd1.heap.size; omega) _) (by show P ≠ wd1.heap.size; omega) _) (by show P ≠ wd1.heap.size; omega) _)⟩, ⟨(((((((((HRY.out.setN wd1.heap.size 0 _ HTN.out).setN wd1.heap.size 1 _ HTN.out).setN wd1.heap.size 2 _ HTN.out).setN wd1.heap.size 3 _ HTN.out).setN wd1.heap.size 4 _ HTN.out).setN wd1.heap.size 5 _ HTN.out).setN wd1.heap.size 6 _ HTN.out).setN wd1.heap.size 7 _ HTN.out).setN wd1.heap.size 8 _ HTN.out)⟩, ⟨(((((((((HON.out)))))))))⟩, ⟨(blk_set (blk_set (blk_set (blk_set (blk_set (blk_set (blk_set (blk_set (blk_set db.out 0 _) 1 _) 2 _) 3 _) 4 _) 5 _) 6 _) 7 _) 8 _).trans (by first | (simp only [ls0, ls1, ls2]; done) | rfl)⟩, ⟨(((((((((HTN.out)))))))))⟩, ⟨(((((((((HTO.out)))))))))⟩, (by simp [World.setCell])⟩ (xc_of (fz' := (0, 0)) HX0.out ((blk_set_ne (p := ⟨wd1.heap.size, 8, none⟩) (blk_set_ne (p := ⟨wd1.heap.size, 7, none⟩) (blk_set_ne (p := ⟨wd1.heap.size, 6, none⟩) (blk_set_ne (p := ⟨wd1.heap.size, 5, none⟩) (blk_set_ne (p := ⟨wd1.heap.size, 4, none⟩) (blk_set_ne (p := ⟨wd1.heap.size, 3, none⟩) (blk_set_ne (p := ⟨wd1.heap.size, 2, none⟩) (blk_set_ne (p := ⟨wd1.heap.size, 1, none⟩) (blk_set_ne (p := ⟨wd1.heap.size, 0, none⟩) HP1.out (by show P ≠ wd1.heap.size; omega) _) (by show P ≠ wd1.heap.size; omega) _) (by show P ≠ wd1.heap.size; omega) _) (by show P ≠ wd1.heap.size; omega) _) (by show P ≠ wd1.heap.size; omega) _) (by show P ≠ wd1.heap.size; omega) _) (by show P ≠ wd1.heap.size; omega) _) (by show P ≠ wd1.heap.size; omega) _) (by show P ≠ wd1.heap.size; omega) _)) 99 (fun _ _ => rfl)) (fun wd7 hRn hHn => ?_)
                  clear hK K hHeld HP1 HRY HON db HTN HTO sd0 sf0 sd1 sf1 sd2 sf2 sd3 sf3 sd4 sf4 sd5 sf5 sd6 sf6 sd7 sf7 sd8 sf8 sl
                  obtain ⟨HP1, HRY, HON, db, HTN, HTO, hsz7⟩ := hRn
                  have hHeld := hHn
                  clear hHn
                  try simp only [Act.put, ls0, ls1, ls2]
                  refine wpAnyH_done (by kernel_rfl) ?_ _
                  clear HX0
                  refine JQ.mk ?_
                  rw [HRFD.out]
                  exact ⟨_, rfl, HP1, HRY, db⟩
              · have ge_db : w7.heap.size ≤ wd0.heap.size := (by omega)
                go_simp
                try go_wp2_with fail
                refine out_gen hK _ _ (fun wz : World => Kp (wz.heap[P]? = some (.cells #[.slice kc.pa 2 kc.pc, .slice (some ⟨kc.cg, kc.co, none⟩) 1 kc.cc, .int .i64 1, .slice kc.a0 1 kc.c0, .int .i64 1, .slice kc.a1 1 kc.c1, .pointer (some ⟨B, 0, none⟩), .pointer (some ⟨BB, 0, none⟩), sv9, rv9, .int .u32 ((bt + y.n) % 4294967296), .int .u32 ((bt + y.got) % 4294967296), .int .i64 y.sent, .int .i64 y.got, .int .i64 y.n, .int .i64 st9, .int .i64 ow9] 77 (0, 0))) ∧ Kp (Run w2 wz P B D BB kc wd dp bt y OS9 OR9 S9 R9 st9 ow9 sv9 rv9 x9 (k + 1)) ∧ Kp (wz.heap[wd0.heap.size]? = some (.cells #[.bool false, .int .i64 0, .slice none 0 0, .bool false, .int .i64 0, .bool false, .bool false, .bool false, .int .i64 0] 64 (0, 0))) ∧ Kp (w2.heap.size ≤ wd0.heap.size ∧ ¬ S9 wd0.heap.size ∧ ¬ R9 wd0.heap.size ∧ wd0.heap.size ≠ P ∧ wd0.heap.size ≠ B ∧ wd0.heap.size ≠ D ∧ wd0.heap.size ≠ BB) ∧ wd0.heap.size < wz.heap.size) ⟨⟨blk_al HP1.out _⟩, ⟨HRY.out.below (below_al (Below.refl _ _) _)⟩, ⟨blk_new wd0 _⟩, ⟨⟨by omega, fun e => (by have := hSlt _ e; omega), fun e => (by have := hRlt _ e; omega), by omega, by omega, by omega, by omega⟩⟩, (by simp)⟩ (xc_of (fz' := (0, 0)) HX0.out (blk_al HP1.out _) 99 (fun _ _ => rfl)) (fun wd8 hRn hHn => ?_)
                clear hK K hHeld HP1 HRY
                obtain ⟨HP1, HRY, db, HTN, hsz8⟩ := hRn
                have hHeld := hHn
                clear hHn
                try simp only [Act.put, ls0, ls1, ls2]
                have lt_db := blk_lt db.out
                refine wrd [8] ?_
                refine (arc rfl (fun K hK => ?_) arn)
                go_simp
                go_at_call 35
                refine (count_at ((bt + y.got) % 4294967296) (by omega) false _ (HK.out.below HRY.out.pl.core.low)).mono ?_
                rintro e w9 ⟨O1, g1, QB1, OW1, SB1, rfl, hCN, hb, hO1⟩
                try go_wp2_with fail
                refine out_gen hK _ _ (fun wz : World => Kp (wz.heap[P]? = some (.cells #[.slice kc.pa 2 kc.pc, .slice (some ⟨kc.cg, kc.co, none⟩) 1 kc.cc, .int .i64 1, .slice kc.a0 1 kc.c0, .int .i64 1, .slice kc.a1 1 kc.c1, .pointer (some ⟨B, 0, none⟩), .pointer (some ⟨BB, 0, none⟩), sv9, rv9, .int .u32 ((bt + y.n) % 4294967296), .int .u32 ((bt + y.got) % 4294967296), .int .i64 y.sent, .int .i64 y.got, .int .i64 y.n, .int .i64 st9, .int .i64 ow9] 77 (0, 0))) ∧ Kp (Run w2 wz P B D BB kc wd dp bt y OS9 OR9 S9 R9 st9 ow9 sv9 rv9 x9 (k + 1)) ∧ Kp (wz.heap[wd0.heap.size]? = some (.cells #[.bool false, .int .i64 0, .slice none 0 0, .bool false, .int .i64 0, .bool false, .bool false, .bool false, .int .i64 0] 64 (0, 0))) ∧ Kp (w2.heap.size ≤ wd0.heap.size ∧ ¬ S9 wd0.heap.size ∧ ¬ R9 wd0.heap.size ∧ wd0.heap.size ≠ P ∧ wd0.heap.size ≠ B ∧ wd0.heap.size ≠ D ∧ wd0.heap.size ≠ BB) ∧ Kp (CntAt wz O1 g1 QB1 OW1 SB1 ((bt + y.got) % 4294967296) false (qu12 wd dp ((bt + y.got) % 4294967296))) ∧ Kp (w2.heap.size ≤ O1 ∧ ¬ S9 O1 ∧ ¬ R9 O1 ∧ O1 ≠ P ∧ O1 ≠ B ∧ O1 ≠ D ∧ O1 ≠ BB) ∧ Kp (wd0.heap.size ≠ O1) ∧ wd8.heap.size ≤ wz.heap.size) ⟨⟨blk_below HP1.out hb⟩, ⟨HRY.out.below hb⟩, ⟨blk_below db.out hb⟩, ⟨HTN.out⟩, ⟨hCN⟩, ⟨⟨by omega, fun e => (by have := hSlt _ e; omega), fun e => (by have := hRlt _ e; omega), by omega, by omega, by omega, by omega⟩⟩, ⟨by omega⟩, hb.size⟩ (xc_of (fz' := (0, 0)) HX0.out (blk_below HP1.out hb) 99 (fun _ _ => rfl)) (fun wd9 hRn hHn => ?_)
                clear hK K hHeld HP1 HRY db HTN hCN hb hO1
                obtain ⟨HP1, HRY, db, HTN, HCN, HON, HTO, hsz9⟩ := hRn
                have hHeld := hHn
                clear hHn
                try simp only [Act.put, ls0, ls1, ls2]
                refine wrd [17] ?_
                refine (arc rfl (fun K hK => ?_) arn)
                go_simp
                go_at_call 36
                have hcc := HRY.out.pl.core
                refine (cnt_step (BB := BB) HCN.out (qu12_fits wd dp _) (qu12_ok' hi _ hcc.len) (by omega) hcc.mem ⟨HON.out.2.2.2.2.1, HON.out.2.2.2.2.2.1⟩ 0).mono ?_
                rw [HCV.out]
                rintro e w9 ⟨rfl, hb⟩
                try have hTO := HTO.out
                try go_wp2_with fail
                refine out_gen hK _ _ (fun wz : World => Kp (wz.heap[P]? = some (.cells #[.slice kc.pa 2 kc.pc, .slice (some ⟨kc.cg, kc.co, none⟩) 1 kc.cc, .int .i64 1, .slice kc.a0 1 kc.c0, .int .i64 1, .slice kc.a1 1 kc.c1, .pointer (some ⟨B, 0, none⟩), .pointer (some ⟨BB, 0, none⟩), sv9, rv9, .int .u32 ((bt + y.n) % 4294967296), .int .u32 ((bt + y.got) % 4294967296), .int .i64 y.sent, .int .i64 y.got, .int .i64 y.n, .int .i64 st9, .int .i64 ow9] 77 (0, 0))) ∧ Kp (Run w2 wz P B D BB kc wd dp bt y OS9 OR9 S9 R9 st9 ow9 sv9 rv9 x9 (k + 1)) ∧ Kp (wz.heap[wd0.heap.size]? = some (.cells #[.bool false, .int .i64 0, .slice none 0 0, .bool false, .int .i64 0, .bool false, .bool false, .bool false, .int .i64 0] 64 (0, 0))) ∧ Kp (w2.heap.size ≤ wd0.heap.size ∧ ¬ S9 wd0.heap.size ∧ ¬ R9 wd0.heap.size ∧ wd0.heap.size ≠ P ∧ wd0.heap.size ≠ B ∧ wd0.heap.size ≠ D ∧ wd0.heap.size ≠ BB) ∧ Kp (w2.heap.size ≤ O1 ∧ ¬ S9 O1 ∧ ¬ R9 O1 ∧ O1 ≠ P ∧ O1 ≠ B ∧ O1 ≠ D ∧ O1 ≠ BB) ∧ Kp (wd0.heap.size ≠ O1) ∧ wd9.heap.size ≤ wz.heap.size) ⟨⟨hb.blk HP1.out (by simpa using Ne.symm HON.out.2.2.2.1)⟩, ⟨HRY.out.butN hb HON.out⟩, ⟨hb.blk db.out (by simpa using hTO)⟩, ⟨HTN.out⟩, ⟨HON.out⟩, ⟨HTO.out⟩, hb.size⟩ (xc_of (fz' := (0, 0)) HX0.out (hb.blk HP1.out (by simpa using Ne.symm HON.out.2.2.2.1)) 99 (fun _ _ => rfl)) (fun wd10 hRn hHn => ?_)
                clear hK K hHeld HP1 HRY db HTN HCN HON HTO hb hcc
                obtain ⟨HP1, HRY, db, HTN, HON, HTO, hsz10⟩ := hRn
                have hHeld := hHn
                clear hHn
                try simp only [Act.put, ls0, ls1, ls2]
                refine wrd [19] ?_
                refine (arc rfl (fun K hK => ?_) arn)
                have sd0 := cbk db.out 0 (.bool false) rfl
                have sf0 := frozen_blk db.out 0
                have sd1 := cbk db.out 1 (.int .i64 0) rfl
                have sf1 := frozen_blk db.out 1
                have sd2 := cbk db.out 2 (.slice none 0 0) rfl
                have sf2 := frozen_blk db.out 2
                have sd3 := cbk db.out 3 (.bool false) rfl
                have sf3 := frozen_blk db.out 3
                have sd4 := cbk db.out 4 (.int .i64 0) rfl
                have sf4 := frozen_blk db.out 4
                have sd5 := cbk db.out 5 (.bool false) rfl
                have sf5 := frozen_blk db.out 5
                have sd6 := cbk db.out 6 (.bool false) rfl
                have sf6 := frozen_blk db.out 6
                have sd7 := cbk db.out 7 (.bool false) rfl
                have sf7 := frozen_blk db.out 7
                have sd8 := cbk db.out 8 (.int .i64 0) rfl
                have sf8 := frozen_blk db.out 8
                have sl := blk_lt db.out
                go_simp
                try go_wp2_with fail
                refine out_gen hK _ _ (fun wz : World => Kp (wz.heap[P]? = some (.cells #[.slice kc.pa 2 kc.pc, .slice (some ⟨kc.cg, kc.co, none⟩) 1 kc.cc, .int .i64 1, .slice kc.a0 1 kc.c0, .int .i64 1, .slice kc.a1 1 kc.c1, .pointer (some ⟨B, 0, none⟩), .pointer (some ⟨BB, 0, none⟩), sv9, rv9, .int .u32 ((bt + y.n) % 4294967296), .int .u32 ((bt + y.got) % 4294967296), .int .i64 y.sent, .int .i64 y.got, .int .i64 y.n, .int .i64 st9, .int .i64 ow9] 77 (0, 0))) ∧ Kp (Run w2 wz P B D BB kc wd dp bt y OS9 OR9 S9 R9 st9 ow9 sv9 rv9 x9 (k + 1)) ∧ Kp (wz.heap[wd0.heap.size]? = some (.cells #[.bool true, .int .i64 0, .slice none 0 0, .bool false, .int .i64 nd, .bool true, .bool false, .bool false, .int .i64 0] 64 (0, 0))) ∧ Kp (w2.heap.size ≤ wd0.heap.size ∧ ¬ S9 wd0.heap.size ∧ ¬ R9 wd0.heap.size ∧ wd0.heap.size ≠ P ∧ wd0.heap.size ≠ B ∧ wd0.heap.size ≠ D ∧ wd0.heap.size ≠ BB) ∧ Kp (w2.heap.size ≤ O1 ∧ ¬ S9 O1 ∧ ¬ R9 O1 ∧ O1 ≠ P ∧ O1 ≠ B ∧ O1 ≠ D ∧ O1 ≠ BB) ∧ Kp (wd0.heap.size ≠ O1) ∧ wd10.heap.size ≤ wz.heap.size) ⟨⟨(blk_set_ne (p := ⟨wd0.heap.size, 8, none⟩) (blk_set_ne (p := ⟨wd0.heap.size, 7, none⟩) (blk_set_ne (p := ⟨wd0.heap.size, 6, none⟩) (blk_set_ne (p := ⟨wd0.heap.size, 5, none⟩) (blk_set_ne (p := ⟨wd0.heap.size, 4, none⟩) (blk_set_ne (p := ⟨wd0.heap.size, 3, none⟩) (blk_set_ne (p := ⟨wd0.heap.size, 2, none⟩) (blk_set_ne (p := ⟨wd0.heap.size, 1, none⟩) (blk_set_ne (p := ⟨wd0.heap.size, 0, none⟩) HP1.out (by show P ≠ wd0.heap.size; omega) _) (by show P ≠ wd0.heap.size; omega) _) (by show P ≠ wd0.heap.size; omega) _) (by show P ≠ wd0.heap.size; omega) _) (by show P ≠ wd0.heap.size; omega) _) (by show P ≠ wd0.heap.size; omega) _) (by show P ≠ wd0.heap.size; omega) _) (by show P ≠ wd0.heap.size; omega) _) (by show P ≠ wd0.heap.size; omega) _)⟩, ⟨(((((((((HRY.out.setN wd0.heap.size 0 _ HTN.out).setN wd0.heap.size 1 _ HTN.out).setN wd0.heap.size 2 _ HTN.out).setN wd0.heap.size 3 _ HTN.out).setN wd0.heap.size 4 _ HTN.out).setN wd0.heap.size 5 _ HTN.out).setN wd0.heap.size 6 _ HTN.out).setN wd0.heap.size 7 _ HTN.out).setN wd0.heap.size 8 _ HTN.out)⟩, ⟨(blk_set (blk_set (blk_set (blk_set (blk_set (blk_set (blk_set (blk_set (blk_set db.out 0 _) 1 _) 2 _) 3 _) 4 _) 5 _) 6 _) 7 _) 8 _).trans (by first | (simp only [ls0, ls1, ls2]; done) | rfl)⟩, ⟨(((((((((HTN.out)))))))))⟩, ⟨(((((((((HON.out)))))))))⟩, ⟨(((((((((HTO.out)))))))))⟩, (by simp [World.setCell])⟩ (xc_of (fz' := (0, 0)) HX0.out ((blk_set_ne (p := ⟨wd0.heap.size, 8, none⟩) (blk_set_ne (p := ⟨wd0.heap.size, 7, none⟩) (blk_set_ne (p := ⟨wd0.heap.size, 6, none⟩) (blk_set_ne (p := ⟨wd0.heap.size, 5, none⟩) (blk_set_ne (p := ⟨wd0.heap.size, 4, none⟩) (blk_set_ne (p := ⟨wd0.heap.size, 3, none⟩) (blk_set_ne (p := ⟨wd0.heap.size, 2, none⟩) (blk_set_ne (p := ⟨wd0.heap.size, 1, none⟩) (blk_set_ne (p := ⟨wd0.heap.size, 0, none⟩) HP1.out (by show P ≠ wd0.heap.size; omega) _) (by show P ≠ wd0.heap.size; omega) _) (by show P ≠ wd0.heap.size; omega) _) (by show P ≠ wd0.heap.size; omega) _) (by show P ≠ wd0.heap.size; omega) _) (by show P ≠ wd0.heap.size; omega) _) (by show P ≠ wd0.heap.size; omega) _) (by show P ≠ wd0.heap.size; omega) _) (by show P ≠ wd0.heap.size; omega) _)) 99 (fun _ _ => rfl)) (fun wd11 hRn hHn => ?_)
                clear hK K hHeld HP1 HRY db HTN HON HTO sd0 sf0 sd1 sf1 sd2 sf2 sd3 sf3 sd4 sf4 sd5 sf5 sd6 sf6 sd7 sf7 sd8 sf8 sl
                obtain ⟨HP1, HRY, db, HTN, HON, HTO, hsz11⟩ := hRn
                have hHeld := hHn
                clear hHn
                try simp only [Act.put, ls0, ls1, ls2]
                refine wpAnyH_done (by kernel_rfl) ?_ _
                clear HX0
                refine JQ.mk ?_
                rw [HRFD.out]
                exact ⟨_, rfl, HP1, HRY, db⟩
            intro a w7 hRf
            generalize (fun i => a.tmps.getD i undef) = f at hRf
            rw [HRFD.out] at hRf
            obtain ⟨T2, rfl, HP1, HRY, db⟩ := hRf
            clear HRFD
            clear hSlt hRlt lP lB lD lBB l2w c0 c1 c2 c3 c4 c5 c6 c7 c8 c9 c10 c11 c12 c13 c14 c15 c16
            have t0 := cbk db.out 0 (.bool true) rfl
            have t1 := cbk db.out 1 (.int .i64 0) rfl
            have t4 := cbk db.out 4 (.int .i64 nd) rfl
            have t5 := cbk db.out 5 (.bool true) rfl
            have lT := blk_lt db.out
            clear HCV
          all_goals
            go_wp2
            go_roundw
            case rel => exact ⟨k + 1, y, OS9, OR9, S9, R9, st9, ow9, sv9, rv9, x9, by omega, by go_num, HRY⟩
            case measure => simp [intOf]; omega
    · obtain rfl : k = L := by omega
      have HLO := Kp.mk HR1.out.pl.core.low
      clear HR1
      go_wp2
      go_ret
      exact ⟨rfl, HB2.out.trans (HLO.out.mono HB2.out.size)⟩
theorem ringCounts_any (v0 v1 v2 : Value) (W : World) (o0 : RdV W (.pair 1 (.int .u8) (.pair 1 (.int .u8) .nil)) v0) (o1 : RdV W (.int .u32) v1) (o2 : RdV W (.slice 1 .bool) v2) : Calls Tryz.prog 9 #[v0, v1, v2] W fun e W' => e = .returned (.bool true) ∧ Below W.heap.size W W' := by
  obtain ⟨h0, h1, rfl, q0, q1⟩ := how_of o0
  obtain ⟨bt, rfl, hb⟩ := o1
  obtain ⟨a, c, l, rfl, hr⟩ := bools12_of o2
  exact ringCounts_main h0 h1 bt q0 q1 (by have := bounds_u32 hb; omega) a l.length c l rfl W hr
end Go.Proofs.YtmidcnfmphlneaaGreat

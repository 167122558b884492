/- The law RingAtomic. -/
import Derived.Test.YtmidcnfmphlneaaGreatQ26
namespace Go.Proofs.YtmidcnfmphlneaaGreat
open Go.RowKit
set_option linter.unusedSimpArgs false
set_option linter.unusedVariables false
set_option maxRecDepth 100000 in
set_option maxHeartbeats 8000000 in
theorem ringAtomic_main (h0 h1 bt : Int) (q0 : 0 ≤ h0 ∧ h0 ≤ 255) (q1 : 0 ≤ h1 ∧ h1 ≤ 255) (qb : 0 ≤ bt ∧ bt < 4294967296) (a1 : Option Addr) (L c1 : Nat) (bs : List Bool) (hL : bs.length = L) (w : World) (hrow : RowAt w 1 (.slice a1 L c1) L (bs.map Value.bool)) :
    Calls Tryz.prog 5 #[.agg #[.int .u8 h0, .int .u8 h1], .int .u32 bt, .slice a1 L c1] w fun e w' => e = .returned (.bool true) ∧ Below w.heap.size w w' := by
  have HR := Kp.mk hrow
  have HLL := Kp.mk hL
  have hcap : L ≤ maxLen := by obtain ⟨_, _, e, q1, q2⟩ := hrow.shape; exact Nat.le_trans q1 q2
  unfold maxLen at hcap
  clear hrow hL
  obtain ⟨wd, e, dp, hwd4, he3, hdp, v2, u1, hsh⟩ := how_any h0 h1 q0 q1
  have v1 : IntKind.i64.wrap h0 = h0 := IntWalk.i64_in _ (by omega)
  have v3 : IntKind.i64.wrap (wd - 1) = wd - 1 := IntWalk.i64_in _ (by omega)
  have v4 : 1 + (wd - 1) = wd := by omega
  have v5 : IntKind.i64.wrap wd = wd := IntWalk.i64_in _ (by omega)
  have u2 : IntKind.u8.wrap e = e := IntWalk.u8_in _ (by omega)
  have he0 : 0 ≤ e := he3.1
  have he64 : e ≤ 64 := by omega
  have hsh1 : IntKind.i64.wrap dp = dp := IntWalk.i64_in _ (by omega)
  have hi : In12 wd dp bt := ⟨by omega, hdp, qb⟩
  have hdb := dp_bound hi
  obtain ⟨nn, hnn⟩ : ∃ nn : Nat, (nn : Int) = 3 + dp * (1 + wd) := ⟨(3 + dp * (1 + wd)).toNat, by omega⟩
  have HNN := Kp.mk hnn
  clear hnn
  go_enter Tryz.func5, Tryz.ntmps5
  have HB0 : Kp (Below w.heap.size w w) := ⟨Below.refl _ _⟩
  go_wp2_with fail
  refine (wakes12_any _).mono ?_
  rintro e w1 ⟨rfl, hb⟩
  have HH1 : Kp (w1.heap[w.heap.size]? = some (.cells #[.int .u8 h0, .int .u8 h1] 70 (0, 0))) := ⟨blk_below (blk_new _ _) hb⟩
  have HB1 : Kp (Below w.heap.size w w1) := ⟨below_call (below_al HB0.out _) hb⟩
  have q20 := cbk HH1.out 0 (.int .u8 h0) rfl
  have q21 := cbk HH1.out 1 (.int .u8 h1) rfl
  have ql := blk_lt HH1.out
  clear HB0 hb
  by_cases hl1 : 600 < L
  · have n1 : (600 : Int) < (L : Int) := by omega
    go_wp2
    go_ret
    exact ⟨rfl, HB1.out⟩
  have n1 : ¬ (600 : Int) < (L : Int) := by omega
  go_wp2_with fail
  refine (two12_any wd dp bt _ (two12_ok wd dp bt hi)).mono ?_
  rintro e w2 ⟨cs, rfl, hC, hb⟩
  have HB2 : Kp (Below w.heap.size w w2) := ⟨below_call HB1.out hb⟩
  obtain ⟨kc, rfl, hKC⟩ := cf12_of hC hi
  have HK := Kp.mk hKC
  clear HB1 HH1 q20 q21 ql hb hC hKC
  go_wp2_with fail
  refine (begin12_any nn HNN.out _ HK.out).mono ?_
  rintro e w3 ⟨P, B, D, BB, rfl, hP, hBB0⟩
  have HR0 : Kp (Run w2 w3 P B D BB kc wd dp bt (rs0 wd dp bt nn) 0 0 (fun _ => False) (fun _ => False) 0 0 (.pointer none) (.pointer none) [false, false] 0) := ⟨⟨hP, rs0_jr hi nn HNN.out, Nat.zero_le _⟩⟩
  clear hP
  have HROW : Kp (RowAt w2 1 (.slice a1 L c1) L (bs.map Value.bool)) := ⟨HR.out.below HB2.out⟩
  go_wp2_with fail
  go_loopw [31] (fun i wr => ∃ (k : Nat) (z : Rs) (OS OR : Nat) (S R : Nat → Prop) (st ow : Nat) (sv rv : Value) (x : List Bool), k ≤ L ∧ i = .int .i64 k ∧ Kp (Run w2 wr P B D BB kc wd dp bt z OS OR S R st ow sv rv x k)) (fun i wr => L - (intOf i).toNat)
  case atStart => exact ⟨0, _, _, _, _, _, _, _, _, _, _, Nat.zero_le _, rfl, HR0⟩
  case round =>
    obtain ⟨k, z, OS, OR, S, R, st, ow, sv, rv, x, hk, rfl, HR1⟩ := hrel
    clear HR0
    by_cases hlt : k < L
    · obtain ⟨gb, ob, hab, hgb, hcb⟩ := HROW.out.at (by omega)
      subst hab
      have hlow := HR1.out.pl.core.low
      have lwr := hlow.size
      have ck : wr.cell? ⟨gb, ob + k, none⟩ = some (.bool (bs.getD k false)) := (hlow.cell (p := ⟨gb, ob + k, none⟩) hgb).trans ((hcb k (by omega)).trans (by have := HLL.out; rw [List.getElem?_map, List.getElem?_eq_getElem (by omega), List.getD_eq_getElem?_getD, List.getElem?_eq_getElem (by omega)]; rfl))
      have lgb : gb < wr.heap.size := by omega
      have hz : (0 : Int) ≤ (k : Int) := by omega
      have HCW := Kp.mk (HR1.out.send HK.out (by omega))
      have HCR := Kp.mk (HR1.out.recv HK.out (by omega))
      clear hcb hlow
      cases hb : bs.getD k false with
      | true =>
        rw [hb] at ck
        go_wp2_with fail
        refine HCW.out.mono ?_
        rintro e w6 ⟨rfl, OS', st', S', sv', x', hr', -, -⟩
        have HR2 := Kp.mk hr'
        clear hr' HR1 HCW HCR ck lgb hb
        go_wp2
        go_roundw
        case rel => exact ⟨k + 1, _, OS', OR, S', R, st', ow, sv', rv, x', by omega, by go_num, HR2⟩
        case measure => simp [intOf]; omega
      | false =>
        rw [hb] at ck
        go_wp2_with fail
        refine HCR.out.mono ?_
        rintro e w6 ⟨rfl, OR', ow', R', rv', hr', -, -⟩
        have HR2 := Kp.mk hr'
        clear hr' HR1 HCW HCR ck lgb hb
        go_wp2
        go_roundw
        case rel => exact ⟨k + 1, _, OS, OR', S, R', st, ow', sv, rv', x, by omega, by go_num, HR2⟩
        case measure => simp [intOf]; omega
    · obtain rfl : k = L := by omega
      have hj := HR1.out.jr
      have hz1 : z.got ≤ z.sent := hj.le
      have hz2 : (z.sent : Int) - (z.got : Int) ≤ dp := hj.dp
      have hz3 : z.sent ≤ k := HR1.out.le
      have HP1 := Kp.mk HR1.out.pl.blk
      have m1 : IntKind.i64.wrap ((z.sent : Int) - (z.got : Int)) = (z.sent : Int) - (z.got : Int) := IntWalk.i64_in _ (by omega)
      have m2 : (0 : Int) ≤ (z.sent : Int) - (z.got : Int) := by omega
      have hkw := HK.out.below HR1.out.pl.core.low
      have cd := hkw.depth
      have lcg := hkw.lt
      have lP := blk_lt HP1.out
      have HLO := Kp.mk HR1.out.pl.core.low
      have c0 := cbk HP1.out 0 (.slice kc.pa 2 kc.pc) rfl
      have c1 := cbk HP1.out 1 (.slice (some ⟨kc.cg, kc.co, none⟩) 1 kc.cc) rfl
      have c2 := cbk HP1.out 2 (.int .i64 1) rfl
      have c3 := cbk HP1.out 3 (.slice kc.a0 1 kc.c0) rfl
      have c4 := cbk HP1.out 4 (.int .i64 1) rfl
      have c5 := cbk HP1.out 5 (.slice kc.a1 1 kc.c1) rfl
      have c6 := cbk HP1.out 6 (.pointer (some ⟨B, 0, none⟩)) rfl
      have c7 := cbk HP1.out 7 (.pointer (some ⟨BB, 0, none⟩)) rfl
      have c8 := cbk HP1.out 8 (sv) rfl
      have c9 := cbk HP1.out 9 (rv) rfl
      have c10 := cbk HP1.out 10 (.int .u32 ((bt + z.n) % 4294967296)) rfl
      have c11 := cbk HP1.out 11 (.int .u32 ((bt + z.got) % 4294967296)) rfl
      have c12 := cbk HP1.out 12 (.int .i64 z.sent) rfl
      have c13 := cbk HP1.out 13 (.int .i64 z.got) rfl
      have c14 := cbk HP1.out 14 (.int .i64 z.n) rfl
      have c15 := cbk HP1.out 15 (.int .i64 st) rfl
      have c16 := cbk HP1.out 16 (.int .i64 ow) rfl
      clear hj hkw HR1
      go_wp2_with fail
      go_quiet (fail)
      go_wp2
      go_ret
      exact ⟨rfl, below_drN (HB2.out.trans (HLO.out.mono HB2.out.size))⟩
theorem ringAtomic_any (v0 v1 v2 : Value) (W : World) (o0 : RdV W (.pair 1 (.int .u8) (.pair 1 (.int .u8) .nil)) v0) (o1 : RdV W (.int .u32) v1) (o2 : RdV W (.slice 1 .bool) v2) : Calls Tryz.prog 5 #[v0, v1, v2] W fun e W' => e = .returned (.bool true) ∧ Below W.heap.size W W' := by
  obtain ⟨h0, h1, rfl, q0, q1⟩ := how_of o0
  obtain ⟨bt, rfl, hb⟩ := o1
  obtain ⟨a, c, l, rfl, hr⟩ := bools12_of o2
  exact ringAtomic_main h0 h1 bt q0 q1 (by have := bounds_u32 hb; omega) a l.length c l rfl W hr
end Go.Proofs.YtmidcnfmphlneaaGreat

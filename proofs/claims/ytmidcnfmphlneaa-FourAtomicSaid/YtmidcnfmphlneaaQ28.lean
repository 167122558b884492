/- The law FourAtomic: each read finds one message whole. -/
import Derived.Test.YtmidcnfmphlneaaQ27
namespace Go.Proofs.Ytmidcnfmphlneaa
open Go.RowKit
set_option linter.unusedSimpArgs false
set_option linter.unusedVariables false
set_option maxRecDepth 100000 in
set_option maxHeartbeats 8000000 in
theorem fourAtomic_main (wv : Int) (hwv : 0 ≤ wv ∧ wv ≤ 255) (a1 : Option Addr) (L c1 : Nat) (bs : List Bool) (hL : bs.length = L) (w : World) (hrow : RowAt w 1 (.slice a1 L c1) L (bs.map Value.bool)) :
    Calls Try.prog 3 #[.int .u8 wv, .slice a1 L c1] w fun e w' => e = .returned (.bool true) ∧ Below w.heap.size w w' := by
  have HR := Kp.mk hrow
  have HLL := Kp.mk hL
  have hcap : L ≤ maxLen := by obtain ⟨_, _, e, q1, q2⟩ := hrow.shape; exact Nat.le_trans q1 q2
  unfold maxLen at hcap
  clear hrow hL
  obtain ⟨wd, hwdd⟩ : ∃ wd, 1 + wv % 4 = wd := ⟨_, rfl⟩
  have hwd : 1 ≤ wd ∧ wd ≤ 16 := by omega
  have hwd4 : wd ≤ 4 := by omega
  have v1 : IntKind.i64.wrap wv = wv := IntWalk.i64_in _ (by omega)
  have v2 : Int.tmod wv 4 = wd - 1 := by rw [Int.tmod_eq_emod_of_nonneg (by omega)]; omega
  have v3 : IntKind.i64.wrap (wd - 1) = wd - 1 := IntWalk.i64_in _ (by omega)
  have v4 : 1 + (wd - 1) = wd := by omega
  have v5 : IntKind.i64.wrap wd = wd := IntWalk.i64_in _ (by omega)
  obtain ⟨nn, hnn⟩ : ∃ nn : Nat, (nn : Int) = 5 + 4 * (2 + wd) := ⟨(5 + 4 * (2 + wd)).toNat, by omega⟩
  have hnle : nn ≤ 65536 := by omega
  have HNN := Kp.mk hnn
  clear hwdd
  go_enter Try.func3, Try.ntmps3
  have HB0 : Kp (Below w.heap.size w w) := ⟨Below.refl _ _⟩
  go_wp2_with fail
  refine (wakes4_any _).mono ?_
  rintro e w1 ⟨rfl, hb⟩
  have HB1 : Kp (Below w.heap.size w w1) := ⟨below_call HB0.out hb⟩
  clear HB0 hb
  by_cases hl1 : 600 < L
  · have n1 : (600 : Int) < (L : Int) := by omega
    go_wp2
    go_ret
    exact ⟨rfl, HB1.out⟩
  have n1 : ¬ (600 : Int) < (L : Int) := by omega
  go_wp2_with fail
  refine (two4_any wd 5 _ (two4_ok wd 5 hwd (by omega))).mono ?_
  rintro e w2 ⟨cs, rfl, hC, hb⟩
  have HB2 : Kp (Below w.heap.size w w2) := ⟨below_call HB1.out hb⟩
  have C2 : Kp (CfgAt w2 (.agg cs) (two4 wd 5)) := ⟨hC⟩
  clear HB1 hb
  obtain ⟨kc, rfl, hKC⟩ := cfOk_of hC hwd (per := 5) (by omega)
  clear hC hKC
  have hsz := size_two (.agg #[.slice kc.pa 2 kc.pc, .slice (some ⟨kc.cg, kc.co, none⟩) 1 kc.cc, .int .i64 1, .slice kc.a0 1 kc.c0, .int .i64 1, .slice kc.a1 1 kc.c1]) wd 5 hwd (by omega) (w2.alloc (.cells #[.slice kc.pa 2 kc.pc, .slice (some ⟨kc.cg, kc.co, none⟩) 1 kc.cc, .int .i64 1, .slice kc.a0 1 kc.c0, .int .i64 1, .slice kc.a1 1 kc.c1] 31)) ((C2.out.below (below_al (Below.refl _ _) _)))
  rw [← hnn] at hsz
  clear hnn
  go_wp2_with fail
  refine (hsz).mono ?_
  rintro e w3 ⟨rfl, hb⟩
  have q3 : Kp (w3.heap[w2.heap.size]? = some (.cells #[.slice kc.pa 2 kc.pc, .slice (some ⟨kc.cg, kc.co, none⟩) 1 kc.cc, .int .i64 1, .slice kc.a0 1 kc.c0, .int .i64 1, .slice kc.a1 1 kc.c1] 31 (0, 0))) := ⟨blk_below (blk_new _ _) hb⟩
  have HB3 : Kp (Below w.heap.size w w3) := ⟨below_call (below_al HB2.out _) hb⟩
  have C3 : Kp (CfgAt w3 (.agg #[.slice kc.pa 2 kc.pc, .slice (some ⟨kc.cg, kc.co, none⟩) 1 kc.cc, .int .i64 1, .slice kc.a0 1 kc.c0, .int .i64 1, .slice kc.a1 1 kc.c1]) (two4 wd 5)) := ⟨(C2.out.below (below_al (Below.refl _ _) _)).below hb⟩
  clear HB2 C2 hb
  have qc0 : w3.cell? ⟨w2.heap.size, 0, none⟩ = some (.slice kc.pa 2 kc.pc) := (cell_blk q3.out 0).trans rfl
  have qc1 : w3.cell? ⟨w2.heap.size, 1, none⟩ = some (.slice (some ⟨kc.cg, kc.co, none⟩) 1 kc.cc) := (cell_blk q3.out 1).trans rfl
  have qc2 : w3.cell? ⟨w2.heap.size, 2, none⟩ = some (.int .i64 1) := (cell_blk q3.out 2).trans rfl
  have qc3 : w3.cell? ⟨w2.heap.size, 3, none⟩ = some (.slice kc.a0 1 kc.c0) := (cell_blk q3.out 3).trans rfl
  have qc4 : w3.cell? ⟨w2.heap.size, 4, none⟩ = some (.int .i64 1) := (cell_blk q3.out 4).trans rfl
  have qc5 : w3.cell? ⟨w2.heap.size, 5, none⟩ = some (.slice kc.a1 1 kc.c1) := (cell_blk q3.out 5).trans rfl
  have ql := blk_lt q3.out
  clear hsz
  go_wp2_with fail
  refine (memNew_any nn hnle _).mono ?_
  rintro e w4 ⟨B, D, rfl, hM, hb, hB, hD⟩
  have qd0 : w4.cell? ⟨w2.heap.size, 0, none⟩ = some (.slice kc.pa 2 kc.pc) := ((hb.cell (p := ⟨w2.heap.size, 0, none⟩) (blk_lt q3.out)).trans (cell_blk q3.out 0)).trans rfl
  have qd1 : w4.cell? ⟨w2.heap.size, 1, none⟩ = some (.slice (some ⟨kc.cg, kc.co, none⟩) 1 kc.cc) := ((hb.cell (p := ⟨w2.heap.size, 1, none⟩) (blk_lt q3.out)).trans (cell_blk q3.out 1)).trans rfl
  have qd2 : w4.cell? ⟨w2.heap.size, 2, none⟩ = some (.int .i64 1) := ((hb.cell (p := ⟨w2.heap.size, 2, none⟩) (blk_lt q3.out)).trans (cell_blk q3.out 2)).trans rfl
  have qd3 : w4.cell? ⟨w2.heap.size, 3, none⟩ = some (.slice kc.a0 1 kc.c0) := ((hb.cell (p := ⟨w2.heap.size, 3, none⟩) (blk_lt q3.out)).trans (cell_blk q3.out 3)).trans rfl
  have qd4 : w4.cell? ⟨w2.heap.size, 4, none⟩ = some (.int .i64 1) := ((hb.cell (p := ⟨w2.heap.size, 4, none⟩) (blk_lt q3.out)).trans (cell_blk q3.out 4)).trans rfl
  have qd5 : w4.cell? ⟨w2.heap.size, 5, none⟩ = some (.slice kc.a1 1 kc.c1) := ((hb.cell (p := ⟨w2.heap.size, 5, none⟩) (blk_lt q3.out)).trans (cell_blk q3.out 5)).trans rfl
  have qe : w2.heap.size < w4.heap.size := Nat.lt_of_lt_of_le (blk_lt q3.out) hb.size
  have lB := blk_lt hM.out.head
  have lD := blk_lt hM.out.words
  have HM := Kp.mk hM.out
  have HB4 := Kp.mk hb
  clear hM hb qc0 qc1 qc2 qc3 qc4 qc5 ql
  go_wp2_with fail
  have HP : Kp (PlayAt w3 (w4.alloc (.cells #[.slice kc.pa 2 kc.pc, .slice (some ⟨kc.cg, kc.co, none⟩) 1 kc.cc, .int .i64 1, .slice kc.a0 1 kc.c0, .int .i64 1, .slice kc.a1 1 kc.c1, .pointer (some ⟨B, 0, none⟩), .pointer none, .pointer none, .int .u32 0, .int .u32 0, .int .u32 0, .int .u32 0, .int .u32 0, .int .u32 0, .int .i64 0, .int .i64 0] 43)) w4.heap.size B D 0 0 0 0 0 none 0 kc (plc4 wd 5) (sg0 nn)) := ⟨⟨blk_new _ _, Duo.new (HM.out.al _) ⟨hB, hD⟩ (by simp only [List.mem_singleton]; omega) (show 7 ≤ 7 by decide) (show 6 ≤ 6 by decide), below_al HB4.out _, HB4.out.size⟩⟩
  have HG : Kp (Good (plc4 wd 5) (sg0 nn) (fun _ _ => 0)) := ⟨good0 _ _ (plc4_good wd 5 nn hwd HNN.out)⟩
  have HCF : Kp (CfOk w3 kc wd 5) := ⟨cfOk_kc C3.out hwd (by omega)⟩
  have HROW : Kp (RowAt w3 1 (.slice a1 L c1) L (bs.map Value.bool)) := ⟨HR.out.below HB3.out⟩
  obtain ⟨P, hP⟩ : ∃ P, w4.heap.size = P := ⟨_, rfl⟩
  generalize w4.alloc (.cells #[.slice kc.pa 2 kc.pc, .slice (some ⟨kc.cg, kc.co, none⟩) 1 kc.cc, .int .i64 1, .slice kc.a0 1 kc.c0, .int .i64 1, .slice kc.a1 1 kc.c1, .pointer (some ⟨B, 0, none⟩), .pointer none, .pointer none, .int .u32 0, .int .u32 0, .int .u32 0, .int .u32 0, .int .u32 0, .int .u32 0, .int .i64 0, .int .i64 0] 43) = w5 at HP ⊢
  rw [hP] at HP ⊢
  have l5 := HP.out.low.size
  go_wp2_with fail
  go_loopw [39] (fun i wr => ∃ (k W g dc R bs : Nat) (da : Option Addr) (dr : Nat) (s : Sg) (c : Int → Int → Nat), k ≤ L ∧ i = .int .i64 k ∧ Kp (PlayAt w3 wr P B D W g dc R bs da dr kc (plc4 wd 5) s) ∧ Kp (Good (plc4 wd 5) s c) ∧ Kp (s.n ≤ k)) (fun i wr => L - (intOf i).toNat)
  case atStart => exact ⟨0, 0, 0, 0, 0, 0, none, 0, _, _, Nat.zero_le _, rfl, HP, HG, ⟨Nat.zero_le _⟩⟩
  case round =>
    obtain ⟨k, W, g, dc, R, bs', da, dr, s, c, hk, rfl, HP1, HG1, HN1⟩ := hrel
    clear HP HG
    by_cases hlt : k < L
    · obtain ⟨gb, ob, hab, hgb, hcb⟩ := HROW.out.at (by omega)
      subst hab
      have lwr := HP1.out.low.size
      have ck : wr.cell? ⟨gb, ob + k, none⟩ = some (.bool (bs.getD k false)) := (HP1.out.low.cell (p := ⟨gb, ob + k, none⟩) hgb).trans ((hcb k (by omega)).trans (by have := HLL.out; rw [List.getElem?_map, List.getElem?_eq_getElem (by omega), List.getD_eq_getElem?_getD, List.getElem?_eq_getElem (by omega)]; rfl))
      have lgb : gb < wr.heap.size := by omega
      have hn : s.n + 1 < 4294967296 := by have := HN1.out; omega
      have hz : (0 : Int) ≤ (k : Int) := by omega
      have HCW := Kp.mk (play_write HCF.out rfl HG1.out hn (k : Int) wr HP1.out)
      have HCR := Kp.mk (play_read HCF.out rfl HG1.out (by omega) (k : Int) (by omega) wr HP1.out)
      clear hcb hn
      cases hb : bs.getD k false with
      | true =>
        rw [hb] at ck
        go_wp2_with fail
        refine HCW.out.mono ?_
        rintro e w6 ⟨rfl, W', g', dc', s', c', hp', hg', hn', -⟩
        have HP2 := Kp.mk hp'
        have HG2 := Kp.mk hg'
        have HN2 : Kp (s'.n ≤ k + 1) := ⟨Nat.le_trans hn' (Nat.succ_le_succ HN1.out)⟩
        clear hp' hg' hn' HP1 HG1 HN1 HCW HCR ck lgb hb
        go_wp2
        go_roundw
        case rel => exact ⟨k + 1, W', g', dc', R, bs', da, dr, s', c', by omega, by go_num, HP2, HG2, HN2⟩
        case measure => simp [intOf]; omega
      | false =>
        rw [hb] at ck
        go_wp2_with fail
        refine HCR.out.mono ?_
        rintro e w6 ⟨rfl, R', bs2, da', dr', s', hp', hg', hn', -⟩
        have HP2 := Kp.mk hp'
        have HG2 := Kp.mk hg'
        have HN2 : Kp (s'.n ≤ k + 1) := ⟨by have := HN1.out; omega⟩
        clear hp' hg' hn' HP1 HG1 HN1 HCW HCR ck lgb hb
        go_wp2
        go_roundw
        case rel => exact ⟨k + 1, W, g, dc, R', bs2, da', dr', s', c, by omega, by go_num, HP2, HG2, HN2⟩
        case measure => simp [intOf]; omega
    · obtain rfl : k = L := by omega
      go_wp2
      go_ret
      exact ⟨rfl, HB3.out.trans (HP1.out.low.mono HB3.out.size)⟩
theorem fourAtomic_any (v0 v1 : Value) (W : World) (o0 : RdV W (.int .u8) v0) (o1 : RdV W (.slice 1 .bool) v1) : Calls Try.prog 3 #[v0, v1] W fun e W' => e = .returned (.bool true) ∧ Below W.heap.size W W' := by
  obtain ⟨wv, rfl, hw⟩ := o0
  obtain ⟨a, c, l, rfl, hr⟩ := boolsAt_of o1
  exact fourAtomic_main wv (bounds_u8 hw) a l.length c l rfl W hr
end Go.Proofs.Ytmidcnfmphlneaa

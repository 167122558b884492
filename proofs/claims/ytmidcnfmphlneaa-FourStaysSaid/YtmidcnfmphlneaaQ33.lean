/- The law FourStays: reads that follow each other find the same. -/
import Derived.Test.YtmidcnfmphlneaaQ27
import Derived.Test.YtmidcnfmphlneaaQ32
namespace Go.Proofs.Ytmidcnfmphlneaa
open Go.RowKit
set_option linter.unusedSimpArgs false
set_option linter.unusedVariables false
theorem validA_of (p : Plc) (m : List Int) (hm : Words m) (now : Int) (h : now ≤ p.period) : validA p m now = decide (codeA p m = 0) := by
  have hs := ldW_word hm (bufA p m + 1)
  rw [validA, codeA]
  split
  · rfl
  · rw [decide_eq_true (by omega)]; rfl
set_option maxRecDepth 100000 in
set_option maxHeartbeats 8000000 in
theorem fourStays_main (wv : Int) (hwv : 0 ≤ wv ∧ wv ≤ 255) (a1 : Option Addr) (L c1 : Nat) (bs : List Bool) (hL : bs.length = L) (tk : Int) (htk : 0 ≤ tk ∧ tk ≤ 255) (w : World) (hrow : RowAt w 1 (.slice a1 L c1) L (bs.map Value.bool)) :
    Calls Try.prog 6 #[.int .u8 wv, .slice a1 L c1, .int .u8 tk] w fun e w' => e = .returned (.bool true) ∧ Below w.heap.size w w' := by
  have HR := Kp.mk hrow
  have HLL := Kp.mk hL
  have hcap : L ≤ maxLen := by obtain ⟨_, _, e, q1, q2⟩ := hrow.shape; exact Nat.le_trans q1 q2
  unfold maxLen at hcap
  clear hrow hL
  have u1 : IntKind.i64.wrap tk = tk := IntWalk.i64_in _ (by omega)
  obtain ⟨wd, hwdd⟩ : ∃ wd, 1 + wv % 4 = wd := ⟨_, rfl⟩
  have hwd : 1 ≤ wd ∧ wd ≤ 16 := by omega
  have hwd4 : wd ≤ 4 := by omega
  have v1 : IntKind.i64.wrap wv = wv := IntWalk.i64_in _ (by omega)
  have v2 : Int.tmod wv 4 = wd - 1 := by rw [Int.tmod_eq_emod_of_nonneg (by omega)]; omega
  have v3 : IntKind.i64.wrap (wd - 1) = wd - 1 := IntWalk.i64_in _ (by omega)
  have v4 : 1 + (wd - 1) = wd := by omega
  have v5 : IntKind.i64.wrap wd = wd := IntWalk.i64_in _ (by omega)
  obtain ⟨nn, hnn⟩ : ∃ nn : Nat, (nn : Int) = 5 + 4 * (2 + wd) := ⟨(5 + 4 * (2 + wd)).toNat, by omega⟩
  have hnle : nn ≤ 65536 := by omega
  have HNN := Kp.mk hnn
  clear hwdd
  go_enter Try.func6, Try.ntmps6
  have HB0 : Kp (Below w.heap.size w w) := ⟨Below.refl _ _⟩
  go_wp2_with fail
  refine (wakes4_any _).mono ?_
  rintro e w1 ⟨rfl, hb⟩
  have HB1 : Kp (Below w.heap.size w w1) := ⟨below_call HB0.out hb⟩
  clear HB0 hb
  by_cases hl1 : 300 < L
  · have n1 : (300 : Int) < (L : Int) := by omega
    go_wp2
    go_ret
    exact ⟨rfl, HB1.out⟩
  have n1 : ¬ (300 : Int) < (L : Int) := by omega
  go_wp2_with fail
  refine (two4_any wd 1048576 _ (two4_ok wd 1048576 hwd (by omega))).mono ?_
  rintro e w2 ⟨cs, rfl, hC, hb⟩
  have HB2 : Kp (Below w.heap.size w w2) := ⟨below_call HB1.out hb⟩
  have C2 : Kp (CfgAt w2 (.agg cs) (two4 wd 1048576)) := ⟨hC⟩
  clear HB1 hb
  obtain ⟨kc, rfl, hKC⟩ := cfOk_of hC hwd (per := 1048576) (by omega)
  clear hC hKC
  have hsz := size_two (.agg #[.slice kc.pa 2 kc.pc, .slice (some ⟨kc.cg, kc.co, none⟩) 1 kc.cc, .int .i64 1, .slice kc.a0 1 kc.c0, .int .i64 1, .slice kc.a1 1 kc.c1]) wd 1048576 hwd (by omega) (w2.alloc (.cells #[.slice kc.pa 2 kc.pc, .slice (some ⟨kc.cg, kc.co, none⟩) 1 kc.cc, .int .i64 1, .slice kc.a0 1 kc.c0, .int .i64 1, .slice kc.a1 1 kc.c1] 31)) ((C2.out.below (below_al (Below.refl _ _) _)))
  rw [← hnn] at hsz
  clear hnn
  go_wp2_with fail
  refine (hsz).mono ?_
  rintro e w3 ⟨rfl, hb⟩
  have q3 : Kp (w3.heap[w2.heap.size]? = some (.cells #[.slice kc.pa 2 kc.pc, .slice (some ⟨kc.cg, kc.co, none⟩) 1 kc.cc, .int .i64 1, .slice kc.a0 1 kc.c0, .int .i64 1, .slice kc.a1 1 kc.c1] 31 (0, 0))) := ⟨blk_below (blk_new _ _) hb⟩
  have HB3 : Kp (Below w.heap.size w w3) := ⟨below_call (below_al HB2.out _) hb⟩
  have C3 : Kp (CfgAt w3 (.agg #[.slice kc.pa 2 kc.pc, .slice (some ⟨kc.cg, kc.co, none⟩) 1 kc.cc, .int .i64 1, .slice kc.a0 1 kc.c0, .int .i64 1, .slice kc.a1 1 kc.c1]) (two4 wd 1048576)) := ⟨(C2.out.below (below_al (Below.refl _ _) _)).below hb⟩
  clear HB2 C2 hb
  have qc0 : w3.cell? ⟨w2.heap.size, 0, none⟩ = some (.slice kc.pa 2 kc.pc) := (cell_blk q3.out 0).trans rfl
  have qc1 : w3.cell? ⟨w2.heap.size, 1, none⟩ = some (.slice (some ⟨kc.cg, kc.co, none⟩) 1 kc.cc) := (cell_blk q3.out 1).trans rfl
  have qc2 : w3.cell? ⟨w2.heap.size, 2, none⟩ = some (.int .i64 1) := (cell_blk q3.out 2).trans rfl
  have qc3 : w3.cell? ⟨w2.heap.size, 3, none⟩ = some (.slice kc.a0 1 kc.c0) := (cell_blk q3.out 3).trans rfl
  have qc4 : w3.cell? ⟨w2.heap.size, 4, none⟩ = some (.int .i64 1) := (cell_blk q3.out 4).trans rfl
  have qc5 : w3.cell? ⟨w2.heap.size, 5, none⟩ = some (.slice kc.a1 1 kc.c1) := (cell_blk q3.out 5).trans rfl
  have ql := blk_lt q3.out
  clear hsz
  go_wp2_with fail
  refine (memNew_any nn hnle _).mono ?_
  rintro e w4 ⟨B, D, rfl, hM, hb, hB, hD⟩
  have qd0 : w4.cell? ⟨w2.heap.size, 0, none⟩ = some (.slice kc.pa 2 kc.pc) := ((hb.cell (p := ⟨w2.heap.size, 0, none⟩) (blk_lt q3.out)).trans (cell_blk q3.out 0)).trans rfl
  have qd1 : w4.cell? ⟨w2.heap.size, 1, none⟩ = some (.slice (some ⟨kc.cg, kc.co, none⟩) 1 kc.cc) := ((hb.cell (p := ⟨w2.heap.size, 1, none⟩) (blk_lt q3.out)).trans (cell_blk q3.out 1)).trans rfl
  have qd2 : w4.cell? ⟨w2.heap.size, 2, none⟩ = some (.int .i64 1) := ((hb.cell (p := ⟨w2.heap.size, 2, none⟩) (blk_lt q3.out)).trans (cell_blk q3.out 2)).trans rfl
  have qd3 : w4.cell? ⟨w2.heap.size, 3, none⟩ = some (.slice kc.a0 1 kc.c0) := ((hb.cell (p := ⟨w2.heap.size, 3, none⟩) (blk_lt q3.out)).trans (cell_blk q3.out 3)).trans rfl
  have qd4 : w4.cell? ⟨w2.heap.size, 4, none⟩ = some (.int .i64 1) := ((hb.cell (p := ⟨w2.heap.size, 4, none⟩) (blk_lt q3.out)).trans (cell_blk q3.out 4)).trans rfl
  have qd5 : w4.cell? ⟨w2.heap.size, 5, none⟩ = some (.slice kc.a1 1 kc.c1) := ((hb.cell (p := ⟨w2.heap.size, 5, none⟩) (blk_lt q3.out)).trans (cell_blk q3.out 5)).trans rfl
  have qe : w2.heap.size < w4.heap.size := Nat.lt_of_lt_of_le (blk_lt q3.out) hb.size
  have lB := blk_lt hM.out.head
  have lD := blk_lt hM.out.words
  have HM := Kp.mk hM.out
  have HB4 := Kp.mk hb
  clear hM hb qc0 qc1 qc2 qc3 qc4 qc5 ql
  go_wp2_with fail
  have HP : Kp (PlayAt w3 (w4.alloc (.cells #[.slice kc.pa 2 kc.pc, .slice (some ⟨kc.cg, kc.co, none⟩) 1 kc.cc, .int .i64 1, .slice kc.a0 1 kc.c0, .int .i64 1, .slice kc.a1 1 kc.c1, .pointer (some ⟨B, 0, none⟩), .pointer none, .pointer none, .int .u32 0, .int .u32 0, .int .u32 0, .int .u32 0, .int .u32 0, .int .u32 0, .int .i64 0, .int .i64 0] 43)) w4.heap.size B D 0 0 0 0 0 none 0 kc (plc4 wd 1048576) (sg0 nn)) := ⟨⟨blk_new _ _, Duo.new (HM.out.al _) ⟨hB, hD⟩ (by simp only [List.mem_singleton]; omega) (show 7 ≤ 7 by decide) (show 6 ≤ 6 by decide), below_al HB4.out _, HB4.out.size⟩⟩
  have HG : Kp (Good (plc4 wd 1048576) (sg0 nn) (fun _ _ => 0)) := ⟨good0 _ _ (plc4_good wd 1048576 nn hwd HNN.out)⟩
  have HCF : Kp (CfOk w3 kc wd 1048576) := ⟨cfOk_kc C3.out hwd (by omega)⟩
  have HROW : Kp (RowAt w3 1 (.slice a1 L c1) L (bs.map Value.bool)) := ⟨HR.out.below HB3.out⟩
  obtain ⟨P, hP⟩ : ∃ P, w4.heap.size = P := ⟨_, rfl⟩
  generalize w4.alloc (.cells #[.slice kc.pa 2 kc.pc, .slice (some ⟨kc.cg, kc.co, none⟩) 1 kc.cc, .int .i64 1, .slice kc.a0 1 kc.c0, .int .i64 1, .slice kc.a1 1 kc.c1, .pointer (some ⟨B, 0, none⟩), .pointer none, .pointer none, .int .u32 0, .int .u32 0, .int .u32 0, .int .u32 0, .int .u32 0, .int .u32 0, .int .i64 0, .int .i64 0] 43) = w5 at HP ⊢
  rw [hP] at HP ⊢
  have l5 := HP.out.low.size
  go_wp2_with fail
  go_loopw [45] (fun i wr => ∃ (k W g dc R bs : Nat) (da : Option Addr) (dr : Nat) (s : Sg) (c : Int → Int → Nat), k ≤ L ∧ i = .int .i64 k ∧ Kp (PlayAt w3 wr P B D W g dc R bs da dr kc (plc4 wd 1048576) s) ∧ Kp (Good (plc4 wd 1048576) s c) ∧ Kp (s.n ≤ k)) (fun i wr => L - (intOf i).toNat)
  case atStart => exact ⟨0, 0, 0, 0, 0, 0, none, 0, _, _, Nat.zero_le _, rfl, HP, HG, ⟨Nat.zero_le _⟩⟩
  case round =>
    obtain ⟨k, W, g, dc, R, bs', da, dr, s, c, hk, rfl, HP1, HG1, HN1⟩ := hrel
    clear HP HG
    by_cases hlt : k < L
    · obtain ⟨gb, ob, hab, hgb, hcb⟩ := HROW.out.at (by omega)
      subst hab
      have lwr := HP1.out.low.size
      have ck : wr.cell? ⟨gb, ob + k, none⟩ = some (.bool (bs.getD k false)) := (HP1.out.low.cell (p := ⟨gb, ob + k, none⟩) hgb).trans ((hcb k (by omega)).trans (by have := HLL.out; rw [List.getElem?_map, List.getElem?_eq_getElem (by omega), List.getD_eq_getElem?_getD, List.getElem?_eq_getElem (by omega)]; rfl))
      have lgb : gb < wr.heap.size := by omega
      have hn : s.n + 1 < 4294967296 := by have := HN1.out; omega
      have hz : (0 : Int) ≤ (k : Int) := by omega
      have HCW := Kp.mk (play_write HCF.out rfl HG1.out hn (k : Int) wr HP1.out)
      have HCR := Kp.mk (play_read HCF.out rfl HG1.out (by omega) (k : Int) (by omega) wr HP1.out)
      clear hcb hn
      cases hb : bs.getD k false with
      | true =>
        rw [hb] at ck
        go_wp2_with fail
        refine HCW.out.mono ?_
        rintro e w6 ⟨rfl, W', g', dc', s', c', hp', hg', hn', -⟩
        have HP2 := Kp.mk hp'
        have HG2 := Kp.mk hg'
        have HN2 : Kp (s'.n ≤ k + 1) := ⟨Nat.le_trans hn' (Nat.succ_le_succ HN1.out)⟩
        clear hp' hg' hn' HP1 HG1 HN1 HCW HCR ck lgb hb
        go_wp2
        go_roundw
        case rel => exact ⟨k + 1, W', g', dc', R, bs', da, dr, s', c', by omega, by go_num, HP2, HG2, HN2⟩
        case measure => simp [intOf]; omega
      | false =>
        rw [hb] at ck
        go_wp2_with fail
        refine HCR.out.mono ?_
        rintro e w6 ⟨rfl, R', bs2, da', dr', s', hp', hg', hn', -⟩
        have HP2 := Kp.mk hp'
        have HG2 := Kp.mk hg'
        have HN2 : Kp (s'.n ≤ k + 1) := ⟨by have := HN1.out; omega⟩
        clear hp' hg' hn' HP1 HG1 HN1 HCW HCR ck lgb hb
        go_wp2
        go_roundw
        case rel => exact ⟨k + 1, W, g, dc, R', bs2, da', dr', s', c, by omega, by go_num, HP2, HG2, HN2⟩
        case measure => simp [intOf]; omega
    · obtain rfl : k = L := by omega
      have HNc : Kp (s.n ≤ 300) := ⟨by have := HN1.out; omega⟩
      have lQ3 := blk_lt q3.out
      clear HN1 hk
      go_wp2_with fail
      go_loopw [58] (fun i wr => ∃ (k W g dc R bs : Nat) (da : Option Addr) (dr : Nat) (s : Sg) (c : Int → Int → Nat), k ≤ 30 ∧ i = .int .i64 k ∧ Kp (PlayAt w3 wr P B D W g dc R bs da dr kc (plc4 wd 1048576) s) ∧ Kp (Good (plc4 wd 1048576) s c) ∧ Kp (s.n ≤ 300) ∧ Kp (s.r.pc ≤ 5 → k ≤ s.own)) (fun i wr => 40 - (intOf i).toNat)
      case atStart => exact ⟨0, W, g, dc, R, bs', da, dr, s, c, Nat.zero_le _, rfl, HP1, HG1, HNc, ⟨fun _ => Nat.zero_le _⟩⟩
      case round =>
        clear HP1 HG1 HNc s c W g dc R bs' da dr
        obtain ⟨k, W, g, dc, R, bs', da, dr, s, c, hk, rfl, HP1, HG1, HN1, HO1⟩ := hrel
        have HCR := Kp.mk (play_read HCF.out rfl HG1.out (by have := HN1.out; omega) 300 (by omega) wr HP1.out)
        have hblk := HP1.out.blk
        have hlt : k < 40 := by omega
        by_cases hr5 : s.r.pc ≤ 5
        · rw [if_pos hr5] at hblk
          have hlP := blk_lt hblk
          have c8 : wr.cell? ⟨P, 8, none⟩ = some (.pointer (some ⟨R, 0, none⟩)) := (cell_blk hblk 8).trans rfl
          have hk30 : k + 1 ≤ 30 := by
            have h1 := HO1.out hr5
            have h2 := HG1.out.j.own hr5
            have h3 := (HG1.out.r hr5).lw
            have h3' : (s.r.left : Int) ≤ wd := h3
            rcases (by omega : s.r.pc ≤ 4 ∨ s.r.pc = 5) with h4 | h4
            · rw [(HG1.out.r hr5).d4 h4] at h2
              simp at h2
              omega
            · have h5 := (HG1.out.r hr5).i5 h4
              omega
          have HO2 := Kp.mk (HO1.out hr5)
          clear hblk HO1
          go_wp2_with fail
          refine HCR.out.mono ?_
          rintro e w6 ⟨rfl, R', bs2, da', dr', s', hp', hg', hn', hs'⟩
          have HP2 := Kp.mk hp'
          have HG2 := Kp.mk hg'
          have HN2 : Kp (s'.n ≤ 300) := ⟨by have := HN1.out; omega⟩
          have HO3 : Kp (s'.r.pc ≤ 5 → k + 1 ≤ s'.own) := ⟨fun _ => by
            rw [hs', stepRR, if_pos hr5]
            show k + 1 ≤ s.own + 1
            have := HO2.out
            omega⟩
          clear hp' hg' hn' hs' HP1 HG1 HN1 HCR c8 hlP
          go_wp2
          go_roundw
          case rel => exact ⟨k + 1, W, g, dc, R', bs2, da', dr', s', c, hk30, by go_num, HP2, HG2, HN2, HO3⟩
          case measure => simp [intOf]; omega
        · rw [if_neg hr5] at hblk
          have hk40 : decide ((k : Int) < 40) = true := decide_eq_true (by omega)
          have hlP := blk_lt hblk
          have c8 : wr.cell? ⟨P, 8, none⟩ = some (.pointer none) := (cell_blk hblk 8).trans rfl
          clear hblk HCR HO1
          obtain ⟨m, hm⟩ : ∃ m, s.ws = m := ⟨_, rfl⟩
          obtain ⟨fc, hfc⟩ : ∃ fc, codeA (plc4 wd 1048576) m = fc := ⟨_, rfl⟩
          obtain ⟨fl, hfl⟩ : ∃ fl, wordsA (plc4 wd 1048576) m = fl := ⟨_, rfl⟩
          obtain ⟨fv, hfv⟩ : ∃ fv, decide (fc = 0) = fv := ⟨_, rfl⟩
          have HM0 : Kp (MemAt wr B D m) := ⟨hm ▸ HP1.out.duo.mem⟩
          have HK0 : Kp ((plc4 wd 1048576).ok m.length ∧ Words m ∧ codeA (plc4 wd 1048576) m = fc ∧ wordsA (plc4 wd 1048576) m = fl) := ⟨hm ▸ HG1.out.j.ok, hm ▸ HG1.out.ws, hfc, hfl⟩
          have HB0 : Kp (Below w3.heap.size w3 wr) := ⟨HP1.out.low⟩
          have HMB := Kp.mk HP1.out.duo.mb
          have HFV := Kp.mk hfv
          have lW3 := HB0.out.size
          have lB := blk_lt HM0.out.head
          have lD := blk_lt HM0.out.words
          clear HP1 HG1 HN1 hfc hfl hfv hm hk
          go_wp2_with fail
          try clear hlt
          have HBa : Kp (Below w3.heap.size w3 (wr.alloc (.cells #[.int .i64 0, .slice none 0 0, .bool false, .int .i64 0] 51))) := ⟨below_al HB0.out _⟩
          have HMa : Kp (MemAt (wr.alloc (.cells #[.int .i64 0, .slice none 0 0, .bool false, .int .i64 0] 51)) B D m) := ⟨HM0.out.al _⟩
          have HFa : Kp ((wr.alloc (.cells #[.int .i64 0, .slice none 0 0, .bool false, .int .i64 0] 51)).heap[wr.heap.size]? = some (.cells #[.int .i64 0, .slice none 0 0, .bool false, .int .i64 0] 51 (0, 0))) := ⟨blk_new _ _⟩
          clear HM0 HB0
          generalize wr.alloc (.cells #[.int .i64 0, .slice none 0 0, .bool false, .int .i64 0] 51) = wa at HBa HMa HFa ⊢
          obtain ⟨FB, hFB⟩ : ∃ FB, wr.heap.size = FB := ⟨_, rfl⟩
          rw [hFB] at HFa lW3 lB lD ⊢
          clear hFB
          have hFD : B ≠ FB ∧ D ≠ FB := by omega
          go_wp2_with fail
          go_loopw [68] (fun i wr => ∃ (k : Nat) (m : List Int) (c0 : Int) (fa : Option Addr) (l0 : List Int) (fk : Nat) (v0 : Bool), k ≤ 3 ∧ i = .int .i64 k ∧ Kp (Below w3.heap.size w3 wr) ∧ Kp (MemAt wr B D m) ∧ Kp ((plc4 wd 1048576).ok m.length ∧ Words m ∧ codeA (plc4 wd 1048576) m = fc ∧ wordsA (plc4 wd 1048576) m = fl) ∧ Kp (wr.heap[FB]? = some (.cells #[.int .i64 c0, .slice fa l0.length fk, .bool v0, .int .i64 0] 51 (0, 0))) ∧ Kp (RowAt wr 1 (.slice fa l0.length fk) l0.length (u32s l0)) ∧ Kp (∀ x, fa = some x → x.block ≠ D ∧ x.block ≠ FB ∧ x.block < wr.heap.size) ∧ Kp (0 < k → c0 = fc ∧ l0 = fl ∧ v0 = fv)) (fun i wr => 3 - (intOf i).toNat)
          case atStart => exact ⟨0, m, 0, none, [], 0, false, Nat.zero_le _, rfl, HBa, HMa, HK0, HFa, ⟨nil_row _⟩, ⟨fun x hx => by cases hx⟩, ⟨fun e => absurd e (by omega)⟩⟩
          case round =>
            clear HBa HMa HK0 HFa m
            obtain ⟨k, m, c0, fa, l0, fk, v0, hk, rfl, HBK, HMK, HKK, HFK, HFR, HFX, HFE⟩ := hrel
            by_cases hlt : k < 3
            · obtain ⟨nw, hnw⟩ : ∃ nw, 300 + (k : Int) * tk = nw := ⟨_, rfl⟩
              have hkt : 0 ≤ (k : Int) * tk ∧ (k : Int) * tk ≤ 510 := by
                rcases (by omega : k = 0 ∨ k = 1 ∨ k = 2) with rfl | rfl | rfl <;> simp <;> omega
              have hnb : 0 ≤ nw ∧ nw ≤ 1048576 := by omega
              have u2 : (k : Int) * tk = nw - 300 := by omega
              have u3 : IntKind.i64.wrap (nw - 300) = nw - 300 := IntWalk.i64_in _ (by omega)
              have u4 : 300 + (nw - 300) = nw := by omega
              have u5 : IntKind.i64.wrap nw = nw := IntWalk.i64_in _ (by omega)
              obtain ⟨hok, hws, hcA, hwA⟩ := HKK.out
              have hvA : validA (plc4 wd 1048576) m nw = fv := by rw [validA_of (plc4 wd 1048576) m hws nw hnb.2, hcA]; exact HFV.out
              have hlow := plc4_low wd 1048576 hwd
              have hin : (plc4 wd 1048576).In m.length := by have h1 := hok.len; have h2 := hok.rd; exact ⟨h1, by omega⟩
              obtain ⟨N, hN, hA1, hA2, hA3⟩ := alone_any (plc4 wd 1048576) m hok hws (show wd ≤ 16 by omega) nw
              rw [hcA, hwA, hvA] at hA2
              have HA1 := Kp.mk hA1
              have HA2 := Kp.mk hA2
              have HA3 := Kp.mk hA3
              have HRO := Kp.mk (rIt_ok (plc4 wd 1048576) hwd.1 (m, rdr0) hws (rdr0_ok _ hwd.1))
              have HNX : Kp ((plc4 wd 1048576).ok (ws1A (plc4 wd 1048576) m).length ∧ Words (ws1A (plc4 wd 1048576) m) ∧ codeA (plc4 wd 1048576) (ws1A (plc4 wd 1048576) m) = fc ∧ wordsA (plc4 wd 1048576) (ws1A (plc4 wd 1048576) m) = fl) := by
                obtain ⟨z1, z2, _⟩ := ws1_found (plc4 wd 1048576) m hok hws
                exact ⟨⟨ws1_ok hok, ws1_words hws, z1.trans hcA, z2.trans hwA⟩⟩
              clear hok hws hcA hwA hvA hA1 hA2 hA3 hkt HKK hnw
              have qd0 : wr.cell? ⟨w2.heap.size, 0, none⟩ = some (.slice kc.pa 2 kc.pc) := ((HBK.out.cell (p := ⟨w2.heap.size, 0, none⟩) lQ3).trans (cell_blk q3.out 0)).trans rfl
              have qd1 : wr.cell? ⟨w2.heap.size, 1, none⟩ = some (.slice (some ⟨kc.cg, kc.co, none⟩) 1 kc.cc) := ((HBK.out.cell (p := ⟨w2.heap.size, 1, none⟩) lQ3).trans (cell_blk q3.out 1)).trans rfl
              have qd2 : wr.cell? ⟨w2.heap.size, 2, none⟩ = some (.int .i64 1) := ((HBK.out.cell (p := ⟨w2.heap.size, 2, none⟩) lQ3).trans (cell_blk q3.out 2)).trans rfl
              have qd3 : wr.cell? ⟨w2.heap.size, 3, none⟩ = some (.slice kc.a0 1 kc.c0) := ((HBK.out.cell (p := ⟨w2.heap.size, 3, none⟩) lQ3).trans (cell_blk q3.out 3)).trans rfl
              have qd4 : wr.cell? ⟨w2.heap.size, 4, none⟩ = some (.int .i64 1) := ((HBK.out.cell (p := ⟨w2.heap.size, 4, none⟩) lQ3).trans (cell_blk q3.out 4)).trans rfl
              have qd5 : wr.cell? ⟨w2.heap.size, 5, none⟩ = some (.slice kc.a1 1 kc.c1) := ((HBK.out.cell (p := ⟨w2.heap.size, 5, none⟩) lQ3).trans (cell_blk q3.out 5)).trans rfl
              have qe : w2.heap.size < wr.heap.size := Nat.lt_of_lt_of_le lQ3 HBK.out.size
              go_wp2_with fail
              refine (newR_two (.agg #[.slice kc.pa 2 kc.pc, .slice (some ⟨kc.cg, kc.co, none⟩) 1 kc.cc, .int .i64 1, .slice kc.a0 1 kc.c0, .int .i64 1, .slice kc.a1 1 kc.c1]) wd 1048576 hwd (by omega) wr (C3.out.below HBK.out)).mono ?_
              rintro e w10 ⟨R, rfl, hR, hb, hRl⟩
              have HB10 : Kp (Below w3.heap.size w3 w10) := ⟨HBK.out.trans (hb.mono HBK.out.size)⟩
              have HM10 := Kp.mk (HMK.out.below hb)
              have HF10 := Kp.mk (blk_below HFK.out hb)
              have HFR10 := Kp.mk (HFR.out.below hb)
              have lwr := hb.size
              have lFB := blk_lt HFK.out
              have lDw := blk_lt HMK.out.words
              have lBw := blk_lt HMK.out.head
              have lR := blk_lt hR.out.blk
              have lwr3 := HBK.out.size
              clear hb HBK HMK HFK HFR qd0 qd1 qd2 qd3 qd4 qd5 qe
              go_wp2_with fail
              obtain ⟨T, hT⟩ : ∃ T, w10.heap.size = T := ⟨_, rfl⟩
              have HBb : Kp (Below w3.heap.size w3 (w10.alloc (.cells #[.bool false, .int .i64 0, .slice none 0 0, .bool false, .int .i64 0, .bool false, .bool false, .bool false, .int .i64 0] 53))) := ⟨below_al HB10.out _⟩
              have HMb : Kp (MemAt (w10.alloc (.cells #[.bool false, .int .i64 0, .slice none 0 0, .bool false, .int .i64 0, .bool false, .bool false, .bool false, .int .i64 0] 53)) B D m) := ⟨HM10.out.al _⟩
              have HRb : Kp (RdAt (w10.alloc (.cells #[.bool false, .int .i64 0, .slice none 0 0, .bool false, .int .i64 0, .bool false, .bool false, .bool false, .int .i64 0] 53)) R (R + 1) (plc4 wd 1048576) rdr0 none 0) := ⟨hR.out.below (below_al (Below.refl _ _) _)⟩
              have HTb : Kp ((w10.alloc (.cells #[.bool false, .int .i64 0, .slice none 0 0, .bool false, .int .i64 0, .bool false, .bool false, .bool false, .int .i64 0] 53)).heap[T]? = some (.cells #[.bool (({} : DidV)).done, .int .i64 (({} : DidV)).code, .slice none 0 0, .bool (({} : DidV)).valid, .int .i64 (({} : DidV)).count, .bool (({} : DidV)).mark, .bool (({} : DidV)).ring, .bool (({} : DidV)).stamped, .int .i64 (({} : DidV)).buffer] 53 (0, 0))) := ⟨hT ▸ blk_new _ _⟩
              have HFb : Kp ((w10.alloc (.cells #[.bool false, .int .i64 0, .slice none 0 0, .bool false, .int .i64 0, .bool false, .bool false, .bool false, .int .i64 0] 53)).heap[FB]? = some (.cells #[.int .i64 c0, .slice fa l0.length fk, .bool v0, .int .i64 0] 51 (0, 0))) := ⟨blk_al HF10.out _⟩
              have HFRb : Kp (RowAt (w10.alloc (.cells #[.bool false, .int .i64 0, .slice none 0 0, .bool false, .int .i64 0, .bool false, .bool false, .bool false, .int .i64 0] 53)) 1 (.slice fa l0.length fk) l0.length (u32s l0)) := ⟨HFR10.out.below (below_al (Below.refl _ _) _)⟩
              have hTT : R < T ∧ FB < T ∧ D < T ∧ B < T ∧ FB < R ∧ D < R ∧ B < R ∧ wr.heap.size ≤ T := by omega
              have hT3 : w3.heap.size ≤ T := by omega
              have HFX2 : Kp (∀ x, fa = some x → x.block ≠ D ∧ x.block ≠ FB ∧ x.block ≠ T ∧ x.block ≠ R) := ⟨fun x hx => by have := HFX.out x hx; exact ⟨this.1, this.2.1, by omega, by omega⟩⟩
              have HFXL : Kp (∀ x, fa = some x → x.block < (w10.alloc (.cells #[.bool false, .int .i64 0, .slice none 0 0, .bool false, .int .i64 0, .bool false, .bool false, .bool false, .int .i64 0] 53)).heap.size) := ⟨fun x hx => by have := HFX.out x hx; simp; omega⟩
              clear HB10 HM10 HF10 HFR10 HFX hR
              generalize w10.alloc (.cells #[.bool false, .int .i64 0, .slice none 0 0, .bool false, .int .i64 0, .bool false, .bool false, .bool false, .int .i64 0] 53) = wb at HBb HMb HRb HTb HFb HFRb HFXL ⊢
              rw [hT] at ⊢
              clear hT
              go_wp2_with fail
              go_loopw [73] (fun i wr => ∃ (j : Nat) (da : Option Addr) (dr : Nat) (d : DidV) (a : Option Addr) (kk : Nat), j ≤ N ∧ i = .int .i64 j ∧ Kp (Below w3.heap.size w3 wr) ∧ Kp (MemAt wr B D (rIt (plc4 wd 1048576) j (m, rdr0)).1) ∧ Kp (RdAt wr R (R + 1) (plc4 wd 1048576) (rIt (plc4 wd 1048576) j (m, rdr0)).2 da dr) ∧
                  Kp (∀ q, (Value.slice da (rIt (plc4 wd 1048576) j (m, rdr0)).2.data.length dr).ownBlock = some q → q ≠ D ∧ q ≠ T ∧ q ≠ FB ∧ ∀ x, fa = some x → x.block ≠ q) ∧ Kp (wr.heap[T]? = some (.cells #[.bool d.done, .int .i64 d.code, .slice a d.data.length kk, .bool d.valid, .int .i64 d.count, .bool d.mark, .bool d.ring, .bool d.stamped, .int .i64 d.buffer] 53 (0, 0))) ∧ Kp (wr.heap[FB]? = some (.cells #[.int .i64 c0, .slice fa l0.length fk, .bool v0, .int .i64 0] 51 (0, 0))) ∧ Kp (RowAt wr 1 (.slice fa l0.length fk) l0.length (u32s l0)) ∧ Kp (∀ x, fa = some x → x.block < wr.heap.size)) (fun i wr => 40 - (intOf i).toNat)
              case atStart => exact ⟨0, none, 0, {}, none, 0, Nat.zero_le _, rfl, HBb, HMb, HRb, ⟨fun q hq => by cases hq⟩, HTb, HFb, HFRb, HFXL⟩
              case round =>
                obtain ⟨j, da, dr, d, a, kk, hj, rfl, HB, HM, HR1, HQ, HT, HF, HFr, HLX⟩ := hrel
                clear HBb HMb HRb HTb HFb HFRb HFXL
                obtain ⟨e1, e2⟩ := HA1.out j hj
                have hj40 : (j : Int) < 40 := by omega
                have hj40b : j < 40 := by omega
                by_cases hjN : j = N
                · obtain rfl := hjN
                  obtain ⟨bf, hbf⟩ := HA2.out
                  have hws0 := (HRO.out j)
                  have HSt := rstep_any (plc4 wd 1048576) hlow R (R + 1) B D (rIt (plc4 wd 1048576) j (m, rdr0)).1 nw (by rw [hws0.2.2]; exact hin) hws0.1 (rIt (plc4 wd 1048576) j (m, rdr0)).2 hws0.2.1.hx hws0.2.1.hy hws0.2.1.lw hws0.2.1.i5 hws0.2.1.st (by omega) (by omega) (by omega) da dr wr HR1.out HM.out (fun q hq => (HQ.out q hq).1)
                  rw [hbf] at HSt
                  simp only [didA] at HSt
                  have HSt2 := Kp.mk HSt
                  have HOW := Kp.mk HR1.out.own
                  have lT := blk_lt HT.out
                  have lFb := blk_lt HF.out
                  have lDb := blk_lt HM.out.words
                  clear HSt hbf hws0 HM HR1 e1
                  go_wp2_with fail
                  refine HSt2.out.mono ?_
                  rintro e w11 ⟨v, rfl, hv, da', dr', h2, h3, h4, hvq, hf⟩
                  obtain ⟨a', kk', rfl, _, _⟩ := hv.shape
                  have hOD := fun q hq => HQ.out q hq
                  have hTn : T ∉ R :: D :: (Value.slice da (rIt (plc4 wd 1048576) j (m, rdr0)).2.data.length dr).ownBlock.toList := by
                    simp only [List.mem_cons, Option.mem_toList, not_or]
                    exact ⟨by omega, by omega, fun hq => (HQ.out _ hq).2.1 rfl⟩
                  have hFn : FB ∉ R :: D :: (Value.slice da (rIt (plc4 wd 1048576) j (m, rdr0)).2.data.length dr).ownBlock.toList := by
                    simp only [List.mem_cons, Option.mem_toList, not_or]
                    exact ⟨by omega, by omega, fun hq => (HQ.out _ hq).2.2.1 rfl⟩
                  have hXn : ∀ x, fa = some x → x.block ∉ R :: D :: (Value.slice da (rIt (plc4 wd 1048576) j (m, rdr0)).2.data.length dr).ownBlock.toList := fun x hx => by
                    simp only [List.mem_cons, Option.mem_toList, not_or]
                    have := HFX2.out x hx
                    exact ⟨this.2.2.2, this.1, fun hq => (HQ.out _ hq).2.2.2 x hx rfl⟩
                  have HQ9 : Kp (∀ q, (Value.slice da' (rIt (plc4 wd 1048576) (j + 1) (m, rdr0)).2.data.length dr').ownBlock = some q → q ≠ D ∧ q ≠ T ∧ q ≠ FB ∧ ∀ x, fa = some x → x.block ≠ q) := ⟨fun q hq => by
                    rcases hf with hf | hf
                    · exact HQ.out q (hf ▸ hq)
                    · have := hf q hq
                      exact ⟨by omega, by omega, by omega, fun x hx => by have := HLX.out x hx; omega⟩⟩
                  have HT9 : Kp (w11.heap[T]? = some (.cells #[.bool d.done, .int .i64 d.code, .slice a d.data.length kk, .bool d.valid, .int .i64 d.count, .bool d.mark, .bool d.ring, .bool d.stamped, .int .i64 d.buffer] 53 (0, 0))) := ⟨h4.blk HT.out hTn⟩
                  have HF9 : Kp (w11.heap[FB]? = some (.cells #[.int .i64 c0, .slice fa l0.length fk, .bool v0, .int .i64 0] 51 (0, 0))) := ⟨h4.blk HF.out hFn⟩
                  have HFr9 : Kp (RowAt w11 1 (.slice fa l0.length fk) l0.length (u32s l0)) := ⟨HFr.out.but h4 hXn⟩
                  have HLX9 : Kp (∀ x, fa = some x → x.block < w11.heap.size) := ⟨fun x hx => Nat.lt_of_lt_of_le (HLX.out x hx) h4.size⟩
                  have HB9 : Kp (Below w3.heap.size w3 w11) := ⟨h4.below HB.out (fun q hq => by
                    simp only [List.mem_cons, Option.mem_toList] at hq
                    rcases hq with e | e | e
                    · omega
                    · have := HMB.out; omega
                    · have := (HOW.out.lt q e).1; omega) HB.out.size⟩
                  have HR9 : Kp (RdAt w11 R (R + 1) (plc4 wd 1048576) (rIt (plc4 wd 1048576) (j + 1) (m, rdr0)).2 da' dr') := ⟨h2⟩
                  have HM9 : Kp (MemAt w11 B D (rIt (plc4 wd 1048576) (j + 1) (m, rdr0)).1) := ⟨h3⟩
                  have HV9 := Kp.mk hv
                  have HVQ : Kp (∀ q, (Value.slice a' fl.length kk').ownBlock = some q → q ≠ D ∧ q ≠ T ∧ q ≠ FB ∧ q < w11.heap.size) := ⟨fun q hq => by have h := hvq q hq; have := HQ9.out q h; exact ⟨this.1, this.2.1, this.2.2.1, own_lt h2.own q h⟩⟩
                  have lT9 := blk_lt HT9.out
                  have lF9 := blk_lt HF9.out
                  have tc0 : w11.cell? ⟨T, 0, none⟩ = some (.bool d.done) := (cell_blk HT9.out 0).trans rfl
                  have tf0 := frozen_blk HT9.out 0
                  have tc1 : w11.cell? ⟨T, 1, none⟩ = some (.int .i64 d.code) := (cell_blk HT9.out 1).trans rfl
                  have tf1 := frozen_blk HT9.out 1
                  have tc2 : w11.cell? ⟨T, 2, none⟩ = some (.slice a d.data.length kk) := (cell_blk HT9.out 2).trans rfl
                  have tf2 := frozen_blk HT9.out 2
                  have tc3 : w11.cell? ⟨T, 3, none⟩ = some (.bool d.valid) := (cell_blk HT9.out 3).trans rfl
                  have tf3 := frozen_blk HT9.out 3
                  have tc4 : w11.cell? ⟨T, 4, none⟩ = some (.int .i64 d.count) := (cell_blk HT9.out 4).trans rfl
                  have tf4 := frozen_blk HT9.out 4
                  have tc5 : w11.cell? ⟨T, 5, none⟩ = some (.bool d.mark) := (cell_blk HT9.out 5).trans rfl
                  have tf5 := frozen_blk HT9.out 5
                  have tc6 : w11.cell? ⟨T, 6, none⟩ = some (.bool d.ring) := (cell_blk HT9.out 6).trans rfl
                  have tf6 := frozen_blk HT9.out 6
                  have tc7 : w11.cell? ⟨T, 7, none⟩ = some (.bool d.stamped) := (cell_blk HT9.out 7).trans rfl
                  have tf7 := frozen_blk HT9.out 7
                  have tc8 : w11.cell? ⟨T, 8, none⟩ = some (.int .i64 d.buffer) := (cell_blk HT9.out 8).trans rfl
                  have tf8 := frozen_blk HT9.out 8
                  clear h2 h3 h4 hv hvq hf HSt2 HT HF HFr HB HOW HQ HLX hTn hFn hXn hOD
                  have fc0 : w11.cell? ⟨FB, 0, none⟩ = some (.int .i64 c0) := (cell_blk HF9.out 0).trans rfl
                  have ff0 := frozen_blk HF9.out 0
                  have fc1 : w11.cell? ⟨FB, 1, none⟩ = some (.slice fa l0.length fk) := (cell_blk HF9.out 1).trans rfl
                  have ff1 := frozen_blk HF9.out 1
                  have fc2 : w11.cell? ⟨FB, 2, none⟩ = some (.bool v0) := (cell_blk HF9.out 2).trans rfl
                  have ff2 := frozen_blk HF9.out 2
                  have fc3 : w11.cell? ⟨FB, 3, none⟩ = some (.int .i64 0) := (cell_blk HF9.out 3).trans rfl
                  have ff3 := frozen_blk HF9.out 3
                  have hm9 := HM9.out
                  rw [HA3.out] at hm9
                  have HM8 := Kp.mk hm9
                  clear hm9 HM9
                  have hsq := (ButS.set (ButS.set (ButS.set (ButS.set (ButS.set (ButS.set (ButS.set (ButS.set (ButS.set (ButS.refl [T] w11) (p := ⟨T, 0, none⟩) (by simp) (.bool true)) (p := ⟨T, 1, none⟩) (by simp) (.int .i64 fc)) (p := ⟨T, 2, none⟩) (by simp) (.slice a' fl.length kk')) (p := ⟨T, 3, none⟩) (by simp) (.bool fv)) (p := ⟨T, 4, none⟩) (by simp) (.int .i64 0)) (p := ⟨T, 5, none⟩) (by simp) (.bool false)) (p := ⟨T, 6, none⟩) (by simp) (.bool false)) (p := ⟨T, 7, none⟩) (by simp) (.bool false)) (p := ⟨T, 8, none⟩) (by simp) (.int .i64 bf))
                  have HSQ := Kp.mk hsq
                  clear hsq
                  have hF3 : w3.heap.size ≤ FB := by omega
                  by_cases hk0 : k = 0
                  · have hk0z : (k : Int) = 0 := by omega
                    go_wp2_with fail
                    refine (sameAns_any fc fc a' a' kk' kk' fl fl fv fv 0 0 true (decide_eq_true ⟨rfl, rfl, rfl, rfl⟩) _ ((HV9.out.but HSQ.out (fun x hx => by simp only [List.mem_cons, List.not_mem_nil, or_false]; exact (HVQ.out x.block (by subst hx; rfl)).2.1)).but (ButS.set (ButS.set (ButS.set (ButS.set (ButS.refl [FB] _) (p := ⟨FB, 0, none⟩) (by simp) (.int .i64 fc)) (p := ⟨FB, 1, none⟩) (by simp) (.slice a' fl.length kk')) (p := ⟨FB, 2, none⟩) (by simp) (.bool fv)) (p := ⟨FB, 3, none⟩) (by simp) (.int .i64 0)) (fun x hx => by simp only [List.mem_cons, List.not_mem_nil, or_false]; exact (HVQ.out x.block (by subst hx; rfl)).2.2.1)) ((HV9.out.but HSQ.out (fun x hx => by simp only [List.mem_cons, List.not_mem_nil, or_false]; exact (HVQ.out x.block (by subst hx; rfl)).2.1)).but (ButS.set (ButS.set (ButS.set (ButS.set (ButS.refl [FB] _) (p := ⟨FB, 0, none⟩) (by simp) (.int .i64 fc)) (p := ⟨FB, 1, none⟩) (by simp) (.slice a' fl.length kk')) (p := ⟨FB, 2, none⟩) (by simp) (.bool fv)) (p := ⟨FB, 3, none⟩) (by simp) (.int .i64 0)) (fun x hx => by simp only [List.mem_cons, List.not_mem_nil, or_false]; exact (HVQ.out x.block (by subst hx; rfl)).2.2.1))).mono ?_
                    rintro e w12 ⟨rfl, hb⟩
                    have HB12 : Kp (Below w3.heap.size w3 w12) := ⟨below_call (((((((((((((HB9.out.setCell (p := ⟨T, 0, none⟩) hT3 _).setCell (p := ⟨T, 1, none⟩) hT3 _).setCell (p := ⟨T, 2, none⟩) hT3 _).setCell (p := ⟨T, 3, none⟩) hT3 _).setCell (p := ⟨T, 4, none⟩) hT3 _).setCell (p := ⟨T, 5, none⟩) hT3 _).setCell (p := ⟨T, 6, none⟩) hT3 _).setCell (p := ⟨T, 7, none⟩) hT3 _).setCell (p := ⟨T, 8, none⟩) hT3 _).setCell (p := ⟨FB, 0, none⟩) hF3 _).setCell (p := ⟨FB, 1, none⟩) hF3 _).setCell (p := ⟨FB, 2, none⟩) hF3 _).setCell (p := ⟨FB, 3, none⟩) hF3 _) hb⟩
                    have HM12 : Kp (MemAt w12 B D (ws1A (plc4 wd 1048576) m)) := ⟨((HM8.out.but HSQ.out (by simp; omega) (by simp; omega)).but (ButS.set (ButS.set (ButS.set (ButS.set (ButS.refl [FB] _) (p := ⟨FB, 0, none⟩) (by simp) (.int .i64 fc)) (p := ⟨FB, 1, none⟩) (by simp) (.slice a' fl.length kk')) (p := ⟨FB, 2, none⟩) (by simp) (.bool fv)) (p := ⟨FB, 3, none⟩) (by simp) (.int .i64 0)) (by simp; omega) (by simp; omega)).below hb⟩
                    have HF12 : Kp (w12.heap[FB]? = some (.cells #[.int .i64 fc, .slice a' fl.length kk', .bool fv, .int .i64 0] 51 (0, 0))) := ⟨blk_below (((blk_set (blk_set (blk_set (blk_set (HSQ.out.blk HF9.out (by simp; omega)) 0 _) 1 _) 2 _) 3 _).trans (by simp only [ls0, ls1, ls2]))) hb⟩
                    have HFr12 : Kp (RowAt w12 1 (.slice a' fl.length kk') fl.length (u32s fl)) := ⟨((HV9.out.but HSQ.out (fun x hx => by simp only [List.mem_cons, List.not_mem_nil, or_false]; exact (HVQ.out x.block (by subst hx; rfl)).2.1)).but (ButS.set (ButS.set (ButS.set (ButS.set (ButS.refl [FB] _) (p := ⟨FB, 0, none⟩) (by simp) (.int .i64 fc)) (p := ⟨FB, 1, none⟩) (by simp) (.slice a' fl.length kk')) (p := ⟨FB, 2, none⟩) (by simp) (.bool fv)) (p := ⟨FB, 3, none⟩) (by simp) (.int .i64 0)) (fun x hx => by simp only [List.mem_cons, List.not_mem_nil, or_false]; exact (HVQ.out x.block (by subst hx; rfl)).2.2.1)).below hb⟩
                    have HLX12 : Kp (∀ x, a' = some x → x.block ≠ D ∧ x.block ≠ FB ∧ x.block < w12.heap.size) := ⟨fun x hx => by have := HVQ.out x.block (by subst hx; rfl); exact ⟨this.1, this.2.2.1, Nat.lt_of_lt_of_le this.2.2.2 (Nat.le_trans (by simp [World.setCell]) hb.size)⟩⟩
                    clear hb HSQ HB9 HM8 HF9 HFr9 HLX9 HVQ HV9 HT9 HQ9 HR9 lT9 lF9 tc0 tf0 tc1 tf1 tc2 tf2 tc3 tf3 tc4 tf4 tc5 tf5 tc6 tf6 tc7 tf7 tc8 tf8 fc0 ff0 fc1 ff1 fc2 ff2 fc3 ff3
                    go_wp2
                    go_roundw
                    case rel => exact ⟨1, ws1A (plc4 wd 1048576) m, fc, a', fl, kk', fv, by omega, rfl, HB12, HM12, HNX, HF12, HFr12, HLX12, ⟨fun _ => ⟨rfl, rfl, rfl⟩⟩⟩
                    case measure => simp [intOf]; omega
                  · have hk0z : ¬ (k : Int) = 0 := by omega
                    obtain ⟨h1, h2, h3⟩ := HFE.out (by omega)
                    replace h1 := h1.symm
                    replace h2 := h2.symm
                    replace h3 := h3.symm
                    subst h1 h2 h3
                    go_wp2_with fail
                    refine (sameAns_any fc fc a' fa kk' fk fl fl fv fv 0 0 true (decide_eq_true ⟨rfl, rfl, rfl, rfl⟩) _ (HV9.out.but HSQ.out (fun x hx => by simp only [List.mem_cons, List.not_mem_nil, or_false]; exact (HVQ.out x.block (by subst hx; rfl)).2.1)) (HFr9.out.but HSQ.out (fun x hx => by simp only [List.mem_cons, List.not_mem_nil, or_false]; exact (HFX2.out x hx).2.2.1))).mono ?_
                    rintro e w12 ⟨rfl, hb⟩
                    have HB12 : Kp (Below w3.heap.size w3 w12) := ⟨below_call (((((((((HB9.out.setCell (p := ⟨T, 0, none⟩) hT3 _).setCell (p := ⟨T, 1, none⟩) hT3 _).setCell (p := ⟨T, 2, none⟩) hT3 _).setCell (p := ⟨T, 3, none⟩) hT3 _).setCell (p := ⟨T, 4, none⟩) hT3 _).setCell (p := ⟨T, 5, none⟩) hT3 _).setCell (p := ⟨T, 6, none⟩) hT3 _).setCell (p := ⟨T, 7, none⟩) hT3 _).setCell (p := ⟨T, 8, none⟩) hT3 _) hb⟩
                    have HM12 : Kp (MemAt w12 B D (ws1A (plc4 wd 1048576) m)) := ⟨(HM8.out.but HSQ.out (by simp; omega) (by simp; omega)).below hb⟩
                    have HF12 : Kp (w12.heap[FB]? = some (.cells #[.int .i64 fc, .slice fa fl.length fk, .bool fv, .int .i64 0] 51 (0, 0))) := ⟨blk_below ((HSQ.out.blk HF9.out (by simp; omega))) hb⟩
                    have HFr12 : Kp (RowAt w12 1 (.slice fa fl.length fk) fl.length (u32s fl)) := ⟨(HFr9.out.but HSQ.out (fun x hx => by simp only [List.mem_cons, List.not_mem_nil, or_false]; exact (HFX2.out x hx).2.2.1)).below hb⟩
                    have HLX12 : Kp (∀ x, fa = some x → x.block ≠ D ∧ x.block ≠ FB ∧ x.block < w12.heap.size) := ⟨fun x hx => ⟨(HFX2.out x hx).1, (HFX2.out x hx).2.1, Nat.lt_of_lt_of_le (HLX9.out x hx) (Nat.le_trans (by simp [World.setCell]) hb.size)⟩⟩
                    clear hb HSQ HB9 HM8 HF9 HFr9 HLX9 HVQ HV9 HT9 HQ9 HR9 lT9 lF9 tc0 tf0 tc1 tf1 tc2 tf2 tc3 tf3 tc4 tf4 tc5 tf5 tc6 tf6 tc7 tf7 tc8 tf8 fc0 ff0 fc1 ff1 fc2 ff2 fc3 ff3
                    go_wp2
                    go_roundw
                    case rel => exact ⟨k + 1, ws1A (plc4 wd 1048576) m, fc, fa, fl, fk, fv, by omega, by go_num, HB12, HM12, HNX, HF12, HFr12, HLX12, ⟨fun _ => ⟨rfl, rfl, rfl⟩⟩⟩
                    case measure => simp [intOf]; omega
                · rw [decide_eq_false hjN] at e2
                  obtain ⟨d2, hd2⟩ : ∃ d2, rDid (plc4 wd 1048576) (rIt (plc4 wd 1048576) j (m, rdr0)).1 nw (rIt (plc4 wd 1048576) j (m, rdr0)).2 = d2 := ⟨_, rfl⟩
                  have hws0 := (HRO.out j)
                  have HSt := rstep_any (plc4 wd 1048576) hlow R (R + 1) B D (rIt (plc4 wd 1048576) j (m, rdr0)).1 nw (by rw [hws0.2.2]; exact hin) hws0.1 (rIt (plc4 wd 1048576) j (m, rdr0)).2 hws0.2.1.hx hws0.2.1.hy hws0.2.1.lw hws0.2.1.i5 hws0.2.1.st (by omega) (by omega) (by omega) da dr wr HR1.out HM.out (fun q hq => (HQ.out q hq).1)
                  rw [hd2] at HSt e2
                  simp only [didA] at HSt
                  have HSt2 := Kp.mk HSt
                  have HOW := Kp.mk HR1.out.own
                  have lT := blk_lt HT.out
                  have lFb := blk_lt HF.out
                  have lDb := blk_lt HM.out.words
                  clear HSt hd2 hws0 HM HR1 e1
                  go_wp2_with fail
                  refine HSt2.out.mono ?_
                  rintro e w11 ⟨v, rfl, hv, da', dr', h2, h3, h4, hvq, hf⟩
                  obtain ⟨a', kk', rfl, _, _⟩ := hv.shape
                  have hOD := fun q hq => HQ.out q hq
                  have hTn : T ∉ R :: D :: (Value.slice da (rIt (plc4 wd 1048576) j (m, rdr0)).2.data.length dr).ownBlock.toList := by
                    simp only [List.mem_cons, Option.mem_toList, not_or]
                    exact ⟨by omega, by omega, fun hq => (HQ.out _ hq).2.1 rfl⟩
                  have hFn : FB ∉ R :: D :: (Value.slice da (rIt (plc4 wd 1048576) j (m, rdr0)).2.data.length dr).ownBlock.toList := by
                    simp only [List.mem_cons, Option.mem_toList, not_or]
                    exact ⟨by omega, by omega, fun hq => (HQ.out _ hq).2.2.1 rfl⟩
                  have hXn : ∀ x, fa = some x → x.block ∉ R :: D :: (Value.slice da (rIt (plc4 wd 1048576) j (m, rdr0)).2.data.length dr).ownBlock.toList := fun x hx => by
                    simp only [List.mem_cons, Option.mem_toList, not_or]
                    have := HFX2.out x hx
                    exact ⟨this.2.2.2, this.1, fun hq => (HQ.out _ hq).2.2.2 x hx rfl⟩
                  have HQ9 : Kp (∀ q, (Value.slice da' (rIt (plc4 wd 1048576) (j + 1) (m, rdr0)).2.data.length dr').ownBlock = some q → q ≠ D ∧ q ≠ T ∧ q ≠ FB ∧ ∀ x, fa = some x → x.block ≠ q) := ⟨fun q hq => by
                    rcases hf with hf | hf
                    · exact HQ.out q (hf ▸ hq)
                    · have := hf q hq
                      exact ⟨by omega, by omega, by omega, fun x hx => by have := HLX.out x hx; omega⟩⟩
                  have HT9 : Kp (w11.heap[T]? = some (.cells #[.bool d.done, .int .i64 d.code, .slice a d.data.length kk, .bool d.valid, .int .i64 d.count, .bool d.mark, .bool d.ring, .bool d.stamped, .int .i64 d.buffer] 53 (0, 0))) := ⟨h4.blk HT.out hTn⟩
                  have HF9 : Kp (w11.heap[FB]? = some (.cells #[.int .i64 c0, .slice fa l0.length fk, .bool v0, .int .i64 0] 51 (0, 0))) := ⟨h4.blk HF.out hFn⟩
                  have HFr9 : Kp (RowAt w11 1 (.slice fa l0.length fk) l0.length (u32s l0)) := ⟨HFr.out.but h4 hXn⟩
                  have HLX9 : Kp (∀ x, fa = some x → x.block < w11.heap.size) := ⟨fun x hx => Nat.lt_of_lt_of_le (HLX.out x hx) h4.size⟩
                  have HB9 : Kp (Below w3.heap.size w3 w11) := ⟨h4.below HB.out (fun q hq => by
                    simp only [List.mem_cons, Option.mem_toList] at hq
                    rcases hq with e | e | e
                    · omega
                    · have := HMB.out; omega
                    · have := (HOW.out.lt q e).1; omega) HB.out.size⟩
                  have HR9 : Kp (RdAt w11 R (R + 1) (plc4 wd 1048576) (rIt (plc4 wd 1048576) (j + 1) (m, rdr0)).2 da' dr') := ⟨h2⟩
                  have HM9 : Kp (MemAt w11 B D (rIt (plc4 wd 1048576) (j + 1) (m, rdr0)).1) := ⟨h3⟩
                  have HV9 := Kp.mk hv
                  have HVQ : Kp (∀ q, (Value.slice a' d2.data.length kk').ownBlock = some q → q ≠ D ∧ q ≠ T ∧ q ≠ FB ∧ q < w11.heap.size) := ⟨fun q hq => by have h := hvq q hq; have := HQ9.out q h; exact ⟨this.1, this.2.1, this.2.2.1, own_lt h2.own q h⟩⟩
                  have lT9 := blk_lt HT9.out
                  have lF9 := blk_lt HF9.out
                  have tc0 : w11.cell? ⟨T, 0, none⟩ = some (.bool d.done) := (cell_blk HT9.out 0).trans rfl
                  have tf0 := frozen_blk HT9.out 0
                  have tc1 : w11.cell? ⟨T, 1, none⟩ = some (.int .i64 d.code) := (cell_blk HT9.out 1).trans rfl
                  have tf1 := frozen_blk HT9.out 1
                  have tc2 : w11.cell? ⟨T, 2, none⟩ = some (.slice a d.data.length kk) := (cell_blk HT9.out 2).trans rfl
                  have tf2 := frozen_blk HT9.out 2
                  have tc3 : w11.cell? ⟨T, 3, none⟩ = some (.bool d.valid) := (cell_blk HT9.out 3).trans rfl
                  have tf3 := frozen_blk HT9.out 3
                  have tc4 : w11.cell? ⟨T, 4, none⟩ = some (.int .i64 d.count) := (cell_blk HT9.out 4).trans rfl
                  have tf4 := frozen_blk HT9.out 4
                  have tc5 : w11.cell? ⟨T, 5, none⟩ = some (.bool d.mark) := (cell_blk HT9.out 5).trans rfl
                  have tf5 := frozen_blk HT9.out 5
                  have tc6 : w11.cell? ⟨T, 6, none⟩ = some (.bool d.ring) := (cell_blk HT9.out 6).trans rfl
                  have tf6 := frozen_blk HT9.out 6
                  have tc7 : w11.cell? ⟨T, 7, none⟩ = some (.bool d.stamped) := (cell_blk HT9.out 7).trans rfl
                  have tf7 := frozen_blk HT9.out 7
                  have tc8 : w11.cell? ⟨T, 8, none⟩ = some (.int .i64 d.buffer) := (cell_blk HT9.out 8).trans rfl
                  have tf8 := frozen_blk HT9.out 8
                  clear h2 h3 h4 hv hvq hf HSt2 HT HF HFr HB HOW HQ HLX hTn hFn hXn hOD
                  go_wp2
                  go_roundw
                  case rel =>
                    have hsq := (ButS.set (ButS.set (ButS.set (ButS.set (ButS.set (ButS.set (ButS.set (ButS.set (ButS.set (ButS.refl [T] w11) (p := ⟨T, 0, none⟩) (by simp) (.bool false)) (p := ⟨T, 1, none⟩) (by simp) (.int .i64 d2.code)) (p := ⟨T, 2, none⟩) (by simp) (.slice a' d2.data.length kk')) (p := ⟨T, 3, none⟩) (by simp) (.bool d2.valid)) (p := ⟨T, 4, none⟩) (by simp) (.int .i64 d2.count)) (p := ⟨T, 5, none⟩) (by simp) (.bool d2.mark)) (p := ⟨T, 6, none⟩) (by simp) (.bool d2.ring)) (p := ⟨T, 7, none⟩) (by simp) (.bool d2.stamped)) (p := ⟨T, 8, none⟩) (by simp) (.int .i64 d2.buffer))
                    exact ⟨j + 1, da', dr', { d2 with done := false }, a', kk', by omega, by go_num, ⟨(((((((((HB9.out.setCell (p := ⟨T, 0, none⟩) hT3 _).setCell (p := ⟨T, 1, none⟩) hT3 _).setCell (p := ⟨T, 2, none⟩) hT3 _).setCell (p := ⟨T, 3, none⟩) hT3 _).setCell (p := ⟨T, 4, none⟩) hT3 _).setCell (p := ⟨T, 5, none⟩) hT3 _).setCell (p := ⟨T, 6, none⟩) hT3 _).setCell (p := ⟨T, 7, none⟩) hT3 _).setCell (p := ⟨T, 8, none⟩) hT3 _)⟩, ⟨HM9.out.but hsq (by simp; omega) (by simp; omega)⟩, ⟨HR9.out.but hsq (by simp; omega) (fun q hq => by simp only [List.mem_cons, List.not_mem_nil, or_false]; exact (HQ9.out q hq).2.1)⟩, HQ9, ⟨((blk_set (blk_set (blk_set (blk_set (blk_set (blk_set (blk_set (blk_set (blk_set HT9.out 0 _) 1 _) 2 _) 3 _) 4 _) 5 _) 6 _) 7 _) 8 _).trans (by simp only [ls0, ls1, ls2]))⟩, ⟨hsq.blk HF9.out (by simp; omega)⟩, ⟨HFr9.out.but hsq (fun x hx => by simp only [List.mem_cons, List.not_mem_nil, or_false]; exact (HFX2.out x hx).2.2.1)⟩, ⟨fun x hx => Nat.lt_of_lt_of_le (HLX9.out x hx) hsq.size⟩⟩
                  case measure => simp [intOf]; omega
            · obtain rfl : k = 3 := by omega
              go_wp2
              go_ret
              exact ⟨rfl, HB3.out.trans (HBK.out.mono HB3.out.size)⟩
theorem fourStays_any (v0 v1 v2 : Value) (W : World) (o0 : RdV W (.int .u8) v0) (o1 : RdV W (.slice 1 .bool) v1) (o2 : RdV W (.int .u8) v2) : Calls Try.prog 6 #[v0, v1, v2] W fun e W' => e = .returned (.bool true) ∧ Below W.heap.size W W' := by
  obtain ⟨wv, rfl, hw⟩ := o0
  obtain ⟨a, c, l, rfl, hr⟩ := boolsAt_of o1
  obtain ⟨tk, rfl, htk⟩ := o2
  exact fourStays_main wv (bounds_u8 hw) a l.length c l rfl tk (bounds_u8 htk) W hr
end Go.Proofs.Ytmidcnfmphlneaa

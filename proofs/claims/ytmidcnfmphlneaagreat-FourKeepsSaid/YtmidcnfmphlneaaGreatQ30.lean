/- The law FourKeeps: a write and a read change only words of their own sides. -/
import Derived.Test.YtmidcnfmphlneaaGreatQ26
import Derived.Test.YtmidcnfmphlneaaGreatQ29
namespace Go.Proofs.YtmidcnfmphlneaaGreat
open Go.RowKit
set_option linter.unusedSimpArgs false
set_option linter.unusedVariables false
theorem Duo.fresh {w w' : World} {X : List Nat} {N0 B D W g dc R bs : Nat} {da : Option Addr} {dr : Nat} {p : Plc} {ws : List Int} {s : Wr} {r : Rdr} {zn : Nat} (h : Duo w X N0 B D W g dc R bs da dr p ws s r) (hb : Below w.heap.size w w') (hz : w.heap.size ≤ zn) : Duo w' (zn :: X) N0 B D W g dc R bs da dr p ws s r := by
  have h' := h.below hb
  have lB := blk_lt h.mem.head
  have lD := blk_lt h.mem.words
  refine ⟨h'.mem, h.mb, ⟨?_, ?_⟩, h'.wr, fun e => ?_, h'.rd, fun e => ?_, h.wr2⟩
  · simp only [List.mem_cons, not_or]; exact ⟨by omega, h.mx.1⟩
  · simp only [List.mem_cons, not_or]; exact ⟨by omega, h.mx.2⟩
  · obtain ⟨b1, b2, b3, b4, b5⟩ := h.wb e
    have lW := blk_lt (h.wr e).blk
    have lg := (h.wr e).lt
    simp only [List.mem_cons, not_or] at b3 b4 ⊢
    exact ⟨b1, b2, ⟨b3.1, b3.2.1, by omega, b3.2.2⟩, ⟨b4.1, b4.2.1, by omega, b4.2.2⟩, b5⟩
  · obtain ⟨b0, b1, b2, b3, b4, b5⟩ := h.rb e
    have lR := blk_lt (h.rd e).blk
    have lo := own_lt (h.rd e).own
    simp only [List.mem_cons, not_or] at b4 b5 ⊢
    exact ⟨b0, b1, b2, b3, ⟨b4.1, b4.2.1, by omega, b4.2.2⟩, fun q hq => by have := b5 q hq; have := lo q hq; exact ⟨(b5 q hq).1, (b5 q hq).2.1, by omega, (b5 q hq).2.2⟩⟩
theorem PlayAt.below {zk : Nat} {zc : Array Value} {zt : TypeId} {w0 w w' : World} {P B D W g dc R bs : Nat} {da : Option Addr} {dr : Nat} {kc : CfK} {p : Plc} {s : Sg} (h : PlayAt zk zc zt w0 w P B D W g dc R bs da dr kc p s) (hb : Below w.heap.size w w') : PlayAt zk zc zt w0 w' P B D W g dc R bs da dr kc p s :=
  ⟨blk_below h.blk hb, h.duo.below hb, below_call h.low hb, h.pl, blk_below h.zb hb, h.zp⟩
theorem PlayAt.fresh {zk : Nat} {zc : Array Value} {zt : TypeId} {w0 w w' : World} {P B D W g dc R bs : Nat} {da : Option Addr} {dr : Nat} {kc : CfK} {p : Plc} {s : Sg} {zn : Nat} {zc' : Array Value} {zt' : TypeId} (h : PlayAt zk zc zt w0 w P B D W g dc R bs da dr kc p s) (hb : Below w.heap.size w w') (hz : w.heap.size ≤ zn) (hn : w'.heap[zn]? = some (.cells zc' zt' (0, 0))) : PlayAt zn zc' zt' w0 w' P B D W g dc R bs da dr kc p s :=
  ⟨blk_below h.blk hb, (h.duo.fresh hb hz).less (by simp), below_call h.low hb, h.pl, hn, by have := blk_lt h.blk; omega⟩
theorem keeps_w {p : Plc} {s : Sg} {c : Int → Int → Nat} (hg : Good p s c) (now : Int) (h6 : s.w.pc ≤ 6) (h1 : 1 ≤ p.src) : ∃ a : Nat, 1 ≤ a ∧ (a : Int) < p.rd ∧ ∀ j, j ≠ a → (wMem p s.ws now s.w)[j]? = s.ws[j]? := by
  have hW := hg.w h6
  have ok := hg.j.ok
  have hsrc := ok.src
  have hwd := ok.words
  have hrd := ok.rd
  have hbuf := buf_at p _ _ hW.hx hW.hy hwd
  have hslot := slot_at p _ hW.hx
  have key : ∀ x v : Int, 1 ≤ x → x < p.rd → ∃ a : Nat, 1 ≤ a ∧ (a : Int) < p.rd ∧ ∀ j, j ≠ a → (stW s.ws x v)[j]? = s.ws[j]? := fun x v hx hx2 => ⟨x.toNat, by omega, by omega, fun j hj => by rw [stW, List.getElem?_set_ne (Ne.symm hj)]⟩
  have hdw := hW.dw
  have hi4 := hW.i4
  unfold wMem
  split
  · exact key _ _ (by omega) (by omega)
  · exact key _ _ (by omega) (by omega)
  · rename_i e
    have := hi4 e
    exact key _ _ (by omega) (by omega)
  · exact key _ _ (by omega) (by omega)
  · exact key _ _ (by omega) (by omega)
  · exact ⟨1, by omega, by omega, fun _ _ => rfl⟩
theorem keeps_ww {p : Plc} {s : Sg} {c : Int → Int → Nat} (hg : Good p s c) (hn : s.n + 1 < 4294967296) (now : Int) (h1 : 1 ≤ p.src) : ∃ a : Nat, 1 ≤ a ∧ (a : Int) < p.rd ∧ ∀ j, j ≠ a → (stepWW p now s).ws[j]? = s.ws[j]? := by
  unfold stepWW
  split
  · exact keeps_w hg now (by assumption) h1
  · exact keeps_w (hg.begW (by omega) hn) now (Nat.zero_le _) h1
theorem keeps_rr (p : Plc) (s : Sg) (now : Int) : ∀ j, j ≠ p.rd.toNat → (stepRR p now s).ws[j]? = s.ws[j]? := by
  have key : ∀ (ws : List Int) (r : Rdr) j, j ≠ p.rd.toNat → (rMem p ws r)[j]? = ws[j]? := fun ws r j hj => by
    unfold rMem
    split
    · rw [stW, List.getElem?_set_ne (Ne.symm hj)]
    · rfl
  by_cases h : s.r.pc ≤ 5
  · rw [stepRR, if_pos h]; exact key s.ws s.r
  · rw [stepRR, if_neg h]; exact key s.ws rdr0
theorem len_ww (p : Plc) (s : Sg) (now : Int) : (stepWW p now s).ws.length = s.ws.length := by
  by_cases h : s.w.pc ≤ 6
  · rw [stepWW, if_pos h]; exact wMem_len p s.ws now s.w
  · rw [stepWW, if_neg h]; exact wMem_len p s.ws now (begW p s).w
theorem len_rr (p : Plc) (s : Sg) (now : Int) : (stepRR p now s).ws.length = s.ws.length := by
  by_cases h : s.r.pc ≤ 5
  · rw [stepRR, if_pos h]; exact rMem_len p s.ws s.r
  · rw [stepRR, if_neg h]; exact rMem_len p s.ws rdr0
theorem may4_w (wd per : Int) (h1 : 1 ≤ wd ∧ wd ≤ 16) (h2 : 0 ≤ per ∧ per ≤ 1048576) (a : Nat) (ha : 1 ≤ a) (hb : (a : Int) < (plc4 wd per).rd) : mayB (two4 wd per) 0 (a : Int) = true := by
  have hb' : (a : Int) < 1 + (3 + 4 * (2 + wd)) := hb
  have hk : mayK (two4 wd per) 0 (a : Int) 0 = true := by
    have e : srcB (two4 wd per) ((0 : Nat) : Int) = (1, 3 + 4 * (2 + wd)) := two4_src wd per h1 h2
    rw [mayK, e]
    show ((0 : Int) == 0 && hasB 1 (3 + 4 * (2 + wd)) (a : Int) || _) = true
    have : hasB 1 (3 + 4 * (2 + wd)) (a : Int) = true := by rw [hasB]; exact decide_eq_true (by omega)
    rw [this]
    rfl
  have e2 : mayTo (two4 wd per) 0 (a : Int) (two4 wd per).chans.length = true := mayTo_yes hk (show 0 < 1 by decide)
  rw [mayB, e2, Bool.or_true]
theorem may4_r (wd per : Int) (h1 : 1 ≤ wd ∧ wd ≤ 16) (h2 : 0 ≤ per ∧ per ≤ 1048576) (a : Nat) (ha : (a : Int) = (plc4 wd per).rd) : mayB (two4 wd per) 1 (a : Int) = true := by
  have ha' : (a : Int) = 1 + (3 + 4 * (2 + wd)) := ha
  have hk : mayK (two4 wd per) 1 (a : Int) 0 = true := by
    have e : dstB (two4 wd per) ((0 : Nat) : Int) = (1 + (3 + 4 * (2 + wd)), 1) := two4_dst wd per h1 h2
    rw [mayK, e]
    have : hasB (1 + (3 + 4 * (2 + wd))) 1 (a : Int) = true := by rw [hasB]; exact decide_eq_true (by omega)
    show (_ || ((1 : Int) == 1 && hasB (1 + (3 + 4 * (2 + wd))) 1 (a : Int))) = true
    rw [this]
    simp
  have e2 : mayTo (two4 wd per) 1 (a : Int) (two4 wd per).chans.length = true := mayTo_yes hk (show 0 < 1 by decide)
  rw [mayB, e2, Bool.or_true]
def chg (a : Nat) (ne : Bool) (k : Nat) : Int := if a < k ∧ ne = true then 1 else 0
set_option maxRecDepth 100000 in
set_option maxHeartbeats 8000000 in
theorem fourKeeps_main (wv : Int) (hwv : 0 ≤ wv ∧ wv ≤ 255) (a1 : Option Addr) (L c1 : Nat) (bs : List Bool) (hL : bs.length = L) (w : World) (hrow : RowAt w 1 (.slice a1 L c1) L (bs.map Value.bool)) :
    Calls Tryz.prog 3 #[.int .u8 wv, .slice a1 L c1] w fun e w' => e = .returned (.bool true) ∧ Below w.heap.size w w' := by
  have HR := Kp.mk hrow
  have HLL := Kp.mk hL
  have hcap : L ≤ maxLen := by obtain ⟨_, _, e, q1, q2⟩ := hrow.shape; exact Nat.le_trans q1 q2
  unfold maxLen at hcap
  clear hrow hL
  obtain ⟨wd, hwdd⟩ : ∃ wd, 1 + wv % 4 = wd := ⟨_, rfl⟩
  have hwd : 1 ≤ wd ∧ wd ≤ 16 := by omega
  have hwd4 : wd ≤ 4 := by omega
  have v1 : IntKind.i64.wrap wv = wv := IntWalk.i64_in _ (by omega)
  have v2 : Int.tmod wv 4 = wd - 1 := by rw [Int.tmod_eq_emod_of_nonneg (by omega)]; omega
  have v3 : IntKind.i64.wrap (wd - 1) = wd - 1 := IntWalk.i64_in _ (by omega)
  have v4 : 1 + (wd - 1) = wd := by omega
  have v5 : IntKind.i64.wrap wd = wd := IntWalk.i64_in _ (by omega)
  obtain ⟨nn, hnn⟩ : ∃ nn : Nat, (nn : Int) = 5 + 4 * (2 + wd) := ⟨(5 + 4 * (2 + wd)).toNat, by omega⟩
  have hnle : nn ≤ 65536 := by omega
  have HNN := Kp.mk hnn
  clear hwdd
  go_enter Tryz.func3, Tryz.ntmps3
  have HB0 : Kp (Below w.heap.size w w) := ⟨Below.refl _ _⟩
  go_wp2_with fail
  refine (wakes4_any _).mono ?_
  rintro e w1 ⟨rfl, hb⟩
  have HB1 : Kp (Below w.heap.size w w1) := ⟨below_call HB0.out hb⟩
  clear HB0 hb
  by_cases hl1 : 200 < L
  · have n1 : (200 : Int) < (L : Int) := by omega
    go_wp2
    go_ret
    exact ⟨rfl, HB1.out⟩
  have n1 : ¬ (200 : Int) < (L : Int) := by omega
  go_wp2_with fail
  refine (two4_any wd 5 _ (two4_ok wd 5 hwd (by omega))).mono ?_
  rintro e w2 ⟨cs, rfl, hC, hb⟩
  have HB2 : Kp (Below w.heap.size w w2) := ⟨below_call HB1.out hb⟩
  have C2 : Kp (CfgAt w2 (.agg cs) (two4 wd 5)) := ⟨hC⟩
  clear HB1 hb
  obtain ⟨kc, rfl, hKC⟩ := cfOk_of hC hwd (per := 5) (by omega)
  clear hC hKC
  have hsz := size_two (.agg #[.slice kc.pa 2 kc.pc, .slice (some ⟨kc.cg, kc.co, none⟩) 1 kc.cc, .int .i64 1, .slice kc.a0 1 kc.c0, .int .i64 1, .slice kc.a1 1 kc.c1]) wd 5 hwd (by omega) (w2.alloc (.cells #[.slice kc.pa 2 kc.pc, .slice (some ⟨kc.cg, kc.co, none⟩) 1 kc.cc, .int .i64 1, .slice kc.a0 1 kc.c0, .int .i64 1, .slice kc.a1 1 kc.c1] 31)) ((C2.out.below (below_al (Below.refl _ _) _)))
  rw [← hnn] at hsz
  clear hnn
  go_wp2_with fail
  refine (hsz).mono ?_
  rintro e w3 ⟨rfl, hb⟩
  have q3 : Kp (w3.heap[w2.heap.size]? = some (.cells #[.slice kc.pa 2 kc.pc, .slice (some ⟨kc.cg, kc.co, none⟩) 1 kc.cc, .int .i64 1, .slice kc.a0 1 kc.c0, .int .i64 1, .slice kc.a1 1 kc.c1] 31 (0, 0))) := ⟨blk_below (blk_new _ _) hb⟩
  have HB3 : Kp (Below w.heap.size w w3) := ⟨below_call (below_al HB2.out _) hb⟩
  have C3 : Kp (CfgAt w3 (.agg #[.slice kc.pa 2 kc.pc, .slice (some ⟨kc.cg, kc.co, none⟩) 1 kc.cc, .int .i64 1, .slice kc.a0 1 kc.c0, .int .i64 1, .slice kc.a1 1 kc.c1]) (two4 wd 5)) := ⟨(C2.out.below (below_al (Below.refl _ _) _)).below hb⟩
  clear HB2 C2 hb
  have qc0 := cbk q3.out 0 (.slice kc.pa 2 kc.pc) rfl
  have qc1 := cbk q3.out 1 (.slice (some ⟨kc.cg, kc.co, none⟩) 1 kc.cc) rfl
  have qc2 := cbk q3.out 2 (.int .i64 1) rfl
  have qc3 := cbk q3.out 3 (.slice kc.a0 1 kc.c0) rfl
  have qc4 := cbk q3.out 4 (.int .i64 1) rfl
  have qc5 := cbk q3.out 5 (.slice kc.a1 1 kc.c1) rfl
  have ql := blk_lt q3.out
  clear hsz
  go_wp2_with fail
  refine (memNew_any nn hnle _).mono ?_
  rintro e w4 ⟨B, D, rfl, hM, hb, hB, hD⟩
  have qd0 : w4.cell? ⟨w2.heap.size, 0, none⟩ = some (.slice kc.pa 2 kc.pc) := ((hb.cell (p := ⟨w2.heap.size, 0, none⟩) (blk_lt q3.out)).trans (cell_blk q3.out 0)).trans rfl
  have qd1 : w4.cell? ⟨w2.heap.size, 1, none⟩ = some (.slice (some ⟨kc.cg, kc.co, none⟩) 1 kc.cc) := ((hb.cell (p := ⟨w2.heap.size, 1, none⟩) (blk_lt q3.out)).trans (cell_blk q3.out 1)).trans rfl
  have qd2 : w4.cell? ⟨w2.heap.size, 2, none⟩ = some (.int .i64 1) := ((hb.cell (p := ⟨w2.heap.size, 2, none⟩) (blk_lt q3.out)).trans (cell_blk q3.out 2)).trans rfl
  have qd3 : w4.cell? ⟨w2.heap.size, 3, none⟩ = some (.slice kc.a0 1 kc.c0) := ((hb.cell (p := ⟨w2.heap.size, 3, none⟩) (blk_lt q3.out)).trans (cell_blk q3.out 3)).trans rfl
  have qd4 : w4.cell? ⟨w2.heap.size, 4, none⟩ = some (.int .i64 1) := ((hb.cell (p := ⟨w2.heap.size, 4, none⟩) (blk_lt q3.out)).trans (cell_blk q3.out 4)).trans rfl
  have qd5 : w4.cell? ⟨w2.heap.size, 5, none⟩ = some (.slice kc.a1 1 kc.c1) := ((hb.cell (p := ⟨w2.heap.size, 5, none⟩) (blk_lt q3.out)).trans (cell_blk q3.out 5)).trans rfl
  have lq3 := blk_lt q3.out
  have qe : w2.heap.size < w4.heap.size := Nat.lt_of_lt_of_le (blk_lt q3.out) hb.size
  have lB := blk_lt hM.out.head
  have lD := blk_lt hM.out.words
  have HM := Kp.mk hM.out
  have HB4 := Kp.mk hb
  clear hM hb qc0 qc1 qc2 qc3 qc4 qc5 ql
  go_wp2_with fail
  have HP : Kp (PlayAt (w2.heap.size) #[.slice kc.pa 2 kc.pc, .slice (some ⟨kc.cg, kc.co, none⟩) 1 kc.cc, .int .i64 1, .slice kc.a0 1 kc.c0, .int .i64 1, .slice kc.a1 1 kc.c1] 31 w3 (w4.alloc (.cells #[.slice kc.pa 2 kc.pc, .slice (some ⟨kc.cg, kc.co, none⟩) 1 kc.cc, .int .i64 1, .slice kc.a0 1 kc.c0, .int .i64 1, .slice kc.a1 1 kc.c1, .pointer (some ⟨B, 0, none⟩), .pointer none, .pointer none, .int .u32 0, .int .u32 0, .int .u32 0, .int .u32 0, .int .u32 0, .int .u32 0, .int .i64 0, .int .i64 0] 43)) w4.heap.size B D 0 0 0 0 0 none 0 kc (plc4 wd 5) (sg0 nn)) := ⟨⟨blk_new _ _, Duo.new (HM.out.al _) ⟨hB, hD⟩ (by simp only [List.mem_cons, List.not_mem_nil, or_false]; omega) (show 7 ≤ 7 by decide) (show 6 ≤ 6 by decide), below_al HB4.out _, HB4.out.size, blk_al (blk_below q3.out HB4.out) _, by omega⟩⟩
  have HG : Kp (Good (plc4 wd 5) (sg0 nn) (fun _ _ => 0)) := ⟨good0 _ _ (plc4_good wd 5 nn hwd HNN.out)⟩
  have HCF : Kp (CfOk w3 kc wd 5) := ⟨cfOk_kc C3.out hwd (by omega)⟩
  have HROW : Kp (RowAt w3 1 (.slice a1 L c1) L (bs.map Value.bool)) := ⟨HR.out.below HB3.out⟩
  obtain ⟨P, hP⟩ : ∃ P, w4.heap.size = P := ⟨_, rfl⟩
  generalize w4.alloc (.cells #[.slice kc.pa 2 kc.pc, .slice (some ⟨kc.cg, kc.co, none⟩) 1 kc.cc, .int .i64 1, .slice kc.a0 1 kc.c0, .int .i64 1, .slice kc.a1 1 kc.c1, .pointer (some ⟨B, 0, none⟩), .pointer none, .pointer none, .int .u32 0, .int .u32 0, .int .u32 0, .int .u32 0, .int .u32 0, .int .u32 0, .int .i64 0, .int .i64 0] 43) = w5 at HP ⊢
  rw [hP] at HP ⊢
  have l5 := HP.out.low.size
  have HLN0 : Kp ((sg0 nn).ws.length = nn) := ⟨by show (List.replicate nn 0).length = nn; simp⟩
  clear qd0 qd1 qd2 qd3 qd4 qd5 qe
  go_wp2_with fail
  go_loopw [43] (fun i wr => ∃ (k zk : Nat) (zc : Array Value) (zt : TypeId) (W g dc R bs : Nat) (da : Option Addr) (dr : Nat) (s : Sg) (c : Int → Int → Nat), k ≤ L ∧ i = .int .i64 k ∧ Kp (PlayAt zk zc zt w3 wr P B D W g dc R bs da dr kc (plc4 wd 5) s) ∧ Kp (Good (plc4 wd 5) s c) ∧ Kp (s.n ≤ k) ∧ Kp (s.ws.length = nn)) (fun i wr => L - (intOf i).toNat)
  case atStart => exact ⟨0, _, _, _, 0, 0, 0, 0, 0, none, 0, _, _, Nat.zero_le _, rfl, HP, HG, ⟨Nat.zero_le _⟩, HLN0⟩
  case round =>
    obtain ⟨k, zk, zc, zt, W, g, dc, R, bs', da, dr, s, c, hk, rfl, HP1, HG1, HN1, HLN⟩ := hrel
    clear HP HG HLN0
    by_cases hlt : k < L
    · obtain ⟨gb, ob, hab, hgb, hcb⟩ := HROW.out.at (by omega)
      subst hab
      have lwr := HP1.out.low.size
      have ck : wr.cell? ⟨gb, ob + k, none⟩ = some (.bool (bs.getD k false)) := (HP1.out.low.cell (p := ⟨gb, ob + k, none⟩) hgb).trans ((hcb k (by omega)).trans (by have := HLL.out; rw [List.getElem?_map, List.getElem?_eq_getElem (by omega), List.getD_eq_getElem?_getD, List.getElem?_eq_getElem (by omega)]; rfl))
      have lgb : gb < wr.heap.size := by omega
      have hn : s.n + 1 < 4294967296 := by have := HN1.out; omega
      have hzk : (0 : Int) ≤ (k : Int) := by omega
      clear hcb
      cases hb : bs.getD k false with
      | true =>
        rw [hb] at ck
        go_wp2_with fail
        refine (memWords_any B D s.ws wr HP1.out.duo.mem).mono ?_
        rintro e w6 ⟨g1, rfl, hg1, hb1, hgl1⟩
        have HP6 := Kp.mk (HP1.out.fresh hb1 hgl1 hg1.out)
        have hHC := play_write HCF.out rfl HG1.out hn (k : Int) w6 HP6.out
        have HCW := Kp.mk hHC
        rw [HLN.out]
        clear hg1 hb1 hgl1 hHC HP1 HP6 ck hb
        go_wp2_with fail
        refine HCW.out.mono ?_
        rintro e w7 ⟨rfl, W', g', dc', s', c', hp', hg', hn', hs'⟩
        have HLN2 : Kp (s'.ws.length = nn) := ⟨by rw [hs', len_ww]; exact HLN.out⟩
        have HN2 : Kp (s'.n ≤ k + 1) := ⟨by have := HN1.out; omega⟩
        obtain ⟨av, ha1, ha2, hfr⟩ := keeps_ww HG1.out hn (k : Int) (show (1 : Int) ≤ (plc4 wd 5).src from Int.le_refl _)
        have HMAY := Kp.mk (may4_w wd 5 hwd (by omega) av ha1 ha2)
        rw [← hs'] at hfr
        have HFR := Kp.mk hfr
        have HA1 := Kp.mk ha1
        have HP7 := Kp.mk hp'
        have HG7 := Kp.mk hg'
        clear hp' hg' hn' hs' hfr ha1 ha2 HCW HG1 HN1
        go_wp2_with fail
        refine (memWords_any B D s'.ws w7 HP7.out.duo.mem).mono ?_
        rintro e w8 ⟨g2, rfl, hg2, hb2, hgl2⟩
        have HP8 := Kp.mk (HP7.out.below hb2)
        have HG1b : Kp (w8.heap[g1]? = some (.cells (u32s s.ws).toArray 41 (0, 0))) := ⟨HP8.out.zb⟩
        have HG2b := Kp.mk hg2.out
        rw [HLN2.out]
        obtain ⟨ne, hne⟩ : ∃ ne : Bool, decide (s'.ws.getD av 0 ≠ s.ws.getD av 0) = ne := ⟨_, rfl⟩
        have HNE := Kp.mk hne
        have l8 := HP8.out.low.size
        clear hg2 hb2 hgl2 HP7 hne
        go_wp2_with fail
        go_loopw [12, 60] (fun vc i wr => ∃ at_ : Nat, at_ ≤ nn ∧ i = .int .i64 at_ ∧ vc = .int .i64 (chg av ne at_) ∧ Kp (Below w8.heap.size w8 wr)) (fun vc i wr => nn - (intOf i).toNat)
        case atStart => exact ⟨0, Nat.zero_le _, rfl, by rw [chg, if_neg (by omega)], ⟨Below.refl _ _⟩⟩
        case round =>
          obtain ⟨j, hj, rfl, rfl, HBj⟩ := hrel
          by_cases hjn : j < nn
          · have hj1 : j < s.ws.length := by rw [HLN.out]; exact hjn
            have hj2 : j < s'.ws.length := by rw [HLN2.out]; exact hjn
            have lw8 := HBj.out.size
            have lg1 := blk_lt HG1b.out
            have lg2 := blk_lt HG2b.out
            have d1 : wr.cell? ⟨g1, j, none⟩ = some (.int .u32 (s.ws.getD j 0)) := (HBj.out.cell (p := ⟨g1, j, none⟩) lg1).trans ((cell_blk HG1b.out j).trans (by rw [List.getElem?_toArray, u32s_at _ _ hj1, List.getD_eq_getElem?_getD, List.getElem?_eq_getElem hj1]; rfl))
            have d2 : wr.cell? ⟨g2, j, none⟩ = some (.int .u32 (s'.ws.getD j 0)) := (HBj.out.cell (p := ⟨g2, j, none⟩) lg2).trans ((cell_blk HG2b.out j).trans (by rw [List.getElem?_toArray, u32s_at _ _ hj2, List.getD_eq_getElem?_getD, List.getElem?_eq_getElem hj2]; rfl))
            have lg1w : g1 < wr.heap.size := by omega
            have lg2w : g2 < wr.heap.size := by omega
            have hz : (0 : Int) ≤ (j : Int) := by omega
            obtain ⟨x1, hx1⟩ : ∃ x1, s.ws.getD j 0 = x1 := ⟨_, rfl⟩
            obtain ⟨x2, hx2⟩ : ∃ x2, s'.ws.getD j 0 = x2 := ⟨_, rfl⟩
            rw [hx1] at d1
            rw [hx2] at d2
            have HX1 := Kp.mk hx1
            have HX2 := Kp.mk hx2
            clear hx1 hx2
            obtain ⟨cj, hcj⟩ : ∃ cj, chg av ne j = cj := ⟨_, rfl⟩
            by_cases heq : x2 = x1
            · have HCJ : Kp (cj = chg av ne (j + 1)) := ⟨by
                rw [← hcj, chg, chg]
                by_cases ha : av = j
                · have hn0 : ne = false := by rw [← HNE.out, ha, HX1.out, HX2.out, heq]; simp
                  rw [hn0]; simp
                · by_cases hlt2 : av < j
                  · by_cases hne : ne = true
                    · rw [if_pos ⟨hlt2, hne⟩, if_pos ⟨by omega, hne⟩]
                    · rw [if_neg (fun h => hne h.2), if_neg (fun h => hne h.2)]
                  · rw [if_neg (fun h => hlt2 h.1), if_neg (fun h => by omega)]⟩
              rw [hcj]
              subst heq
              clear hcj
              go_wp2
              go_roundw
              case rel => exact ⟨j + 1, by omega, by go_num, by rw [HCJ.out], HBj⟩
              case measure => simp [intOf]; omega
            · have haj : av = j := by
                apply Classical.byContradiction
                intro hne
                refine heq ?_
                have h := HFR.out j (fun e => hne e.symm)
                rw [← HX1.out, ← HX2.out, List.getD_eq_getElem?_getD, List.getD_eq_getElem?_getD, h]
              have hcj0 : cj = 0 := by rw [← hcj, haj, chg, if_neg (by omega)]
              have HCJ : Kp ((1 : Int) = chg av ne (j + 1)) := ⟨by
                have hn1 : ne = true := by rw [← HNE.out, haj, HX1.out, HX2.out]; simpa using heq
                rw [chg, if_pos ⟨by omega, hn1⟩]⟩
              have hm := HMAY.out
              rw [haj] at hm
              have hj1' : 1 ≤ j := by have := HA1.out; omega
              have hj0 : ¬ (j : Int) = 0 := by omega
              have hj0b : ((j : Int) == 0) = false := by simp; omega
              have hnq : (x2 == x1) = false := by simpa using heq
              rw [hcj]
              subst hcj0
              have HLB : Kp (Below w3.heap.size w3 wr) := ⟨HP8.out.low.trans (HBj.out.mono l8)⟩
              have hcm := rmay_any (.agg #[.slice kc.pa 2 kc.pc, .slice (some ⟨kc.cg, kc.co, none⟩) 1 kc.cc, .int .i64 1, .slice kc.a0 1 kc.c0, .int .i64 1, .slice kc.a1 1 kc.c1]) (two4 wd 5) (two4_small _ _) 0 (j : Int) wr (C3.out.below HLB.out)
              rw [hm] at hcm
              have HCM := Kp.mk hcm
              have qd0 : wr.cell? ⟨w2.heap.size, 0, none⟩ = some (.slice kc.pa 2 kc.pc) := ((HLB.out.cell (p := ⟨w2.heap.size, 0, none⟩) lq3).trans (cell_blk q3.out 0)).trans rfl
              have qd1 : wr.cell? ⟨w2.heap.size, 1, none⟩ = some (.slice (some ⟨kc.cg, kc.co, none⟩) 1 kc.cc) := ((HLB.out.cell (p := ⟨w2.heap.size, 1, none⟩) lq3).trans (cell_blk q3.out 1)).trans rfl
              have qd2 : wr.cell? ⟨w2.heap.size, 2, none⟩ = some (.int .i64 1) := ((HLB.out.cell (p := ⟨w2.heap.size, 2, none⟩) lq3).trans (cell_blk q3.out 2)).trans rfl
              have qd3 : wr.cell? ⟨w2.heap.size, 3, none⟩ = some (.slice kc.a0 1 kc.c0) := ((HLB.out.cell (p := ⟨w2.heap.size, 3, none⟩) lq3).trans (cell_blk q3.out 3)).trans rfl
              have qd4 : wr.cell? ⟨w2.heap.size, 4, none⟩ = some (.int .i64 1) := ((HLB.out.cell (p := ⟨w2.heap.size, 4, none⟩) lq3).trans (cell_blk q3.out 4)).trans rfl
              have qd5 : wr.cell? ⟨w2.heap.size, 5, none⟩ = some (.slice kc.a1 1 kc.c1) := ((HLB.out.cell (p := ⟨w2.heap.size, 5, none⟩) lq3).trans (cell_blk q3.out 5)).trans rfl
              have qe : w2.heap.size < wr.heap.size := Nat.lt_of_lt_of_le lq3 HLB.out.size
              clear hcj haj hm hcm
              go_wp2_with fail
              refine HCM.out.mono ?_
              rintro e w9 ⟨rfl, hb9⟩
              have HB9 := Kp.mk (HBj.out.trans (hb9.mono HBj.out.size))
              clear hb9 HCM HLB qd0 qd1 qd2 qd3 qd4 qd5 qe
              go_wp2
              go_roundw
              case rel => exact ⟨j + 1, by omega, by go_num, by rw [← HCJ.out], HB9⟩
              case measure => simp [intOf]; omega
          · obtain rfl : j = nn := by omega
            obtain ⟨cj, hcj⟩ : ∃ cj, chg av ne j = cj := ⟨_, rfl⟩
            have hc1 : ¬ 1 < cj := by rw [← hcj, chg]; split <;> omega
            rw [hcj]
            have HP9 := Kp.mk (HP8.out.below HBj.out)
            clear hcj HP8
            go_wp2
            go_roundw
            case rel => exact ⟨k + 1, _, _, _, W', g', dc', R, bs', da, dr, s', c', by omega, by go_num, HP9, HG7, HN2, HLN2⟩
            case measure => simp [intOf]; omega
      | false =>
        rw [hb] at ck
        go_wp2_with fail
        refine (memWords_any B D s.ws wr HP1.out.duo.mem).mono ?_
        rintro e w6 ⟨g1, rfl, hg1, hb1, hgl1⟩
        have HP6 := Kp.mk (HP1.out.fresh hb1 hgl1 hg1.out)
        have hHC := play_read HCF.out rfl HG1.out (by omega) (k : Int) (by omega) w6 HP6.out
        have HCR := Kp.mk hHC
        rw [HLN.out]
        clear hg1 hb1 hgl1 hHC HP1 HP6 ck hb
        go_wp2_with fail
        refine HCR.out.mono ?_
        rintro e w7 ⟨rfl, R', bs2, da', dr', s', hp', hg', hn', hs'⟩
        have HLN2 : Kp (s'.ws.length = nn) := ⟨by rw [hs', len_rr]; exact HLN.out⟩
        have HN2 : Kp (s'.n ≤ k + 1) := ⟨by have := HN1.out; omega⟩
        have hfr := keeps_rr (plc4 wd 5) s (k : Int)
        obtain ⟨av, hav⟩ : ∃ av, (plc4 wd 5).rd.toNat = av := ⟨_, rfl⟩
        rw [hav] at hfr
        have hrd : (plc4 wd 5).rd = 1 + (3 + 4 * (2 + wd)) := rfl
        have ha1 : 1 ≤ av := by omega
        have ha2 : True := trivial
        have HMAY := Kp.mk (may4_r wd 5 hwd (by omega) av (by omega))
        clear hav hrd
        rw [← hs'] at hfr
        have HFR := Kp.mk hfr
        have HA1 := Kp.mk ha1
        have HP7 := Kp.mk hp'
        have HG7 := Kp.mk hg'
        clear hp' hg' hn' hs' hfr ha1 ha2 HCR HG1 HN1
        go_wp2_with fail
        refine (memWords_any B D s'.ws w7 HP7.out.duo.mem).mono ?_
        rintro e w8 ⟨g2, rfl, hg2, hb2, hgl2⟩
        have HP8 := Kp.mk (HP7.out.below hb2)
        have HG1b : Kp (w8.heap[g1]? = some (.cells (u32s s.ws).toArray 41 (0, 0))) := ⟨HP8.out.zb⟩
        have HG2b := Kp.mk hg2.out
        rw [HLN2.out]
        obtain ⟨ne, hne⟩ : ∃ ne : Bool, decide (s'.ws.getD av 0 ≠ s.ws.getD av 0) = ne := ⟨_, rfl⟩
        have HNE := Kp.mk hne
        have l8 := HP8.out.low.size
        clear hg2 hb2 hgl2 HP7 hne
        go_wp2_with fail
        go_loopw [12, 60] (fun vc i wr => ∃ at_ : Nat, at_ ≤ nn ∧ i = .int .i64 at_ ∧ vc = .int .i64 (chg av ne at_) ∧ Kp (Below w8.heap.size w8 wr)) (fun vc i wr => nn - (intOf i).toNat)
        case atStart => exact ⟨0, Nat.zero_le _, rfl, by rw [chg, if_neg (by omega)], ⟨Below.refl _ _⟩⟩
        case round =>
          obtain ⟨j, hj, rfl, rfl, HBj⟩ := hrel
          by_cases hjn : j < nn
          · have hj1 : j < s.ws.length := by rw [HLN.out]; exact hjn
            have hj2 : j < s'.ws.length := by rw [HLN2.out]; exact hjn
            have lw8 := HBj.out.size
            have lg1 := blk_lt HG1b.out
            have lg2 := blk_lt HG2b.out
            have d1 : wr.cell? ⟨g1, j, none⟩ = some (.int .u32 (s.ws.getD j 0)) := (HBj.out.cell (p := ⟨g1, j, none⟩) lg1).trans ((cell_blk HG1b.out j).trans (by rw [List.getElem?_toArray, u32s_at _ _ hj1, List.getD_eq_getElem?_getD, List.getElem?_eq_getElem hj1]; rfl))
            have d2 : wr.cell? ⟨g2, j, none⟩ = some (.int .u32 (s'.ws.getD j 0)) := (HBj.out.cell (p := ⟨g2, j, none⟩) lg2).trans ((cell_blk HG2b.out j).trans (by rw [List.getElem?_toArray, u32s_at _ _ hj2, List.getD_eq_getElem?_getD, List.getElem?_eq_getElem hj2]; rfl))
            have lg1w : g1 < wr.heap.size := by omega
            have lg2w : g2 < wr.heap.size := by omega
            have hz : (0 : Int) ≤ (j : Int) := by omega
            obtain ⟨x1, hx1⟩ : ∃ x1, s.ws.getD j 0 = x1 := ⟨_, rfl⟩
            obtain ⟨x2, hx2⟩ : ∃ x2, s'.ws.getD j 0 = x2 := ⟨_, rfl⟩
            rw [hx1] at d1
            rw [hx2] at d2
            have HX1 := Kp.mk hx1
            have HX2 := Kp.mk hx2
            clear hx1 hx2
            obtain ⟨cj, hcj⟩ : ∃ cj, chg av ne j = cj := ⟨_, rfl⟩
            by_cases heq : x2 = x1
            · have HCJ : Kp (cj = chg av ne (j + 1)) := ⟨by
                rw [← hcj, chg, chg]
                by_cases ha : av = j
                · have hn0 : ne = false := by rw [← HNE.out, ha, HX1.out, HX2.out, heq]; simp
                  rw [hn0]; simp
                · by_cases hlt2 : av < j
                  · by_cases hne : ne = true
                    · rw [if_pos ⟨hlt2, hne⟩, if_pos ⟨by omega, hne⟩]
                    · rw [if_neg (fun h => hne h.2), if_neg (fun h => hne h.2)]
                  · rw [if_neg (fun h => hlt2 h.1), if_neg (fun h => by omega)]⟩
              rw [hcj]
              subst heq
              clear hcj
              go_wp2
              go_roundw
              case rel => exact ⟨j + 1, by omega, by go_num, by rw [HCJ.out], HBj⟩
              case measure => simp [intOf]; omega
            · have haj : av = j := by
                apply Classical.byContradiction
                intro hne
                refine heq ?_
                have h := HFR.out j (fun e => hne e.symm)
                rw [← HX1.out, ← HX2.out, List.getD_eq_getElem?_getD, List.getD_eq_getElem?_getD, h]
              have hcj0 : cj = 0 := by rw [← hcj, haj, chg, if_neg (by omega)]
              have HCJ : Kp ((1 : Int) = chg av ne (j + 1)) := ⟨by
                have hn1 : ne = true := by rw [← HNE.out, haj, HX1.out, HX2.out]; simpa using heq
                rw [chg, if_pos ⟨by omega, hn1⟩]⟩
              have hm := HMAY.out
              rw [haj] at hm
              have hj1' : 1 ≤ j := by have := HA1.out; omega
              have hj0 : ¬ (j : Int) = 0 := by omega
              have hj0b : ((j : Int) == 0) = false := by simp; omega
              have hnq : (x2 == x1) = false := by simpa using heq
              rw [hcj]
              subst hcj0
              have HLB : Kp (Below w3.heap.size w3 wr) := ⟨HP8.out.low.trans (HBj.out.mono l8)⟩
              have hcm := rmay_any (.agg #[.slice kc.pa 2 kc.pc, .slice (some ⟨kc.cg, kc.co, none⟩) 1 kc.cc, .int .i64 1, .slice kc.a0 1 kc.c0, .int .i64 1, .slice kc.a1 1 kc.c1]) (two4 wd 5) (two4_small _ _) 1 (j : Int) wr (C3.out.below HLB.out)
              rw [hm] at hcm
              have HCM := Kp.mk hcm
              have qd0 : wr.cell? ⟨w2.heap.size, 0, none⟩ = some (.slice kc.pa 2 kc.pc) := ((HLB.out.cell (p := ⟨w2.heap.size, 0, none⟩) lq3).trans (cell_blk q3.out 0)).trans rfl
              have qd1 : wr.cell? ⟨w2.heap.size, 1, none⟩ = some (.slice (some ⟨kc.cg, kc.co, none⟩) 1 kc.cc) := ((HLB.out.cell (p := ⟨w2.heap.size, 1, none⟩) lq3).trans (cell_blk q3.out 1)).trans rfl
              have qd2 : wr.cell? ⟨w2.heap.size, 2, none⟩ = some (.int .i64 1) := ((HLB.out.cell (p := ⟨w2.heap.size, 2, none⟩) lq3).trans (cell_blk q3.out 2)).trans rfl
              have qd3 : wr.cell? ⟨w2.heap.size, 3, none⟩ = some (.slice kc.a0 1 kc.c0) := ((HLB.out.cell (p := ⟨w2.heap.size, 3, none⟩) lq3).trans (cell_blk q3.out 3)).trans rfl
              have qd4 : wr.cell? ⟨w2.heap.size, 4, none⟩ = some (.int .i64 1) := ((HLB.out.cell (p := ⟨w2.heap.size, 4, none⟩) lq3).trans (cell_blk q3.out 4)).trans rfl
              have qd5 : wr.cell? ⟨w2.heap.size, 5, none⟩ = some (.slice kc.a1 1 kc.c1) := ((HLB.out.cell (p := ⟨w2.heap.size, 5, none⟩) lq3).trans (cell_blk q3.out 5)).trans rfl
              have qe : w2.heap.size < wr.heap.size := Nat.lt_of_lt_of_le lq3 HLB.out.size
              clear hcj haj hm hcm
              go_wp2_with fail
              refine HCM.out.mono ?_
              rintro e w9 ⟨rfl, hb9⟩
              have HB9 := Kp.mk (HBj.out.trans (hb9.mono HBj.out.size))
              clear hb9 HCM HLB qd0 qd1 qd2 qd3 qd4 qd5 qe
              go_wp2
              go_roundw
              case rel => exact ⟨j + 1, by omega, by go_num, by rw [← HCJ.out], HB9⟩
              case measure => simp [intOf]; omega
          · obtain rfl : j = nn := by omega
            obtain ⟨cj, hcj⟩ : ∃ cj, chg av ne j = cj := ⟨_, rfl⟩
            have hc1 : ¬ 1 < cj := by rw [← hcj, chg]; split <;> omega
            rw [hcj]
            have HP9 := Kp.mk (HP8.out.below HBj.out)
            clear hcj HP8
            go_wp2
            go_roundw
            case rel => exact ⟨k + 1, _, _, _, W, g, dc, R', bs2, da', dr', s', c, by omega, by go_num, HP9, HG7, HN2, HLN2⟩
            case measure => simp [intOf]; omega
    · obtain rfl : k = L := by omega
      go_wp2
      go_ret
      exact ⟨rfl, HB3.out.trans (HP1.out.low.mono HB3.out.size)⟩
theorem fourKeeps_any (v0 v1 : Value) (W : World) (o0 : RdV W (.int .u8) v0) (o1 : RdV W (.slice 1 .bool) v1) : Calls Tryz.prog 3 #[v0, v1] W fun e W' => e = .returned (.bool true) ∧ Below W.heap.size W W' := by
  obtain ⟨wv, rfl, hw⟩ := o0
  obtain ⟨a, c, l, rfl, hr⟩ := boolsAt_of o1
  exact fourKeeps_main wv (bounds_u8 hw) a l.length c l rfl W hr
end Go.Proofs.YtmidcnfmphlneaaGreat

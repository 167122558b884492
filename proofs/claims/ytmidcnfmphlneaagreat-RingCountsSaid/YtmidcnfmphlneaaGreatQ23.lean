/- Layer 12's play in memory; a step of its send. -/
import Derived.Test.YtmidcnfmphlneaaGreatQ21
import Derived.Test.YtmidcnfmphlneaaGreatQ22
namespace Go.Proofs.YtmidcnfmphlneaaGreat
open Go.RowKit
set_option linter.unusedSimpArgs false
set_option linter.unusedVariables false
theorem send_two {kc : Cf12} {wd dp bt : Int} (own : Int) (hown : 0 ≤ own ∧ own < 4294967296) (dv : Value) (l : List Int) (hl : 0 < l.length ∧ l.length ≤ 16) (w : World) (h : Cf12Ok w kc wd dp bt) (hdv : RowAt w 1 dv l.length (u32s l)) :
    Calls Tryz.prog 38 #[.agg #[.slice kc.pa 2 kc.pc, .slice (some ⟨kc.cg, kc.co, none⟩) 1 kc.cc, .int .i64 1, .slice kc.a0 1 kc.c0, .int .i64 1, .slice kc.a1 1 kc.c1], .int .i64 0, .int .u32 own, dv] w fun e w' => ∃ (O QB OBB bs g cap : Nat) (ps : List (Nat × Nat)), e = .returned (.pointer (some ⟨O, 0, none⟩)) ∧ SendNew w' w.heap.size O QB OBB bs g cap ps own (qu12 wd dp own) l ∧ Below w.heap.size w w' := by
  have hd := h.i.d
  have hb := dp_bound h.i
  have hm : 0 ≤ own % dp ∧ own % dp < dp := ⟨Int.emod_nonneg _ (by omega), Int.emod_lt_of_pos _ (by omega)⟩
  have hc := (cell_mul (pl12 wd dp) (pl12_ok h.i (3 + dp * (1 + wd)).toNat (by omega)) (own % dp) hm.1 hm.2)
  have hc1 : 0 ≤ own % dp * (1 + wd) := hc.1
  have hc2 : own % dp * (1 + wd) + (1 + wd) ≤ dp * (1 + wd) := hc.2
  have hw := h.i.w
  exact rgSend_any _ (two12 wd dp bt) (two12_small _ _ _) 0 (show 0 < 1 by decide) ⟨2, 0, 1, wd, dp, 0, bt⟩ rfl own hown (show 1 ≤ dp ∧ dp ≤ 8 by omega) _ _ _ _ _ _ (two12_src h.i) (two12_dst h.i) (two12_cell h.i (own % dp) hm.1 hm.2) dv l hl ⟨by omega, by omega⟩ w h.cfg hdv
set_option maxRecDepth 100000 in
set_option maxHeartbeats 8000000 in
theorem psend_any {w0 : World} {P B D BB : Nat} {kc : Cf12} {wd dp bt b : Int} {z : Rs} {OSz OR : Nat} {Sz R : Nat → Prop} {st ow : Nat} {sv rv : Value} {x : List Bool} (hk : Cf12Ok w0 kc wd dp bt) (hjz : JR (pl12 wd dp) b z) (hbd : z.sent ≤ 100000) (wq : World) (hz : PlayAt w0 wq P B D BB kc wd dp b z OSz OR Sz R st ow sv rv x) :
    Calls Tryz.prog 33 #[.pointer (some ⟨P, 0, none⟩)] wq fun e w' => e = .returned (.bool true) ∧ ∃ (OS st' : Nat) (S : Nat → Prop) (sv' : Value) (x' : List Bool), PlayAt w0 w' P B D BB kc wd dp b (stepS (pl12 wd dp) (if z.sOn = true then z else begS (pl12 wd dp) b z)) OS OR S R st' ow sv' rv x' ∧ Only (fun k => Sz k ∨ k = P ∨ k = D ∨ k = BB) wq w' ∧ ∀ k, S k → Sz k ∨ wq.heap.size ≤ k := by
  have hi := hk.i
  have hzn : z.n ≤ 100000 := by
    by_cases ho : z.sOn = true
    · by_cases hp : z.s.pc ≤ 2 + z.s.data.length
      · have := hjz.sa ho hp; omega
      · have h1 := hjz.sd ho
        have := hjz.sb ho (by omega)
        omega
    · have := hjz.idle (by simpa using ho); omega
  have hwd := hi.w
  have hsm := dp_bound hi
  have HK0 := Kp.mk hk
  have hP0 := hz.core.own hz.blk hz.pl
  have lP0 := blk_lt hz.blk
  obtain ⟨z1, hs⟩ : ∃ z1, (if z.sOn = true then z else begS (pl12 wd dp) b z) = z1 := ⟨_, rfl⟩
  have hS : JR (pl12 wd dp) b z1 ∧ z1.sOn = true ∧ z1.sent = z.sent ∧ z1.n = z.n ∧ z1.got = z.got ∧ Words z1.s.data ∧ (z1.s.data.length : Int) ≤ wd := by
    have key : ∀ y : Rs, JR (pl12 wd dp) b y → y.sOn = true → Words y.s.data ∧ (y.s.data.length : Int) ≤ wd := fun y hy ho => by
      rw [(hy.sd ho).1]
      exact ⟨words_rmsg _ _, rmsg_le _ _ hwd.1⟩
    rw [← hs]
    split
    · exact ⟨hjz, by assumption, rfl, rfl, rfl, key z hjz (by assumption)⟩
    · have h1 := hjz.begS (by simpa using ‹¬ z.sOn = true›)
      exact ⟨h1, rfl, rfl, rfl, rfl, key _ h1 rfl⟩
  rw [hs]
  obtain ⟨hj, ho1, hsent, hn1, hgot, hdat⟩ := hS
  have HJ0 := Kp.mk hj
  have HS0 := Kp.mk hs
  have HZ0 := Kp.mk hz
  have HJZ := Kp.mk hjz
  have HE0 := Kp.mk (And.intro hsent (And.intro hn1 hgot))
  clear hs hjz hz hk hj hsent hn1 hgot
  go_enter Tryz.func33, Tryz.ntmps33
  obtain ⟨RR, hRR⟩ : ∃ RR : Act → World → Prop, RR = fun a w => ∃ (u3 u4 u7 u8 u9 u10 u11 u12 u13 u14 u15 u16 u17 u18 u19 u20 u21 u22 u23 u24 u25 u26 u27 u28 u29 u30 u31 u32 u33 u34 u35 u36 u37 u38 u39 u40 u41 u42 u43 u44 u45 u46 u47 u48 : Value) (OS : Nat) (S : Nat → Prop), a = ⟨#[.pointer (some ⟨P, 0, none⟩), undef, .bool false, u3, u4, undef, undef, u7, u8, u9, u10, u11, u12, u13, u14, u15, u16, u17, u18, u19, u20, u21, u22, u23, u24, u25, u26, u27, u28, u29, u30, u31, u32, u33, u34, u35, u36, u37, u38, u39, u40, u41, u42, u43, u44, u45, u46, u47, u48, undef, undef, undef, undef, undef, undef, undef, undef, undef, undef, undef, undef, undef, undef, undef, undef, undef, undef, undef, undef, undef, undef, undef, undef, undef, undef, undef, undef, undef, undef, undef, undef, undef, undef, undef, undef, undef, undef, undef, undef, undef, undef, undef, undef, undef, undef, undef, undef, undef, undef, undef, undef, undef, undef, undef, undef, undef, undef, undef, undef, undef, undef, undef, undef, undef, undef, undef, undef, undef, undef, undef, undef, undef, undef, undef, undef, undef, undef, undef, undef, undef, undef, undef, undef, undef, undef, undef, undef, undef, undef, undef, undef, undef, undef, undef, undef, undef, undef, undef, undef, undef, undef, undef, undef, undef, undef, undef, undef, undef, undef, undef, undef, undef, undef, undef, undef, undef, undef, undef, undef, undef, undef, undef, undef, undef, undef, undef, undef, undef, undef, undef, undef, undef, undef, undef, undef], []⟩ ∧ Kp (PlayAt w0 w P B D BB kc wd dp b z1 OS OR S R z1.s.pc ow (.pointer (some ⟨OS, 0, none⟩)) rv x) ∧ Kp (Only (fun k => Sz k ∨ k = P ∨ k = D ∨ k = BB) wq w) ∧ Kp (∀ k, S k → Sz k ∨ wq.heap.size ≤ k) := ⟨_, rfl⟩
  have HRR := Kp.mk hRR
  clear hRR
  refine seq_join RR ?_ ?_
  · have hblk := HZ0.out.blk
    have lPz := blk_lt hblk
    intro K0 hK0
    by_cases hon : z.sOn = true
    · have hs := HS0.out
      rw [if_pos hon] at hs
      obtain ⟨e1, e2⟩ := HZ0.out.s1 hon
      have HE1 := Kp.mk e1
      have HE2 := Kp.mk e2
      have c8 : wq.cell? ⟨P, 8, none⟩ = some (.pointer (some ⟨OSz, 0, none⟩)) := (cell_blk hblk 8).trans (by rw [HE1.out]; rfl)
      have HS1 := Kp.mk hs
      clear hblk hon hs e1 e2
      go_wp2
      exact JQ.mk (by rw [HRR.out]; exact ⟨_, _, _, _, _, _, _, _, _, _, _, _, _, _, _, _, _, _, _, _, _, _, _, _, _, _, _, _, _, _, _, _, _, _, _, _, _, _, _, _, _, _, _, _, OSz, Sz, rfl, ⟨by rw [← HS1.out, ← HE2.out, ← HE1.out]; exact HZ0.out⟩, ⟨Only.refl _ _⟩, ⟨fun k hk => .inl hk⟩⟩)
    · have hs := HS0.out
      rw [if_neg hon] at hs
      have hoff : z.sOn = false := by simpa using hon
      have e1 := HZ0.out.s0 hoff
      have HE1 := Kp.mk e1
      have HS1z := Kp.mk hs
      obtain ⟨L, hL⟩ : ∃ L : Nat, 1 + z.n % wd.toNat = L := ⟨_, rfl⟩
      have hL16 : L ≤ 16 ∧ 1 ≤ L := by have := Nat.mod_lt z.n (show 0 < wd.toNat by omega); omega
      have HLL := Kp.mk hL
      have m1 : (z.n : Int) % 4294967296 = (z.n : Int) := by omega
      have m2 : IntKind.u32.wrap (z.n : Int) = (z.n : Int) := IntWalk.u32_in _ (by omega)
      have m9 : IntKind.i64.wrap (L : Int) = (L : Int) := IntWalk.i64_in _ (by omega)
      have hmk : ∀ w, _ := fun w => run_make_row' (P := Tryz.prog) 44 41 (.int .u32 0) 4 Tryz.underlying44 Tryz.infoU32 rfl .i64 .i64 L (by omega) (by omega) w
      have hre : (madeCells #[Value.int .u32 0] L) = (u32s (List.replicate L 0)).toArray := by rw [madeCells_rep]; simp [u32s]
      rw [hre] at hmk
      have HP0 : Kp (wq.heap[P]? = some (.cells #[.slice kc.pa 2 kc.pc, .slice (some ⟨kc.cg, kc.co, none⟩) 1 kc.cc, .int .i64 1, .slice kc.a0 1 kc.c0, .int .i64 1, .slice kc.a1 1 kc.c1, .pointer (some ⟨B, 0, none⟩), .pointer (some ⟨BB, 0, none⟩), .pointer none, rv, .int .u32 ((b + z.n) % 4294967296), .int .u32 ((b + z.got) % 4294967296), .int .i64 z.sent, .int .i64 z.got, .int .i64 z.n, .int .i64 st, .int .i64 ow] 77 (0, 0))) := ⟨by rw [← HE1.out]; exact hblk⟩
      have c0 := cbk HP0.out 0 (.slice kc.pa 2 kc.pc) rfl
      have c1 := cbk HP0.out 1 (.slice (some ⟨kc.cg, kc.co, none⟩) 1 kc.cc) rfl
      have c2 := cbk HP0.out 2 (.int .i64 1) rfl
      have c3 := cbk HP0.out 3 (.slice kc.a0 1 kc.c0) rfl
      have c4 := cbk HP0.out 4 (.int .i64 1) rfl
      have c5 := cbk HP0.out 5 (.slice kc.a1 1 kc.c1) rfl
      have c6 := cbk HP0.out 6 (.pointer (some ⟨B, 0, none⟩)) rfl
      have c7 := cbk HP0.out 7 (.pointer (some ⟨BB, 0, none⟩)) rfl
      have c8 := cbk HP0.out 8 (.pointer none) rfl
      have c9 := cbk HP0.out 9 (rv) rfl
      have c10 := cbk HP0.out 10 (.int .u32 ((b + z.n) % 4294967296)) rfl
      have c11 := cbk HP0.out 11 (.int .u32 ((b + z.got) % 4294967296)) rfl
      have c12 := cbk HP0.out 12 (.int .i64 z.sent) rfl
      have c13 := cbk HP0.out 13 (.int .i64 z.got) rfl
      have c14 := cbk HP0.out 14 (.int .i64 z.n) rfl
      have c15 := cbk HP0.out 15 (.int .i64 st) rfl
      have c16 := cbk HP0.out 16 (.int .i64 ow) rfl
      clear hblk hon hs e1 hre hL
      go_wp2_with fail
      have hps := psize_any z.n (by omega) P wq (HK0.out.below HZ0.out.core.low) c1 lPz
      rw [HLL.out] at hps
      refine hps.mono ?_
      clear hps
      rintro e w9 ⟨rfl, rfl⟩
      go_wp2_with fail
      clear hmk c0 c1 c2 c3 c4 c5 c6 c7 c8 c9 c10 c11 c12 c13 c14 c15 c16
      obtain ⟨G, hG⟩ : ∃ G, w9.heap.size = G := ⟨_, rfl⟩
      rw [hG]
      have hGP : P ≠ G := by omega
      have hG0 : w0.heap.size ≤ G := by have := HZ0.out.core.low.size; omega
      have HC1 : Kp (Core w0 (w9.alloc (.cells (u32s (List.replicate L 0)).toArray 41)) P B D BB wd dp z OSz OR Sz R x) := ⟨HZ0.out.core.al _⟩
      have HP1 : Kp ((w9.alloc (.cells (u32s (List.replicate L 0)).toArray 41)).heap[P]? = some (.cells #[.slice kc.pa 2 kc.pc, .slice (some ⟨kc.cg, kc.co, none⟩) 1 kc.cc, .int .i64 1, .slice kc.a0 1 kc.c0, .int .i64 1, .slice kc.a1 1 kc.c1, .pointer (some ⟨B, 0, none⟩), .pointer (some ⟨BB, 0, none⟩), .pointer none, rv, .int .u32 ((b + z.n) % 4294967296), .int .u32 ((b + z.got) % 4294967296), .int .i64 z.sent, .int .i64 z.got, .int .i64 z.n, .int .i64 st, .int .i64 ow] 77 (0, 0))) := ⟨blk_al HP0.out _⟩
      have HG1 : Kp ((w9.alloc (.cells (u32s (List.replicate L 0)).toArray 41)).heap[G]? = some (.cells (u32s (List.replicate L 0)).toArray 41 (0, 0))) := ⟨blk_at hG _⟩
      have HF1 : Kp (Only (fun k => Sz k ∨ k = P ∨ k = D ∨ k = BB) w9 (w9.alloc (.cells (u32s (List.replicate L 0)).toArray 41))) := ⟨Only.of_below (below_al (Below.refl _ _) _)⟩
      have HGN : Kp (¬ Sz G ∧ ¬ R G ∧ G ≠ B ∧ G ≠ D ∧ G ≠ BB) := ⟨by
        have hc := HZ0.out.core
        obtain ⟨b9, hb9, _⟩ := hc.bell
        have l1 := blk_lt hb9
        have l2 := blk_lt hc.mem.head
        have l3 := blk_lt hc.mem.words
        exact ⟨fun e => by have := (hc.sS _ e).2.1; omega, fun e => by have := (hc.sR _ e).2.1; omega, by omega, by omega, by omega⟩⟩
      have HOF := Kp.mk hoff
      have HG9z := Kp.mk hG
      clear HP0 hG hoff
      generalize (w9.alloc (.cells (u32s (List.replicate L 0)).toArray 41)) = wg at HC1 HP1 HG1 HF1 ⊢
      go_loopw [21] (fun i wr => ∃ k : Nat, k ≤ L ∧ i = .int .i64 k ∧ Kp (wr.heap[P]? = some (.cells #[.slice kc.pa 2 kc.pc, .slice (some ⟨kc.cg, kc.co, none⟩) 1 kc.cc, .int .i64 1, .slice kc.a0 1 kc.c0, .int .i64 1, .slice kc.a1 1 kc.c1, .pointer (some ⟨B, 0, none⟩), .pointer (some ⟨BB, 0, none⟩), .pointer none, rv, .int .u32 ((b + z.n) % 4294967296), .int .u32 ((b + z.got) % 4294967296), .int .i64 z.sent, .int .i64 z.got, .int .i64 z.n, .int .i64 st, .int .i64 ow] 77 (0, 0))) ∧ Kp (Core w0 wr P B D BB wd dp z OSz OR Sz R x) ∧ Kp (Only (fun k => Sz k ∨ k = P ∨ k = D ∨ k = BB) w9 wr) ∧ Kp (wr.heap[G]? = some (.cells (u32s (List.replicate k (z.n : Int) ++ List.replicate (L - k) 0)).toArray 41 (0, 0)))) (fun i wr => L - (intOf i).toNat)
      case atStart => exact ⟨0, Nat.zero_le _, rfl, HP1, HC1, HF1, ⟨by rw [List.replicate_zero, List.nil_append, Nat.sub_zero]; exact HG1.out⟩⟩
      case round =>
        obtain ⟨k, hk, rfl, HP, HC, HF, HGk⟩ := hrel
        clear HP1 HC1 HF1 HG1
        by_cases hkl : k < L
        · have d14 := cbk HP.out 14 (.int .i64 (z.n : Int)) rfl
          have dk : wr.cell? ⟨G, k, none⟩ = some (.int .u32 0) := (cell_blk HGk.out k).trans (by rw [List.getElem?_toArray]; exact rep_at12 _ k L hkl)
          have fk := frozen_blk HGk.out k
          have lG := blk_lt HGk.out
          have lPr := blk_lt HP.out
          have z1' : (0 : Int) ≤ (k : Int) := by omega
          have z2' : (k : Int) < (L : Int) := by omega
          have HG9 : Kp ((wr.setCell ⟨G, k, none⟩ (.int .u32 (z.n : Int))).heap[G]? = some (.cells (u32s (List.replicate (k + 1) (z.n : Int) ++ List.replicate (L - (k + 1)) 0)).toArray 41 (0, 0))) := ⟨by rw [← rep_set12 _ k L hkl]; exact blk_u32set12 HGk.out k _⟩
          have HP9 : Kp ((wr.setCell ⟨G, k, none⟩ (.int .u32 (z.n : Int))).heap[P]? = some (.cells #[.slice kc.pa 2 kc.pc, .slice (some ⟨kc.cg, kc.co, none⟩) 1 kc.cc, .int .i64 1, .slice kc.a0 1 kc.c0, .int .i64 1, .slice kc.a1 1 kc.c1, .pointer (some ⟨B, 0, none⟩), .pointer (some ⟨BB, 0, none⟩), .pointer none, rv, .int .u32 ((b + z.n) % 4294967296), .int .u32 ((b + z.got) % 4294967296), .int .i64 z.sent, .int .i64 z.got, .int .i64 z.n, .int .i64 st, .int .i64 ow] 77 (0, 0))) := ⟨blk_set_ne (p := ⟨G, k, none⟩) HP.out hGP _⟩
          have HC9 : Kp (Core w0 (wr.setCell ⟨G, k, none⟩ (.int .u32 (z.n : Int))) P B D BB wd dp z OSz OR Sz R x) := ⟨HC.out.set G k _ ⟨hG0, HGN.out⟩⟩
          have HF9 : Kp (Only (fun k => Sz k ∨ k = P ∨ k = D ∨ k = BB) w9 (wr.setCell ⟨G, k, none⟩ (.int .u32 (z.n : Int)))) := ⟨HF.out.trans' (Only.of_but (X := fun i => i = G) (ButS.set (ButS.refl [G] wr) (p := ⟨G, k, none⟩) (by simp) _) (by simp)) (fun i hi hx => by have := HG9z.out; omega)⟩
          clear HP HC HF HGk
          go_wp2
          go_roundw
          case rel => exact ⟨k + 1, by omega, by go_num, HP9, HC9, HF9, HG9⟩
          case measure => simp [intOf]; omega
        · obtain rfl : k = L := by omega
          obtain ⟨l, hl⟩ : ∃ l, rmsg wd z.n = l := ⟨_, rfl⟩
          have HRL := Kp.mk hl
          have hlk : l.length = k := by rw [← hl, rmsg_len]; exact HLL.out
          have hmsg : List.replicate k (z.n : Int) ++ List.replicate (k - k) 0 = l := by
            rw [← hl, Nat.sub_self, List.replicate_zero, List.append_nil, rmsg, HLL.out, m1]
          have hgk := HGk.out
          rw [hmsg] at hgk
          have HG2 := Kp.mk hgk
          have hl16 : 0 < l.length ∧ l.length ≤ 16 := by omega
          have HROW : Kp (RowAt wr 1 (.slice (some ⟨G, 0, none⟩) k k) l.length (u32s l)) := ⟨by rw [← hlk]; exact row_blk HG2.out rfl (by rw [u32s_len, Nat.mul_one]) (by omega)⟩
          have HP1 := HP
          have HC1 := HC
          have HF1 := HF
          have lG := blk_lt hgk
          have lPr := blk_lt HP.out
          have hwr : w9.heap.size ≤ wr.heap.size := HF.out.size
          have hown : 0 ≤ (b + (z.n : Int)) % 4294967296 ∧ (b + (z.n : Int)) % 4294967296 < 4294967296 := by omega
          obtain ⟨tl, htl⟩ : ∃ tl, (b + (z.n : Int)) % 4294967296 = tl := ⟨_, rfl⟩
          have HTL := Kp.mk htl
          rw [htl] at HP1 hown
          clear hgk HGk hmsg hl HP HC HF HG2 htl
          have c0 := cbk HP1.out 0 (.slice kc.pa 2 kc.pc) rfl
          have c1 := cbk HP1.out 1 (.slice (some ⟨kc.cg, kc.co, none⟩) 1 kc.cc) rfl
          have c2 := cbk HP1.out 2 (.int .i64 1) rfl
          have c3 := cbk HP1.out 3 (.slice kc.a0 1 kc.c0) rfl
          have c4 := cbk HP1.out 4 (.int .i64 1) rfl
          have c5 := cbk HP1.out 5 (.slice kc.a1 1 kc.c1) rfl
          have c6 := cbk HP1.out 6 (.pointer (some ⟨B, 0, none⟩)) rfl
          have c7 := cbk HP1.out 7 (.pointer (some ⟨BB, 0, none⟩)) rfl
          have c8 := cbk HP1.out 8 (.pointer none) rfl
          have c9 := cbk HP1.out 9 (rv) rfl
          have c10 := cbk HP1.out 10 (.int .u32 tl) rfl
          have c11 := cbk HP1.out 11 (.int .u32 ((b + z.got) % 4294967296)) rfl
          have c12 := cbk HP1.out 12 (.int .i64 z.sent) rfl
          have c13 := cbk HP1.out 13 (.int .i64 z.got) rfl
          have c14 := cbk HP1.out 14 (.int .i64 z.n) rfl
          have c15 := cbk HP1.out 15 (.int .i64 st) rfl
          have c16 := cbk HP1.out 16 (.int .i64 ow) rfl
          go_wp2_with fail
          refine JQ.region (fun a wj => ∃ (O1 : Nat) (S1 : Nat → Prop) (u3 u4 u7 u8 u9 u10 u11 u12 u13 u14 u15 u16 u17 u18 u19 u20 u21 u22 u23 u24 u25 u26 u27 u28 u29 u30 u31 u32 u33 u34 u35 u36 u37 u38 u39 u40 u41 u42 u43 u44 u45 u46 u47 u48 : Value), a = ⟨#[.pointer (some ⟨P, 0, none⟩), undef, .bool false, u3, u4, undef, undef, u7, u8, u9, u10, u11, u12, u13, u14, u15, u16, u17, u18, u19, u20, u21, u22, u23, u24, u25, u26, u27, u28, u29, u30, u31, u32, u33, u34, u35, u36, u37, u38, u39, u40, u41, u42, u43, u44, u45, u46, u47, u48, undef, undef, undef, undef, undef, undef, undef, undef, undef, undef, undef, undef, undef, undef, undef, undef, undef, undef, undef, undef, undef, undef, undef, undef, undef, undef, undef, undef, undef, undef, undef, undef, undef, undef, undef, undef, undef, undef, undef, undef, undef, undef, undef, undef, undef, undef, undef, undef, undef, undef, undef, undef, undef, undef, undef, undef, undef, undef, undef, undef, undef, undef, undef, undef, undef, undef, undef, undef, undef, undef, undef, undef, undef, undef, undef, undef, undef, undef, undef, undef, undef, undef, undef, undef, undef, undef, undef, undef, undef, undef, undef, undef, undef, undef, undef, undef, undef, undef, undef, undef, undef, undef, undef, undef, undef, undef, undef, undef, undef, undef, undef, undef, undef, undef, undef, undef, undef, undef, undef, undef, undef, undef, undef, undef, undef, undef, undef, undef, undef, undef, undef, undef, undef, undef, undef, undef], []⟩ ∧ Kp (wj.heap[P]? = some (.cells #[.slice kc.pa 2 kc.pc, .slice (some ⟨kc.cg, kc.co, none⟩) 1 kc.cc, .int .i64 1, .slice kc.a0 1 kc.c0, .int .i64 1, .slice kc.a1 1 kc.c1, .pointer (some ⟨B, 0, none⟩), .pointer (some ⟨BB, 0, none⟩), .pointer (some ⟨O1, 0, none⟩), rv, .int .u32 tl, .int .u32 ((b + z.got) % 4294967296), .int .i64 z.sent, .int .i64 z.got, .int .i64 z.n, .int .i64 st, .int .i64 ow] 77 (0, 0))) ∧ Kp (Core w0 wj P B D BB wd dp { z with s := ⟨0, tl, l, (qu12 wd dp tl).cell⟩, sOn := true } O1 OR S1 R x) ∧ Kp (Only (fun k => Sz k ∨ k = P ∨ k = D ∨ k = BB) w9 wj) ∧ Kp (∀ k, S1 k → w9.heap.size ≤ k) ∧ Kp (w0.heap.size ≤ P ∧ ¬ S1 P ∧ ¬ R P ∧ P ≠ B ∧ P ≠ D ∧ P ≠ BB)) ?_ ?_
          · have HX0 : Kp (wr.heap[P]? = some (.cells #[.slice kc.pa 2 kc.pc, .slice (some ⟨kc.cg, kc.co, none⟩) 1 kc.cc, .int .i64 1, .slice kc.a0 1 kc.c0, .int .i64 1, .slice kc.a1 1 kc.c1, .pointer (some ⟨B, 0, none⟩), .pointer (some ⟨BB, 0, none⟩), .pointer none, rv, .int .u32 tl, .int .u32 ((b + z.got) % 4294967296), .int .i64 z.sent, .int .i64 z.got, .int .i64 z.n, .int .i64 st, .int .i64 ow] 77 (0, 0))) := ⟨HP1.out⟩
            refine held_start_gen (S := (fun w' : World => ∀ o, o ≠ 8 → w'.cell? ⟨P, o, none⟩ = wr.cell? ⟨P, o, none⟩)) (by kernel_rfl) (fun wz : World => Kp (wz.heap[P]? = some (.cells #[.slice kc.pa 2 kc.pc, .slice (some ⟨kc.cg, kc.co, none⟩) 1 kc.cc, .int .i64 1, .slice kc.a0 1 kc.c0, .int .i64 1, .slice kc.a1 1 kc.c1, .pointer (some ⟨B, 0, none⟩), .pointer (some ⟨BB, 0, none⟩), .pointer none, rv, .int .u32 tl, .int .u32 ((b + z.got) % 4294967296), .int .i64 z.sent, .int .i64 z.got, .int .i64 z.n, .int .i64 st, .int .i64 ow] 77 (0, 0))) ∧ Kp (Core w0 wz P B D BB wd dp z OSz OR Sz R x) ∧ Kp (Only (fun k => Sz k ∨ k = P ∨ k = D ∨ k = BB) w9 wz) ∧ Kp (RowAt wz 1 (.slice (some ⟨G, 0, none⟩) k k) l.length (u32s l)) ∧ wr.heap.size ≤ wz.heap.size) ⟨⟨blk_dr HP1.out⟩, ⟨HC1.out.dr⟩, ⟨HF1.out.trans (Only.of_below (below_dr (Below.refl _ _)))⟩, ⟨HROW.out.below (below_dr (Below.refl _ _))⟩, Nat.le_refl _⟩ (xc_of (fz' := (0, 0)) HX0.out (blk_dr HP1.out) 8 (fun _ _ => rfl)) (fun wd0 hRn hHeld => ?_)
            clear HP1 HC1 HF1 HROW
            obtain ⟨HP1, HC1, HF1, HROW, hsz⟩ := hRn
            refine wtk 0 ?_ rfl (.inl ⟨by rfl, ?_⟩) ?_
            rotate_left 1
            · (intro w hSw; go_simp; try with_reducible rfl)
            try simp only [Act.put, ls0, ls1, ls2]
            refine wtk 1 ?_ rfl (.inl ⟨by rfl, ?_⟩) ?_
            rotate_left 1
            · (intro w hSw; go_simp; try with_reducible rfl)
            try simp only [Act.put, ls0, ls1, ls2]
            refine wtk 2 ?_ rfl (.inl ⟨by rfl, ?_⟩) ?_
            rotate_left 1
            · (intro w hSw; go_simp; try with_reducible rfl)
            try simp only [Act.put, ls0, ls1, ls2]
            refine wtk 3 ?_ rfl (.inl ⟨by rfl, ?_⟩) ?_
            rotate_left 1
            · (intro w hSw; go_simp; try with_reducible rfl)
            try simp only [Act.put, ls0, ls1, ls2]
            refine wtk 4 ?_ rfl (.inl ⟨by rfl, ?_⟩) ?_
            rotate_left 1
            · (intro w hSw; go_simp; try with_reducible rfl)
            try simp only [Act.put, ls0, ls1, ls2]
            refine wtk 5 ?_ rfl (.inl ⟨by rfl, ?_⟩) ?_
            rotate_left 1
            · (intro w hSw; go_simp; try with_reducible rfl)
            try simp only [Act.put, ls0, ls1, ls2]
            refine wtk 6 ?_ rfl (.inl ⟨by rfl, ?_⟩) ?_
            rotate_left 1
            · (intro w hSw; go_simp; try with_reducible rfl)
            try simp only [Act.put, ls0, ls1, ls2]
            refine wtk 7 ?_ rfl (.inl ⟨by rfl, ?_⟩) ?_
            rotate_left 1
            · (intro w hSw; go_simp; try with_reducible rfl)
            try simp only [Act.put, ls0, ls1, ls2]
            refine wtk 8 ?_ rfl (.inl ⟨by rfl, ?_⟩) ?_
            rotate_left 1
            · (intro w hSw; go_simp; try with_reducible rfl)
            try simp only [Act.put, ls0, ls1, ls2]
            refine wtk 9 ?_ rfl (.inl ⟨by rfl, ?_⟩) ?_
            rotate_left 1
            · (intro w hSw; go_simp; try with_reducible rfl)
            try simp only [Act.put, ls0, ls1, ls2]
            refine wrd [10] ?_
            refine (arc rfl (fun K hK => ?_) arn)
            go_simp
            go_at_call 38
            refine (send_two tl hown _ l hl16 _ (HK0.out.below HC1.out.low) HROW.out).mono ?_
            rintro e w5 ⟨O1, QB1, OB1, bs1, g1, cap1, ps1, rfl, hN1, hb⟩
            obtain ⟨S1, hS1⟩ : ∃ S1 : Nat → Prop, S1 = fun k => wd0.heap.size ≤ k ∧ k < w5.heap.size := ⟨_, rfl⟩
            have hPw := blk_lt HP1.out
            try go_wp2_with fail
            refine out_gen hK _ _ (fun wz : World => Kp (wz.heap[P]? = some (.cells #[.slice kc.pa 2 kc.pc, .slice (some ⟨kc.cg, kc.co, none⟩) 1 kc.cc, .int .i64 1, .slice kc.a0 1 kc.c0, .int .i64 1, .slice kc.a1 1 kc.c1, .pointer (some ⟨B, 0, none⟩), .pointer (some ⟨BB, 0, none⟩), .pointer none, rv, .int .u32 tl, .int .u32 ((b + z.got) % 4294967296), .int .i64 z.sent, .int .i64 z.got, .int .i64 z.n, .int .i64 st, .int .i64 ow] 77 (0, 0))) ∧ Kp (Only (fun k => Sz k ∨ k = P ∨ k = D ∨ k = BB) w9 wz) ∧ Kp (Core w0 wz P B D BB wd dp { z with s := ⟨0, tl, l, (qu12 wd dp tl).cell⟩, sOn := true } O1 OR S1 R x) ∧ Kp (∀ k, S1 k → w9.heap.size ≤ k) ∧ Kp (w0.heap.size ≤ P ∧ ¬ S1 P ∧ ¬ R P ∧ P ≠ B ∧ P ≠ D ∧ P ≠ BB) ∧ wd0.heap.size ≤ wz.heap.size) ⟨⟨blk_below HP1.out hb⟩, ⟨HF1.out.trans (Only.of_below hb)⟩, ⟨by rw [hS1]; exact HC1.out.newS hPw hb hN1 hl16.2 hown⟩, ⟨by rw [hS1]; rintro k ⟨hk, _⟩; omega⟩, ⟨⟨hP0.1, (by rw [hS1]; rintro ⟨hk, _⟩; omega), hP0.2.2⟩⟩, hb.size⟩ (xc_of (fz' := (0, 0)) HX0.out (blk_below HP1.out hb) 8 (fun _ _ => rfl)) (fun wd1 hRn hHn => ?_)
            clear hK K hHeld HP1 HC1 HF1 HROW hb hN1 hS1 hPw
            obtain ⟨HP1, HF1, HC1, HS1, HPN, hsz1⟩ := hRn
            have hHeld := hHn
            clear hHn
            try simp only [Act.put, ls0, ls1, ls2]
            refine wtk 11 ?_ rfl (.inl ⟨by rfl, ?_⟩) ?_
            rotate_left 1
            · (intro w hSw; go_simp; try with_reducible rfl)
            try simp only [Act.put, ls0, ls1, ls2]
            refine wtk 12 ?_ rfl (.inl ⟨by rfl, ?_⟩) ?_
            rotate_left 1
            · (intro w hSw; go_simp; try with_reducible rfl)
            try simp only [Act.put, ls0, ls1, ls2]
            refine wrd [13] ?_
            refine (arc rfl (fun K hK => ?_) arn)
            have hP1 := HPN.out
            have sd := cbk HP1.out 8 (.pointer none) rfl
            have sf := frozen_blk HP1.out 8
            have sl := blk_lt HP1.out
            go_simp
            try go_wp2_with fail
            refine out_gen hK _ _ (fun wz : World => Kp (wz.heap[P]? = some (.cells #[.slice kc.pa 2 kc.pc, .slice (some ⟨kc.cg, kc.co, none⟩) 1 kc.cc, .int .i64 1, .slice kc.a0 1 kc.c0, .int .i64 1, .slice kc.a1 1 kc.c1, .pointer (some ⟨B, 0, none⟩), .pointer (some ⟨BB, 0, none⟩), .pointer (some ⟨O1, 0, none⟩), rv, .int .u32 tl, .int .u32 ((b + z.got) % 4294967296), .int .i64 z.sent, .int .i64 z.got, .int .i64 z.n, .int .i64 st, .int .i64 ow] 77 (0, 0))) ∧ Kp (Only (fun k => Sz k ∨ k = P ∨ k = D ∨ k = BB) w9 wz) ∧ Kp (Core w0 wz P B D BB wd dp { z with s := ⟨0, tl, l, (qu12 wd dp tl).cell⟩, sOn := true } O1 OR S1 R x) ∧ Kp (∀ k, S1 k → w9.heap.size ≤ k) ∧ Kp (w0.heap.size ≤ P ∧ ¬ S1 P ∧ ¬ R P ∧ P ≠ B ∧ P ≠ D ∧ P ≠ BB) ∧ wd1.heap.size ≤ wz.heap.size) ⟨⟨(blk_set HP1.out 8 _).trans (by simp only [ls0, ls1, ls2])⟩, ⟨HF1.out.trans (Only.of_but (ButS.set (ButS.refl [P] _) (p := ⟨P, 8, none⟩) (by simp) _) (by simp))⟩, ⟨HC1.out.set P 8 _ hP1⟩, ⟨HS1.out⟩, ⟨HPN.out⟩, (by simp [World.setCell])⟩ (xc_of (fz' := (0, 0)) HX0.out ((blk_set HP1.out 8 _).trans (by simp only [ls0, ls1, ls2])) 8 (xc_ne (cs := #[.slice kc.pa 2 kc.pc, .slice (some ⟨kc.cg, kc.co, none⟩) 1 kc.cc, .int .i64 1, .slice kc.a0 1 kc.c0, .int .i64 1, .slice kc.a1 1 kc.c1, .pointer (some ⟨B, 0, none⟩), .pointer (some ⟨BB, 0, none⟩), .pointer none, rv, .int .u32 tl, .int .u32 ((b + z.got) % 4294967296), .int .i64 z.sent, .int .i64 z.got, .int .i64 z.n, .int .i64 st, .int .i64 ow]) 8 (.pointer (some ⟨O1, 0, none⟩)))) (fun wd2 hRn hHn => ?_)
            clear hK K hHeld HP1 HF1 HC1 HS1 HPN sd sf sl
            obtain ⟨HP1, HF1, HC1, HS1, HPN, hsz2⟩ := hRn
            have hHeld := hHn
            clear hHn
            try simp only [Act.put, ls0, ls1, ls2]
            refine wpAnyH_done (by kernel_rfl) ?_ _
            clear HX0
            exact JQ.mk ⟨O1, S1, _, _, _, _, _, _, _, _, _, _, _, _, _, _, _, _, _, _, _, _, _, _, _, _, _, _, _, _, _, _, _, _, _, _, _, _, _, _, _, _, _, _, _, _, rfl, HP1, HC1, HF1, HS1, HPN⟩
          · rintro a wj ⟨O1, S1, u3, u4, u7, u8, u9, u10, u11, u12, u13, u14, u15, u16, u17, u18, u19, u20, u21, u22, u23, u24, u25, u26, u27, u28, u29, u30, u31, u32, u33, u34, u35, u36, u37, u38, u39, u40, u41, u42, u43, u44, u45, u46, u47, u48, rfl, HP1, HC1, HF1, HS1, HPN⟩
            have lPj := blk_lt HP1.out
            have c0 := cbk HP1.out 0 (.slice kc.pa 2 kc.pc) rfl
            have c1 := cbk HP1.out 1 (.slice (some ⟨kc.cg, kc.co, none⟩) 1 kc.cc) rfl
            have c2 := cbk HP1.out 2 (.int .i64 1) rfl
            have c3 := cbk HP1.out 3 (.slice kc.a0 1 kc.c0) rfl
            have c4 := cbk HP1.out 4 (.int .i64 1) rfl
            have c5 := cbk HP1.out 5 (.slice kc.a1 1 kc.c1) rfl
            have c6 := cbk HP1.out 6 (.pointer (some ⟨B, 0, none⟩)) rfl
            have c7 := cbk HP1.out 7 (.pointer (some ⟨BB, 0, none⟩)) rfl
            have c8 := cbk HP1.out 8 (.pointer (some ⟨O1, 0, none⟩)) rfl
            have c9 := cbk HP1.out 9 (rv) rfl
            have c10 := cbk HP1.out 10 (.int .u32 tl) rfl
            have c11 := cbk HP1.out 11 (.int .u32 ((b + z.got) % 4294967296)) rfl
            have c12 := cbk HP1.out 12 (.int .i64 z.sent) rfl
            have c13 := cbk HP1.out 13 (.int .i64 z.got) rfl
            have c14 := cbk HP1.out 14 (.int .i64 z.n) rfl
            have c15 := cbk HP1.out 15 (.int .i64 st) rfl
            have c16 := cbk HP1.out 16 (.int .i64 ow) rfl
            have cf15 := frozen_blk HP1.out 15
            go_wp2
            have hz1 : { z with s := ⟨0, tl, l, (qu12 wd dp tl).cell⟩, sOn := true } = z1 := by
              rw [← HS1z.out, ← HTL.out, ← HRL.out, qu12_cell]
              rfl
            have hC2 := HC1.out
            rw [hz1] at hC2
            have e_n : z1.n = z.n := HE0.out.2.1
            have e_g : z1.got = z.got := HE0.out.2.2
            have e_s : z1.sent = z.sent := HE0.out.1
            have e_pc : z1.s.pc = 0 := by rw [← hz1]
            have e_r : z1.r = z.r := by rw [← hz1]
            have e_o : z1.rOn = z.rOn := by rw [← hz1]
            have e_so : z1.sOn = true := by rw [← hz1]
            refine JQ.mk ?_
            rw [HRR.out]
            refine ⟨_, _, _, _, _, _, _, _, _, _, _, _, _, _, _, _, _, _, _, _, _, _, _, _, _, _, _, _, _, _, _, _, _, _, _, _, _, _, _, _, _, _, _, _, O1, S1, rfl, ⟨?_⟩, ⟨?_⟩, ⟨fun k hk => .inr (HS1.out k hk)⟩⟩
            · refine ⟨?_, fun e => (by rw [e_so] at e; cases e), fun _ => ⟨rfl, rfl⟩, fun e => HZ0.out.r0 (e_o ▸ e), fun e => (by rw [e_r]; exact HZ0.out.r1 (e_o ▸ e)), hC2.set P 15 _ HPN.out, hP0.1⟩
              rw [e_n, e_g, e_s, e_pc, HTL.out]
              exact (blk_set HP1.out 15 _).trans (by first | (simp only [ls0, ls1, ls2]; done) | rfl)
            · exact HF1.out.trans (Only.of_but (ButS.set (ButS.refl [P] wj) (p := ⟨P, 15, none⟩) (by simp) _) (by simp))
  · intro a w hRa
    rw [HRR.out] at hRa
    obtain ⟨u3, u4, u7, u8, u9, u10, u11, u12, u13, u14, u15, u16, u17, u18, u19, u20, u21, u22, u23, u24, u25, u26, u27, u28, u29, u30, u31, u32, u33, u34, u35, u36, u37, u38, u39, u40, u41, u42, u43, u44, u45, u46, u47, u48, OS, S, rfl, HPA, HF1, HSS⟩ := hRa
    have h := HPA.out
    clear HPA HS0 HZ0 HJZ HRR
    have HP1 := Kp.mk h.blk
    have HC1 := Kp.mk h.core
    have HRZ := Kp.mk (And.intro h.r0 h.r1)
    have hxl := h.core.xl
    have hSP : ¬ S P := fun e => (h.core.sS _ e).2.2.1 rfl
    have hSlt : ∀ k, S k → k < w.heap.size := fun k hk => (h.core.sS k hk).2.1
    have lD := blk_lt h.core.mem.words
    have lB := blk_lt h.core.mem.head
    have hRlt : ∀ k, R k → k < w.heap.size := fun k hk => (h.core.sR k hk).2.1
    have lBB := h.core.bell.lt
    have lP := blk_lt h.blk
    have hwz : wq.heap.size ≤ w.heap.size := HF1.out.size
    obtain ⟨e_se1, e_n1, e_g1⟩ := HE0.out
    have hz1n : z1.n ≤ 100000 := by omega
    have hz1s : z1.sent ≤ 100000 := by omega
    have hz1g : z1.got ≤ z1.sent := HJ0.out.le
    have hpc40 : z1.s.pc ≤ 3 + z1.s.data.length := (HJ0.out.sd ho1).2.2
    have hPn : ¬ (S P ∨ P = D ∨ P = BB) := by
      rintro (h1 | h1 | h1)
      · exact hSP h1
      · exact hP0.2.2.2.2.1 h1
      · exact hP0.2.2.2.2.2 h1
    have hOSlt : OS < w.heap.size := by
      obtain ⟨own, QB, OBB, g, cap, ps, hS⟩ := h.core.s1 ho1
      exact blk_lt hS.op
    have h0w := h.core.low.size
    obtain ⟨d, hd⟩ : ∃ d, sDid (pl12 wd dp) z1.ws z1.s = d := ⟨_, rfl⟩
    have HDD := Kp.mk hd
    clear h hd e_se1 e_n1 e_g1 HE0
    have c0 := cbk HP1.out 0 (.slice kc.pa 2 kc.pc) rfl
    have c1 := cbk HP1.out 1 (.slice (some ⟨kc.cg, kc.co, none⟩) 1 kc.cc) rfl
    have c2 := cbk HP1.out 2 (.int .i64 1) rfl
    have c3 := cbk HP1.out 3 (.slice kc.a0 1 kc.c0) rfl
    have c4 := cbk HP1.out 4 (.int .i64 1) rfl
    have c5 := cbk HP1.out 5 (.slice kc.a1 1 kc.c1) rfl
    have c6 := cbk HP1.out 6 (.pointer (some ⟨B, 0, none⟩)) rfl
    have c7 := cbk HP1.out 7 (.pointer (some ⟨BB, 0, none⟩)) rfl
    have c8 := cbk HP1.out 8 (.pointer (some ⟨OS, 0, none⟩)) rfl
    have c9 := cbk HP1.out 9 (rv) rfl
    have c10 := cbk HP1.out 10 (.int .u32 ((b + z1.n) % 4294967296)) rfl
    have c11 := cbk HP1.out 11 (.int .u32 ((b + z1.got) % 4294967296)) rfl
    have c12 := cbk HP1.out 12 (.int .i64 z1.sent) rfl
    have c13 := cbk HP1.out 13 (.int .i64 z1.got) rfl
    have c14 := cbk HP1.out 14 (.int .i64 z1.n) rfl
    have c15 := cbk HP1.out 15 (.int .i64 z1.s.pc) rfl
    have c16 := cbk HP1.out 16 (.int .i64 ow) rfl
    go_wp2_with fail
    refine JQ.region (fun a wj => ∃ (T : Nat) (u3 u4 u7 u8 u9 u10 u11 u12 u13 u14 u15 u16 u17 u18 u19 u20 u21 u22 u23 u24 u25 u26 u27 u28 u29 u30 u31 u32 u33 u34 u35 u36 u37 u38 u39 u40 u41 u42 u43 u44 u45 u46 u47 u48 u49 u50 u51 u52 u53 u54 u55 u56 u57 u58 u59 u60 u61 : Value), a = ⟨#[.pointer (some ⟨P, 0, none⟩), undef, .bool false, u3, u4, .pointer (some ⟨T, 0, none⟩), undef, u7, u8, u9, u10, u11, u12, u13, u14, u15, u16, u17, u18, u19, u20, u21, u22, u23, u24, u25, u26, u27, u28, u29, u30, u31, u32, u33, u34, u35, u36, u37, u38, u39, u40, u41, u42, u43, u44, u45, u46, u47, u48, u49, u50, u51, u52, u53, u54, u55, u56, u57, u58, u59, u60, u61, undef, undef, undef, undef, undef, undef, undef, undef, undef, undef, undef, undef, undef, undef, undef, undef, undef, undef, undef, undef, undef, undef, undef, undef, undef, undef, undef, undef, undef, undef, undef, undef, undef, undef, undef, undef, undef, undef, undef, undef, undef, undef, undef, undef, undef, undef, undef, undef, undef, undef, undef, undef, undef, undef, undef, undef, undef, undef, undef, undef, undef, undef, undef, undef, undef, undef, undef, undef, undef, undef, undef, undef, undef, undef, undef, undef, undef, undef, undef, undef, undef, undef, undef, undef, undef, undef, undef, undef, undef, undef, undef, undef, undef, undef, undef, undef, undef, undef, undef, undef, undef, undef, undef, undef, undef, undef, undef, undef, undef, undef, undef, undef, undef, undef, undef, undef, undef, undef, undef, undef, undef, undef, undef], []⟩ ∧ Kp (wj.heap[P]? = some (.cells #[.slice kc.pa 2 kc.pc, .slice (some ⟨kc.cg, kc.co, none⟩) 1 kc.cc, .int .i64 1, .slice kc.a0 1 kc.c0, .int .i64 1, .slice kc.a1 1 kc.c1, .pointer (some ⟨B, 0, none⟩), .pointer (some ⟨BB, 0, none⟩), .pointer (some ⟨OS, 0, none⟩), rv, .int .u32 ((b + z1.n) % 4294967296), .int .u32 ((b + z1.got) % 4294967296), .int .i64 z1.sent, .int .i64 z1.got, .int .i64 z1.n, .int .i64 z1.s.pc, .int .i64 ow] 77 (0, 0))) ∧ Kp (Core w0 wj P B D BB wd dp (stepS (pl12 wd dp) z1) OS OR S R (if z1.s.pc = 3 + z1.s.data.length then ringB x 1 else x)) ∧ Kp (Only (fun k => Sz k ∨ k = P ∨ k = D ∨ k = BB) wq wj) ∧ Kp (∃ lv, wj.heap[OS]? = some (.cells #[.int .u32 (sNext (pl12 wd dp) z1.ws z1.s).own, lv] 132 (0, 0))) ∧ Kp (wj.heap[T]? = some (.cells #[.bool d.done, .int .i64 d.code, .slice none 0 0, .bool d.valid, .int .i64 d.count, .bool d.mark, .bool d.ring, .bool d.stamped, .int .i64 d.buffer] 64 (0, 0)))) ?_ ?_
    · have HX0 : Kp (w.heap[P]? = some (.cells #[.slice kc.pa 2 kc.pc, .slice (some ⟨kc.cg, kc.co, none⟩) 1 kc.cc, .int .i64 1, .slice kc.a0 1 kc.c0, .int .i64 1, .slice kc.a1 1 kc.c1, .pointer (some ⟨B, 0, none⟩), .pointer (some ⟨BB, 0, none⟩), .pointer (some ⟨OS, 0, none⟩), rv, .int .u32 ((b + z1.n) % 4294967296), .int .u32 ((b + z1.got) % 4294967296), .int .i64 z1.sent, .int .i64 z1.got, .int .i64 z1.n, .int .i64 z1.s.pc, .int .i64 ow] 77 (0, 0))) := ⟨HP1.out⟩
      refine held_start_gen (S := (fun w' : World => ∀ o, o ≠ 99 → w'.cell? ⟨P, o, none⟩ = w.cell? ⟨P, o, none⟩)) (by kernel_rfl) (fun wz : World => Kp (wz.heap[P]? = some (.cells #[.slice kc.pa 2 kc.pc, .slice (some ⟨kc.cg, kc.co, none⟩) 1 kc.cc, .int .i64 1, .slice kc.a0 1 kc.c0, .int .i64 1, .slice kc.a1 1 kc.c1, .pointer (some ⟨B, 0, none⟩), .pointer (some ⟨BB, 0, none⟩), .pointer (some ⟨OS, 0, none⟩), rv, .int .u32 ((b + z1.n) % 4294967296), .int .u32 ((b + z1.got) % 4294967296), .int .i64 z1.sent, .int .i64 z1.got, .int .i64 z1.n, .int .i64 z1.s.pc, .int .i64 ow] 77 (0, 0))) ∧ Kp (Core w0 wz P B D BB wd dp z1 OS OR S R x) ∧ Kp (Only (fun k => Sz k ∨ k = P ∨ k = D ∨ k = BB) wq wz) ∧ w.heap.size ≤ wz.heap.size) ⟨⟨blk_dr HP1.out⟩, ⟨HC1.out.dr⟩, ⟨HF1.out.trans (Only.of_below (below_dr (Below.refl _ _)))⟩, Nat.le_refl _⟩ (xc_of (fz' := (0, 0)) HX0.out (blk_dr HP1.out) 99 (fun _ _ => rfl)) (fun wd0 hRn hHeld => ?_)
      clear HP1 HC1 HF1
      obtain ⟨HP1, HC1, HF1, hsz⟩ := hRn
      refine wtk 0 ?_ rfl (.inl ⟨by rfl, ?_⟩) ?_
      rotate_left 1
      · (intro w hSw; go_simp; try with_reducible rfl)
      try simp only [Act.put, ls0, ls1, ls2]
      refine wtk 1 ?_ rfl (.inl ⟨by rfl, ?_⟩) ?_
      rotate_left 1
      · (intro w hSw; go_simp; try with_reducible rfl)
      try simp only [Act.put, ls0, ls1, ls2]
      refine wtk 2 ?_ rfl (.inl ⟨by rfl, ?_⟩) ?_
      rotate_left 1
      · (intro w hSw; go_simp; try with_reducible rfl)
      try simp only [Act.put, ls0, ls1, ls2]
      refine wtk 3 ?_ rfl (.inl ⟨by rfl, ?_⟩) ?_
      rotate_left 1
      · (intro w hSw; go_simp; try with_reducible rfl)
      try simp only [Act.put, ls0, ls1, ls2]
      refine wtk 4 ?_ rfl (.inl ⟨by rfl, ?_⟩) ?_
      rotate_left 1
      · (intro w hSw; go_simp; try with_reducible rfl)
      try simp only [Act.put, ls0, ls1, ls2]
      refine wtk 5 ?_ rfl (.inl ⟨by rfl, ?_⟩) ?_
      rotate_left 1
      · (intro w hSw; go_simp; try with_reducible rfl)
      try simp only [Act.put, ls0, ls1, ls2]
      refine wtk 6 ?_ rfl (.inl ⟨by rfl, ?_⟩) ?_
      rotate_left 1
      · (intro w hSw; go_simp; try with_reducible rfl)
      try simp only [Act.put, ls0, ls1, ls2]
      refine wtk 7 ?_ rfl (.inl ⟨by rfl, ?_⟩) ?_
      rotate_left 1
      · (intro w hSw; go_simp; try with_reducible rfl)
      try simp only [Act.put, ls0, ls1, ls2]
      refine wtk 8 ?_ rfl (.inl ⟨by rfl, ?_⟩) ?_
      rotate_left 1
      · (intro w hSw; go_simp; try with_reducible rfl)
      try simp only [Act.put, ls0, ls1, ls2]
      refine wtk 9 ?_ rfl (.inl ⟨by rfl, ?_⟩) ?_
      rotate_left 1
      · (intro w hSw; go_simp; try with_reducible rfl)
      try simp only [Act.put, ls0, ls1, ls2]
      refine wtk 10 ?_ rfl (.inl ⟨by rfl, ?_⟩) ?_
      rotate_left 1
      · (intro w hSw; go_simp; try with_reducible rfl)
      try simp only [Act.put, ls0, ls1, ls2]
      refine wtk 11 ?_ rfl (.inl ⟨by rfl, ?_⟩) ?_
      rotate_left 1
      · (intro w hSw; go_simp; try with_reducible rfl)
      try simp only [Act.put, ls0, ls1, ls2]
      refine wrd [12, 13] ?_
      refine (arc rfl (fun K hK => ?_) (arc rfl (fun K hK => ?_) arn))
      · go_simp
        go_at_call 36
        have HSt := HC1.out.send hi ho1 hdat 0
        rw [HDD.out] at HSt
        unfold didV at HSt
        refine HSt.mono ?_
        clear HSt
        rintro e w9 ⟨rfl, hOS9, hC9, hb⟩
        try go_wp2_with fail
        refine out_gen hK _ _ (fun wz : World => Kp (wz.heap[P]? = some (.cells #[.slice kc.pa 2 kc.pc, .slice (some ⟨kc.cg, kc.co, none⟩) 1 kc.cc, .int .i64 1, .slice kc.a0 1 kc.c0, .int .i64 1, .slice kc.a1 1 kc.c1, .pointer (some ⟨B, 0, none⟩), .pointer (some ⟨BB, 0, none⟩), .pointer (some ⟨OS, 0, none⟩), rv, .int .u32 ((b + z1.n) % 4294967296), .int .u32 ((b + z1.got) % 4294967296), .int .i64 z1.sent, .int .i64 z1.got, .int .i64 z1.n, .int .i64 z1.s.pc, .int .i64 ow] 77 (0, 0))) ∧ Kp (Only (fun k => Sz k ∨ k = P ∨ k = D ∨ k = BB) wq wz) ∧ Kp (Core w0 wz P B D BB wd dp (stepS (pl12 wd dp) z1) OS OR S R (if z1.s.pc = 3 + z1.s.data.length then ringB x 1 else x)) ∧ Kp (∃ lv, wz.heap[OS]? = some (.cells #[.int .u32 (sNext (pl12 wd dp) z1.ws z1.s).own, lv] 132 (0, 0))) ∧ wd0.heap.size ≤ wz.heap.size) ⟨⟨hb.blk HP1.out hPn⟩, ⟨HF1.out.trans' hb (fun i hi hx => by rcases hx with hx | rfl | rfl; rcases HSS.out i hx with h1 | h1; exact .inl h1; omega; exact .inr (.inr (.inl rfl)); exact .inr (.inr (.inr rfl)))⟩, ⟨hC9⟩, ⟨hOS9⟩, hb.size⟩ (xc_of (fz' := (0, 0)) HX0.out (hb.blk HP1.out hPn) 99 (fun _ _ => rfl)) (fun wd1 hRn hHn => ?_)
        clear hK K hHeld HP1 HC1 HF1 hOS9 hC9 hb
        obtain ⟨HP1, HF1, HC1, HOW, hsz1⟩ := hRn
        have hHeld := hHn
        clear hHn
        try simp only [Act.put, ls0, ls1, ls2]
        refine wrd [13] ?_
        refine (arc rfl (fun K hK => ?_) arn)
        have ge_db : w.heap.size ≤ wd1.heap.size := (by omega)
        go_simp
        try go_wp2_with fail
        refine out_gen hK _ _ (fun wz : World => Kp (wz.heap[P]? = some (.cells #[.slice kc.pa 2 kc.pc, .slice (some ⟨kc.cg, kc.co, none⟩) 1 kc.cc, .int .i64 1, .slice kc.a0 1 kc.c0, .int .i64 1, .slice kc.a1 1 kc.c1, .pointer (some ⟨B, 0, none⟩), .pointer (some ⟨BB, 0, none⟩), .pointer (some ⟨OS, 0, none⟩), rv, .int .u32 ((b + z1.n) % 4294967296), .int .u32 ((b + z1.got) % 4294967296), .int .i64 z1.sent, .int .i64 z1.got, .int .i64 z1.n, .int .i64 z1.s.pc, .int .i64 ow] 77 (0, 0))) ∧ Kp (Only (fun k => Sz k ∨ k = P ∨ k = D ∨ k = BB) wq wz) ∧ Kp (Core w0 wz P B D BB wd dp (stepS (pl12 wd dp) z1) OS OR S R (if z1.s.pc = 3 + z1.s.data.length then ringB x 1 else x)) ∧ Kp (∃ lv, wz.heap[OS]? = some (.cells #[.int .u32 (sNext (pl12 wd dp) z1.ws z1.s).own, lv] 132 (0, 0))) ∧ Kp (wz.heap[wd1.heap.size]? = some (.cells #[.bool false, .int .i64 0, .slice none 0 0, .bool false, .int .i64 0, .bool false, .bool false, .bool false, .int .i64 0] 64 (0, 0))) ∧ Kp (w0.heap.size ≤ wd1.heap.size ∧ ¬ S wd1.heap.size ∧ ¬ R wd1.heap.size ∧ wd1.heap.size ≠ B ∧ wd1.heap.size ≠ D ∧ wd1.heap.size ≠ BB) ∧ wd1.heap.size < wz.heap.size) ⟨⟨blk_al HP1.out _⟩, ⟨HF1.out.trans (Only.of_below (below_al (Below.refl _ _) _))⟩, ⟨HC1.out.al _⟩, ⟨HOW.out.imp fun _ h => blk_al h _⟩, ⟨blk_new wd1 _⟩, ⟨⟨by omega, fun e => (by have := hSlt _ e; omega), fun e => (by have := hRlt _ e; omega), by omega, by omega, by omega⟩⟩, (by simp)⟩ (xc_of (fz' := (0, 0)) HX0.out (blk_al HP1.out _) 99 (fun _ _ => rfl)) (fun wd2 hRn hHn => ?_)
        clear hK K hHeld HP1 HF1 HC1 HOW
        obtain ⟨HP1, HF1, HC1, HOW, db, HTN, hsz2⟩ := hRn
        have hHeld := hHn
        clear hHn
        try simp only [Act.put, ls0, ls1, ls2]
        have lt_db := blk_lt db.out
        refine wrd [14] ?_
        refine (arc rfl (fun K hK => ?_) arn)
        have sd0 := cbk db.out 0 (.bool false) rfl
        have sf0 := frozen_blk db.out 0
        have sd1 := cbk db.out 1 (.int .i64 0) rfl
        have sf1 := frozen_blk db.out 1
        have sd2 := cbk db.out 2 (.slice none 0 0) rfl
        have sf2 := frozen_blk db.out 2
        have sd3 := cbk db.out 3 (.bool false) rfl
        have sf3 := frozen_blk db.out 3
        have sd4 := cbk db.out 4 (.int .i64 0) rfl
        have sf4 := frozen_blk db.out 4
        have sd5 := cbk db.out 5 (.bool false) rfl
        have sf5 := frozen_blk db.out 5
        have sd6 := cbk db.out 6 (.bool false) rfl
        have sf6 := frozen_blk db.out 6
        have sd7 := cbk db.out 7 (.bool false) rfl
        have sf7 := frozen_blk db.out 7
        have sd8 := cbk db.out 8 (.int .i64 0) rfl
        have sf8 := frozen_blk db.out 8
        have sl := blk_lt db.out
        go_simp
        try go_wp2_with fail
        refine out_gen hK _ _ (fun wz : World => Kp (wz.heap[P]? = some (.cells #[.slice kc.pa 2 kc.pc, .slice (some ⟨kc.cg, kc.co, none⟩) 1 kc.cc, .int .i64 1, .slice kc.a0 1 kc.c0, .int .i64 1, .slice kc.a1 1 kc.c1, .pointer (some ⟨B, 0, none⟩), .pointer (some ⟨BB, 0, none⟩), .pointer (some ⟨OS, 0, none⟩), rv, .int .u32 ((b + z1.n) % 4294967296), .int .u32 ((b + z1.got) % 4294967296), .int .i64 z1.sent, .int .i64 z1.got, .int .i64 z1.n, .int .i64 z1.s.pc, .int .i64 ow] 77 (0, 0))) ∧ Kp (Only (fun k => Sz k ∨ k = P ∨ k = D ∨ k = BB) wq wz) ∧ Kp (Core w0 wz P B D BB wd dp (stepS (pl12 wd dp) z1) OS OR S R (if z1.s.pc = 3 + z1.s.data.length then ringB x 1 else x)) ∧ Kp (∃ lv, wz.heap[OS]? = some (.cells #[.int .u32 (sNext (pl12 wd dp) z1.ws z1.s).own, lv] 132 (0, 0))) ∧ Kp (wz.heap[wd1.heap.size]? = some (.cells #[.bool d.done, .int .i64 d.code, .slice none 0 0, .bool d.valid, .int .i64 d.count, .bool d.mark, .bool d.ring, .bool d.stamped, .int .i64 d.buffer] 64 (0, 0))) ∧ Kp (w0.heap.size ≤ wd1.heap.size ∧ ¬ S wd1.heap.size ∧ ¬ R wd1.heap.size ∧ wd1.heap.size ≠ B ∧ wd1.heap.size ≠ D ∧ wd1.heap.size ≠ BB) ∧ wd2.heap.size ≤ wz.heap.size) ⟨⟨(blk_set_ne (p := ⟨wd1.heap.size, 8, none⟩) (blk_set_ne (p := ⟨wd1.heap.size, 7, none⟩) (blk_set_ne (p := ⟨wd1.heap.size, 6, none⟩) (blk_set_ne (p := ⟨wd1.heap.size, 5, none⟩) (blk_set_ne (p := ⟨wd1.heap.size, 4, none⟩) (blk_set_ne (p := ⟨wd1.heap.size, 3, none⟩) (blk_set_ne (p := ⟨wd1.heap.size, 2, none⟩) (blk_set_ne (p := ⟨wd1.heap.size, 1, none⟩) (blk_set_ne (p := ⟨wd1.heap.size, 0, none⟩) HP1.out (by show P ≠ wd1.heap.size; omega) _) (by show P ≠ wd1.heap.size; omega) _) (by show P ≠ wd1.heap.size; omega) _) (by show P ≠ wd1.heap.size; omega) _) (by show P ≠ wd1.heap.size; omega) _) (by show P ≠ wd1.heap.size; omega) _) (by show P ≠ wd1.heap.size; omega) _) (by show P ≠ wd1.heap.size; omega) _) (by show P ≠ wd1.heap.size; omega) _)⟩, ⟨(((((((((HF1.out.trans' (Only.of_but (X := fun i => i = wd1.heap.size) (ButS.set (ButS.refl [wd1.heap.size] _) (p := ⟨wd1.heap.size, 0, none⟩) (by simp) _) (by simp)) (fun i hi hx => by omega)).trans' (Only.of_but (X := fun i => i = wd1.heap.size) (ButS.set (ButS.refl [wd1.heap.size] _) (p := ⟨wd1.heap.size, 1, none⟩) (by simp) _) (by simp)) (fun i hi hx => by omega)).trans' (Only.of_but (X := fun i => i = wd1.heap.size) (ButS.set (ButS.refl [wd1.heap.size] _) (p := ⟨wd1.heap.size, 2, none⟩) (by simp) _) (by simp)) (fun i hi hx => by omega)).trans' (Only.of_but (X := fun i => i = wd1.heap.size) (ButS.set (ButS.refl [wd1.heap.size] _) (p := ⟨wd1.heap.size, 3, none⟩) (by simp) _) (by simp)) (fun i hi hx => by omega)).trans' (Only.of_but (X := fun i => i = wd1.heap.size) (ButS.set (ButS.refl [wd1.heap.size] _) (p := ⟨wd1.heap.size, 4, none⟩) (by simp) _) (by simp)) (fun i hi hx => by omega)).trans' (Only.of_but (X := fun i => i = wd1.heap.size) (ButS.set (ButS.refl [wd1.heap.size] _) (p := ⟨wd1.heap.size, 5, none⟩) (by simp) _) (by simp)) (fun i hi hx => by omega)).trans' (Only.of_but (X := fun i => i = wd1.heap.size) (ButS.set (ButS.refl [wd1.heap.size] _) (p := ⟨wd1.heap.size, 6, none⟩) (by simp) _) (by simp)) (fun i hi hx => by omega)).trans' (Only.of_but (X := fun i => i = wd1.heap.size) (ButS.set (ButS.refl [wd1.heap.size] _) (p := ⟨wd1.heap.size, 7, none⟩) (by simp) _) (by simp)) (fun i hi hx => by omega)).trans' (Only.of_but (X := fun i => i = wd1.heap.size) (ButS.set (ButS.refl [wd1.heap.size] _) (p := ⟨wd1.heap.size, 8, none⟩) (by simp) _) (by simp)) (fun i hi hx => by omega))⟩, ⟨(((((((((HC1.out.set wd1.heap.size 0 _ (HTN.out)).set wd1.heap.size 1 _ (HTN.out)).set wd1.heap.size 2 _ (HTN.out)).set wd1.heap.size 3 _ (HTN.out)).set wd1.heap.size 4 _ (HTN.out)).set wd1.heap.size 5 _ (HTN.out)).set wd1.heap.size 6 _ (HTN.out)).set wd1.heap.size 7 _ (HTN.out)).set wd1.heap.size 8 _ (HTN.out))⟩, ⟨(((((((((HOW.out.imp fun _ h => blk_set_ne (p := ⟨wd1.heap.size, 0, none⟩) h (by show OS ≠ wd1.heap.size; omega) _).imp fun _ h => blk_set_ne (p := ⟨wd1.heap.size, 1, none⟩) h (by show OS ≠ wd1.heap.size; omega) _).imp fun _ h => blk_set_ne (p := ⟨wd1.heap.size, 2, none⟩) h (by show OS ≠ wd1.heap.size; omega) _).imp fun _ h => blk_set_ne (p := ⟨wd1.heap.size, 3, none⟩) h (by show OS ≠ wd1.heap.size; omega) _).imp fun _ h => blk_set_ne (p := ⟨wd1.heap.size, 4, none⟩) h (by show OS ≠ wd1.heap.size; omega) _).imp fun _ h => blk_set_ne (p := ⟨wd1.heap.size, 5, none⟩) h (by show OS ≠ wd1.heap.size; omega) _).imp fun _ h => blk_set_ne (p := ⟨wd1.heap.size, 6, none⟩) h (by show OS ≠ wd1.heap.size; omega) _).imp fun _ h => blk_set_ne (p := ⟨wd1.heap.size, 7, none⟩) h (by show OS ≠ wd1.heap.size; omega) _).imp fun _ h => blk_set_ne (p := ⟨wd1.heap.size, 8, none⟩) h (by show OS ≠ wd1.heap.size; omega) _)⟩, ⟨(blk_set (blk_set (blk_set (blk_set (blk_set (blk_set (blk_set (blk_set (blk_set db.out 0 _) 1 _) 2 _) 3 _) 4 _) 5 _) 6 _) 7 _) 8 _).trans (by first | (simp only [ls0, ls1, ls2]; done) | rfl)⟩, ⟨(((((((((HTN.out)))))))))⟩, (by simp [World.setCell])⟩ (xc_of (fz' := (0, 0)) HX0.out ((blk_set_ne (p := ⟨wd1.heap.size, 8, none⟩) (blk_set_ne (p := ⟨wd1.heap.size, 7, none⟩) (blk_set_ne (p := ⟨wd1.heap.size, 6, none⟩) (blk_set_ne (p := ⟨wd1.heap.size, 5, none⟩) (blk_set_ne (p := ⟨wd1.heap.size, 4, none⟩) (blk_set_ne (p := ⟨wd1.heap.size, 3, none⟩) (blk_set_ne (p := ⟨wd1.heap.size, 2, none⟩) (blk_set_ne (p := ⟨wd1.heap.size, 1, none⟩) (blk_set_ne (p := ⟨wd1.heap.size, 0, none⟩) HP1.out (by show P ≠ wd1.heap.size; omega) _) (by show P ≠ wd1.heap.size; omega) _) (by show P ≠ wd1.heap.size; omega) _) (by show P ≠ wd1.heap.size; omega) _) (by show P ≠ wd1.heap.size; omega) _) (by show P ≠ wd1.heap.size; omega) _) (by show P ≠ wd1.heap.size; omega) _) (by show P ≠ wd1.heap.size; omega) _) (by show P ≠ wd1.heap.size; omega) _)) 99 (fun _ _ => rfl)) (fun wd3 hRn hHn => ?_)
        clear hK K hHeld HP1 HF1 HC1 HOW db HTN sd0 sf0 sd1 sf1 sd2 sf2 sd3 sf3 sd4 sf4 sd5 sf5 sd6 sf6 sd7 sf7 sd8 sf8 sl
        obtain ⟨HP1, HF1, HC1, HOW, db, HTN, hsz3⟩ := hRn
        have hHeld := hHn
        clear hHn
        try simp only [Act.put, ls0, ls1, ls2]
        refine wpAnyH_done (by kernel_rfl) ?_ _
        clear HX0
        exact JQ.mk ⟨_, _, _, _, _, _, _, _, _, _, _, _, _, _, _, _, _, _, _, _, _, _, _, _, _, _, _, _, _, _, _, _, _, _, _, _, _, _, _, _, _, _, _, _, _, _, _, _, _, _, _, _, _, _, _, _, _, _, rfl, HP1, HC1, HF1, HOW, db⟩
      · have ge_db : w.heap.size ≤ wd0.heap.size := (by omega)
        go_simp
        try go_wp2_with fail
        refine out_gen hK _ _ (fun wz : World => Kp (wz.heap[P]? = some (.cells #[.slice kc.pa 2 kc.pc, .slice (some ⟨kc.cg, kc.co, none⟩) 1 kc.cc, .int .i64 1, .slice kc.a0 1 kc.c0, .int .i64 1, .slice kc.a1 1 kc.c1, .pointer (some ⟨B, 0, none⟩), .pointer (some ⟨BB, 0, none⟩), .pointer (some ⟨OS, 0, none⟩), rv, .int .u32 ((b + z1.n) % 4294967296), .int .u32 ((b + z1.got) % 4294967296), .int .i64 z1.sent, .int .i64 z1.got, .int .i64 z1.n, .int .i64 z1.s.pc, .int .i64 ow] 77 (0, 0))) ∧ Kp (Core w0 wz P B D BB wd dp z1 OS OR S R x) ∧ Kp (Only (fun k => Sz k ∨ k = P ∨ k = D ∨ k = BB) wq wz) ∧ Kp (wz.heap[wd0.heap.size]? = some (.cells #[.bool false, .int .i64 0, .slice none 0 0, .bool false, .int .i64 0, .bool false, .bool false, .bool false, .int .i64 0] 64 (0, 0))) ∧ Kp (w0.heap.size ≤ wd0.heap.size ∧ ¬ S wd0.heap.size ∧ ¬ R wd0.heap.size ∧ wd0.heap.size ≠ B ∧ wd0.heap.size ≠ D ∧ wd0.heap.size ≠ BB) ∧ wd0.heap.size < wz.heap.size) ⟨⟨blk_al HP1.out _⟩, ⟨HC1.out.al _⟩, ⟨HF1.out.trans (Only.of_below (below_al (Below.refl _ _) _))⟩, ⟨blk_new wd0 _⟩, ⟨⟨by omega, fun e => (by have := hSlt _ e; omega), fun e => (by have := hRlt _ e; omega), by omega, by omega, by omega⟩⟩, (by simp)⟩ (xc_of (fz' := (0, 0)) HX0.out (blk_al HP1.out _) 99 (fun _ _ => rfl)) (fun wd4 hRn hHn => ?_)
        clear hK K hHeld HP1 HC1 HF1
        obtain ⟨HP1, HC1, HF1, db, HTN, hsz4⟩ := hRn
        have hHeld := hHn
        clear hHn
        try simp only [Act.put, ls0, ls1, ls2]
        have lt_db := blk_lt db.out
        refine wrd [12] ?_
        refine (arc rfl (fun K hK => ?_) arn)
        go_simp
        go_at_call 36
        have HSt := HC1.out.send hi ho1 hdat 0
        rw [HDD.out] at HSt
        unfold didV at HSt
        refine HSt.mono ?_
        clear HSt
        rintro e w9 ⟨rfl, hOS9, hC9, hb⟩
        try go_wp2_with fail
        refine out_gen hK _ _ (fun wz : World => Kp (wz.heap[P]? = some (.cells #[.slice kc.pa 2 kc.pc, .slice (some ⟨kc.cg, kc.co, none⟩) 1 kc.cc, .int .i64 1, .slice kc.a0 1 kc.c0, .int .i64 1, .slice kc.a1 1 kc.c1, .pointer (some ⟨B, 0, none⟩), .pointer (some ⟨BB, 0, none⟩), .pointer (some ⟨OS, 0, none⟩), rv, .int .u32 ((b + z1.n) % 4294967296), .int .u32 ((b + z1.got) % 4294967296), .int .i64 z1.sent, .int .i64 z1.got, .int .i64 z1.n, .int .i64 z1.s.pc, .int .i64 ow] 77 (0, 0))) ∧ Kp (Only (fun k => Sz k ∨ k = P ∨ k = D ∨ k = BB) wq wz) ∧ Kp (wz.heap[wd0.heap.size]? = some (.cells #[.bool false, .int .i64 0, .slice none 0 0, .bool false, .int .i64 0, .bool false, .bool false, .bool false, .int .i64 0] 64 (0, 0))) ∧ Kp (w0.heap.size ≤ wd0.heap.size ∧ ¬ S wd0.heap.size ∧ ¬ R wd0.heap.size ∧ wd0.heap.size ≠ B ∧ wd0.heap.size ≠ D ∧ wd0.heap.size ≠ BB) ∧ Kp (Core w0 wz P B D BB wd dp (stepS (pl12 wd dp) z1) OS OR S R (if z1.s.pc = 3 + z1.s.data.length then ringB x 1 else x)) ∧ Kp (∃ lv, wz.heap[OS]? = some (.cells #[.int .u32 (sNext (pl12 wd dp) z1.ws z1.s).own, lv] 132 (0, 0))) ∧ wd4.heap.size ≤ wz.heap.size) ⟨⟨hb.blk HP1.out hPn⟩, ⟨HF1.out.trans' hb (fun i hi hx => by rcases hx with hx | rfl | rfl; rcases HSS.out i hx with h1 | h1; exact .inl h1; omega; exact .inr (.inr (.inl rfl)); exact .inr (.inr (.inr rfl)))⟩, ⟨hb.blk db.out (by rintro (h1 | h1 | h1); have := hSlt _ h1; omega; omega; omega)⟩, ⟨HTN.out⟩, ⟨hC9⟩, ⟨hOS9⟩, hb.size⟩ (xc_of (fz' := (0, 0)) HX0.out (hb.blk HP1.out hPn) 99 (fun _ _ => rfl)) (fun wd5 hRn hHn => ?_)
        clear hK K hHeld HP1 HC1 HF1 db HTN hOS9 hC9 hb
        obtain ⟨HP1, HF1, db, HTN, HC1, HOW, hsz5⟩ := hRn
        have hHeld := hHn
        clear hHn
        try simp only [Act.put, ls0, ls1, ls2]
        refine wrd [14] ?_
        refine (arc rfl (fun K hK => ?_) arn)
        have sd0 := cbk db.out 0 (.bool false) rfl
        have sf0 := frozen_blk db.out 0
        have sd1 := cbk db.out 1 (.int .i64 0) rfl
        have sf1 := frozen_blk db.out 1
        have sd2 := cbk db.out 2 (.slice none 0 0) rfl
        have sf2 := frozen_blk db.out 2
        have sd3 := cbk db.out 3 (.bool false) rfl
        have sf3 := frozen_blk db.out 3
        have sd4 := cbk db.out 4 (.int .i64 0) rfl
        have sf4 := frozen_blk db.out 4
        have sd5 := cbk db.out 5 (.bool false) rfl
        have sf5 := frozen_blk db.out 5
        have sd6 := cbk db.out 6 (.bool false) rfl
        have sf6 := frozen_blk db.out 6
        have sd7 := cbk db.out 7 (.bool false) rfl
        have sf7 := frozen_blk db.out 7
        have sd8 := cbk db.out 8 (.int .i64 0) rfl
        have sf8 := frozen_blk db.out 8
        have sl := blk_lt db.out
        go_simp
        try go_wp2_with fail
        refine out_gen hK _ _ (fun wz : World => Kp (wz.heap[P]? = some (.cells #[.slice kc.pa 2 kc.pc, .slice (some ⟨kc.cg, kc.co, none⟩) 1 kc.cc, .int .i64 1, .slice kc.a0 1 kc.c0, .int .i64 1, .slice kc.a1 1 kc.c1, .pointer (some ⟨B, 0, none⟩), .pointer (some ⟨BB, 0, none⟩), .pointer (some ⟨OS, 0, none⟩), rv, .int .u32 ((b + z1.n) % 4294967296), .int .u32 ((b + z1.got) % 4294967296), .int .i64 z1.sent, .int .i64 z1.got, .int .i64 z1.n, .int .i64 z1.s.pc, .int .i64 ow] 77 (0, 0))) ∧ Kp (Only (fun k => Sz k ∨ k = P ∨ k = D ∨ k = BB) wq wz) ∧ Kp (wz.heap[wd0.heap.size]? = some (.cells #[.bool d.done, .int .i64 d.code, .slice none 0 0, .bool d.valid, .int .i64 d.count, .bool d.mark, .bool d.ring, .bool d.stamped, .int .i64 d.buffer] 64 (0, 0))) ∧ Kp (w0.heap.size ≤ wd0.heap.size ∧ ¬ S wd0.heap.size ∧ ¬ R wd0.heap.size ∧ wd0.heap.size ≠ B ∧ wd0.heap.size ≠ D ∧ wd0.heap.size ≠ BB) ∧ Kp (Core w0 wz P B D BB wd dp (stepS (pl12 wd dp) z1) OS OR S R (if z1.s.pc = 3 + z1.s.data.length then ringB x 1 else x)) ∧ Kp (∃ lv, wz.heap[OS]? = some (.cells #[.int .u32 (sNext (pl12 wd dp) z1.ws z1.s).own, lv] 132 (0, 0))) ∧ wd5.heap.size ≤ wz.heap.size) ⟨⟨(blk_set_ne (p := ⟨wd0.heap.size, 8, none⟩) (blk_set_ne (p := ⟨wd0.heap.size, 7, none⟩) (blk_set_ne (p := ⟨wd0.heap.size, 6, none⟩) (blk_set_ne (p := ⟨wd0.heap.size, 5, none⟩) (blk_set_ne (p := ⟨wd0.heap.size, 4, none⟩) (blk_set_ne (p := ⟨wd0.heap.size, 3, none⟩) (blk_set_ne (p := ⟨wd0.heap.size, 2, none⟩) (blk_set_ne (p := ⟨wd0.heap.size, 1, none⟩) (blk_set_ne (p := ⟨wd0.heap.size, 0, none⟩) HP1.out (by show P ≠ wd0.heap.size; omega) _) (by show P ≠ wd0.heap.size; omega) _) (by show P ≠ wd0.heap.size; omega) _) (by show P ≠ wd0.heap.size; omega) _) (by show P ≠ wd0.heap.size; omega) _) (by show P ≠ wd0.heap.size; omega) _) (by show P ≠ wd0.heap.size; omega) _) (by show P ≠ wd0.heap.size; omega) _) (by show P ≠ wd0.heap.size; omega) _)⟩, ⟨(((((((((HF1.out.trans' (Only.of_but (X := fun i => i = wd0.heap.size) (ButS.set (ButS.refl [wd0.heap.size] _) (p := ⟨wd0.heap.size, 0, none⟩) (by simp) _) (by simp)) (fun i hi hx => by omega)).trans' (Only.of_but (X := fun i => i = wd0.heap.size) (ButS.set (ButS.refl [wd0.heap.size] _) (p := ⟨wd0.heap.size, 1, none⟩) (by simp) _) (by simp)) (fun i hi hx => by omega)).trans' (Only.of_but (X := fun i => i = wd0.heap.size) (ButS.set (ButS.refl [wd0.heap.size] _) (p := ⟨wd0.heap.size, 2, none⟩) (by simp) _) (by simp)) (fun i hi hx => by omega)).trans' (Only.of_but (X := fun i => i = wd0.heap.size) (ButS.set (ButS.refl [wd0.heap.size] _) (p := ⟨wd0.heap.size, 3, none⟩) (by simp) _) (by simp)) (fun i hi hx => by omega)).trans' (Only.of_but (X := fun i => i = wd0.heap.size) (ButS.set (ButS.refl [wd0.heap.size] _) (p := ⟨wd0.heap.size, 4, none⟩) (by simp) _) (by simp)) (fun i hi hx => by omega)).trans' (Only.of_but (X := fun i => i = wd0.heap.size) (ButS.set (ButS.refl [wd0.heap.size] _) (p := ⟨wd0.heap.size, 5, none⟩) (by simp) _) (by simp)) (fun i hi hx => by omega)).trans' (Only.of_but (X := fun i => i = wd0.heap.size) (ButS.set (ButS.refl [wd0.heap.size] _) (p := ⟨wd0.heap.size, 6, none⟩) (by simp) _) (by simp)) (fun i hi hx => by omega)).trans' (Only.of_but (X := fun i => i = wd0.heap.size) (ButS.set (ButS.refl [wd0.heap.size] _) (p := ⟨wd0.heap.size, 7, none⟩) (by simp) _) (by simp)) (fun i hi hx => by omega)).trans' (Only.of_but (X := fun i => i = wd0.heap.size) (ButS.set (ButS.refl [wd0.heap.size] _) (p := ⟨wd0.heap.size, 8, none⟩) (by simp) _) (by simp)) (fun i hi hx => by omega))⟩, ⟨(blk_set (blk_set (blk_set (blk_set (blk_set (blk_set (blk_set (blk_set (blk_set db.out 0 _) 1 _) 2 _) 3 _) 4 _) 5 _) 6 _) 7 _) 8 _).trans (by first | (simp only [ls0, ls1, ls2]; done) | rfl)⟩, ⟨(((((((((HTN.out)))))))))⟩, ⟨(((((((((HC1.out.set wd0.heap.size 0 _ (HTN.out)).set wd0.heap.size 1 _ (HTN.out)).set wd0.heap.size 2 _ (HTN.out)).set wd0.heap.size 3 _ (HTN.out)).set wd0.heap.size 4 _ (HTN.out)).set wd0.heap.size 5 _ (HTN.out)).set wd0.heap.size 6 _ (HTN.out)).set wd0.heap.size 7 _ (HTN.out)).set wd0.heap.size 8 _ (HTN.out))⟩, ⟨(((((((((HOW.out.imp fun _ h => blk_set_ne (p := ⟨wd0.heap.size, 0, none⟩) h (by show OS ≠ wd0.heap.size; omega) _).imp fun _ h => blk_set_ne (p := ⟨wd0.heap.size, 1, none⟩) h (by show OS ≠ wd0.heap.size; omega) _).imp fun _ h => blk_set_ne (p := ⟨wd0.heap.size, 2, none⟩) h (by show OS ≠ wd0.heap.size; omega) _).imp fun _ h => blk_set_ne (p := ⟨wd0.heap.size, 3, none⟩) h (by show OS ≠ wd0.heap.size; omega) _).imp fun _ h => blk_set_ne (p := ⟨wd0.heap.size, 4, none⟩) h (by show OS ≠ wd0.heap.size; omega) _).imp fun _ h => blk_set_ne (p := ⟨wd0.heap.size, 5, none⟩) h (by show OS ≠ wd0.heap.size; omega) _).imp fun _ h => blk_set_ne (p := ⟨wd0.heap.size, 6, none⟩) h (by show OS ≠ wd0.heap.size; omega) _).imp fun _ h => blk_set_ne (p := ⟨wd0.heap.size, 7, none⟩) h (by show OS ≠ wd0.heap.size; omega) _).imp fun _ h => blk_set_ne (p := ⟨wd0.heap.size, 8, none⟩) h (by show OS ≠ wd0.heap.size; omega) _)⟩, (by simp [World.setCell])⟩ (xc_of (fz' := (0, 0)) HX0.out ((blk_set_ne (p := ⟨wd0.heap.size, 8, none⟩) (blk_set_ne (p := ⟨wd0.heap.size, 7, none⟩) (blk_set_ne (p := ⟨wd0.heap.size, 6, none⟩) (blk_set_ne (p := ⟨wd0.heap.size, 5, none⟩) (blk_set_ne (p := ⟨wd0.heap.size, 4, none⟩) (blk_set_ne (p := ⟨wd0.heap.size, 3, none⟩) (blk_set_ne (p := ⟨wd0.heap.size, 2, none⟩) (blk_set_ne (p := ⟨wd0.heap.size, 1, none⟩) (blk_set_ne (p := ⟨wd0.heap.size, 0, none⟩) HP1.out (by show P ≠ wd0.heap.size; omega) _) (by show P ≠ wd0.heap.size; omega) _) (by show P ≠ wd0.heap.size; omega) _) (by show P ≠ wd0.heap.size; omega) _) (by show P ≠ wd0.heap.size; omega) _) (by show P ≠ wd0.heap.size; omega) _) (by show P ≠ wd0.heap.size; omega) _) (by show P ≠ wd0.heap.size; omega) _) (by show P ≠ wd0.heap.size; omega) _)) 99 (fun _ _ => rfl)) (fun wd6 hRn hHn => ?_)
        clear hK K hHeld HP1 HF1 db HTN HC1 HOW sd0 sf0 sd1 sf1 sd2 sf2 sd3 sf3 sd4 sf4 sd5 sf5 sd6 sf6 sd7 sf7 sd8 sf8 sl
        obtain ⟨HP1, HF1, db, HTN, HC1, HOW, hsz6⟩ := hRn
        have hHeld := hHn
        clear hHn
        try simp only [Act.put, ls0, ls1, ls2]
        refine wpAnyH_done (by kernel_rfl) ?_ _
        clear HX0
        exact JQ.mk ⟨_, _, _, _, _, _, _, _, _, _, _, _, _, _, _, _, _, _, _, _, _, _, _, _, _, _, _, _, _, _, _, _, _, _, _, _, _, _, _, _, _, _, _, _, _, _, _, _, _, _, _, _, _, _, _, _, _, _, rfl, HP1, HC1, HF1, HOW, db⟩
    · rintro a wj ⟨T, u3, u4, u7, u8, u9, u10, u11, u12, u13, u14, u15, u16, u17, u18, u19, u20, u21, u22, u23, u24, u25, u26, u27, u28, u29, u30, u31, u32, u33, u34, u35, u36, u37, u38, u39, u40, u41, u42, u43, u44, u45, u46, u47, u48, u49, u50, u51, u52, u53, u54, u55, u56, u57, u58, u59, u60, u61, rfl, HP1, HC1, HF1, HOW, db⟩
      have hPT : P ≠ T := ne_of_type HP1.out db.out (by decide)
      have lT := blk_lt db.out
      have lPj := blk_lt HP1.out
      have hPS : w0.heap.size ≤ P ∧ ¬ S P ∧ ¬ R P ∧ P ≠ B ∧ P ≠ D ∧ P ≠ BB := ⟨hP0.1, hSP, hP0.2.2⟩
      obtain ⟨e_g, e_ro, e_r, e_s⟩ := stepS_flds (pl12 wd dp) z1
      have e_so0 : (stepS (pl12 wd dp) z1).sOn = !d.done := by show (!(sDid (pl12 wd dp) z1.ws z1.s).done) = _; rw [HDD.out]
      have e_se0 : (stepS (pl12 wd dp) z1).sent = if d.mark = true ∧ d.done = false then z1.sent + 1 else z1.sent := by show (if (sDid (pl12 wd dp) z1.ws z1.s).mark = true ∧ (sDid (pl12 wd dp) z1.ws z1.s).done = false then z1.sent + 1 else z1.sent) = _; rw [HDD.out]
      have e_n0 : (stepS (pl12 wd dp) z1).n = if d.done = true ∧ d.code = 0 then z1.n + 1 else z1.n := by show (if (sDid (pl12 wd dp) z1.ws z1.s).done = true ∧ (sDid (pl12 wd dp) z1.ws z1.s).code = 0 then z1.n + 1 else z1.n) = _; rw [HDD.out]
      have t0 := cbk db.out 0 (.bool d.done) rfl
      have t1 := cbk db.out 1 (.int .i64 d.code) rfl
      have t5 := cbk db.out 5 (.bool d.mark) rfl
      have t6 := cbk db.out 6 (.bool d.ring) rfl
      have c0 := cbk HP1.out 0 (.slice kc.pa 2 kc.pc) rfl
      have c1 := cbk HP1.out 1 (.slice (some ⟨kc.cg, kc.co, none⟩) 1 kc.cc) rfl
      have c2 := cbk HP1.out 2 (.int .i64 1) rfl
      have c3 := cbk HP1.out 3 (.slice kc.a0 1 kc.c0) rfl
      have c4 := cbk HP1.out 4 (.int .i64 1) rfl
      have c5 := cbk HP1.out 5 (.slice kc.a1 1 kc.c1) rfl
      have c6 := cbk HP1.out 6 (.pointer (some ⟨B, 0, none⟩)) rfl
      have c7 := cbk HP1.out 7 (.pointer (some ⟨BB, 0, none⟩)) rfl
      have c8 := cbk HP1.out 8 (.pointer (some ⟨OS, 0, none⟩)) rfl
      have c9 := cbk HP1.out 9 (rv) rfl
      have c10 := cbk HP1.out 10 (.int .u32 ((b + z1.n) % 4294967296)) rfl
      have c11 := cbk HP1.out 11 (.int .u32 ((b + z1.got) % 4294967296)) rfl
      have c12 := cbk HP1.out 12 (.int .i64 z1.sent) rfl
      have c13 := cbk HP1.out 13 (.int .i64 z1.got) rfl
      have c14 := cbk HP1.out 14 (.int .i64 z1.n) rfl
      have c15 := cbk HP1.out 15 (.int .i64 z1.s.pc) rfl
      have c16 := cbk HP1.out 16 (.int .i64 ow) rfl
      have f8 := frozen_blk HP1.out 8
      have f10 := frozen_blk HP1.out 10
      have f12 := frozen_blk HP1.out 12
      have f14 := frozen_blk HP1.out 14
      have f15 := frozen_blk HP1.out 15
      have n1 : IntKind.i64.wrap ((z1.s.pc : Int) + 1) = (z1.s.pc : Int) + 1 := IntWalk.i64_in _ (by omega)
      have hR0 : ((stepS (pl12 wd dp) z1).rOn = false → rv = .pointer none) ∧ ((stepS (pl12 wd dp) z1).rOn = true → rv = .pointer (some ⟨OR, 0, none⟩) ∧ ow = (if (stepS (pl12 wd dp) z1).r.pc ≤ 1 then (stepS (pl12 wd dp) z1).r.pc else 2 + (stepS (pl12 wd dp) z1).r.data.length)) := by rw [e_ro, e_r]; exact HRZ.out
      have HR0 := Kp.mk hR0
      clear hR0
      by_cases hdn : d.done = true
      · have hto := HJ0.out.told_s ho1 (by rw [HDD.out]; exact hdn)
        rw [HDD.out] at hto
        rw [hdn] at t0 e_so0
        have e_so : (stepS (pl12 wd dp) z1).sOn = false := e_so0
        have e_se : (stepS (pl12 wd dp) z1).sent = z1.sent := by rw [e_se0, if_neg (by rw [hdn]; simp)]
        obtain ⟨own2, hown2⟩ : ∃ o, (sNext (pl12 wd dp) z1.ws z1.s).own = o := ⟨_, rfl⟩
        obtain ⟨lv, hlv⟩ := HOW.out
        rw [hown2] at hlv
        have hOT : P ≠ OS := ne_of_type HP1.out hlv (by decide)
        have HLV := Kp.mk hlv
        have hmk := sDid_mark (pl12 wd dp) z1.ws z1.s (by rw [HDD.out]; exact hdn)
        rw [HDD.out] at hmk
        rcases hto with ⟨q1, q2, q3, q4, _, q6⟩ | ⟨q1, q2, q3, q4, _, q6⟩
        · rw [q1] at t1 e_n0
          rw [q2] at t6
          rw [hmk, decide_eq_true q3] at t5
          have e_n : (stepS (pl12 wd dp) z1).n = z1.n := by rw [e_n0, if_neg (by simp)]
          have hdp4 : (z1.sent : Int) - (z1.got : Int) = dp := q4
          have n2 : IntKind.i64.wrap ((z1.sent : Int) - (z1.got : Int)) = dp := by rw [hdp4]; exact IntWalk.i64_in _ (by omega)
          have n3 : (z1.s.pc : Int) + 1 = 1 := by omega
          have e_pc : z1.s.pc + 1 = 1 := by omega
          have cd : wj.cell? ⟨kc.cg, kc.co + 4, none⟩ = some (.int .i64 dp) := (HK0.out.below HC1.out.low).depth
          have lcg : kc.cg < wj.heap.size := (HK0.out.below HC1.out.low).lt
          have hcP : kc.cg ≠ P := by have := HK0.out.lt; omega
          have e_tl : (b + (z1.n : Int)) % 4294967296 = own2 := by rw [← hown2]; exact q6.symm
          have HQ := Kp.mk (And.intro e_so (And.intro e_se (And.intro e_n e_tl)))
          have HG5 := Kp.mk e_g
          clear hmk hlv hown2 q1 q2 q3 q4 q6 e_so0 e_se0 e_n0 e_so e_se e_n e_tl e_g hdn e_s e_r e_ro hdp4
          rw [n3] at n1
          go_wp2_with fail
          refine (opown_any OS own2 lv _ (blk_set_ne (p := ⟨P, 15, none⟩) HLV.out (Ne.symm hOT) _)).mono ?_
          rintro e w10 ⟨rfl, rfl⟩
          go_wp2_with fail
          go_quiet (fail)
          go_wp2
          go_ret
          obtain ⟨e_so, e_se, e_n, e_tl⟩ := HQ.out
          have e_g := HG5.out
          refine ⟨rfl, OS, 1, S, (.pointer none), (if z1.s.pc = 3 + z1.s.data.length then ringB x 1 else x), ⟨?_, fun e => rfl, fun e => (by rw [e_so] at e; cases e), fun e => HR0.out.1 e, fun e => HR0.out.2 e, ?_, hP0.1⟩, ?_, HSS.out⟩
          · rw [e_g, e_se, e_n, e_tl]
            exact (blk_set (blk_set (blk_set HP1.out 15 _) 10 _) 8 _).trans (by first | (simp only [ls0, ls1, ls2]; done) | rfl)
          · exact ((((HC1.out.set P 15 _ hPS).set P 10 _ hPS).set P 8 _ hPS).below (below_drN (Below.refl _ _)))
          · exact ((((HF1.out.trans (Only.of_but (ButS.set (ButS.refl [P] _) (p := ⟨P, 15, none⟩) (by simp) _) (by simp))).trans (Only.of_but (ButS.set (ButS.refl [P] _) (p := ⟨P, 10, none⟩) (by simp) _) (by simp))).trans (Only.of_but (ButS.set (ButS.refl [P] _) (p := ⟨P, 8, none⟩) (by simp) _) (by simp))).trans (Only.of_below (below_drN (Below.refl _ _))))
        · rw [q1] at t1 e_n0
          rw [q2] at t6
          rw [hmk, decide_eq_false (by omega)] at t5
          have e_n : (stepS (pl12 wd dp) z1).n = z1.n + 1 := by rw [e_n0, if_pos ⟨hdn, rfl⟩]
          obtain ⟨L, hL⟩ : ∃ L : Nat, 1 + z1.n % wd.toNat = L := ⟨_, rfl⟩
          have hL16 : L ≤ 16 ∧ 1 ≤ L := by have := Nat.mod_lt z1.n (show 0 < wd.toNat by omega); omega
          have hpc3 : z1.s.pc = 3 + L := by rw [q3, ← hL]; exact congrArg (3 + ·) (rmsg_len _ _)
          have hlen3 : z1.s.pc = 3 + z1.s.data.length := by rw [q3, (HJ0.out.sd ho1).1]
          have HLL := Kp.mk hL
          have n3 : (z1.s.pc : Int) + 1 = (L : Int) + 4 := by omega
          have n4 : IntKind.i64.wrap ((L : Int) + 4) = (L : Int) + 4 := IntWalk.i64_in _ (by omega)
          have n5 : IntKind.i64.wrap ((z1.n : Int) + 1) = (z1.n : Int) + 1 := IntWalk.i64_in _ (by omega)
          have n6 : (z1.sent : Int) = (z1.n : Int) + 1 := by omega
          have e_tl : (b + ((z1.n + 1 : Nat) : Int)) % 4294967296 = own2 := by rw [← hown2, q6]; congr 1; omega
          have hx2 : (if z1.s.pc = 3 + z1.s.data.length then ringB x 1 else x) = ringB x 1 := if_pos hlen3
          have HBL : Kp (∀ w, BAt w BB (if z1.s.pc = 3 + z1.s.data.length then ringB x 1 else x) → Calls Tryz.prog 42 #[.pointer (some ⟨BB, 0, none⟩), .int .i64 1] w fun e w' => e = .returned (.bool true) ∧ w' = w) := ⟨fun w hb => by
            have h1 := bellHas_any BB _ 1 w hb
            rw [hx2, bell_rung x hxl] at h1
            exact h1⟩
          have HQ := Kp.mk (And.intro e_so (And.intro e_se (And.intro e_n (And.intro e_tl (And.intro n6 hpc3)))))
          have HG5 := Kp.mk e_g
          have lBB := HC1.out.bell.lt
          clear hmk hlv hown2 q1 q2 q3 q4 q6 e_so0 e_se0 e_n0 e_so e_se e_n e_tl e_g hdn e_s e_r e_ro hpc3 hlen3 hx2 hL
          rw [n3] at n1
          rw [n6] at c12
          go_wp2_with fail
          refine (opown_any OS own2 lv _ (blk_set_ne (p := ⟨P, 15, none⟩) HLV.out (Ne.symm hOT) _)).mono ?_
          rintro e w10 ⟨rfl, rfl⟩
          go_wp2_with fail
          go_quiet (first | (go_at_call 58; exact Calls.quiet_of_same (psz_at (o1 := 15) (o2 := 10) (o3 := 8) HLL.out (by omega) HK0.out HC1.out HP1.out hPS)) | (go_at_call 42; exact Calls.quiet_of_same (HBL.out _ (HC1.out.bell3 hPS))))
          go_wp2
          go_ret
          obtain ⟨e_so, e_se, e_n, e_tl, n6', hpc3⟩ := HQ.out
          have e_g := HG5.out
          refine ⟨rfl, OS, (L + 4), S, (.pointer none), (if z1.s.pc = 3 + z1.s.data.length then ringB x 1 else x), ⟨?_, fun e => rfl, fun e => (by rw [e_so] at e; cases e), fun e => HR0.out.1 e, fun e => HR0.out.2 e, ?_, hP0.1⟩, ?_, HSS.out⟩
          · rw [e_g, e_se, e_n, e_tl]
            exact (blk_set (blk_set (blk_set (blk_set HP1.out 15 _) 10 _) 8 _) 14 _).trans (by first | (simp only [ls0, ls1, ls2]; done) | rfl)
          · exact (((((HC1.out.set P 15 _ hPS).set P 10 _ hPS).set P 8 _ hPS).set P 14 _ hPS).below (below_drN (Below.refl _ _)))
          · exact (((((HF1.out.trans (Only.of_but (ButS.set (ButS.refl [P] _) (p := ⟨P, 15, none⟩) (by simp) _) (by simp))).trans (Only.of_but (ButS.set (ButS.refl [P] _) (p := ⟨P, 10, none⟩) (by simp) _) (by simp))).trans (Only.of_but (ButS.set (ButS.refl [P] _) (p := ⟨P, 8, none⟩) (by simp) _) (by simp))).trans (Only.of_but (ButS.set (ButS.refl [P] _) (p := ⟨P, 14, none⟩) (by simp) _) (by simp))).trans (Only.of_below (below_drN (Below.refl _ _))))
      · have hdf : d.done = false := by simpa using hdn
        have hpc2 : z1.s.pc ≤ 2 + z1.s.data.length := by
          have h1 := (HJ0.out.sd ho1).2.2
          by_cases hp : z1.s.pc ≤ 2 + z1.s.data.length
          · exact hp
          · exfalso
            have hd2 := HDD.out
            unfold sDid at hd2
            rw [if_neg (by omega), if_neg (by omega), if_pos (by omega)] at hd2
            rw [← hd2] at hdf
            cases hdf
        have e_st : (stepS (pl12 wd dp) z1).s.pc = z1.s.pc + 1 := by
          rw [e_s]
          unfold sNext
          by_cases h0 : z1.s.pc = 0
          · rw [if_pos h0]
            have hd2 := HDD.out
            unfold sDid at hd2
            rw [if_pos h0] at hd2
            split
            · rename_i hf
              rw [if_pos hf] at hd2
              rw [← hd2] at hdf
              cases hdf
            · show 1 = z1.s.pc + 1; omega
          · rw [if_neg h0]
            by_cases h1 : z1.s.pc = 2 + z1.s.data.length
            · rw [if_pos h1]; show 3 + z1.s.data.length = _; omega
            · rw [if_neg h1, if_pos (by omega)]
        have hlen16 : z1.s.data.length ≤ 16 := by omega
        have n2 : (z1.s.pc : Int) + 1 < 40 := by omega
        have e_so : (stepS (pl12 wd dp) z1).sOn = true := by rw [e_so0, hdf]; rfl
        have e_n : (stepS (pl12 wd dp) z1).n = z1.n := by rw [e_n0, if_neg (by rw [hdf]; simp)]
        rw [hdf] at t0
        by_cases hmk : d.mark = true
        · rw [hmk] at t5
          have e_se : (stepS (pl12 wd dp) z1).sent = z1.sent + 1 := by rw [e_se0, if_pos ⟨hmk, hdf⟩]
          have n4 : IntKind.i64.wrap ((z1.sent : Int) + 1) = (z1.sent : Int) + 1 := IntWalk.i64_in _ (by omega)
          have HQ := Kp.mk (And.intro e_so (And.intro e_se (And.intro e_n (And.intro e_g e_st))))
          clear e_so0 e_se0 e_n0 e_so e_se e_n e_g hdn e_s e_r e_ro hdf hmk e_st hpc2
          go_wp2
          go_ret
          obtain ⟨e_so, e_se, e_n, e_g, e_st⟩ := HQ.out
          refine ⟨rfl, OS, (z1.s.pc + 1), S, (.pointer (some ⟨OS, 0, none⟩)), (if z1.s.pc = 3 + z1.s.data.length then ringB x 1 else x), ⟨?_, fun e => (by rw [e_so] at e; cases e), fun e => ⟨rfl, e_st.symm⟩, fun e => HR0.out.1 e, fun e => HR0.out.2 e, ?_, hP0.1⟩, ?_, HSS.out⟩
          · rw [e_g, e_se, e_n]
            exact (blk_set (blk_set HP1.out 15 _) 12 _).trans (by first | (simp only [ls0, ls1, ls2]; done) | rfl)
          · exact ((HC1.out.set P 15 _ hPS).set P 12 _ hPS)
          · exact ((HF1.out.trans (Only.of_but (ButS.set (ButS.refl [P] _) (p := ⟨P, 15, none⟩) (by simp) _) (by simp))).trans (Only.of_but (ButS.set (ButS.refl [P] _) (p := ⟨P, 12, none⟩) (by simp) _) (by simp)))
        · have hmf : d.mark = false := by simpa using hmk
          rw [hmf] at t5
          have e_se : (stepS (pl12 wd dp) z1).sent = z1.sent := by rw [e_se0, if_neg (by rw [hmf]; simp)]
          have HQ := Kp.mk (And.intro e_so (And.intro e_se (And.intro e_n (And.intro e_g e_st))))
          clear e_so0 e_se0 e_n0 e_so e_se e_n e_g hdn e_s e_r e_ro hdf hmk hmf e_st hpc2
          go_wp2
          go_ret
          obtain ⟨e_so, e_se, e_n, e_g, e_st⟩ := HQ.out
          refine ⟨rfl, OS, (z1.s.pc + 1), S, (.pointer (some ⟨OS, 0, none⟩)), (if z1.s.pc = 3 + z1.s.data.length then ringB x 1 else x), ⟨?_, fun e => (by rw [e_so] at e; cases e), fun e => ⟨rfl, e_st.symm⟩, fun e => HR0.out.1 e, fun e => HR0.out.2 e, ?_, hP0.1⟩, ?_, HSS.out⟩
          · rw [e_g, e_se, e_n]
            exact (blk_set HP1.out 15 _).trans (by first | (simp only [ls0, ls1, ls2]; done) | rfl)
          · exact (HC1.out.set P 15 _ hPS)
          · exact (HF1.out.trans (Only.of_but (ButS.set (ButS.refl [P] _) (p := ⟨P, 15, none⟩) (by simp) _) (by simp)))
end Go.Proofs.YtmidcnfmphlneaaGreat

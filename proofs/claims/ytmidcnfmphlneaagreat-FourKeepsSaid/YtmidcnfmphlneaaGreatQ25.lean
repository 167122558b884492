/- The play of layer 11: a step of the read. -/
import Derived.Test.YtmidcnfmphlneaaGreatQ22
import Derived.Test.YtmidcnfmphlneaaGreatQ24
namespace Go.Proofs.YtmidcnfmphlneaaGreat
open Go.RowKit
set_option linter.unusedSimpArgs false
set_option linter.unusedVariables false
theorem RowN.of_told {w : World} {a : Option Addr} {n k : Nat} {cs : List Value} {B D : Nat} {X : List Nat} {Pq : Nat → Prop} (h : RowAt w 1 (.slice a n k) n cs) (hq : ∀ q, (Value.slice a n k).ownBlock = some q → q ∉ B :: D :: X ∧ Pq q) : RowN w 1 a n k cs X :=
  ⟨h, fun hn x hx hm => by
    subst hx
    exact (hq x.block rfl).1 (by simp [hm])⟩
theorem msg_u32 (wd : Int) (m k : Nat) (h : k < (msg wd m).length) : (u32s (msg wd m))[k]? = some (.int .u32 (m : Int)) := by
  rw [u32s_at _ _ h]
  simp [msg]
set_option maxRecDepth 100000 in
set_option maxHeartbeats 8000000 in
theorem read_any {zk : Nat} {zc : Array Value} {zt : TypeId} {w0 : World} {P B D W g dc Rz bz : Nat} {daz : Option Addr} {drz : Nat} {kc : CfK} {p : Plc} {z : Sg} {wd per : Int} {c : Int → Int → Nat} (hk : CfOk w0 kc wd per) (hp : p = plc4 wd per) (hjz : J p z c) (hwsz : Words z.ws) (hrkz : z.r.pc ≤ 5 → ROk p z.r) (hnz : z.n < 4294967296) (now : Int) (hnow : 0 ≤ now ∧ now ≤ 1099511627776) (wz : World) (hz : PlayAt zk zc zt w0 wz P B D W g dc Rz bz daz drz kc p z) :
    Calls Tryz.prog 17 #[.pointer (some ⟨P, 0, none⟩), .int .i64 now] wz fun e w' => e = .returned (.bool true) ∧ ∃ R bs da' dr', PlayAt zk zc zt w0 w' P B D W g dc R bs da' dr' kc p (stepR p now (if z.r.pc ≤ 5 then z else begR z)) := by
  have HK0 := Kp.mk hk
  have hw1 := hk.w1
  obtain ⟨s, hs⟩ : ∃ s, (if z.r.pc ≤ 5 then z else begR z) = s := ⟨_, rfl⟩
  have hS : J p s c ∧ Words s.ws ∧ ROk p s.r ∧ s.r.pc ≤ 5 ∧ s.n < 4294967296 := by
    rw [← hs]
    split
    · exact ⟨hjz, hwsz, hrkz (by assumption), by assumption, hnz⟩
    · exact ⟨hjz.begR (by omega), hwsz, rdr0_ok p (by rw [hp]; exact hw1.1), Nat.zero_le _, hnz⟩
  rw [hs]
  have HJ0 : Kp (J p s c) := ⟨hS.1⟩
  have HWS0 : Kp (Words s.ws) := ⟨hS.2.1⟩
  have HRK0 : Kp (ROk p s.r) := ⟨hS.2.2.1⟩
  have hr5 := hS.2.2.2.1
  have hn := hS.2.2.2.2
  have HS0 := Kp.mk hs
  have HZ0 := Kp.mk hz
  clear hS hs hjz hwsz hrkz hz hk
  go_enter Tryz.func17, Tryz.ntmps17
  obtain ⟨RR, hRR⟩ : ∃ RR : Act → World → Prop, RR = fun a w => ∃ (u11 u12 u13 u14 u15 u16 u17 u18 u19 u20 u21 u22 u23 u24 u25 u26 u27 u28 u29 u30 u31 u32 u33 u34 u35 u36 u37 u38 u39 u40 : Value) (R bs : Nat) (da : Option Addr) (dr : Nat), a = ⟨#[.pointer (some ⟨P, 0, none⟩), .int .i64 now, undef, undef, .bool false, undef, undef, undef, undef, undef, undef, u11, u12, u13, u14, u15, u16, u17, u18, u19, u20, u21, u22, u23, u24, u25, u26, u27, u28, u29, u30, u31, u32, u33, u34, u35, u36, u37, u38, u39, u40, undef, undef, undef, undef, undef, undef, undef, undef, undef, undef, undef, undef, undef, undef, undef, undef, undef, undef, undef, undef, undef, undef, undef, undef, undef, undef, undef, undef, undef, undef, undef, undef, undef, undef, undef, undef, undef, undef, undef, undef, undef, undef, undef, undef, undef, undef, undef, undef, undef, undef, undef, undef, undef, undef, undef, undef, undef, undef, undef, undef, undef, undef, undef, undef, undef, undef, undef, undef, undef, undef, undef, undef, undef, undef, undef, undef, undef, undef, undef, undef, undef, undef, undef, undef, undef, undef, undef, undef, undef, undef, undef, undef, undef, undef, undef, undef, undef, undef, undef, undef, undef, undef, undef, undef, undef, undef, undef, undef, undef, undef, undef, undef, undef, undef, undef, undef, undef, undef, undef, undef, undef, undef, undef, undef, undef, undef, undef, undef, undef, undef, undef, undef, undef, undef, undef, undef, undef, undef, undef, undef, undef, undef, undef, undef, undef, undef, undef, undef, undef, undef, undef, undef, undef, undef, undef, undef, undef, undef], []⟩ ∧ Kp (PlayAt zk zc zt w0 w P B D W g dc R bs da dr kc p s) := ⟨_, rfl⟩
  have HRR := Kp.mk hRR
  clear hRR
  refine seq_join RR ?_ ?_
  · obtain ⟨hblk, hduo, hlow, hpl, hzb, hzp⟩ := HZ0.out
    have HZZ := Kp.mk hzb
    have lzz := blk_lt hzb
    clear hzb
    have lPz := blk_lt hblk
    have l0z := hlow.size
    intro K0 hK0
    by_cases hpc : z.r.pc ≤ 5
    · have hs := HS0.out
      rw [if_pos hpc] at hs
      rw [if_pos hpc] at hblk
      have c8 := cbk hblk 8 (.pointer (some ⟨Rz, 0, none⟩)) rfl
      have HS1 := Kp.mk hs
      clear hblk hduo hlow hpc hs
      go_wp2
      exact JQ.mk (by rw [HRR.out]; exact ⟨_, _, _, _, _, _, _, _, _, _, _, _, _, _, _, _, _, _, _, _, _, _, _, _, _, _, _, _, _, _, _, _, _, _, rfl, ⟨HS1.out ▸ HZ0.out⟩⟩)
    · rw [if_neg hpc] at hblk
      obtain ⟨wv, hwv⟩ : ∃ wv : Value, (if z.w.pc ≤ 6 then .pointer (some ⟨W, 0, none⟩) else .pointer none) = wv := ⟨_, rfl⟩
      rw [hwv] at hblk
      have HWV0 := Kp.mk hwv
      have HPZ := Kp.mk hblk
      have HDZ := Kp.mk hduo
      have HLZ := Kp.mk hlow
      have HNR := Kp.mk (newR_two (.agg #[.slice kc.pa 2 kc.pc, .slice (some ⟨kc.cg, kc.co, none⟩) 1 kc.cc, .int .i64 1, .slice kc.a0 1 kc.c0, .int .i64 1, .slice kc.a1 1 kc.c1]) wd per hw1 HK0.out.p1 wz (HK0.out.cfg.below hlow))
      have hs := HS0.out
      rw [if_neg hpc] at hs
      have HS1 := Kp.mk hs
      clear hblk hduo hlow hwv hs hpc
      have c0 := cbk HPZ.out 0 (.slice kc.pa 2 kc.pc) rfl
      have c1 := cbk HPZ.out 1 (.slice (some ⟨kc.cg, kc.co, none⟩) 1 kc.cc) rfl
      have c2 := cbk HPZ.out 2 (.int .i64 1) rfl
      have c3 := cbk HPZ.out 3 (.slice kc.a0 1 kc.c0) rfl
      have c4 := cbk HPZ.out 4 (.int .i64 1) rfl
      have c5 := cbk HPZ.out 5 (.slice kc.a1 1 kc.c1) rfl
      have c6 := cbk HPZ.out 6 (.pointer (some ⟨B, 0, none⟩)) rfl
      have c7 := cbk HPZ.out 7 (wv) rfl
      have c8 := cbk HPZ.out 8 (.pointer none) rfl
      have c9 := cbk HPZ.out 9 (.int .u32 (z.n : Int)) rfl
      have c10 := cbk HPZ.out 10 (.int .u32 (z.written : Int)) rfl
      have c11 := cbk HPZ.out 11 (.int .u32 (z.marked : Int)) rfl
      have c12 := cbk HPZ.out 12 (.int .u32 (z.begun : Int)) rfl
      have c13 := cbk HPZ.out 13 (.int .u32 (z.first : Int)) rfl
      have c14 := cbk HPZ.out 14 (.int .u32 (z.last : Int)) rfl
      have c15 := cbk HPZ.out 15 (.int .i64 (z.steps : Int)) rfl
      have c16 := cbk HPZ.out 16 (.int .i64 (z.own : Int)) rfl
      go_wp2_with fail
      refine HNR.out.mono ?_
      rintro e w5 ⟨R, rfl, hR, hb, hRl⟩
      have HP5 : Kp (w5.heap[P]? = some (.cells #[.slice kc.pa 2 kc.pc, .slice (some ⟨kc.cg, kc.co, none⟩) 1 kc.cc, .int .i64 1, .slice kc.a0 1 kc.c0, .int .i64 1, .slice kc.a1 1 kc.c1, .pointer (some ⟨B, 0, none⟩), wv, .pointer none, .int .u32 (z.n : Int), .int .u32 (z.written : Int), .int .u32 (z.marked : Int), .int .u32 (z.begun : Int), .int .u32 (z.first : Int), .int .u32 (z.last : Int), .int .i64 (z.steps : Int), .int .i64 (z.own : Int)] 43 (0, 0))) := ⟨blk_below HPZ.out hb⟩
      have HL5 : Kp (Below w0.heap.size w0 w5) := ⟨HLZ.out.trans (hb.mono l0z)⟩
      have HD5 : Kp (Duo w5 [P, zk] w0.heap.size B D W g dc R (R + 1) none 0 p z.ws z.w rdr0) := ⟨Duo.newR HDZ.out l0z (fun q hq => by simp only [List.mem_cons, List.not_mem_nil, or_false] at hq; omega) hb (hp ▸ hR.out) hRl⟩
      have HZ5 : Kp (w5.heap[zk]? = some (.cells zc zt (0, 0))) := ⟨blk_below HZZ.out hb⟩
      have lP5 := blk_lt HP5.out
      have d0 := cbk HP5.out 0 (.slice kc.pa 2 kc.pc) rfl
      have d1 := cbk HP5.out 1 (.slice (some ⟨kc.cg, kc.co, none⟩) 1 kc.cc) rfl
      have d2 := cbk HP5.out 2 (.int .i64 1) rfl
      have d3 := cbk HP5.out 3 (.slice kc.a0 1 kc.c0) rfl
      have d4 := cbk HP5.out 4 (.int .i64 1) rfl
      have d5 := cbk HP5.out 5 (.slice kc.a1 1 kc.c1) rfl
      have d6 := cbk HP5.out 6 (.pointer (some ⟨B, 0, none⟩)) rfl
      have d7 := cbk HP5.out 7 (wv) rfl
      have d8 := cbk HP5.out 8 (.pointer none) rfl
      have d9 := cbk HP5.out 9 (.int .u32 (z.n : Int)) rfl
      have d10 := cbk HP5.out 10 (.int .u32 (z.written : Int)) rfl
      have d11 := cbk HP5.out 11 (.int .u32 (z.marked : Int)) rfl
      have d12 := cbk HP5.out 12 (.int .u32 (z.begun : Int)) rfl
      have d13 := cbk HP5.out 13 (.int .u32 (z.first : Int)) rfl
      have d14 := cbk HP5.out 14 (.int .u32 (z.last : Int)) rfl
      have d15 := cbk HP5.out 15 (.int .i64 (z.steps : Int)) rfl
      have d16 := cbk HP5.out 16 (.int .i64 (z.own : Int)) rfl
      have e8 := frozen_blk HP5.out 8
      clear hR hb hRl HNR HPZ HDZ HLZ lPz l0z c0 c1 c2 c3 c4 c5 c6 c7 c8 c9 c10 c11 c12 c13 c14 c15 c16
      go_wp2_with fail
      have HP1 : Kp ((w5.setCell ⟨P, 8, none⟩ (.pointer (some ⟨R, 0, none⟩))).heap[P]? = some (.cells #[.slice kc.pa 2 kc.pc, .slice (some ⟨kc.cg, kc.co, none⟩) 1 kc.cc, .int .i64 1, .slice kc.a0 1 kc.c0, .int .i64 1, .slice kc.a1 1 kc.c1, .pointer (some ⟨B, 0, none⟩), wv, .pointer (some ⟨R, 0, none⟩), .int .u32 (z.n : Int), .int .u32 (z.written : Int), .int .u32 (z.marked : Int), .int .u32 (z.begun : Int), .int .u32 (z.first : Int), .int .u32 (z.last : Int), .int .i64 (z.steps : Int), .int .i64 (z.own : Int)] 43 (0, 0))) := ⟨(blk_set HP5.out 8 _).trans (by simp only [ls0, ls1, ls2])⟩
      have HL1 : Kp (Below w0.heap.size w0 (w5.setCell ⟨P, 8, none⟩ (.pointer (some ⟨R, 0, none⟩)))) := ⟨HL5.out.setCell (p := ⟨P, 8, none⟩) hpl _⟩
      have HD1 : Kp (Duo (w5.setCell ⟨P, 8, none⟩ (.pointer (some ⟨R, 0, none⟩))) [P, zk] w0.heap.size B D W g dc R (R + 1) none 0 p z.ws z.w rdr0) := ⟨HD5.out.but (ButS.set (ButS.refl [P] w5) (p := ⟨P, 8, none⟩) (by simp) _) (by simp)⟩
      have HZ1 : Kp ((w5.setCell ⟨P, 8, none⟩ (.pointer (some ⟨R, 0, none⟩))).heap[zk]? = some (.cells zc zt (0, 0))) := ⟨blk_set_ne (p := ⟨P, 8, none⟩) HZ5.out hzp _⟩
      clear HZ5 HP5 HL5 HD5 lP5 e8 d0 d1 d2 d3 d4 d5 d6 d7 d8 d9 d10 d11 d12 d13 d14 d15 d16
      generalize w5.setCell ⟨P, 8, none⟩ (.pointer (some ⟨R, 0, none⟩)) = w6 at HP1 HL1 HD1 HZ1 ⊢
      have lP6 := blk_lt HP1.out
      refine held_start_gen (S := (fun w' : World => ButB (w6.heap.size) [P] w6 w' ∧ ∀ bb o, bb < w6.heap.size → bb ≠ P → w'.cell? ⟨bb, o, none⟩ = w6.cell? ⟨bb, o, none⟩)) (by kernel_rfl) (fun wz : World => Kp (wz.heap[P]? = some (.cells #[.slice kc.pa 2 kc.pc, .slice (some ⟨kc.cg, kc.co, none⟩) 1 kc.cc, .int .i64 1, .slice kc.a0 1 kc.c0, .int .i64 1, .slice kc.a1 1 kc.c1, .pointer (some ⟨B, 0, none⟩), wv, .pointer (some ⟨R, 0, none⟩), .int .u32 (z.n : Int), .int .u32 (z.written : Int), .int .u32 (z.marked : Int), .int .u32 (z.begun : Int), .int .u32 (z.first : Int), .int .u32 (z.last : Int), .int .i64 (z.steps : Int), .int .i64 (z.own : Int)] 43 (0, 0))) ∧ Kp (Duo wz [P, zk] w0.heap.size B D W g dc R (R + 1) none 0 p z.ws z.w rdr0) ∧ Kp (Below w0.heap.size w0 wz) ∧ Kp (wz.heap[zk]? = some (.cells zc zt (0, 0))) ∧ w6.heap.size ≤ wz.heap.size) ⟨⟨blk_dr HP1.out⟩, ⟨(HD1.out.below (below_dr (Below.refl _ _)))⟩, ⟨HL1.out.drew⟩, ⟨blk_dr HZ1.out⟩, Nat.le_refl _⟩ (sx_of1 (ButB.dr (ButB.refl _ (by omega)))) (fun wd0 hRn hHeld => ?_)
      clear HP1 HD1 HL1 HZ1
      obtain ⟨HP1, HD1, HL1, HZ1, hsz⟩ := hRn
      refine wtk 0 ?_ rfl (.inl ⟨by rfl, ?_⟩) ?_
      rotate_left 1
      · (intro w hSw; go_simp; try with_reducible rfl)
      try simp only [Act.put, ls0, ls1, ls2]
      refine wtk 1 ?_ rfl (.inl ⟨by rfl, ?_⟩) ?_
      rotate_left 1
      · (intro w hSw; go_simp; try with_reducible rfl)
      try simp only [Act.put, ls0, ls1, ls2]
      refine wtk 2 ?_ rfl (.inl ⟨by rfl, ?_⟩) ?_
      rotate_left 1
      · (intro w hSw; go_simp; try with_reducible rfl)
      try simp only [Act.put, ls0, ls1, ls2]
      refine wtk 3 ?_ rfl (.inl ⟨by rfl, ?_⟩) ?_
      rotate_left 1
      · (intro w hSw; go_simp; try with_reducible rfl)
      try simp only [Act.put, ls0, ls1, ls2]
      refine wtk 4 ?_ rfl (.inl ⟨by rfl, ?_⟩) ?_
      rotate_left 1
      · (intro w hSw; go_simp; try with_reducible rfl)
      try simp only [Act.put, ls0, ls1, ls2]
      refine wtk 5 ?_ rfl (.inl ⟨by rfl, ?_⟩) ?_
      rotate_left 1
      · (intro w hSw; go_simp; try with_reducible rfl)
      try simp only [Act.put, ls0, ls1, ls2]
      refine wtk 7 ?_ rfl (.inl ⟨by rfl, ?_⟩) ?_
      rotate_left 1
      · (intro w hSw; go_simp; try with_reducible rfl)
      try simp only [Act.put, ls0, ls1, ls2]
      refine wtk 8 ?_ rfl (.inl ⟨by rfl, ?_⟩) ?_
      rotate_left 1
      · (intro w hSw; go_simp; try with_reducible rfl)
      try simp only [Act.put, ls0, ls1, ls2]
      refine wtk 9 ?_ rfl (.inl ⟨by rfl, ?_⟩) ?_
      rotate_left 1
      · (intro w hSw; go_simp; try with_reducible rfl)
      try simp only [Act.put, ls0, ls1, ls2]
      refine wrd [6, 10] ?_
      refine (arc rfl (fun K hK => ?_) (arc rfl (fun K hK => ?_) arn))
      · have sd10 := cbk HP1.out 10 (.int .u32 (z.written : Int)) rfl
        have sl := blk_lt HP1.out
        go_simp
        try go_wp2_with fail
        refine out_gen hK _ _ (fun wz : World => Kp (wz.heap[P]? = some (.cells #[.slice kc.pa 2 kc.pc, .slice (some ⟨kc.cg, kc.co, none⟩) 1 kc.cc, .int .i64 1, .slice kc.a0 1 kc.c0, .int .i64 1, .slice kc.a1 1 kc.c1, .pointer (some ⟨B, 0, none⟩), wv, .pointer (some ⟨R, 0, none⟩), .int .u32 (z.n : Int), .int .u32 (z.written : Int), .int .u32 (z.marked : Int), .int .u32 (z.begun : Int), .int .u32 (z.first : Int), .int .u32 (z.last : Int), .int .i64 (z.steps : Int), .int .i64 (z.own : Int)] 43 (0, 0))) ∧ Kp (Duo wz [P, zk] w0.heap.size B D W g dc R (R + 1) none 0 p z.ws z.w rdr0) ∧ Kp (Below w0.heap.size w0 wz) ∧ Kp (wz.heap[zk]? = some (.cells zc zt (0, 0))) ∧ wd0.heap.size ≤ wz.heap.size) ⟨⟨HP1.out⟩, ⟨HD1.out⟩, ⟨HL1.out⟩, ⟨HZ1.out⟩, Nat.le_refl _⟩ (sx_of1 ((And.left hHeld))) (fun wd1 hRn hHn => ?_)
        clear hK K hHeld HP1 HD1 HL1 HZ1  sd10 sl
        obtain ⟨HP1, HD1, HL1, HZ1, hsz1⟩ := hRn
        have hHeld := hHn
        clear hHn
        try simp only [Act.put, ls0, ls1, ls2]
        refine wrd [10] ?_
        refine (arc rfl (fun K hK => ?_) arn)
        have sd11 := cbk HP1.out 11 (.int .u32 (z.marked : Int)) rfl
        have sl := blk_lt HP1.out
        go_simp
        try go_wp2_with fail
        refine out_gen hK _ _ (fun wz : World => Kp (wz.heap[P]? = some (.cells #[.slice kc.pa 2 kc.pc, .slice (some ⟨kc.cg, kc.co, none⟩) 1 kc.cc, .int .i64 1, .slice kc.a0 1 kc.c0, .int .i64 1, .slice kc.a1 1 kc.c1, .pointer (some ⟨B, 0, none⟩), wv, .pointer (some ⟨R, 0, none⟩), .int .u32 (z.n : Int), .int .u32 (z.written : Int), .int .u32 (z.marked : Int), .int .u32 (z.begun : Int), .int .u32 (z.first : Int), .int .u32 (z.last : Int), .int .i64 (z.steps : Int), .int .i64 (z.own : Int)] 43 (0, 0))) ∧ Kp (Duo wz [P, zk] w0.heap.size B D W g dc R (R + 1) none 0 p z.ws z.w rdr0) ∧ Kp (Below w0.heap.size w0 wz) ∧ Kp (wz.heap[zk]? = some (.cells zc zt (0, 0))) ∧ wd1.heap.size ≤ wz.heap.size) ⟨⟨HP1.out⟩, ⟨HD1.out⟩, ⟨HL1.out⟩, ⟨HZ1.out⟩, Nat.le_refl _⟩ (sx_of1 ((And.left hHeld))) (fun wd2 hRn hHn => ?_)
        clear hK K hHeld HP1 HD1 HL1 HZ1  sd11 sl
        obtain ⟨HP1, HD1, HL1, HZ1, hsz2⟩ := hRn
        have hHeld := hHn
        clear hHn
        try simp only [Act.put, ls0, ls1, ls2]
        refine wtk 11 ?_ rfl (.inl ⟨by rfl, ?_⟩) ?_
        rotate_left 1
        · (intro w hSw; go_simp; try with_reducible rfl)
        try simp only [Act.put, ls0, ls1, ls2]
        refine wtk 12 ?_ rfl (.inl ⟨by rfl, ?_⟩) ?_
        rotate_left 1
        · (intro w hSw; go_simp; try with_reducible rfl)
        try simp only [Act.put, ls0, ls1, ls2]
        refine wrd [13] ?_
        refine (arc rfl (fun K hK => ?_) arn)
        have sd := cbk HP1.out 12 (.int .u32 (z.begun : Int)) rfl
        have sf := frozen_blk HP1.out 12
        have sl := blk_lt HP1.out
        go_simp
        try go_wp2_with fail
        refine out_gen hK _ _ (fun wz : World => Kp (wz.heap[P]? = some (.cells #[.slice kc.pa 2 kc.pc, .slice (some ⟨kc.cg, kc.co, none⟩) 1 kc.cc, .int .i64 1, .slice kc.a0 1 kc.c0, .int .i64 1, .slice kc.a1 1 kc.c1, .pointer (some ⟨B, 0, none⟩), wv, .pointer (some ⟨R, 0, none⟩), .int .u32 (z.n : Int), .int .u32 (z.written : Int), .int .u32 (z.marked : Int), .int .u32 (z.written : Int), .int .u32 (z.first : Int), .int .u32 (z.last : Int), .int .i64 (z.steps : Int), .int .i64 (z.own : Int)] 43 (0, 0))) ∧ Kp (Duo wz [P, zk] w0.heap.size B D W g dc R (R + 1) none 0 p z.ws z.w rdr0) ∧ Kp (Below w0.heap.size w0 wz) ∧ Kp (wz.heap[zk]? = some (.cells zc zt (0, 0))) ∧ wd2.heap.size ≤ wz.heap.size) ⟨⟨(blk_set HP1.out 12 _).trans (by simp only [ls0, ls1, ls2])⟩, ⟨HD1.out.but (ButS.set (ButS.refl [P] _) (p := ⟨P, 12, none⟩) (by simp) _) (by simp)⟩, ⟨HL1.out.setCell (p := ⟨P, 12, none⟩) hpl _⟩, ⟨blk_set_ne (p := ⟨P, 12, none⟩) HZ1.out (by show zk ≠ P; omega) _⟩, (by simp [World.setCell])⟩ (sx_of1 (ButB.set (And.left hHeld) (p := ⟨P, 12, none⟩) (by first | (left; simp; done) | (right; show _ ≤ P; omega)) _)) (fun wd3 hRn hHn => ?_)
        clear hK K hHeld HP1 HD1 HL1 HZ1 sd sf sl
        obtain ⟨HP1, HD1, HL1, HZ1, hsz3⟩ := hRn
        have hHeld := hHn
        clear hHn
        try simp only [Act.put, ls0, ls1, ls2]
        refine wtk 14 ?_ rfl (.inl ⟨by rfl, ?_⟩) ?_
        rotate_left 1
        · (intro w hSw; go_simp; try with_reducible rfl)
        try simp only [Act.put, ls0, ls1, ls2]
        refine wtk 15 ?_ rfl (.inl ⟨by rfl, ?_⟩) ?_
        rotate_left 1
        · (intro w hSw; go_simp; try with_reducible rfl)
        try simp only [Act.put, ls0, ls1, ls2]
        refine wrd [16] ?_
        refine (arc rfl (fun K hK => ?_) arn)
        have sd := cbk HP1.out 13 (.int .u32 (z.first : Int)) rfl
        have sf := frozen_blk HP1.out 13
        have sl := blk_lt HP1.out
        go_simp
        try go_wp2_with fail
        refine out_gen hK _ _ (fun wz : World => Kp (wz.heap[P]? = some (.cells #[.slice kc.pa 2 kc.pc, .slice (some ⟨kc.cg, kc.co, none⟩) 1 kc.cc, .int .i64 1, .slice kc.a0 1 kc.c0, .int .i64 1, .slice kc.a1 1 kc.c1, .pointer (some ⟨B, 0, none⟩), wv, .pointer (some ⟨R, 0, none⟩), .int .u32 (z.n : Int), .int .u32 (z.written : Int), .int .u32 (z.marked : Int), .int .u32 (z.written : Int), .int .u32 (z.marked : Int), .int .u32 (z.last : Int), .int .i64 (z.steps : Int), .int .i64 (z.own : Int)] 43 (0, 0))) ∧ Kp (Duo wz [P, zk] w0.heap.size B D W g dc R (R + 1) none 0 p z.ws z.w rdr0) ∧ Kp (Below w0.heap.size w0 wz) ∧ Kp (wz.heap[zk]? = some (.cells zc zt (0, 0))) ∧ wd3.heap.size ≤ wz.heap.size) ⟨⟨(blk_set HP1.out 13 _).trans (by simp only [ls0, ls1, ls2])⟩, ⟨HD1.out.but (ButS.set (ButS.refl [P] _) (p := ⟨P, 13, none⟩) (by simp) _) (by simp)⟩, ⟨HL1.out.setCell (p := ⟨P, 13, none⟩) hpl _⟩, ⟨blk_set_ne (p := ⟨P, 13, none⟩) HZ1.out (by show zk ≠ P; omega) _⟩, (by simp [World.setCell])⟩ (sx_of1 (ButB.set (And.left hHeld) (p := ⟨P, 13, none⟩) (by first | (left; simp; done) | (right; show _ ≤ P; omega)) _)) (fun wd4 hRn hHn => ?_)
        clear hK K hHeld HP1 HD1 HL1 HZ1 sd sf sl
        obtain ⟨HP1, HD1, HL1, HZ1, hsz4⟩ := hRn
        have hHeld := hHn
        clear hHn
        try simp only [Act.put, ls0, ls1, ls2]
        refine wtk 17 ?_ rfl (.inl ⟨by rfl, ?_⟩) ?_
        rotate_left 1
        · (intro w hSw; go_simp; try with_reducible rfl)
        try simp only [Act.put, ls0, ls1, ls2]
        refine wtk 18 ?_ rfl (.inl ⟨by rfl, ?_⟩) ?_
        rotate_left 1
        · (intro w hSw; go_simp; try with_reducible rfl)
        try simp only [Act.put, ls0, ls1, ls2]
        refine wrd [19] ?_
        refine (arc rfl (fun K hK => ?_) arn)
        have sd := cbk HP1.out 16 (.int .i64 (z.own : Int)) rfl
        have sf := frozen_blk HP1.out 16
        have sl := blk_lt HP1.out
        go_simp
        try go_wp2_with fail
        refine out_gen hK _ _ (fun wz : World => Kp (wz.heap[P]? = some (.cells #[.slice kc.pa 2 kc.pc, .slice (some ⟨kc.cg, kc.co, none⟩) 1 kc.cc, .int .i64 1, .slice kc.a0 1 kc.c0, .int .i64 1, .slice kc.a1 1 kc.c1, .pointer (some ⟨B, 0, none⟩), wv, .pointer (some ⟨R, 0, none⟩), .int .u32 (z.n : Int), .int .u32 (z.written : Int), .int .u32 (z.marked : Int), .int .u32 (z.written : Int), .int .u32 (z.marked : Int), .int .u32 (z.last : Int), .int .i64 (z.steps : Int), .int .i64 0] 43 (0, 0))) ∧ Kp (Duo wz [P, zk] w0.heap.size B D W g dc R (R + 1) none 0 p z.ws z.w rdr0) ∧ Kp (Below w0.heap.size w0 wz) ∧ Kp (wz.heap[zk]? = some (.cells zc zt (0, 0))) ∧ wd4.heap.size ≤ wz.heap.size) ⟨⟨(blk_set HP1.out 16 _).trans (by simp only [ls0, ls1, ls2])⟩, ⟨HD1.out.but (ButS.set (ButS.refl [P] _) (p := ⟨P, 16, none⟩) (by simp) _) (by simp)⟩, ⟨HL1.out.setCell (p := ⟨P, 16, none⟩) hpl _⟩, ⟨blk_set_ne (p := ⟨P, 16, none⟩) HZ1.out (by show zk ≠ P; omega) _⟩, (by simp [World.setCell])⟩ (sx_of1 (ButB.set (And.left hHeld) (p := ⟨P, 16, none⟩) (by first | (left; simp; done) | (right; show _ ≤ P; omega)) _)) (fun wd5 hRn hHn => ?_)
        clear hK K hHeld HP1 HD1 HL1 HZ1 sd sf sl
        obtain ⟨HP1, HD1, HL1, HZ1, hsz5⟩ := hRn
        have hHeld := hHn
        clear hHn
        try simp only [Act.put, ls0, ls1, ls2]
        refine wpAnyH_done (by kernel_rfl) ?_ _
        have h : PlayAt zk zc zt w0 wd5 P B D W g dc R (R + 1) none 0 kc p s := by
          have hs := HS1.out
          rw [← hs]
          refine ⟨?_, HD1.out, HL1.out, hpl, HZ1.out, hzp⟩
          rw [if_pos (show (begR z).r.pc ≤ 5 from Nat.zero_le _)]
          have e : (if (begR z).w.pc ≤ 6 then Value.pointer (some ⟨W, 0, none⟩) else Value.pointer none) = wv := HWV0.out
          rw [e]
          exact HP1.out
        clear hHeld
        go_wp2
        exact JQ.mk (by rw [HRR.out]; exact ⟨_, _, _, _, _, _, _, _, _, _, _, _, _, _, _, _, _, _, _, _, _, _, _, _, _, _, _, _, _, _, _, _, _, _, rfl, ⟨h⟩⟩)
      · have sd11 := cbk HP1.out 11 (.int .u32 (z.marked : Int)) rfl
        have sl := blk_lt HP1.out
        go_simp
        try go_wp2_with fail
        refine out_gen hK _ _ (fun wz : World => Kp (wz.heap[P]? = some (.cells #[.slice kc.pa 2 kc.pc, .slice (some ⟨kc.cg, kc.co, none⟩) 1 kc.cc, .int .i64 1, .slice kc.a0 1 kc.c0, .int .i64 1, .slice kc.a1 1 kc.c1, .pointer (some ⟨B, 0, none⟩), wv, .pointer (some ⟨R, 0, none⟩), .int .u32 (z.n : Int), .int .u32 (z.written : Int), .int .u32 (z.marked : Int), .int .u32 (z.begun : Int), .int .u32 (z.first : Int), .int .u32 (z.last : Int), .int .i64 (z.steps : Int), .int .i64 (z.own : Int)] 43 (0, 0))) ∧ Kp (Duo wz [P, zk] w0.heap.size B D W g dc R (R + 1) none 0 p z.ws z.w rdr0) ∧ Kp (Below w0.heap.size w0 wz) ∧ Kp (wz.heap[zk]? = some (.cells zc zt (0, 0))) ∧ wd0.heap.size ≤ wz.heap.size) ⟨⟨HP1.out⟩, ⟨HD1.out⟩, ⟨HL1.out⟩, ⟨HZ1.out⟩, Nat.le_refl _⟩ (sx_of1 ((And.left hHeld))) (fun wd6 hRn hHn => ?_)
        clear hK K hHeld HP1 HD1 HL1 HZ1  sd11 sl
        obtain ⟨HP1, HD1, HL1, HZ1, hsz6⟩ := hRn
        have hHeld := hHn
        clear hHn
        try simp only [Act.put, ls0, ls1, ls2]
        refine wrd [6] ?_
        refine (arc rfl (fun K hK => ?_) arn)
        have sd10 := cbk HP1.out 10 (.int .u32 (z.written : Int)) rfl
        have sl := blk_lt HP1.out
        go_simp
        try go_wp2_with fail
        refine out_gen hK _ _ (fun wz : World => Kp (wz.heap[P]? = some (.cells #[.slice kc.pa 2 kc.pc, .slice (some ⟨kc.cg, kc.co, none⟩) 1 kc.cc, .int .i64 1, .slice kc.a0 1 kc.c0, .int .i64 1, .slice kc.a1 1 kc.c1, .pointer (some ⟨B, 0, none⟩), wv, .pointer (some ⟨R, 0, none⟩), .int .u32 (z.n : Int), .int .u32 (z.written : Int), .int .u32 (z.marked : Int), .int .u32 (z.begun : Int), .int .u32 (z.first : Int), .int .u32 (z.last : Int), .int .i64 (z.steps : Int), .int .i64 (z.own : Int)] 43 (0, 0))) ∧ Kp (Duo wz [P, zk] w0.heap.size B D W g dc R (R + 1) none 0 p z.ws z.w rdr0) ∧ Kp (Below w0.heap.size w0 wz) ∧ Kp (wz.heap[zk]? = some (.cells zc zt (0, 0))) ∧ wd6.heap.size ≤ wz.heap.size) ⟨⟨HP1.out⟩, ⟨HD1.out⟩, ⟨HL1.out⟩, ⟨HZ1.out⟩, Nat.le_refl _⟩ (sx_of1 ((And.left hHeld))) (fun wd7 hRn hHn => ?_)
        clear hK K hHeld HP1 HD1 HL1 HZ1  sd10 sl
        obtain ⟨HP1, HD1, HL1, HZ1, hsz7⟩ := hRn
        have hHeld := hHn
        clear hHn
        try simp only [Act.put, ls0, ls1, ls2]
        refine wtk 11 ?_ rfl (.inl ⟨by rfl, ?_⟩) ?_
        rotate_left 1
        · (intro w hSw; go_simp; try with_reducible rfl)
        try simp only [Act.put, ls0, ls1, ls2]
        refine wtk 12 ?_ rfl (.inl ⟨by rfl, ?_⟩) ?_
        rotate_left 1
        · (intro w hSw; go_simp; try with_reducible rfl)
        try simp only [Act.put, ls0, ls1, ls2]
        refine wrd [13] ?_
        refine (arc rfl (fun K hK => ?_) arn)
        have sd := cbk HP1.out 12 (.int .u32 (z.begun : Int)) rfl
        have sf := frozen_blk HP1.out 12
        have sl := blk_lt HP1.out
        go_simp
        try go_wp2_with fail
        refine out_gen hK _ _ (fun wz : World => Kp (wz.heap[P]? = some (.cells #[.slice kc.pa 2 kc.pc, .slice (some ⟨kc.cg, kc.co, none⟩) 1 kc.cc, .int .i64 1, .slice kc.a0 1 kc.c0, .int .i64 1, .slice kc.a1 1 kc.c1, .pointer (some ⟨B, 0, none⟩), wv, .pointer (some ⟨R, 0, none⟩), .int .u32 (z.n : Int), .int .u32 (z.written : Int), .int .u32 (z.marked : Int), .int .u32 (z.written : Int), .int .u32 (z.first : Int), .int .u32 (z.last : Int), .int .i64 (z.steps : Int), .int .i64 (z.own : Int)] 43 (0, 0))) ∧ Kp (Duo wz [P, zk] w0.heap.size B D W g dc R (R + 1) none 0 p z.ws z.w rdr0) ∧ Kp (Below w0.heap.size w0 wz) ∧ Kp (wz.heap[zk]? = some (.cells zc zt (0, 0))) ∧ wd7.heap.size ≤ wz.heap.size) ⟨⟨(blk_set HP1.out 12 _).trans (by simp only [ls0, ls1, ls2])⟩, ⟨HD1.out.but (ButS.set (ButS.refl [P] _) (p := ⟨P, 12, none⟩) (by simp) _) (by simp)⟩, ⟨HL1.out.setCell (p := ⟨P, 12, none⟩) hpl _⟩, ⟨blk_set_ne (p := ⟨P, 12, none⟩) HZ1.out (by show zk ≠ P; omega) _⟩, (by simp [World.setCell])⟩ (sx_of1 (ButB.set (And.left hHeld) (p := ⟨P, 12, none⟩) (by first | (left; simp; done) | (right; show _ ≤ P; omega)) _)) (fun wd8 hRn hHn => ?_)
        clear hK K hHeld HP1 HD1 HL1 HZ1 sd sf sl
        obtain ⟨HP1, HD1, HL1, HZ1, hsz8⟩ := hRn
        have hHeld := hHn
        clear hHn
        try simp only [Act.put, ls0, ls1, ls2]
        refine wtk 14 ?_ rfl (.inl ⟨by rfl, ?_⟩) ?_
        rotate_left 1
        · (intro w hSw; go_simp; try with_reducible rfl)
        try simp only [Act.put, ls0, ls1, ls2]
        refine wtk 15 ?_ rfl (.inl ⟨by rfl, ?_⟩) ?_
        rotate_left 1
        · (intro w hSw; go_simp; try with_reducible rfl)
        try simp only [Act.put, ls0, ls1, ls2]
        refine wrd [16] ?_
        refine (arc rfl (fun K hK => ?_) arn)
        have sd := cbk HP1.out 13 (.int .u32 (z.first : Int)) rfl
        have sf := frozen_blk HP1.out 13
        have sl := blk_lt HP1.out
        go_simp
        try go_wp2_with fail
        refine out_gen hK _ _ (fun wz : World => Kp (wz.heap[P]? = some (.cells #[.slice kc.pa 2 kc.pc, .slice (some ⟨kc.cg, kc.co, none⟩) 1 kc.cc, .int .i64 1, .slice kc.a0 1 kc.c0, .int .i64 1, .slice kc.a1 1 kc.c1, .pointer (some ⟨B, 0, none⟩), wv, .pointer (some ⟨R, 0, none⟩), .int .u32 (z.n : Int), .int .u32 (z.written : Int), .int .u32 (z.marked : Int), .int .u32 (z.written : Int), .int .u32 (z.marked : Int), .int .u32 (z.last : Int), .int .i64 (z.steps : Int), .int .i64 (z.own : Int)] 43 (0, 0))) ∧ Kp (Duo wz [P, zk] w0.heap.size B D W g dc R (R + 1) none 0 p z.ws z.w rdr0) ∧ Kp (Below w0.heap.size w0 wz) ∧ Kp (wz.heap[zk]? = some (.cells zc zt (0, 0))) ∧ wd8.heap.size ≤ wz.heap.size) ⟨⟨(blk_set HP1.out 13 _).trans (by simp only [ls0, ls1, ls2])⟩, ⟨HD1.out.but (ButS.set (ButS.refl [P] _) (p := ⟨P, 13, none⟩) (by simp) _) (by simp)⟩, ⟨HL1.out.setCell (p := ⟨P, 13, none⟩) hpl _⟩, ⟨blk_set_ne (p := ⟨P, 13, none⟩) HZ1.out (by show zk ≠ P; omega) _⟩, (by simp [World.setCell])⟩ (sx_of1 (ButB.set (And.left hHeld) (p := ⟨P, 13, none⟩) (by first | (left; simp; done) | (right; show _ ≤ P; omega)) _)) (fun wd9 hRn hHn => ?_)
        clear hK K hHeld HP1 HD1 HL1 HZ1 sd sf sl
        obtain ⟨HP1, HD1, HL1, HZ1, hsz9⟩ := hRn
        have hHeld := hHn
        clear hHn
        try simp only [Act.put, ls0, ls1, ls2]
        refine wtk 17 ?_ rfl (.inl ⟨by rfl, ?_⟩) ?_
        rotate_left 1
        · (intro w hSw; go_simp; try with_reducible rfl)
        try simp only [Act.put, ls0, ls1, ls2]
        refine wtk 18 ?_ rfl (.inl ⟨by rfl, ?_⟩) ?_
        rotate_left 1
        · (intro w hSw; go_simp; try with_reducible rfl)
        try simp only [Act.put, ls0, ls1, ls2]
        refine wrd [19] ?_
        refine (arc rfl (fun K hK => ?_) arn)
        have sd := cbk HP1.out 16 (.int .i64 (z.own : Int)) rfl
        have sf := frozen_blk HP1.out 16
        have sl := blk_lt HP1.out
        go_simp
        try go_wp2_with fail
        refine out_gen hK _ _ (fun wz : World => Kp (wz.heap[P]? = some (.cells #[.slice kc.pa 2 kc.pc, .slice (some ⟨kc.cg, kc.co, none⟩) 1 kc.cc, .int .i64 1, .slice kc.a0 1 kc.c0, .int .i64 1, .slice kc.a1 1 kc.c1, .pointer (some ⟨B, 0, none⟩), wv, .pointer (some ⟨R, 0, none⟩), .int .u32 (z.n : Int), .int .u32 (z.written : Int), .int .u32 (z.marked : Int), .int .u32 (z.written : Int), .int .u32 (z.marked : Int), .int .u32 (z.last : Int), .int .i64 (z.steps : Int), .int .i64 0] 43 (0, 0))) ∧ Kp (Duo wz [P, zk] w0.heap.size B D W g dc R (R + 1) none 0 p z.ws z.w rdr0) ∧ Kp (Below w0.heap.size w0 wz) ∧ Kp (wz.heap[zk]? = some (.cells zc zt (0, 0))) ∧ wd9.heap.size ≤ wz.heap.size) ⟨⟨(blk_set HP1.out 16 _).trans (by simp only [ls0, ls1, ls2])⟩, ⟨HD1.out.but (ButS.set (ButS.refl [P] _) (p := ⟨P, 16, none⟩) (by simp) _) (by simp)⟩, ⟨HL1.out.setCell (p := ⟨P, 16, none⟩) hpl _⟩, ⟨blk_set_ne (p := ⟨P, 16, none⟩) HZ1.out (by show zk ≠ P; omega) _⟩, (by simp [World.setCell])⟩ (sx_of1 (ButB.set (And.left hHeld) (p := ⟨P, 16, none⟩) (by first | (left; simp; done) | (right; show _ ≤ P; omega)) _)) (fun wd10 hRn hHn => ?_)
        clear hK K hHeld HP1 HD1 HL1 HZ1 sd sf sl
        obtain ⟨HP1, HD1, HL1, HZ1, hsz10⟩ := hRn
        have hHeld := hHn
        clear hHn
        try simp only [Act.put, ls0, ls1, ls2]
        refine wpAnyH_done (by kernel_rfl) ?_ _
        have h : PlayAt zk zc zt w0 wd10 P B D W g dc R (R + 1) none 0 kc p s := by
          have hs := HS1.out
          rw [← hs]
          refine ⟨?_, HD1.out, HL1.out, hpl, HZ1.out, hzp⟩
          rw [if_pos (show (begR z).r.pc ≤ 5 from Nat.zero_le _)]
          have e : (if (begR z).w.pc ≤ 6 then Value.pointer (some ⟨W, 0, none⟩) else Value.pointer none) = wv := HWV0.out
          rw [e]
          exact HP1.out
        clear hHeld
        go_wp2
        exact JQ.mk (by rw [HRR.out]; exact ⟨_, _, _, _, _, _, _, _, _, _, _, _, _, _, _, _, _, _, _, _, _, _, _, _, _, _, _, _, _, _, _, _, _, _, rfl, ⟨h⟩⟩)
  · intro a w hRa
    rw [HRR.out] at hRa
    obtain ⟨u11, u12, u13, u14, u15, u16, u17, u18, u19, u20, u21, u22, u23, u24, u25, u26, u27, u28, u29, u30, u31, u32, u33, u34, u35, u36, u37, u38, u39, u40, R, bs, da, dr, rfl, HPA⟩ := hRa
    have h := HPA.out
    have hj := HJ0.out
    have hws := HWS0.out
    have hrk := HRK0.out
    have hk := HK0.out
    clear HPA HS0 HJ0 HWS0 HRK0 HK0 HZ0 hw1
    obtain ⟨hblk, hduo, hlow, hpl, hzb, hzp⟩ := h
    have HZ1 := Kp.mk hzb
    have lz0 := blk_lt hzb
    rw [if_pos hr5] at hblk
    obtain ⟨wv, hwv⟩ : ∃ wv : Value, (if s.w.pc ≤ 6 then .pointer (some ⟨W, 0, none⟩) else .pointer none) = wv := ⟨_, rfl⟩
    rw [hwv] at hblk
    have HWV := Kp.mk hwv
    have HK := Kp.mk hk
    have hw1 := hk.w1
    have hlt0 := hk.lt
    have hlow4 : p.low := hp ▸ plc4_low wd per hk.w1
    have hin : p.In s.ws.length := by
      have h1 := hj.ok.len
      have h2 := hj.ok.rd
      exact ⟨h1, by omega⟩
    have HTO := Kp.mk (hj.told_r now (by rw [hp]; exact hk.w1.2) hr5)
    have HJ := Kp.mk hj
    have HP1 := Kp.mk hblk
    have HD1 := Kp.mk hduo
    have HL1 := Kp.mk hlow
    have lP := blk_lt hblk
    have l0 := hlow.size
    have lD := blk_lt hduo.mem.words
    have lR := blk_lt (hduo.rd hr5).blk
    have hRx := hduo.rb hr5
    obtain ⟨q0, hq0⟩ : ∃ q0, (((Value.slice da s.r.data.length dr).ownBlock).getD R) = q0 := ⟨_, rfl⟩
    have hqn : q0 ≠ P ∧ w0.heap.size ≤ q0 ∧ q0 < w.heap.size := by
      rw [← hq0]
      cases ho : (Value.slice da s.r.data.length dr).ownBlock with
      | none => exact ⟨fun e => hRx.2.2.2.2.1 (by simp [← e]), hRx.1, lR⟩
      | some q => exact ⟨fun e => hRx.2.2.2.2.2 q ho (by simp [← e]), Nat.le_trans hRx.2.2.2.1 ((hduo.rd hr5).own.lt q ho).1, own_lt (hduo.rd hr5).own q ho⟩
    have hwide : ∀ w2 w3, ButS (R :: D :: (Value.slice da s.r.data.length dr).ownBlock.toList) w2 w3 → ButS [R, D, q0] w2 w3 := fun w2 w3 h => h.mono fun k hk => by
      rw [← hq0]
      simp only [List.mem_cons, Option.mem_toList] at hk
      simp only [List.mem_cons, List.not_mem_nil, or_false]
      rcases hk with e | e | e
      · exact .inl e
      · exact .inr (.inl e)
      · rw [e]; exact .inr (.inr rfl)
    have HWD := Kp.mk hwide
    have hzR : zk ≠ R := fun e => hRx.2.2.2.2.1 (by simp [e])
    have hzD : zk ≠ D := fun e => hduo.mx.2 (by simp [e])
    have hzQ : zk ≠ q0 := by
      rw [← hq0]
      cases ho : (Value.slice da s.r.data.length dr).ownBlock with
      | none => exact hzR
      | some q => exact fun (e : zk = q) => hRx.2.2.2.2.2 q ho (e ▸ by simp)
    have hRP : P ≠ R := fun e => hRx.2.2.2.2.1 (by simp [e])
    have hDP : P ≠ D := fun e => hduo.mx.2 (by simp [e])
    have hQP : P ≠ q0 := fun e => hqn.1 e.symm
    have hRN := hRx.1
    have hDN := hduo.mb.2
    have hQN := hqn.2.1
    have lQ := hqn.2.2
    obtain ⟨d, hd⟩ : ∃ d, rDid p s.ws now s.r = d := ⟨_, rfl⟩
    have HDD := Kp.mk hd
    have HWS := Kp.mk hws
    have HRK := Kp.mk hrk
    clear hblk hduo hlow hk hwv hj hws hrk hd hRx hq0 hqn hwide hzb
    have c0 := cbk HP1.out 0 (.slice kc.pa 2 kc.pc) rfl
    have c1 := cbk HP1.out 1 (.slice (some ⟨kc.cg, kc.co, none⟩) 1 kc.cc) rfl
    have c2 := cbk HP1.out 2 (.int .i64 1) rfl
    have c3 := cbk HP1.out 3 (.slice kc.a0 1 kc.c0) rfl
    have c4 := cbk HP1.out 4 (.int .i64 1) rfl
    have c5 := cbk HP1.out 5 (.slice kc.a1 1 kc.c1) rfl
    have c6 := cbk HP1.out 6 (.pointer (some ⟨B, 0, none⟩)) rfl
    have c7 := cbk HP1.out 7 (wv) rfl
    have c8 := cbk HP1.out 8 (.pointer (some ⟨R, 0, none⟩)) rfl
    have c9 := cbk HP1.out 9 (.int .u32 (s.n : Int)) rfl
    have c10 := cbk HP1.out 10 (.int .u32 (s.written : Int)) rfl
    have c11 := cbk HP1.out 11 (.int .u32 (s.marked : Int)) rfl
    have c12 := cbk HP1.out 12 (.int .u32 (s.begun : Int)) rfl
    have c13 := cbk HP1.out 13 (.int .u32 (s.first : Int)) rfl
    have c14 := cbk HP1.out 14 (.int .u32 (s.last : Int)) rfl
    have c15 := cbk HP1.out 15 (.int .i64 (s.steps : Int)) rfl
    have c16 := cbk HP1.out 16 (.int .i64 (s.own : Int)) rfl
    go_wp2_with fail
    refine JQ.region (fun a wj => ∃ (T : Nat) (a9 : Option Addr) (k9 : Nat) (da' : Option Addr) (dr' : Nat) (u11 u12 u13 u14 u15 u16 u17 u18 u19 u20 u21 u22 u23 u24 u25 u26 u27 u28 u29 u30 u31 u32 u33 u34 u35 u36 u37 u38 u39 u40 u41 u42 u43 u44 u45 u46 u47 u48 u49 u50 : Value), a = ⟨#[.pointer (some ⟨P, 0, none⟩), .int .i64 now, undef, undef, .bool false, .pointer (some ⟨T, 0, none⟩), undef, undef, undef, undef, undef, u11, u12, u13, u14, u15, u16, u17, u18, u19, u20, u21, u22, u23, u24, u25, u26, u27, u28, u29, u30, u31, u32, u33, u34, u35, u36, u37, u38, u39, u40, u41, u42, u43, u44, u45, u46, u47, u48, u49, u50, undef, undef, undef, undef, undef, undef, undef, undef, undef, undef, undef, undef, undef, undef, undef, undef, undef, undef, undef, undef, undef, undef, undef, undef, undef, undef, undef, undef, undef, undef, undef, undef, undef, undef, undef, undef, undef, undef, undef, undef, undef, undef, undef, undef, undef, undef, undef, undef, undef, undef, undef, undef, undef, undef, undef, undef, undef, undef, undef, undef, undef, undef, undef, undef, undef, undef, undef, undef, undef, undef, undef, undef, undef, undef, undef, undef, undef, undef, undef, undef, undef, undef, undef, undef, undef, undef, undef, undef, undef, undef, undef, undef, undef, undef, undef, undef, undef, undef, undef, undef, undef, undef, undef, undef, undef, undef, undef, undef, undef, undef, undef, undef, undef, undef, undef, undef, undef, undef, undef, undef, undef, undef, undef, undef, undef, undef, undef, undef, undef, undef, undef, undef, undef, undef, undef, undef, undef, undef, undef, undef, undef, undef, undef, undef, undef, undef, undef, undef], []⟩ ∧ Kp (wj.heap[P]? = some (.cells #[.slice kc.pa 2 kc.pc, .slice (some ⟨kc.cg, kc.co, none⟩) 1 kc.cc, .int .i64 1, .slice kc.a0 1 kc.c0, .int .i64 1, .slice kc.a1 1 kc.c1, .pointer (some ⟨B, 0, none⟩), wv, .pointer (some ⟨R, 0, none⟩), .int .u32 (s.n : Int), .int .u32 (s.written : Int), .int .u32 (s.marked : Int), .int .u32 (s.begun : Int), .int .u32 (s.first : Int), .int .u32 (s.last : Int), .int .i64 (s.steps : Int), .int .i64 (s.own : Int)] 43 (0, 0))) ∧ Kp (Duo wj [T, P, zk] w0.heap.size B D W g dc R bs da' dr' p (rMem p s.ws s.r) s.w (rNext p s.ws s.r)) ∧ Kp (Below w0.heap.size w0 wj) ∧ Kp (wj.heap[zk]? = some (.cells zc zt (0, 0))) ∧ Kp (wj.heap[T]? = some (.cells #[.bool d.done, .int .i64 d.code, .slice a9 d.data.length k9, .bool d.valid, .int .i64 d.count, .bool d.mark, .bool d.ring, .bool d.stamped, .int .i64 d.buffer] 64 (0, 0))) ∧ Kp (RowN wj 1 a9 (d.data.length) k9 (u32s d.data) [T, P, zk]) ∧ Kp (w.heap.size ≤ T ∧ T < wj.heap.size)) ?_ ?_
    · refine held_start_gen (S := (fun w' : World => ButB (w.heap.size) [R, D, q0] w w' ∧ ∀ bb o, bb < w.heap.size → bb ≠ R → bb ≠ D → bb ≠ q0 → w'.cell? ⟨bb, o, none⟩ = w.cell? ⟨bb, o, none⟩)) (by kernel_rfl) (fun wz : World => Kp (wz.heap[P]? = some (.cells #[.slice kc.pa 2 kc.pc, .slice (some ⟨kc.cg, kc.co, none⟩) 1 kc.cc, .int .i64 1, .slice kc.a0 1 kc.c0, .int .i64 1, .slice kc.a1 1 kc.c1, .pointer (some ⟨B, 0, none⟩), wv, .pointer (some ⟨R, 0, none⟩), .int .u32 (s.n : Int), .int .u32 (s.written : Int), .int .u32 (s.marked : Int), .int .u32 (s.begun : Int), .int .u32 (s.first : Int), .int .u32 (s.last : Int), .int .i64 (s.steps : Int), .int .i64 (s.own : Int)] 43 (0, 0))) ∧ Kp (Duo wz [P, zk] w0.heap.size B D W g dc R bs da dr p s.ws s.w s.r) ∧ Kp (Below w0.heap.size w0 wz) ∧ Kp (wz.heap[zk]? = some (.cells zc zt (0, 0))) ∧ w.heap.size ≤ wz.heap.size) ⟨⟨blk_dr HP1.out⟩, ⟨(HD1.out.below (below_dr (Below.refl _ _)))⟩, ⟨HL1.out.drew⟩, ⟨blk_dr HZ1.out⟩, Nat.le_refl _⟩ (sx_of3 (ButB.dr (ButB.refl _ (by omega)))) (fun wd0 hRn hHeld => ?_)
      clear HP1 HD1 HL1 HZ1
      obtain ⟨HP1, HD1, HL1, HZ1, hsz⟩ := hRn
      refine wtk 0 ?_ rfl (.inl ⟨by rfl, ?_⟩) ?_
      rotate_left 1
      · (intro w hSw; go_simp; try with_reducible rfl)
      try simp only [Act.put, ls0, ls1, ls2]
      refine wtk 1 ?_ rfl (.inl ⟨by rfl, ?_⟩) ?_
      rotate_left 1
      · (intro w hSw; go_simp; try with_reducible rfl)
      try simp only [Act.put, ls0, ls1, ls2]
      refine wtk 2 ?_ rfl (.inl ⟨by rfl, ?_⟩) ?_
      rotate_left 1
      · (intro w hSw; go_simp; try with_reducible rfl)
      try simp only [Act.put, ls0, ls1, ls2]
      refine wtk 3 ?_ rfl (.inl ⟨by rfl, ?_⟩) ?_
      rotate_left 1
      · (intro w hSw; go_simp; try with_reducible rfl)
      try simp only [Act.put, ls0, ls1, ls2]
      refine wtk 4 ?_ rfl (.inl ⟨by rfl, ?_⟩) ?_
      rotate_left 1
      · (intro w hSw; go_simp; try with_reducible rfl)
      try simp only [Act.put, ls0, ls1, ls2]
      refine wtk 5 ?_ rfl (.inl ⟨by rfl, ?_⟩) ?_
      rotate_left 1
      · (intro w hSw; go_simp; try with_reducible rfl)
      try simp only [Act.put, ls0, ls1, ls2]
      refine wtk 6 ?_ rfl (.inl ⟨by rfl, ?_⟩) ?_
      rotate_left 1
      · (intro w hSw; go_simp; try with_reducible rfl)
      try simp only [Act.put, ls0, ls1, ls2]
      refine wtk 7 ?_ rfl (.inl ⟨by rfl, ?_⟩) ?_
      rotate_left 1
      · (intro w hSw; go_simp; try with_reducible rfl)
      try simp only [Act.put, ls0, ls1, ls2]
      refine wtk 8 ?_ rfl (.inl ⟨by rfl, ?_⟩) ?_
      rotate_left 1
      · (intro w hSw; go_simp; try with_reducible rfl)
      try simp only [Act.put, ls0, ls1, ls2]
      refine wrd [9, 10] ?_
      refine (arc rfl (fun K hK => ?_) (arc rfl (fun K hK => ?_) arn))
      · go_simp
        go_at_call 27
        have HSt := HD1.out.rstep now hnow hlow4 hin HWS.out HRK.out hr5 (by intro k hk; simp only [List.mem_cons, List.not_mem_nil, or_false] at hk; have := blk_lt HP1.out; have := blk_lt HZ1.out; omega)
        rw [HDD.out] at HSt
        refine HSt.mono ?_
        clear HSt
        rintro e w9 ⟨a9, k9, rfl, hrow9, da', dr', hD9, hS, hvq⟩
        have hb := HWD.out _ _ hS
        try go_wp2_with fail
        refine out_gen hK _ _ (fun wz : World => Kp (wz.heap[P]? = some (.cells #[.slice kc.pa 2 kc.pc, .slice (some ⟨kc.cg, kc.co, none⟩) 1 kc.cc, .int .i64 1, .slice kc.a0 1 kc.c0, .int .i64 1, .slice kc.a1 1 kc.c1, .pointer (some ⟨B, 0, none⟩), wv, .pointer (some ⟨R, 0, none⟩), .int .u32 (s.n : Int), .int .u32 (s.written : Int), .int .u32 (s.marked : Int), .int .u32 (s.begun : Int), .int .u32 (s.first : Int), .int .u32 (s.last : Int), .int .i64 (s.steps : Int), .int .i64 (s.own : Int)] 43 (0, 0))) ∧ Kp (Below w0.heap.size w0 wz) ∧ Kp (wz.heap[zk]? = some (.cells zc zt (0, 0))) ∧ Kp (Duo wz [P, zk] w0.heap.size B D W g dc R bs da' dr' p (rMem p s.ws s.r) s.w (rNext p s.ws s.r)) ∧ Kp (RowN wz 1 a9 (d.data.length) k9 (u32s d.data) [P, zk]) ∧ wd0.heap.size ≤ wz.heap.size) ⟨⟨ButS.blk hb HP1.out (by simp only [List.mem_cons, List.not_mem_nil, or_false, not_or]; omega)⟩, ⟨(HD1.out.low hr5 HL1.out (Nat.le_refl _) hS)⟩, ⟨ButS.blk hb HZ1.out (by simp only [List.mem_cons, List.not_mem_nil, or_false, not_or]; omega)⟩, ⟨hD9⟩, ⟨RowN.of_told hrow9 hvq⟩, hb.size⟩ (sx_of3 (ButB.callbut (And.left hHeld) hb (by intro k hk; simpa using hk))) (fun wd1 hRn hHn => ?_)
        clear hK K hHeld HP1 HD1 HL1 HZ1 hb hD9 hS hrow9 hvq
        obtain ⟨HP1, HL1, HZ1, HD1, HR9, hsz1⟩ := hRn
        have hHeld := hHn
        clear hHn
        try simp only [Act.put, ls0, ls1, ls2]
        refine wrd [10] ?_
        refine (arc rfl (fun K hK => ?_) arn)
        have ge_db : w.heap.size ≤ wd1.heap.size := (And.left hHeld).size
        go_simp
        try go_wp2_with fail
        refine out_gen hK _ _ (fun wz : World => Kp (wz.heap[P]? = some (.cells #[.slice kc.pa 2 kc.pc, .slice (some ⟨kc.cg, kc.co, none⟩) 1 kc.cc, .int .i64 1, .slice kc.a0 1 kc.c0, .int .i64 1, .slice kc.a1 1 kc.c1, .pointer (some ⟨B, 0, none⟩), wv, .pointer (some ⟨R, 0, none⟩), .int .u32 (s.n : Int), .int .u32 (s.written : Int), .int .u32 (s.marked : Int), .int .u32 (s.begun : Int), .int .u32 (s.first : Int), .int .u32 (s.last : Int), .int .i64 (s.steps : Int), .int .i64 (s.own : Int)] 43 (0, 0))) ∧ Kp (Below w0.heap.size w0 wz) ∧ Kp (wz.heap[zk]? = some (.cells zc zt (0, 0))) ∧ Kp (Duo wz [wd1.heap.size, P, zk] w0.heap.size B D W g dc R bs da' dr' p (rMem p s.ws s.r) s.w (rNext p s.ws s.r)) ∧ Kp (RowN wz 1 a9 (d.data.length) k9 (u32s d.data) [wd1.heap.size, P, zk]) ∧ Kp (wz.heap[wd1.heap.size]? = some (.cells #[.bool false, .int .i64 0, .slice none 0 0, .bool false, .int .i64 0, .bool false, .bool false, .bool false, .int .i64 0] 64 (0, 0))) ∧ wd1.heap.size < wz.heap.size) ⟨⟨blk_al HP1.out _⟩, ⟨(HL1.out.alloc HL1.out.size _)⟩, ⟨blk_al HZ1.out _⟩, ⟨HD1.out.al _⟩, ⟨RowN.al_new HR9.out _⟩, ⟨blk_new wd1 _⟩, (by simp)⟩ (sx_of3 (ButB.al (And.left hHeld) _)) (fun wd2 hRn hHn => ?_)
        clear hK K hHeld HP1 HL1 HZ1 HD1 HR9
        obtain ⟨HP1, HL1, HZ1, HD1, HR9, db, hsz2⟩ := hRn
        have hHeld := hHn
        clear hHn
        try simp only [Act.put, ls0, ls1, ls2]
        have lt_db := blk_lt db.out
        refine wrd [11] ?_
        refine (arc rfl (fun K hK => ?_) arn)
        have sd0 := cbk db.out 0 (.bool false) rfl
        have sf0 := frozen_blk db.out 0
        have sd1 := cbk db.out 1 (.int .i64 0) rfl
        have sf1 := frozen_blk db.out 1
        have sd2 := cbk db.out 2 (.slice none 0 0) rfl
        have sf2 := frozen_blk db.out 2
        have sd3 := cbk db.out 3 (.bool false) rfl
        have sf3 := frozen_blk db.out 3
        have sd4 := cbk db.out 4 (.int .i64 0) rfl
        have sf4 := frozen_blk db.out 4
        have sd5 := cbk db.out 5 (.bool false) rfl
        have sf5 := frozen_blk db.out 5
        have sd6 := cbk db.out 6 (.bool false) rfl
        have sf6 := frozen_blk db.out 6
        have sd7 := cbk db.out 7 (.bool false) rfl
        have sf7 := frozen_blk db.out 7
        have sd8 := cbk db.out 8 (.int .i64 0) rfl
        have sf8 := frozen_blk db.out 8
        have sl := blk_lt db.out
        go_simp
        try go_wp2_with fail
        refine out_gen hK _ _ (fun wz : World => Kp (wz.heap[P]? = some (.cells #[.slice kc.pa 2 kc.pc, .slice (some ⟨kc.cg, kc.co, none⟩) 1 kc.cc, .int .i64 1, .slice kc.a0 1 kc.c0, .int .i64 1, .slice kc.a1 1 kc.c1, .pointer (some ⟨B, 0, none⟩), wv, .pointer (some ⟨R, 0, none⟩), .int .u32 (s.n : Int), .int .u32 (s.written : Int), .int .u32 (s.marked : Int), .int .u32 (s.begun : Int), .int .u32 (s.first : Int), .int .u32 (s.last : Int), .int .i64 (s.steps : Int), .int .i64 (s.own : Int)] 43 (0, 0))) ∧ Kp (Below w0.heap.size w0 wz) ∧ Kp (wz.heap[zk]? = some (.cells zc zt (0, 0))) ∧ Kp (Duo wz [wd1.heap.size, P, zk] w0.heap.size B D W g dc R bs da' dr' p (rMem p s.ws s.r) s.w (rNext p s.ws s.r)) ∧ Kp (RowN wz 1 a9 (d.data.length) k9 (u32s d.data) [wd1.heap.size, P, zk]) ∧ Kp (wz.heap[wd1.heap.size]? = some (.cells #[.bool d.done, .int .i64 d.code, .slice a9 d.data.length k9, .bool d.valid, .int .i64 d.count, .bool d.mark, .bool d.ring, .bool d.stamped, .int .i64 d.buffer] 64 (0, 0))) ∧ wd2.heap.size ≤ wz.heap.size) ⟨⟨(blk_set_ne (p := ⟨wd1.heap.size, 8, none⟩) (blk_set_ne (p := ⟨wd1.heap.size, 7, none⟩) (blk_set_ne (p := ⟨wd1.heap.size, 6, none⟩) (blk_set_ne (p := ⟨wd1.heap.size, 5, none⟩) (blk_set_ne (p := ⟨wd1.heap.size, 4, none⟩) (blk_set_ne (p := ⟨wd1.heap.size, 3, none⟩) (blk_set_ne (p := ⟨wd1.heap.size, 2, none⟩) (blk_set_ne (p := ⟨wd1.heap.size, 1, none⟩) (blk_set_ne (p := ⟨wd1.heap.size, 0, none⟩) HP1.out (by show P ≠ wd1.heap.size; omega) _) (by show P ≠ wd1.heap.size; omega) _) (by show P ≠ wd1.heap.size; omega) _) (by show P ≠ wd1.heap.size; omega) _) (by show P ≠ wd1.heap.size; omega) _) (by show P ≠ wd1.heap.size; omega) _) (by show P ≠ wd1.heap.size; omega) _) (by show P ≠ wd1.heap.size; omega) _) (by show P ≠ wd1.heap.size; omega) _)⟩, ⟨(((((((((HL1.out.setCell (p := ⟨wd1.heap.size, 0, none⟩) (by show w0.heap.size ≤ wd1.heap.size; omega) _).setCell (p := ⟨wd1.heap.size, 1, none⟩) (by show w0.heap.size ≤ wd1.heap.size; omega) _).setCell (p := ⟨wd1.heap.size, 2, none⟩) (by show w0.heap.size ≤ wd1.heap.size; omega) _).setCell (p := ⟨wd1.heap.size, 3, none⟩) (by show w0.heap.size ≤ wd1.heap.size; omega) _).setCell (p := ⟨wd1.heap.size, 4, none⟩) (by show w0.heap.size ≤ wd1.heap.size; omega) _).setCell (p := ⟨wd1.heap.size, 5, none⟩) (by show w0.heap.size ≤ wd1.heap.size; omega) _).setCell (p := ⟨wd1.heap.size, 6, none⟩) (by show w0.heap.size ≤ wd1.heap.size; omega) _).setCell (p := ⟨wd1.heap.size, 7, none⟩) (by show w0.heap.size ≤ wd1.heap.size; omega) _).setCell (p := ⟨wd1.heap.size, 8, none⟩) (by show w0.heap.size ≤ wd1.heap.size; omega) _)⟩, ⟨(blk_set_ne (p := ⟨wd1.heap.size, 8, none⟩) (blk_set_ne (p := ⟨wd1.heap.size, 7, none⟩) (blk_set_ne (p := ⟨wd1.heap.size, 6, none⟩) (blk_set_ne (p := ⟨wd1.heap.size, 5, none⟩) (blk_set_ne (p := ⟨wd1.heap.size, 4, none⟩) (blk_set_ne (p := ⟨wd1.heap.size, 3, none⟩) (blk_set_ne (p := ⟨wd1.heap.size, 2, none⟩) (blk_set_ne (p := ⟨wd1.heap.size, 1, none⟩) (blk_set_ne (p := ⟨wd1.heap.size, 0, none⟩) HZ1.out (by show zk ≠ wd1.heap.size; omega) _) (by show zk ≠ wd1.heap.size; omega) _) (by show zk ≠ wd1.heap.size; omega) _) (by show zk ≠ wd1.heap.size; omega) _) (by show zk ≠ wd1.heap.size; omega) _) (by show zk ≠ wd1.heap.size; omega) _) (by show zk ≠ wd1.heap.size; omega) _) (by show zk ≠ wd1.heap.size; omega) _) (by show zk ≠ wd1.heap.size; omega) _)⟩, ⟨(((((((((HD1.out.but (ButS.set (ButS.refl [wd1.heap.size] _) (p := ⟨wd1.heap.size, 0, none⟩) (by simp) _) (by simp)).but (ButS.set (ButS.refl [wd1.heap.size] _) (p := ⟨wd1.heap.size, 1, none⟩) (by simp) _) (by simp)).but (ButS.set (ButS.refl [wd1.heap.size] _) (p := ⟨wd1.heap.size, 2, none⟩) (by simp) _) (by simp)).but (ButS.set (ButS.refl [wd1.heap.size] _) (p := ⟨wd1.heap.size, 3, none⟩) (by simp) _) (by simp)).but (ButS.set (ButS.refl [wd1.heap.size] _) (p := ⟨wd1.heap.size, 4, none⟩) (by simp) _) (by simp)).but (ButS.set (ButS.refl [wd1.heap.size] _) (p := ⟨wd1.heap.size, 5, none⟩) (by simp) _) (by simp)).but (ButS.set (ButS.refl [wd1.heap.size] _) (p := ⟨wd1.heap.size, 6, none⟩) (by simp) _) (by simp)).but (ButS.set (ButS.refl [wd1.heap.size] _) (p := ⟨wd1.heap.size, 7, none⟩) (by simp) _) (by simp)).but (ButS.set (ButS.refl [wd1.heap.size] _) (p := ⟨wd1.heap.size, 8, none⟩) (by simp) _) (by simp))⟩, ⟨(RowN.set (RowN.set (RowN.set (RowN.set (RowN.set (RowN.set (RowN.set (RowN.set (RowN.set HR9.out (p := ⟨wd1.heap.size, 0, none⟩) (by simp) _) (p := ⟨wd1.heap.size, 1, none⟩) (by simp) _) (p := ⟨wd1.heap.size, 2, none⟩) (by simp) _) (p := ⟨wd1.heap.size, 3, none⟩) (by simp) _) (p := ⟨wd1.heap.size, 4, none⟩) (by simp) _) (p := ⟨wd1.heap.size, 5, none⟩) (by simp) _) (p := ⟨wd1.heap.size, 6, none⟩) (by simp) _) (p := ⟨wd1.heap.size, 7, none⟩) (by simp) _) (p := ⟨wd1.heap.size, 8, none⟩) (by simp) _)⟩, ⟨(blk_set (blk_set (blk_set (blk_set (blk_set (blk_set (blk_set (blk_set (blk_set db.out 0 _) 1 _) 2 _) 3 _) 4 _) 5 _) 6 _) 7 _) 8 _).trans (by first | (simp only [ls0, ls1, ls2]; done) | rfl)⟩, (by simp [World.setCell])⟩ (sx_of3 ((ButB.set (ButB.set (ButB.set (ButB.set (ButB.set (ButB.set (ButB.set (ButB.set (ButB.set (And.left hHeld) (p := ⟨wd1.heap.size, 0, none⟩) (by first | (left; simp; done) | (right; show _ ≤ wd1.heap.size; omega)) _) (p := ⟨wd1.heap.size, 1, none⟩) (by first | (left; simp; done) | (right; show _ ≤ wd1.heap.size; omega)) _) (p := ⟨wd1.heap.size, 2, none⟩) (by first | (left; simp; done) | (right; show _ ≤ wd1.heap.size; omega)) _) (p := ⟨wd1.heap.size, 3, none⟩) (by first | (left; simp; done) | (right; show _ ≤ wd1.heap.size; omega)) _) (p := ⟨wd1.heap.size, 4, none⟩) (by first | (left; simp; done) | (right; show _ ≤ wd1.heap.size; omega)) _) (p := ⟨wd1.heap.size, 5, none⟩) (by first | (left; simp; done) | (right; show _ ≤ wd1.heap.size; omega)) _) (p := ⟨wd1.heap.size, 6, none⟩) (by first | (left; simp; done) | (right; show _ ≤ wd1.heap.size; omega)) _) (p := ⟨wd1.heap.size, 7, none⟩) (by first | (left; simp; done) | (right; show _ ≤ wd1.heap.size; omega)) _) (p := ⟨wd1.heap.size, 8, none⟩) (by first | (left; simp; done) | (right; show _ ≤ wd1.heap.size; omega)) _))) (fun wd3 hRn hHn => ?_)
        clear hK K hHeld HP1 HL1 HZ1 HD1 HR9 db sd0 sf0 sd1 sf1 sd2 sf2 sd3 sf3 sd4 sf4 sd5 sf5 sd6 sf6 sd7 sf7 sd8 sf8 sl
        obtain ⟨HP1, HL1, HZ1, HD1, HR9, db, hsz3⟩ := hRn
        have hHeld := hHn
        clear hHn
        try simp only [Act.put, ls0, ls1, ls2]
        refine wpAnyH_done (by kernel_rfl) ?_ _
        exact JQ.mk ⟨_, _, _, _, _, _, _, _, _, _, _, _, _, _, _, _, _, _, _, _, _, _, _, _, _, _, _, _, _, _, _, _, _, _, _, _, _, _, _, _, _, _, _, _, _, rfl, HP1, HD1, HL1, HZ1, db, HR9, ⟨by omega, blk_lt db.out⟩⟩
      · have ge_db : w.heap.size ≤ wd0.heap.size := (And.left hHeld).size
        go_simp
        try go_wp2_with fail
        refine out_gen hK _ _ (fun wz : World => Kp (wz.heap[P]? = some (.cells #[.slice kc.pa 2 kc.pc, .slice (some ⟨kc.cg, kc.co, none⟩) 1 kc.cc, .int .i64 1, .slice kc.a0 1 kc.c0, .int .i64 1, .slice kc.a1 1 kc.c1, .pointer (some ⟨B, 0, none⟩), wv, .pointer (some ⟨R, 0, none⟩), .int .u32 (s.n : Int), .int .u32 (s.written : Int), .int .u32 (s.marked : Int), .int .u32 (s.begun : Int), .int .u32 (s.first : Int), .int .u32 (s.last : Int), .int .i64 (s.steps : Int), .int .i64 (s.own : Int)] 43 (0, 0))) ∧ Kp (Duo wz [wd0.heap.size, P, zk] w0.heap.size B D W g dc R bs da dr p s.ws s.w s.r) ∧ Kp (Below w0.heap.size w0 wz) ∧ Kp (wz.heap[zk]? = some (.cells zc zt (0, 0))) ∧ Kp (wz.heap[wd0.heap.size]? = some (.cells #[.bool false, .int .i64 0, .slice none 0 0, .bool false, .int .i64 0, .bool false, .bool false, .bool false, .int .i64 0] 64 (0, 0))) ∧ wd0.heap.size < wz.heap.size) ⟨⟨blk_al HP1.out _⟩, ⟨HD1.out.al _⟩, ⟨(HL1.out.alloc HL1.out.size _)⟩, ⟨blk_al HZ1.out _⟩, ⟨blk_new wd0 _⟩, (by simp)⟩ (sx_of3 (ButB.al (And.left hHeld) _)) (fun wd4 hRn hHn => ?_)
        clear hK K hHeld HP1 HD1 HL1 HZ1
        obtain ⟨HP1, HD1, HL1, HZ1, db, hsz4⟩ := hRn
        have hHeld := hHn
        clear hHn
        try simp only [Act.put, ls0, ls1, ls2]
        have lt_db := blk_lt db.out
        refine wrd [9] ?_
        refine (arc rfl (fun K hK => ?_) arn)
        go_simp
        go_at_call 27
        have HSt := HD1.out.rstep now hnow hlow4 hin HWS.out HRK.out hr5 (by intro k hk; simp only [List.mem_cons, List.not_mem_nil, or_false] at hk; have := blk_lt HP1.out; have := blk_lt HZ1.out; omega)
        rw [HDD.out] at HSt
        refine HSt.mono ?_
        clear HSt
        rintro e w9 ⟨a9, k9, rfl, hrow9, da', dr', hD9, hS, hvq⟩
        have hb := HWD.out _ _ hS
        try go_wp2_with fail
        refine out_gen hK _ _ (fun wz : World => Kp (wz.heap[P]? = some (.cells #[.slice kc.pa 2 kc.pc, .slice (some ⟨kc.cg, kc.co, none⟩) 1 kc.cc, .int .i64 1, .slice kc.a0 1 kc.c0, .int .i64 1, .slice kc.a1 1 kc.c1, .pointer (some ⟨B, 0, none⟩), wv, .pointer (some ⟨R, 0, none⟩), .int .u32 (s.n : Int), .int .u32 (s.written : Int), .int .u32 (s.marked : Int), .int .u32 (s.begun : Int), .int .u32 (s.first : Int), .int .u32 (s.last : Int), .int .i64 (s.steps : Int), .int .i64 (s.own : Int)] 43 (0, 0))) ∧ Kp (Below w0.heap.size w0 wz) ∧ Kp (wz.heap[zk]? = some (.cells zc zt (0, 0))) ∧ Kp (wz.heap[wd0.heap.size]? = some (.cells #[.bool false, .int .i64 0, .slice none 0 0, .bool false, .int .i64 0, .bool false, .bool false, .bool false, .int .i64 0] 64 (0, 0))) ∧ Kp (Duo wz [wd0.heap.size, P, zk] w0.heap.size B D W g dc R bs da' dr' p (rMem p s.ws s.r) s.w (rNext p s.ws s.r)) ∧ Kp (RowN wz 1 a9 (d.data.length) k9 (u32s d.data) [wd0.heap.size, P, zk]) ∧ wd4.heap.size ≤ wz.heap.size) ⟨⟨ButS.blk hb HP1.out (by simp only [List.mem_cons, List.not_mem_nil, or_false, not_or]; omega)⟩, ⟨(HD1.out.low hr5 HL1.out (Nat.le_refl _) hS)⟩, ⟨ButS.blk hb HZ1.out (by simp only [List.mem_cons, List.not_mem_nil, or_false, not_or]; omega)⟩, ⟨ButS.blk hb db.out (by simp only [List.mem_cons, List.not_mem_nil, or_false, not_or]; omega)⟩, ⟨hD9⟩, ⟨RowN.of_told hrow9 hvq⟩, hb.size⟩ (sx_of3 (ButB.callbut (And.left hHeld) hb (by intro k hk; simpa using hk))) (fun wd5 hRn hHn => ?_)
        clear hK K hHeld HP1 HD1 HL1 HZ1 db hb hD9 hS hrow9 hvq
        obtain ⟨HP1, HL1, HZ1, db, HD1, HR9, hsz5⟩ := hRn
        have hHeld := hHn
        clear hHn
        try simp only [Act.put, ls0, ls1, ls2]
        refine wrd [11] ?_
        refine (arc rfl (fun K hK => ?_) arn)
        have sd0 := cbk db.out 0 (.bool false) rfl
        have sf0 := frozen_blk db.out 0
        have sd1 := cbk db.out 1 (.int .i64 0) rfl
        have sf1 := frozen_blk db.out 1
        have sd2 := cbk db.out 2 (.slice none 0 0) rfl
        have sf2 := frozen_blk db.out 2
        have sd3 := cbk db.out 3 (.bool false) rfl
        have sf3 := frozen_blk db.out 3
        have sd4 := cbk db.out 4 (.int .i64 0) rfl
        have sf4 := frozen_blk db.out 4
        have sd5 := cbk db.out 5 (.bool false) rfl
        have sf5 := frozen_blk db.out 5
        have sd6 := cbk db.out 6 (.bool false) rfl
        have sf6 := frozen_blk db.out 6
        have sd7 := cbk db.out 7 (.bool false) rfl
        have sf7 := frozen_blk db.out 7
        have sd8 := cbk db.out 8 (.int .i64 0) rfl
        have sf8 := frozen_blk db.out 8
        have sl := blk_lt db.out
        go_simp
        try go_wp2_with fail
        refine out_gen hK _ _ (fun wz : World => Kp (wz.heap[P]? = some (.cells #[.slice kc.pa 2 kc.pc, .slice (some ⟨kc.cg, kc.co, none⟩) 1 kc.cc, .int .i64 1, .slice kc.a0 1 kc.c0, .int .i64 1, .slice kc.a1 1 kc.c1, .pointer (some ⟨B, 0, none⟩), wv, .pointer (some ⟨R, 0, none⟩), .int .u32 (s.n : Int), .int .u32 (s.written : Int), .int .u32 (s.marked : Int), .int .u32 (s.begun : Int), .int .u32 (s.first : Int), .int .u32 (s.last : Int), .int .i64 (s.steps : Int), .int .i64 (s.own : Int)] 43 (0, 0))) ∧ Kp (Below w0.heap.size w0 wz) ∧ Kp (wz.heap[zk]? = some (.cells zc zt (0, 0))) ∧ Kp (wz.heap[wd0.heap.size]? = some (.cells #[.bool d.done, .int .i64 d.code, .slice a9 d.data.length k9, .bool d.valid, .int .i64 d.count, .bool d.mark, .bool d.ring, .bool d.stamped, .int .i64 d.buffer] 64 (0, 0))) ∧ Kp (Duo wz [wd0.heap.size, P, zk] w0.heap.size B D W g dc R bs da' dr' p (rMem p s.ws s.r) s.w (rNext p s.ws s.r)) ∧ Kp (RowN wz 1 a9 (d.data.length) k9 (u32s d.data) [wd0.heap.size, P, zk]) ∧ wd5.heap.size ≤ wz.heap.size) ⟨⟨(blk_set_ne (p := ⟨wd0.heap.size, 8, none⟩) (blk_set_ne (p := ⟨wd0.heap.size, 7, none⟩) (blk_set_ne (p := ⟨wd0.heap.size, 6, none⟩) (blk_set_ne (p := ⟨wd0.heap.size, 5, none⟩) (blk_set_ne (p := ⟨wd0.heap.size, 4, none⟩) (blk_set_ne (p := ⟨wd0.heap.size, 3, none⟩) (blk_set_ne (p := ⟨wd0.heap.size, 2, none⟩) (blk_set_ne (p := ⟨wd0.heap.size, 1, none⟩) (blk_set_ne (p := ⟨wd0.heap.size, 0, none⟩) HP1.out (by show P ≠ wd0.heap.size; omega) _) (by show P ≠ wd0.heap.size; omega) _) (by show P ≠ wd0.heap.size; omega) _) (by show P ≠ wd0.heap.size; omega) _) (by show P ≠ wd0.heap.size; omega) _) (by show P ≠ wd0.heap.size; omega) _) (by show P ≠ wd0.heap.size; omega) _) (by show P ≠ wd0.heap.size; omega) _) (by show P ≠ wd0.heap.size; omega) _)⟩, ⟨(((((((((HL1.out.setCell (p := ⟨wd0.heap.size, 0, none⟩) (by show w0.heap.size ≤ wd0.heap.size; omega) _).setCell (p := ⟨wd0.heap.size, 1, none⟩) (by show w0.heap.size ≤ wd0.heap.size; omega) _).setCell (p := ⟨wd0.heap.size, 2, none⟩) (by show w0.heap.size ≤ wd0.heap.size; omega) _).setCell (p := ⟨wd0.heap.size, 3, none⟩) (by show w0.heap.size ≤ wd0.heap.size; omega) _).setCell (p := ⟨wd0.heap.size, 4, none⟩) (by show w0.heap.size ≤ wd0.heap.size; omega) _).setCell (p := ⟨wd0.heap.size, 5, none⟩) (by show w0.heap.size ≤ wd0.heap.size; omega) _).setCell (p := ⟨wd0.heap.size, 6, none⟩) (by show w0.heap.size ≤ wd0.heap.size; omega) _).setCell (p := ⟨wd0.heap.size, 7, none⟩) (by show w0.heap.size ≤ wd0.heap.size; omega) _).setCell (p := ⟨wd0.heap.size, 8, none⟩) (by show w0.heap.size ≤ wd0.heap.size; omega) _)⟩, ⟨(blk_set_ne (p := ⟨wd0.heap.size, 8, none⟩) (blk_set_ne (p := ⟨wd0.heap.size, 7, none⟩) (blk_set_ne (p := ⟨wd0.heap.size, 6, none⟩) (blk_set_ne (p := ⟨wd0.heap.size, 5, none⟩) (blk_set_ne (p := ⟨wd0.heap.size, 4, none⟩) (blk_set_ne (p := ⟨wd0.heap.size, 3, none⟩) (blk_set_ne (p := ⟨wd0.heap.size, 2, none⟩) (blk_set_ne (p := ⟨wd0.heap.size, 1, none⟩) (blk_set_ne (p := ⟨wd0.heap.size, 0, none⟩) HZ1.out (by show zk ≠ wd0.heap.size; omega) _) (by show zk ≠ wd0.heap.size; omega) _) (by show zk ≠ wd0.heap.size; omega) _) (by show zk ≠ wd0.heap.size; omega) _) (by show zk ≠ wd0.heap.size; omega) _) (by show zk ≠ wd0.heap.size; omega) _) (by show zk ≠ wd0.heap.size; omega) _) (by show zk ≠ wd0.heap.size; omega) _) (by show zk ≠ wd0.heap.size; omega) _)⟩, ⟨(blk_set (blk_set (blk_set (blk_set (blk_set (blk_set (blk_set (blk_set (blk_set db.out 0 _) 1 _) 2 _) 3 _) 4 _) 5 _) 6 _) 7 _) 8 _).trans (by first | (simp only [ls0, ls1, ls2]; done) | rfl)⟩, ⟨(((((((((HD1.out.but (ButS.set (ButS.refl [wd0.heap.size] _) (p := ⟨wd0.heap.size, 0, none⟩) (by simp) _) (by simp)).but (ButS.set (ButS.refl [wd0.heap.size] _) (p := ⟨wd0.heap.size, 1, none⟩) (by simp) _) (by simp)).but (ButS.set (ButS.refl [wd0.heap.size] _) (p := ⟨wd0.heap.size, 2, none⟩) (by simp) _) (by simp)).but (ButS.set (ButS.refl [wd0.heap.size] _) (p := ⟨wd0.heap.size, 3, none⟩) (by simp) _) (by simp)).but (ButS.set (ButS.refl [wd0.heap.size] _) (p := ⟨wd0.heap.size, 4, none⟩) (by simp) _) (by simp)).but (ButS.set (ButS.refl [wd0.heap.size] _) (p := ⟨wd0.heap.size, 5, none⟩) (by simp) _) (by simp)).but (ButS.set (ButS.refl [wd0.heap.size] _) (p := ⟨wd0.heap.size, 6, none⟩) (by simp) _) (by simp)).but (ButS.set (ButS.refl [wd0.heap.size] _) (p := ⟨wd0.heap.size, 7, none⟩) (by simp) _) (by simp)).but (ButS.set (ButS.refl [wd0.heap.size] _) (p := ⟨wd0.heap.size, 8, none⟩) (by simp) _) (by simp))⟩, ⟨(RowN.set (RowN.set (RowN.set (RowN.set (RowN.set (RowN.set (RowN.set (RowN.set (RowN.set HR9.out (p := ⟨wd0.heap.size, 0, none⟩) (by simp) _) (p := ⟨wd0.heap.size, 1, none⟩) (by simp) _) (p := ⟨wd0.heap.size, 2, none⟩) (by simp) _) (p := ⟨wd0.heap.size, 3, none⟩) (by simp) _) (p := ⟨wd0.heap.size, 4, none⟩) (by simp) _) (p := ⟨wd0.heap.size, 5, none⟩) (by simp) _) (p := ⟨wd0.heap.size, 6, none⟩) (by simp) _) (p := ⟨wd0.heap.size, 7, none⟩) (by simp) _) (p := ⟨wd0.heap.size, 8, none⟩) (by simp) _)⟩, (by simp [World.setCell])⟩ (sx_of3 ((ButB.set (ButB.set (ButB.set (ButB.set (ButB.set (ButB.set (ButB.set (ButB.set (ButB.set (And.left hHeld) (p := ⟨wd0.heap.size, 0, none⟩) (by first | (left; simp; done) | (right; show _ ≤ wd0.heap.size; omega)) _) (p := ⟨wd0.heap.size, 1, none⟩) (by first | (left; simp; done) | (right; show _ ≤ wd0.heap.size; omega)) _) (p := ⟨wd0.heap.size, 2, none⟩) (by first | (left; simp; done) | (right; show _ ≤ wd0.heap.size; omega)) _) (p := ⟨wd0.heap.size, 3, none⟩) (by first | (left; simp; done) | (right; show _ ≤ wd0.heap.size; omega)) _) (p := ⟨wd0.heap.size, 4, none⟩) (by first | (left; simp; done) | (right; show _ ≤ wd0.heap.size; omega)) _) (p := ⟨wd0.heap.size, 5, none⟩) (by first | (left; simp; done) | (right; show _ ≤ wd0.heap.size; omega)) _) (p := ⟨wd0.heap.size, 6, none⟩) (by first | (left; simp; done) | (right; show _ ≤ wd0.heap.size; omega)) _) (p := ⟨wd0.heap.size, 7, none⟩) (by first | (left; simp; done) | (right; show _ ≤ wd0.heap.size; omega)) _) (p := ⟨wd0.heap.size, 8, none⟩) (by first | (left; simp; done) | (right; show _ ≤ wd0.heap.size; omega)) _))) (fun wd6 hRn hHn => ?_)
        clear hK K hHeld HP1 HL1 HZ1 db HD1 HR9 sd0 sf0 sd1 sf1 sd2 sf2 sd3 sf3 sd4 sf4 sd5 sf5 sd6 sf6 sd7 sf7 sd8 sf8 sl
        obtain ⟨HP1, HL1, HZ1, db, HD1, HR9, hsz6⟩ := hRn
        have hHeld := hHn
        clear hHn
        try simp only [Act.put, ls0, ls1, ls2]
        refine wpAnyH_done (by kernel_rfl) ?_ _
        exact JQ.mk ⟨_, _, _, _, _, _, _, _, _, _, _, _, _, _, _, _, _, _, _, _, _, _, _, _, _, _, _, _, _, _, _, _, _, _, _, _, _, _, _, _, _, _, _, _, _, rfl, HP1, HD1, HL1, HZ1, db, HR9, ⟨by omega, blk_lt db.out⟩⟩
    · rintro a wj ⟨T, a9, k9, da', dr', u11, u12, u13, u14, u15, u16, u17, u18, u19, u20, u21, u22, u23, u24, u25, u26, u27, u28, u29, u30, u31, u32, u33, u34, u35, u36, u37, u38, u39, u40, u41, u42, u43, u44, u45, u46, u47, u48, u49, u50, rfl, HP1, HD1, HL1, HZ1, db, HR9, HTT⟩
      have hTP : P ≠ T := by have := HTT.out.1; omega
      have hT0 : w0.heap.size ≤ T := by have := HTT.out.1; omega
      have lT := HTT.out.2
      have lPj := blk_lt HP1.out
      obtain ⟨hnd, hdd⟩ := HTO.out
      rw [HDD.out] at hnd hdd
      have hown1 : (stepR p now s).own = s.own + 1 := rfl
      have hls : (stepR p now s).last = if d.done = true ∧ d.code = 0 then (d.data.headD 0).toNat else s.last := by show (if (rDid p s.ws now s.r).done = true ∧ (rDid p s.ws now s.r).code = 0 then ((rDid p s.ws now s.r).data.headD 0).toNat else s.last) = _; rw [HDD.out]
      have e1 : (if (stepR p now s).w.pc ≤ 6 then Value.pointer (some ⟨W, 0, none⟩) else Value.pointer none) = wv := HWV.out
      have HE1 := Kp.mk e1
      clear e1
      have t0 := cbk db.out 0 (.bool d.done) rfl
      have t1 := cbk db.out 1 (.int .i64 d.code) rfl
      have t2 := cbk db.out 2 (.slice a9 d.data.length k9) rfl
      have c0 := cbk HP1.out 0 (.slice kc.pa 2 kc.pc) rfl
      have c1 := cbk HP1.out 1 (.slice (some ⟨kc.cg, kc.co, none⟩) 1 kc.cc) rfl
      have c2 := cbk HP1.out 2 (.int .i64 1) rfl
      have c3 := cbk HP1.out 3 (.slice kc.a0 1 kc.c0) rfl
      have c4 := cbk HP1.out 4 (.int .i64 1) rfl
      have c5 := cbk HP1.out 5 (.slice kc.a1 1 kc.c1) rfl
      have c6 := cbk HP1.out 6 (.pointer (some ⟨B, 0, none⟩)) rfl
      have c7 := cbk HP1.out 7 (wv) rfl
      have c8 := cbk HP1.out 8 (.pointer (some ⟨R, 0, none⟩)) rfl
      have c9 := cbk HP1.out 9 (.int .u32 (s.n : Int)) rfl
      have c10 := cbk HP1.out 10 (.int .u32 (s.written : Int)) rfl
      have c11 := cbk HP1.out 11 (.int .u32 (s.marked : Int)) rfl
      have c12 := cbk HP1.out 12 (.int .u32 (s.begun : Int)) rfl
      have c13 := cbk HP1.out 13 (.int .u32 (s.first : Int)) rfl
      have c14 := cbk HP1.out 14 (.int .u32 (s.last : Int)) rfl
      have c15 := cbk HP1.out 15 (.int .i64 (s.steps : Int)) rfl
      have c16 := cbk HP1.out 16 (.int .i64 (s.own : Int)) rfl
      have f8 := frozen_blk HP1.out 8
      have f14 := frozen_blk HP1.out 14
      have f16 := frozen_blk HP1.out 16
      cases hdn : d.done with
      | false =>
        rw [hdn] at t0
        obtain ⟨q1, q2⟩ := hnd hdn
        rw [hown1] at q2
        have n1 : IntKind.i64.wrap ((s.own : Int) + 1) = (s.own : Int) + 1 := IntWalk.i64_in _ (by omega)
        have n2 : (s.own : Int) + 1 < 40 := by omega
        have e2 : (if (stepR p now s).r.pc ≤ 5 then Value.pointer (some ⟨R, 0, none⟩) else Value.pointer none) = .pointer (some ⟨R, 0, none⟩) := if_pos q1
        have hl2 : (stepR p now s).last = s.last := by rw [hls, if_neg (by simp [hdn])]
        have HE2 := Kp.mk e2
        have HLS := Kp.mk hl2
        clear e2 hl2 hls hnd hdd hown1 q1 q2
        go_wp2
        go_ret
        refine ⟨rfl, R, bs, da', dr', ?_, ?_, ?_, hpl, ?_, hzp⟩
        · rw [HE1.out, HE2.out, HLS.out]
          exact ((blk_set HP1.out 16 _).trans (by simp only [ls0, ls1, ls2]; rfl))
        · exact (HD1.out.but (ButS.set (ButS.refl [P] wj) (p := ⟨P, 16, none⟩) (by simp) _) (by simp)).less (by simp)
        · exact (HL1.out.setCell (p := ⟨P, 16, none⟩) hpl _)
        · exact (blk_set_ne (p := ⟨P, 16, none⟩) HZ1.out hzp _)
      | true =>
        rw [hdn] at t0
        obtain ⟨q1, h⟩ := hdd hdn
        have e2 : (if (stepR p now s).r.pc ≤ 5 then Value.pointer (some ⟨R, 0, none⟩) else Value.pointer none) = .pointer none := if_neg (by rw [q1]; omega)
        have HE2 := Kp.mk e2
        clear e2
        rcases h with ⟨hc, hb0, hf0, hl0, hd0, ho⟩ | ⟨hc, m, hdm, hm1, hbm, hfm, hlm, hmm, ho⟩
        · rw [hc] at t1
          have hl2 : (stepR p now s).last = s.last := by rw [hls, if_neg (by rw [hc]; simp)]
          have HLS := Kp.mk hl2
          have z1 : (s.begun : Int) = 0 := by omega
          have z2 : (s.first : Int) = 0 := by omega
          have z3 : (s.last : Int) = 0 := by omega
          have z4 : (s.own : Int) + 1 = 4 := by rw [hown1] at ho; omega
          have z5 : IntKind.i64.wrap 4 = 4 := IntWalk.i64_in _ (by omega)
          have z6 : d.data.length = 0 := by rw [hd0]; rfl
          obtain ⟨L, hL⟩ : ∃ L, d.data.length = L := ⟨_, rfl⟩
          rw [hL] at t2 z6
          subst z6
          have HO4 : Kp (((stepR p now s).own : Int) = 4) := ⟨by rw [hown1]; omega⟩
          have HZ := Kp.mk (And.intro z1 (And.intro z2 (And.intro z3 z4)))
          rw [z1] at c12
          rw [z2] at c13
          rw [z3] at c14
          clear hl2 hls hnd hdd hown1 q1 hb0 hf0 hl0 hd0 ho hc z1 z2 z3 hL
          go_wp2
          go_ret
          refine ⟨rfl, R, bs, da', dr', ?_, ?_, ?_, hpl, ?_, hzp⟩
          · rw [HE1.out, HE2.out, HLS.out, HO4.out]
            exact ((blk_set (blk_set HP1.out 16 _) 8 _).trans (by simp only [ls0, ls1, ls2]; rfl))
          · exact (HD1.out.but (ButS.set (ButS.set (ButS.refl [P] wj) (p := ⟨P, 16, none⟩) (by simp) _) (p := ⟨P, 8, none⟩) (by simp) _) (by simp)).less (by simp)
          · exact ((HL1.out.setCell (p := ⟨P, 16, none⟩) hpl _).setCell (p := ⟨P, 8, none⟩) hpl _)
          · exact (blk_set_ne (p := ⟨P, 8, none⟩) (blk_set_ne (p := ⟨P, 16, none⟩) HZ1.out hzp _) hzp _)
        · rw [hc] at t1
          have hpw : p.words = wd := by rw [hp]; rfl
          have hln : d.data.length = 1 + m % wd.toNat := by rw [hdm, msg_len, hpw]
          have hlast : (stepR p now s).last = m := by
            rw [hls, if_pos ⟨hdn, hc⟩, hdm, msg, Nat.add_comm 1, List.replicate_succ]
            simp
          have hrow : u32s d.data = u32s (msg p.words m) := by rw [hdm]
          have hmn : m < 4294967296 := by have := HJ.out.le1; omega
          obtain ⟨L, hL⟩ : ∃ L, d.data.length = L := ⟨_, rfl⟩
          rw [hL] at t2 HR9 hln ho
          rw [hrow] at HR9
          have hmL : (msg p.words m).length = L := by rw [msg_len, hpw, hln]
          have hL16 : L ≤ 16 ∧ 1 ≤ L := by have := Nat.mod_lt m (show 0 < wd.toNat by omega); omega
          rw [hown1] at ho
          have r0 : ¬ wd = 0 := by omega
          have r1 : IntKind.i64.wrap (m : Int) = (m : Int) := IntWalk.i64_in _ (by omega)
          have r2 : Int.tmod (m : Int) wd = (L : Int) - 1 := by
            rw [Int.tmod_eq_emod_of_nonneg (by omega)]
            have e : ((m % wd.toNat : Nat) : Int) = (m : Int) % wd := by
              rw [Int.natCast_emod]
              congr 1
              omega
            omega
          have r3 : IntKind.i64.wrap (Int.tmod (m : Int) wd) = (L : Int) - 1 := by rw [r2]; exact IntWalk.i64_in _ (by omega)
          have r3b : IntKind.i64.wrap ((L : Int) - 1) = (L : Int) - 1 := IntWalk.i64_in _ (by omega)
          have r4 : 1 + ((L : Int) - 1) = (L : Int) := by omega
          have r4b : IntKind.i64.wrap (L : Int) = (L : Int) := IntWalk.i64_in _ (by omega)
          have r5 : IntKind.i64.wrap ((L : Int) + 5) = (s.own : Int) + 1 := by rw [show (L : Int) + 5 = (s.own : Int) + 1 by omega]; exact IntWalk.i64_in _ (by omega)
          have r6 : ((L : Int) == 0) = false := by simp; omega
          have r7 : ¬ (L : Int) = 0 := by omega
          have r7b : ¬ L = 0 := by omega
          have n1 : IntKind.i64.wrap ((s.own : Int) + 1) = (s.own : Int) + 1 := IntWalk.i64_in _ (by omega)
          have g1 : (s.begun : Int) ≤ (m : Int) := by omega
          have g2 : (s.first : Int) ≤ (m : Int) := by omega
          have g3 : (s.last : Int) ≤ (m : Int) := by omega
          have g4 : (1 : Int) ≤ (m : Int) := by omega
          have g5 : (m : Int) ≤ (s.marked : Int) := by omega
          have HLS := Kp.mk hlast
          have HM := Kp.mk hmL
          have HGS := Kp.mk (And.intro g1 (And.intro g2 (And.intro g3 (And.intro g4 g5))))
          clear hls hnd hdd hown1 q1 hdm hln ho hc hpw hrow hlast hbm hfm hlm hmm hm1 hmL hL g1 g2 g3 g4 g5 hp
          go_wp2_with fail
          have HP2 : Kp (((wj.setCell ⟨P, 16, none⟩ (.int .i64 ((s.own : Int) + 1))).setCell ⟨P, 8, none⟩ (.pointer none)).heap[P]? = some (.cells #[.slice kc.pa 2 kc.pc, .slice (some ⟨kc.cg, kc.co, none⟩) 1 kc.cc, .int .i64 1, .slice kc.a0 1 kc.c0, .int .i64 1, .slice kc.a1 1 kc.c1, .pointer (some ⟨B, 0, none⟩), wv, .pointer none, .int .u32 (s.n : Int), .int .u32 (s.written : Int), .int .u32 (s.marked : Int), .int .u32 (s.begun : Int), .int .u32 (s.first : Int), .int .u32 (s.last : Int), .int .i64 (s.steps : Int), .int .i64 ((s.own : Int) + 1)] 43 (0, 0))) := ⟨(blk_set (blk_set HP1.out 16 _) 8 _).trans (by simp only [ls0, ls1, ls2])⟩
          have HD2 : Kp (Duo ((wj.setCell ⟨P, 16, none⟩ (.int .i64 ((s.own : Int) + 1))).setCell ⟨P, 8, none⟩ (.pointer none)) [T, P, zk] w0.heap.size B D W g dc R bs da' dr' p (rMem p s.ws s.r) s.w (rNext p s.ws s.r)) := ⟨HD1.out.but (ButS.set (ButS.set (ButS.refl [P] wj) (p := ⟨P, 16, none⟩) (by simp) _) (p := ⟨P, 8, none⟩) (by simp) _) (by simp)⟩
          have HL2 : Kp (Below w0.heap.size w0 ((wj.setCell ⟨P, 16, none⟩ (.int .i64 ((s.own : Int) + 1))).setCell ⟨P, 8, none⟩ (.pointer none))) := ⟨(HL1.out.setCell (p := ⟨P, 16, none⟩) hpl _).setCell (p := ⟨P, 8, none⟩) hpl _⟩
          have HZ2 : Kp (((wj.setCell ⟨P, 16, none⟩ (.int .i64 ((s.own : Int) + 1))).setCell ⟨P, 8, none⟩ (.pointer none)).heap[zk]? = some (.cells zc zt (0, 0))) := ⟨blk_set_ne (p := ⟨P, 8, none⟩) (blk_set_ne (p := ⟨P, 16, none⟩) HZ1.out hzp _) hzp _⟩
          have HR2 : Kp (RowN ((wj.setCell ⟨P, 16, none⟩ (.int .i64 ((s.own : Int) + 1))).setCell ⟨P, 8, none⟩ (.pointer none)) 1 a9 L k9 (u32s (msg p.words m)) [T, P, zk]) := ⟨RowN.set (RowN.set HR9.out (p := ⟨P, 16, none⟩) (by simp) _) (p := ⟨P, 8, none⟩) (by simp) _⟩
          clear HP1 HD1 HL1 HZ1 HR9 db c0 c1 c2 c3 c4 c5 c6 c7 c8 c9 c10 c11 c12 c13 c14 c15 c16 f8 f14 f16 t0 t1 t2 lT lPj
          generalize (wj.setCell ⟨P, 16, none⟩ (.int .i64 ((s.own : Int) + 1))).setCell ⟨P, 8, none⟩ (.pointer none) = wk at HP2 HD2 HL2 HZ2 HR2 ⊢
          have lPk := blk_lt HP2.out
          obtain ⟨g9, o9, ha9, hg9, hc9⟩ := HR2.out.1.at (by omega)
          subst ha9
          have hcm : ∀ k, k < L → wk.cell? ⟨g9, o9 + k, none⟩ = some (.int .u32 (m : Int)) := fun k hk => (hc9 k (by omega)).trans (msg_u32 _ _ _ (by rw [HM.out]; exact hk))
          have HCM := Kp.mk hcm
          have cz : wk.cell? ⟨g9, o9, none⟩ = some (.int .u32 (m : Int)) := hcm 0 (by omega)
          have HCZ := Kp.mk cz
          clear hc9 hcm
          go_loopw [130] (fun i wr => ∃ k : Nat, k ≤ L ∧ i = .int .i64 k ∧ Kp (wr = wk)) (fun i wr => L - (intOf i).toNat)
          case atStart => exact ⟨0, Nat.zero_le _, rfl, ⟨by first | rfl | trivial⟩⟩
          case round =>
            obtain ⟨k, hk, rfl, hwk⟩ := hrel
            obtain rfl := hwk.out
            by_cases hlt : k < L
            · have ck := HCM.out k hlt
              have hz : (0 : Int) ≤ (k : Int) := by omega
              go_wp2
              go_roundw
              case rel => exact ⟨k + 1, by omega, by go_num, ⟨by first | rfl | trivial⟩⟩
              case measure => simp [intOf]; omega
            · obtain rfl : k = L := by omega
              obtain ⟨g1, g2, g3, g4, g5⟩ := HGS.out
              have g1b : s.begun ≤ m := by omega
              have g2b : s.first ≤ m := by omega
              have g3b : s.last ≤ m := by omega
              have g4b : 1 ≤ m := by omega
              have g5b : m ≤ s.marked := by omega
              have cw : wr.cell? ⟨kc.cg, kc.co + 3, none⟩ = some (.int .i64 wd) := (HL2.out.cell (p := ⟨kc.cg, kc.co + 3, none⟩) hlt0).trans HK.out.words
              have lcg : kc.cg < wr.heap.size := by have := HL2.out.size; omega
              have c0 := cbk HP2.out 0 (.slice kc.pa 2 kc.pc) rfl
              have c1 := cbk HP2.out 1 (.slice (some ⟨kc.cg, kc.co, none⟩) 1 kc.cc) rfl
              have c2 := cbk HP2.out 2 (.int .i64 1) rfl
              have c3 := cbk HP2.out 3 (.slice kc.a0 1 kc.c0) rfl
              have c4 := cbk HP2.out 4 (.int .i64 1) rfl
              have c5 := cbk HP2.out 5 (.slice kc.a1 1 kc.c1) rfl
              have c6 := cbk HP2.out 6 (.pointer (some ⟨B, 0, none⟩)) rfl
              have c7 := cbk HP2.out 7 (wv) rfl
              have c8 := cbk HP2.out 8 (.pointer none) rfl
              have c9 := cbk HP2.out 9 (.int .u32 (s.n : Int)) rfl
              have c10 := cbk HP2.out 10 (.int .u32 (s.written : Int)) rfl
              have c11 := cbk HP2.out 11 (.int .u32 (s.marked : Int)) rfl
              have c12 := cbk HP2.out 12 (.int .u32 (s.begun : Int)) rfl
              have c13 := cbk HP2.out 13 (.int .u32 (s.first : Int)) rfl
              have c14 := cbk HP2.out 14 (.int .u32 (s.last : Int)) rfl
              have c15 := cbk HP2.out 15 (.int .i64 (s.steps : Int)) rfl
              have c16 := cbk HP2.out 16 (.int .i64 ((s.own : Int) + 1)) rfl
              have f14 := frozen_blk HP2.out 14
              go_wp2
              go_ret
              refine ⟨rfl, R, bs, da', dr', ?_, ?_, ?_, hpl, ?_, hzp⟩
              · rw [HE1.out, HE2.out, HLS.out]
                exact ((blk_set HP2.out 14 _).trans (by simp only [ls0, ls1, ls2]; rfl))
              · exact (HD2.out.but (ButS.set (ButS.refl [P] _) (p := ⟨P, 14, none⟩) (by simp) _) (by simp)).less (by simp)
              · exact HL2.out.setCell (p := ⟨P, 14, none⟩) hpl _
              · exact blk_set_ne (p := ⟨P, 14, none⟩) HZ2.out hzp _
end Go.Proofs.YtmidcnfmphlneaaGreat

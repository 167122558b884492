/- The play of layer 11: a step of the write. -/
import Derived.Test.YtmidcnfmphlneaaGreatQ22
namespace Go.Proofs.YtmidcnfmphlneaaGreat
open Go.RowKit
set_option linter.unusedSimpArgs false
set_option linter.unusedVariables false

theorem msg_words (wd : Int) (n : Nat) (h : n < 4294967296) : Words (msg wd n) := fun x hx => by
  rw [(List.mem_replicate.1 hx).2]
  omega
set_option maxRecDepth 100000 in
set_option maxHeartbeats 8000000 in
theorem write_any {zk : Nat} {zc : Array Value} {zt : TypeId} {w0 : World} {P B D Wz gz R bs : Nat} {da : Option Addr} {dr : Nat} {kc : CfK} {p : Plc} {z : Sg} {dcz : Nat} {wd per : Int} {c : Int → Int → Nat} (hk : CfOk w0 kc wd per) (hp : p = plc4 wd per) (hjz : J p z c) (hwsz : Words z.ws) (hwkz : z.w.pc ≤ 6 → WOk p z.w) (hnz : z.n + 1 < 4294967296) (now : Int) (wz : World) (hz : PlayAt zk zc zt w0 wz P B D Wz gz dcz R bs da dr kc p z) :
    Calls Tryz.prog 16 #[.pointer (some ⟨P, 0, none⟩), .int .i64 now] wz fun e w' => e = .returned (.bool true) ∧ ∃ W g dc, PlayAt zk zc zt w0 w' P B D W g dc R bs da dr kc p (stepW p now (if z.w.pc ≤ 6 then z else begW p z)) := by
  have HK0 := Kp.mk hk
  obtain ⟨s, hs⟩ : ∃ s, (if z.w.pc ≤ 6 then z else begW p z) = s := ⟨_, rfl⟩
  have hS : J p s c ∧ Words s.ws ∧ WOk p s.w ∧ s.w.pc ≤ 6 ∧ s.n < 4294967296 := by
    rw [← hs]
    split
    · exact ⟨hjz, hwsz, hwkz (by assumption), by assumption, by omega⟩
    · exact ⟨hjz.begW (by omega), hwsz, wr0_ok p _ (by rw [msg_len]; omega) (msg_le _ _ hjz.ok.words) (msg_words _ _ hnz), Nat.zero_le _, hnz⟩
  rw [hs]
  have HJ0 : Kp (J p s c) := ⟨hS.1⟩
  have HWS0 : Kp (Words s.ws) := ⟨hS.2.1⟩
  have HWK0 : Kp (WOk p s.w) := ⟨hS.2.2.1⟩
  have hw6 := hS.2.2.2.1
  have hn := hS.2.2.2.2
  have HS0 := Kp.mk hs
  have HZ0 := Kp.mk hz
  clear hS hs hjz hwsz hwkz hz hk
  go_enter Tryz.func16, Tryz.ntmps16
  obtain ⟨RR, hRR⟩ : ∃ RR : Act → World → Prop, RR = fun a w => ∃ (u7 u8 u9 u10 u11 u12 u13 : Value) (W g dc : Nat), a = ⟨#[.pointer (some ⟨P, 0, none⟩), .int .i64 now, undef, undef, .bool false, undef, undef, u7, u8, u9, u10, u11, u12, u13, undef, undef, undef, undef, undef, undef, undef, undef, undef, undef, undef, undef, undef, undef, undef, undef, undef, undef, undef, undef, undef, undef, undef, undef, undef, undef, undef, undef, undef, undef, undef, undef, undef, undef, undef, undef, undef, undef, undef, undef, undef, undef, undef, undef, undef, undef, undef, undef, undef, undef, undef, undef, undef, undef, undef, undef, undef, undef, undef, undef, undef, undef, undef, undef, undef, undef, undef, undef, undef, undef, undef, undef, undef, undef, undef, undef, undef, undef, undef, undef, undef, undef, undef], []⟩ ∧ Kp (PlayAt zk zc zt w0 w P B D W g dc R bs da dr kc p s) := ⟨_, rfl⟩
  have HRR := Kp.mk hRR
  clear hRR
  refine seq_join RR ?_ ?_
  · have hblk := HZ0.out.blk
    have lPz := blk_lt hblk
    intro K0 hK0
    by_cases hpc : z.w.pc ≤ 6
    · have hs := HS0.out
      rw [if_pos hpc] at hs
      rw [if_pos hpc] at hblk
      have c7 := cbk hblk 7 (.pointer (some ⟨Wz, 0, none⟩)) rfl
      have HS1 := Kp.mk hs
      clear hblk hpc hs
      go_wp2
      exact JQ.mk (by rw [HRR.out]; exact ⟨_, _, _, _, _, _, _, _, _, _, rfl, ⟨HS1.out ▸ HZ0.out⟩⟩)
    · rw [if_neg hpc] at hblk
      have HBG := Kp.mk (begin_any HK0.out hp (by omega) hnz wz HZ0.out)
      have hs := HS0.out
      rw [if_neg hpc] at hs
      have HS1 := Kp.mk hs
      have c7 := cbk hblk 7 (.pointer none) rfl
      clear hblk hs hpc
      go_wp2_with fail
      refine HBG.out.mono ?_
      rintro e w ⟨⟨v9, rfl⟩, W, g, dc, h⟩
      rw [HS1.out] at h
      have HH := Kp.mk h
      clear h HBG c7 lPz
      go_wp2
      exact JQ.mk (by rw [HRR.out]; exact ⟨_, _, _, _, _, _, _, W, g, dc, rfl, HH⟩)
  · intro a w hRa
    rw [HRR.out] at hRa
    obtain ⟨u7, u8, u9, u10, u11, u12, u13, W, g, dc, rfl, HPA⟩ := hRa
    have h := HPA.out
    have hj := HJ0.out
    have hws := HWS0.out
    have hwk := HWK0.out
    have hk := HK0.out
    clear HPA HS0 HJ0 HWS0 HWK0 HK0 HZ0
    obtain ⟨hblk, hduo, hlow, hpl, hzb, hzp⟩ := h
    have HZ1 := Kp.mk hzb
    have lz0 := blk_lt hzb
    rw [if_pos hw6] at hblk
    obtain ⟨rv, hrv⟩ : ∃ rv : Value, (if s.r.pc ≤ 5 then .pointer (some ⟨R, 0, none⟩) else .pointer none) = rv := ⟨_, rfl⟩
    rw [hrv] at hblk
    have HRV := Kp.mk hrv
    have HK := Kp.mk hk
    have hw1 := hk.w1
    have hlt := hk.lt
    have hlow4 : p.low := hp ▸ plc4_low wd per hk.w1
    have hin : p.In s.ws.length := by
      have h1 := hj.ok.len
      have h2 := hj.ok.rd
      exact ⟨h1, by omega⟩
    have HTO := Kp.mk (hj.told_w now (by rw [hp]; exact hk.w1.2) hw6)
    have HP1 := Kp.mk hblk
    have HD1 := Kp.mk hduo
    have HL1 := Kp.mk hlow
    have lP := blk_lt hblk
    have l0 := hlow.size
    have lD := blk_lt hduo.mem.words
    have lW := blk_lt (hduo.wr hw6).blk
    have hWx := hduo.wb hw6
    have hzW : zk ≠ W := fun e => hWx.2.2.1 (by simp [e])
    have hzD : zk ≠ D := fun e => hduo.mx.2 (by simp [e])
    have hWP : P ≠ W := fun e => hWx.2.2.1 (by simp [e])
    have hDP : P ≠ D := fun e => hduo.mx.2 (by simp [e])
    have hWN := hWx.1
    have hDN := hduo.mb.2
    have hcgW : kc.cg ≠ W := by omega
    have hcgD : kc.cg ≠ D := by omega
    obtain ⟨d, hd⟩ : ∃ d, wDid p s.ws s.w = d := ⟨_, rfl⟩
    have HDD := Kp.mk hd
    have HWS := Kp.mk hws
    have HWK := Kp.mk hwk
    clear hblk hduo hlow hk hrv hj hws hwk hd hWx hzb
    have c0 := cbk HP1.out 0 (.slice kc.pa 2 kc.pc) rfl
    have c1 := cbk HP1.out 1 (.slice (some ⟨kc.cg, kc.co, none⟩) 1 kc.cc) rfl
    have c2 := cbk HP1.out 2 (.int .i64 1) rfl
    have c3 := cbk HP1.out 3 (.slice kc.a0 1 kc.c0) rfl
    have c4 := cbk HP1.out 4 (.int .i64 1) rfl
    have c5 := cbk HP1.out 5 (.slice kc.a1 1 kc.c1) rfl
    have c6 := cbk HP1.out 6 (.pointer (some ⟨B, 0, none⟩)) rfl
    have c7 := cbk HP1.out 7 (.pointer (some ⟨W, 0, none⟩)) rfl
    have c8 := cbk HP1.out 8 (rv) rfl
    have c9 := cbk HP1.out 9 (.int .u32 (s.n : Int)) rfl
    have c10 := cbk HP1.out 10 (.int .u32 (s.written : Int)) rfl
    have c11 := cbk HP1.out 11 (.int .u32 (s.marked : Int)) rfl
    have c12 := cbk HP1.out 12 (.int .u32 (s.begun : Int)) rfl
    have c13 := cbk HP1.out 13 (.int .u32 (s.first : Int)) rfl
    have c14 := cbk HP1.out 14 (.int .u32 (s.last : Int)) rfl
    have c15 := cbk HP1.out 15 (.int .i64 (s.steps : Int)) rfl
    have c16 := cbk HP1.out 16 (.int .i64 (s.own : Int)) rfl
    go_wp2_with fail
    refine JQ.region (fun a wj => ∃ (T : Nat) (u7 u8 u9 u10 u11 u12 u13 u14 u15 u16 u17 u18 u19 u20 u21 u22 u23 : Value), a = ⟨#[.pointer (some ⟨P, 0, none⟩), .int .i64 now, undef, undef, .bool false, .pointer (some ⟨T, 0, none⟩), undef, u7, u8, u9, u10, u11, u12, u13, u14, u15, u16, u17, u18, u19, u20, u21, u22, u23, undef, undef, undef, undef, undef, undef, undef, undef, undef, undef, undef, undef, undef, undef, undef, undef, undef, undef, undef, undef, undef, undef, undef, undef, undef, undef, undef, undef, undef, undef, undef, undef, undef, undef, undef, undef, undef, undef, undef, undef, undef, undef, undef, undef, undef, undef, undef, undef, undef, undef, undef, undef, undef, undef, undef, undef, undef, undef, undef, undef, undef, undef, undef, undef, undef, undef, undef, undef, undef, undef, undef, undef, undef], []⟩ ∧ Kp (wj.heap[P]? = some (.cells #[.slice kc.pa 2 kc.pc, .slice (some ⟨kc.cg, kc.co, none⟩) 1 kc.cc, .int .i64 1, .slice kc.a0 1 kc.c0, .int .i64 1, .slice kc.a1 1 kc.c1, .pointer (some ⟨B, 0, none⟩), .pointer (some ⟨W, 0, none⟩), rv, .int .u32 (s.n : Int), .int .u32 (s.written : Int), .int .u32 (s.marked : Int), .int .u32 (s.begun : Int), .int .u32 (s.first : Int), .int .u32 (s.last : Int), .int .i64 (s.steps : Int), .int .i64 (s.own : Int)] 43 (0, 0))) ∧ Kp (Duo wj [T, P, zk] w0.heap.size B D W g dc R bs da dr p (wMem p s.ws now s.w) (wNext p s.ws s.w) s.r) ∧ Kp (Below w0.heap.size w0 wj) ∧ Kp (wj.heap[zk]? = some (.cells zc zt (0, 0))) ∧ Kp (wj.heap[T]? = some (.cells #[.bool d.done, .int .i64 d.code, .slice none 0 0, .bool d.valid, .int .i64 d.count, .bool d.mark, .bool d.ring, .bool d.stamped, .int .i64 d.buffer] 64 (0, 0))) ∧ Kp (w.heap.size ≤ T ∧ T < wj.heap.size)) ?_ ?_
    · refine held_start_gen (S := (fun w' : World => ButB (w.heap.size) [W, D] w w' ∧ ∀ bb o, bb < w.heap.size → bb ≠ W → bb ≠ D → w'.cell? ⟨bb, o, none⟩ = w.cell? ⟨bb, o, none⟩)) (by kernel_rfl) (fun wz : World => Kp (wz.heap[P]? = some (.cells #[.slice kc.pa 2 kc.pc, .slice (some ⟨kc.cg, kc.co, none⟩) 1 kc.cc, .int .i64 1, .slice kc.a0 1 kc.c0, .int .i64 1, .slice kc.a1 1 kc.c1, .pointer (some ⟨B, 0, none⟩), .pointer (some ⟨W, 0, none⟩), rv, .int .u32 (s.n : Int), .int .u32 (s.written : Int), .int .u32 (s.marked : Int), .int .u32 (s.begun : Int), .int .u32 (s.first : Int), .int .u32 (s.last : Int), .int .i64 (s.steps : Int), .int .i64 (s.own : Int)] 43 (0, 0))) ∧ Kp (Duo wz [P, zk] w0.heap.size B D W g dc R bs da dr p s.ws s.w s.r) ∧ Kp (Below w0.heap.size w0 wz) ∧ Kp (wz.heap[zk]? = some (.cells zc zt (0, 0))) ∧ w.heap.size ≤ wz.heap.size) ⟨⟨blk_dr HP1.out⟩, ⟨(HD1.out.below (below_dr (Below.refl _ _)))⟩, ⟨HL1.out.drew⟩, ⟨blk_dr HZ1.out⟩, Nat.le_refl _⟩ (sx_of2 (ButB.dr (ButB.refl _ (by omega)))) (fun wd0 hRn hHeld => ?_)
      clear HP1 HD1 HL1 HZ1
      obtain ⟨HP1, HD1, HL1, HZ1, hsz⟩ := hRn
      refine wtk 0 ?_ rfl (.inl ⟨by rfl, ?_⟩) ?_
      rotate_left 1
      · (intro w hSw; go_simp; try with_reducible rfl)
      try simp only [Act.put, ls0, ls1, ls2]
      refine wtk 1 ?_ rfl (.inl ⟨by rfl, ?_⟩) ?_
      rotate_left 1
      · (intro w hSw; go_simp; try with_reducible rfl)
      try simp only [Act.put, ls0, ls1, ls2]
      refine wtk 2 ?_ rfl (.inl ⟨by rfl, ?_⟩) ?_
      rotate_left 1
      · (intro w hSw; go_simp; try with_reducible rfl)
      try simp only [Act.put, ls0, ls1, ls2]
      refine wtk 3 ?_ rfl (.inl ⟨by rfl, ?_⟩) ?_
      rotate_left 1
      · (intro w hSw; go_simp; try with_reducible rfl)
      try simp only [Act.put, ls0, ls1, ls2]
      refine wtk 4 ?_ rfl (.inl ⟨by rfl, ?_⟩) ?_
      rotate_left 1
      · (intro w hSw; go_simp; try with_reducible rfl)
      try simp only [Act.put, ls0, ls1, ls2]
      refine wtk 5 ?_ rfl (.inl ⟨by rfl, ?_⟩) ?_
      rotate_left 1
      · (intro w hSw; go_simp; try with_reducible rfl)
      try simp only [Act.put, ls0, ls1, ls2]
      refine wtk 6 ?_ rfl (.inl ⟨by rfl, ?_⟩) ?_
      rotate_left 1
      · (intro w hSw; go_simp; try with_reducible rfl)
      try simp only [Act.put, ls0, ls1, ls2]
      refine wtk 7 ?_ rfl (.inl ⟨by rfl, ?_⟩) ?_
      rotate_left 1
      · (intro w hSw; go_simp; try with_reducible rfl)
      try simp only [Act.put, ls0, ls1, ls2]
      refine wtk 8 ?_ rfl (.inl ⟨by rfl, ?_⟩) ?_
      rotate_left 1
      · (intro w hSw; go_simp; try with_reducible rfl)
      try simp only [Act.put, ls0, ls1, ls2]
      refine wrd [9, 10] ?_
      refine (arc rfl (fun K hK => ?_) (arc rfl (fun K hK => ?_) arn))
      · go_simp
        go_at_call 25
        have HSt := HD1.out.wstep now hlow4 hin HWS.out HWK.out hw6
        rw [HDD.out] at HSt
        refine HSt.mono ?_
        clear HSt
        rintro e w9 ⟨rfl, hD9, hb⟩
        try go_wp2_with fail
        refine out_gen hK _ _ (fun wz : World => Kp (wz.heap[P]? = some (.cells #[.slice kc.pa 2 kc.pc, .slice (some ⟨kc.cg, kc.co, none⟩) 1 kc.cc, .int .i64 1, .slice kc.a0 1 kc.c0, .int .i64 1, .slice kc.a1 1 kc.c1, .pointer (some ⟨B, 0, none⟩), .pointer (some ⟨W, 0, none⟩), rv, .int .u32 (s.n : Int), .int .u32 (s.written : Int), .int .u32 (s.marked : Int), .int .u32 (s.begun : Int), .int .u32 (s.first : Int), .int .u32 (s.last : Int), .int .i64 (s.steps : Int), .int .i64 (s.own : Int)] 43 (0, 0))) ∧ Kp (Below w0.heap.size w0 wz) ∧ Kp (wz.heap[zk]? = some (.cells zc zt (0, 0))) ∧ Kp (Duo wz [P, zk] w0.heap.size B D W g dc R bs da dr p (wMem p s.ws now s.w) (wNext p s.ws s.w) s.r) ∧ wd0.heap.size ≤ wz.heap.size) ⟨⟨ButS.blk hb HP1.out (by simp only [List.mem_cons, List.not_mem_nil, or_false, not_or]; omega)⟩, ⟨(HD1.out.lowW hw6 HL1.out (Nat.le_refl _) hb)⟩, ⟨ButS.blk hb HZ1.out (by simp only [List.mem_cons, List.not_mem_nil, or_false, not_or]; omega)⟩, ⟨hD9⟩, hb.size⟩ (sx_of2 (ButB.callbut (And.left hHeld) hb (by intro k hk; simpa using hk))) (fun wd1 hRn hHn => ?_)
        clear hK K hHeld HP1 HD1 HL1 HZ1 hb hD9
        obtain ⟨HP1, HL1, HZ1, HD1, hsz1⟩ := hRn
        have hHeld := hHn
        clear hHn
        try simp only [Act.put, ls0, ls1, ls2]
        refine wrd [10] ?_
        refine (arc rfl (fun K hK => ?_) arn)
        have ge_db : w.heap.size ≤ wd1.heap.size := (And.left hHeld).size
        go_simp
        try go_wp2_with fail
        refine out_gen hK _ _ (fun wz : World => Kp (wz.heap[P]? = some (.cells #[.slice kc.pa 2 kc.pc, .slice (some ⟨kc.cg, kc.co, none⟩) 1 kc.cc, .int .i64 1, .slice kc.a0 1 kc.c0, .int .i64 1, .slice kc.a1 1 kc.c1, .pointer (some ⟨B, 0, none⟩), .pointer (some ⟨W, 0, none⟩), rv, .int .u32 (s.n : Int), .int .u32 (s.written : Int), .int .u32 (s.marked : Int), .int .u32 (s.begun : Int), .int .u32 (s.first : Int), .int .u32 (s.last : Int), .int .i64 (s.steps : Int), .int .i64 (s.own : Int)] 43 (0, 0))) ∧ Kp (Below w0.heap.size w0 wz) ∧ Kp (wz.heap[zk]? = some (.cells zc zt (0, 0))) ∧ Kp (Duo wz [wd1.heap.size, P, zk] w0.heap.size B D W g dc R bs da dr p (wMem p s.ws now s.w) (wNext p s.ws s.w) s.r) ∧ Kp (wz.heap[wd1.heap.size]? = some (.cells #[.bool false, .int .i64 0, .slice none 0 0, .bool false, .int .i64 0, .bool false, .bool false, .bool false, .int .i64 0] 64 (0, 0))) ∧ wd1.heap.size < wz.heap.size) ⟨⟨blk_al HP1.out _⟩, ⟨(HL1.out.alloc HL1.out.size _)⟩, ⟨blk_al HZ1.out _⟩, ⟨HD1.out.al _⟩, ⟨blk_new wd1 _⟩, (by simp)⟩ (sx_of2 (ButB.al (And.left hHeld) _)) (fun wd2 hRn hHn => ?_)
        clear hK K hHeld HP1 HL1 HZ1 HD1
        obtain ⟨HP1, HL1, HZ1, HD1, db, hsz2⟩ := hRn
        have hHeld := hHn
        clear hHn
        try simp only [Act.put, ls0, ls1, ls2]
        have lt_db := blk_lt db.out
        refine wrd [11] ?_
        refine (arc rfl (fun K hK => ?_) arn)
        have sd0 := cbk db.out 0 (.bool false) rfl
        have sf0 := frozen_blk db.out 0
        have sd1 := cbk db.out 1 (.int .i64 0) rfl
        have sf1 := frozen_blk db.out 1
        have sd2 := cbk db.out 2 (.slice none 0 0) rfl
        have sf2 := frozen_blk db.out 2
        have sd3 := cbk db.out 3 (.bool false) rfl
        have sf3 := frozen_blk db.out 3
        have sd4 := cbk db.out 4 (.int .i64 0) rfl
        have sf4 := frozen_blk db.out 4
        have sd5 := cbk db.out 5 (.bool false) rfl
        have sf5 := frozen_blk db.out 5
        have sd6 := cbk db.out 6 (.bool false) rfl
        have sf6 := frozen_blk db.out 6
        have sd7 := cbk db.out 7 (.bool false) rfl
        have sf7 := frozen_blk db.out 7
        have sd8 := cbk db.out 8 (.int .i64 0) rfl
        have sf8 := frozen_blk db.out 8
        have sl := blk_lt db.out
        go_simp
        try go_wp2_with fail
        refine out_gen hK _ _ (fun wz : World => Kp (wz.heap[P]? = some (.cells #[.slice kc.pa 2 kc.pc, .slice (some ⟨kc.cg, kc.co, none⟩) 1 kc.cc, .int .i64 1, .slice kc.a0 1 kc.c0, .int .i64 1, .slice kc.a1 1 kc.c1, .pointer (some ⟨B, 0, none⟩), .pointer (some ⟨W, 0, none⟩), rv, .int .u32 (s.n : Int), .int .u32 (s.written : Int), .int .u32 (s.marked : Int), .int .u32 (s.begun : Int), .int .u32 (s.first : Int), .int .u32 (s.last : Int), .int .i64 (s.steps : Int), .int .i64 (s.own : Int)] 43 (0, 0))) ∧ Kp (Below w0.heap.size w0 wz) ∧ Kp (wz.heap[zk]? = some (.cells zc zt (0, 0))) ∧ Kp (Duo wz [wd1.heap.size, P, zk] w0.heap.size B D W g dc R bs da dr p (wMem p s.ws now s.w) (wNext p s.ws s.w) s.r) ∧ Kp (wz.heap[wd1.heap.size]? = some (.cells #[.bool d.done, .int .i64 d.code, .slice none 0 0, .bool d.valid, .int .i64 d.count, .bool d.mark, .bool d.ring, .bool d.stamped, .int .i64 d.buffer] 64 (0, 0))) ∧ wd2.heap.size ≤ wz.heap.size) ⟨⟨(blk_set_ne (p := ⟨wd1.heap.size, 8, none⟩) (blk_set_ne (p := ⟨wd1.heap.size, 7, none⟩) (blk_set_ne (p := ⟨wd1.heap.size, 6, none⟩) (blk_set_ne (p := ⟨wd1.heap.size, 5, none⟩) (blk_set_ne (p := ⟨wd1.heap.size, 4, none⟩) (blk_set_ne (p := ⟨wd1.heap.size, 3, none⟩) (blk_set_ne (p := ⟨wd1.heap.size, 2, none⟩) (blk_set_ne (p := ⟨wd1.heap.size, 1, none⟩) (blk_set_ne (p := ⟨wd1.heap.size, 0, none⟩) HP1.out (by show P ≠ wd1.heap.size; omega) _) (by show P ≠ wd1.heap.size; omega) _) (by show P ≠ wd1.heap.size; omega) _) (by show P ≠ wd1.heap.size; omega) _) (by show P ≠ wd1.heap.size; omega) _) (by show P ≠ wd1.heap.size; omega) _) (by show P ≠ wd1.heap.size; omega) _) (by show P ≠ wd1.heap.size; omega) _) (by show P ≠ wd1.heap.size; omega) _)⟩, ⟨(((((((((HL1.out.setCell (p := ⟨wd1.heap.size, 0, none⟩) (by show w0.heap.size ≤ wd1.heap.size; omega) _).setCell (p := ⟨wd1.heap.size, 1, none⟩) (by show w0.heap.size ≤ wd1.heap.size; omega) _).setCell (p := ⟨wd1.heap.size, 2, none⟩) (by show w0.heap.size ≤ wd1.heap.size; omega) _).setCell (p := ⟨wd1.heap.size, 3, none⟩) (by show w0.heap.size ≤ wd1.heap.size; omega) _).setCell (p := ⟨wd1.heap.size, 4, none⟩) (by show w0.heap.size ≤ wd1.heap.size; omega) _).setCell (p := ⟨wd1.heap.size, 5, none⟩) (by show w0.heap.size ≤ wd1.heap.size; omega) _).setCell (p := ⟨wd1.heap.size, 6, none⟩) (by show w0.heap.size ≤ wd1.heap.size; omega) _).setCell (p := ⟨wd1.heap.size, 7, none⟩) (by show w0.heap.size ≤ wd1.heap.size; omega) _).setCell (p := ⟨wd1.heap.size, 8, none⟩) (by show w0.heap.size ≤ wd1.heap.size; omega) _)⟩, ⟨(blk_set_ne (p := ⟨wd1.heap.size, 8, none⟩) (blk_set_ne (p := ⟨wd1.heap.size, 7, none⟩) (blk_set_ne (p := ⟨wd1.heap.size, 6, none⟩) (blk_set_ne (p := ⟨wd1.heap.size, 5, none⟩) (blk_set_ne (p := ⟨wd1.heap.size, 4, none⟩) (blk_set_ne (p := ⟨wd1.heap.size, 3, none⟩) (blk_set_ne (p := ⟨wd1.heap.size, 2, none⟩) (blk_set_ne (p := ⟨wd1.heap.size, 1, none⟩) (blk_set_ne (p := ⟨wd1.heap.size, 0, none⟩) HZ1.out (by show zk ≠ wd1.heap.size; omega) _) (by show zk ≠ wd1.heap.size; omega) _) (by show zk ≠ wd1.heap.size; omega) _) (by show zk ≠ wd1.heap.size; omega) _) (by show zk ≠ wd1.heap.size; omega) _) (by show zk ≠ wd1.heap.size; omega) _) (by show zk ≠ wd1.heap.size; omega) _) (by show zk ≠ wd1.heap.size; omega) _) (by show zk ≠ wd1.heap.size; omega) _)⟩, ⟨(((((((((HD1.out.but (ButS.set (ButS.refl [wd1.heap.size] _) (p := ⟨wd1.heap.size, 0, none⟩) (by simp) _) (by simp)).but (ButS.set (ButS.refl [wd1.heap.size] _) (p := ⟨wd1.heap.size, 1, none⟩) (by simp) _) (by simp)).but (ButS.set (ButS.refl [wd1.heap.size] _) (p := ⟨wd1.heap.size, 2, none⟩) (by simp) _) (by simp)).but (ButS.set (ButS.refl [wd1.heap.size] _) (p := ⟨wd1.heap.size, 3, none⟩) (by simp) _) (by simp)).but (ButS.set (ButS.refl [wd1.heap.size] _) (p := ⟨wd1.heap.size, 4, none⟩) (by simp) _) (by simp)).but (ButS.set (ButS.refl [wd1.heap.size] _) (p := ⟨wd1.heap.size, 5, none⟩) (by simp) _) (by simp)).but (ButS.set (ButS.refl [wd1.heap.size] _) (p := ⟨wd1.heap.size, 6, none⟩) (by simp) _) (by simp)).but (ButS.set (ButS.refl [wd1.heap.size] _) (p := ⟨wd1.heap.size, 7, none⟩) (by simp) _) (by simp)).but (ButS.set (ButS.refl [wd1.heap.size] _) (p := ⟨wd1.heap.size, 8, none⟩) (by simp) _) (by simp))⟩, ⟨(blk_set (blk_set (blk_set (blk_set (blk_set (blk_set (blk_set (blk_set (blk_set db.out 0 _) 1 _) 2 _) 3 _) 4 _) 5 _) 6 _) 7 _) 8 _).trans (by first | (simp only [ls0, ls1, ls2]; done) | rfl)⟩, (by simp [World.setCell])⟩ (sx_of2 ((ButB.set (ButB.set (ButB.set (ButB.set (ButB.set (ButB.set (ButB.set (ButB.set (ButB.set (And.left hHeld) (p := ⟨wd1.heap.size, 0, none⟩) (by first | (left; simp; done) | (right; show _ ≤ wd1.heap.size; omega)) _) (p := ⟨wd1.heap.size, 1, none⟩) (by first | (left; simp; done) | (right; show _ ≤ wd1.heap.size; omega)) _) (p := ⟨wd1.heap.size, 2, none⟩) (by first | (left; simp; done) | (right; show _ ≤ wd1.heap.size; omega)) _) (p := ⟨wd1.heap.size, 3, none⟩) (by first | (left; simp; done) | (right; show _ ≤ wd1.heap.size; omega)) _) (p := ⟨wd1.heap.size, 4, none⟩) (by first | (left; simp; done) | (right; show _ ≤ wd1.heap.size; omega)) _) (p := ⟨wd1.heap.size, 5, none⟩) (by first | (left; simp; done) | (right; show _ ≤ wd1.heap.size; omega)) _) (p := ⟨wd1.heap.size, 6, none⟩) (by first | (left; simp; done) | (right; show _ ≤ wd1.heap.size; omega)) _) (p := ⟨wd1.heap.size, 7, none⟩) (by first | (left; simp; done) | (right; show _ ≤ wd1.heap.size; omega)) _) (p := ⟨wd1.heap.size, 8, none⟩) (by first | (left; simp; done) | (right; show _ ≤ wd1.heap.size; omega)) _))) (fun wd3 hRn hHn => ?_)
        clear hK K hHeld HP1 HL1 HZ1 HD1 db sd0 sf0 sd1 sf1 sd2 sf2 sd3 sf3 sd4 sf4 sd5 sf5 sd6 sf6 sd7 sf7 sd8 sf8 sl
        obtain ⟨HP1, HL1, HZ1, HD1, db, hsz3⟩ := hRn
        have hHeld := hHn
        clear hHn
        try simp only [Act.put, ls0, ls1, ls2]
        refine wpAnyH_done (by kernel_rfl) ?_ _
        exact JQ.mk ⟨_, _, _, _, _, _, _, _, _, _, _, _, _, _, _, _, _, _, rfl, HP1, HD1, HL1, HZ1, db, ⟨by omega, blk_lt db.out⟩⟩
      · have ge_db : w.heap.size ≤ wd0.heap.size := (And.left hHeld).size
        go_simp
        try go_wp2_with fail
        refine out_gen hK _ _ (fun wz : World => Kp (wz.heap[P]? = some (.cells #[.slice kc.pa 2 kc.pc, .slice (some ⟨kc.cg, kc.co, none⟩) 1 kc.cc, .int .i64 1, .slice kc.a0 1 kc.c0, .int .i64 1, .slice kc.a1 1 kc.c1, .pointer (some ⟨B, 0, none⟩), .pointer (some ⟨W, 0, none⟩), rv, .int .u32 (s.n : Int), .int .u32 (s.written : Int), .int .u32 (s.marked : Int), .int .u32 (s.begun : Int), .int .u32 (s.first : Int), .int .u32 (s.last : Int), .int .i64 (s.steps : Int), .int .i64 (s.own : Int)] 43 (0, 0))) ∧ Kp (Duo wz [wd0.heap.size, P, zk] w0.heap.size B D W g dc R bs da dr p s.ws s.w s.r) ∧ Kp (Below w0.heap.size w0 wz) ∧ Kp (wz.heap[zk]? = some (.cells zc zt (0, 0))) ∧ Kp (wz.heap[wd0.heap.size]? = some (.cells #[.bool false, .int .i64 0, .slice none 0 0, .bool false, .int .i64 0, .bool false, .bool false, .bool false, .int .i64 0] 64 (0, 0))) ∧ wd0.heap.size < wz.heap.size) ⟨⟨blk_al HP1.out _⟩, ⟨HD1.out.al _⟩, ⟨(HL1.out.alloc HL1.out.size _)⟩, ⟨blk_al HZ1.out _⟩, ⟨blk_new wd0 _⟩, (by simp)⟩ (sx_of2 (ButB.al (And.left hHeld) _)) (fun wd4 hRn hHn => ?_)
        clear hK K hHeld HP1 HD1 HL1 HZ1
        obtain ⟨HP1, HD1, HL1, HZ1, db, hsz4⟩ := hRn
        have hHeld := hHn
        clear hHn
        try simp only [Act.put, ls0, ls1, ls2]
        have lt_db := blk_lt db.out
        refine wrd [9] ?_
        refine (arc rfl (fun K hK => ?_) arn)
        go_simp
        go_at_call 25
        have HSt := HD1.out.wstep now hlow4 hin HWS.out HWK.out hw6
        rw [HDD.out] at HSt
        refine HSt.mono ?_
        clear HSt
        rintro e w9 ⟨rfl, hD9, hb⟩
        try go_wp2_with fail
        refine out_gen hK _ _ (fun wz : World => Kp (wz.heap[P]? = some (.cells #[.slice kc.pa 2 kc.pc, .slice (some ⟨kc.cg, kc.co, none⟩) 1 kc.cc, .int .i64 1, .slice kc.a0 1 kc.c0, .int .i64 1, .slice kc.a1 1 kc.c1, .pointer (some ⟨B, 0, none⟩), .pointer (some ⟨W, 0, none⟩), rv, .int .u32 (s.n : Int), .int .u32 (s.written : Int), .int .u32 (s.marked : Int), .int .u32 (s.begun : Int), .int .u32 (s.first : Int), .int .u32 (s.last : Int), .int .i64 (s.steps : Int), .int .i64 (s.own : Int)] 43 (0, 0))) ∧ Kp (Below w0.heap.size w0 wz) ∧ Kp (wz.heap[zk]? = some (.cells zc zt (0, 0))) ∧ Kp (wz.heap[wd0.heap.size]? = some (.cells #[.bool false, .int .i64 0, .slice none 0 0, .bool false, .int .i64 0, .bool false, .bool false, .bool false, .int .i64 0] 64 (0, 0))) ∧ Kp (Duo wz [wd0.heap.size, P, zk] w0.heap.size B D W g dc R bs da dr p (wMem p s.ws now s.w) (wNext p s.ws s.w) s.r) ∧ wd4.heap.size ≤ wz.heap.size) ⟨⟨ButS.blk hb HP1.out (by simp only [List.mem_cons, List.not_mem_nil, or_false, not_or]; omega)⟩, ⟨(HD1.out.lowW hw6 HL1.out (Nat.le_refl _) hb)⟩, ⟨ButS.blk hb HZ1.out (by simp only [List.mem_cons, List.not_mem_nil, or_false, not_or]; omega)⟩, ⟨ButS.blk hb db.out (by simp only [List.mem_cons, List.not_mem_nil, or_false, not_or]; omega)⟩, ⟨hD9⟩, hb.size⟩ (sx_of2 (ButB.callbut (And.left hHeld) hb (by intro k hk; simpa using hk))) (fun wd5 hRn hHn => ?_)
        clear hK K hHeld HP1 HD1 HL1 HZ1 db hb hD9
        obtain ⟨HP1, HL1, HZ1, db, HD1, hsz5⟩ := hRn
        have hHeld := hHn
        clear hHn
        try simp only [Act.put, ls0, ls1, ls2]
        refine wrd [11] ?_
        refine (arc rfl (fun K hK => ?_) arn)
        have sd0 := cbk db.out 0 (.bool false) rfl
        have sf0 := frozen_blk db.out 0
        have sd1 := cbk db.out 1 (.int .i64 0) rfl
        have sf1 := frozen_blk db.out 1
        have sd2 := cbk db.out 2 (.slice none 0 0) rfl
        have sf2 := frozen_blk db.out 2
        have sd3 := cbk db.out 3 (.bool false) rfl
        have sf3 := frozen_blk db.out 3
        have sd4 := cbk db.out 4 (.int .i64 0) rfl
        have sf4 := frozen_blk db.out 4
        have sd5 := cbk db.out 5 (.bool false) rfl
        have sf5 := frozen_blk db.out 5
        have sd6 := cbk db.out 6 (.bool false) rfl
        have sf6 := frozen_blk db.out 6
        have sd7 := cbk db.out 7 (.bool false) rfl
        have sf7 := frozen_blk db.out 7
        have sd8 := cbk db.out 8 (.int .i64 0) rfl
        have sf8 := frozen_blk db.out 8
        have sl := blk_lt db.out
        go_simp
        try go_wp2_with fail
        refine out_gen hK _ _ (fun wz : World => Kp (wz.heap[P]? = some (.cells #[.slice kc.pa 2 kc.pc, .slice (some ⟨kc.cg, kc.co, none⟩) 1 kc.cc, .int .i64 1, .slice kc.a0 1 kc.c0, .int .i64 1, .slice kc.a1 1 kc.c1, .pointer (some ⟨B, 0, none⟩), .pointer (some ⟨W, 0, none⟩), rv, .int .u32 (s.n : Int), .int .u32 (s.written : Int), .int .u32 (s.marked : Int), .int .u32 (s.begun : Int), .int .u32 (s.first : Int), .int .u32 (s.last : Int), .int .i64 (s.steps : Int), .int .i64 (s.own : Int)] 43 (0, 0))) ∧ Kp (Below w0.heap.size w0 wz) ∧ Kp (wz.heap[zk]? = some (.cells zc zt (0, 0))) ∧ Kp (wz.heap[wd0.heap.size]? = some (.cells #[.bool d.done, .int .i64 d.code, .slice none 0 0, .bool d.valid, .int .i64 d.count, .bool d.mark, .bool d.ring, .bool d.stamped, .int .i64 d.buffer] 64 (0, 0))) ∧ Kp (Duo wz [wd0.heap.size, P, zk] w0.heap.size B D W g dc R bs da dr p (wMem p s.ws now s.w) (wNext p s.ws s.w) s.r) ∧ wd5.heap.size ≤ wz.heap.size) ⟨⟨(blk_set_ne (p := ⟨wd0.heap.size, 8, none⟩) (blk_set_ne (p := ⟨wd0.heap.size, 7, none⟩) (blk_set_ne (p := ⟨wd0.heap.size, 6, none⟩) (blk_set_ne (p := ⟨wd0.heap.size, 5, none⟩) (blk_set_ne (p := ⟨wd0.heap.size, 4, none⟩) (blk_set_ne (p := ⟨wd0.heap.size, 3, none⟩) (blk_set_ne (p := ⟨wd0.heap.size, 2, none⟩) (blk_set_ne (p := ⟨wd0.heap.size, 1, none⟩) (blk_set_ne (p := ⟨wd0.heap.size, 0, none⟩) HP1.out (by show P ≠ wd0.heap.size; omega) _) (by show P ≠ wd0.heap.size; omega) _) (by show P ≠ wd0.heap.size; omega) _) (by show P ≠ wd0.heap.size; omega) _) (by show P ≠ wd0.heap.size; omega) _) (by show P ≠ wd0.heap.size; omega) _) (by show P ≠ wd0.heap.size; omega) _) (by show P ≠ wd0.heap.size; omega) _) (by show P ≠ wd0.heap.size; omega) _)⟩, ⟨(((((((((HL1.out.setCell (p := ⟨wd0.heap.size, 0, none⟩) (by show w0.heap.size ≤ wd0.heap.size; omega) _).setCell (p := ⟨wd0.heap.size, 1, none⟩) (by show w0.heap.size ≤ wd0.heap.size; omega) _).setCell (p := ⟨wd0.heap.size, 2, none⟩) (by show w0.heap.size ≤ wd0.heap.size; omega) _).setCell (p := ⟨wd0.heap.size, 3, none⟩) (by show w0.heap.size ≤ wd0.heap.size; omega) _).setCell (p := ⟨wd0.heap.size, 4, none⟩) (by show w0.heap.size ≤ wd0.heap.size; omega) _).setCell (p := ⟨wd0.heap.size, 5, none⟩) (by show w0.heap.size ≤ wd0.heap.size; omega) _).setCell (p := ⟨wd0.heap.size, 6, none⟩) (by show w0.heap.size ≤ wd0.heap.size; omega) _).setCell (p := ⟨wd0.heap.size, 7, none⟩) (by show w0.heap.size ≤ wd0.heap.size; omega) _).setCell (p := ⟨wd0.heap.size, 8, none⟩) (by show w0.heap.size ≤ wd0.heap.size; omega) _)⟩, ⟨(blk_set_ne (p := ⟨wd0.heap.size, 8, none⟩) (blk_set_ne (p := ⟨wd0.heap.size, 7, none⟩) (blk_set_ne (p := ⟨wd0.heap.size, 6, none⟩) (blk_set_ne (p := ⟨wd0.heap.size, 5, none⟩) (blk_set_ne (p := ⟨wd0.heap.size, 4, none⟩) (blk_set_ne (p := ⟨wd0.heap.size, 3, none⟩) (blk_set_ne (p := ⟨wd0.heap.size, 2, none⟩) (blk_set_ne (p := ⟨wd0.heap.size, 1, none⟩) (blk_set_ne (p := ⟨wd0.heap.size, 0, none⟩) HZ1.out (by show zk ≠ wd0.heap.size; omega) _) (by show zk ≠ wd0.heap.size; omega) _) (by show zk ≠ wd0.heap.size; omega) _) (by show zk ≠ wd0.heap.size; omega) _) (by show zk ≠ wd0.heap.size; omega) _) (by show zk ≠ wd0.heap.size; omega) _) (by show zk ≠ wd0.heap.size; omega) _) (by show zk ≠ wd0.heap.size; omega) _) (by show zk ≠ wd0.heap.size; omega) _)⟩, ⟨(blk_set (blk_set (blk_set (blk_set (blk_set (blk_set (blk_set (blk_set (blk_set db.out 0 _) 1 _) 2 _) 3 _) 4 _) 5 _) 6 _) 7 _) 8 _).trans (by first | (simp only [ls0, ls1, ls2]; done) | rfl)⟩, ⟨(((((((((HD1.out.but (ButS.set (ButS.refl [wd0.heap.size] _) (p := ⟨wd0.heap.size, 0, none⟩) (by simp) _) (by simp)).but (ButS.set (ButS.refl [wd0.heap.size] _) (p := ⟨wd0.heap.size, 1, none⟩) (by simp) _) (by simp)).but (ButS.set (ButS.refl [wd0.heap.size] _) (p := ⟨wd0.heap.size, 2, none⟩) (by simp) _) (by simp)).but (ButS.set (ButS.refl [wd0.heap.size] _) (p := ⟨wd0.heap.size, 3, none⟩) (by simp) _) (by simp)).but (ButS.set (ButS.refl [wd0.heap.size] _) (p := ⟨wd0.heap.size, 4, none⟩) (by simp) _) (by simp)).but (ButS.set (ButS.refl [wd0.heap.size] _) (p := ⟨wd0.heap.size, 5, none⟩) (by simp) _) (by simp)).but (ButS.set (ButS.refl [wd0.heap.size] _) (p := ⟨wd0.heap.size, 6, none⟩) (by simp) _) (by simp)).but (ButS.set (ButS.refl [wd0.heap.size] _) (p := ⟨wd0.heap.size, 7, none⟩) (by simp) _) (by simp)).but (ButS.set (ButS.refl [wd0.heap.size] _) (p := ⟨wd0.heap.size, 8, none⟩) (by simp) _) (by simp))⟩, (by simp [World.setCell])⟩ (sx_of2 ((ButB.set (ButB.set (ButB.set (ButB.set (ButB.set (ButB.set (ButB.set (ButB.set (ButB.set (And.left hHeld) (p := ⟨wd0.heap.size, 0, none⟩) (by first | (left; simp; done) | (right; show _ ≤ wd0.heap.size; omega)) _) (p := ⟨wd0.heap.size, 1, none⟩) (by first | (left; simp; done) | (right; show _ ≤ wd0.heap.size; omega)) _) (p := ⟨wd0.heap.size, 2, none⟩) (by first | (left; simp; done) | (right; show _ ≤ wd0.heap.size; omega)) _) (p := ⟨wd0.heap.size, 3, none⟩) (by first | (left; simp; done) | (right; show _ ≤ wd0.heap.size; omega)) _) (p := ⟨wd0.heap.size, 4, none⟩) (by first | (left; simp; done) | (right; show _ ≤ wd0.heap.size; omega)) _) (p := ⟨wd0.heap.size, 5, none⟩) (by first | (left; simp; done) | (right; show _ ≤ wd0.heap.size; omega)) _) (p := ⟨wd0.heap.size, 6, none⟩) (by first | (left; simp; done) | (right; show _ ≤ wd0.heap.size; omega)) _) (p := ⟨wd0.heap.size, 7, none⟩) (by first | (left; simp; done) | (right; show _ ≤ wd0.heap.size; omega)) _) (p := ⟨wd0.heap.size, 8, none⟩) (by first | (left; simp; done) | (right; show _ ≤ wd0.heap.size; omega)) _))) (fun wd6 hRn hHn => ?_)
        clear hK K hHeld HP1 HL1 HZ1 db HD1 sd0 sf0 sd1 sf1 sd2 sf2 sd3 sf3 sd4 sf4 sd5 sf5 sd6 sf6 sd7 sf7 sd8 sf8 sl
        obtain ⟨HP1, HL1, HZ1, db, HD1, hsz6⟩ := hRn
        have hHeld := hHn
        clear hHn
        try simp only [Act.put, ls0, ls1, ls2]
        refine wpAnyH_done (by kernel_rfl) ?_ _
        exact JQ.mk ⟨_, _, _, _, _, _, _, _, _, _, _, _, _, _, _, _, _, _, rfl, HP1, HD1, HL1, HZ1, db, ⟨by omega, blk_lt db.out⟩⟩
    · rintro a wj ⟨T, u7, u8, u9, u10, u11, u12, u13, u14, u15, u16, u17, u18, u19, u20, u21, u22, u23, rfl, HP1, HD1, HL1, HZ1, db, HTT⟩
      have hTP : P ≠ T := by have := HTT.out.1; omega
      have hT0 : w0.heap.size ≤ T := by have := HTT.out.1; omega
      have lT := HTT.out.2
      have lPj := blk_lt HP1.out
      obtain ⟨hcode, hnd, hdd⟩ := HTO.out
      rw [HDD.out] at hcode hnd hdd
      have hst1 : (stepW p now s).steps = s.steps + 1 := rfl
      have hmd : (stepW p now s).marked = if d.mark = true then s.n else s.marked := by show (if (wDid p s.ws s.w).mark = true then s.n else s.marked) = _; rw [HDD.out]
      have hwr : (stepW p now s).written = if d.done = true then s.n else s.written := by show (if (wDid p s.ws s.w).done = true then s.n else s.written) = _; rw [HDD.out]
      have e1 : (if (stepW p now s).r.pc ≤ 5 then Value.pointer (some ⟨R, 0, none⟩) else Value.pointer none) = rv := HRV.out
      have t0 := cbk db.out 0 (.bool d.done) rfl
      have t1 := cbk db.out 1 (.int .i64 d.code) rfl
      have t5 := cbk db.out 5 (.bool d.mark) rfl
      rw [hcode] at t1
      have c0 := cbk HP1.out 0 (.slice kc.pa 2 kc.pc) rfl
      have c1 := cbk HP1.out 1 (.slice (some ⟨kc.cg, kc.co, none⟩) 1 kc.cc) rfl
      have c2 := cbk HP1.out 2 (.int .i64 1) rfl
      have c3 := cbk HP1.out 3 (.slice kc.a0 1 kc.c0) rfl
      have c4 := cbk HP1.out 4 (.int .i64 1) rfl
      have c5 := cbk HP1.out 5 (.slice kc.a1 1 kc.c1) rfl
      have c6 := cbk HP1.out 6 (.pointer (some ⟨B, 0, none⟩)) rfl
      have c7 := cbk HP1.out 7 (.pointer (some ⟨W, 0, none⟩)) rfl
      have c8 := cbk HP1.out 8 (rv) rfl
      have c9 := cbk HP1.out 9 (.int .u32 (s.n : Int)) rfl
      have c10 := cbk HP1.out 10 (.int .u32 (s.written : Int)) rfl
      have c11 := cbk HP1.out 11 (.int .u32 (s.marked : Int)) rfl
      have c12 := cbk HP1.out 12 (.int .u32 (s.begun : Int)) rfl
      have c13 := cbk HP1.out 13 (.int .u32 (s.first : Int)) rfl
      have c14 := cbk HP1.out 14 (.int .u32 (s.last : Int)) rfl
      have c15 := cbk HP1.out 15 (.int .i64 (s.steps : Int)) rfl
      have c16 := cbk HP1.out 16 (.int .i64 (s.own : Int)) rfl
      have f7 := frozen_blk HP1.out 7
      have f10 := frozen_blk HP1.out 10
      have f11 := frozen_blk HP1.out 11
      have f15 := frozen_blk HP1.out 15
      cases hm : d.mark with
      | true =>
        rw [hm] at t5 hmd
        cases hdn : d.done with
        | false =>
          rw [hdn] at t0 hwr
          obtain ⟨q1, q2⟩ := hnd hdn
          rw [hst1] at q2
          have n1 : IntKind.i64.wrap ((s.steps : Int) + 1) = (s.steps : Int) + 1 := IntWalk.i64_in _ (by omega)
          have n2 : (s.steps : Int) + 1 < 40 := by omega
          have e2 : (if (stepW p now s).w.pc ≤ 6 then Value.pointer (some ⟨W, 0, none⟩) else Value.pointer none) = .pointer (some ⟨W, 0, none⟩) := if_pos q1
          have hmd2 : (stepW p now s).marked = s.n := hmd
          have hwr2 : (stepW p now s).written = s.written := hwr
          have HE2 := Kp.mk e2
          have HMD := Kp.mk hmd2
          have HWR := Kp.mk hwr2
          have HE1 := Kp.mk e1
          clear e2 hmd hmd2 hwr hwr2 e1 hnd hdd hst1 q1 q2 hcode
          go_wp2
          go_ret
          refine ⟨rfl, W, g, dc, ?_, ?_, ?_, hpl, ?_, hzp⟩
          · rw [HE1.out, HE2.out, HMD.out, HWR.out]
            exact ((blk_set (blk_set HP1.out 15 _) 11 _).trans (by simp only [ls0, ls1, ls2]; rfl))
          · exact (HD1.out.but (ButS.set (ButS.set (ButS.refl [P] wj) (p := ⟨P, 15, none⟩) (by simp) _) (p := ⟨P, 11, none⟩) (by simp) _) (by simp)).less (by simp)
          · exact ((HL1.out.setCell (p := ⟨P, 15, none⟩) hpl _).setCell (p := ⟨P, 11, none⟩) hpl _)
          · exact (blk_set_ne (p := ⟨P, 11, none⟩) (blk_set_ne (p := ⟨P, 15, none⟩) HZ1.out hzp _) hzp _)
        | true =>
          rw [hdn] at t0 hwr
          obtain ⟨q1, q2, q3⟩ := hdd hdn
          rw [hst1] at q2
          rw [hmd] at q3
          have hpw : p.words = wd := by rw [hp]; rfl
          rw [hpw] at q2
          have hq : 0 ≤ (s.n : Int) % wd ∧ (s.n : Int) % wd < 16 := ⟨Int.emod_nonneg _ (by omega), by have := Int.emod_lt_of_pos (s.n : Int) (show 0 < wd by omega); omega⟩
          have r0 : ¬ wd = 0 := by omega
          have r1 : IntKind.i64.wrap (s.n : Int) = (s.n : Int) := IntWalk.i64_in _ (by omega)
          have r2 : Int.tmod (s.n : Int) wd = (s.steps : Int) - 6 := by
            rw [Int.tmod_eq_emod_of_nonneg (by omega)]
            omega
          have r3 : IntKind.i64.wrap (Int.tmod (s.n : Int) wd) = (s.steps : Int) - 6 := by rw [r2]; exact IntWalk.i64_in _ (by omega)
          have r3b : IntKind.i64.wrap ((s.steps : Int) - 6) = (s.steps : Int) - 6 := IntWalk.i64_in _ (by omega)
          have r4 : IntKind.i64.wrap (1 + ((s.steps : Int) - 6)) = (s.steps : Int) - 5 := by rw [show 1 + ((s.steps : Int) - 6) = (s.steps : Int) - 5 by omega]; exact IntWalk.i64_in _ (by omega)
          have r5 : IntKind.i64.wrap ((s.steps : Int) - 5 + 6) = (s.steps : Int) + 1 := by rw [show (s.steps : Int) - 5 + 6 = (s.steps : Int) + 1 by omega]; exact IntWalk.i64_in _ (by omega)
          have n1 : IntKind.i64.wrap ((s.steps : Int) + 1) = (s.steps : Int) + 1 := IntWalk.i64_in _ (by omega)
          have cw : wj.cell? ⟨kc.cg, kc.co + 3, none⟩ = some (.int .i64 wd) := (HL1.out.cell (p := ⟨kc.cg, kc.co + 3, none⟩) hlt).trans HK.out.words
          have lcg : kc.cg < wj.heap.size := by have := HL1.out.size; omega
          have e2 : (if (stepW p now s).w.pc ≤ 6 then Value.pointer (some ⟨W, 0, none⟩) else Value.pointer none) = .pointer none := if_neg (by rw [q1]; omega)
          have hmd2 : (stepW p now s).marked = s.n := hmd.trans q3
          have hwr2 : (stepW p now s).written = s.n := hwr
          have HE2 := Kp.mk e2
          have HMD := Kp.mk hmd2
          have HWR := Kp.mk hwr2
          have HE1 := Kp.mk e1
          clear e2 hmd hmd2 hwr hwr2 e1 hnd hdd hst1 q1 q2 q3 hcode hq hpw
          go_wp2_with fail
          go_quiet (fail)
          go_wp2
          go_ret
          refine ⟨rfl, W, g, dc, ?_, ?_, ?_, hpl, ?_, hzp⟩
          · rw [HE1.out, HE2.out, HMD.out, HWR.out]
            exact ((blk_set (blk_set (blk_drN (blk_set (blk_set HP1.out 15 _) 11 _)) 10 _) 7 _).trans (by simp only [ls0, ls1, ls2]; rfl))
          · exact (HD1.out.but (ButS.set (ButS.set (ButS.drN (ButS.set (ButS.set (ButS.refl [P] wj) (p := ⟨P, 15, none⟩) (by simp) _) (p := ⟨P, 11, none⟩) (by simp) _)) (p := ⟨P, 10, none⟩) (by simp) _) (p := ⟨P, 7, none⟩) (by simp) _) (by simp)).less (by simp)
          · exact (((below_drN ((HL1.out.setCell (p := ⟨P, 15, none⟩) hpl _).setCell (p := ⟨P, 11, none⟩) hpl _)).setCell (p := ⟨P, 10, none⟩) hpl _).setCell (p := ⟨P, 7, none⟩) hpl _)
          · exact (blk_set_ne (p := ⟨P, 7, none⟩) (blk_set_ne (p := ⟨P, 10, none⟩) (blk_drN (blk_set_ne (p := ⟨P, 11, none⟩) (blk_set_ne (p := ⟨P, 15, none⟩) HZ1.out hzp _) hzp _)) hzp _) hzp _)
      | false =>
        rw [hm] at t5 hmd
        cases hdn : d.done with
        | false =>
          rw [hdn] at t0 hwr
          obtain ⟨q1, q2⟩ := hnd hdn
          rw [hst1] at q2
          have n1 : IntKind.i64.wrap ((s.steps : Int) + 1) = (s.steps : Int) + 1 := IntWalk.i64_in _ (by omega)
          have n2 : (s.steps : Int) + 1 < 40 := by omega
          have e2 : (if (stepW p now s).w.pc ≤ 6 then Value.pointer (some ⟨W, 0, none⟩) else Value.pointer none) = .pointer (some ⟨W, 0, none⟩) := if_pos q1
          have hmd2 : (stepW p now s).marked = s.marked := hmd
          have hwr2 : (stepW p now s).written = s.written := hwr
          have HE2 := Kp.mk e2
          have HMD := Kp.mk hmd2
          have HWR := Kp.mk hwr2
          have HE1 := Kp.mk e1
          clear e2 hmd hmd2 hwr hwr2 e1 hnd hdd hst1 q1 q2 hcode
          go_wp2
          go_ret
          refine ⟨rfl, W, g, dc, ?_, ?_, ?_, hpl, ?_, hzp⟩
          · rw [HE1.out, HE2.out, HMD.out, HWR.out]
            exact ((blk_set HP1.out 15 _).trans (by simp only [ls0, ls1, ls2]; rfl))
          · exact (HD1.out.but (ButS.set (ButS.refl [P] wj) (p := ⟨P, 15, none⟩) (by simp) _) (by simp)).less (by simp)
          · exact (HL1.out.setCell (p := ⟨P, 15, none⟩) hpl _)
          · exact (blk_set_ne (p := ⟨P, 15, none⟩) HZ1.out hzp _)
        | true =>
          rw [hdn] at t0 hwr
          obtain ⟨q1, q2, q3⟩ := hdd hdn
          rw [hst1] at q2
          rw [hmd] at q3
          have hpw : p.words = wd := by rw [hp]; rfl
          rw [hpw] at q2
          have hq : 0 ≤ (s.n : Int) % wd ∧ (s.n : Int) % wd < 16 := ⟨Int.emod_nonneg _ (by omega), by have := Int.emod_lt_of_pos (s.n : Int) (show 0 < wd by omega); omega⟩
          have r0 : ¬ wd = 0 := by omega
          have r1 : IntKind.i64.wrap (s.n : Int) = (s.n : Int) := IntWalk.i64_in _ (by omega)
          have r2 : Int.tmod (s.n : Int) wd = (s.steps : Int) - 6 := by
            rw [Int.tmod_eq_emod_of_nonneg (by omega)]
            omega
          have r3 : IntKind.i64.wrap (Int.tmod (s.n : Int) wd) = (s.steps : Int) - 6 := by rw [r2]; exact IntWalk.i64_in _ (by omega)
          have r3b : IntKind.i64.wrap ((s.steps : Int) - 6) = (s.steps : Int) - 6 := IntWalk.i64_in _ (by omega)
          have r4 : IntKind.i64.wrap (1 + ((s.steps : Int) - 6)) = (s.steps : Int) - 5 := by rw [show 1 + ((s.steps : Int) - 6) = (s.steps : Int) - 5 by omega]; exact IntWalk.i64_in _ (by omega)
          have r5 : IntKind.i64.wrap ((s.steps : Int) - 5 + 6) = (s.steps : Int) + 1 := by rw [show (s.steps : Int) - 5 + 6 = (s.steps : Int) + 1 by omega]; exact IntWalk.i64_in _ (by omega)
          have n1 : IntKind.i64.wrap ((s.steps : Int) + 1) = (s.steps : Int) + 1 := IntWalk.i64_in _ (by omega)
          have hmn : (s.marked : Int) = (s.n : Int) := by simpa using congrArg (fun x : Nat => (x : Int)) q3
          have cw : wj.cell? ⟨kc.cg, kc.co + 3, none⟩ = some (.int .i64 wd) := (HL1.out.cell (p := ⟨kc.cg, kc.co + 3, none⟩) hlt).trans HK.out.words
          have lcg : kc.cg < wj.heap.size := by have := HL1.out.size; omega
          have e2 : (if (stepW p now s).w.pc ≤ 6 then Value.pointer (some ⟨W, 0, none⟩) else Value.pointer none) = .pointer none := if_neg (by rw [q1]; omega)
          have hmd2 : (stepW p now s).marked = s.n := hmd.trans q3
          have hwr2 : (stepW p now s).written = s.n := hwr
          have HE2 := Kp.mk e2
          have HMD := Kp.mk hmd2
          have HWR := Kp.mk hwr2
          have HE1 := Kp.mk e1
          have HMN := Kp.mk hmn
          clear e2 hmd hmd2 hwr hwr2 e1 hnd hdd hst1 q1 q2 q3 hcode hq hpw
          go_wp2_with fail
          go_quiet (fail)
          go_wp2
          go_ret
          refine ⟨rfl, W, g, dc, ?_, ?_, ?_, hpl, ?_, hzp⟩
          · rw [HE1.out, HE2.out, HMD.out, HWR.out, ← HMN.out]
            exact ((blk_set (blk_set (blk_drN (blk_set HP1.out 15 _)) 10 _) 7 _).trans (by simp only [ls0, ls1, ls2]; rfl))
          · exact (HD1.out.but (ButS.set (ButS.set (ButS.drN (ButS.set (ButS.refl [P] wj) (p := ⟨P, 15, none⟩) (by simp) _)) (p := ⟨P, 10, none⟩) (by simp) _) (p := ⟨P, 7, none⟩) (by simp) _) (by simp)).less (by simp)
          · exact (((below_drN (HL1.out.setCell (p := ⟨P, 15, none⟩) hpl _)).setCell (p := ⟨P, 10, none⟩) hpl _).setCell (p := ⟨P, 7, none⟩) hpl _)
          · exact (blk_set_ne (p := ⟨P, 7, none⟩) (blk_set_ne (p := ⟨P, 10, none⟩) (blk_drN (blk_set_ne (p := ⟨P, 15, none⟩) HZ1.out hzp _)) hzp _) hzp _)
end Go.Proofs.YtmidcnfmphlneaaGreat

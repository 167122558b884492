/- The play of layer 11: a writer that writes message after message, and a reader. -/
import Derived.Test.YtmidcnfmphlneaaGreatQ20
import Derived.Test.YtmidcnfmphlneaaGreatQ21
import Derived.Test.YtmidcnfmphlneaaGreatQ15
namespace Go.Proofs.YtmidcnfmphlneaaGreat
open Go.RowKit
set_option linter.unusedSimpArgs false
set_option linter.unusedVariables false
structure CfK where
  (pa : Option Addr) (pc cg co cc : Nat) (a0 : Option Addr) (c0 : Nat) (a1 : Option Addr) (c1 : Nat)
structure CfOk (w0 : World) (kc : CfK) (wd per : Int) : Prop where
  cfg : CfgAt w0 (.agg #[.slice kc.pa 2 kc.pc, .slice (some ⟨kc.cg, kc.co, none⟩) 1 kc.cc, .int .i64 1, .slice kc.a0 1 kc.c0, .int .i64 1, .slice kc.a1 1 kc.c1]) (two4 wd per)
  lt : kc.cg < w0.heap.size
  words : w0.cell? ⟨kc.cg, kc.co + 3, none⟩ = some (.int .i64 wd)
  w1 : 1 ≤ wd ∧ wd ≤ 16
  p1 : 0 ≤ per ∧ per ≤ 1048576
structure PlayAt (zk : Nat) (zc : Array Value) (zt : TypeId) (w0 w : World) (P B D W g dc R bs : Nat) (da : Option Addr) (dr : Nat) (kc : CfK) (p : Plc) (s : Sg) : Prop where
  blk : w.heap[P]? = some (.cells #[.slice kc.pa 2 kc.pc, .slice (some ⟨kc.cg, kc.co, none⟩) 1 kc.cc, .int .i64 1, .slice kc.a0 1 kc.c0, .int .i64 1, .slice kc.a1 1 kc.c1, .pointer (some ⟨B, 0, none⟩), if s.w.pc ≤ 6 then .pointer (some ⟨W, 0, none⟩) else .pointer none, if s.r.pc ≤ 5 then .pointer (some ⟨R, 0, none⟩) else .pointer none, .int .u32 (s.n : Int), .int .u32 (s.written : Int), .int .u32 (s.marked : Int), .int .u32 (s.begun : Int), .int .u32 (s.first : Int), .int .u32 (s.last : Int), .int .i64 (s.steps : Int), .int .i64 (s.own : Int)] 43 (0, 0))
  duo : Duo w [P, zk] w0.heap.size B D W g dc R bs da dr p s.ws s.w s.r
  low : Below w0.heap.size w0 w
  pl : w0.heap.size ≤ P
  zb : w.heap[zk]? = some (.cells zc zt (0, 0))
  zp : zk ≠ P
theorem Duo.al {w : World} {X : List Nat} {N0 B D W g dc R bs : Nat} {da : Option Addr} {dr : Nat} {p : Plc} {ws : List Int} {s : Wr} {r : Rdr} (h : Duo w X N0 B D W g dc R bs da dr p ws s r) (o : Obj) : Duo (w.alloc o) (w.heap.size :: X) N0 B D W g dc R bs da dr p ws s r := by
  have h' := h.below (below_al (Below.refl _ w) o)
  have lB := blk_lt h.mem.head
  have lD := blk_lt h.mem.words
  refine ⟨h'.mem, h.mb, ⟨?_, ?_⟩, h'.wr, fun e => ?_, h'.rd, fun e => ?_, h.wr2⟩
  · simp only [List.mem_cons, not_or]; exact ⟨by omega, h.mx.1⟩
  · simp only [List.mem_cons, not_or]; exact ⟨by omega, h.mx.2⟩
  · obtain ⟨b1, b2, b3, b4, b5⟩ := h.wb e
    have lW := blk_lt (h.wr e).blk
    have lg := (h.wr e).lt
    simp only [List.mem_cons, not_or] at b3 b4 ⊢
    exact ⟨b1, b2, ⟨b3.1, b3.2.1, by omega, b3.2.2⟩, ⟨b4.1, b4.2.1, by omega, b4.2.2⟩, b5⟩
  · obtain ⟨b0, b1, b2, b3, b4, b5⟩ := h.rb e
    have lR := blk_lt (h.rd e).blk
    have lo := own_lt (h.rd e).own
    simp only [List.mem_cons, not_or] at b4 b5 ⊢
    exact ⟨b0, b1, b2, b3, ⟨b4.1, b4.2.1, by omega, b4.2.2⟩, fun q hq => by have := b5 q hq; have := lo q hq; exact ⟨(b5 q hq).1, (b5 q hq).2.1, by omega, (b5 q hq).2.2⟩⟩
theorem Duo.less {w : World} {X X' : List Nat} {N0 B D W g dc R bs : Nat} {da : Option Addr} {dr : Nat} {p : Plc} {ws : List Int} {s : Wr} {r : Rdr} (h : Duo w X N0 B D W g dc R bs da dr p ws s r) (hs : ∀ k, k ∈ X' → k ∈ X) : Duo w X' N0 B D W g dc R bs da dr p ws s r := by
  have n1 : ∀ {b : Nat}, b ∉ B :: D :: X → b ∉ B :: D :: X' := fun hb hx => hb (by
    simp only [List.mem_cons] at hx ⊢
    rcases hx with e | e | e
    · exact .inl e
    · exact .inr (.inl e)
    · exact .inr (.inr (hs _ e)))
  exact ⟨h.mem, h.mb, ⟨fun hx => h.mx.1 (hs _ hx), fun hx => h.mx.2 (hs _ hx)⟩, h.wr, fun e => ⟨(h.wb e).1, (h.wb e).2.1, n1 (h.wb e).2.2.1, n1 (h.wb e).2.2.2.1, (h.wb e).2.2.2.2⟩, h.rd, fun e => ⟨(h.rb e).1, (h.rb e).2.1, (h.rb e).2.2.1, (h.rb e).2.2.2.1, n1 (h.rb e).2.2.2.2.1, fun q hq => n1 ((h.rb e).2.2.2.2.2 q hq)⟩, h.wr2⟩
theorem rep_set (x : Int) (k L : Nat) (h : k < L) : (List.replicate k x ++ List.replicate (L - k) 0).set k x = List.replicate (k + 1) x ++ List.replicate (L - (k + 1)) 0 := by
  rw [List.set_append_right _ _ (by simp), List.length_replicate, Nat.sub_self, show L - k = (L - (k + 1)) + 1 by omega, List.replicate_succ, List.set_cons_zero, List.replicate_succ', List.append_assoc]
  rfl
theorem rep_at (x : Int) (k L : Nat) (h : k < L) : (u32s (List.replicate k x ++ List.replicate (L - k) 0))[k]? = some (.int .u32 0) := by
  rw [u32s_at _ _ (by simp; omega), List.getElem_append_right (by simp)]
  simp
theorem blk_u32set {w : World} {G : Nat} {l : List Int} (h : w.heap[G]? = some (.cells (u32s l).toArray 41 (0, 0))) (k : Nat) (v : Int) : (w.setCell ⟨G, k, none⟩ (.int .u32 v)).heap[G]? = some (.cells (u32s (l.set k v)).toArray 41 (0, 0)) := by
  have h1 := blk_set h k (.int .u32 v)
  rwa [List.setIfInBounds_toArray, u32s_set] at h1
set_option maxRecDepth 100000 in
set_option maxHeartbeats 8000000 in
theorem begin_any {zk : Nat} {zc : Array Value} {zt : TypeId} {w0 : World} {P B D W g dc R bs : Nat} {da : Option Addr} {dr : Nat} {kc : CfK} {p : Plc} {s : Sg} {wd per : Int} (hk : CfOk w0 kc wd per) (hp : p = plc4 wd per) (hpc : 7 ≤ s.w.pc) (hn : s.n + 1 < 4294967296) (w : World) (h : PlayAt zk zc zt w0 w P B D W g dc R bs da dr kc p s) :
    Calls Tryz.prog 44 #[.pointer (some ⟨P, 0, none⟩)] w fun e w' => (∃ v, e = .returned v) ∧ ∃ W' g' dc', PlayAt zk zc zt w0 w' P B D W' g' dc' R bs da dr kc p (begW p s) := by
  obtain ⟨hblk, hduo, hlow, hpl, hzb, hzp⟩ := h
  have HZ0 := Kp.mk hzb
  have lz0 := blk_lt hzb
  rw [if_neg (by omega)] at hblk
  obtain ⟨rv, hrv⟩ : ∃ rv : Value, (if s.r.pc ≤ 5 then .pointer (some ⟨R, 0, none⟩) else .pointer none) = rv := ⟨_, rfl⟩
  rw [hrv] at hblk
  have HRV := Kp.mk hrv
  have HK := Kp.mk hk
  have hw1 := hk.w1
  have hlt := hk.lt
  have HP0 := Kp.mk hblk
  have HD0 := Kp.mk hduo
  have HL0 := Kp.mk hlow
  have lP := blk_lt hblk
  have l0 := hlow.size
  obtain ⟨L, hL⟩ : ∃ L : Nat, 1 + (s.n + 1) % wd.toNat = L := ⟨_, rfl⟩
  have hL16 : L ≤ 16 ∧ 1 ≤ L := by have := Nat.mod_lt (s.n + 1) (show 0 < wd.toNat by omega); omega
  have hrem : Int.tmod ((s.n : Int) + 1) wd = ((L : Int) - 1) := by
    rw [Int.tmod_eq_emod_of_nonneg (by omega)]
    have e : (((s.n + 1) % wd.toNat : Nat) : Int) = ((s.n : Int) + 1) % wd := by
      rw [Int.natCast_emod]
      congr 1
      omega
    omega
  have HLL := Kp.mk hL
  have m1 : ((s.n : Int) + 1) % 4294967296 = (s.n : Int) + 1 := by omega
  have m2 : IntKind.u32.wrap ((s.n : Int) + 1) = (s.n : Int) + 1 := IntWalk.u32_in _ (by omega)
  have m3 : IntKind.i64.wrap ((s.n : Int) + 1) = (s.n : Int) + 1 := IntWalk.i64_in _ (by omega)
  have m4 : IntKind.i64.wrap (Int.tmod ((s.n : Int) + 1) wd) = (L : Int) - 1 := by rw [hrem]; exact IntWalk.i64_in _ (by omega)
  have m5 : IntKind.i64.wrap (1 + ((L : Int) - 1)) = (L : Int) := by rw [show 1 + ((L : Int) - 1) = (L : Int) by omega]; exact IntWalk.i64_in _ (by omega)
  have m6 : (wd == 0) = false := by simp; omega
  have m8 : ¬ wd = 0 := by omega
  have m9 : IntKind.i64.wrap (L : Int) = (L : Int) := IntWalk.i64_in _ (by omega)
  have m7 : 1 + ((L : Int) - 1) = (L : Int) := by omega
  have cw : w.cell? ⟨kc.cg, kc.co + 3, none⟩ = some (.int .i64 wd) := (hlow.cell (p := ⟨kc.cg, kc.co + 3, none⟩) hlt).trans hk.words
  have hmk0 := fun w => run_make_row' (P := Tryz.prog) 44 41 (.int .u32 0) 4 Tryz.underlying44 Tryz.infoU32 rfl .i64 .i64 L (by omega) (by omega) w
  have hre : (madeCells #[Value.int .u32 0] L) = (u32s (List.replicate 0 ((s.n : Int) + 1) ++ List.replicate (L - 0) 0)).toArray := by rw [madeCells_rep]; simp [u32s]
  rw [hre] at hmk0
  have HMK := Kp.mk hmk0
  clear hblk hduo hlow hk hrv hre hL hmk0 hzb
  have c0 := cbk HP0.out 0 (.slice kc.pa 2 kc.pc) rfl
  have c1 := cbk HP0.out 1 (.slice (some ⟨kc.cg, kc.co, none⟩) 1 kc.cc) rfl
  have c2 := cbk HP0.out 2 (.int .i64 1) rfl
  have c3 := cbk HP0.out 3 (.slice kc.a0 1 kc.c0) rfl
  have c4 := cbk HP0.out 4 (.int .i64 1) rfl
  have c5 := cbk HP0.out 5 (.slice kc.a1 1 kc.c1) rfl
  have c6 := cbk HP0.out 6 (.pointer (some ⟨B, 0, none⟩)) rfl
  have c7 := cbk HP0.out 7 (.pointer none) rfl
  have c8 := cbk HP0.out 8 (rv) rfl
  have c9 := cbk HP0.out 9 (.int .u32 (s.n : Int)) rfl
  have c10 := cbk HP0.out 10 (.int .u32 (s.written : Int)) rfl
  have c11 := cbk HP0.out 11 (.int .u32 (s.marked : Int)) rfl
  have c12 := cbk HP0.out 12 (.int .u32 (s.begun : Int)) rfl
  have c13 := cbk HP0.out 13 (.int .u32 (s.first : Int)) rfl
  have c14 := cbk HP0.out 14 (.int .u32 (s.last : Int)) rfl
  have c15 := cbk HP0.out 15 (.int .i64 (s.steps : Int)) rfl
  have c16 := cbk HP0.out 16 (.int .i64 (s.own : Int)) rfl
  have cf9 := frozen_blk HP0.out 9
  go_enter Tryz.func44, Tryz.ntmps44
  go_wp2_with fail
  have HP1 : Kp ((w.setCell ⟨P, 9, none⟩ (.int .u32 ((s.n : Int) + 1))).heap[P]? = some (.cells #[.slice kc.pa 2 kc.pc, .slice (some ⟨kc.cg, kc.co, none⟩) 1 kc.cc, .int .i64 1, .slice kc.a0 1 kc.c0, .int .i64 1, .slice kc.a1 1 kc.c1, .pointer (some ⟨B, 0, none⟩), .pointer none, rv, .int .u32 ((s.n : Int) + 1), .int .u32 (s.written : Int), .int .u32 (s.marked : Int), .int .u32 (s.begun : Int), .int .u32 (s.first : Int), .int .u32 (s.last : Int), .int .i64 (s.steps : Int), .int .i64 (s.own : Int)] 43 (0, 0))) := ⟨(blk_set HP0.out 9 _).trans (by simp only [ls0, ls1, ls2])⟩
  have HD1 : Kp (Duo (w.setCell ⟨P, 9, none⟩ (.int .u32 ((s.n : Int) + 1))) [P, zk] w0.heap.size B D W g dc R bs da dr p s.ws s.w s.r) := ⟨HD0.out.but (ButS.set (ButS.refl [P] w) (p := ⟨P, 9, none⟩) (by simp) _) (by simp)⟩
  have HL1 : Kp (Below w0.heap.size w0 (w.setCell ⟨P, 9, none⟩ (.int .u32 ((s.n : Int) + 1)))) := ⟨HL0.out.setCell (p := ⟨P, 9, none⟩) hpl _⟩
  have HZ1 : Kp ((w.setCell ⟨P, 9, none⟩ (.int .u32 ((s.n : Int) + 1))).heap[zk]? = some (.cells zc zt (0, 0))) := ⟨blk_set_ne (p := ⟨P, 9, none⟩) HZ0.out hzp _⟩
  clear HZ0 HP0 HD0 HL0 cw cf9 c0 c1 c2 c3 c4 c5 c6 c7 c8 c9 c10 c11 c12 c13 c14 c15 c16
  generalize w.setCell ⟨P, 9, none⟩ (.int .u32 ((s.n : Int) + 1)) = w1 at HP1 HD1 HL1 HZ1 ⊢
  have lz1 := blk_lt HZ1.out
  have cw : w1.cell? ⟨kc.cg, kc.co + 3, none⟩ = some (.int .i64 wd) := (HL1.out.cell (p := ⟨kc.cg, kc.co + 3, none⟩) hlt).trans HK.out.words
  have lP1 := blk_lt HP1.out
  have l1 := HL1.out.size
  have lcg : kc.cg < w1.heap.size := by omega
  have hmk := HMK.out
  have c0 := cbk HP1.out 0 (.slice kc.pa 2 kc.pc) rfl
  have c1 := cbk HP1.out 1 (.slice (some ⟨kc.cg, kc.co, none⟩) 1 kc.cc) rfl
  have c2 := cbk HP1.out 2 (.int .i64 1) rfl
  have c3 := cbk HP1.out 3 (.slice kc.a0 1 kc.c0) rfl
  have c4 := cbk HP1.out 4 (.int .i64 1) rfl
  have c5 := cbk HP1.out 5 (.slice kc.a1 1 kc.c1) rfl
  have c6 := cbk HP1.out 6 (.pointer (some ⟨B, 0, none⟩)) rfl
  have c7 := cbk HP1.out 7 (.pointer none) rfl
  have c8 := cbk HP1.out 8 (rv) rfl
  have c9 := cbk HP1.out 9 (.int .u32 ((s.n : Int) + 1)) rfl
  have c10 := cbk HP1.out 10 (.int .u32 (s.written : Int)) rfl
  have c11 := cbk HP1.out 11 (.int .u32 (s.marked : Int)) rfl
  have c12 := cbk HP1.out 12 (.int .u32 (s.begun : Int)) rfl
  have c13 := cbk HP1.out 13 (.int .u32 (s.first : Int)) rfl
  have c14 := cbk HP1.out 14 (.int .u32 (s.last : Int)) rfl
  have c15 := cbk HP1.out 15 (.int .i64 (s.steps : Int)) rfl
  have c16 := cbk HP1.out 16 (.int .i64 (s.own : Int)) rfl
  refine held_start_gen (S := (fun w' : World => ButB (w1.heap.size) [] w1 w' ∧ ∀ bb o, bb < w1.heap.size → w'.cell? ⟨bb, o, none⟩ = w1.cell? ⟨bb, o, none⟩)) (by kernel_rfl) (fun wz : World => Kp (wz.heap[P]? = some (.cells #[.slice kc.pa 2 kc.pc, .slice (some ⟨kc.cg, kc.co, none⟩) 1 kc.cc, .int .i64 1, .slice kc.a0 1 kc.c0, .int .i64 1, .slice kc.a1 1 kc.c1, .pointer (some ⟨B, 0, none⟩), .pointer none, rv, .int .u32 ((s.n : Int) + 1), .int .u32 (s.written : Int), .int .u32 (s.marked : Int), .int .u32 (s.begun : Int), .int .u32 (s.first : Int), .int .u32 (s.last : Int), .int .i64 (s.steps : Int), .int .i64 (s.own : Int)] 43 (0, 0))) ∧ Kp (Duo wz [P, zk] w0.heap.size B D W g dc R bs da dr p s.ws s.w s.r) ∧ Kp (Below w0.heap.size w0 wz) ∧ Kp (wz.heap[zk]? = some (.cells zc zt (0, 0))) ∧ w1.heap.size ≤ wz.heap.size) ⟨⟨blk_dr HP1.out⟩, ⟨(HD1.out.below (below_dr (Below.refl _ _)))⟩, ⟨HL1.out.drew⟩, ⟨blk_dr HZ1.out⟩, Nat.le_refl _⟩ (sx_of0 (ButB.dr (ButB.refl _ (by omega)))) (fun wd0 hRn hHeld => ?_)
  clear HP1 HD1 HL1 HZ1
  obtain ⟨HP1, HD1, HL1, HZ1, hsz⟩ := hRn
  refine wtk 0 ?_ rfl (.inl ⟨by rfl, ?_⟩) ?_
  rotate_left 1
  · (intro w hSw; go_simp; try with_reducible rfl)
  try simp only [Act.put, ls0, ls1, ls2]
  refine wtk 1 ?_ rfl (.inl ⟨by rfl, ?_⟩) ?_
  rotate_left 1
  · (intro w hSw; go_simp; try with_reducible rfl)
  try simp only [Act.put, ls0, ls1, ls2]
  refine wtk 2 ?_ rfl (.inl ⟨by rfl, ?_⟩) ?_
  rotate_left 1
  · (intro w hSw; go_simp; try with_reducible rfl)
  try simp only [Act.put, ls0, ls1, ls2]
  refine wtk 3 ?_ rfl (.inl ⟨by rfl, ?_⟩) ?_
  rotate_left 1
  · (intro w hSw; go_simp; try with_reducible rfl)
  try simp only [Act.put, ls0, ls1, ls2]
  refine wtk 4 ?_ rfl (.inl ⟨by rfl, ?_⟩) ?_
  rotate_left 1
  · (intro w hSw; go_simp; try with_reducible rfl)
  try simp only [Act.put, ls0, ls1, ls2]
  refine wtk 5 ?_ rfl (.inl ⟨by rfl, ?_⟩) ?_
  rotate_left 1
  · (intro w hSw; go_simp; try with_reducible rfl)
  try simp only [Act.put, ls0, ls1, ls2]
  refine wtk 6 ?_ rfl (.inl ⟨by rfl, ?_⟩) ?_
  rotate_left 1
  · (intro w hSw; go_simp; try with_reducible rfl)
  try simp only [Act.put, ls0, ls1, ls2]
  refine wtk 7 ?_ rfl (.inl ⟨by rfl, ?_⟩) ?_
  rotate_left 1
  · (intro w hSw; go_simp; try with_reducible rfl)
  try simp only [Act.put, ls0, ls1, ls2]
  refine wtk 8 ?_ rfl (.inl ⟨by rfl, ?_⟩) ?_
  rotate_left 1
  · (intro w hSw; go_simp; try with_reducible rfl)
  try simp only [Act.put, ls0, ls1, ls2]
  refine wtk 9 ?_ rfl (.inl ⟨by rfl, ?_⟩) ?_
  rotate_left 1
  · (intro w hSw; go_simp; try with_reducible rfl)
  try simp only [Act.put, ls0, ls1, ls2]
  refine wtk 10 ?_ rfl (.inl ⟨by rfl, ?_⟩) ?_
  rotate_left 1
  · (intro w hSw; go_simp; try with_reducible rfl)
  try simp only [Act.put, ls0, ls1, ls2]
  refine wtk 11 ?_ rfl (.inl ⟨by rfl, ?_⟩) ?_
  rotate_left 1
  · (intro w hSw; go_simp; try with_reducible rfl)
  try simp only [Act.put, ls0, ls1, ls2]
  refine wtk 12 ?_ rfl (.inl ⟨by rfl, ?_⟩) ?_
  rotate_left 1
  · (intro w hSw; go_simp; try with_reducible rfl)
  try simp only [Act.put, ls0, ls1, ls2]
  refine wtk 13 ?_ rfl (.inl ⟨by rfl, ?_⟩) ?_
  rotate_left 1
  · (intro w hSw; go_simp; try with_reducible rfl)
  try simp only [Act.put, ls0, ls1, ls2]
  refine wtk 14 ?_ rfl (.inl ⟨by rfl, ?_⟩) ?_
  rotate_left 1
  · (intro w hSw; go_simp; try with_reducible rfl)
  try simp only [Act.put, ls0, ls1, ls2]
  refine wrd [15] ?_
  refine (arc rfl (fun K hK => ?_) arn)
  have ge_HG : w1.heap.size ≤ wd0.heap.size := (And.left hHeld).size
  go_simp
  try go_wp2_with fail
  refine out_gen hK _ _ (fun wz : World => Kp (wz.heap[P]? = some (.cells #[.slice kc.pa 2 kc.pc, .slice (some ⟨kc.cg, kc.co, none⟩) 1 kc.cc, .int .i64 1, .slice kc.a0 1 kc.c0, .int .i64 1, .slice kc.a1 1 kc.c1, .pointer (some ⟨B, 0, none⟩), .pointer none, rv, .int .u32 ((s.n : Int) + 1), .int .u32 (s.written : Int), .int .u32 (s.marked : Int), .int .u32 (s.begun : Int), .int .u32 (s.first : Int), .int .u32 (s.last : Int), .int .i64 (s.steps : Int), .int .i64 (s.own : Int)] 43 (0, 0))) ∧ Kp (Duo wz [wd0.heap.size, P, zk] w0.heap.size B D W g dc R bs da dr p s.ws s.w s.r) ∧ Kp (Below w0.heap.size w0 wz) ∧ Kp (wz.heap[zk]? = some (.cells zc zt (0, 0))) ∧ Kp (wz.heap[wd0.heap.size]? = some (.cells (u32s (List.replicate 0 ((s.n : Int) + 1) ++ List.replicate (L - 0) 0)).toArray 41 (0, 0))) ∧ wd0.heap.size < wz.heap.size) ⟨⟨blk_al HP1.out _⟩, ⟨HD1.out.al _⟩, ⟨(HL1.out.alloc HL1.out.size _)⟩, ⟨blk_al HZ1.out _⟩, ⟨blk_new wd0 _⟩, (by simp)⟩ (sx_of0 (ButB.al (And.left hHeld) _)) (fun wd1 hRn hHn => ?_)
  clear hK K hHeld HP1 HD1 HL1 HZ1
  obtain ⟨HP1, HD1, HL1, HZ1, HG, hsz1⟩ := hRn
  have hHeld := hHn
  clear hHn
  try simp only [Act.put, ls0, ls1, ls2]
  have lt_HG := blk_lt HG.out
  refine wtk 16 ?_ rfl (.inl ⟨by rfl, ?_⟩) ?_
  rotate_left 1
  · (intro w hSw; go_simp; try with_reducible rfl)
  try simp only [Act.put, ls0, ls1, ls2]
  refine wpAnyH_done (by kernel_rfl) ?_ _
  clear hHeld cw hmk c0 c1 c2 c3 c4 c5 c6 c7 c8 c9 c10 c11 c12 c13 c14 c15 c16
  have hG0 : w0.heap.size ≤ wd0.heap.size := by omega
  have hGP : P ≠ wd0.heap.size := by omega
  have hGz : zk ≠ wd0.heap.size := by omega
  obtain ⟨G, hG⟩ : ∃ G, wd0.heap.size = G := ⟨_, rfl⟩
  rw [hG] at HG HD1 hG0 hGP hGz lt_HG ge_HG ⊢
  clear hG
  go_wp2_with fail
  go_loopw [29] (fun i wr => ∃ k : Nat, k ≤ L ∧ i = .int .i64 k ∧ Kp (wr.heap[P]? = some (.cells #[.slice kc.pa 2 kc.pc, .slice (some ⟨kc.cg, kc.co, none⟩) 1 kc.cc, .int .i64 1, .slice kc.a0 1 kc.c0, .int .i64 1, .slice kc.a1 1 kc.c1, .pointer (some ⟨B, 0, none⟩), .pointer none, rv, .int .u32 ((s.n : Int) + 1), .int .u32 (s.written : Int), .int .u32 (s.marked : Int), .int .u32 (s.begun : Int), .int .u32 (s.first : Int), .int .u32 (s.last : Int), .int .i64 (s.steps : Int), .int .i64 (s.own : Int)] 43 (0, 0))) ∧ Kp (Duo wr [G, P, zk] w0.heap.size B D W g dc R bs da dr p s.ws s.w s.r) ∧ Kp (Below w0.heap.size w0 wr) ∧ Kp (wr.heap[zk]? = some (.cells zc zt (0, 0))) ∧ Kp (wr.heap[G]? = some (.cells (u32s (List.replicate k ((s.n : Int) + 1) ++ List.replicate (L - k) 0)).toArray 41 (0, 0)))) (fun i wr => L - (intOf i).toNat)
  case atStart => exact ⟨0, Nat.zero_le _, rfl, HP1, HD1, HL1, HZ1, HG⟩
  case round =>
    obtain ⟨k, hk, rfl, HP, HD, HL, HZ, HGk⟩ := hrel
    clear HP1 HD1 HL1 HZ1 HG
    by_cases hkl : k < L
    · have d9 := cbk HP.out 9 (.int .u32 ((s.n : Int) + 1)) rfl
      have dk : wr.cell? ⟨G, k, none⟩ = some (.int .u32 0) := (cell_blk HGk.out k).trans (by rw [List.getElem?_toArray]; exact rep_at _ k L hkl)
      have fk := frozen_blk HGk.out k
      have lG := blk_lt HGk.out
      have lPr := blk_lt HP.out
      have z1 : (0 : Int) ≤ (k : Int) := by omega
      have z2 : (k : Int) < (L : Int) := by omega
      have HG9 : Kp ((wr.setCell ⟨G, k, none⟩ (.int .u32 ((s.n : Int) + 1))).heap[G]? = some (.cells (u32s (List.replicate (k + 1) ((s.n : Int) + 1) ++ List.replicate (L - (k + 1)) 0)).toArray 41 (0, 0))) := ⟨by rw [← rep_set _ k L hkl]; exact blk_u32set HGk.out k _⟩
      have HP9 : Kp ((wr.setCell ⟨G, k, none⟩ (.int .u32 ((s.n : Int) + 1))).heap[P]? = some (.cells #[.slice kc.pa 2 kc.pc, .slice (some ⟨kc.cg, kc.co, none⟩) 1 kc.cc, .int .i64 1, .slice kc.a0 1 kc.c0, .int .i64 1, .slice kc.a1 1 kc.c1, .pointer (some ⟨B, 0, none⟩), .pointer none, rv, .int .u32 ((s.n : Int) + 1), .int .u32 (s.written : Int), .int .u32 (s.marked : Int), .int .u32 (s.begun : Int), .int .u32 (s.first : Int), .int .u32 (s.last : Int), .int .i64 (s.steps : Int), .int .i64 (s.own : Int)] 43 (0, 0))) := ⟨blk_set_ne (p := ⟨G, k, none⟩) HP.out hGP _⟩
      have HD9 : Kp (Duo (wr.setCell ⟨G, k, none⟩ (.int .u32 ((s.n : Int) + 1))) [G, P, zk] w0.heap.size B D W g dc R bs da dr p s.ws s.w s.r) := ⟨HD.out.but (ButS.set (ButS.refl [G] wr) (p := ⟨G, k, none⟩) (by simp) _) (by simp)⟩
      have HL9 : Kp (Below w0.heap.size w0 (wr.setCell ⟨G, k, none⟩ (.int .u32 ((s.n : Int) + 1)))) := ⟨HL.out.setCell (p := ⟨G, k, none⟩) hG0 _⟩
      have HZ9 : Kp ((wr.setCell ⟨G, k, none⟩ (.int .u32 ((s.n : Int) + 1))).heap[zk]? = some (.cells zc zt (0, 0))) := ⟨blk_set_ne (p := ⟨G, k, none⟩) HZ.out hGz _⟩
      clear HP HD HL HZ HGk
      go_wp2
      go_roundw
      case rel => exact ⟨k + 1, by omega, by go_num, HP9, HD9, HL9, HZ9, HG9⟩
      case measure => simp [intOf]; omega
    · obtain rfl : k = L := by omega
      have hmsg : List.replicate k ((s.n : Int) + 1) ++ List.replicate (k - k) 0 = msg p.words (s.n + 1) := by
        rw [Nat.sub_self, List.replicate_zero, List.append_nil, msg, hp]
        show _ = List.replicate (1 + (s.n + 1) % wd.toNat) _
        rw [HLL.out]; rfl
      have hlen : (msg p.words (s.n + 1)).length = k := by rw [msg_len, hp]; exact HLL.out
      have hgk := HGk.out
      rw [hmsg] at hgk
      have HG2 := Kp.mk hgk
      have HLEN := Kp.mk hlen
      have lG := blk_lt hgk
      have lZr := blk_lt HZ.out
      have lPr := blk_lt HP.out
      have d0 := cbk HP.out 0 (.slice kc.pa 2 kc.pc) rfl
      have d1 := cbk HP.out 1 (.slice (some ⟨kc.cg, kc.co, none⟩) 1 kc.cc) rfl
      have d2 := cbk HP.out 2 (.int .i64 1) rfl
      have d3 := cbk HP.out 3 (.slice kc.a0 1 kc.c0) rfl
      have d4 := cbk HP.out 4 (.int .i64 1) rfl
      have d5 := cbk HP.out 5 (.slice kc.a1 1 kc.c1) rfl
      clear hgk HGk hmsg hlen
      go_wp2_with fail
      have hcon := newW_two (.agg #[.slice kc.pa 2 kc.pc, .slice (some ⟨kc.cg, kc.co, none⟩) 1 kc.cc, .int .i64 1, .slice kc.a0 1 kc.c0, .int .i64 1, .slice kc.a1 1 kc.c1]) wd per HK.out.w1 HK.out.p1 (some ⟨G, 0, none⟩) k (msg p.words (s.n + 1)) (by rw [HLEN.out]; omega) (by rw [HLEN.out]; omega) wr (HK.out.cfg.below HL.out) (by rw [HLEN.out]; exact row_blk HG2.out rfl (by rw [u32s_len, HLEN.out, Nat.mul_one]) (by omega))
      rw [HLEN.out] at hcon
      refine hcon.mono ?_
      clear hcon
      rintro e w5 ⟨W', g', dc', rfl, hW, hb, hWl, hgl, hgW⟩
      have hsz5 : w0.heap.size ≤ wr.heap.size := HL.out.size
      have HP5 : Kp (w5.heap[P]? = some (.cells #[.slice kc.pa 2 kc.pc, .slice (some ⟨kc.cg, kc.co, none⟩) 1 kc.cc, .int .i64 1, .slice kc.a0 1 kc.c0, .int .i64 1, .slice kc.a1 1 kc.c1, .pointer (some ⟨B, 0, none⟩), .pointer none, rv, .int .u32 ((s.n : Int) + 1), .int .u32 (s.written : Int), .int .u32 (s.marked : Int), .int .u32 (s.begun : Int), .int .u32 (s.first : Int), .int .u32 (s.last : Int), .int .i64 (s.steps : Int), .int .i64 (s.own : Int)] 43 (0, 0))) := ⟨blk_below HP.out hb⟩
      have HL5 : Kp (Below w0.heap.size w0 w5) := ⟨HL.out.trans (hb.mono hsz5)⟩
      have HD5 : Kp (Duo w5 [P, zk] w0.heap.size B D W' g' dc' R bs da dr p s.ws (wr0 (msg p.words (s.n + 1))) s.r) := ⟨(Duo.newW (msg p.words (s.n + 1)) HD.out hsz5 (fun q hq => by simp only [List.mem_cons, List.not_mem_nil, or_false] at hq; omega) hb (hp ▸ hW.out) hWl hgl hgW).less (by simp)⟩
      have HZ5 : Kp (w5.heap[zk]? = some (.cells zc zt (0, 0))) := ⟨blk_below HZ.out hb⟩
      have lP5 := blk_lt HP5.out
      have e7 := cbk HP5.out 7 (.pointer none) rfl
      have e15 := cbk HP5.out 15 (.int .i64 (s.steps : Int)) rfl
      have ef7 := frozen_blk HP5.out 7
      have ef15 := frozen_blk HP5.out 15
      clear hW hb hWl hgl hgW HP HL HD HZ HG2 d0 d1 d2 d3 d4 d5
      go_wp2
      go_end0
      refine ⟨⟨_, rfl⟩, W', g', dc', ?_, ?_, ?_, hpl, ?_, hzp⟩
      · have e1 : (if (begW p s).r.pc ≤ 5 then Value.pointer (some ⟨R, 0, none⟩) else Value.pointer none) = rv := HRV.out
        have e2 : (if (begW p s).w.pc ≤ 6 then Value.pointer (some ⟨W', 0, none⟩) else Value.pointer none) = .pointer (some ⟨W', 0, none⟩) := if_pos (Nat.zero_le _)
        rw [e1, e2]
        exact ((blk_set (blk_set HP5.out 7 _) 15 _).trans (by simp only [ls0, ls1, ls2]; rfl))
      · exact HD5.out.but (ButS.set (ButS.set (ButS.refl [P] w5) (p := ⟨P, 7, none⟩) (by simp) _) (p := ⟨P, 15, none⟩) (by simp) _) (by simp)
      · exact (HL5.out.setCell (p := ⟨P, 7, none⟩) hpl _).setCell (p := ⟨P, 15, none⟩) hpl _
      · exact blk_set_ne (p := ⟨P, 15, none⟩) (blk_set_ne (p := ⟨P, 7, none⟩) HZ5.out hzp _) hzp _
end Go.Proofs.YtmidcnfmphlneaaGreat

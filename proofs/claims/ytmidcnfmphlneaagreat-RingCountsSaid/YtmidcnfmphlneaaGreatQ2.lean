/- Contracts of package defect: partitions with no window; the makers of rules. -/
import Derived.Test.YtmidcnfmphlneaaGreatQ1
import Derived.Laws.EntriesVeiled
namespace Go.Proofs.YtmidcnfmphlneaaGreat
open Go.RowKit
set_option linter.unusedSimpArgs false
set_option linter.unusedVariables false

def Cfg.small (C : Cfg) : Prop := C.parts.length ≤ 200 ∧ C.chans.length ≤ 200 ∧ C.w0.length ≤ 200 ∧ C.w1.length ≤ 200
def Cfg.winI (C : Cfg) (c : Int) : List Win := if c = 0 then C.w0 else C.w1
def idleB (C : Cfg) (i : Nat) : Bool := !inB (C.parts.getD i (0, 0)).1 0 1 || !((C.winI (C.parts.getD i (0, 0)).1).any fun x => x.part == (i : Int))
def idleK (C : Cfg) (k : Nat) : Bool := (List.range k).any (idleB C)
theorem idleK_succ (C : Cfg) (k : Nat) : idleK C (k + 1) = (idleK C k || idleB C k) := by rw [idleK, List.range_succ, List.any_append]; simp [idleK]
theorem idleK_mono {C : Cfg} {k : Nat} (h : idleK C k = true) (n : Nat) (hn : k ≤ n) : idleK C n = true := by
  simp only [idleK, List.any_eq_true, List.mem_range] at h ⊢
  obtain ⟨i, hi, hp⟩ := h
  exact ⟨i, by omega, hp⟩
theorem entersIdle1 : Enters 156 := enters_at Tryz.func156 (by kernel_rfl) rfl

set_option maxRecDepth 100000 in
set_option maxHeartbeats 4000000 in
theorem idle_any (cv : Value) (C : Cfg) (hsm : C.small) (w : World) (h : CfgAt w cv C) : Calls Tryz.prog 144 #[cv] w fun e w' => e = .returned (.bool (idleK C C.parts.length)) ∧ Below w.heap.size w w' := by
  obtain ⟨ho, pa, pc, ca, cc, a0, c0, a1, c1, rfl, bp, bc, b0, b1, hp, hc, hw0, hw1⟩ := h
  have HP := Kp.mk hp
  have HW0 := Kp.mk hw0
  have HW1 := Kp.mk hw1
  obtain ⟨hs1, hs2, hs3, hs4⟩ := hsm
  clear hp hc hw0 hw1
  go_enter Tryz.func144, Tryz.ntmps144
  go_wp2_with fail
  go_loopw [9] (fun i wr => ∃ k : Nat, k ≤ C.parts.length ∧ i = .int .i64 k ∧ Kp (Below w.heap.size w wr) ∧ Kp (wr.heap[w.heap.size]? = some (.cells #[.slice pa C.parts.length pc, .slice ca C.chans.length cc, .int .i64 C.l0, .slice a0 C.w0.length c0, .int .i64 C.l1, .slice a1 C.w1.length c1] 31 (0, 0))) ∧ Kp (idleK C k = false)) (fun i wr => C.parts.length - (intOf i).toNat)
  case atStart => exact ⟨0, Nat.zero_le _, rfl, ⟨below_al (Below.refl _ _) _⟩, ⟨blk_new w _⟩, ⟨rfl⟩⟩
  case round =>
    obtain ⟨k, hk, rfl, HB, HK, HN⟩ := hrel
    by_cases hlt : k < C.parts.length
    · obtain ⟨g, o, hpa, hg, hcc⟩ := HP.out.at (by omega)
      obtain ⟨x, hx⟩ : ∃ x, C.parts[k] = x := ⟨_, rfl⟩
      have hcu : ∀ j, j < 2 → wr.cell? ⟨g, o + k * 2 + j, none⟩ = (partC x)[j]? := fun j hj => by
        have h1 := hcc (k * 2 + j) (by omega)
        rw [flat_at partC 2 partC_len C.parts k j hlt hj, hx] at h1
        rw [Nat.add_assoc]
        exact (HB.out.cell (p := ⟨g, o + (k * 2 + j), none⟩) hg).trans h1
      have e0 : wr.cell? ⟨g, o + k * 2, none⟩ = some (.int .i64 x.1) := hcu 0 (by omega)
      have e1 : wr.cell? ⟨g, o + k * 2 + 1, none⟩ = some (.int .i64 x.2) := hcu 1 (by omega)
      have HI : Kp (idleB C k = (!inB x.1 0 1 || !((C.winI x.1).any fun y => y.part == (k : Int)))) := ⟨by
        rw [idleB, List.getD_eq_getElem?_getD, List.getElem?_eq_getElem hlt, Option.getD_some, hx]⟩
      have HS := Kp.mk (idleK_succ C k)
      have l0 := blk_lt HK.out
      obtain ⟨p1, p2⟩ := x
      dsimp only at e0 e1 HI
      subst hpa
      clear hcu hcc hx
      go_wp2_with fail
      have B1 : Below w.heap.size w ((wr.alloc (.cells #[.int .i64 (k : Int)] 3)).alloc (.cells #[.int .i64 p1, .int .i64 p2] 97)) := below_al (below_al HB.out _) _
      have K0 : ((wr.alloc (.cells #[.int .i64 (k : Int)] 3)).alloc (.cells #[.int .i64 p1, .int .i64 p2] 97)).heap[w.heap.size]? = some (.cells #[.slice (some ⟨g, o, none⟩) C.parts.length pc, .slice ca C.chans.length cc, .int .i64 C.l0, .slice a0 C.w0.length c0, .int .i64 C.l1, .slice a1 C.w1.length c1] 31 (0, 0)) := blk_al (blk_al HK.out _) _
      have K1 : ((wr.alloc (.cells #[.int .i64 (k : Int)] 3)).alloc (.cells #[.int .i64 p1, .int .i64 p2] 97)).heap[wr.heap.size]? = some (.cells #[.int .i64 (k : Int)] 3 (0, 0)) := blk_al (blk_new wr _) _
      have K2 : ((wr.alloc (.cells #[.int .i64 (k : Int)] 3)).alloc (.cells #[.int .i64 p1, .int .i64 p2] 97)).heap[wr.heap.size + 1]? = some (.cells #[.int .i64 p1, .int .i64 p2] 97 (0, 0)) := blk_at (by simp) _
      have HB1 := Kp.mk B1
      have HK0 := Kp.mk K0
      have HK1 := Kp.mk K1
      have HK2 := Kp.mk K2
      clear B1 K0 K1 K2 e0 e1
      generalize ((wr.alloc (.cells #[.int .i64 (k : Int)] 3)).alloc (.cells #[.int .i64 p1, .int .i64 p2] 97)) = W1 at HB1 HK0 HK1 HK2 ⊢
      generalize wr.heap.size = Bp at HK1 HK2 ⊢
      have f0 : W1.cell? ⟨Bp + 1, 0, none⟩ = some (.int .i64 p1) := (cell_blk HK2.out 0).trans rfl
      by_cases hc : inB p1 0 1 = true
      · go_wp2_with fail
        refine (within_any p1 0 1 true hc _).mono ?_
        rintro e w2 ⟨rfl, hb2⟩
        have HB2 := Kp.mk (below_call HB1.out hb2)
        have M0 := Kp.mk (blk_below HK0.out hb2)
        have M1 := Kp.mk (blk_below HK1.out hb2)
        have M2 := Kp.mk (blk_below HK2.out hb2)
        have f1 : w2.cell? ⟨Bp + 1, 0, none⟩ = some (.int .i64 p1) := (cell_blk M2.out 0).trans rfl
        have f2 : w2.cell? ⟨w.heap.size, 3, none⟩ = some (.slice a0 C.w0.length c0) := (cell_blk M0.out 3).trans rfl
        have f3 : w2.cell? ⟨w.heap.size, 5, none⟩ = some (.slice a1 C.w1.length c1) := (cell_blk M0.out 5).trans rfl
        have m1 := blk_lt M1.out
        have m2 := blk_lt M2.out
        have hcc := inB_iff.1 hc
        have HC := Kp.mk hc
        clear hb2 f0 hc
        have HCON : ∀ l : List Win, Kp (∀ w3, Below w2.heap.size w2 w3 → ∀ y ∈ l, Calls Tryz.prog 156 (#[.agg #[.int .i64 y.part, .int .i64 y.start, .int .i64 y.len]] ++ #[.pointer (some ⟨Bp, 0, none⟩)]) w3 fun e w' => e = .returned (.bool ((fun y : Win => y.part == (k : Int)) y)) ∧ Below w3.heap.size w3 w') := fun l => ⟨fun w3 hb3 y _ => idle1_any y Bp k w3 ((cell_blk (blk_below M1.out hb3) 0).trans rfl) (blk_lt (blk_below M1.out hb3))⟩
        by_cases hz : p1 = 0
        · subst hz
          have HI2 : Kp (idleB C k = !(C.w0.any fun y => y.part == (k : Int))) := ⟨by rw [HI.out, HC.out]; rfl⟩
          obtain ⟨d, hd⟩ : ∃ d, (C.w0.any fun y => y.part == (k : Int)) = d := ⟨_, rfl⟩
          rw [hd] at HI2
          have HD := Kp.mk hd
          clear hd hcc
          go_wp2_with fail
          refine (winContains_any C.w0 a0 c0 156 #[.pointer (some ⟨Bp, 0, none⟩)] (fun y => y.part == (k : Int)) d HD.out _ (HW0.out.below HB2.out) hs3 entersIdle1 (HCON C.w0).out).mono ?_
          rintro e w3 ⟨rfl, hb3⟩
          have HB3 := Kp.mk (below_call HB2.out hb3)
          have N0 := Kp.mk (blk_below M0.out hb3)
          clear hb3
          cases d with
          | true =>
            have HN1 : Kp (idleK C (k + 1) = false) := ⟨by rw [HS.out, HN.out, HI2.out]; rfl⟩
            go_wp2
            go_roundw
            case rel => exact ⟨k + 1, by omega, by go_num, HB3, N0, HN1⟩
            case measure => simp [intOf]; omega
          | false =>
            have HT : Kp (idleK C C.parts.length = true) := ⟨idleK_mono (k := k + 1) (by rw [HS.out, HI2.out]; simp) _ (by omega)⟩
            go_wp2
            go_ret
            exact ⟨ret_bool HT.out.symm, HB3.out⟩
        · obtain rfl : p1 = 1 := by omega
          have HI2 : Kp (idleB C k = !(C.w1.any fun y => y.part == (k : Int))) := ⟨by rw [HI.out, HC.out]; rfl⟩
          obtain ⟨d, hd⟩ : ∃ d, (C.w1.any fun y => y.part == (k : Int)) = d := ⟨_, rfl⟩
          rw [hd] at HI2
          have HD := Kp.mk hd
          clear hd hcc
          go_wp2_with fail
          refine (winContains_any C.w1 a1 c1 156 #[.pointer (some ⟨Bp, 0, none⟩)] (fun y => y.part == (k : Int)) d HD.out _ (HW1.out.below HB2.out) hs4 entersIdle1 (HCON C.w1).out).mono ?_
          rintro e w3 ⟨rfl, hb3⟩
          have HB3 := Kp.mk (below_call HB2.out hb3)
          have N0 := Kp.mk (blk_below M0.out hb3)
          clear hb3
          cases d with
          | true =>
            have HN1 : Kp (idleK C (k + 1) = false) := ⟨by rw [HS.out, HN.out, HI2.out]; rfl⟩
            go_wp2
            go_roundw
            case rel => exact ⟨k + 1, by omega, by go_num, HB3, N0, HN1⟩
            case measure => simp [intOf]; omega
          | false =>
            have HT : Kp (idleK C C.parts.length = true) := ⟨idleK_mono (k := k + 1) (by rw [HS.out, HI2.out]; simp) _ (by omega)⟩
            go_wp2
            go_ret
            exact ⟨ret_bool HT.out.symm, HB3.out⟩
      · rw [Bool.not_eq_true] at hc
        have HT : Kp (idleK C C.parts.length = true) := ⟨idleK_mono (k := k + 1) (by rw [HS.out, HI.out, hc]; simp) _ (by omega)⟩
        go_wp2_with fail
        refine (within_any p1 0 1 false hc _).mono ?_
        rintro e w2 ⟨rfl, hb2⟩
        have HB2 := Kp.mk (below_call HB1.out hb2)
        clear hb2
        go_wp2
        go_ret
        exact ⟨ret_bool HT.out.symm, HB2.out⟩
    · obtain rfl : k = C.parts.length := by omega
      go_wp2
      go_ret
      exact ⟨ret_bool HN.out.symm, HB.out⟩

/-! The makers of rules: what a closure does, in every world that came of the one in which it was made. -/
def FV (fn : FuncId) (caps : Array Value) : Value := .func (.func fn) #[] caps
/-- These blocks are as they were. -/
def KeepB (bs : List Nat) (w w1 : World) : Prop := ∀ b, b ∈ bs → w1.heap[b]? = w.heap[b]?
theorem KeepB.of_below {bs : List Nat} {w w1 : World} (h : ∀ b, b ∈ bs → b < w.heap.size) (hb : Below w.heap.size w w1) : KeepB bs w w1 := fun b hm => hb.block b (h b hm)
/-- The types of the boxes that closures catch. -/
def CLT : List TypeId := [175, 177, 148, 181]
def OwnB (w : World) (b : Nat) : Prop := ∃ c t, t ∈ CLT ∧ w.heap[b]? = some (.cells c t (0, 0))
theorem OwnB.lt {w : World} {b : Nat} (h : OwnB w b) : b < w.heap.size := by
  obtain ⟨c, t, _, h⟩ := h
  exact blk_lt h
theorem OwnB.below {w w1 : World} {b : Nat} (h : OwnB w b) (hb : Below w.heap.size w w1) : OwnB w1 b := by
  obtain ⟨c, t, h1, h⟩ := h
  exact ⟨c, t, h1, blk_below h hb⟩
/-- A rule: for each configuration that lies in memory, whether it holds; bs: the blocks of what it caught. -/
def RuleB (bs : List Nat) (w : World) (f : Value) (p : Cfg → Bool) : Prop := (∀ b, b ∈ bs → OwnB w b) ∧ ∃ fn caps, f = .func (.func fn) #[] caps ∧ Enters fn ∧
  ∀ w1 cv C, KeepB bs w w1 → CfgAt w1 cv C → C.small → Calls Tryz.prog fn (#[cv] ++ caps) w1 fun e w' => e = .returned (.bool (p C)) ∧ Below w1.heap.size w1 w'
def RuleOk (w : World) (f : Value) (p : Cfg → Bool) : Prop := ∃ bs, RuleB bs w f p
theorem RuleOk.below {w w1 : World} {f : Value} {p : Cfg → Bool} (h : RuleOk w f p) (hb : Below w.heap.size w w1) : RuleOk w1 f p := by
  obtain ⟨bs, h0, fn, caps, h1, h2, h3⟩ := h
  exact ⟨bs, fun b hm => (h0 b hm).below hb, fn, caps, h1, h2, fun w2 cv C hb2 => h3 w2 cv C (fun b hm => (hb2 b hm).trans (hb.block b (h0 b hm).lt))⟩
theorem entersPart1 : Enters 145 := enters_at Tryz.func145 (by kernel_rfl) rfl
theorem entersChan1 : Enters 147 := enters_at Tryz.func147 (by kernel_rfl) rfl
theorem entersChan11 : Enters 149 := enters_at Tryz.func149 (by kernel_rfl) rfl
theorem entersFrame1 : Enters 150 := enters_at Tryz.func150 (by kernel_rfl) rfl
theorem entersWin1 : Enters 151 := enters_at Tryz.func151 (by kernel_rfl) rfl
theorem entersWin11 : Enters 153 := enters_at Tryz.func153 (by kernel_rfl) rfl

set_option maxHeartbeats 1000000 in
theorem part1_any (fn : FuncId) (p : Int × Int → Bool) (hE : Enters fn) (hf : ∀ (x : Int × Int) (w : World), Calls Tryz.prog fn #[.agg #[.int .i64 x.1, .int .i64 x.2]] w fun e w' => e = .returned (.bool (p x)) ∧ Below w.heap.size w w')
    (cv : Value) (C : Cfg) (hsm : C.small) (b : Nat) (w : World) (h : CfgAt w cv C) (hb : w.heap[b]? = some (.cells #[.func (.func fn) #[] #[]] 175 (0, 0))) :
    Calls Tryz.prog 145 #[cv, .pointer (some ⟨b, 0, none⟩)] w fun e w' => e = .returned (.bool (C.parts.any p)) ∧ Below w.heap.size w w' := by
  obtain ⟨ho, pa, pc, ca, cc, a0, c0, a1, c1, rfl, bp, bc, b0, b1, hp, hc, hw0, hw1⟩ := h
  have HP := Kp.mk hp
  have HF := Kp.mk hf
  have k0 : w.cell? ⟨b, 0, none⟩ = some (.func (.func fn) #[] #[]) := (cell_blk hb 0).trans rfl
  have l0 := blk_lt hb
  have hs1 := hsm.1
  clear hp hc hw0 hw1 hf hb
  go_enter Tryz.func145, Tryz.ntmps145
  go_wp2_with fail
  refine (partContains_any C.parts pa pc fn #[] p _ rfl _ (HP.out.below (by repeat (first | exact Below.refl _ _ | apply below_al))) hs1 hE (fun w1 _ x _ => HF.out x w1)).mono ?_
  rintro e w1 ⟨rfl, hb1⟩
  go_wp2
  go_ret
  exact ⟨rfl, below_call (by repeat (first | exact Below.refl _ _ | apply below_al)) hb1⟩


set_option maxHeartbeats 1000000 in
theorem part_any (fn : FuncId) (p : Int × Int → Bool) (hE : Enters fn) (hf : ∀ (x : Int × Int) (w : World), Calls Tryz.prog fn #[.agg #[.int .i64 x.1, .int .i64 x.2]] w fun e w' => e = .returned (.bool (p x)) ∧ Below w.heap.size w w') (w : World) :
    Calls Tryz.prog 122 #[.func (.func fn) #[] #[]] w fun e w' => ∃ f nb, e = .returned (.agg #[f]) ∧ Below w.heap.size w w' ∧ w.heap.size ≤ nb ∧ Kp (RuleB (nb :: []) w' f (fun C => C.parts.any p)) := by
  have HF := Kp.mk hf
  clear hf
  go_enter Tryz.func122, Tryz.ntmps122
  go_wp2
  have r0 : ((w.alloc (.cells #[.func (.func fn) #[] #[]] 175)).alloc (.cells #[.func (.func 145) #[] #[.pointer (some ⟨w.heap.size, 0, none⟩)]] 172)).heap[w.heap.size + 1]? = some (.cells #[.func (.func 145) #[] #[.pointer (some ⟨w.heap.size, 0, none⟩)]] 172 (0, 0)) := blk_at (w := w.alloc (.cells #[.func (.func fn) #[] #[]] 175)) (by simp) _
  refine bodyPost_ret (v := .agg #[.func (.func 145) #[] #[.pointer (some ⟨w.heap.size, 0, none⟩)]]) (results_cell_row rfl _ _ _ _ _ _ _ rfl r0 Tryz.underlying172 rfl (by kernel_rfl)) rfl ⟨_, w.heap.size, rfl, (by repeat (first | exact Below.refl _ _ | apply below_al)), Nat.le_refl _, ⟨fun b hm => by simp only [List.mem_cons, List.not_mem_nil, or_false] at hm; subst hm; exact ⟨_, _, (by decide), blk_al (blk_new w _) _⟩, 145, #[.pointer (some ⟨w.heap.size, 0, none⟩)], rfl, entersPart1, fun w1 cv C hb1 hcfg hsm => part1_any fn p hE HF.out cv C hsm w.heap.size w1 hcfg ((hb1 w.heap.size (by simp)).trans (blk_al (blk_new w _) _))⟩⟩

set_option maxHeartbeats 1000000 in
theorem channel11_any (fn : FuncId) (p : Cfg → Chn → Bool) (hE : Enters fn) (hf : ∀ (cv : Value) (C : Cfg) (x : Chn) (w : World), CfgAt w cv C → Calls Tryz.prog fn #[cv, .agg #[.int .i64 x.kind, .int .i64 x.frm, .int .i64 x.to, .int .i64 x.words, .int .i64 x.depth, .int .i64 x.period, .int .u32 x.boot]] w fun e w' => e = .returned (.bool (p C x)) ∧ Below w.heap.size w w') (C : Cfg) (x : Chn) (b cb : Nat) (cs : Array Value) (w : World) (h : CfgAt w (.agg cs) C) (hb : w.heap[b]? = some (.cells #[.func (.func fn) #[] #[]] 177 (0, 0))) (hcb : w.heap[cb]? = some (.cells cs 31 (0, 0))) :
    Calls Tryz.prog 149 #[.agg #[.int .i64 x.kind, .int .i64 x.frm, .int .i64 x.to, .int .i64 x.words, .int .i64 x.depth, .int .i64 x.period, .int .u32 x.boot], .pointer (some ⟨b, 0, none⟩), .pointer (some ⟨cb, 0, none⟩)] w fun e w' => e = .returned (.bool (p C x)) ∧ Below w.heap.size w w' := by
  have HC := Kp.mk h
  obtain ⟨ho, pa, pc, ca, cc, a0, c0, a1, c1, hcs, bp, bc, b0, b1, hp, hc, hw0, hw1⟩ := h
  simp only [Value.agg.injEq] at hcs
  subst hcs
  have HF := Kp.mk hf
  have hE' := hE.out
  have k0 : w.cell? ⟨b, 0, none⟩ = some (.func (.func fn) #[] #[]) := (cell_blk hb 0).trans rfl
  have e0 : w.cell? ⟨cb, 0, none⟩ = some (.slice pa C.parts.length pc) := (cell_blk hcb 0).trans rfl
  have e1 : w.cell? ⟨cb, 1, none⟩ = some (.slice ca C.chans.length cc) := (cell_blk hcb 1).trans rfl
  have e2 : w.cell? ⟨cb, 2, none⟩ = some (.int .i64 C.l0) := (cell_blk hcb 2).trans rfl
  have e3 : w.cell? ⟨cb, 3, none⟩ = some (.slice a0 C.w0.length c0) := (cell_blk hcb 3).trans rfl
  have e4 : w.cell? ⟨cb, 4, none⟩ = some (.int .i64 C.l1) := (cell_blk hcb 4).trans rfl
  have e5 : w.cell? ⟨cb, 5, none⟩ = some (.slice a1 C.w1.length c1) := (cell_blk hcb 5).trans rfl
  have l0 := blk_lt hb
  have l1 := blk_lt hcb
  clear hp hc hw0 hw1 hf hb hcb hE
  go_enter Tryz.func149, Tryz.ntmps149
  go_wp2_with fail
  refine (HF.out _ C x _ (HC.out.below (by repeat (first | exact Below.refl _ _ | apply below_al)))).mono ?_
  rintro e w1 ⟨rfl, hb1⟩
  go_wp2
  go_ret
  exact ⟨rfl, below_call (by repeat (first | exact Below.refl _ _ | apply below_al)) hb1⟩

set_option maxHeartbeats 1000000 in
theorem channel1_any (fn : FuncId) (p : Cfg → Chn → Bool) (hE : Enters fn) (hf : ∀ (cv : Value) (C : Cfg) (x : Chn) (w : World), CfgAt w cv C → Calls Tryz.prog fn #[cv, .agg #[.int .i64 x.kind, .int .i64 x.frm, .int .i64 x.to, .int .i64 x.words, .int .i64 x.depth, .int .i64 x.period, .int .u32 x.boot]] w fun e w' => e = .returned (.bool (p C x)) ∧ Below w.heap.size w w') (cv : Value) (C : Cfg) (hsm : C.small) (b : Nat) (w : World) (h : CfgAt w cv C) (hb : w.heap[b]? = some (.cells #[.func (.func fn) #[] #[]] 177 (0, 0))) :
    Calls Tryz.prog 147 #[cv, .pointer (some ⟨b, 0, none⟩)] w fun e w' => e = .returned (.bool (C.chans.any (p C))) ∧ Below w.heap.size w w' := by
  have HC := Kp.mk h
  obtain ⟨ho, pa, pc, ca, cc, a0, c0, a1, c1, rfl, bp, bc, b0, b1, hp, hc, hw0, hw1⟩ := h
  have HP := Kp.mk hc
  have HF := Kp.mk hf
  have HBK := Kp.mk hb
  have l0 := blk_lt hb
  have hs2 := hsm.2.1
  clear hp hc hw0 hw1 hf hb
  go_enter Tryz.func147, Tryz.ntmps147
  go_wp2_with fail
  refine (chanContains_any C.chans ca cc 149 #[.pointer (some ⟨b, 0, none⟩), .pointer (some ⟨w.heap.size, 0, none⟩)] (p C) _ rfl _ (HP.out.below (by repeat (first | exact Below.refl _ _ | apply below_al))) hs2 entersChan11 (fun w1 hb1 x _ => channel11_any fn p hE HF.out C x b w.heap.size _ w1 (HC.out.below (below_call (by repeat (first | exact Below.refl _ _ | apply below_al)) hb1)) (blk_below (blk_al HBK.out _) hb1) (blk_below (blk_new w _) hb1))).mono ?_
  rintro e w1 ⟨rfl, hb1⟩
  go_wp2
  go_ret
  exact ⟨rfl, below_call (by repeat (first | exact Below.refl _ _ | apply below_al)) hb1⟩

set_option maxHeartbeats 1000000 in
theorem channel_any (fn : FuncId) (p : Cfg → Chn → Bool) (hE : Enters fn) (hf : ∀ (cv : Value) (C : Cfg) (x : Chn) (w : World), CfgAt w cv C → Calls Tryz.prog fn #[cv, .agg #[.int .i64 x.kind, .int .i64 x.frm, .int .i64 x.to, .int .i64 x.words, .int .i64 x.depth, .int .i64 x.period, .int .u32 x.boot]] w fun e w' => e = .returned (.bool (p C x)) ∧ Below w.heap.size w w') (w : World) :
    Calls Tryz.prog 126 #[.func (.func fn) #[] #[]] w fun e w' => ∃ f nb, e = .returned (.agg #[f]) ∧ Below w.heap.size w w' ∧ w.heap.size ≤ nb ∧ Kp (RuleB (nb :: []) w' f (fun C => C.chans.any (p C))) := by
  have HF := Kp.mk hf
  clear hf
  go_enter Tryz.func126, Tryz.ntmps126
  go_wp2
  have r0 : ((w.alloc (.cells #[.func (.func fn) #[] #[]] 177)).alloc (.cells #[.func (.func 147) #[] #[.pointer (some ⟨w.heap.size, 0, none⟩)]] 172)).heap[w.heap.size + 1]? = some (.cells #[.func (.func 147) #[] #[.pointer (some ⟨w.heap.size, 0, none⟩)]] 172 (0, 0)) := blk_at (w := w.alloc (.cells #[.func (.func fn) #[] #[]] 177)) (by simp) _
  refine bodyPost_ret (v := .agg #[.func (.func 147) #[] #[.pointer (some ⟨w.heap.size, 0, none⟩)]]) (results_cell_row rfl _ _ _ _ _ _ _ rfl r0 Tryz.underlying172 rfl (by kernel_rfl)) rfl ⟨_, w.heap.size, rfl, (by repeat (first | exact Below.refl _ _ | apply below_al)), Nat.le_refl _, ⟨fun b hm => by simp only [List.mem_cons, List.not_mem_nil, or_false] at hm; subst hm; exact ⟨_, _, (by decide), blk_al (blk_new w _) _⟩, 147, #[.pointer (some ⟨w.heap.size, 0, none⟩)], rfl, entersChan1, fun w1 cv C hb1 hcfg hsm => channel1_any fn p hE HF.out cv C hsm w.heap.size w1 hcfg ((hb1 w.heap.size (by simp)).trans (blk_al (blk_new w _) _))⟩⟩

set_option maxHeartbeats 1000000 in
theorem frame1_any (fn : FuncId) (caps : Array Value) (p : Cfg → Bool → Bool) (hE : Enters fn) (cv : Value) (C : Cfg) (hsm : C.small) (b : Nat) (bs : List Nat) (w : World) (hbs : ∀ b, b ∈ bs → b < w.heap.size) (hf : ∀ w1, KeepB bs w w1 → ∀ (cv : Value) (C : Cfg) (core : Bool), CfgAt w1 cv C → C.small → Calls Tryz.prog fn (#[cv, .int .i64 (cI core)] ++ caps) w1 fun e w' => e = .returned (.bool (p C core)) ∧ Below w1.heap.size w1 w') (h : CfgAt w cv C) (hb : w.heap[b]? = some (.cells #[.func (.func fn) #[] caps] 148 (0, 0))) :
    Calls Tryz.prog 150 #[cv, .pointer (some ⟨b, 0, none⟩)] w fun e w' => e = .returned (.bool (p C false || p C true)) ∧ Below w.heap.size w w' := by
  have HC := Kp.mk h
  obtain ⟨ho, pa, pc, ca, cc, a0, c0, a1, c1, rfl, bp, bc, b0, b1, hp, hc, hw0, hw1⟩ := h
  have HF0 : Kp (∀ w1, KeepB bs w w1 → ∀ (cv : Value) (C : Cfg), CfgAt w1 cv C → C.small → Calls Tryz.prog fn (#[cv, .int .i64 0] ++ caps) w1 fun e w' => e = .returned (.bool (p C false)) ∧ Below w1.heap.size w1 w') := ⟨fun w1 h1 cv C => hf w1 h1 cv C false⟩
  have HF1 : Kp (∀ w1, KeepB bs w w1 → ∀ (cv : Value) (C : Cfg), CfgAt w1 cv C → C.small → Calls Tryz.prog fn (#[cv, .int .i64 1] ++ caps) w1 fun e w' => e = .returned (.bool (p C true)) ∧ Below w1.heap.size w1 w') := ⟨fun w1 h1 cv C => hf w1 h1 cv C true⟩
  have HBK := Kp.mk hb
  have k0 : w.cell? ⟨b, 0, none⟩ = some (.func (.func fn) #[] caps) := (cell_blk hb 0).trans rfl
  have l0 := blk_lt hb
  have hE' := hE.out
  have HBS := Kp.mk hbs
  clear hp hc hw0 hw1 hf hb hE hbs
  obtain ⟨d0, hd0⟩ : ∃ d, p C false = d := ⟨_, rfl⟩
  obtain ⟨d1, hd1⟩ : ∃ d, p C true = d := ⟨_, rfl⟩
  rw [hd0, hd1]
  go_enter Tryz.func150, Tryz.ntmps150
  go_wp2_with fail
  refine (HF0.out _ (KeepB.of_below HBS.out (by repeat (first | exact Below.refl _ _ | apply below_al))) _ C (HC.out.below (by repeat (first | exact Below.refl _ _ | apply below_al))) hsm).mono ?_
  rw [hd0]
  rintro e w1 ⟨rfl, hb1⟩
  have HB1 : Kp (Below w.heap.size w w1) := ⟨below_call (by repeat (first | exact Below.refl _ _ | apply below_al)) hb1⟩
  have K0 : w1.heap[w.heap.size]? = some (.cells #[.slice pa C.parts.length pc, .slice ca C.chans.length cc, .int .i64 C.l0, .slice a0 C.w0.length c0, .int .i64 C.l1, .slice a1 C.w1.length c1] 31 (0, 0)) := blk_below (blk_new w _) hb1
  have e0 : w1.cell? ⟨w.heap.size, 0, none⟩ = some (.slice pa C.parts.length pc) := (cell_blk K0 0).trans rfl
  have e1 : w1.cell? ⟨w.heap.size, 1, none⟩ = some (.slice ca C.chans.length cc) := (cell_blk K0 1).trans rfl
  have e2 : w1.cell? ⟨w.heap.size, 2, none⟩ = some (.int .i64 C.l0) := (cell_blk K0 2).trans rfl
  have e3 : w1.cell? ⟨w.heap.size, 3, none⟩ = some (.slice a0 C.w0.length c0) := (cell_blk K0 3).trans rfl
  have e4 : w1.cell? ⟨w.heap.size, 4, none⟩ = some (.int .i64 C.l1) := (cell_blk K0 4).trans rfl
  have e5 : w1.cell? ⟨w.heap.size, 5, none⟩ = some (.slice a1 C.w1.length c1) := (cell_blk K0 5).trans rfl
  have l1 := blk_lt K0
  have k1 : w1.cell? ⟨b, 0, none⟩ = some (.func (.func fn) #[] caps) := (cell_blk (blk_below HBK.out HB1.out) 0).trans rfl
  clear hb1 K0 k0
  cases d0 with
  | true =>
    go_wp2
    go_ret
    exact ⟨rfl, HB1.out⟩
  | false =>
    go_wp2_with fail
    refine (HF1.out _ (KeepB.of_below HBS.out HB1.out) _ C (HC.out.below HB1.out) hsm).mono ?_
    rw [hd1]
    rintro e w2 ⟨rfl, hb2⟩
    go_wp2
    go_ret
    exact ⟨rfl, below_call HB1.out hb2⟩

set_option maxHeartbeats 1000000 in
theorem frame_any (fn : FuncId) (caps : Array Value) (p : Cfg → Bool → Bool) (hE : Enters fn) (bs : List Nat) (w : World) (hbs : ∀ b, b ∈ bs → OwnB w b) (hf : ∀ w1, KeepB bs w w1 → ∀ (cv : Value) (C : Cfg) (core : Bool), CfgAt w1 cv C → C.small → Calls Tryz.prog fn (#[cv, .int .i64 (cI core)] ++ caps) w1 fun e w' => e = .returned (.bool (p C core)) ∧ Below w1.heap.size w1 w') :
    Calls Tryz.prog 137 #[.func (.func fn) #[] caps] w fun e w' => ∃ f nb, e = .returned (.agg #[f]) ∧ Below w.heap.size w w' ∧ w.heap.size ≤ nb ∧ Kp (RuleB (nb :: bs) w' f (fun C => p C false || p C true)) := by
  have HF := Kp.mk hf
  clear hf
  go_enter Tryz.func137, Tryz.ntmps137
  go_wp2
  have r0 : ((w.alloc (.cells #[.func (.func fn) #[] caps] 148)).alloc (.cells #[.func (.func 150) #[] #[.pointer (some ⟨w.heap.size, 0, none⟩)]] 172)).heap[w.heap.size + 1]? = some (.cells #[.func (.func 150) #[] #[.pointer (some ⟨w.heap.size, 0, none⟩)]] 172 (0, 0)) := blk_at (w := w.alloc (.cells #[.func (.func fn) #[] caps] 148)) (by simp) _
  refine bodyPost_ret (v := .agg #[.func (.func 150) #[] #[.pointer (some ⟨w.heap.size, 0, none⟩)]]) (results_cell_row rfl _ _ _ _ _ _ _ rfl r0 Tryz.underlying172 rfl (by kernel_rfl)) rfl ⟨_, w.heap.size, rfl, (by repeat (first | exact Below.refl _ _ | apply below_al)), Nat.le_refl _, ⟨fun b hm => by simp only [List.mem_cons] at hm; rcases hm with hm | hm; (subst hm; exact ⟨_, _, (by decide), blk_al (blk_new w _) _⟩); (exact (hbs b hm).below (below_al (below_al (Below.refl _ w) _) _)), 150, #[.pointer (some ⟨w.heap.size, 0, none⟩)], rfl, entersFrame1, fun w1 cv C hb1 hcfg hsm => frame1_any fn caps p hE cv C hsm w.heap.size bs w1 (fun b hm => blk_lt ((hb1 b (by simp [hm])).trans (blk_al (blk_al (Array.getElem?_eq_getElem (hbs b hm).lt) _) _))) (fun w2 hb2 => HF.out w2 (fun b hm => (hb2 b hm).trans ((hb1 b (by simp [hm])).trans ((below_al (below_al (Below.refl _ w) _) _).block b (hbs b hm).lt)))) hcfg ((hb1 w.heap.size (by simp)).trans (blk_al (blk_new w _) _))⟩⟩

set_option maxHeartbeats 1000000 in
theorem window11_any (fn : FuncId) (p : Cfg → Bool → Win → Bool) (hE : Enters fn) (hf : ∀ (cv : Value) (C : Cfg) (core : Bool) (x : Win) (w : World), CfgAt w cv C → Calls Tryz.prog fn #[cv, .int .i64 (cI core), .agg #[.int .i64 x.part, .int .i64 x.start, .int .i64 x.len]] w fun e w' => e = .returned (.bool (p C core x)) ∧ Below w.heap.size w w') (C : Cfg) (core : Bool) (x : Win) (b cb kb : Nat) (cs : Array Value) (w : World) (h : CfgAt w (.agg cs) C) (hb : w.heap[b]? = some (.cells #[.func (.func fn) #[] #[]] 181 (0, 0))) (hcb : w.heap[cb]? = some (.cells cs 31 (0, 0))) (hkb : w.heap[kb]? = some (.cells #[.int .i64 (cI core)] 3 (0, 0))) :
    Calls Tryz.prog 153 #[.agg #[.int .i64 x.part, .int .i64 x.start, .int .i64 x.len], .pointer (some ⟨b, 0, none⟩), .pointer (some ⟨cb, 0, none⟩), .pointer (some ⟨kb, 0, none⟩)] w fun e w' => e = .returned (.bool (p C core x)) ∧ Below w.heap.size w w' := by
  have HC := Kp.mk h
  obtain ⟨ho, pa, pc, ca, cc, a0, c0, a1, c1, hcs, bp, bc, b0, b1, hp, hc, hw0, hw1⟩ := h
  simp only [Value.agg.injEq] at hcs
  subst hcs
  have HF := Kp.mk hf
  have hE' := hE.out
  have k0 : w.cell? ⟨b, 0, none⟩ = some (.func (.func fn) #[] #[]) := (cell_blk hb 0).trans rfl
  have e0 : w.cell? ⟨cb, 0, none⟩ = some (.slice pa C.parts.length pc) := (cell_blk hcb 0).trans rfl
  have e1 : w.cell? ⟨cb, 1, none⟩ = some (.slice ca C.chans.length cc) := (cell_blk hcb 1).trans rfl
  have e2 : w.cell? ⟨cb, 2, none⟩ = some (.int .i64 C.l0) := (cell_blk hcb 2).trans rfl
  have e3 : w.cell? ⟨cb, 3, none⟩ = some (.slice a0 C.w0.length c0) := (cell_blk hcb 3).trans rfl
  have e4 : w.cell? ⟨cb, 4, none⟩ = some (.int .i64 C.l1) := (cell_blk hcb 4).trans rfl
  have e5 : w.cell? ⟨cb, 5, none⟩ = some (.slice a1 C.w1.length c1) := (cell_blk hcb 5).trans rfl
  have k1 : w.cell? ⟨kb, 0, none⟩ = some (.int .i64 (cI core)) := (cell_blk hkb 0).trans rfl
  have l0 := blk_lt hb
  have l1 := blk_lt hcb
  have l2 := blk_lt hkb
  clear hp hc hw0 hw1 hf hb hcb hE hkb
  go_enter Tryz.func153, Tryz.ntmps153
  go_wp2_with fail
  refine (HF.out _ C core x _ (HC.out.below (by repeat (first | exact Below.refl _ _ | apply below_al)))).mono ?_
  rintro e w1 ⟨rfl, hb1⟩
  go_wp2
  go_ret
  exact ⟨rfl, below_call (by repeat (first | exact Below.refl _ _ | apply below_al)) hb1⟩

set_option maxHeartbeats 1000000 in
theorem window1_any (fn : FuncId) (p : Cfg → Bool → Win → Bool) (hE : Enters fn) (hf : ∀ (cv : Value) (C : Cfg) (core : Bool) (x : Win) (w : World), CfgAt w cv C → Calls Tryz.prog fn #[cv, .int .i64 (cI core), .agg #[.int .i64 x.part, .int .i64 x.start, .int .i64 x.len]] w fun e w' => e = .returned (.bool (p C core x)) ∧ Below w.heap.size w w') (cv : Value) (C : Cfg) (core : Bool) (hsm : C.small) (b : Nat) (w : World) (h : CfgAt w cv C) (hb : w.heap[b]? = some (.cells #[.func (.func fn) #[] #[]] 181 (0, 0))) :
    Calls Tryz.prog 151 #[cv, .int .i64 (cI core), .pointer (some ⟨b, 0, none⟩)] w fun e w' => e = .returned (.bool ((C.win core).any (p C core))) ∧ Below w.heap.size w w' := by
  have HC := Kp.mk h
  obtain ⟨ho, pa, pc, ca, cc, a0, c0, a1, c1, rfl, bp, bc, b0, b1, hp, hc, hw0, hw1⟩ := h
  have HW0 := Kp.mk hw0
  have HW1 := Kp.mk hw1
  have HF := Kp.mk hf
  have HBK := Kp.mk hb
  have l0 := blk_lt hb
  have hs3 := hsm.2.2.1
  have hs4 := hsm.2.2.2
  clear hp hc hw0 hw1 hf hb
  cases core
  · change Calls Tryz.prog 151 #[_, .int .i64 0, _] w _
    go_enter Tryz.func151, Tryz.ntmps151
    go_wp2_with fail
    refine (winContains_any C.w0 a0 c0 153 #[.pointer (some ⟨b, 0, none⟩), .pointer (some ⟨w.heap.size, 0, none⟩), .pointer (some ⟨w.heap.size + 1, 0, none⟩)] (p C false) _ rfl _ (HW0.out.below (by repeat (first | exact Below.refl _ _ | apply below_al))) hs3 entersWin11 (fun w1 hb1 x _ => window11_any fn p hE HF.out C false x b w.heap.size (w.heap.size + 1) _ w1 (HC.out.below (below_call (by repeat (first | exact Below.refl _ _ | apply below_al)) hb1)) (blk_below (blk_al (blk_al HBK.out _) _) hb1) (blk_below (blk_al (blk_new w _) _) hb1) (blk_below (blk_at (by simp) _) hb1))).mono ?_
    rintro e w1 ⟨rfl, hb1⟩
    go_wp2
    go_ret
    exact ⟨rfl, below_call (by repeat (first | exact Below.refl _ _ | apply below_al)) hb1⟩
  · change Calls Tryz.prog 151 #[_, .int .i64 1, _] w _
    go_enter Tryz.func151, Tryz.ntmps151
    go_wp2_with fail
    refine (winContains_any C.w1 a1 c1 153 #[.pointer (some ⟨b, 0, none⟩), .pointer (some ⟨w.heap.size, 0, none⟩), .pointer (some ⟨w.heap.size + 1, 0, none⟩)] (p C true) _ rfl _ (HW1.out.below (by repeat (first | exact Below.refl _ _ | apply below_al))) hs4 entersWin11 (fun w1 hb1 x _ => window11_any fn p hE HF.out C true x b w.heap.size (w.heap.size + 1) _ w1 (HC.out.below (below_call (by repeat (first | exact Below.refl _ _ | apply below_al)) hb1)) (blk_below (blk_al (blk_al HBK.out _) _) hb1) (blk_below (blk_al (blk_new w _) _) hb1) (blk_below (blk_at (by simp) _) hb1))).mono ?_
    rintro e w1 ⟨rfl, hb1⟩
    go_wp2
    go_ret
    exact ⟨rfl, below_call (by repeat (first | exact Below.refl _ _ | apply below_al)) hb1⟩

set_option maxHeartbeats 1000000 in
theorem window_any (fn : FuncId) (p : Cfg → Bool → Win → Bool) (hE : Enters fn) (hf : ∀ (cv : Value) (C : Cfg) (core : Bool) (x : Win) (w : World), CfgAt w cv C → Calls Tryz.prog fn #[cv, .int .i64 (cI core), .agg #[.int .i64 x.part, .int .i64 x.start, .int .i64 x.len]] w fun e w' => e = .returned (.bool (p C core x)) ∧ Below w.heap.size w w') (w : World) :
    Calls Tryz.prog 140 #[.func (.func fn) #[] #[]] w fun e w' => ∃ f, e = .returned (.agg #[f]) ∧ Below w.heap.size w w' ∧ Kp (RuleOk w' f (fun C => (C.w0).any (p C false) || (C.w1).any (p C true))) := by
  have HF := Kp.mk hf
  clear hf
  go_enter Tryz.func140, Tryz.ntmps140
  go_wp2_with fail
  refine (frame_any 151 #[.pointer (some ⟨w.heap.size, 0, none⟩)] (fun C core => (C.win core).any (p C core)) entersWin1 [w.heap.size] _ (fun b hm => by simp only [List.mem_cons, List.not_mem_nil, or_false] at hm; subst hm; exact ⟨_, _, (by decide), blk_al (blk_new w _) _⟩) (fun w1 hb1 cv C core hcfg hsm => window1_any fn p hE HF.out cv C core hsm w.heap.size w1 hcfg ((hb1 w.heap.size (by simp)).trans (blk_al (blk_new w _) _)))).mono ?_
  rintro e w1 ⟨f, nb, rfl, hb1, hnb, hr1⟩
  have k0 : w1.heap[w.heap.size + 1]? = some (.cells #[.nilFunc] 172 (0, 0)) := blk_below (blk_at (by simp) _) hb1
  have HB1 : Kp (Below w.heap.size w w1) := ⟨below_call (by repeat (first | exact Below.refl _ _ | apply below_al)) hb1⟩
  have c0 : w1.cell? ⟨w.heap.size + 1, 0, none⟩ = some .nilFunc := (cell_blk k0 0).trans rfl
  have f0 : w1.frozen? ⟨w.heap.size + 1, 0, none⟩ = false := frozen_blk k0 0
  obtain ⟨hbs, fn1, caps1, rfl, hE1, hr⟩ := hr1.out
  have HR1 := Kp.mk hr
  have K0 := Kp.mk k0
  have HBS := Kp.mk hbs
  have HNB : Kp (w.heap.size + 1 + 1 ≤ nb) := ⟨by simpa using hnb⟩
  clear hb1 hr hr1 k0 hbs hnb
  go_wp2
  have r0 : (w1.setCell ⟨w.heap.size + 1, 0, none⟩ (.func (.func fn1) #[] caps1)).heap[w.heap.size + 1]? = some (.cells #[.func (.func fn1) #[] caps1] 172 (0, 0)) := (blk_set K0.out 0 _).trans rfl
  refine bodyPost_ret (v := .agg #[.func (.func fn1) #[] caps1]) (results_cell_row rfl _ _ _ _ _ _ _ rfl r0 Tryz.underlying172 rfl (by kernel_rfl)) rfl ⟨_, rfl, HB1.out.setCell (by simp) _, ⟨nb :: [w.heap.size], fun b hm => by
    obtain ⟨c, t, h1, h2⟩ := HBS.out b hm
    refine ⟨c, t, h1, blk_set_ne h2 (p := ⟨w.heap.size + 1, 0, none⟩) ?_ _⟩
    have h3 := HNB.out
    simp only [List.mem_cons, List.not_mem_nil, or_false] at hm
    rcases hm with rfl | rfl
    · simp; omega
    · simp, fn1, caps1, rfl, hE1, fun w2 cv C hb2 hcfg hsm => HR1.out w2 cv C (fun b hm => (hb2 b hm).trans (Below.heap_setCell w1 _ _ b (by
    have h2 := HNB.out
    simp at hm
    rcases hm with rfl | rfl
    · simp; omega
    · simp))) hcfg hsm⟩⟩
end Go.Proofs.YtmidcnfmphlneaaGreat

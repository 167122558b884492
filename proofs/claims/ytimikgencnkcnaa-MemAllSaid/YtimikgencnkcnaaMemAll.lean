/- The law MemAll of layer 2: its walk. -/
import Derived.Test.YtimikgencnkcnaaMemIter
import Derived.Test.YtimikgencnkcnaaSame2
import Derived.Test.YtimikgencnkcnaaMemOthers
import Derived.RangeFuncNested
import Derived.RangeFuncBound
import Derived.RangeFuncCalls
import Derived.RangeFuncLeaves
import Derived.Shelf.Abstract
import Derived.Shelf.RegionOpen
import Derived.WalkKit
import Derived.OwnWalkIn
import Derived.TacticsInMore
import Derived.LoopNIn
import Derived.LoopIn
namespace Go.Proofs.Ytimikgencnkcnaa
open Go.RowKit
set_option linter.unusedSimpArgs false
set_option linter.unusedVariables false
open Go.Shelf
attribute [local go_sem] Oper.semAt_some
/-- All blocks that stood lie as they lay, but one. -/
structure But1 (b : Nat) (W0 W : World) : Prop where
  os : W.os = W0.os
  tape : W.tape = W0.tape
  output : W.output = W0.output
  size : W0.heap.size ≤ W.heap.size
  block : ∀ k, k < W0.heap.size → k ≠ b → W.heap[k]? = W0.heap[k]?
theorem But1.refl (b : Nat) (W : World) : But1 b W W := ⟨rfl, rfl, rfl, Nat.le_refl _, fun _ _ _ => rfl⟩
theorem But1.blk {b k : Nat} {W0 W : World} {o : Obj} (h : But1 b W0 W) (hk : W0.heap[k]? = some o) (hne : k ≠ b) : W.heap[k]? = some o := (h.block k (blk_lt hk) hne).trans hk
theorem But1.calm {b B : Nat} {W0 W W' : World} {row : Option Nat} (h : But1 b W0 W) (hB : W0.heap.size ≤ B) (hg : W.grownBy W' row) (hr : ∀ r, row = some r → B ≤ r ∧ ∃ o : Obj, W.heap[r]? = some o ∧ o.isCells = false) : But1 b W0 W' :=
  ⟨hg.os.trans h.os, hg.tape.trans h.tape, hg.output.trans h.output, Nat.le_trans h.size hg.size, fun k hk hne => (hg.block k (by have := h.size; omega) fun e => by have := (hr k e.symm).1; omega).trans (h.block k hk hne)⟩
theorem But1.set {b : Nat} {W0 W : World} (h : But1 b W0 W) (o : Nat) (v : Value) : But1 b W0 (W.setCell ⟨b, o, none⟩ v) :=
  ⟨h.os, h.tape, h.output, by simpa [World.setCell] using h.size, fun k hk hne => (Below.heap_setCell W ⟨b, o, none⟩ v k hne).trans (h.block k hk hne)⟩
theorem But1.below {b B : Nat} {w W0 W : World} (h : But1 b W0 W) (hb : Below B w W0) (hB : B ≤ b) (hs : B ≤ W0.heap.size) : Below B w W :=
  ⟨h.os.trans hb.os, h.tape.trans hb.tape, h.output.trans hb.output, Nat.le_trans hb.size h.size, fun k hk => (h.block k (by omega) (by omega)).trans (hb.block k hk)⟩
theorem MemAt.but {b B D : Nat} {W0 W : World} {ws : List Int} (h : MemAt W0 B D ws) (hb : But1 b W0 W) (h1 : B ≠ b) (h2 : D ≠ b) : MemAt W B D ws := ⟨hb.blk h.head h1, hb.blk h.words h2, h.len⟩

/-- Between two rounds: as many are told as have come, no more than are asked for; nothing else has turned. -/
def TellI (W0 : World) (bt st : Nat) (pre : List (Int × Int)) (W : World) : Prop := But1 bt W0 W ∧ W.heap[bt]? = some (.cells #[.int .i64 pre.length] 3 (0, 0)) ∧ pre.length ≤ st
/-- A round has left: as many are told as are asked for; or one that is not the next one has come. -/
def TellX (W0 : World) (bt st : Nat) (ws : List Int) (c : Code) (pre : List (Int × Int)) (W : World) : Prop :=
  ∃ p0 x, pre = p0 ++ [x] ∧ ((c = .exit 2 ∧ TellI W0 bt st p0 W ∧ st ≤ p0.length) ∨ (c = .ret ∧ ¬ (x.1 = (p0.length : Int) ∧ p0.length < ws.length ∧ ws[p0.length]? = some x.2)))
theorem tellI_calm {W0 W W' : World} {bt st B : Nat} {pre : List (Int × Int)} {row : Option Nat} (h : TellI W0 bt st pre W) (hB : W0.heap.size ≤ B) (hg : W.grownBy W' row) (hr : ∀ r, row = some r → B ≤ r ∧ ∃ o : Obj, W.heap[r]? = some o ∧ o.isCells = false) : TellI W0 bt st pre W' :=
  ⟨h.1.calm hB hg hr, blk_calm h.2.1 hg hr, h.2.2⟩
theorem tellX_calm {W0 W W' : World} {bt st B : Nat} {ws : List Int} {c : Code} {pre : List (Int × Int)} {row : Option Nat} (h : TellX W0 bt st ws c pre W) (hB : W0.heap.size ≤ B) (hg : W.grownBy W' row) (hr : ∀ r, row = some r → B ≤ r ∧ ∃ o : Obj, W.heap[r]? = some o ∧ o.isCells = false) : TellX W0 bt st ws c pre W' := by
  obtain ⟨p0, x, h1, ⟨h2, h3, h4⟩ | h2⟩ := h
  · exact ⟨p0, x, h1, .inl ⟨h2, tellI_calm h3 hB hg hr, h4⟩⟩
  · exact ⟨p0, x, h1, .inr h2⟩

set_option maxRecDepth 100000 in
set_option maxHeartbeats 4000000 in
theorem memAll_core (n : Nat) (hn : n ≤ 255) (a : Option Addr) (c cap : Nat) (X Y : Nat → Int) (st : Nat) (hst : st ≤ 255) (w0 : World) (hcap : c ≤ cap) (hcm : cap ≤ 9223372036854775807) (h : PairsAt .u64 .u32 w0 a c X Y) (hX : ∀ i, i < c → 0 ≤ X i) :
    Calls Try.prog 12 #[.int .u8 n, .slice a c cap, .int .u8 st] w0 fun e w' => e = .returned (.bool true) ∧ Below w0.heap.size w0 w' := by
  have HX := Kp.mk hX
  have bk0 := Kp.mk (blk_al (blk_new w0 (.cells #[.int .u8 (st : Int)] 5)) (.cells #[.bool false] 4))
  have bk1 := Kp.mk (blk_at (w := w0.alloc (.cells #[.int .u8 (st : Int)] 5)) (n := w0.heap.size + 1) (by simp) (.cells #[.bool false] 4))
  have hbw : Below w0.heap.size w0 ((w0.alloc (.cells #[.int .u8 (st : Int)] 5)).alloc (.cells #[.bool false] 4)) := below_al (below_al (Below.refl _ _) _) _
  have HH := Kp.mk (h.below hbw)
  have HW := Kp.mk hbw
  have hwlt : w0.heap.size + 1 < ((w0.alloc (.cells #[.int .u8 (st : Int)] 5)).alloc (.cells #[.bool false] 4)).heap.size := by simp
  have HLT := Kp.mk hwlt
  clear h hbw hwlt hX
  refine (callsIn_wide (n := 3)).1 (callsIn_of_wp_marks Try.func12 rfl trivial (wpIn_wide.2 ?_) rfl)
  simp only [Try.ntmps12, List.size_toArray, List.length_cons, List.length_nil, Nat.reduceAdd, Nat.reduceSub, Array.replicate_succ, Array.replicate_zero, List.push_toArray, List.append_toArray, List.nil_append, List.cons_append]
  go_wp2_with fail
  generalize hw : ((w0.alloc (.cells #[.int .u8 (st : Int)] 5)).alloc (.cells #[.bool false] 4)) = w at bk0 bk1 HH HW HLT ⊢
  clear hw
  refine (memWakes _).mono ?_
  rintro e w1 ⟨rfl, hb⟩
  have HBa := Kp.mk hb
  have bka := Kp.mk (blk_below bk1.out hb)
  clear hb
  by_cases hbig : 200 < c
  · have c1 : w1.cell? ⟨w0.heap.size + 1, 0, none⟩ = some (.bool false) := (cell_blk bka.out 0).trans rfl
    have f1 : w1.frozen? ⟨w0.heap.size + 1, 0, none⟩ = false := frozen_blk bka.out 0
    go_wp2
    exact ⟨.bool true, by simp [results, Try.f12, go_sem, c1], rfl, (below_call HW.out HBa.out).setCell (p := ⟨w0.heap.size + 1, 0, none⟩) (by simp) _⟩
  go_wp2_with fail
  refine (memNew_any n (by omega) _).mono ?_
  rintro e w2 ⟨B, D, rfl, HM0, hb2, hB, hD⟩
  have HB0 := Kp.mk (below_call HBa.out hb2)
  have hlo : w.heap.size ≤ w1.heap.size := HBa.out.size
  have hD' : w.heap.size ≤ D := Nat.le_trans hlo hD
  have hB' : w.heap.size ≤ B := Nat.le_trans hlo hB
  clear hb2 HBa bka
  go_wp2_with fail
  go_loopw [37] (fun i wr => ∃ k : Nat, k ≤ c ∧ i = .int .i64 k ∧ Kp (Below w.heap.size w wr) ∧ Kp (MemAt wr B D (storeL n X Y k))) (fun i wr => c - (intOf i).toNat)
  case atStart => exact ⟨0, Nat.zero_le _, rfl, HB0, HM0⟩
  case round =>
    obtain ⟨k, hk, rfl, HB, HM⟩ := hrel
    by_cases hlt : k < c
    · rcases HH.out with h0 | ⟨b, o, rfl, hb, hc⟩
      · omega
      obtain ⟨q, hq⟩ := Int.eq_ofNat_of_zero_le (HX.out k hlt)
      have c0 : wr.cell? ⟨b, o + k * 2, none⟩ = some (.int .u64 (q : Int)) := by rw [← hq]; exact (HB.out.cell (p := ⟨b, _, none⟩) hb).trans (hc k hlt).1
      have c1 : wr.cell? ⟨b, o + k * 2 + 1, none⟩ = some (.int .u32 (Y k)) := (HB.out.cell (p := ⟨b, _, none⟩) hb).trans (hc k hlt).2
      have HQ := Kp.mk hq
      have HL := Kp.mk (storeL_len n X Y k)
      clear hc hq
      have HMa := Kp.mk (HM.out.al (.cells #[.int .u64 (q : Int), .int .u32 (Y k)] 46))
      have HBa := Kp.mk (below_al HB.out (.cells #[.int .u64 (q : Int), .int .u32 (Y k)] 46))
      by_cases hin : q < n
      · go_wp2_with fail
        refine (memStore_in B D (storeL n X Y k) q (Y k) (by rw [HL.out]; exact hin) _ HMa.out).mono ?_
        rintro e w3 ⟨rfl, rfl⟩
        have HM3 := Kp.mk (HMa.out.set q (Y k))
        have HB3 := Kp.mk (HBa.out.setCell (p := ⟨D, q, none⟩) hD' (.int .u32 (Y k)))
        generalize (wr.alloc (.cells #[.int .u64 (q : Int), .int .u32 (Y k)] 46)).setCell ⟨D, q, none⟩ (.int .u32 (Y k)) = w3 at HM3 HB3
        go_wp2
        go_roundw
        case rel => exact ⟨k + 1, by omega, by go_num, HB3, ⟨by
          have h := HM3.out
          rw [storeL, HQ.out, if_pos (by omega), Int.toNat_natCast]
          exact h⟩⟩
        case measure => simp [intOf]; omega
      · go_wp2_with fail
        refine (memStore_out B D (storeL n X Y k) q (Y k) (by rw [HL.out]; omega) _ HMa.out).mono ?_
        rintro e w3 ⟨rfl, rfl⟩
        go_wp2
        go_roundw
        case rel => exact ⟨k + 1, by omega, by go_num, HBa, ⟨by
          have h := HMa.out
          rw [storeL, HQ.out, if_neg (by omega)]
          exact h⟩⟩
        case measure => simp [intOf]; omega
    · obtain rfl : k = c := by omega
      have HL := storeL_len n X Y k
      obtain ⟨ws, hws⟩ : ∃ ws, storeL n X Y k = ws := ⟨_, rfl⟩
      rw [hws] at HM HL
      clear hws
      subst HL
      go_wp2_with fail
      refine (memWords_any B D ws _ HM.out).mono ?_
      rintro e w3 ⟨g, rfl, HG, hb3, hgl⟩
      have HB3 := Kp.mk (below_call HB.out hb3)
      have HM3 := Kp.mk (HM.out.below hb3)
      have hDlt := blk_lt HM.out.words
      have hBlt := blk_lt HM.out.head
      have HZ := Kp.mk HB.out.size
      clear HB HM hb3
      have qF := fun (w : World) fn fi ca => run_neq_func_nil (P := Try.prog) w 58 fn fi ca Try.underlying58
      go_wp2_with fail
      refine (memAll_any B _).mono ?_
      rintro e w4 ⟨rfl, rfl⟩
      go_wp2_with fail
      clear qF
      have HBW := Kp.mk (below_al (below_al (below_al HB3.out (.cells #[.slice (some ⟨g, 0, none⟩) ws.length ws.length] 48)) (.cells #[.int .i64 0] 3)) (.cells #[.pointer (some ⟨B, 0, none⟩)] 40))
      have HMW := Kp.mk (((HM3.out.al (.cells #[.slice (some ⟨g, 0, none⟩) ws.length ws.length] 48)).al (.cells #[.int .i64 0] 3)).al (.cells #[.pointer (some ⟨B, 0, none⟩)] 40))
      have HGW := Kp.mk (blk_al (blk_al (blk_al HG.out (.cells #[.slice (some ⟨g, 0, none⟩) ws.length ws.length] 48)) (.cells #[.int .i64 0] 3)) (.cells #[.pointer (some ⟨B, 0, none⟩)] 40))
      have b0 := Kp.mk (blk_al (blk_al (blk_new w3 (.cells #[.slice (some ⟨g, 0, none⟩) ws.length ws.length] 48)) (.cells #[.int .i64 0] 3)) (.cells #[.pointer (some ⟨B, 0, none⟩)] 40))
      have b1 := Kp.mk (blk_al (blk_at (w := w3.alloc (.cells #[.slice (some ⟨g, 0, none⟩) ws.length ws.length] 48)) (n := w3.heap.size + 1) (by simp) (.cells #[.int .i64 0] 3)) (.cells #[.pointer (some ⟨B, 0, none⟩)] 40))
      have b2 := Kp.mk (blk_at (w := (w3.alloc (.cells #[.slice (some ⟨g, 0, none⟩) ws.length ws.length] 48)).alloc (.cells #[.int .i64 0] 3)) (n := w3.heap.size + 1 + 1) (by simp) (.cells #[.pointer (some ⟨B, 0, none⟩)] 40))
      have hsz : ((((w3.alloc (.cells #[.slice (some ⟨g, 0, none⟩) ws.length ws.length] 48)).alloc (.cells #[.int .i64 0] 3)).alloc (.cells #[.pointer (some ⟨B, 0, none⟩)] 40))).heap.size = w3.heap.size + 1 + 1 + 1 := by simp
      have HSZ := Kp.mk hsz
      clear hsz
      have h3 := HB3.out.size
      have hg3 := blk_lt HG.out
      have hB3 := blk_lt HM3.out.head
      have hD3 := blk_lt HM3.out.words
      clear HB3 HM3 HG
      generalize ((((w3.alloc (.cells #[.slice (some ⟨g, 0, none⟩) ws.length ws.length] 48)).alloc (.cells #[.int .i64 0] 3)).alloc (.cells #[.pointer (some ⟨B, 0, none⟩)] 40))) = W0 at HBW HMW HGW b0 b1 b2 HSZ ⊢
      have s0 := Kp.mk (blk_below bk0.out HBW.out)
      have s1 := Kp.mk (blk_below bk1.out HBW.out)
      have hlt := HLT.out
      obtain ⟨nn, hnn⟩ : ∃ nn, w3.heap.size = nn := ⟨_, rfl⟩
      have HLEN := Kp.mk HMW.out.len
      rw [hnn] at b0 b1 b2 HSZ hB3 hD3 hg3 h3 ⊢
      clear hnn
      refine wp_range (fun t x => (((t.setIfInBounds 55 (.int .i64 x.1)).setIfInBounds 56 (.int .u32 x.2)).setIfInBounds 14 (.int .i64 x.1)).setIfInBounds 15 (.int .u32 x.2)) rfl (enters_of Try.func38 (by kernel_rfl) rfl)
        (memAll_stops 2 (by omega) (nn + 1 + 1) nn B D ws W0 (by rw [HSZ.out]; omega) b2.out HMW.out hB3 hD3) belowK_t (belowK_b (by rw [HSZ.out]; omega)) (fun _ => rfl)
        (TellI W0 (nn + 1) st) (TellX W0 (nn + 1) st ws)
        (fun s A B row hs hg hr => tellI_calm hs (Nat.le_refl _) hg hr)
        (fun c s A B row hs hg hr => tellX_calm hs (Nat.le_refl _) hg hr)
        ⟨But1.refl _ _, b1.out, Nat.zero_le _⟩ ?assign ?body ?done ?stop
      case assign =>
        intro l x W K hK
        gi_wp2
        exact hK
      case body =>
        rintro l pre ⟨x1, x2⟩ W ⟨hI, hI1, hI2⟩ hpl
        have c0 : W.cell? ⟨w0.heap.size, 0, none⟩ = some (.int .u8 (st : Int)) := (cell_blk (hI.blk s0.out (by omega)) 0).trans rfl
        have c1 : W.cell? ⟨nn, 0, none⟩ = some (.slice (some ⟨g, 0, none⟩) ws.length ws.length) := (cell_blk (hI.blk b0.out (by omega)) 0).trans rfl
        have c2 : W.cell? ⟨nn + 1, 0, none⟩ = some (.int .i64 (pre.length : Int)) := (cell_blk hI1 0).trans rfl
        have c3 : W.cell? ⟨g, pre.length, none⟩ = some (.int .u32 ws[pre.length]) := by
          rw [cell_blk (hI.blk HGW.out (by omega)) pre.length, List.getElem?_toArray, u32s_at ws _ hpl]
        have f2 : W.frozen? ⟨nn + 1, 0, none⟩ = false := frozen_blk hI1 0
        have R1 := Kp.mk (hI.blk s1.out (by omega))
        have f1 : W.frozen? ⟨w0.heap.size + 1, 0, none⟩ = false := frozen_blk R1.out 0
        have c6 : W.cell? ⟨w0.heap.size + 1, 0, none⟩ = some (.bool false) := (cell_blk R1.out 0).trans rfl
        have hlen := HLEN.out
        have HI := Kp.mk hI
        have HI1 := Kp.mk hI1
        clear hI hI1
        dsimp only
        by_cases hm : st ≤ pre.length
        · gi_wp2
          exact ⟨KeepsFrom.refl _ _, pre, (x1, x2), rfl, .inl ⟨rfl, ⟨HI.out, HI1.out, hI2⟩, hm⟩⟩
        by_cases hx1 : x1 = (pre.length : Int)
        · subst hx1
          by_cases hx2 : x2 = ws[pre.length]
          · have e1 : (x2 != ws[pre.length]) = false := by simpa using hx2
            clear hx2
            gi_wp2
            exact ⟨kf_mono (Rnd.set (T := 40) (n₀ := 0) (B := W0.heap.size) HI1.out (by decide) (Nat.zero_le _) 0 _).2 (Nat.le_refl _), (Below.refl _ _).setCell (p := ⟨nn + 1, 0, none⟩) (by simp) _,
              HI.out.set 0 _, (blk_set HI1.out 0 _).trans (by simp), by simp; omega⟩
          · have e1 : (x2 != ws[pre.length]) = true := by simpa using hx2
            have NO : ¬ (((pre.length : Int), x2).1 = (pre.length : Int) ∧ pre.length < ws.length ∧ ws[pre.length]? = some ((pre.length : Int), x2).2) := by
              rintro ⟨_, h1, h2⟩
              rw [List.getElem?_eq_getElem h1] at h2
              exact hx2 (Option.some.inj h2).symm
            have NOK := Kp.mk NO
            clear hx2 NO
            gi_wp2
            exact ⟨kf_mono (Rnd.set (T := 40) (n₀ := 0) (B := W0.heap.size) R1.out (by decide) (Nat.zero_le _) 0 (.bool false)).2 (Nat.le_refl _), pre, ((pre.length : Int), x2), rfl, .inr ⟨rfl, fun h => NOK.out ⟨by trivial, h.2⟩⟩⟩
        · have e1 : (x1 != (pre.length : Int)) = true := by rw [bne_iff_ne]; exact hx1
          have NOK : Kp (¬ ((x1, x2).1 = (pre.length : Int) ∧ pre.length < ws.length ∧ ws[pre.length]? = some (x1, x2).2)) := ⟨fun h => hx1 h.1⟩
          clear hx1
          gi_wp2
          exact ⟨kf_mono (Rnd.set (T := 40) (n₀ := 0) (B := W0.heap.size) R1.out (by decide) (Nat.zero_le _) 0 (.bool false)).2 (Nat.le_refl _), pre, (x1, x2), rfl, .inr ⟨rfl, NOK.out⟩⟩
      case done =>
        rintro Dd xs W hD0 rfl ⟨hI, hI1, hI2⟩ hK
        rw [uptoW_len] at hI1 hI2
        have c0 : W.cell? ⟨w0.heap.size, 0, none⟩ = some (.int .u8 (st : Int)) := (cell_blk (hI.blk s0.out (by omega)) 0).trans rfl
        have c2 : W.cell? ⟨nn + 1, 0, none⟩ = some (.int .i64 (ws.length : Int)) := (cell_blk hI1 0).trans rfl
        have HI := Kp.mk hI
        have HM := Kp.mk (HMW.out.but hI (by omega) (by omega))
        have R1 := Kp.mk (hI.blk s1.out (by omega))
        have BX := Kp.mk (hI.blk b0.out (by omega))
        have GX := Kp.mk (hI.blk HGW.out (by omega))
        have HK := Kp.mk hK
        have HBz := Kp.mk (hI.below (below_call HW.out HBW.out) (by omega) (by rw [HSZ.out]; omega))
        clear hI hI1 hK
        have hle : ((ws.length : Int) ≤ (st : Int)) := by omega
        go_wp2_with fail
        refine (memWords_any B D ws _ HM.out).mono ?_
        rintro e w5 ⟨g2, rfl, HG2, hb5, hgl5⟩
        have HM5 := Kp.mk (HM.out.below hb5)
        have R5 := Kp.mk (blk_below R1.out hb5)
        have BX5 := Kp.mk (blk_below BX.out hb5)
        have GX5 := Kp.mk (blk_below GX.out hb5)
        have HK5 := Kp.mk (blk_below HK.out hb5)
        have HB5 := Kp.mk (below_call HBz.out hb5)
        have hW0W := HI.out.size
        have hDdlt := blk_lt HK.out
        have HSZ' := HSZ.out
        clear HM R1 BX GX HK HBz HI hb5 c0 c2
        have hgg2 : g ≠ g2 := by omega
        have hgD : g ≠ D := by omega
        have hgB : g ≠ B := by omega
        have hgr : g ≠ w0.heap.size + 1 := by omega
        have hgn : g ≠ nn := by omega
        have hgd : g ≠ Dd := by omega
        have cb : w5.cell? ⟨nn, 0, none⟩ = some (.slice (some ⟨g, 0, none⟩) ws.length ws.length) := (cell_blk BX5.out 0).trans rfl
        go_wp2_with fail
        go_loopw [91] (fun i wr => ∃ (p : Nat) (vs : List Int), p ≤ ws.length ∧ i = .int .i64 p ∧ Kp (But1 g w5 wr) ∧ Kp (vs.length = ws.length) ∧ Kp (wr.heap[g]? = some (.cells (u32s vs).toArray 44 (0, 0)))) (fun i wr => ws.length - (intOf i).toNat)
        case atStart => exact ⟨0, ws, Nat.zero_le _, rfl, ⟨But1.refl _ _⟩, ⟨rfl⟩, GX5⟩
        case round =>
          obtain ⟨p, vs, hp, rfl, HBT, HVL, HVG⟩ := hrel
          clear cb
          have c4 : wr.cell? ⟨nn, 0, none⟩ = some (.slice (some ⟨g, 0, none⟩) ws.length ws.length) := (cell_blk (HBT.out.blk BX5.out (Ne.symm hgn)) 0).trans rfl
          by_cases hlt : p < ws.length
          · have hlv : p < vs.length := by rw [HVL.out]; exact hlt
            have c5 : wr.cell? ⟨g, p, none⟩ = some (.int .u32 vs[p]) := by
              rw [cell_blk HVG.out p, List.getElem?_toArray, u32s_at vs p hlv]
            have f5 : wr.frozen? ⟨g, p, none⟩ = false := frozen_blk HVG.out p
            go_wp2
            go_roundw
            case rel => exact ⟨p + 1, vs.set p (IntKind.u32.wrap (vs[p] + 1)), by omega, by go_num, ⟨HBT.out.set p _⟩, ⟨by rw [List.length_set]; exact HVL.out⟩, ⟨by
              have h1 := blk_set HVG.out p (.int .u32 (IntKind.u32.wrap (vs[p] + 1)))
              rw [List.setIfInBounds_toArray, u32s_set] at h1
              exact h1⟩⟩
            case measure => simp [intOf]; omega
          · obtain rfl : p = ws.length := by omega
            have HM6 := Kp.mk (HM5.out.but HBT.out (Ne.symm hgB) (Ne.symm hgD))
            go_wp2_with fail
            refine (memWords_any B D ws _ HM6.out).mono ?_
            rintro e w7 ⟨g3, rfl, HG3, hb7, hgl7⟩
            have e2 := blk_below (HBT.out.blk HG2.out (Ne.symm hgg2)) hb7
            have R7 := Kp.mk (blk_below (HBT.out.blk R5.out (Ne.symm hgr)) hb7)
            have K7 := Kp.mk (blk_below (HBT.out.blk HK5.out (Ne.symm hgd)) hb7)
            have B7 := Kp.mk (below_call (HBT.out.below HB5.out (by omega) HB5.out.size) hb7)
            have hrow : ∀ (w : World) (g : Nat), w.heap[g]? = some (.cells (u32s ws).toArray 44 (0, 0)) → RowAt w 1 (.slice (some ⟨g, 0, none⟩) ws.length ws.length) ws.length (ws.map (Value.int .u32)) := fun w g h =>
              ⟨by simp, .inr ⟨g, 0, ws.length, rfl, Nat.le_refl _, by have := HLEN.out; unfold maxLen; omega, blk_lt h, fun i hi => by rw [Nat.zero_add, cell_blk h i]; simp [u32s]⟩⟩
            have RA := Kp.mk (hrow _ _ HG3.out)
            have RB := Kp.mk (hrow _ _ e2)
            clear e2 hb7 hrow c4
            go_wp2_with fail
            refine (rsame2_any _ _ ws ws true (by simp) _ RA.out RB.out).mono ?_
            rintro e w8 ⟨rfl, hb8⟩
            have R8 := Kp.mk (blk_below R7.out hb8)
            have K8 := Kp.mk (blk_below K7.out hb8)
            have B8 := Kp.mk (below_call B7.out hb8)
            have c8 : w8.cell? ⟨w0.heap.size + 1, 0, none⟩ = some (.bool false) := (cell_blk R8.out 0).trans rfl
            have f8 : w8.frozen? ⟨w0.heap.size + 1, 0, none⟩ = false := frozen_blk R8.out 0
            have hDn : Dd ≠ w0.heap.size + 1 := by omega
            clear hb8
            go_wp2
            have k9 := blk_set_ne K8.out (p := ⟨w0.heap.size + 1, 0, none⟩) hDn (.bool true)
            have r9 := blk_set R8.out 0 (.bool true)
            refine ⟨by simp, .inl ⟨_, _, rfl, run_takeDeferred k9, ?_⟩⟩
            have r10 : ((w8.setCell ⟨w0.heap.size + 1, 0, none⟩ (.bool true)).putObj Dd (.deferred none)).cell? ⟨w0.heap.size + 1, 0, none⟩ = some (.bool true) := by
              refine (cell_blk (c := #[.bool true]) (t := 4) (fz := (0, 0)) ?_ 0).trans rfl
              rw [World.putObj_heap_other (fun e => hDn e.symm)]
              exact r9.trans rfl
            exact ⟨.bool true, by simp [results, Try.f12, go_sem, r10], rfl, (B8.out.setCell (p := ⟨w0.heap.size + 1, 0, none⟩) (by simp) _).trans (belowK_b (w := w0) (Nat.le_refl _) _ Dd _ _ (by omega) k9 rfl rfl)⟩
      case stop =>
        rintro Dd cc pre W hD0 hpre ⟨p0, ⟨x1, x2⟩, rfl, ⟨rfl, ⟨hI, hI1, hI2⟩, hst2⟩ | ⟨rfl, hno⟩⟩ hK
        · have hp0 : p0.length = st := by omega
          have hlt0 : st < ws.length := by
            have := hpre.length_le
            rw [uptoW_len, List.length_append] at this
            simp at this
            omega
          rw [hp0] at hI1
          clear hp0 hst2
          have c0 : W.cell? ⟨w0.heap.size, 0, none⟩ = some (.int .u8 (st : Int)) := (cell_blk (hI.blk s0.out (by omega)) 0).trans rfl
          have c2 : W.cell? ⟨nn + 1, 0, none⟩ = some (.int .i64 (st : Int)) := (cell_blk hI1 0).trans rfl
          have HI := Kp.mk hI
          have HM := Kp.mk (HMW.out.but hI (by omega) (by omega))
          have R1 := Kp.mk (hI.blk s1.out (by omega))
          have BX := Kp.mk (hI.blk b0.out (by omega))
          have GX := Kp.mk (hI.blk HGW.out (by omega))
          have HK := Kp.mk hK
          have HBz := Kp.mk (hI.below (below_call HW.out HBW.out) (by omega) (by rw [HSZ.out]; omega))
          clear hI hI1 hK
          have hle : ((st : Int) < (ws.length : Int)) := by omega
          go_wp2_with fail
          refine (memWords_any B D ws _ HM.out).mono ?_
          rintro e w5 ⟨g2, rfl, HG2, hb5, hgl5⟩
          have HM5 := Kp.mk (HM.out.below hb5)
          have R5 := Kp.mk (blk_below R1.out hb5)
          have BX5 := Kp.mk (blk_below BX.out hb5)
          have GX5 := Kp.mk (blk_below GX.out hb5)
          have HK5 := Kp.mk (blk_below HK.out hb5)
          have HB5 := Kp.mk (below_call HBz.out hb5)
          have hW0W := HI.out.size
          have hDdlt := blk_lt HK.out
          have HSZ' := HSZ.out
          clear HM R1 BX GX HK HBz HI hb5 c0 c2
          have hgg2 : g ≠ g2 := by omega
          have hgD : g ≠ D := by omega
          have hgB : g ≠ B := by omega
          have hgr : g ≠ w0.heap.size + 1 := by omega
          have hgn : g ≠ nn := by omega
          have hgd : g ≠ Dd := by omega
          have cb : w5.cell? ⟨nn, 0, none⟩ = some (.slice (some ⟨g, 0, none⟩) ws.length ws.length) := (cell_blk BX5.out 0).trans rfl
          go_wp2_with fail
          go_loopw [91] (fun i wr => ∃ (p : Nat) (vs : List Int), p ≤ ws.length ∧ i = .int .i64 p ∧ Kp (But1 g w5 wr) ∧ Kp (vs.length = ws.length) ∧ Kp (wr.heap[g]? = some (.cells (u32s vs).toArray 44 (0, 0)))) (fun i wr => ws.length - (intOf i).toNat)
          case atStart => exact ⟨0, ws, Nat.zero_le _, rfl, ⟨But1.refl _ _⟩, ⟨rfl⟩, GX5⟩
          case round =>
            obtain ⟨p, vs, hp, rfl, HBT, HVL, HVG⟩ := hrel
            clear cb
            have c4 : wr.cell? ⟨nn, 0, none⟩ = some (.slice (some ⟨g, 0, none⟩) ws.length ws.length) := (cell_blk (HBT.out.blk BX5.out (Ne.symm hgn)) 0).trans rfl
            by_cases hlt : p < ws.length
            · have hlv : p < vs.length := by rw [HVL.out]; exact hlt
              have c5 : wr.cell? ⟨g, p, none⟩ = some (.int .u32 vs[p]) := by
                rw [cell_blk HVG.out p, List.getElem?_toArray, u32s_at vs p hlv]
              have f5 : wr.frozen? ⟨g, p, none⟩ = false := frozen_blk HVG.out p
              go_wp2
              go_roundw
              case rel => exact ⟨p + 1, vs.set p (IntKind.u32.wrap (vs[p] + 1)), by omega, by go_num, ⟨HBT.out.set p _⟩, ⟨by rw [List.length_set]; exact HVL.out⟩, ⟨by
                have h1 := blk_set HVG.out p (.int .u32 (IntKind.u32.wrap (vs[p] + 1)))
                rw [List.setIfInBounds_toArray, u32s_set] at h1
                exact h1⟩⟩
              case measure => simp [intOf]; omega
            · obtain rfl : p = ws.length := by omega
              have HM6 := Kp.mk (HM5.out.but HBT.out (Ne.symm hgB) (Ne.symm hgD))
              go_wp2_with fail
              refine (memWords_any B D ws _ HM6.out).mono ?_
              rintro e w7 ⟨g3, rfl, HG3, hb7, hgl7⟩
              have e2 := blk_below (HBT.out.blk HG2.out (Ne.symm hgg2)) hb7
              have R7 := Kp.mk (blk_below (HBT.out.blk R5.out (Ne.symm hgr)) hb7)
              have K7 := Kp.mk (blk_below (HBT.out.blk HK5.out (Ne.symm hgd)) hb7)
              have B7 := Kp.mk (below_call (HBT.out.below HB5.out (by omega) HB5.out.size) hb7)
              have hrow : ∀ (w : World) (g : Nat), w.heap[g]? = some (.cells (u32s ws).toArray 44 (0, 0)) → RowAt w 1 (.slice (some ⟨g, 0, none⟩) ws.length ws.length) ws.length (ws.map (Value.int .u32)) := fun w g h =>
                ⟨by simp, .inr ⟨g, 0, ws.length, rfl, Nat.le_refl _, by have := HLEN.out; unfold maxLen; omega, blk_lt h, fun i hi => by rw [Nat.zero_add, cell_blk h i]; simp [u32s]⟩⟩
              have RA := Kp.mk (hrow _ _ HG3.out)
              have RB := Kp.mk (hrow _ _ e2)
              clear e2 hb7 hrow c4
              go_wp2_with fail
              refine (rsame2_any _ _ ws ws true (by simp) _ RA.out RB.out).mono ?_
              rintro e w8 ⟨rfl, hb8⟩
              have R8 := Kp.mk (blk_below R7.out hb8)
              have K8 := Kp.mk (blk_below K7.out hb8)
              have B8 := Kp.mk (below_call B7.out hb8)
              have c8 : w8.cell? ⟨w0.heap.size + 1, 0, none⟩ = some (.bool false) := (cell_blk R8.out 0).trans rfl
              have f8 : w8.frozen? ⟨w0.heap.size + 1, 0, none⟩ = false := frozen_blk R8.out 0
              have hDn : Dd ≠ w0.heap.size + 1 := by omega
              clear hb8
              go_wp2
              have k9 := blk_set_ne K8.out (p := ⟨w0.heap.size + 1, 0, none⟩) hDn (.bool true)
              have r9 := blk_set R8.out 0 (.bool true)
              refine ⟨by simp, .inl ⟨_, _, rfl, run_takeDeferred k9, ?_⟩⟩
              have r10 : ((w8.setCell ⟨w0.heap.size + 1, 0, none⟩ (.bool true)).putObj Dd (.deferred none)).cell? ⟨w0.heap.size + 1, 0, none⟩ = some (.bool true) := by
                refine (cell_blk (c := #[.bool true]) (t := 4) (fz := (0, 0)) ?_ 0).trans rfl
                rw [World.putObj_heap_other (fun e => hDn e.symm)]
                exact r9.trans rfl
              exact ⟨.bool true, by simp [results, Try.f12, go_sem, r10], rfl, (B8.out.setCell (p := ⟨w0.heap.size + 1, 0, none⟩) (by simp) _).trans (belowK_b (w := w0) (Nat.le_refl _) _ Dd _ _ (by omega) k9 rfl rfl)⟩
        · refine absurd ?_ hno
          obtain ⟨tl, htl⟩ := hpre
          have h1 : (uptoW ws ws.length)[p0.length]? = some (x1, x2) := by rw [← htl]; simp
          have h2 : p0.length < ws.length := by
            have := congrArg List.length htl
            rw [uptoW_len] at this
            simp at this
            omega
          rw [uptoW_at ws h2] at h1
          simp only [Option.some.injEq, Prod.mk.injEq] at h1
          exact ⟨h1.1.symm, h2, by rw [List.getElem?_eq_getElem h2] at h1 ⊢; simpa using h1.2⟩
theorem memAll_any_law (v0 v1 v2 : Value) (w : World) (h0 : RdV w (.int .u8) v0) (h1 : RdV w (.slice 2 (.pair 1 (.int .u64) (.pair 1 (.int .u32) .nil))) v1) (h2 : RdV w (.int .u8) v2) : Calls Try.prog 12 #[v0, v1, v2] w fun e w' => e = .returned (.bool true) ∧ Below w.heap.size w w' := by
  obtain ⟨n, rfl, wn⟩ := h0
  obtain ⟨a, c, cap, X, Y, rfl, g1, g2, g3, g4⟩ := pairsAt_of h1
  obtain ⟨s, rfl, ws⟩ := h2
  obtain ⟨m, rfl⟩ := Int.eq_ofNat_of_zero_le (bounds_u8 wn).1
  obtain ⟨z, rfl⟩ := Int.eq_ofNat_of_zero_le (bounds_u8 ws).1
  exact memAll_core m (by have := (bounds_u8 wn).2; omega) a c cap X Y z (by have := (bounds_u8 ws).2; omega) w g1 (by unfold maxLen at g2; exact g2) g3 fun i hi => (bounds_u64 (g4 i hi).1).1
end Go.Proofs.Ytimikgencnkcnaa

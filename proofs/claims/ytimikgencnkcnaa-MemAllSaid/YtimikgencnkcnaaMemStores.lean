/- The laws MemStores and MemOthers of layer 2: their walks. -/
import Derived.Test.YtimikgencnkcnaaMemPuts
namespace Go.Proofs.Ytimikgencnkcnaa
open Go.RowKit
set_option linter.unusedSimpArgs false
set_option linter.unusedVariables false

set_option maxHeartbeats 2000000 in
theorem memStores_core (n : Nat) (hn : n ≤ 255) (a : Option Addr) (c cap : Nat) (X Y : Nat → Int) (x : Int) (hx : 0 ≤ x) (w : World) (hcap : c ≤ cap) (hcm : cap ≤ 9223372036854775807) (h : PairsAt .u64 .u32 w a c X Y) (hX : ∀ i, i < c → 0 ≤ X i) :
    Calls Try.prog 9 #[.int .u8 n, .slice a c cap, .int .u64 x] w fun e w' => e = .returned (.bool true) ∧ Below w.heap.size w w' := by
  have HX := Kp.mk hX
  have HH := Kp.mk h
  clear hX h
  by_cases hbig : 200 < c
  · go_enter Try.func9, Try.ntmps9
    go_wp2_with (go_at_call 27; refine (memWakes _).mono ?_; rintro e w1 ⟨rfl, hb⟩)
    go_ret
    exact ⟨rfl, hb⟩
  go_enter Try.func9, Try.ntmps9
  go_wp2_with fail
  refine (memWakes _).mono ?_
  rintro e w1 ⟨rfl, hb⟩
  go_wp2_with fail
  refine (memNew_any n (by omega) _).mono ?_
  rintro e w2 ⟨B, D, rfl, HM0, hb2, hB, hD⟩
  have HB0 := Kp.mk (below_call hb hb2)
  have hlo : w.heap.size ≤ w1.heap.size := hb.size
  have hD' : w.heap.size ≤ D := Nat.le_trans hlo hD
  clear hb hb2
  go_wp2_with fail
  go_loopw [38] (fun i wr => ∃ k : Nat, k ≤ c ∧ i = .int .i64 k ∧ Kp (Below w.heap.size w wr) ∧ Kp (MemAt wr B D (storeL n X Y k))) (fun i wr => c - (intOf i).toNat)
  case atStart => exact ⟨0, Nat.zero_le _, rfl, HB0, HM0⟩
  case round =>
    obtain ⟨k, hk, rfl, HB, HM⟩ := hrel
    by_cases hlt : k < c
    · rcases HH.out with h0 | ⟨b, o, rfl, hb, hc⟩
      · omega
      obtain ⟨q, hq⟩ := Int.eq_ofNat_of_zero_le (HX.out k hlt)
      have c0 : wr.cell? ⟨b, o + k * 2, none⟩ = some (.int .u64 (q : Int)) := by rw [← hq]; exact (HB.out.cell (p := ⟨b, _, none⟩) hb).trans (hc k hlt).1
      have c1 : wr.cell? ⟨b, o + k * 2 + 1, none⟩ = some (.int .u32 (Y k)) := (HB.out.cell (p := ⟨b, _, none⟩) hb).trans (hc k hlt).2
      have HQ := Kp.mk hq
      have HL := Kp.mk (storeL_len n X Y k)
      clear hc hq
      have BK := Kp.mk (blk_new wr (.cells #[.int .u64 (q : Int), .int .u32 (Y k)] 46))
      have HMa := Kp.mk (HM.out.al (.cells #[.int .u64 (q : Int), .int .u32 (Y k)] 46))
      have HBa := Kp.mk (below_al HB.out (.cells #[.int .u64 (q : Int), .int .u32 (Y k)] 46))
      have hne : wr.heap.size ≠ D := Nat.ne_of_gt (blk_lt HM.out.words)
      by_cases hin : q < n
      · go_wp2_with fail
        refine (memStore_in B D (storeL n X Y k) q (Y k) (by rw [HL.out]; exact hin) _ HMa.out).mono ?_
        rintro e w3 ⟨rfl, rfl⟩
        have HM3 := Kp.mk (HMa.out.set q (Y k))
        have HB3 := Kp.mk (HBa.out.setCell (p := ⟨D, q, none⟩) hD' (.int .u32 (Y k)))
        have BK3 := Kp.mk (blk_set_ne (p := ⟨D, q, none⟩) BK.out hne (.int .u32 (Y k)))
        generalize (wr.alloc (.cells #[.int .u64 (q : Int), .int .u32 (Y k)] 46)).setCell ⟨D, q, none⟩ (.int .u32 (Y k)) = w3 at HM3 HB3 BK3
        have d0 : w3.cell? ⟨wr.heap.size, 0, none⟩ = some (.int .u64 (q : Int)) := (cell_blk BK3.out 0).trans rfl
        clear c0 c1 BK HMa HBa HM HB
        have e1 : decide (q < n) = true := decide_eq_true hin
        have e2 : decide ((q : Int) < (n : Int)) = true := decide_eq_true (by omega)
        go_wp2
        go_roundw
        case rel => exact ⟨k + 1, by omega, by go_num, HB3, ⟨by
          have h := HM3.out
          rw [storeL, HQ.out, if_pos (by omega), Int.toNat_natCast]
          exact h⟩⟩
        case measure => simp [intOf]; omega
      · go_wp2_with fail
        refine (memStore_out B D (storeL n X Y k) q (Y k) (by rw [HL.out]; omega) _ HMa.out).mono ?_
        rintro e w3 ⟨rfl, rfl⟩
        have e1 : decide (q < n) = false := decide_eq_false hin
        have e2 : decide ((q : Int) < (n : Int)) = false := decide_eq_false (by omega)
        go_wp2
        go_roundw
        case rel => exact ⟨k + 1, by omega, by go_num, HBa, ⟨by
          have h := HMa.out
          rw [storeL, HQ.out, if_neg (by omega)]
          exact h⟩⟩
        case measure => simp [intOf]; omega
    · obtain rfl : k = c := by omega
      have HL := storeL_len n X Y k
      obtain ⟨ws, hws⟩ : ∃ ws, storeL n X Y k = ws := ⟨_, rfl⟩
      rw [hws] at HM HL
      have HW : Kp (∀ (i : Nat) (hi : i < ws.length), ws[i] = wordAt X Y i k) := ⟨fun i hi => by
        have h := storeL_at n X Y i (by omega) k HX.out
        rw [hws, List.getElem?_eq_getElem hi] at h
        exact Option.some.inj h⟩
      clear hws
      subst HL
      go_wp2_with fail
      refine (memWords_any B D ws _ HM.out).mono ?_
      rintro e w3 ⟨g, rfl, HG, hb3, hgl⟩
      have HB3 := Kp.mk (below_call HB.out hb3)
      have HM3 := Kp.mk (HM.out.below hb3)
      have HH3 := Kp.mk (HH.out.below HB3.out)
      clear HB HM hb3
      go_wp2_with fail
      go_loopw [74] (fun i wr => ∃ p : Nat, p ≤ ws.length ∧ i = .int .i64 p ∧ wr = w3) (fun i wr => ws.length - (intOf i).toNat)
      case atStart => exact ⟨0, Nat.zero_le _, rfl, rfl⟩
      case round =>
        obtain ⟨p, hp, rfl, rfl⟩ := hrel
        by_cases hlt : p < ws.length
        · have c0 : wr.cell? ⟨g, p, none⟩ = some (.int .u32 ws[p]) := by
            rw [cell_blk HG.out p, List.getElem?_toArray, u32s_at ws p hlt]
          go_wp2_with fail
          refine (memLoad_in B D ws p hlt _ HM3.out).mono ?_
          rintro e w4 ⟨rfl, rfl⟩
          go_wp2_with fail
          refine (rword_any a k cap X Y p _ hcap hcm HH3.out).mono ?_
          rintro e w5 ⟨rfl, rfl⟩
          have hw := HW.out p hlt
          have e1 : (ws[p] != wordAt X Y p k) = false := by rw [hw]; simp
          clear hw
          go_wp2
          go_roundw
          case rel => first | exact ⟨p + 1, by omega, by go_num, rfl⟩ | exact ⟨p + 1, by omega, by go_num, trivial⟩
          case measure => simp [intOf]; omega
        · obtain rfl : p = ws.length := by omega
          by_cases hxl : x < (ws.length : Int)
          · obtain ⟨y, rfl⟩ := Int.eq_ofNat_of_zero_le hx
            go_wp2_with fail
            refine (memLoad_in B D ws y (by omega) _ HM3.out).mono ?_
            rintro e w4 ⟨rfl, rfl⟩
            have e1 : decide (y < ws.length) = true := decide_eq_true (by omega)
            go_wp2
            go_ret
            exact ⟨rfl, HB3.out⟩
          · go_wp2_with fail
            refine (memLoad_out B D ws x (by omega) _ HM3.out).mono ?_
            rintro e w4 ⟨rfl, rfl⟩
            go_wp2
            go_ret
            exact ⟨rfl, HB3.out⟩
theorem memStores_any (v0 v1 v2 : Value) (w : World) (h0 : RdV w (.int .u8) v0) (h1 : RdV w (.slice 2 (.pair 1 (.int .u64) (.pair 1 (.int .u32) .nil))) v1) (h2 : RdV w (.int .u64) v2) : Calls Try.prog 9 #[v0, v1, v2] w fun e w' => e = .returned (.bool true) ∧ Below w.heap.size w w' := by
  obtain ⟨n, rfl, wn⟩ := h0
  obtain ⟨a, c, cap, X, Y, rfl, g1, g2, g3, g4⟩ := pairsAt_of h1
  obtain ⟨x, rfl, wx⟩ := h2
  obtain ⟨m, rfl⟩ := Int.eq_ofNat_of_zero_le (bounds_u8 wn).1
  exact memStores_core m (by have := (bounds_u8 wn).2; omega) a c cap X Y x (bounds_u64 wx).1 w g1 (by unfold maxLen at g2; exact g2) g3 fun i hi => (bounds_u64 (g4 i hi).1).1
end Go.Proofs.Ytimikgencnkcnaa

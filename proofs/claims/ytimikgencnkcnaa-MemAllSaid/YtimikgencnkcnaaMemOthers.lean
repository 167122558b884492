/- The law MemOthers of layer 2: its walk. -/
import Derived.Test.YtimikgencnkcnaaMemStores
namespace Go.Proofs.Ytimikgencnkcnaa
open Go.RowKit
set_option linter.unusedSimpArgs false
set_option linter.unusedVariables false

set_option maxHeartbeats 2000000 in
theorem memOthers_core (n : Nat) (hn : n ≤ 255) (a : Option Addr) (c cap : Nat) (X Y : Nat → Int) (x : Nat) (y : Int) (hxb : x ≤ 18446744073709551615) (w0 : World) (hcap : c ≤ cap) (hcm : cap ≤ 9223372036854775807) (h : PairsAt .u64 .u32 w0 a c X Y) (hX : ∀ i, i < c → 0 ≤ X i) :
    Calls Try.prog 10 #[.int .u8 n, .slice a c cap, .agg #[.int .u64 x, .int .u32 y]] w0 fun e w' => e = .returned (.bool true) ∧ Below w0.heap.size w0 w' := by
  have HX := Kp.mk hX
  clear hX
  by_cases hbig : 200 < c
  · clear h
    go_enter Try.func10, Try.ntmps10
    go_wp2_with (go_at_call 27; refine (memWakes _).mono ?_; rintro e w1 ⟨rfl, hb⟩)
    go_ret
    exact ⟨rfl, below_call (below_al (Below.refl _ _) _) hb⟩
  have bk0 := Kp.mk (blk_new w0 (.cells #[.int .u64 (x : Int), .int .u32 y] 46))
  have hbw : Below w0.heap.size w0 (w0.alloc (.cells #[.int .u64 (x : Int), .int .u32 y] 46)) := below_al (Below.refl _ _) _
  have HH := Kp.mk (h.below hbw)
  have HW := Kp.mk hbw
  have hwlt : w0.heap.size < (w0.alloc (.cells #[.int .u64 (x : Int), .int .u32 y] 46)).heap.size := by simp
  have HLT := Kp.mk hwlt
  clear h hbw hwlt
  go_enter Try.func10, Try.ntmps10
  go_wp2_with fail
  generalize hw : w0.alloc (.cells #[.int .u64 (x : Int), .int .u32 y] 46) = w at bk0 HH HW HLT ⊢
  clear hw
  refine (memWakes _).mono ?_
  rintro e w1 ⟨rfl, hb⟩
  go_wp2_with fail
  refine (memNew_any n (by omega) _).mono ?_
  rintro e w2 ⟨B, D, rfl, HM0, hb2, hB, hD⟩
  have HB0 := Kp.mk (below_call hb hb2)
  have hlo : w.heap.size ≤ w1.heap.size := hb.size
  have hD' : w.heap.size ≤ D := Nat.le_trans hlo hD
  clear hb hb2
  go_wp2_with fail
  go_loopw [33] (fun i wr => ∃ k : Nat, k ≤ c ∧ i = .int .i64 k ∧ Kp (Below w.heap.size w wr) ∧ Kp (MemAt wr B D (storeL n X Y k))) (fun i wr => c - (intOf i).toNat)
  case atStart => exact ⟨0, Nat.zero_le _, rfl, HB0, HM0⟩
  case round =>
    obtain ⟨k, hk, rfl, HB, HM⟩ := hrel
    by_cases hlt : k < c
    · rcases HH.out with h0 | ⟨b, o, rfl, hb, hc⟩
      · omega
      obtain ⟨q, hq⟩ := Int.eq_ofNat_of_zero_le (HX.out k hlt)
      have c0 : wr.cell? ⟨b, o + k * 2, none⟩ = some (.int .u64 (q : Int)) := by rw [← hq]; exact (HB.out.cell (p := ⟨b, _, none⟩) hb).trans (hc k hlt).1
      have c1 : wr.cell? ⟨b, o + k * 2 + 1, none⟩ = some (.int .u32 (Y k)) := (HB.out.cell (p := ⟨b, _, none⟩) hb).trans (hc k hlt).2
      have HQ := Kp.mk hq
      have HL := Kp.mk (storeL_len n X Y k)
      clear hc hq
      have HMa := Kp.mk (HM.out.al (.cells #[.int .u64 (q : Int), .int .u32 (Y k)] 46))
      have HBa := Kp.mk (below_al HB.out (.cells #[.int .u64 (q : Int), .int .u32 (Y k)] 46))
      by_cases hin : q < n
      · go_wp2_with fail
        refine (memStore_in B D (storeL n X Y k) q (Y k) (by rw [HL.out]; exact hin) _ HMa.out).mono ?_
        rintro e w3 ⟨rfl, rfl⟩
        have HM3 := Kp.mk (HMa.out.set q (Y k))
        have HB3 := Kp.mk (HBa.out.setCell (p := ⟨D, q, none⟩) hD' (.int .u32 (Y k)))
        generalize (wr.alloc (.cells #[.int .u64 (q : Int), .int .u32 (Y k)] 46)).setCell ⟨D, q, none⟩ (.int .u32 (Y k)) = w3 at HM3 HB3
        go_wp2
        go_roundw
        case rel => exact ⟨k + 1, by omega, by go_num, HB3, ⟨by
          have h := HM3.out
          rw [storeL, HQ.out, if_pos (by omega), Int.toNat_natCast]
          exact h⟩⟩
        case measure => simp [intOf]; omega
      · go_wp2_with fail
        refine (memStore_out B D (storeL n X Y k) q (Y k) (by rw [HL.out]; omega) _ HMa.out).mono ?_
        rintro e w3 ⟨rfl, rfl⟩
        go_wp2
        go_roundw
        case rel => exact ⟨k + 1, by omega, by go_num, HBa, ⟨by
          have h := HMa.out
          rw [storeL, HQ.out, if_neg (by omega)]
          exact h⟩⟩
        case measure => simp [intOf]; omega
    · obtain rfl : k = c := by omega
      have HL := storeL_len n X Y k
      obtain ⟨ws, hws⟩ : ∃ ws, storeL n X Y k = ws := ⟨_, rfl⟩
      rw [hws] at HM HL
      clear hws
      subst HL
      go_wp2_with fail
      refine (memWords_any B D ws _ HM.out).mono ?_
      rintro e w3 ⟨g, rfl, HG, hb3, hgl⟩
      have HB3 := Kp.mk (below_call HB.out hb3)
      have HM3 := Kp.mk (HM.out.below hb3)
      have hDlt := blk_lt HM.out.words
      have BK3 := Kp.mk (blk_below bk0.out HB3.out)
      clear HB HM hb3
      have c0 : w3.cell? ⟨w0.heap.size, 0, none⟩ = some (.int .u64 (x : Int)) := (cell_blk BK3.out 0).trans rfl
      have c1 : w3.cell? ⟨w0.heap.size, 1, none⟩ = some (.int .u32 y) := (cell_blk BK3.out 1).trans rfl
      have hgD : g ≠ D := by omega
      have hxD : w0.heap.size ≠ D := by have := HLT.out; omega
      by_cases hin : x < ws.length
      · go_wp2_with fail
        refine (memStore_in B D ws x y hin _ HM3.out).mono ?_
        rintro e w4 ⟨rfl, rfl⟩
        have HM4 := Kp.mk (HM3.out.set x y)
        have HB4 := Kp.mk (HB3.out.setCell (p := ⟨D, x, none⟩) hD' (.int .u32 y))
        have BK4 := Kp.mk (blk_set_ne (p := ⟨D, x, none⟩) BK3.out hxD (.int .u32 y))
        have HG4 := Kp.mk (blk_set_ne (p := ⟨D, x, none⟩) HG.out hgD (.int .u32 y))
        clear c0 c1 BK3 HB3 HM3 HG
        generalize w3.setCell ⟨D, x, none⟩ (.int .u32 y) = w4 at HM4 HB4 BK4 HG4
        have HL : Kp ((ws.set x y).length = ws.length) := ⟨List.length_set⟩
        have HV : Kp (∀ i, i < ws.length → (ws.set x y)[i]? = some (if i = x then y else ws[i]?.getD 0)) := ⟨fun i h2 => by
          rw [List.getElem?_set]
          by_cases e : x = i
          · rw [if_pos e, if_pos (by omega), if_pos e.symm]
          · rw [if_neg e, if_neg (fun h => e h.symm), List.getElem?_eq_getElem h2]; rfl⟩
        generalize ws.set x y = vs at HL HV HM4
        have d0 : w4.cell? ⟨w0.heap.size, 0, none⟩ = some (.int .u64 (x : Int)) := (cell_blk BK4.out 0).trans rfl
        have d1 : w4.cell? ⟨w0.heap.size, 1, none⟩ = some (.int .u32 y) := (cell_blk BK4.out 1).trans rfl
        go_wp2_with fail
        refine (memWords_any B D vs _ HM4.out).mono ?_
        rintro e w5 ⟨g5, rfl, HG5, hb5, hgl5⟩
        have HB5 := Kp.mk (below_call HB4.out hb5)
        have HM5 := Kp.mk (HM4.out.below hb5)
        have BK5 := Kp.mk (blk_below BK4.out hb5)
        have HGW := Kp.mk (blk_below HG4.out hb5)
        clear d0 d1 hb5 HB4 HM4 BK4 HG4
        have d0 : w5.cell? ⟨w0.heap.size, 0, none⟩ = some (.int .u64 (x : Int)) := (cell_blk BK5.out 0).trans rfl
        have d1 : w5.cell? ⟨w0.heap.size, 1, none⟩ = some (.int .u32 y) := (cell_blk BK5.out 1).trans rfl
        go_wp2_with fail
        go_loopw [55] (fun i wr => ∃ p : Nat, p ≤ vs.length ∧ i = .int .i64 p ∧ wr = w5) (fun i wr => vs.length - (intOf i).toNat)
        case atStart => exact ⟨0, Nat.zero_le _, rfl, rfl⟩
        case round =>
          obtain ⟨p, hp, rfl, rfl⟩ := hrel
          by_cases hlt : p < vs.length
          · have hlt' : p < ws.length := by have := HL.out; omega
            have c1 : wr.cell? ⟨g, p, none⟩ = some (.int .u32 ws[p]) := by
              rw [cell_blk HGW.out p, List.getElem?_toArray, u32s_at ws p hlt']
            by_cases hpx : p = x
            · have c0 : wr.cell? ⟨g5, p, none⟩ = some (.int .u32 y) := by
                rw [cell_blk HG5.out p, List.getElem?_toArray, u32s, List.getElem?_map, HV.out p hlt', if_pos hpx]; rfl
              have e1 : (p == x) = true := by simpa using hpx
              have e2 : ((p : Int) == (x : Int)) = true := by rw [beq_iff_eq]; omega
              have e3 : (p != x) = false := by simpa using hpx
              have e4 : ((p : Int) != (x : Int)) = false := by rw [bne_eq_false_iff_eq]; omega
              clear hpx
              go_wp2
              go_roundw
              case rel => first | exact ⟨p + 1, by omega, by go_num, rfl⟩ | exact ⟨p + 1, by omega, by go_num, trivial⟩
              case measure => simp [intOf]; omega
            · have c0 : wr.cell? ⟨g5, p, none⟩ = some (.int .u32 ws[p]) := by
                rw [cell_blk HG5.out p, List.getElem?_toArray, u32s, List.getElem?_map, HV.out p hlt', if_neg hpx, List.getElem?_eq_getElem hlt']; rfl
              have e1 : (p == x) = false := by simpa using hpx
              have e2 : ((p : Int) == (x : Int)) = false := by rw [beq_eq_false_iff_ne]; omega
              have e3 : (p != x) = true := by simpa using hpx
              have e4 : ((p : Int) != (x : Int)) = true := by rw [bne_iff_ne]; omega
              go_wp2
              go_roundw
              case rel => first | exact ⟨p + 1, by omega, by go_num, rfl⟩ | exact ⟨p + 1, by omega, by go_num, trivial⟩
              case measure => simp [intOf]; omega
          · obtain rfl : p = vs.length := by omega
            go_wp2_with fail
            refine (memWords_any B D vs _ HM5.out).mono ?_
            rintro e w6 ⟨g6, rfl, HG6, hb6, hgl6⟩
            have e1 : (vs.length == ws.length) = true := by rw [HL.out]; simp
            have e2 : ((vs.length : Int) == (ws.length : Int)) = true := by rw [HL.out]; simp
            go_wp2
            go_ret
            exact ⟨ret_bool (by simp [e1, e2]), below_call HW.out (below_call HB5.out hb6)⟩
      · go_wp2_with fail
        refine (memStore_out B D ws x y (by omega) _ HM3.out).mono ?_
        rintro e w4 ⟨rfl, rfl⟩
        obtain ⟨vs, hvs⟩ : ∃ vs, vs = ws := ⟨_, rfl⟩
        have HM4 : Kp (MemAt w4 B D vs) := by rw [hvs]; exact HM3
        have HB4 := HB3
        have BK4 := BK3
        have HG4 := HG
        have HL : Kp (vs.length = ws.length) := ⟨by rw [hvs]⟩
        have HV : Kp (∀ i, i < ws.length → vs[i]? = some (if i = x then y else ws[i]?.getD 0)) := ⟨fun i h2 => by
          rw [if_neg (by omega), hvs, List.getElem?_eq_getElem h2]; rfl⟩
        clear c0 c1 BK3 HB3 HM3 HG hvs
        have d0 : w4.cell? ⟨w0.heap.size, 0, none⟩ = some (.int .u64 (x : Int)) := (cell_blk BK4.out 0).trans rfl
        have d1 : w4.cell? ⟨w0.heap.size, 1, none⟩ = some (.int .u32 y) := (cell_blk BK4.out 1).trans rfl
        go_wp2_with fail
        refine (memWords_any B D vs _ HM4.out).mono ?_
        rintro e w5 ⟨g5, rfl, HG5, hb5, hgl5⟩
        have HB5 := Kp.mk (below_call HB4.out hb5)
        have HM5 := Kp.mk (HM4.out.below hb5)
        have BK5 := Kp.mk (blk_below BK4.out hb5)
        have HGW := Kp.mk (blk_below HG4.out hb5)
        clear d0 d1 hb5 HB4 HM4 BK4 HG4
        have d0 : w5.cell? ⟨w0.heap.size, 0, none⟩ = some (.int .u64 (x : Int)) := (cell_blk BK5.out 0).trans rfl
        have d1 : w5.cell? ⟨w0.heap.size, 1, none⟩ = some (.int .u32 y) := (cell_blk BK5.out 1).trans rfl
        go_wp2_with fail
        go_loopw [55] (fun i wr => ∃ p : Nat, p ≤ vs.length ∧ i = .int .i64 p ∧ wr = w5) (fun i wr => vs.length - (intOf i).toNat)
        case atStart => exact ⟨0, Nat.zero_le _, rfl, rfl⟩
        case round =>
          obtain ⟨p, hp, rfl, rfl⟩ := hrel
          by_cases hlt : p < vs.length
          · have hlt' : p < ws.length := by have := HL.out; omega
            have c1 : wr.cell? ⟨g, p, none⟩ = some (.int .u32 ws[p]) := by
              rw [cell_blk HGW.out p, List.getElem?_toArray, u32s_at ws p hlt']
            by_cases hpx : p = x
            · have c0 : wr.cell? ⟨g5, p, none⟩ = some (.int .u32 y) := by
                rw [cell_blk HG5.out p, List.getElem?_toArray, u32s, List.getElem?_map, HV.out p hlt', if_pos hpx]; rfl
              have e1 : (p == x) = true := by simpa using hpx
              have e2 : ((p : Int) == (x : Int)) = true := by rw [beq_iff_eq]; omega
              have e3 : (p != x) = false := by simpa using hpx
              have e4 : ((p : Int) != (x : Int)) = false := by rw [bne_eq_false_iff_eq]; omega
              clear hpx
              go_wp2
              go_roundw
              case rel => first | exact ⟨p + 1, by omega, by go_num, rfl⟩ | exact ⟨p + 1, by omega, by go_num, trivial⟩
              case measure => simp [intOf]; omega
            · have c0 : wr.cell? ⟨g5, p, none⟩ = some (.int .u32 ws[p]) := by
                rw [cell_blk HG5.out p, List.getElem?_toArray, u32s, List.getElem?_map, HV.out p hlt', if_neg hpx, List.getElem?_eq_getElem hlt']; rfl
              have e1 : (p == x) = false := by simpa using hpx
              have e2 : ((p : Int) == (x : Int)) = false := by rw [beq_eq_false_iff_ne]; omega
              have e3 : (p != x) = true := by simpa using hpx
              have e4 : ((p : Int) != (x : Int)) = true := by rw [bne_iff_ne]; omega
              go_wp2
              go_roundw
              case rel => first | exact ⟨p + 1, by omega, by go_num, rfl⟩ | exact ⟨p + 1, by omega, by go_num, trivial⟩
              case measure => simp [intOf]; omega
          · obtain rfl : p = vs.length := by omega
            go_wp2_with fail
            refine (memWords_any B D vs _ HM5.out).mono ?_
            rintro e w6 ⟨g6, rfl, HG6, hb6, hgl6⟩
            have e1 : (vs.length == ws.length) = true := by rw [HL.out]; simp
            have e2 : ((vs.length : Int) == (ws.length : Int)) = true := by rw [HL.out]; simp
            go_wp2
            go_ret
            exact ⟨ret_bool (by simp [e1, e2]), below_call HW.out (below_call HB5.out hb6)⟩
theorem memOthers_any (v0 v1 v2 : Value) (w : World) (h0 : RdV w (.int .u8) v0) (h1 : RdV w (.slice 2 (.pair 1 (.int .u64) (.pair 1 (.int .u32) .nil))) v1) (h2 : RdV w (.pair 1 (.int .u64) (.pair 1 (.int .u32) .nil)) v2) : Calls Try.prog 10 #[v0, v1, v2] w fun e w' => e = .returned (.bool true) ∧ Below w.heap.size w w' := by
  obtain ⟨n, rfl, wn⟩ := h0
  obtain ⟨a, c, cap, X, Y, rfl, g1, g2, g3, g4⟩ := pairsAt_of h1
  obtain ⟨cs, rfl, h2⟩ := h2
  obtain ⟨x, y, rfl, wx, wy⟩ := rd_two h2
  obtain ⟨m, rfl⟩ := Int.eq_ofNat_of_zero_le (bounds_u8 wn).1
  obtain ⟨z, rfl⟩ := Int.eq_ofNat_of_zero_le (bounds_u64 wx).1
  exact memOthers_core m (by have := (bounds_u8 wn).2; omega) a c cap X Y z y (by have := (bounds_u64 wx).2; omega) w g1 (by unfold maxLen at g2; exact g2) g3 fun i hi => (bounds_u64 (g4 i hi).1).1
end Go.Proofs.Ytimikgencnkcnaa

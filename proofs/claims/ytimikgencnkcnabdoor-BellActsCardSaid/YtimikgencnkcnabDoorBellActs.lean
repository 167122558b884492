/- The law BellActs: its walk. -/
import Derived.Test.YtimikgencnkcnabDoorBellApartPure
namespace Go.Proofs.YtimikgencnkcnabDoor
open Go.RowKit
set_option linter.unusedSimpArgs false
set_option linter.unusedVariables false

/-- A slice of acts: n of them; Y their numbers, V their slices. -/
def ActsAt (w : World) (a : Option Addr) (n : Nat) (Y : Nat → Int) (V : Nat → Value) : Prop :=
  n = 0 ∨ ∃ b o, a = some ⟨b, o, none⟩ ∧ b < w.heap.size ∧ ∀ i, i < n → w.cell? ⟨b, o + i * 2, none⟩ = some (.int .i64 (Y i)) ∧ w.cell? ⟨b, o + i * 2 + 1, none⟩ = some (V i)
theorem actsAt_of {w : World} {v : Value} (h : RdV w (.slice 2 (.pair 1 (.int .i64) (.pair 1 (.slice 1 (.int .i64)) .nil))) v) :
    ∃ a n cap Y V, ∃ TS : Nat → List Int, v = .slice a n cap ∧ n ≤ cap ∧ cap ≤ maxLen ∧ ActsAt w a n Y V ∧ ∀ i, i < n → RowAt w 1 (V i) (TS i).length ((TS i).map (Value.int .i64)) := by
  obtain ⟨a, n, cap, F, rfl, h1, h2, h3⟩ := rd_slice (n := 1) h
  by_cases hn : n = 0
  · subst hn
    exact ⟨a, 0, cap, fun _ => 0, fun _ => default, fun _ => [], rfl, h1, h2, .inl rfl, fun i hi => by omega⟩
  rcases h3 with h3 | ⟨b, o, rfl, hb, hF⟩
  · exact absurd h3 hn
  · have hX : ∀ i, ∃ x : Int × Value × List Int, i < n → w.cell? ⟨b, o + i * 2, none⟩ = some (.int .i64 x.1) ∧ w.cell? ⟨b, o + i * 2 + 1, none⟩ = some x.2.1 ∧ RowAt w 1 x.2.1 x.2.2.length (x.2.2.map (Value.int .i64)) := fun i => by
      by_cases hi : i < n
      · obtain ⟨h4, h5, h6⟩ := hF i hi
        obtain ⟨c, cs', e1, g1, g2⟩ := rd_one h6
        obtain ⟨d, cs'', e2, g3, g4⟩ := rd_one g2
        obtain ⟨y, rfl, _⟩ := rd_int g1
        obtain ⟨xs, hx, _⟩ := intsAt_of (w := w) (v := d) g3
        subst e2
        have k0 := h5 0 (by omega)
        have k1 := h5 1 (by omega)
        rw [e1] at k0 k1
        exact ⟨(y, d, xs), fun _ => ⟨k0, k1, hx⟩⟩
      · exact ⟨(0, default, []), fun h => absurd h hi⟩
    obtain ⟨X, hX⟩ := Classical.axiomOfChoice hX
    exact ⟨_, n, cap, fun i => (X i).1, fun i => (X i).2.1, fun i => (X i).2.2, rfl, h1, h2, .inr ⟨b, o, rfl, hb, fun i hi => ⟨(hX i hi).1, (hX i hi).2.1⟩⟩, fun i hi => (hX i hi).2.2⟩

set_option maxRecDepth 100000 in
set_option maxHeartbeats 8000000 in
theorem bellActs_core (n : Nat) (hn : n ≤ 64) (a : Option Addr) (len cap : Nat) (hlen : len ≤ 100) (hcap : len ≤ cap) (Y : Nat → Int) (V : Nat → Value) (TS : Nat → List Int) (w : World) (hT : TabAt 0 Lib.deBruijn64tab w) (h0 : 0 < w.heap.size)
    (h : ActsAt w a len Y V) (hv : ∀ i, i < len → RowAt w 1 (V i) (TS i).length ((TS i).map (Value.int .i64))) :
    Calls Tryd.prog 3 #[.int .i64 n, .slice a len cap] w fun e w' => e = .returned (.bool true) ∧ Below w.heap.size w w' := by
  have H1 := Kp.mk h
  have HVS := Kp.mk hv
  have HT := Kp.mk hT
  have hmk := fun w => run_make_row' (P := Tryd.prog) 28 4 (.bool false) 1 Tryd.underlying28 Tryd.infoBool rfl .i64 .i64 n (by omega) (by omega) w
  have n1 : ¬ ((n : Int) < 0) := by omega
  have n2 : ¬ ((64 : Int) < (n : Int)) := by omega
  clear h hv hT
  go_enter Tryd.func3, Tryd.ntmps3
  go_wp2_with fail
  refine (wakes4_any _ HT.out h0).mono ?_
  rintro e w1 ⟨rfl, hb1⟩
  go_wp2_with fail
  refine (bellNew_any n hn _).mono ?_
  rintro e w2 ⟨B, rfl, hx, hb2, hB⟩
  have HB0 := Kp.mk (below_call hb1 hb2)
  have hBl := hx.out.lt
  have hw1 := hb1.size
  have hBw : w.heap.size ≤ B := by omega
  have HSB : Kp (∀ k, k ∈ [B] → w.heap.size ≤ k) := ⟨by intro k hk; simp at hk; omega⟩
  clear hb1 hb2
  go_wp2_with fail
  go_loopw [7, 52] (fun vx i' wr => ∃ (k : Nat) (x : List Bool), k ≤ len ∧ i' = .int .i64 k ∧ Kp (Below w.heap.size w wr) ∧ Kp (BAt wr B x) ∧ Kp (SlAt wr (B + 1) 4 1 vx x.length (bs x)) ∧ Kp (x.length = n)) (fun vx i' wr => len - (intOf i').toNat)
  case atStart => exact ⟨0, List.replicate n false, Nat.zero_le _, rfl, ⟨below_al HB0.out _⟩, ⟨hx.out.below (below_al (Below.refl _ _) _)⟩, ⟨by have := sl_made w2 (B + 1) n (by omega) (by unfold maxLen; omega); simpa using this⟩, ⟨by simp⟩⟩
  case round =>
    obtain ⟨k, x, hk, rfl, HB, HX, HS, HLX⟩ := hrel
    obtain ⟨ax, cx, rfl, hvx1, hvx2⟩ := HS.out.row.shape
    have hwr := HB.out.size
    have hBr := HX.out.lt
    by_cases hlt : k < len
    · rcases H1.out with hz | ⟨g, o, rfl, hg, hc⟩
      · omega
      obtain ⟨y, hy⟩ : ∃ y, Y k = y := ⟨_, rfl⟩
      obtain ⟨ts, hts⟩ : ∃ ts, TS k = ts := ⟨_, rfl⟩
      have hV := HVS.out k hlt
      rw [hts] at hV
      obtain ⟨av, cv, hav, hv1, hv2⟩ := hV.shape
      rw [hav] at hV
      have HV := Kp.mk hV
      have hcc := hc k hlt
      rw [hy, hav] at hcc
      have c0 : wr.cell? ⟨g, o + k * 2, none⟩ = some (.int .i64 y) := (HB.out.cell (p := ⟨g, _, none⟩) hg).trans hcc.1
      have c1 : wr.cell? ⟨g, o + k * 2 + 1, none⟩ = some (.slice av ts.length cv) := (HB.out.cell (p := ⟨g, _, none⟩) hg).trans hcc.2
      have HNE : Kp (0 < ts.length → ∀ a n c, Value.slice av ts.length cv = .slice (some a) n c → a.block ≠ B) := ⟨fun hp a n c he => by
        obtain ⟨g', o', rfl, hg', _⟩ := HV.out.at hp
        simp at he
        rw [← he.1]
        simp; omega⟩
      obtain ⟨m, hm⟩ : ∃ m, ts.length = m := ⟨_, rfl⟩
      rw [hm] at c1 HNE hv1
      have HM := Kp.mk hm
      have HV := HV.out
      rw [hm] at HV
      clear hc hcc hy hts hav hV
      by_cases hbig : 100 < m
      · clear hm
        go_wp2
        go_ret
        exact ⟨rfl, below_al HB.out _⟩
      · have HV : Kp (RowAt w 1 (.slice av m cv) ts.length (i64s ts)) := ⟨by rw [HM.out]; exact HV⟩
        rename_i HVo HVm
        clear HVo HVm
        have hts : ts.length ≤ 100 := by omega
        have hm100 : m ≤ 100 := by omega
        clear hm
        have hnx : x.length = n := HLX.out
        by_cases hy0 : y < 0
        · have HF : Kp ((if 0 ≤ y ∧ y < x.length then (0 : Int) else 7) = 7) := ⟨if_neg (by omega)⟩
          clear hnx
          go_wp2_with fail
          refine (bellRing_any B x y _ (HX.out.below (below_al (Below.refl _ _) _))).mono ?_
          rw [HF.out]
          rintro e w4 ⟨rfl, hb4, hx4⟩
          have HB4 := Kp.mk (hb4.below (HB.out.alloc HB.out.size _) HSB.out (by simp; omega))
          have K4 : Kp (w4.heap[wr.heap.size]? = some (.cells #[.int .i64 y, .slice av m cv] 31 (0, 0))) := ⟨hb4.blk (blk_new wr _) (by simp; omega)⟩
          have HS4 := Kp.mk ((HS.out.al (.cells #[.int .i64 y, .slice av m cv] 31)).but hb4 (by intro b hb; simp at hb; omega))
          have c4 : w4.cell? ⟨wr.heap.size, 0, none⟩ = some (.int .i64 y) := (cell_blk K4.out 0).trans rfl
          have l4 := blk_lt K4.out
          clear hb4
          go_wp2_with fail
          refine (refRing_any _ x (by rw [HLX.out]; omega) y _ HS4.out.row).mono ?_
          rintro e w5 ⟨v5, rfl, ho5, hb5⟩
          have HL5 : Kp ((ringB x y).length = n) := ⟨by rw [ringB_len]; exact HLX.out⟩
          have hBr4 := hx4.out.lt
          have HX5 := Kp.mk (hx4.out.below hb5)
          generalize ringB x y = x1 at HL5 HX5 ho5
          have HB5 := Kp.mk (below_call HB4.out hb5)
          have K5 := Kp.mk (blk_below K4.out hb5)
          have HS5 := Kp.mk ((SlAt.of_own ho5.out).base (m := B + 1) hBr4)
          obtain ⟨a5, cv5, rfl, hv5, hv5m⟩ := HS5.out.row.shape
          have c5 : w5.cell? ⟨wr.heap.size, 1, none⟩ = some (.slice av m cv) := (cell_blk K5.out 1).trans rfl
          have l5 := blk_lt K5.out
          clear c4 hb5 ho5
          go_wp2_with fail
          refine (refTake_any _ _ x1 ts (by rw [HL5.out]; omega) (by omega) _ HS5.out.row (HV.out.below HB5.out)).mono ?_
          obtain ⟨q, HQ⟩ : ∃ q, Kp (takeR x1 ts = q) := ⟨_, ⟨rfl⟩⟩
          have hql : q.length ≤ 100 := by have := takeR_len x1 ts; rw [HQ.out] at this; omega
          rw [HQ.out]
          rintro e w6 ⟨a6, c6, rfl, ho6, hb6⟩
          have HB6 := Kp.mk (below_call HB5.out hb6)
          have HX6 := Kp.mk (HX5.out.below hb6)
          have K6 := Kp.mk (blk_below K5.out hb6)
          have HS6 := Kp.mk (HS5.out.below hb6)
          have hBr5 := HX5.out.lt
          have HQ6 := Kp.mk ((SlAt.of_own ho6.out).base (m := B + 1) hBr5)
          obtain ⟨_, _, he6, hc6, hc6m⟩ := HQ6.out.row.shape
          simp only [Value.slice.injEq, true_and] at he6
          obtain ⟨rfl, rfl⟩ := he6
          have c6' : w6.cell? ⟨wr.heap.size, 1, none⟩ = some (.slice av m cv) := (cell_blk K6.out 1).trans rfl
          have l6 := blk_lt K6.out
          clear c5 hb6 ho6
          go_wp2_with fail
          refine (bellTake_any B x1 _ ts (by omega) _ HX6.out (HV.out.below HB6.out) (by rw [HM.out]; exact HNE.out)).mono ?_
          obtain ⟨x2, HX2⟩ : ∃ x2, Kp (takeT x1 ts = (x2, q)) := ⟨(takeT x1 ts).1, ⟨by rw [← HQ.out, ← takeT_ref]⟩⟩
          have HL2 : Kp (x2.length = n) := ⟨by have h := (takeT_inv x1 ts).1; rw [HX2.out] at h; rw [h]; exact HL5.out⟩
          have HW2 : Kp (withoutB x1 q = x2) := ⟨by have h := takeT_without x1 ts; rw [HX2.out] at h; exact h.symm⟩
          rw [HX2.out]
          rintro e w7 ⟨a7, c7, rfl, x7, ho7, hb7⟩
          have HB7 := Kp.mk (hb7.below HB6.out HSB.out HB6.out.size)
          have HS7 := Kp.mk (HS6.out.but hb7 (by intro b hb; simp at hb; omega))
          have HQ7 := Kp.mk (HQ6.out.but hb7 (by intro b hb; simp at hb; omega))
          have R7 := Kp.mk (RowAt.of_own ho7.out)
          clear c6' hb7 ho7
          go_wp2_with fail
          refine (rsame_any _ _ q q true (by simp) _ R7.out HQ7.out.row).mono ?_
          rintro e w8 ⟨rfl, hb8⟩
          have HB8 := Kp.mk (below_call HB7.out hb8)
          have HX8 := Kp.mk (x7.out.below hb8)
          have HS8 := Kp.mk (HS7.out.below hb8)
          have HQ8 := Kp.mk (HQ7.out.below hb8)
          clear hb8
          go_wp2_with fail
          refine (refWithout_any _ _ x1 q (by rw [HL5.out]; omega) (by omega) _ HS8.out.row HQ8.out.row).mono ?_
          rw [HW2.out]
          rintro e w9 ⟨v9, rfl, ho9, hb9⟩
          have HB9 := Kp.mk (below_call HB8.out hb9)
          have HX9 := Kp.mk (HX8.out.below hb9)
          have hBr8 := HX8.out.lt
          have HS9 := Kp.mk ((SlAt.of_own ho9.out).base (m := B + 1) hBr8)
          clear hb9 ho9
          obtain ⟨a9, cv9, rfl, hv9, hv9m⟩ := HS9.out.row.shape
          obtain ⟨z, HZ⟩ : ∃ z, Kp (allB x2 = z) := ⟨_, ⟨rfl⟩⟩
          have hzl : z.length ≤ 64 := by have h := allB_len x2; rw [HZ.out, HL2.out] at h; omega
          have HTK : Kp ((allB x2).take (99 : Int).toNat = z) := ⟨by rw [HZ.out]; exact List.take_of_length_le (by rw [show (99 : Int).toNat = 99 from rfl]; omega)⟩
          go_wp2_with fail
          refine (told4_any 99 B x2 _ HX9.out (tab_low HT.out HB9.out h0)).mono ?_
          rw [HTK.out]
          rintro e wa ⟨va, rfl, oa, hba⟩
          have HBa := Kp.mk (below_call HB9.out hba)
          have HXa := Kp.mk (HX9.out.below hba)
          have HSa := Kp.mk (HS9.out.below hba)
          have Ra := Kp.mk (RowAt.of_own oa)
          clear hba oa
          go_wp2_with fail
          refine (refAll_any _ x2 (by rw [HL2.out]; omega) _ HSa.out.row).mono ?_
          rw [HZ.out]
          rintro e wb ⟨ab, cb, rfl, ob, hbb⟩
          have HBb := Kp.mk (below_call HBa.out hbb)
          have HXb := Kp.mk (HXa.out.below hbb)
          have HSb := Kp.mk (HSa.out.below hbb)
          have Ra' := Kp.mk (Ra.out.below hbb)
          have Rb := Kp.mk (RowAt.of_own ob.out)
          clear hbb ob
          go_wp2_with fail
          refine (rsame_any _ _ z z true (by simp) _ Ra'.out Rb.out).mono ?_
          rintro e wc ⟨rfl, hbc⟩
          have HBc := Kp.mk (below_call HBb.out hbc)
          have HXc := Kp.mk (HXb.out.below hbc)
          have HSc := Kp.mk (HSb.out.below hbc)
          clear hbc
          go_wp2
          go_roundw
          case rel => exact ⟨k + 1, x2, by omega, by go_num, HBc, HXc, HSc, HL2⟩
          case measure => simp [intOf]; omega
        · by_cases hyn : y < (n : Int)
          · have HF : Kp ((if 0 ≤ y ∧ y < x.length then (0 : Int) else 7) = 0) := ⟨if_pos (by omega)⟩
            have hy1 : 0 ≤ y := by omega
            clear hnx
            go_wp2_with fail
            refine (bellRing_any B x y _ (HX.out.below (below_al (Below.refl _ _) _))).mono ?_
            rw [HF.out]
            rintro e w4 ⟨rfl, hb4, hx4⟩
            have HB4 := Kp.mk (hb4.below (HB.out.alloc HB.out.size _) HSB.out (by simp; omega))
            have K4 : Kp (w4.heap[wr.heap.size]? = some (.cells #[.int .i64 y, .slice av m cv] 31 (0, 0))) := ⟨hb4.blk (blk_new wr _) (by simp; omega)⟩
            have HS4 := Kp.mk ((HS.out.al (.cells #[.int .i64 y, .slice av m cv] 31)).but hb4 (by intro b hb; simp at hb; omega))
            have c4 : w4.cell? ⟨wr.heap.size, 0, none⟩ = some (.int .i64 y) := (cell_blk K4.out 0).trans rfl
            have l4 := blk_lt K4.out
            clear hb4
            go_wp2_with fail
            refine (refRing_any _ x (by rw [HLX.out]; omega) y _ HS4.out.row).mono ?_
            rintro e w5 ⟨v5, rfl, ho5, hb5⟩
            have HL5 : Kp ((ringB x y).length = n) := ⟨by rw [ringB_len]; exact HLX.out⟩
            have hBr4 := hx4.out.lt
            have HX5 := Kp.mk (hx4.out.below hb5)
            generalize ringB x y = x1 at HL5 HX5 ho5
            have HB5 := Kp.mk (below_call HB4.out hb5)
            have K5 := Kp.mk (blk_below K4.out hb5)
            have HS5 := Kp.mk ((SlAt.of_own ho5.out).base (m := B + 1) hBr4)
            obtain ⟨a5, cv5, rfl, hv5, hv5m⟩ := HS5.out.row.shape
            have c5 : w5.cell? ⟨wr.heap.size, 1, none⟩ = some (.slice av m cv) := (cell_blk K5.out 1).trans rfl
            have l5 := blk_lt K5.out
            clear c4 hb5 ho5
            go_wp2_with fail
            refine (refTake_any _ _ x1 ts (by rw [HL5.out]; omega) (by omega) _ HS5.out.row (HV.out.below HB5.out)).mono ?_
            obtain ⟨q, HQ⟩ : ∃ q, Kp (takeR x1 ts = q) := ⟨_, ⟨rfl⟩⟩
            have hql : q.length ≤ 100 := by have := takeR_len x1 ts; rw [HQ.out] at this; omega
            rw [HQ.out]
            rintro e w6 ⟨a6, c6, rfl, ho6, hb6⟩
            have HB6 := Kp.mk (below_call HB5.out hb6)
            have HX6 := Kp.mk (HX5.out.below hb6)
            have K6 := Kp.mk (blk_below K5.out hb6)
            have HS6 := Kp.mk (HS5.out.below hb6)
            have hBr5 := HX5.out.lt
            have HQ6 := Kp.mk ((SlAt.of_own ho6.out).base (m := B + 1) hBr5)
            obtain ⟨_, _, he6, hc6, hc6m⟩ := HQ6.out.row.shape
            simp only [Value.slice.injEq, true_and] at he6
            obtain ⟨rfl, rfl⟩ := he6
            have c6' : w6.cell? ⟨wr.heap.size, 1, none⟩ = some (.slice av m cv) := (cell_blk K6.out 1).trans rfl
            have l6 := blk_lt K6.out
            clear c5 hb6 ho6
            go_wp2_with fail
            refine (bellTake_any B x1 _ ts (by omega) _ HX6.out (HV.out.below HB6.out) (by rw [HM.out]; exact HNE.out)).mono ?_
            obtain ⟨x2, HX2⟩ : ∃ x2, Kp (takeT x1 ts = (x2, q)) := ⟨(takeT x1 ts).1, ⟨by rw [← HQ.out, ← takeT_ref]⟩⟩
            have HL2 : Kp (x2.length = n) := ⟨by have h := (takeT_inv x1 ts).1; rw [HX2.out] at h; rw [h]; exact HL5.out⟩
            have HW2 : Kp (withoutB x1 q = x2) := ⟨by have h := takeT_without x1 ts; rw [HX2.out] at h; exact h.symm⟩
            rw [HX2.out]
            rintro e w7 ⟨a7, c7, rfl, x7, ho7, hb7⟩
            have HB7 := Kp.mk (hb7.below HB6.out HSB.out HB6.out.size)
            have HS7 := Kp.mk (HS6.out.but hb7 (by intro b hb; simp at hb; omega))
            have HQ7 := Kp.mk (HQ6.out.but hb7 (by intro b hb; simp at hb; omega))
            have R7 := Kp.mk (RowAt.of_own ho7.out)
            clear c6' hb7 ho7
            go_wp2_with fail
            refine (rsame_any _ _ q q true (by simp) _ R7.out HQ7.out.row).mono ?_
            rintro e w8 ⟨rfl, hb8⟩
            have HB8 := Kp.mk (below_call HB7.out hb8)
            have HX8 := Kp.mk (x7.out.below hb8)
            have HS8 := Kp.mk (HS7.out.below hb8)
            have HQ8 := Kp.mk (HQ7.out.below hb8)
            clear hb8
            go_wp2_with fail
            refine (refWithout_any _ _ x1 q (by rw [HL5.out]; omega) (by omega) _ HS8.out.row HQ8.out.row).mono ?_
            rw [HW2.out]
            rintro e w9 ⟨v9, rfl, ho9, hb9⟩
            have HB9 := Kp.mk (below_call HB8.out hb9)
            have HX9 := Kp.mk (HX8.out.below hb9)
            have hBr8 := HX8.out.lt
            have HS9 := Kp.mk ((SlAt.of_own ho9.out).base (m := B + 1) hBr8)
            clear hb9 ho9
            obtain ⟨a9, cv9, rfl, hv9, hv9m⟩ := HS9.out.row.shape
            obtain ⟨z, HZ⟩ : ∃ z, Kp (allB x2 = z) := ⟨_, ⟨rfl⟩⟩
            have hzl : z.length ≤ 64 := by have h := allB_len x2; rw [HZ.out, HL2.out] at h; omega
            have HTK : Kp ((allB x2).take (99 : Int).toNat = z) := ⟨by rw [HZ.out]; exact List.take_of_length_le (by rw [show (99 : Int).toNat = 99 from rfl]; omega)⟩
            go_wp2_with fail
            refine (told4_any 99 B x2 _ HX9.out (tab_low HT.out HB9.out h0)).mono ?_
            rw [HTK.out]
            rintro e wa ⟨va, rfl, oa, hba⟩
            have HBa := Kp.mk (below_call HB9.out hba)
            have HXa := Kp.mk (HX9.out.below hba)
            have HSa := Kp.mk (HS9.out.below hba)
            have Ra := Kp.mk (RowAt.of_own oa)
            clear hba oa
            go_wp2_with fail
            refine (refAll_any _ x2 (by rw [HL2.out]; omega) _ HSa.out.row).mono ?_
            rw [HZ.out]
            rintro e wb ⟨ab, cb, rfl, ob, hbb⟩
            have HBb := Kp.mk (below_call HBa.out hbb)
            have HXb := Kp.mk (HXa.out.below hbb)
            have HSb := Kp.mk (HSa.out.below hbb)
            have Ra' := Kp.mk (Ra.out.below hbb)
            have Rb := Kp.mk (RowAt.of_own ob.out)
            clear hbb ob
            go_wp2_with fail
            refine (rsame_any _ _ z z true (by simp) _ Ra'.out Rb.out).mono ?_
            rintro e wc ⟨rfl, hbc⟩
            have HBc := Kp.mk (below_call HBb.out hbc)
            have HXc := Kp.mk (HXb.out.below hbc)
            have HSc := Kp.mk (HSb.out.below hbc)
            clear hbc
            go_wp2
            go_roundw
            case rel => exact ⟨k + 1, x2, by omega, by go_num, HBc, HXc, HSc, HL2⟩
            case measure => simp [intOf]; omega
          · have HF : Kp ((if 0 ≤ y ∧ y < x.length then (0 : Int) else 7) = 7) := ⟨if_neg (by omega)⟩
            have hy1 : 0 ≤ y := by omega
            clear hnx
            go_wp2_with fail
            refine (bellRing_any B x y _ (HX.out.below (below_al (Below.refl _ _) _))).mono ?_
            rw [HF.out]
            rintro e w4 ⟨rfl, hb4, hx4⟩
            have HB4 := Kp.mk (hb4.below (HB.out.alloc HB.out.size _) HSB.out (by simp; omega))
            have K4 : Kp (w4.heap[wr.heap.size]? = some (.cells #[.int .i64 y, .slice av m cv] 31 (0, 0))) := ⟨hb4.blk (blk_new wr _) (by simp; omega)⟩
            have HS4 := Kp.mk ((HS.out.al (.cells #[.int .i64 y, .slice av m cv] 31)).but hb4 (by intro b hb; simp at hb; omega))
            have c4 : w4.cell? ⟨wr.heap.size, 0, none⟩ = some (.int .i64 y) := (cell_blk K4.out 0).trans rfl
            have l4 := blk_lt K4.out
            clear hb4
            go_wp2_with fail
            refine (refRing_any _ x (by rw [HLX.out]; omega) y _ HS4.out.row).mono ?_
            rintro e w5 ⟨v5, rfl, ho5, hb5⟩
            have HL5 : Kp ((ringB x y).length = n) := ⟨by rw [ringB_len]; exact HLX.out⟩
            have hBr4 := hx4.out.lt
            have HX5 := Kp.mk (hx4.out.below hb5)
            generalize ringB x y = x1 at HL5 HX5 ho5
            have HB5 := Kp.mk (below_call HB4.out hb5)
            have K5 := Kp.mk (blk_below K4.out hb5)
            have HS5 := Kp.mk ((SlAt.of_own ho5.out).base (m := B + 1) hBr4)
            obtain ⟨a5, cv5, rfl, hv5, hv5m⟩ := HS5.out.row.shape
            have c5 : w5.cell? ⟨wr.heap.size, 1, none⟩ = some (.slice av m cv) := (cell_blk K5.out 1).trans rfl
            have l5 := blk_lt K5.out
            clear c4 hb5 ho5
            go_wp2_with fail
            refine (refTake_any _ _ x1 ts (by rw [HL5.out]; omega) (by omega) _ HS5.out.row (HV.out.below HB5.out)).mono ?_
            obtain ⟨q, HQ⟩ : ∃ q, Kp (takeR x1 ts = q) := ⟨_, ⟨rfl⟩⟩
            have hql : q.length ≤ 100 := by have := takeR_len x1 ts; rw [HQ.out] at this; omega
            rw [HQ.out]
            rintro e w6 ⟨a6, c6, rfl, ho6, hb6⟩
            have HB6 := Kp.mk (below_call HB5.out hb6)
            have HX6 := Kp.mk (HX5.out.below hb6)
            have K6 := Kp.mk (blk_below K5.out hb6)
            have HS6 := Kp.mk (HS5.out.below hb6)
            have hBr5 := HX5.out.lt
            have HQ6 := Kp.mk ((SlAt.of_own ho6.out).base (m := B + 1) hBr5)
            obtain ⟨_, _, he6, hc6, hc6m⟩ := HQ6.out.row.shape
            simp only [Value.slice.injEq, true_and] at he6
            obtain ⟨rfl, rfl⟩ := he6
            have c6' : w6.cell? ⟨wr.heap.size, 1, none⟩ = some (.slice av m cv) := (cell_blk K6.out 1).trans rfl
            have l6 := blk_lt K6.out
            clear c5 hb6 ho6
            go_wp2_with fail
            refine (bellTake_any B x1 _ ts (by omega) _ HX6.out (HV.out.below HB6.out) (by rw [HM.out]; exact HNE.out)).mono ?_
            obtain ⟨x2, HX2⟩ : ∃ x2, Kp (takeT x1 ts = (x2, q)) := ⟨(takeT x1 ts).1, ⟨by rw [← HQ.out, ← takeT_ref]⟩⟩
            have HL2 : Kp (x2.length = n) := ⟨by have h := (takeT_inv x1 ts).1; rw [HX2.out] at h; rw [h]; exact HL5.out⟩
            have HW2 : Kp (withoutB x1 q = x2) := ⟨by have h := takeT_without x1 ts; rw [HX2.out] at h; exact h.symm⟩
            rw [HX2.out]
            rintro e w7 ⟨a7, c7, rfl, x7, ho7, hb7⟩
            have HB7 := Kp.mk (hb7.below HB6.out HSB.out HB6.out.size)
            have HS7 := Kp.mk (HS6.out.but hb7 (by intro b hb; simp at hb; omega))
            have HQ7 := Kp.mk (HQ6.out.but hb7 (by intro b hb; simp at hb; omega))
            have R7 := Kp.mk (RowAt.of_own ho7.out)
            clear c6' hb7 ho7
            go_wp2_with fail
            refine (rsame_any _ _ q q true (by simp) _ R7.out HQ7.out.row).mono ?_
            rintro e w8 ⟨rfl, hb8⟩
            have HB8 := Kp.mk (below_call HB7.out hb8)
            have HX8 := Kp.mk (x7.out.below hb8)
            have HS8 := Kp.mk (HS7.out.below hb8)
            have HQ8 := Kp.mk (HQ7.out.below hb8)
            clear hb8
            go_wp2_with fail
            refine (refWithout_any _ _ x1 q (by rw [HL5.out]; omega) (by omega) _ HS8.out.row HQ8.out.row).mono ?_
            rw [HW2.out]
            rintro e w9 ⟨v9, rfl, ho9, hb9⟩
            have HB9 := Kp.mk (below_call HB8.out hb9)
            have HX9 := Kp.mk (HX8.out.below hb9)
            have hBr8 := HX8.out.lt
            have HS9 := Kp.mk ((SlAt.of_own ho9.out).base (m := B + 1) hBr8)
            clear hb9 ho9
            obtain ⟨a9, cv9, rfl, hv9, hv9m⟩ := HS9.out.row.shape
            obtain ⟨z, HZ⟩ : ∃ z, Kp (allB x2 = z) := ⟨_, ⟨rfl⟩⟩
            have hzl : z.length ≤ 64 := by have h := allB_len x2; rw [HZ.out, HL2.out] at h; omega
            have HTK : Kp ((allB x2).take (99 : Int).toNat = z) := ⟨by rw [HZ.out]; exact List.take_of_length_le (by rw [show (99 : Int).toNat = 99 from rfl]; omega)⟩
            go_wp2_with fail
            refine (told4_any 99 B x2 _ HX9.out (tab_low HT.out HB9.out h0)).mono ?_
            rw [HTK.out]
            rintro e wa ⟨va, rfl, oa, hba⟩
            have HBa := Kp.mk (below_call HB9.out hba)
            have HXa := Kp.mk (HX9.out.below hba)
            have HSa := Kp.mk (HS9.out.below hba)
            have Ra := Kp.mk (RowAt.of_own oa)
            clear hba oa
            go_wp2_with fail
            refine (refAll_any _ x2 (by rw [HL2.out]; omega) _ HSa.out.row).mono ?_
            rw [HZ.out]
            rintro e wb ⟨ab, cb, rfl, ob, hbb⟩
            have HBb := Kp.mk (below_call HBa.out hbb)
            have HXb := Kp.mk (HXa.out.below hbb)
            have HSb := Kp.mk (HSa.out.below hbb)
            have Ra' := Kp.mk (Ra.out.below hbb)
            have Rb := Kp.mk (RowAt.of_own ob.out)
            clear hbb ob
            go_wp2_with fail
            refine (rsame_any _ _ z z true (by simp) _ Ra'.out Rb.out).mono ?_
            rintro e wc ⟨rfl, hbc⟩
            have HBc := Kp.mk (below_call HBb.out hbc)
            have HXc := Kp.mk (HXb.out.below hbc)
            have HSc := Kp.mk (HSb.out.below hbc)
            clear hbc
            go_wp2
            go_roundw
            case rel => exact ⟨k + 1, x2, by omega, by go_num, HBc, HXc, HSc, HL2⟩
            case measure => simp [intOf]; omega
    · obtain rfl : k = len := by omega
      go_wp2
      go_ret
      exact ⟨rfl, HB.out⟩

set_option maxHeartbeats 1000000 in
theorem bellActs_bad (n : Int) (hn : n < 0 ∨ 64 < n) (v : Value) (w : World) (hT : TabAt 0 Lib.deBruijn64tab w) (h0 : 0 < w.heap.size) :
    Calls Tryd.prog 3 #[.int .i64 n, v] w fun e w' => e = .returned (.bool true) ∧ Below w.heap.size w w' := by
  have HT := Kp.mk hT
  clear hT
  by_cases h1 : n < 0
  · go_enter Tryd.func3, Tryd.ntmps3
    go_wp2_with fail
    refine (wakes4_any _ HT.out h0).mono ?_
    rintro e w1 ⟨rfl, hb1⟩
    go_wp2_with fail
    refine (bellNew_bad n hn _).mono ?_
    rintro e w2 ⟨rfl, rfl⟩
    go_wp2
    go_ret
    exact ⟨rfl, hb1⟩
  · have h2 : 64 < n := by omega
    go_enter Tryd.func3, Tryd.ntmps3
    go_wp2_with fail
    refine (wakes4_any _ HT.out h0).mono ?_
    rintro e w1 ⟨rfl, hb1⟩
    go_wp2_with fail
    refine (bellNew_bad n hn _).mono ?_
    rintro e w2 ⟨rfl, rfl⟩
    go_wp2
    go_ret
    exact ⟨rfl, hb1⟩

set_option maxHeartbeats 1000000 in
theorem bellActs_long (n : Nat) (hn : n ≤ 64) (a : Option Addr) (len cap : Nat) (hlen : 100 < len) (w : World) (hT : TabAt 0 Lib.deBruijn64tab w) (h0 : 0 < w.heap.size) :
    Calls Tryd.prog 3 #[.int .i64 n, .slice a len cap] w fun e w' => e = .returned (.bool true) ∧ Below w.heap.size w w' := by
  have HT := Kp.mk hT
  have n1 : ¬ ((n : Int) < 0) := by omega
  have n2 : ¬ ((64 : Int) < (n : Int)) := by omega
  clear hT
  go_enter Tryd.func3, Tryd.ntmps3
  go_wp2_with fail
  refine (wakes4_any _ HT.out h0).mono ?_
  rintro e w1 ⟨rfl, hb1⟩
  go_wp2_with fail
  refine (bellNew_any n hn _).mono ?_
  rintro e w2 ⟨B, rfl, hx, hb2, hB⟩
  go_wp2
  go_ret
  exact ⟨rfl, below_call hb1 hb2⟩

theorem bellActs_any' (v0 v1 : Value) (w : World) (hT : TabAt 0 Lib.deBruijn64tab w) (hz : 0 < w.heap.size) (h0 : RdV w (.int .i64) v0) (h1 : RdV w (.slice 2 (.pair 1 (.int .i64) (.pair 1 (.slice 1 (.int .i64)) .nil))) v1) : Calls Tryd.prog 3 #[v0, v1] w fun e w' => e = .returned (.bool true) ∧ Below w.heap.size w w' := by
  obtain ⟨n, rfl, wn⟩ := h0
  obtain ⟨a, len, cap, Y, V, TS, rfl, hc, _, hA, hV⟩ := actsAt_of h1
  by_cases hn : n < 0 ∨ 64 < n
  · exact bellActs_bad n hn _ w hT hz
  · obtain ⟨m, rfl⟩ := Int.eq_ofNat_of_zero_le (show 0 ≤ n by omega)
    by_cases hl : len ≤ 100
    · exact bellActs_core m (by omega) a len cap hl hc Y V TS w hT hz hA hV
    · exact bellActs_long m (by omega) a len cap (by omega) w hT hz
end Go.Proofs.YtimikgencnkcnabDoor

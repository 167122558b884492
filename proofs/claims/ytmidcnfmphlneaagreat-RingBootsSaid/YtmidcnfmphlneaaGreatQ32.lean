/- The law RingBoots. -/
import Derived.Test.YtmidcnfmphlneaaGreatQ31
namespace Go.Proofs.YtmidcnfmphlneaaGreat
open Go.RowKit
set_option linter.unusedSimpArgs false
set_option linter.unusedVariables false
set_option maxRecDepth 100000 in
set_option maxHeartbeats 8000000 in
theorem ringBoots_main (h0 h1 bt bu : Int) (q0 : 0 ≤ h0 ∧ h0 ≤ 255) (q1 : 0 ≤ h1 ∧ h1 ≤ 255) (qb : 0 ≤ bt ∧ bt < 4294967296) (qu : 0 ≤ bu ∧ bu < 4294967296) (a1 : Option Addr) (L c1 : Nat) (bs : List Bool) (hL : bs.length = L) (w : World) (hrow : RowAt w 1 (.slice a1 L c1) L (bs.map Value.bool)) :
    Calls Tryz.prog 6 #[.agg #[.int .u8 h0, .int .u8 h1], .agg #[.int .u32 bt, .int .u32 bu], .slice a1 L c1] w fun e w' => e = .returned (.bool true) ∧ Below w.heap.size w w' := by
  have HR := Kp.mk hrow
  have HLL := Kp.mk hL
  have hcap : L ≤ maxLen := by obtain ⟨_, _, e, q1, q2⟩ := hrow.shape; exact Nat.le_trans q1 q2
  unfold maxLen at hcap
  clear hrow hL
  obtain ⟨wd, e, dp, hwd4, he3, hdp, v2, u1, hsh⟩ := how_any h0 h1 q0 q1
  have v1 : IntKind.i64.wrap h0 = h0 := IntWalk.i64_in _ (by omega)
  have v3 : IntKind.i64.wrap (wd - 1) = wd - 1 := IntWalk.i64_in _ (by omega)
  have v4 : 1 + (wd - 1) = wd := by omega
  have v5 : IntKind.i64.wrap wd = wd := IntWalk.i64_in _ (by omega)
  have u2 : IntKind.u8.wrap e = e := IntWalk.u8_in _ (by omega)
  have he0 : 0 ≤ e := he3.1
  have he64 : e ≤ 64 := by omega
  have hsh1 : IntKind.i64.wrap dp = dp := IntWalk.i64_in _ (by omega)
  have hi : In12 wd dp bt := ⟨by omega, hdp, qb⟩
  have hdb := dp_bound hi
  obtain ⟨nn, hnn⟩ : ∃ nn : Nat, (nn : Int) = 3 + dp * (1 + wd) := ⟨(3 + dp * (1 + wd)).toNat, by omega⟩
  have HNN := Kp.mk hnn
  clear hnn
  go_enter Tryz.func6, Tryz.ntmps6
  have HB0 : Kp (Below w.heap.size w w) := ⟨Below.refl _ _⟩
  have hi2 : In12 wd dp bu := ⟨by omega, hdp, qu⟩
  go_wp2_with fail
  refine (wakes12_any _).mono ?_
  rintro e w1 ⟨rfl, hb⟩
  have HH1 : Kp (w1.heap[w.heap.size]? = some (.cells #[.int .u8 h0, .int .u8 h1] 70 (0, 0))) := ⟨blk_below (blk_al (blk_new _ _) _) hb⟩
  have HU1 : Kp (w1.heap[w.heap.size + 1]? = some (.cells #[.int .u32 bt, .int .u32 bu] 79 (0, 0))) := ⟨blk_below (blk_at (by simp) _) hb⟩
  have HB1 : Kp (Below w.heap.size w w1) := ⟨below_call (below_al (below_al HB0.out _) _) hb⟩
  have q20 := cbk HH1.out 0 (.int .u8 h0) rfl
  have q21 := cbk HH1.out 1 (.int .u8 h1) rfl
  have q22 := cbk HU1.out 0 (.int .u32 bt) rfl
  have q23 := cbk HU1.out 1 (.int .u32 bu) rfl
  have ql := blk_lt HH1.out
  have ql2 := blk_lt HU1.out
  clear HB0 hb
  by_cases hl1 : 400 < L
  · have n1 : (400 : Int) < (L : Int) := by omega
    go_wp2
    go_ret
    exact ⟨rfl, HB1.out⟩
  have n1 : ¬ (400 : Int) < (L : Int) := by omega
  go_wp2_with fail
  refine (two12_any wd dp bt _ (two12_ok wd dp bt hi)).mono ?_
  rintro e w2 ⟨cs, rfl, hC, hb⟩
  have HB2 : Kp (Below w.heap.size w w2) := ⟨below_call HB1.out hb⟩
  have HH2 : Kp (w2.heap[w.heap.size]? = some (.cells #[.int .u8 h0, .int .u8 h1] 70 (0, 0))) := ⟨blk_below HH1.out hb⟩
  have HU2 : Kp (w2.heap[w.heap.size + 1]? = some (.cells #[.int .u32 bt, .int .u32 bu] 79 (0, 0))) := ⟨blk_below HU1.out hb⟩
  obtain ⟨kc, rfl, hKC⟩ := cf12_of hC hi
  have HK := Kp.mk hKC
  clear HB1 HH1 HU1 q20 q21 q22 q23 ql ql2 hb hC hKC
  go_wp2_with fail
  refine (begin12_any nn HNN.out _ HK.out).mono ?_
  rintro e w3 ⟨P1, B1, D1, BB1, rfl, hP, hBB1⟩
  have hb := hP.core.low
  have HH3 : Kp (w3.heap[w.heap.size]? = some (.cells #[.int .u8 h0, .int .u8 h1] 70 (0, 0))) := ⟨blk_below HH2.out hb⟩
  have HU3 : Kp (w3.heap[w.heap.size + 1]? = some (.cells #[.int .u32 bt, .int .u32 bu] 79 (0, 0))) := ⟨blk_below HU2.out hb⟩
  have HR3 : Kp (Run w2 w3 P1 B1 D1 BB1 kc wd dp bt (rs0 wd dp bt nn) 0 0 (fun _ => False) (fun _ => False) 0 0 (.pointer none) (.pointer none) [false, false] 0) := ⟨⟨hP, rs0_jr hi nn HNN.out, Nat.zero_le _⟩⟩
  have lp1 := blk_lt hP.blk
  have lp2 := blk_lt hP.core.mem.head
  have lp3 := blk_lt hP.core.mem.words
  have lp4 := hP.core.bell.lt
  have l23 : w2.heap.size ≤ w3.heap.size := hb.size
  have q20 := cbk HH3.out 0 (.int .u8 h0) rfl
  have q21 := cbk HH3.out 1 (.int .u8 h1) rfl
  have q22 := cbk HU3.out 0 (.int .u32 bt) rfl
  have q23 := cbk HU3.out 1 (.int .u32 bu) rfl
  have ql := blk_lt HH3.out
  have ql2 := blk_lt HU3.out
  clear hP hb HH2 HU2
  go_wp2_with fail
  refine (two12_keep wd dp bu _ (two12_ok wd dp bu hi2)).mono ?_
  rintro e w4 ⟨cs, rfl, hC, hb, hCK⟩
  have HR4 : Kp (Run w2 w4 P1 B1 D1 BB1 kc wd dp bt (rs0 wd dp bt nn) 0 0 (fun _ => False) (fun _ => False) 0 0 (.pointer none) (.pointer none) [false, false] 0) := ⟨HR3.out.only (X := fun _ => False) (Only.of_below hb) (fun _ h => h.elim) 0 (Nat.le_refl _)⟩
  obtain ⟨kd, rfl, hKC⟩ := cf12_of hC hi2
  have HKD := Kp.mk hKC
  have HCK := Kp.mk hCK
  have l34 : w3.heap.size ≤ w4.heap.size := hb.size
  clear HR3 HH3 HU3 q20 q21 q22 q23 ql ql2 hb hC hKC hCK
  go_wp2_with fail
  refine (begin12_any nn HNN.out _ HKD.out).mono ?_
  rintro e w5 ⟨P2, B2, D2, BB2, rfl, hP, hBB2⟩
  have hb := hP.core.low
  have HA0 : Kp (Run w2 w5 P1 B1 D1 BB1 kc wd dp bt (rs0 wd dp bt nn) 0 0 (fun _ => False) (fun _ => False) 0 0 (.pointer none) (.pointer none) [false, false] 0) := ⟨HR4.out.only (X := fun _ => False) (Only.of_below hb) (fun _ h => h.elim) 0 (Nat.le_refl _)⟩
  have HC0 : Kp (Run w4 w5 P2 B2 D2 BB2 kd wd dp bu (rs0 wd dp bu nn) 0 0 (fun _ => False) (fun _ => False) 0 0 (.pointer none) (.pointer none) [false, false] 0) := ⟨⟨hP, rs0_jr hi2 nn HNN.out, Nat.zero_le _⟩⟩
  have HCKR : Kp (∀ (k : Nat) (o : Obj), w3.heap.size ≤ k → k < w4.heap.size → w4.heap[k]? = some o → w5.heap[k]? = some o) := ⟨fun k o _ _ ho => blk_below ho hb⟩
  have hP2 := hP.pl
  obtain ⟨hB2, hD2, _⟩ := hP.core.ge
  have HROW : Kp (RowAt w2 1 (.slice a1 L c1) L (bs.map Value.bool)) := ⟨HR.out.below HB2.out⟩
  clear hP hb HR4
  go_wp2_with fail
  go_loopw [50] (fun i wr => ∃ (k : Nat) (z1 : Rs) (OS1 OR1 : Nat) (S1 R1 : Nat → Prop) (st1 ow1 : Nat) (sv1 rv1 : Value) (x1 : List Bool) (wq : World) (z2 : Rs) (OS2 OR2 : Nat) (S2 R2 : Nat → Prop) (st2 ow2 : Nat) (sv2 rv2 : Value) (x2 : List Bool), k ≤ L ∧ i = .int .i64 k ∧ Kp (Run w2 wr P1 B1 D1 BB1 kc wd dp bt z1 OS1 OR1 S1 R1 st1 ow1 sv1 rv1 x1 k) ∧ Kp (Run wq wr P2 B2 D2 BB2 kd wd dp bu z2 OS2 OR2 S2 R2 st2 ow2 sv2 rv2 x2 k) ∧ Kp (wq.heap.size = w4.heap.size) ∧ Kp (∀ (k : Nat) (o : Obj), w3.heap.size ≤ k → k < w4.heap.size → w4.heap[k]? = some o → wr.heap[k]? = some o) ∧ Kp (∀ k, S1 k ∨ R1 k → (k < w3.heap.size ∨ w4.heap.size ≤ k) ∧ ¬ S2 k ∧ ¬ R2 k ∧ k ≠ P2 ∧ k ≠ B2 ∧ k ≠ D2 ∧ k ≠ BB2) ∧ Kp (absR z1 = absR z2) ∧ Kp (Cf12Ok wq kd wd dp bu)) (fun i wr => L - (intOf i).toNat)
  case atStart => exact ⟨0, _, _, _, _, _, _, _, _, _, _, w4, _, _, _, _, _, _, _, _, _, _, Nat.zero_le _, rfl, HA0, HC0, ⟨rfl⟩, HCKR, ⟨fun k h => (by rcases h with h | h <;> exact h.elim)⟩, ⟨rfl⟩, HKD⟩
  case round =>
    obtain ⟨k, z1, OS1, OR1, S1, R1, st1, ow1, sv1, rv1, x1, wq, z2, OS2, OR2, S2, R2, st2, ow2, sv2, rv2, x2, hk, rfl, HR1, HR2, HQS, HCR, HSEP, HAB, HKQ⟩ := hrel
    clear HA0 HC0 HCKR HKD
    by_cases hlt : k < L
    · obtain ⟨gb, ob, hab, hgb, hcb⟩ := HROW.out.at (by omega)
      subst hab
      have hlow := HR1.out.pl.core.low
      have lwr := hlow.size
      have ck : wr.cell? ⟨gb, ob + k, none⟩ = some (.bool (bs.getD k false)) := (hlow.cell (p := ⟨gb, ob + k, none⟩) hgb).trans ((hcb k (by omega)).trans (by have := HLL.out; rw [List.getElem?_map, List.getElem?_eq_getElem (by omega), List.getD_eq_getElem?_getD, List.getElem?_eq_getElem (by omega)]; rfl))
      have lgb : gb < wr.heap.size := by omega
      have hz : (0 : Int) ≤ (k : Int) := by omega
      clear hcb hlow
      cases hbk : bs.getD k false with
      | true =>
        rw [hbk] at ck
        have HC1 := Kp.mk (HR1.out.send HK.out (by omega))
        have hw1 := HR1.out.pl.core.own HR1.out.pl.blk HR1.out.pl.pl
        have hw2 := HR2.out.pl.core.own HR2.out.pl.blk HR2.out.pl.pl
        have g1 := HR1.out.pl.core.ge
        have g2 := HR2.out.pl.core.ge
        have gp1 := HR1.out.pl.pl
        have gp2 := HR2.out.pl.pl
        rw [HQS.out] at g2 gp2
        have HW1 := Kp.mk hw1
        have HW2 := Kp.mk hw2
        -- what the first play changes is none of the second one's
        have hX1 : Kp (∀ j, (fun k => S1 k ∨ k = P1 ∨ k = D1 ∨ k = BB1) j → (j < w3.heap.size ∨ w4.heap.size ≤ j) ∧ ¬ S2 j ∧ ¬ R2 j ∧ j ≠ P2 ∧ j ≠ B2 ∧ j ≠ D2 ∧ j ≠ BB2) := ⟨by
          have h5 := HR2.out.pl.core.sS
          have h6 := HR2.out.pl.core.sR
          rw [HQS.out] at h5 h6
          rintro j (hj | rfl | rfl | rfl)
          · exact HSEP.out j (.inl hj)
          · exact ⟨.inl (by omega), fun h => (by have := (h5 _ h).1; omega), fun h => (by have := (h6 _ h).1; omega), by omega, by omega, by omega, by omega⟩
          · exact ⟨.inl (by omega), fun h => (by have := (h5 _ h).1; omega), fun h => (by have := (h6 _ h).1; omega), by omega, by omega, by omega, by omega⟩
          · exact ⟨.inl (by omega), fun h => (by have := (h5 _ h).1; omega), fun h => (by have := (h6 _ h).1; omega), by omega, by omega, by omega, by omega⟩⟩
        have HQ1 := Kp.mk (And.intro hw1 hw2)
        have lwq : wr.heap.size ≤ wr.heap.size := Nat.le_refl _
        clear hw1 hw2
        go_wp2_with fail
        refine HC1.out.mono ?_
        rintro e w6 ⟨rfl, OS1', st1', S1', sv1', x1', hr1, ho1, hs1⟩
        have HR1' := Kp.mk hr1
        have HO1 := Kp.mk ho1
        have HS1' := Kp.mk hs1
        have l6 : wr.heap.size ≤ w6.heap.size := ho1.size
        -- the second play, as it stands behind that
        have HR2b : Kp (Run (cutW w6 wq.heap.size) w6 P2 B2 D2 BB2 kd wd dp bu z2 OS2 OR2 S2 R2 st2 ow2 sv2 rv2 x2 k) := ⟨HR2.out.rebase ho1 (fun j hj => have h1 := hX1.out j hj; ⟨h1.2.1, h1.2.2.1, h1.2.2.2⟩) k (Nat.le_refl _)⟩
        have HQS2 : Kp ((cutW w6 wq.heap.size).heap.size = w4.heap.size) := ⟨(cutW_size _ _ (Nat.le_trans HR2.out.pl.core.low.size l6)).trans HQS.out⟩
        have HCR2 : Kp (∀ (k : Nat) (o : Obj), w3.heap.size ≤ k → k < w4.heap.size → w4.heap[k]? = some o → w6.heap[k]? = some o) := ⟨fun j o h1 h2 ho => ho1.blk (HCR.out j o h1 h2 ho) fun hx => by have := (hX1.out j hx).1; omega⟩
        have HKQ2 : Kp (Cf12Ok (cutW w6 wq.heap.size) kd wd dp bu) := ⟨cf12_kc (HCK.out _ fun j o h1 ho => by
          have hj4 : j < w4.heap.size := blk_lt ho
          rw [cutW_blk w6 _ j (by rw [HQS.out]; exact hj4)]
          exact HCR2.out j o h1 hj4 ho) hi2⟩
        have hsep1 : Kp (∀ j, S1' j ∨ R1 j → (j < w3.heap.size ∨ w4.heap.size ≤ j) ∧ ¬ S2 j ∧ ¬ R2 j ∧ j ≠ P2 ∧ j ≠ B2 ∧ j ≠ D2 ∧ j ≠ BB2) := ⟨by
          have h5 := HR2.out.pl.core.sS
          have h6 := HR2.out.pl.core.sR
          have l1 := blk_lt HR2.out.pl.blk
          have l2 := blk_lt HR2.out.pl.core.mem.head
          have l3 := blk_lt HR2.out.pl.core.mem.words
          have l4 := HR2.out.pl.core.bell.lt
          have l5 := HR2.out.pl.core.low.size
          rw [HQS.out] at l5
          have fresh : ∀ j, wr.heap.size ≤ j → (j < w3.heap.size ∨ w4.heap.size ≤ j) ∧ ¬ S2 j ∧ ¬ R2 j ∧ j ≠ P2 ∧ j ≠ B2 ∧ j ≠ D2 ∧ j ≠ BB2 := fun j hj => ⟨.inr (by omega), fun h => (by have := (h5 _ h).2.1; omega), fun h => (by have := (h6 _ h).2.1; omega), by omega, by omega, by omega, by omega⟩
          rintro j (hj | hj)
          · rcases hs1 j hj with h | h; exact HSEP.out j (.inl h); exact fresh j h
          · exact HSEP.out j (.inr hj)⟩
        have HAB2 : Kp (absR (nxS (pl12 wd dp) bt z1) = absR (nxS (pl12 wd dp) bu z2)) := ⟨by rw [absR_S HR1.out.jr, absR_S HR2.out.jr, HAB.out]⟩
        have HC2 := Kp.mk (HR2b.out.send HKQ2.out (by omega))
        clear hr1 ho1 hs1 HC1 HR1 HR2 HSEP HAB HKQ HCR hX1 HO1 HS1' ck lgb hbk HQ1
        go_wp2_with fail
        refine HC2.out.mono ?_
        rintro e w7 ⟨rfl, OS2', st2', S2', sv2', x2', hr2, ho2, hs2⟩
        have hX2 : ∀ j, (fun k => S2 k ∨ k = P2 ∨ k = D2 ∨ k = BB2) j → w4.heap.size ≤ j ∧ (j < w6.heap.size ∧ ¬ S1' j ∧ ¬ R1 j) := by
          have h5 := HR2b.out.pl.core.sS
          have h6 := HR2b.out.pl.core.sR
          have l1 := blk_lt HR2b.out.pl.blk
          have l3 := blk_lt HR2b.out.pl.core.mem.words
          have l4 := HR2b.out.pl.core.bell.lt
          rw [HQS2.out] at h5 h6
          rintro j (hj | rfl | rfl | rfl)
          · exact ⟨(h5 j hj).1, (h5 j hj).2.1, fun h => (hsep1.out j (.inl h)).2.1 hj, fun h => (hsep1.out j (.inr h)).2.1 hj⟩
          · exact ⟨by omega, l1, fun h => (hsep1.out _ (.inl h)).2.2.2.1 rfl, fun h => (hsep1.out _ (.inr h)).2.2.2.1 rfl⟩
          · exact ⟨by omega, l3, fun h => (hsep1.out _ (.inl h)).2.2.2.2.2.1 rfl, fun h => (hsep1.out _ (.inr h)).2.2.2.2.2.1 rfl⟩
          · exact ⟨by omega, l4, fun h => (hsep1.out _ (.inl h)).2.2.2.2.2.2 rfl, fun h => (hsep1.out _ (.inr h)).2.2.2.2.2.2 rfl⟩
        have HA7 : Kp (Run w2 w7 P1 B1 D1 BB1 kc wd dp bt (nxS (pl12 wd dp) bt z1) OS1' OR1 S1' R1 st1' ow1 sv1' rv1 x1' (k + 1)) := ⟨HR1'.out.only ho2 (fun j hj => have h1 := hX2 j hj; ⟨by omega, h1.2.2.1, h1.2.2.2, by omega, by omega, by omega, by omega⟩) _ (Nat.le_refl _)⟩
        have HB7 := Kp.mk hr2
        have HCR7 : Kp (∀ (k : Nat) (o : Obj), w3.heap.size ≤ k → k < w4.heap.size → w4.heap[k]? = some o → w7.heap[k]? = some o) := ⟨fun j o h1 h2 ho => ho2.blk (HCR2.out j o h1 h2 ho) fun hx => by have := (hX2 j hx).1; omega⟩
        have hsep7 : Kp (∀ j, S1' j ∨ R1 j → (j < w3.heap.size ∨ w4.heap.size ≤ j) ∧ ¬ S2' j ∧ ¬ R2 j ∧ j ≠ P2 ∧ j ≠ B2 ∧ j ≠ D2 ∧ j ≠ BB2) := ⟨fun j hj => by
          have h1 := hsep1.out j hj
          have hjl : j < w6.heap.size := by
            rcases hj with h | h
            · exact (HR1'.out.pl.core.sS j h).2.1
            · exact (HR1'.out.pl.core.sR j h).2.1
          refine ⟨h1.1, fun h => ?_, h1.2.2.1, h1.2.2.2⟩
          rcases hs2 j h with h2 | h2
          · exact h1.2.1 h2
          · omega⟩
        clear hr2 ho2 hs2 HC2 HR1' HR2b HCR2 hsep1 hX2
        obtain ⟨y1, hy1⟩ : ∃ y, nxS (pl12 wd dp) bt z1 = y := ⟨_, rfl⟩
        obtain ⟨y2, hy2⟩ : ∃ y, nxS (pl12 wd dp) bu z2 = y := ⟨_, rfl⟩
        rw [hy1] at HA7
        rw [hy2] at HB7
        rw [hy1, hy2] at HAB2
        clear hy1 hy2
        have e_s : y1.sent = y2.sent := congrArg Ab.sent HAB2.out
        have e_g : y1.got = y2.got := congrArg Ab.got HAB2.out
        have e_n : y1.n = y2.n := congrArg Ab.n HAB2.out
        have e_so : y1.sOn = y2.sOn := congrArg Ab.sOn HAB2.out
        have e_ro : y1.rOn = y2.rOn := congrArg Ab.rOn HAB2.out
        have k18 : w7.cell? ⟨P1, 8, none⟩ = some sv1' := (cell_blk HA7.out.pl.blk 8).trans rfl
        have k19 : w7.cell? ⟨P1, 9, none⟩ = some rv1 := (cell_blk HA7.out.pl.blk 9).trans rfl
        have k112 := cbk HA7.out.pl.blk 12 (.int .i64 (y1.sent : Int)) rfl
        have k113 := cbk HA7.out.pl.blk 13 (.int .i64 (y1.got : Int)) rfl
        have k114 := cbk HA7.out.pl.blk 14 (.int .i64 (y1.n : Int)) rfl
        have kl1 := blk_lt HA7.out.pl.blk
        have ks1 := eq_nil12 HA7.out.pl.s0 (fun e => (HA7.out.pl.s1 e).1)
        have kr1 := eq_nil12 HA7.out.pl.r0 (fun e => (HA7.out.pl.r1 e).1)
        have ke1 := eg_nil12 HA7.out.pl.s0 (fun e => (HA7.out.pl.s1 e).1)
        have kf1 := eg_nil12 HA7.out.pl.r0 (fun e => (HA7.out.pl.r1 e).1)
        have k28 : w7.cell? ⟨P2, 8, none⟩ = some sv2' := (cell_blk HB7.out.pl.blk 8).trans rfl
        have k29 : w7.cell? ⟨P2, 9, none⟩ = some rv2 := (cell_blk HB7.out.pl.blk 9).trans rfl
        have k212 := cbk HB7.out.pl.blk 12 (.int .i64 (y2.sent : Int)) rfl
        have k213 := cbk HB7.out.pl.blk 13 (.int .i64 (y2.got : Int)) rfl
        have k214 := cbk HB7.out.pl.blk 14 (.int .i64 (y2.n : Int)) rfl
        have kl2 := blk_lt HB7.out.pl.blk
        have ks2 := eq_nil12 HB7.out.pl.s0 (fun e => (HB7.out.pl.s1 e).1)
        have kr2 := eq_nil12 HB7.out.pl.r0 (fun e => (HB7.out.pl.r1 e).1)
        have ke2 := eg_nil12 HB7.out.pl.s0 (fun e => (HB7.out.pl.s1 e).1)
        have kf2 := eg_nil12 HB7.out.pl.r0 (fun e => (HB7.out.pl.r1 e).1)
        rw [e_s] at k112
        rw [e_g] at k113
        rw [e_n] at k114
        rw [e_so] at ks1
        rw [e_ro] at kr1
        obtain ⟨b1, hb1⟩ : ∃ b : Bool, (!y2.sOn) = b := ⟨_, rfl⟩
        obtain ⟨b2, hb2⟩ : ∃ b : Bool, (!y2.rOn) = b := ⟨_, rfl⟩
        rw [hb1] at ks1 ks2
        rw [hb2] at kr1 kr2
        clear e_s e_g e_n e_so e_ro hb1 hb2
        go_wp2_with fail
        go_quiet (fail)
        go_wp2
        go_roundw
        case rel => exact ⟨k + 1, y1, OS1', OR1, S1', R1, st1', ow1, sv1', rv1, x1', (cutW w6 wq.heap.size), y2, OS2', OR2, S2', R2, st2', ow2, sv2', rv2, x2', by omega, by go_num, ⟨HA7.out.only (X := fun _ => False) (Only.of_below (below_drN (Below.refl _ _))) (fun _ h => h.elim) _ (Nat.le_refl _)⟩, ⟨HB7.out.only (X := fun _ => False) (Only.of_below (below_drN (Below.refl _ _))) (fun _ h => h.elim) _ (Nat.le_refl _)⟩, HQS2, HCR7, hsep7, HAB2, HKQ2⟩
        case measure => simp [intOf]; omega
      | false =>
        rw [hbk] at ck
        have HC1 := Kp.mk (HR1.out.recv HK.out (by omega))
        have hw1 := HR1.out.pl.core.own HR1.out.pl.blk HR1.out.pl.pl
        have hw2 := HR2.out.pl.core.own HR2.out.pl.blk HR2.out.pl.pl
        have g1 := HR1.out.pl.core.ge
        have g2 := HR2.out.pl.core.ge
        have gp1 := HR1.out.pl.pl
        have gp2 := HR2.out.pl.pl
        rw [HQS.out] at g2 gp2
        have HW1 := Kp.mk hw1
        have HW2 := Kp.mk hw2
        -- what the first play changes is none of the second one's
        have hX1 : Kp (∀ j, (fun k => R1 k ∨ k = P1 ∨ k = D1) j → (j < w3.heap.size ∨ w4.heap.size ≤ j) ∧ ¬ S2 j ∧ ¬ R2 j ∧ j ≠ P2 ∧ j ≠ B2 ∧ j ≠ D2 ∧ j ≠ BB2) := ⟨by
          have h5 := HR2.out.pl.core.sS
          have h6 := HR2.out.pl.core.sR
          rw [HQS.out] at h5 h6
          rintro j (hj | rfl | rfl)
          · exact HSEP.out j (.inr hj)
          · exact ⟨.inl (by omega), fun h => (by have := (h5 _ h).1; omega), fun h => (by have := (h6 _ h).1; omega), by omega, by omega, by omega, by omega⟩
          · exact ⟨.inl (by omega), fun h => (by have := (h5 _ h).1; omega), fun h => (by have := (h6 _ h).1; omega), by omega, by omega, by omega, by omega⟩⟩
        have HQ1 := Kp.mk (And.intro hw1 hw2)
        have lwq : wr.heap.size ≤ wr.heap.size := Nat.le_refl _
        clear hw1 hw2
        go_wp2_with fail
        refine HC1.out.mono ?_
        rintro e w6 ⟨rfl, OR1', ow1', R1', rv1', hr1, ho1, hs1⟩
        have HR1' := Kp.mk hr1
        have HO1 := Kp.mk ho1
        have HS1' := Kp.mk hs1
        have l6 : wr.heap.size ≤ w6.heap.size := ho1.size
        -- the second play, as it stands behind that
        have HR2b : Kp (Run (cutW w6 wq.heap.size) w6 P2 B2 D2 BB2 kd wd dp bu z2 OS2 OR2 S2 R2 st2 ow2 sv2 rv2 x2 k) := ⟨HR2.out.rebase ho1 (fun j hj => have h1 := hX1.out j hj; ⟨h1.2.1, h1.2.2.1, h1.2.2.2⟩) k (Nat.le_refl _)⟩
        have HQS2 : Kp ((cutW w6 wq.heap.size).heap.size = w4.heap.size) := ⟨(cutW_size _ _ (Nat.le_trans HR2.out.pl.core.low.size l6)).trans HQS.out⟩
        have HCR2 : Kp (∀ (k : Nat) (o : Obj), w3.heap.size ≤ k → k < w4.heap.size → w4.heap[k]? = some o → w6.heap[k]? = some o) := ⟨fun j o h1 h2 ho => ho1.blk (HCR.out j o h1 h2 ho) fun hx => by have := (hX1.out j hx).1; omega⟩
        have HKQ2 : Kp (Cf12Ok (cutW w6 wq.heap.size) kd wd dp bu) := ⟨cf12_kc (HCK.out _ fun j o h1 ho => by
          have hj4 : j < w4.heap.size := blk_lt ho
          rw [cutW_blk w6 _ j (by rw [HQS.out]; exact hj4)]
          exact HCR2.out j o h1 hj4 ho) hi2⟩
        have hsep1 : Kp (∀ j, S1 j ∨ R1' j → (j < w3.heap.size ∨ w4.heap.size ≤ j) ∧ ¬ S2 j ∧ ¬ R2 j ∧ j ≠ P2 ∧ j ≠ B2 ∧ j ≠ D2 ∧ j ≠ BB2) := ⟨by
          have h5 := HR2.out.pl.core.sS
          have h6 := HR2.out.pl.core.sR
          have l1 := blk_lt HR2.out.pl.blk
          have l2 := blk_lt HR2.out.pl.core.mem.head
          have l3 := blk_lt HR2.out.pl.core.mem.words
          have l4 := HR2.out.pl.core.bell.lt
          have l5 := HR2.out.pl.core.low.size
          rw [HQS.out] at l5
          have fresh : ∀ j, wr.heap.size ≤ j → (j < w3.heap.size ∨ w4.heap.size ≤ j) ∧ ¬ S2 j ∧ ¬ R2 j ∧ j ≠ P2 ∧ j ≠ B2 ∧ j ≠ D2 ∧ j ≠ BB2 := fun j hj => ⟨.inr (by omega), fun h => (by have := (h5 _ h).2.1; omega), fun h => (by have := (h6 _ h).2.1; omega), by omega, by omega, by omega, by omega⟩
          rintro j (hj | hj)
          · exact HSEP.out j (.inl hj)
          · rcases hs1 j hj with h | h; exact HSEP.out j (.inr h); exact fresh j h⟩
        have HAB2 : Kp (absR (nxQ (pl12 wd dp) bt z1) = absR (nxQ (pl12 wd dp) bu z2)) := ⟨by rw [absR_Q HR1.out.jr, absR_Q HR2.out.jr, HAB.out]⟩
        have HC2 := Kp.mk (HR2b.out.recv HKQ2.out (by omega))
        clear hr1 ho1 hs1 HC1 HR1 HR2 HSEP HAB HKQ HCR hX1 HO1 HS1' ck lgb hbk HQ1
        go_wp2_with fail
        refine HC2.out.mono ?_
        rintro e w7 ⟨rfl, OR2', ow2', R2', rv2', hr2, ho2, hs2⟩
        have hX2 : ∀ j, (fun k => R2 k ∨ k = P2 ∨ k = D2) j → w4.heap.size ≤ j ∧ (j < w6.heap.size ∧ ¬ S1 j ∧ ¬ R1' j) := by
          have h5 := HR2b.out.pl.core.sS
          have h6 := HR2b.out.pl.core.sR
          have l1 := blk_lt HR2b.out.pl.blk
          have l3 := blk_lt HR2b.out.pl.core.mem.words
          have l4 := HR2b.out.pl.core.bell.lt
          rw [HQS2.out] at h5 h6
          rintro j (hj | rfl | rfl)
          · exact ⟨(h6 j hj).1, (h6 j hj).2.1, fun h => (hsep1.out j (.inl h)).2.2.1 hj, fun h => (hsep1.out j (.inr h)).2.2.1 hj⟩
          · exact ⟨by omega, l1, fun h => (hsep1.out _ (.inl h)).2.2.2.1 rfl, fun h => (hsep1.out _ (.inr h)).2.2.2.1 rfl⟩
          · exact ⟨by omega, l3, fun h => (hsep1.out _ (.inl h)).2.2.2.2.2.1 rfl, fun h => (hsep1.out _ (.inr h)).2.2.2.2.2.1 rfl⟩
        have HA7 : Kp (Run w2 w7 P1 B1 D1 BB1 kc wd dp bt (nxQ (pl12 wd dp) bt z1) OS1 OR1' S1 R1' st1 ow1' sv1 rv1' x1 (k + 1)) := ⟨HR1'.out.only ho2 (fun j hj => have h1 := hX2 j hj; ⟨by omega, h1.2.2.1, h1.2.2.2, by omega, by omega, by omega, by omega⟩) _ (Nat.le_refl _)⟩
        have HB7 := Kp.mk hr2
        have HCR7 : Kp (∀ (k : Nat) (o : Obj), w3.heap.size ≤ k → k < w4.heap.size → w4.heap[k]? = some o → w7.heap[k]? = some o) := ⟨fun j o h1 h2 ho => ho2.blk (HCR2.out j o h1 h2 ho) fun hx => by have := (hX2 j hx).1; omega⟩
        have hsep7 : Kp (∀ j, S1 j ∨ R1' j → (j < w3.heap.size ∨ w4.heap.size ≤ j) ∧ ¬ S2 j ∧ ¬ R2' j ∧ j ≠ P2 ∧ j ≠ B2 ∧ j ≠ D2 ∧ j ≠ BB2) := ⟨fun j hj => by
          have h1 := hsep1.out j hj
          have hjl : j < w6.heap.size := by
            rcases hj with h | h
            · exact (HR1'.out.pl.core.sS j h).2.1
            · exact (HR1'.out.pl.core.sR j h).2.1
          refine ⟨h1.1, h1.2.1, fun h => ?_, h1.2.2.2⟩
          rcases hs2 j h with h2 | h2
          · exact h1.2.2.1 h2
          · omega⟩
        clear hr2 ho2 hs2 HC2 HR1' HR2b HCR2 hsep1 hX2
        obtain ⟨y1, hy1⟩ : ∃ y, nxQ (pl12 wd dp) bt z1 = y := ⟨_, rfl⟩
        obtain ⟨y2, hy2⟩ : ∃ y, nxQ (pl12 wd dp) bu z2 = y := ⟨_, rfl⟩
        rw [hy1] at HA7
        rw [hy2] at HB7
        rw [hy1, hy2] at HAB2
        clear hy1 hy2
        have e_s : y1.sent = y2.sent := congrArg Ab.sent HAB2.out
        have e_g : y1.got = y2.got := congrArg Ab.got HAB2.out
        have e_n : y1.n = y2.n := congrArg Ab.n HAB2.out
        have e_so : y1.sOn = y2.sOn := congrArg Ab.sOn HAB2.out
        have e_ro : y1.rOn = y2.rOn := congrArg Ab.rOn HAB2.out
        have k18 : w7.cell? ⟨P1, 8, none⟩ = some sv1 := (cell_blk HA7.out.pl.blk 8).trans rfl
        have k19 : w7.cell? ⟨P1, 9, none⟩ = some rv1' := (cell_blk HA7.out.pl.blk 9).trans rfl
        have k112 := cbk HA7.out.pl.blk 12 (.int .i64 (y1.sent : Int)) rfl
        have k113 := cbk HA7.out.pl.blk 13 (.int .i64 (y1.got : Int)) rfl
        have k114 := cbk HA7.out.pl.blk 14 (.int .i64 (y1.n : Int)) rfl
        have kl1 := blk_lt HA7.out.pl.blk
        have ks1 := eq_nil12 HA7.out.pl.s0 (fun e => (HA7.out.pl.s1 e).1)
        have kr1 := eq_nil12 HA7.out.pl.r0 (fun e => (HA7.out.pl.r1 e).1)
        have ke1 := eg_nil12 HA7.out.pl.s0 (fun e => (HA7.out.pl.s1 e).1)
        have kf1 := eg_nil12 HA7.out.pl.r0 (fun e => (HA7.out.pl.r1 e).1)
        have k28 : w7.cell? ⟨P2, 8, none⟩ = some sv2 := (cell_blk HB7.out.pl.blk 8).trans rfl
        have k29 : w7.cell? ⟨P2, 9, none⟩ = some rv2' := (cell_blk HB7.out.pl.blk 9).trans rfl
        have k212 := cbk HB7.out.pl.blk 12 (.int .i64 (y2.sent : Int)) rfl
        have k213 := cbk HB7.out.pl.blk 13 (.int .i64 (y2.got : Int)) rfl
        have k214 := cbk HB7.out.pl.blk 14 (.int .i64 (y2.n : Int)) rfl
        have kl2 := blk_lt HB7.out.pl.blk
        have ks2 := eq_nil12 HB7.out.pl.s0 (fun e => (HB7.out.pl.s1 e).1)
        have kr2 := eq_nil12 HB7.out.pl.r0 (fun e => (HB7.out.pl.r1 e).1)
        have ke2 := eg_nil12 HB7.out.pl.s0 (fun e => (HB7.out.pl.s1 e).1)
        have kf2 := eg_nil12 HB7.out.pl.r0 (fun e => (HB7.out.pl.r1 e).1)
        rw [e_s] at k112
        rw [e_g] at k113
        rw [e_n] at k114
        rw [e_so] at ks1
        rw [e_ro] at kr1
        obtain ⟨b1, hb1⟩ : ∃ b : Bool, (!y2.sOn) = b := ⟨_, rfl⟩
        obtain ⟨b2, hb2⟩ : ∃ b : Bool, (!y2.rOn) = b := ⟨_, rfl⟩
        rw [hb1] at ks1 ks2
        rw [hb2] at kr1 kr2
        clear e_s e_g e_n e_so e_ro hb1 hb2
        go_wp2_with fail
        go_quiet (fail)
        go_wp2
        go_roundw
        case rel => exact ⟨k + 1, y1, OS1, OR1', S1, R1', st1, ow1', sv1, rv1', x1, (cutW w6 wq.heap.size), y2, OS2, OR2', S2, R2', st2, ow2', sv2, rv2', x2, by omega, by go_num, ⟨HA7.out.only (X := fun _ => False) (Only.of_below (below_drN (Below.refl _ _))) (fun _ h => h.elim) _ (Nat.le_refl _)⟩, ⟨HB7.out.only (X := fun _ => False) (Only.of_below (below_drN (Below.refl _ _))) (fun _ h => h.elim) _ (Nat.le_refl _)⟩, HQS2, HCR7, hsep7, HAB2, HKQ2⟩
        case measure => simp [intOf]; omega
    · obtain rfl : k = L := by omega
      have HLO := Kp.mk HR1.out.pl.core.low
      clear HR1 HR2
      go_wp2
      go_ret
      exact ⟨rfl, HB2.out.trans (HLO.out.mono HB2.out.size)⟩
theorem ringBoots_any (v0 v1 v2 : Value) (W : World) (o0 : RdV W (.pair 1 (.int .u8) (.pair 1 (.int .u8) .nil)) v0) (o1 : RdV W (.pair 1 (.int .u32) (.pair 1 (.int .u32) .nil)) v1) (o2 : RdV W (.slice 1 .bool) v2) : Calls Tryz.prog 6 #[v0, v1, v2] W fun e W' => e = .returned (.bool true) ∧ Below W.heap.size W W' := by
  obtain ⟨h0, h1, rfl, q0, q1⟩ := how_of o0
  obtain ⟨bt, bu, rfl, qb, qu⟩ := boots_of o1
  obtain ⟨a, c, l, rfl, hr⟩ := bools12_of o2
  exact ringBoots_main h0 h1 bt bu q0 q1 qb qu a l.length c l rfl W hr
end Go.Proofs.YtmidcnfmphlneaaGreat
